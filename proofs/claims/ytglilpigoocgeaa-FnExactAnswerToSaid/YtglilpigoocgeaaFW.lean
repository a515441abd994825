/-
  Configurations and worlds.
-/
import Derived.Test.YtglilpigoocgeaaFD
import Derived.Test.YtglilpigoocgeaaN
import Derived.Test.YtglilpigoocgeaaFA
import Derived.Test.YtglilpigoocgeaaFB
import Derived.Test.YtglilpigoocgeaaVE
namespace Go.Proofs.Ytglilpigoocgeaa.V
open Go
set_option linter.unusedVariables false
set_option linter.unusedSimpArgs false
def n_spec_ConfOkL1 (a0 : Conf) : Nat → Nat → Bool
  | 0, _ => default
  | n + 1, i => cond (decide (((i : Int)) < (((a0.Roots).length : Int)))) (atL (a0.Roots) (i) (fun x1 => cond (!(n_spec_l1In x1 0 2147483647)) (false) (n_spec_ConfOkL1 a0 n (i + 1)))) (cond (n_spec_l1In a0.Quota 1 200) (cond (n_spec_l1In a0.Depth 1 6) (cond (n_spec_l1In a0.Chain 0 6) (cond (n_spec_l1In a0.Glue 0 4) (cond (n_spec_l1In a0.Tries 1 4) (cond (n_spec_l1In a0.Addrs 1 4) (cond (n_spec_l1In a0.Cap 1 60) (n_spec_l1In (((a0.Roots).length : Int)) 1 4) (false)) (false)) (false)) (false)) (false)) (false)) (false))
def n_spec_ConfOk (a0 : Conf) : Bool := n_spec_ConfOkL1 a0 ((a0.Roots).length + 1) 0
set_option maxHeartbeats 4000000 in
set_option maxRecDepth 20000 in
theorem tr_n_spec_ConfOk (a0 : Conf) (h0 : Conf.Fit a0) : Tr Try.prog 28 [.ro ⟨true, [dI (a0.Quota), dI (a0.Depth), dI (a0.Chain), dI (a0.Glue), dI (a0.Tries), dI (a0.Addrs), dI (a0.Cap), .sl 1 (a0.Roots.map encI)]⟩] [⟨false, [dB ((n_spec_ConfOk a0))]⟩] := by
  obtain ⟨r, hr⟩ : ∃ r, n_spec_ConfOk a0 = r := ⟨_, rfl⟩
  rw [hr]
  rw [n_spec_ConfOk] at hr
  refine tr_go tabOk Try.func28 rfl rfl rfl rfl rfl (ov := [(0, .t ⟨true, [.d (dI (a0.Quota)), .d (dI (a0.Depth)), .d (dI (a0.Chain)), .d (dI (a0.Glue)), .d (dI (a0.Tries)), .d (dI (a0.Addrs)), .d (dI (a0.Cap)), .d (.sl 1 (a0.Roots.map encI))]⟩)]) (hv := []) rfl rfl ?_
  refine v_seq ?_
  refine v_reg ?_
  refine sr 0 (.t ⟨false, [.vp 0 0]⟩) (.var [.d (dI (a0.Quota)), .d (dI (a0.Depth)), .d (dI (a0.Chain)), .d (dI (a0.Glue)), .d (dI (a0.Tries)), .d (dI (a0.Addrs)), .d (dI (a0.Cap)), .d (.sl 1 (a0.Roots.map encI))]) (zbx rfl (e rfl rfl) rfl rfl rfl) rfl rfl ?_
  refine sy _ (zas rfl (ec rfl)) rfl rfl ?_
  refine s_end ?_
  refine v_seq ?_
  refine v_seq ?_
  refine v_reg ?_
  refine sy _ (zas rfl (ec rfl)) rfl rfl ?_
  refine s_end ?_
  refine v_block ?_
  refine v_lp (fun (q : Nat × Nat) => [(1, .t ⟨false, [.vp 0 0]⟩), (3, .t ⟨false, [.d (dI (q.2 : Int))]⟩)]) (fun q => [(0, .var [.d (dI (a0.Quota)), .d (dI (a0.Depth)), .d (dI (a0.Chain)), .d (dI (a0.Glue)), .d (dI (a0.Tries)), .d (dI (a0.Addrs)), .d (dI (a0.Cap)), .d (.sl 1 (a0.Roots.map encI))])]) (fun q => n_spec_ConfOkL1 a0 q.1 q.2 = r ∧ q.2 ≤ (a0.Roots).length ∧ q.2 + q.1 = (a0.Roots).length + 1) (fun q => q.1) ((a0.Roots).length + 1, (0 : Nat)) ⟨hr, by (try dsimp only); (try simp only [List.length_nil, List.length_replicate]); first | done | omega, by (try dsimp only); (try simp only [List.length_nil, List.length_replicate]); first | done | omega⟩ ⟨rfl, rfl, trivial⟩ ⟨rfl, trivial⟩ rfl (fun q hq => ?_)
  obtain ⟨n, i⟩ := q
  obtain ⟨hr, hi1x0, hi1x1⟩ := hq
  dsimp only at hr hi1x0 hi1x1
  show VWp _ _ _ (mk [(1, .t ⟨false, [.vp 0 0]⟩), (3, .t ⟨false, [.d (dI (i : Int))]⟩)] _ [(0, .var [.d (dI (a0.Quota)), .d (dI (a0.Depth)), .d (dI (a0.Chain)), .d (dI (a0.Glue)), .d (dI (a0.Tries)), .d (dI (a0.Addrs)), .d (dI (a0.Cap)), .d (.sl 1 (a0.Roots.map encI))])])
  rcases n with _ | n
  · exfalso; omega
  rw [n_spec_ConfOkL1] at hr
  refine v_seq ?_
  refine v_seq ?_
  refine v_reg ?_
  refine sy _ (zmv rfl (e rfl rfl)) rfl rfl ?_
  refine sy (.t ⟨false, [.vp 0 7]⟩) (zfa tabOk rfl rfl rfl (e rfl rfl) rfl rfl) rfl rfl ?_
  refine sy (.t ⟨false, [.d (.sl 1 (a0.Roots.map encI))]⟩) (zlv tabOk rfl (e rfl rfl) rfl rfl rfl) rfl rfl ?_
  have hB1 := (h0.Roots).1
  refine sy (.t ⟨false, [.d (dI ((a0.Roots).length : Int))]⟩) (zlm tabOk rfl rfl (e rfl rfl) .d) rfl rfl ?_
  refine sy (.t ⟨false, [.d (dB (decide (((i : Int)) < (((a0.Roots).length : Int)))))]⟩) (y_bin rfl (e rfl rfl) (e rfl rfl) (fun _ => b_lss) rfl) rfl rfl ?_
  refine s_end ?_
  refine v_cond (e rfl rfl) (fun hb1 => ?_) fun hb1 => ?_
  · replace hr := bf_t hb1 hr
    have hb1p := dec_t hb1
    refine v_skip ?_
    refine v_seq ?_
    refine v_block ?_
    refine v_seq ?_
    refine v_reg ?_
    refine sy (.t ⟨false, [.vp 0 7]⟩) (zfa tabOk rfl rfl rfl (e rfl rfl) rfl rfl) rfl rfl ?_
    refine sy (.t ⟨false, [.d (.sl 1 (a0.Roots.map encI))]⟩) (zlv tabOk rfl (e rfl rfl) rfl rfl rfl) rfl rfl ?_
    refine sy _ (zmv rfl (e rfl rfl)) rfl rfl ?_
    obtain ⟨x1, hx1⟩ : ∃ x, (a0.Roots)[i]? = some x := some_of_lt (by omega)
    replace hr := at_step hx1 hr
    refine sy (.t ⟨false, [.fe 1 (a0.Roots.map encI) i 0]⟩) (zix tabOk rfl rfl rfl (e rfl rfl) (e rfl rfl) (ltm_of_some hx1)) rfl rfl ?_
    refine sy (.t ⟨false, [.d (dI (x1))]⟩) (zle tabOk rfl (e rfl rfl) (getm hx1) rfl rfl) rfl rfl ?_
    refine sd (.t ⟨false, [.d (dB (n_spec_l1In x1 0 2147483647))]⟩) (zcd (.t ⟨false, [.d (dB (n_spec_l1In x1 0 2147483647))]⟩) rfl (tr_n_spec_l1In x1 0 2147483647) (ar (e rfl rfl) (.d .nil) (ar (ec rfl) (.d .nil) (ar (ec rfl) (.d .nil) .nil))) rfl) rfl rfl rfl rfl ?_
    refine sy (.t ⟨false, [.d (dB (!(n_spec_l1In x1 0 2147483647)))]⟩) (y_un rfl (e rfl rfl) (fun _ => u_not) rfl) rfl rfl ?_
    refine s_end ?_
    refine v_cond (e rfl rfl) (fun hb2 => ?_) fun hb2 => ?_
    · replace hr := bf_t hb2 hr
      have hn3 := not_t hb2
      refine v_seq ?_
      refine v_reg ?_
      refine sy _ (zas rfl (ec rfl)) rfl rfl ?_
      refine s_end ?_
      refine v_ret ?_
      subst hr
      exact post_ret (rv (.tmp (eg rfl rfl)) rfl (.lf .nil) rfl .nil) (.ro .nil) rfl
    replace hr := bf_f hb2 hr
    have hn4 := not_f hb2
    refine v_skip ?_
    refine blk_norm ?_
    refine v_reg ?_
    refine sy _ (zmv rfl (e rfl rfl)) rfl rfl ?_
    refine sy (.t ⟨false, [.d (dI (i + 1 : Int))]⟩) (y_bin rfl (e rfl rfl) (ec rfl) (fun _ => b_addn (by omega) (by omega)) rfl) rfl rfl ?_
    refine sy _ (zas rfl (e rfl rfl)) rfl rfl ?_
    refine s_end ?_
    exact lp_next (n, i + 1) ⟨hr, by (try simp only [List.length_append, List.length_cons, List.length_nil, List.length_set]); first | done | omega, by (try simp only [List.length_append, List.length_cons, List.length_nil, List.length_set]); first | done | omega⟩ (Nat.lt_succ_self _) ⟨rfl, rfl, trivial⟩ ⟨rfl, trivial⟩ rfl
  replace hr := bf_f hb1 hr
  have hb1p := dec_f hb1
  refine v_exit ?_
  refine then_exit ?_
  refine loop_exit ?_
  refine blk_hit ?_
  refine v_seq ?_
  refine v_reg ?_
  refine sy (.t ⟨false, [.vp 0 0]⟩) (zfa tabOk rfl rfl rfl (e rfl rfl) rfl rfl) rfl rfl ?_
  refine sy (.t ⟨false, [.d (dI (a0.Quota))]⟩) (zlv tabOk rfl (e rfl rfl) rfl rfl rfl) rfl rfl ?_
  refine sd (.t ⟨false, [.d (dB (n_spec_l1In a0.Quota 1 200))]⟩) (zcd (.t ⟨false, [.d (dB (n_spec_l1In a0.Quota 1 200))]⟩) rfl (tr_n_spec_l1In a0.Quota 1 200) (ar (e rfl rfl) (.d .nil) (ar (ec rfl) (.d .nil) (ar (ec rfl) (.d .nil) .nil))) rfl) rfl rfl rfl rfl ?_
  refine sy _ (zmv rfl (e rfl rfl)) rfl rfl ?_
  rcases Bool.eq_false_or_eq_true (n_spec_l1In a0.Quota 1 200) with hg5 | hg5
  · replace hr := bf_t hg5 hr
    refine gr rfl rfl rfl (eg rfl rfl) hg5 ?_
    refine sy (.t ⟨false, [.vp 0 1]⟩) (zfa tabOk rfl rfl rfl (e rfl rfl) rfl rfl) rfl rfl ?_
    refine gr rfl rfl rfl (eg rfl rfl) hg5 ?_
    refine sy (.t ⟨false, [.d (dI (a0.Depth))]⟩) (zlv tabOk rfl (e rfl rfl) rfl rfl rfl) rfl rfl ?_
    refine gr rfl rfl rfl (eg rfl rfl) hg5 ?_
    refine sd (.t ⟨false, [.d (dB (n_spec_l1In a0.Depth 1 6))]⟩) (zcd (.t ⟨false, [.d (dB (n_spec_l1In a0.Depth 1 6))]⟩) rfl (tr_n_spec_l1In a0.Depth 1 6) (ar (e rfl rfl) (.d .nil) (ar (ec rfl) (.d .nil) (ar (ec rfl) (.d .nil) .nil))) rfl) rfl rfl rfl rfl ?_
    refine sy (.t ⟨false, [.d (dB (n_spec_l1In a0.Depth 1 6))]⟩) (zpt rfl (e rfl rfl) hg5 (e rfl rfl)) rfl rfl ?_
    refine sy _ (zmv rfl (e rfl rfl)) rfl rfl ?_
    rcases Bool.eq_false_or_eq_true (n_spec_l1In a0.Depth 1 6) with hg6 | hg6
    · replace hr := bf_t hg6 hr
      refine gr rfl rfl rfl (eg rfl rfl) hg6 ?_
      refine sy (.t ⟨false, [.vp 0 2]⟩) (zfa tabOk rfl rfl rfl (e rfl rfl) rfl rfl) rfl rfl ?_
      refine gr rfl rfl rfl (eg rfl rfl) hg6 ?_
      refine sy (.t ⟨false, [.d (dI (a0.Chain))]⟩) (zlv tabOk rfl (e rfl rfl) rfl rfl rfl) rfl rfl ?_
      refine gr rfl rfl rfl (eg rfl rfl) hg6 ?_
      refine sd (.t ⟨false, [.d (dB (n_spec_l1In a0.Chain 0 6))]⟩) (zcd (.t ⟨false, [.d (dB (n_spec_l1In a0.Chain 0 6))]⟩) rfl (tr_n_spec_l1In a0.Chain 0 6) (ar (e rfl rfl) (.d .nil) (ar (ec rfl) (.d .nil) (ar (ec rfl) (.d .nil) .nil))) rfl) rfl rfl rfl rfl ?_
      refine sy (.t ⟨false, [.d (dB (n_spec_l1In a0.Chain 0 6))]⟩) (zpt rfl (e rfl rfl) hg6 (e rfl rfl)) rfl rfl ?_
      refine sy _ (zmv rfl (e rfl rfl)) rfl rfl ?_
      rcases Bool.eq_false_or_eq_true (n_spec_l1In a0.Chain 0 6) with hg7 | hg7
      · replace hr := bf_t hg7 hr
        refine gr rfl rfl rfl (eg rfl rfl) hg7 ?_
        refine sy (.t ⟨false, [.vp 0 3]⟩) (zfa tabOk rfl rfl rfl (e rfl rfl) rfl rfl) rfl rfl ?_
        refine gr rfl rfl rfl (eg rfl rfl) hg7 ?_
        refine sy (.t ⟨false, [.d (dI (a0.Glue))]⟩) (zlv tabOk rfl (e rfl rfl) rfl rfl rfl) rfl rfl ?_
        refine gr rfl rfl rfl (eg rfl rfl) hg7 ?_
        refine sd (.t ⟨false, [.d (dB (n_spec_l1In a0.Glue 0 4))]⟩) (zcd (.t ⟨false, [.d (dB (n_spec_l1In a0.Glue 0 4))]⟩) rfl (tr_n_spec_l1In a0.Glue 0 4) (ar (e rfl rfl) (.d .nil) (ar (ec rfl) (.d .nil) (ar (ec rfl) (.d .nil) .nil))) rfl) rfl rfl rfl rfl ?_
        refine sy (.t ⟨false, [.d (dB (n_spec_l1In a0.Glue 0 4))]⟩) (zpt rfl (e rfl rfl) hg7 (e rfl rfl)) rfl rfl ?_
        refine sy _ (zmv rfl (e rfl rfl)) rfl rfl ?_
        rcases Bool.eq_false_or_eq_true (n_spec_l1In a0.Glue 0 4) with hg8 | hg8
        · replace hr := bf_t hg8 hr
          refine gr rfl rfl rfl (eg rfl rfl) hg8 ?_
          refine sy (.t ⟨false, [.vp 0 4]⟩) (zfa tabOk rfl rfl rfl (e rfl rfl) rfl rfl) rfl rfl ?_
          refine gr rfl rfl rfl (eg rfl rfl) hg8 ?_
          refine sy (.t ⟨false, [.d (dI (a0.Tries))]⟩) (zlv tabOk rfl (e rfl rfl) rfl rfl rfl) rfl rfl ?_
          refine gr rfl rfl rfl (eg rfl rfl) hg8 ?_
          refine sd (.t ⟨false, [.d (dB (n_spec_l1In a0.Tries 1 4))]⟩) (zcd (.t ⟨false, [.d (dB (n_spec_l1In a0.Tries 1 4))]⟩) rfl (tr_n_spec_l1In a0.Tries 1 4) (ar (e rfl rfl) (.d .nil) (ar (ec rfl) (.d .nil) (ar (ec rfl) (.d .nil) .nil))) rfl) rfl rfl rfl rfl ?_
          refine sy (.t ⟨false, [.d (dB (n_spec_l1In a0.Tries 1 4))]⟩) (zpt rfl (e rfl rfl) hg8 (e rfl rfl)) rfl rfl ?_
          refine sy _ (zmv rfl (e rfl rfl)) rfl rfl ?_
          rcases Bool.eq_false_or_eq_true (n_spec_l1In a0.Tries 1 4) with hg9 | hg9
          · replace hr := bf_t hg9 hr
            refine gr rfl rfl rfl (eg rfl rfl) hg9 ?_
            refine sy (.t ⟨false, [.vp 0 5]⟩) (zfa tabOk rfl rfl rfl (e rfl rfl) rfl rfl) rfl rfl ?_
            refine gr rfl rfl rfl (eg rfl rfl) hg9 ?_
            refine sy (.t ⟨false, [.d (dI (a0.Addrs))]⟩) (zlv tabOk rfl (e rfl rfl) rfl rfl rfl) rfl rfl ?_
            refine gr rfl rfl rfl (eg rfl rfl) hg9 ?_
            refine sd (.t ⟨false, [.d (dB (n_spec_l1In a0.Addrs 1 4))]⟩) (zcd (.t ⟨false, [.d (dB (n_spec_l1In a0.Addrs 1 4))]⟩) rfl (tr_n_spec_l1In a0.Addrs 1 4) (ar (e rfl rfl) (.d .nil) (ar (ec rfl) (.d .nil) (ar (ec rfl) (.d .nil) .nil))) rfl) rfl rfl rfl rfl ?_
            refine sy (.t ⟨false, [.d (dB (n_spec_l1In a0.Addrs 1 4))]⟩) (zpt rfl (e rfl rfl) hg9 (e rfl rfl)) rfl rfl ?_
            refine sy _ (zmv rfl (e rfl rfl)) rfl rfl ?_
            rcases Bool.eq_false_or_eq_true (n_spec_l1In a0.Addrs 1 4) with hg10 | hg10
            · replace hr := bf_t hg10 hr
              refine gr rfl rfl rfl (eg rfl rfl) hg10 ?_
              refine sy (.t ⟨false, [.vp 0 6]⟩) (zfa tabOk rfl rfl rfl (e rfl rfl) rfl rfl) rfl rfl ?_
              refine gr rfl rfl rfl (eg rfl rfl) hg10 ?_
              refine sy (.t ⟨false, [.d (dI (a0.Cap))]⟩) (zlv tabOk rfl (e rfl rfl) rfl rfl rfl) rfl rfl ?_
              refine gr rfl rfl rfl (eg rfl rfl) hg10 ?_
              refine sd (.t ⟨false, [.d (dB (n_spec_l1In a0.Cap 1 60))]⟩) (zcd (.t ⟨false, [.d (dB (n_spec_l1In a0.Cap 1 60))]⟩) rfl (tr_n_spec_l1In a0.Cap 1 60) (ar (e rfl rfl) (.d .nil) (ar (ec rfl) (.d .nil) (ar (ec rfl) (.d .nil) .nil))) rfl) rfl rfl rfl rfl ?_
              refine sy (.t ⟨false, [.d (dB (n_spec_l1In a0.Cap 1 60))]⟩) (zpt rfl (e rfl rfl) hg10 (e rfl rfl)) rfl rfl ?_
              refine sy _ (zmv rfl (e rfl rfl)) rfl rfl ?_
              rcases Bool.eq_false_or_eq_true (n_spec_l1In a0.Cap 1 60) with hg11 | hg11
              · replace hr := bf_t hg11 hr
                refine gr rfl rfl rfl (eg rfl rfl) hg11 ?_
                refine sy (.t ⟨false, [.vp 0 7]⟩) (zfa tabOk rfl rfl rfl (e rfl rfl) rfl rfl) rfl rfl ?_
                refine gr rfl rfl rfl (eg rfl rfl) hg11 ?_
                refine sy (.t ⟨false, [.d (.sl 1 (a0.Roots.map encI))]⟩) (zlv tabOk rfl (e rfl rfl) rfl rfl rfl) rfl rfl ?_
                refine gr rfl rfl rfl (eg rfl rfl) hg11 ?_
                refine sy (.t ⟨false, [.d (dI ((a0.Roots).length : Int))]⟩) (zlm tabOk rfl rfl (e rfl rfl) .d) rfl rfl ?_
                refine gr rfl rfl rfl (eg rfl rfl) hg11 ?_
                refine sd (.t ⟨false, [.d (dB (n_spec_l1In (((a0.Roots).length : Int)) 1 4))]⟩) (zcd (.t ⟨false, [.d (dB (n_spec_l1In (((a0.Roots).length : Int)) 1 4))]⟩) rfl (tr_n_spec_l1In (((a0.Roots).length : Int)) 1 4) (ar (e rfl rfl) (.d .nil) (ar (ec rfl) (.d .nil) (ar (ec rfl) (.d .nil) .nil))) rfl) rfl rfl rfl rfl ?_
                refine sy (.t ⟨false, [.d (dB (n_spec_l1In (((a0.Roots).length : Int)) 1 4))]⟩) (zpt rfl (e rfl rfl) hg11 (e rfl rfl)) rfl rfl ?_
                refine sy _ (zas rfl (e rfl rfl)) rfl rfl ?_
                refine s_end ?_
                refine v_ret ?_
                subst hr
                exact post_ret (rv (.tmp (eg rfl rfl)) rfl (.lf .nil) rfl .nil) (.ro .nil) rfl
              replace hr := bf_f hg11 hr
              refine gs rfl rfl rfl (eg rfl rfl) hg11 rfl ?_
              refine gs rfl rfl rfl (eg rfl rfl) hg11 rfl ?_
              refine gs rfl rfl rfl (eg rfl rfl) hg11 rfl ?_
              refine gs rfl rfl rfl (eg rfl rfl) hg11 rfl ?_
              refine sy (.t ⟨false, [.d (dB (false))]⟩) (zpf rfl (e rfl rfl) hg11 (ec rfl)) rfl rfl ?_
              refine sy _ (zas rfl (e rfl rfl)) rfl rfl ?_
              refine s_end ?_
              refine v_ret ?_
              subst hr
              exact post_ret (rv (.tmp (eg rfl rfl)) rfl (.lf .nil) rfl .nil) (.ro .nil) rfl
            replace hr := bf_f hg10 hr
            refine gs rfl rfl rfl (eg rfl rfl) hg10 rfl ?_
            refine gs rfl rfl rfl (eg rfl rfl) hg10 rfl ?_
            refine gs rfl rfl rfl (eg rfl rfl) hg10 rfl ?_
            refine sy (.t ⟨false, [.d (dB (false))]⟩) (zpf rfl (e rfl rfl) hg10 (ec rfl)) rfl rfl ?_
            refine sy _ (zmv rfl (e rfl rfl)) rfl rfl ?_
            refine gs rfl rfl rfl (eg rfl rfl) rfl rfl ?_
            refine gs rfl rfl rfl (eg rfl rfl) rfl rfl ?_
            refine gs rfl rfl rfl (eg rfl rfl) rfl rfl ?_
            refine gs rfl rfl rfl (eg rfl rfl) rfl rfl ?_
            refine sy (.t ⟨false, [.d (dB (false))]⟩) (zpf rfl (e rfl rfl) rfl (ec rfl)) rfl rfl ?_
            refine sy _ (zas rfl (e rfl rfl)) rfl rfl ?_
            refine s_end ?_
            refine v_ret ?_
            subst hr
            exact post_ret (rv (.tmp (eg rfl rfl)) rfl (.lf .nil) rfl .nil) (.ro .nil) rfl
          replace hr := bf_f hg9 hr
          refine gs rfl rfl rfl (eg rfl rfl) hg9 rfl ?_
          refine gs rfl rfl rfl (eg rfl rfl) hg9 rfl ?_
          refine gs rfl rfl rfl (eg rfl rfl) hg9 rfl ?_
          refine sy (.t ⟨false, [.d (dB (false))]⟩) (zpf rfl (e rfl rfl) hg9 (ec rfl)) rfl rfl ?_
          refine sy _ (zmv rfl (e rfl rfl)) rfl rfl ?_
          refine gs rfl rfl rfl (eg rfl rfl) rfl rfl ?_
          refine gs rfl rfl rfl (eg rfl rfl) rfl rfl ?_
          refine gs rfl rfl rfl (eg rfl rfl) rfl rfl ?_
          refine sy (.t ⟨false, [.d (dB (false))]⟩) (zpf rfl (e rfl rfl) rfl (ec rfl)) rfl rfl ?_
          refine sy _ (zmv rfl (e rfl rfl)) rfl rfl ?_
          refine gs rfl rfl rfl (eg rfl rfl) rfl rfl ?_
          refine gs rfl rfl rfl (eg rfl rfl) rfl rfl ?_
          refine gs rfl rfl rfl (eg rfl rfl) rfl rfl ?_
          refine gs rfl rfl rfl (eg rfl rfl) rfl rfl ?_
          refine sy (.t ⟨false, [.d (dB (false))]⟩) (zpf rfl (e rfl rfl) rfl (ec rfl)) rfl rfl ?_
          refine sy _ (zas rfl (e rfl rfl)) rfl rfl ?_
          refine s_end ?_
          refine v_ret ?_
          subst hr
          exact post_ret (rv (.tmp (eg rfl rfl)) rfl (.lf .nil) rfl .nil) (.ro .nil) rfl
        replace hr := bf_f hg8 hr
        refine gs rfl rfl rfl (eg rfl rfl) hg8 rfl ?_
        refine gs rfl rfl rfl (eg rfl rfl) hg8 rfl ?_
        refine gs rfl rfl rfl (eg rfl rfl) hg8 rfl ?_
        refine sy (.t ⟨false, [.d (dB (false))]⟩) (zpf rfl (e rfl rfl) hg8 (ec rfl)) rfl rfl ?_
        refine sy _ (zmv rfl (e rfl rfl)) rfl rfl ?_
        refine gs rfl rfl rfl (eg rfl rfl) rfl rfl ?_
        refine gs rfl rfl rfl (eg rfl rfl) rfl rfl ?_
        refine gs rfl rfl rfl (eg rfl rfl) rfl rfl ?_
        refine sy (.t ⟨false, [.d (dB (false))]⟩) (zpf rfl (e rfl rfl) rfl (ec rfl)) rfl rfl ?_
        refine sy _ (zmv rfl (e rfl rfl)) rfl rfl ?_
        refine gs rfl rfl rfl (eg rfl rfl) rfl rfl ?_
        refine gs rfl rfl rfl (eg rfl rfl) rfl rfl ?_
        refine gs rfl rfl rfl (eg rfl rfl) rfl rfl ?_
        refine sy (.t ⟨false, [.d (dB (false))]⟩) (zpf rfl (e rfl rfl) rfl (ec rfl)) rfl rfl ?_
        refine sy _ (zmv rfl (e rfl rfl)) rfl rfl ?_
        refine gs rfl rfl rfl (eg rfl rfl) rfl rfl ?_
        refine gs rfl rfl rfl (eg rfl rfl) rfl rfl ?_
        refine gs rfl rfl rfl (eg rfl rfl) rfl rfl ?_
        refine gs rfl rfl rfl (eg rfl rfl) rfl rfl ?_
        refine sy (.t ⟨false, [.d (dB (false))]⟩) (zpf rfl (e rfl rfl) rfl (ec rfl)) rfl rfl ?_
        refine sy _ (zas rfl (e rfl rfl)) rfl rfl ?_
        refine s_end ?_
        refine v_ret ?_
        subst hr
        exact post_ret (rv (.tmp (eg rfl rfl)) rfl (.lf .nil) rfl .nil) (.ro .nil) rfl
      replace hr := bf_f hg7 hr
      refine gs rfl rfl rfl (eg rfl rfl) hg7 rfl ?_
      refine gs rfl rfl rfl (eg rfl rfl) hg7 rfl ?_
      refine gs rfl rfl rfl (eg rfl rfl) hg7 rfl ?_
      refine sy (.t ⟨false, [.d (dB (false))]⟩) (zpf rfl (e rfl rfl) hg7 (ec rfl)) rfl rfl ?_
      refine sy _ (zmv rfl (e rfl rfl)) rfl rfl ?_
      refine gs rfl rfl rfl (eg rfl rfl) rfl rfl ?_
      refine gs rfl rfl rfl (eg rfl rfl) rfl rfl ?_
      refine gs rfl rfl rfl (eg rfl rfl) rfl rfl ?_
      refine sy (.t ⟨false, [.d (dB (false))]⟩) (zpf rfl (e rfl rfl) rfl (ec rfl)) rfl rfl ?_
      refine sy _ (zmv rfl (e rfl rfl)) rfl rfl ?_
      refine gs rfl rfl rfl (eg rfl rfl) rfl rfl ?_
      refine gs rfl rfl rfl (eg rfl rfl) rfl rfl ?_
      refine gs rfl rfl rfl (eg rfl rfl) rfl rfl ?_
      refine sy (.t ⟨false, [.d (dB (false))]⟩) (zpf rfl (e rfl rfl) rfl (ec rfl)) rfl rfl ?_
      refine sy _ (zmv rfl (e rfl rfl)) rfl rfl ?_
      refine gs rfl rfl rfl (eg rfl rfl) rfl rfl ?_
      refine gs rfl rfl rfl (eg rfl rfl) rfl rfl ?_
      refine gs rfl rfl rfl (eg rfl rfl) rfl rfl ?_
      refine sy (.t ⟨false, [.d (dB (false))]⟩) (zpf rfl (e rfl rfl) rfl (ec rfl)) rfl rfl ?_
      refine sy _ (zmv rfl (e rfl rfl)) rfl rfl ?_
      refine gs rfl rfl rfl (eg rfl rfl) rfl rfl ?_
      refine gs rfl rfl rfl (eg rfl rfl) rfl rfl ?_
      refine gs rfl rfl rfl (eg rfl rfl) rfl rfl ?_
      refine gs rfl rfl rfl (eg rfl rfl) rfl rfl ?_
      refine sy (.t ⟨false, [.d (dB (false))]⟩) (zpf rfl (e rfl rfl) rfl (ec rfl)) rfl rfl ?_
      refine sy _ (zas rfl (e rfl rfl)) rfl rfl ?_
      refine s_end ?_
      refine v_ret ?_
      subst hr
      exact post_ret (rv (.tmp (eg rfl rfl)) rfl (.lf .nil) rfl .nil) (.ro .nil) rfl
    replace hr := bf_f hg6 hr
    refine gs rfl rfl rfl (eg rfl rfl) hg6 rfl ?_
    refine gs rfl rfl rfl (eg rfl rfl) hg6 rfl ?_
    refine gs rfl rfl rfl (eg rfl rfl) hg6 rfl ?_
    refine sy (.t ⟨false, [.d (dB (false))]⟩) (zpf rfl (e rfl rfl) hg6 (ec rfl)) rfl rfl ?_
    refine sy _ (zmv rfl (e rfl rfl)) rfl rfl ?_
    refine gs rfl rfl rfl (eg rfl rfl) rfl rfl ?_
    refine gs rfl rfl rfl (eg rfl rfl) rfl rfl ?_
    refine gs rfl rfl rfl (eg rfl rfl) rfl rfl ?_
    refine sy (.t ⟨false, [.d (dB (false))]⟩) (zpf rfl (e rfl rfl) rfl (ec rfl)) rfl rfl ?_
    refine sy _ (zmv rfl (e rfl rfl)) rfl rfl ?_
    refine gs rfl rfl rfl (eg rfl rfl) rfl rfl ?_
    refine gs rfl rfl rfl (eg rfl rfl) rfl rfl ?_
    refine gs rfl rfl rfl (eg rfl rfl) rfl rfl ?_
    refine sy (.t ⟨false, [.d (dB (false))]⟩) (zpf rfl (e rfl rfl) rfl (ec rfl)) rfl rfl ?_
    refine sy _ (zmv rfl (e rfl rfl)) rfl rfl ?_
    refine gs rfl rfl rfl (eg rfl rfl) rfl rfl ?_
    refine gs rfl rfl rfl (eg rfl rfl) rfl rfl ?_
    refine gs rfl rfl rfl (eg rfl rfl) rfl rfl ?_
    refine sy (.t ⟨false, [.d (dB (false))]⟩) (zpf rfl (e rfl rfl) rfl (ec rfl)) rfl rfl ?_
    refine sy _ (zmv rfl (e rfl rfl)) rfl rfl ?_
    refine gs rfl rfl rfl (eg rfl rfl) rfl rfl ?_
    refine gs rfl rfl rfl (eg rfl rfl) rfl rfl ?_
    refine gs rfl rfl rfl (eg rfl rfl) rfl rfl ?_
    refine sy (.t ⟨false, [.d (dB (false))]⟩) (zpf rfl (e rfl rfl) rfl (ec rfl)) rfl rfl ?_
    refine sy _ (zmv rfl (e rfl rfl)) rfl rfl ?_
    refine gs rfl rfl rfl (eg rfl rfl) rfl rfl ?_
    refine gs rfl rfl rfl (eg rfl rfl) rfl rfl ?_
    refine gs rfl rfl rfl (eg rfl rfl) rfl rfl ?_
    refine gs rfl rfl rfl (eg rfl rfl) rfl rfl ?_
    refine sy (.t ⟨false, [.d (dB (false))]⟩) (zpf rfl (e rfl rfl) rfl (ec rfl)) rfl rfl ?_
    refine sy _ (zas rfl (e rfl rfl)) rfl rfl ?_
    refine s_end ?_
    refine v_ret ?_
    subst hr
    exact post_ret (rv (.tmp (eg rfl rfl)) rfl (.lf .nil) rfl .nil) (.ro .nil) rfl
  replace hr := bf_f hg5 hr
  refine gs rfl rfl rfl (eg rfl rfl) hg5 rfl ?_
  refine gs rfl rfl rfl (eg rfl rfl) hg5 rfl ?_
  refine gs rfl rfl rfl (eg rfl rfl) hg5 rfl ?_
  refine sy (.t ⟨false, [.d (dB (false))]⟩) (zpf rfl (e rfl rfl) hg5 (ec rfl)) rfl rfl ?_
  refine sy _ (zmv rfl (e rfl rfl)) rfl rfl ?_
  refine gs rfl rfl rfl (eg rfl rfl) rfl rfl ?_
  refine gs rfl rfl rfl (eg rfl rfl) rfl rfl ?_
  refine gs rfl rfl rfl (eg rfl rfl) rfl rfl ?_
  refine sy (.t ⟨false, [.d (dB (false))]⟩) (zpf rfl (e rfl rfl) rfl (ec rfl)) rfl rfl ?_
  refine sy _ (zmv rfl (e rfl rfl)) rfl rfl ?_
  refine gs rfl rfl rfl (eg rfl rfl) rfl rfl ?_
  refine gs rfl rfl rfl (eg rfl rfl) rfl rfl ?_
  refine gs rfl rfl rfl (eg rfl rfl) rfl rfl ?_
  refine sy (.t ⟨false, [.d (dB (false))]⟩) (zpf rfl (e rfl rfl) rfl (ec rfl)) rfl rfl ?_
  refine sy _ (zmv rfl (e rfl rfl)) rfl rfl ?_
  refine gs rfl rfl rfl (eg rfl rfl) rfl rfl ?_
  refine gs rfl rfl rfl (eg rfl rfl) rfl rfl ?_
  refine gs rfl rfl rfl (eg rfl rfl) rfl rfl ?_
  refine sy (.t ⟨false, [.d (dB (false))]⟩) (zpf rfl (e rfl rfl) rfl (ec rfl)) rfl rfl ?_
  refine sy _ (zmv rfl (e rfl rfl)) rfl rfl ?_
  refine gs rfl rfl rfl (eg rfl rfl) rfl rfl ?_
  refine gs rfl rfl rfl (eg rfl rfl) rfl rfl ?_
  refine gs rfl rfl rfl (eg rfl rfl) rfl rfl ?_
  refine sy (.t ⟨false, [.d (dB (false))]⟩) (zpf rfl (e rfl rfl) rfl (ec rfl)) rfl rfl ?_
  refine sy _ (zmv rfl (e rfl rfl)) rfl rfl ?_
  refine gs rfl rfl rfl (eg rfl rfl) rfl rfl ?_
  refine gs rfl rfl rfl (eg rfl rfl) rfl rfl ?_
  refine gs rfl rfl rfl (eg rfl rfl) rfl rfl ?_
  refine sy (.t ⟨false, [.d (dB (false))]⟩) (zpf rfl (e rfl rfl) rfl (ec rfl)) rfl rfl ?_
  refine sy _ (zmv rfl (e rfl rfl)) rfl rfl ?_
  refine gs rfl rfl rfl (eg rfl rfl) rfl rfl ?_
  refine gs rfl rfl rfl (eg rfl rfl) rfl rfl ?_
  refine gs rfl rfl rfl (eg rfl rfl) rfl rfl ?_
  refine gs rfl rfl rfl (eg rfl rfl) rfl rfl ?_
  refine sy (.t ⟨false, [.d (dB (false))]⟩) (zpf rfl (e rfl rfl) rfl (ec rfl)) rfl rfl ?_
  refine sy _ (zas rfl (e rfl rfl)) rfl rfl ?_
  refine s_end ?_
  refine v_ret ?_
  subst hr
  exact post_ret (rv (.tmp (eg rfl rfl)) rfl (.lf .nil) rfl .nil) (.ro .nil) rfl
def n_impl_ConfOk_c1 (a0 : Int) : Bool := !(n_impl_isFour a0)
set_option maxHeartbeats 4000000 in
set_option maxRecDepth 20000 in
theorem tr_n_impl_ConfOk_c1 (a0 : Int) : Tr Try.prog 72 [.ro ⟨false, [dI (a0)]⟩] [⟨false, [dB ((n_impl_ConfOk_c1 a0))]⟩] := by
  obtain ⟨r, hr⟩ : ∃ r, n_impl_ConfOk_c1 a0 = r := ⟨_, rfl⟩
  rw [hr]
  rw [n_impl_ConfOk_c1] at hr
  refine tr_go tabOk Try.func72 rfl rfl rfl rfl rfl (ov := [(0, .t ⟨false, [.d (dI (a0))]⟩)]) (hv := []) rfl rfl ?_
  refine v_seq ?_
  refine v_reg ?_
  refine sy _ (zas rfl (ec rfl)) rfl rfl ?_
  refine s_end ?_
  refine v_seq ?_
  refine v_reg ?_
  refine sy _ (zmv rfl (e rfl rfl)) rfl rfl ?_
  refine sd (.t ⟨false, [.d (dB (n_impl_isFour a0))]⟩) (zcd (.t ⟨false, [.d (dB (n_impl_isFour a0))]⟩) rfl (tr_n_impl_isFour a0) (ar (e rfl rfl) (.d .nil) .nil) rfl) rfl rfl rfl rfl ?_
  refine sy (.t ⟨false, [.d (dB (!(n_impl_isFour a0)))]⟩) (y_un rfl (e rfl rfl) (fun _ => u_not) rfl) rfl rfl ?_
  refine sy _ (zas rfl (e rfl rfl)) rfl rfl ?_
  refine s_end ?_
  refine v_ret ?_
  subst hr
  exact post_ret (rv (.tmp (eg rfl rfl)) rfl (.lf .nil) rfl .nil) (.ro .nil) rfl
def n_impl_ConfOk (a0 : Conf) : Bool := cond (n_impl_isFrom a0.Quota 1 200) (cond (n_impl_isFrom a0.Depth 1 6) (cond (n_impl_isFrom a0.Chain 0 6) (cond (n_impl_isFrom a0.Glue 0 4) (cond (n_impl_isFrom a0.Tries 1 4) (cond (n_impl_isFrom a0.Addrs 1 4) (cond (n_impl_isFrom a0.Cap 1 60) (cond (n_impl_isFrom (((a0.Roots).length : Int)) 1 4) (!(n_slices_ContainsFunc_int a0.Roots (fun x0 => n_impl_ConfOk_c1 x0))) (false)) (false)) (false)) (false)) (false)) (false)) (false)) (false)
set_option maxHeartbeats 4000000 in
set_option maxRecDepth 20000 in
theorem tr_n_impl_ConfOk (a0 : Conf) (h0 : Conf.Fit a0) : Tr Try.prog 31 [.ro ⟨true, [dI (a0.Quota), dI (a0.Depth), dI (a0.Chain), dI (a0.Glue), dI (a0.Tries), dI (a0.Addrs), dI (a0.Cap), .sl 1 (a0.Roots.map encI)]⟩] [⟨false, [dB ((n_impl_ConfOk a0))]⟩] := by
  obtain ⟨r, hr⟩ : ∃ r, n_impl_ConfOk a0 = r := ⟨_, rfl⟩
  rw [hr]
  rw [n_impl_ConfOk] at hr
  refine tr_go tabOk Try.func31 rfl rfl rfl rfl rfl (ov := [(0, .t ⟨true, [.d (dI (a0.Quota)), .d (dI (a0.Depth)), .d (dI (a0.Chain)), .d (dI (a0.Glue)), .d (dI (a0.Tries)), .d (dI (a0.Addrs)), .d (dI (a0.Cap)), .d (.sl 1 (a0.Roots.map encI))]⟩)]) (hv := []) rfl rfl ?_
  refine v_seq ?_
  refine v_reg ?_
  refine sr 0 (.t ⟨false, [.vp 0 0]⟩) (.var [.d (dI (a0.Quota)), .d (dI (a0.Depth)), .d (dI (a0.Chain)), .d (dI (a0.Glue)), .d (dI (a0.Tries)), .d (dI (a0.Addrs)), .d (dI (a0.Cap)), .d (.sl 1 (a0.Roots.map encI))]) (zbx rfl (e rfl rfl) rfl rfl rfl) rfl rfl ?_
  refine sy _ (zas rfl (ec rfl)) rfl rfl ?_
  refine s_end ?_
  refine v_seq ?_
  refine v_reg ?_
  refine sy (.t ⟨false, [.vp 0 0]⟩) (zfa tabOk rfl rfl rfl (e rfl rfl) rfl rfl) rfl rfl ?_
  refine sy (.t ⟨false, [.d (dI (a0.Quota))]⟩) (zlv tabOk rfl (e rfl rfl) rfl rfl rfl) rfl rfl ?_
  refine sd (.t ⟨false, [.d (dB (n_impl_isFrom a0.Quota 1 200))]⟩) (zcd (.t ⟨false, [.d (dB (n_impl_isFrom a0.Quota 1 200))]⟩) rfl (tr_n_impl_isFrom a0.Quota 1 200) (ar (e rfl rfl) (.d .nil) (ar (ec rfl) (.d .nil) (ar (ec rfl) (.d .nil) .nil))) rfl) rfl rfl rfl rfl ?_
  refine sy _ (zmv rfl (e rfl rfl)) rfl rfl ?_
  rcases Bool.eq_false_or_eq_true (n_impl_isFrom a0.Quota 1 200) with hg1 | hg1
  · replace hr := bf_t hg1 hr
    refine gr rfl rfl rfl (eg rfl rfl) hg1 ?_
    refine sy (.t ⟨false, [.vp 0 1]⟩) (zfa tabOk rfl rfl rfl (e rfl rfl) rfl rfl) rfl rfl ?_
    refine gr rfl rfl rfl (eg rfl rfl) hg1 ?_
    refine sy (.t ⟨false, [.d (dI (a0.Depth))]⟩) (zlv tabOk rfl (e rfl rfl) rfl rfl rfl) rfl rfl ?_
    refine gr rfl rfl rfl (eg rfl rfl) hg1 ?_
    refine sd (.t ⟨false, [.d (dB (n_impl_isFrom a0.Depth 1 6))]⟩) (zcd (.t ⟨false, [.d (dB (n_impl_isFrom a0.Depth 1 6))]⟩) rfl (tr_n_impl_isFrom a0.Depth 1 6) (ar (e rfl rfl) (.d .nil) (ar (ec rfl) (.d .nil) (ar (ec rfl) (.d .nil) .nil))) rfl) rfl rfl rfl rfl ?_
    refine sy (.t ⟨false, [.d (dB (n_impl_isFrom a0.Depth 1 6))]⟩) (zpt rfl (e rfl rfl) hg1 (e rfl rfl)) rfl rfl ?_
    refine sy _ (zmv rfl (e rfl rfl)) rfl rfl ?_
    rcases Bool.eq_false_or_eq_true (n_impl_isFrom a0.Depth 1 6) with hg2 | hg2
    · replace hr := bf_t hg2 hr
      refine gr rfl rfl rfl (eg rfl rfl) hg2 ?_
      refine sy (.t ⟨false, [.vp 0 2]⟩) (zfa tabOk rfl rfl rfl (e rfl rfl) rfl rfl) rfl rfl ?_
      refine gr rfl rfl rfl (eg rfl rfl) hg2 ?_
      refine sy (.t ⟨false, [.d (dI (a0.Chain))]⟩) (zlv tabOk rfl (e rfl rfl) rfl rfl rfl) rfl rfl ?_
      refine gr rfl rfl rfl (eg rfl rfl) hg2 ?_
      refine sd (.t ⟨false, [.d (dB (n_impl_isFrom a0.Chain 0 6))]⟩) (zcd (.t ⟨false, [.d (dB (n_impl_isFrom a0.Chain 0 6))]⟩) rfl (tr_n_impl_isFrom a0.Chain 0 6) (ar (e rfl rfl) (.d .nil) (ar (ec rfl) (.d .nil) (ar (ec rfl) (.d .nil) .nil))) rfl) rfl rfl rfl rfl ?_
      refine sy (.t ⟨false, [.d (dB (n_impl_isFrom a0.Chain 0 6))]⟩) (zpt rfl (e rfl rfl) hg2 (e rfl rfl)) rfl rfl ?_
      refine sy _ (zmv rfl (e rfl rfl)) rfl rfl ?_
      rcases Bool.eq_false_or_eq_true (n_impl_isFrom a0.Chain 0 6) with hg3 | hg3
      · replace hr := bf_t hg3 hr
        refine gr rfl rfl rfl (eg rfl rfl) hg3 ?_
        refine sy (.t ⟨false, [.vp 0 3]⟩) (zfa tabOk rfl rfl rfl (e rfl rfl) rfl rfl) rfl rfl ?_
        refine gr rfl rfl rfl (eg rfl rfl) hg3 ?_
        refine sy (.t ⟨false, [.d (dI (a0.Glue))]⟩) (zlv tabOk rfl (e rfl rfl) rfl rfl rfl) rfl rfl ?_
        refine gr rfl rfl rfl (eg rfl rfl) hg3 ?_
        refine sd (.t ⟨false, [.d (dB (n_impl_isFrom a0.Glue 0 4))]⟩) (zcd (.t ⟨false, [.d (dB (n_impl_isFrom a0.Glue 0 4))]⟩) rfl (tr_n_impl_isFrom a0.Glue 0 4) (ar (e rfl rfl) (.d .nil) (ar (ec rfl) (.d .nil) (ar (ec rfl) (.d .nil) .nil))) rfl) rfl rfl rfl rfl ?_
        refine sy (.t ⟨false, [.d (dB (n_impl_isFrom a0.Glue 0 4))]⟩) (zpt rfl (e rfl rfl) hg3 (e rfl rfl)) rfl rfl ?_
        refine sy _ (zmv rfl (e rfl rfl)) rfl rfl ?_
        rcases Bool.eq_false_or_eq_true (n_impl_isFrom a0.Glue 0 4) with hg4 | hg4
        · replace hr := bf_t hg4 hr
          refine gr rfl rfl rfl (eg rfl rfl) hg4 ?_
          refine sy (.t ⟨false, [.vp 0 4]⟩) (zfa tabOk rfl rfl rfl (e rfl rfl) rfl rfl) rfl rfl ?_
          refine gr rfl rfl rfl (eg rfl rfl) hg4 ?_
          refine sy (.t ⟨false, [.d (dI (a0.Tries))]⟩) (zlv tabOk rfl (e rfl rfl) rfl rfl rfl) rfl rfl ?_
          refine gr rfl rfl rfl (eg rfl rfl) hg4 ?_
          refine sd (.t ⟨false, [.d (dB (n_impl_isFrom a0.Tries 1 4))]⟩) (zcd (.t ⟨false, [.d (dB (n_impl_isFrom a0.Tries 1 4))]⟩) rfl (tr_n_impl_isFrom a0.Tries 1 4) (ar (e rfl rfl) (.d .nil) (ar (ec rfl) (.d .nil) (ar (ec rfl) (.d .nil) .nil))) rfl) rfl rfl rfl rfl ?_
          refine sy (.t ⟨false, [.d (dB (n_impl_isFrom a0.Tries 1 4))]⟩) (zpt rfl (e rfl rfl) hg4 (e rfl rfl)) rfl rfl ?_
          refine sy _ (zmv rfl (e rfl rfl)) rfl rfl ?_
          rcases Bool.eq_false_or_eq_true (n_impl_isFrom a0.Tries 1 4) with hg5 | hg5
          · replace hr := bf_t hg5 hr
            refine gr rfl rfl rfl (eg rfl rfl) hg5 ?_
            refine sy (.t ⟨false, [.vp 0 5]⟩) (zfa tabOk rfl rfl rfl (e rfl rfl) rfl rfl) rfl rfl ?_
            refine gr rfl rfl rfl (eg rfl rfl) hg5 ?_
            refine sy (.t ⟨false, [.d (dI (a0.Addrs))]⟩) (zlv tabOk rfl (e rfl rfl) rfl rfl rfl) rfl rfl ?_
            refine gr rfl rfl rfl (eg rfl rfl) hg5 ?_
            refine sd (.t ⟨false, [.d (dB (n_impl_isFrom a0.Addrs 1 4))]⟩) (zcd (.t ⟨false, [.d (dB (n_impl_isFrom a0.Addrs 1 4))]⟩) rfl (tr_n_impl_isFrom a0.Addrs 1 4) (ar (e rfl rfl) (.d .nil) (ar (ec rfl) (.d .nil) (ar (ec rfl) (.d .nil) .nil))) rfl) rfl rfl rfl rfl ?_
            refine sy (.t ⟨false, [.d (dB (n_impl_isFrom a0.Addrs 1 4))]⟩) (zpt rfl (e rfl rfl) hg5 (e rfl rfl)) rfl rfl ?_
            refine sy _ (zmv rfl (e rfl rfl)) rfl rfl ?_
            rcases Bool.eq_false_or_eq_true (n_impl_isFrom a0.Addrs 1 4) with hg6 | hg6
            · replace hr := bf_t hg6 hr
              refine gr rfl rfl rfl (eg rfl rfl) hg6 ?_
              refine sy (.t ⟨false, [.vp 0 6]⟩) (zfa tabOk rfl rfl rfl (e rfl rfl) rfl rfl) rfl rfl ?_
              refine gr rfl rfl rfl (eg rfl rfl) hg6 ?_
              refine sy (.t ⟨false, [.d (dI (a0.Cap))]⟩) (zlv tabOk rfl (e rfl rfl) rfl rfl rfl) rfl rfl ?_
              refine gr rfl rfl rfl (eg rfl rfl) hg6 ?_
              refine sd (.t ⟨false, [.d (dB (n_impl_isFrom a0.Cap 1 60))]⟩) (zcd (.t ⟨false, [.d (dB (n_impl_isFrom a0.Cap 1 60))]⟩) rfl (tr_n_impl_isFrom a0.Cap 1 60) (ar (e rfl rfl) (.d .nil) (ar (ec rfl) (.d .nil) (ar (ec rfl) (.d .nil) .nil))) rfl) rfl rfl rfl rfl ?_
              refine sy (.t ⟨false, [.d (dB (n_impl_isFrom a0.Cap 1 60))]⟩) (zpt rfl (e rfl rfl) hg6 (e rfl rfl)) rfl rfl ?_
              refine sy _ (zmv rfl (e rfl rfl)) rfl rfl ?_
              rcases Bool.eq_false_or_eq_true (n_impl_isFrom a0.Cap 1 60) with hg7 | hg7
              · replace hr := bf_t hg7 hr
                refine gr rfl rfl rfl (eg rfl rfl) hg7 ?_
                refine sy (.t ⟨false, [.vp 0 7]⟩) (zfa tabOk rfl rfl rfl (e rfl rfl) rfl rfl) rfl rfl ?_
                refine gr rfl rfl rfl (eg rfl rfl) hg7 ?_
                refine sy (.t ⟨false, [.d (.sl 1 (a0.Roots.map encI))]⟩) (zlv tabOk rfl (e rfl rfl) rfl rfl rfl) rfl rfl ?_
                refine gr rfl rfl rfl (eg rfl rfl) hg7 ?_
                have hB1 := (h0.Roots).1
                refine sy (.t ⟨false, [.d (dI ((a0.Roots).length : Int))]⟩) (zlm tabOk rfl rfl (e rfl rfl) .d) rfl rfl ?_
                refine gr rfl rfl rfl (eg rfl rfl) hg7 ?_
                refine sd (.t ⟨false, [.d (dB (n_impl_isFrom (((a0.Roots).length : Int)) 1 4))]⟩) (zcd (.t ⟨false, [.d (dB (n_impl_isFrom (((a0.Roots).length : Int)) 1 4))]⟩) rfl (tr_n_impl_isFrom (((a0.Roots).length : Int)) 1 4) (ar (e rfl rfl) (.d .nil) (ar (ec rfl) (.d .nil) (ar (ec rfl) (.d .nil) .nil))) rfl) rfl rfl rfl rfl ?_
                refine sy (.t ⟨false, [.d (dB (n_impl_isFrom (((a0.Roots).length : Int)) 1 4))]⟩) (zpt rfl (e rfl rfl) hg7 (e rfl rfl)) rfl rfl ?_
                refine sy _ (zmv rfl (e rfl rfl)) rfl rfl ?_
                rcases Bool.eq_false_or_eq_true (n_impl_isFrom (((a0.Roots).length : Int)) 1 4) with hg8 | hg8
                · replace hr := bf_t hg8 hr
                  refine gr rfl rfl rfl (eg rfl rfl) hg8 ?_
                  refine sy (.t ⟨false, [.vp 0 7]⟩) (zfa tabOk rfl rfl rfl (e rfl rfl) rfl rfl) rfl rfl ?_
                  refine gr rfl rfl rfl (eg rfl rfl) hg8 ?_
                  refine sy (.t ⟨false, [.d (.sl 1 (a0.Roots.map encI))]⟩) (zlv tabOk rfl (e rfl rfl) rfl rfl rfl) rfl rfl ?_
                  refine gr rfl rfl rfl (eg rfl rfl) hg8 ?_
                  refine sd (.t ⟨false, [.d (dB (n_slices_ContainsFunc_int a0.Roots (fun x0 => n_impl_ConfOk_c1 x0)))]⟩) (zcd (.t ⟨false, [.d (dB (n_slices_ContainsFunc_int a0.Roots (fun x0 => n_impl_ConfOk_c1 x0)))]⟩) rfl (tr_n_slices_ContainsFunc_int a0.Roots 72 [] (fun x0 => n_impl_ConfOk_c1 x0) h0.Roots (fun x0 => tr_n_impl_ConfOk_c1 x0)) (ar (e rfl rfl) (.d .nil) (ar rfl (.cl .nil .nil) .nil)) rfl) rfl rfl rfl rfl ?_
                  refine gr rfl rfl rfl (eg rfl rfl) hg8 ?_
                  refine sy (.t ⟨false, [.d (dB (!(n_slices_ContainsFunc_int a0.Roots (fun x0 => n_impl_ConfOk_c1 x0))))]⟩) (y_un rfl (e rfl rfl) (fun _ => u_not) rfl) rfl rfl ?_
                  refine sy (.t ⟨false, [.d (dB (!(n_slices_ContainsFunc_int a0.Roots (fun x0 => n_impl_ConfOk_c1 x0))))]⟩) (zpt rfl (e rfl rfl) hg8 (e rfl rfl)) rfl rfl ?_
                  refine sy _ (zas rfl (e rfl rfl)) rfl rfl ?_
                  refine s_end ?_
                  refine v_ret ?_
                  subst hr
                  exact post_ret (rv (.tmp (eg rfl rfl)) rfl (.lf .nil) rfl .nil) (.ro .nil) rfl
                replace hr := bf_f hg8 hr
                refine gs rfl rfl rfl (eg rfl rfl) hg8 rfl ?_
                refine gs rfl rfl rfl (eg rfl rfl) hg8 rfl ?_
                refine gs rfl rfl rfl (eg rfl rfl) hg8 rfl ?_
                refine gs rfl rfl rfl (eg rfl rfl) hg8 rfl ?_
                refine sy (.t ⟨false, [.d (dB (false))]⟩) (zpf rfl (e rfl rfl) hg8 (ec rfl)) rfl rfl ?_
                refine sy _ (zas rfl (e rfl rfl)) rfl rfl ?_
                refine s_end ?_
                refine v_ret ?_
                subst hr
                exact post_ret (rv (.tmp (eg rfl rfl)) rfl (.lf .nil) rfl .nil) (.ro .nil) rfl
              replace hr := bf_f hg7 hr
              refine gs rfl rfl rfl (eg rfl rfl) hg7 rfl ?_
              refine gs rfl rfl rfl (eg rfl rfl) hg7 rfl ?_
              refine gs rfl rfl rfl (eg rfl rfl) hg7 rfl ?_
              refine gs rfl rfl rfl (eg rfl rfl) hg7 rfl ?_
              refine sy (.t ⟨false, [.d (dB (false))]⟩) (zpf rfl (e rfl rfl) hg7 (ec rfl)) rfl rfl ?_
              refine sy _ (zmv rfl (e rfl rfl)) rfl rfl ?_
              refine gs rfl rfl rfl (eg rfl rfl) rfl rfl ?_
              refine gs rfl rfl rfl (eg rfl rfl) rfl rfl ?_
              refine gs rfl rfl rfl (eg rfl rfl) rfl rfl ?_
              refine gs rfl rfl rfl (eg rfl rfl) rfl rfl ?_
              refine sy (.t ⟨false, [.d (dB (false))]⟩) (zpf rfl (e rfl rfl) rfl (ec rfl)) rfl rfl ?_
              refine sy _ (zas rfl (e rfl rfl)) rfl rfl ?_
              refine s_end ?_
              refine v_ret ?_
              subst hr
              exact post_ret (rv (.tmp (eg rfl rfl)) rfl (.lf .nil) rfl .nil) (.ro .nil) rfl
            replace hr := bf_f hg6 hr
            refine gs rfl rfl rfl (eg rfl rfl) hg6 rfl ?_
            refine gs rfl rfl rfl (eg rfl rfl) hg6 rfl ?_
            refine gs rfl rfl rfl (eg rfl rfl) hg6 rfl ?_
            refine sy (.t ⟨false, [.d (dB (false))]⟩) (zpf rfl (e rfl rfl) hg6 (ec rfl)) rfl rfl ?_
            refine sy _ (zmv rfl (e rfl rfl)) rfl rfl ?_
            refine gs rfl rfl rfl (eg rfl rfl) rfl rfl ?_
            refine gs rfl rfl rfl (eg rfl rfl) rfl rfl ?_
            refine gs rfl rfl rfl (eg rfl rfl) rfl rfl ?_
            refine gs rfl rfl rfl (eg rfl rfl) rfl rfl ?_
            refine sy (.t ⟨false, [.d (dB (false))]⟩) (zpf rfl (e rfl rfl) rfl (ec rfl)) rfl rfl ?_
            refine sy _ (zmv rfl (e rfl rfl)) rfl rfl ?_
            refine gs rfl rfl rfl (eg rfl rfl) rfl rfl ?_
            refine gs rfl rfl rfl (eg rfl rfl) rfl rfl ?_
            refine gs rfl rfl rfl (eg rfl rfl) rfl rfl ?_
            refine gs rfl rfl rfl (eg rfl rfl) rfl rfl ?_
            refine sy (.t ⟨false, [.d (dB (false))]⟩) (zpf rfl (e rfl rfl) rfl (ec rfl)) rfl rfl ?_
            refine sy _ (zas rfl (e rfl rfl)) rfl rfl ?_
            refine s_end ?_
            refine v_ret ?_
            subst hr
            exact post_ret (rv (.tmp (eg rfl rfl)) rfl (.lf .nil) rfl .nil) (.ro .nil) rfl
          replace hr := bf_f hg5 hr
          refine gs rfl rfl rfl (eg rfl rfl) hg5 rfl ?_
          refine gs rfl rfl rfl (eg rfl rfl) hg5 rfl ?_
          refine gs rfl rfl rfl (eg rfl rfl) hg5 rfl ?_
          refine sy (.t ⟨false, [.d (dB (false))]⟩) (zpf rfl (e rfl rfl) hg5 (ec rfl)) rfl rfl ?_
          refine sy _ (zmv rfl (e rfl rfl)) rfl rfl ?_
          refine gs rfl rfl rfl (eg rfl rfl) rfl rfl ?_
          refine gs rfl rfl rfl (eg rfl rfl) rfl rfl ?_
          refine gs rfl rfl rfl (eg rfl rfl) rfl rfl ?_
          refine sy (.t ⟨false, [.d (dB (false))]⟩) (zpf rfl (e rfl rfl) rfl (ec rfl)) rfl rfl ?_
          refine sy _ (zmv rfl (e rfl rfl)) rfl rfl ?_
          refine gs rfl rfl rfl (eg rfl rfl) rfl rfl ?_
          refine gs rfl rfl rfl (eg rfl rfl) rfl rfl ?_
          refine gs rfl rfl rfl (eg rfl rfl) rfl rfl ?_
          refine gs rfl rfl rfl (eg rfl rfl) rfl rfl ?_
          refine sy (.t ⟨false, [.d (dB (false))]⟩) (zpf rfl (e rfl rfl) rfl (ec rfl)) rfl rfl ?_
          refine sy _ (zmv rfl (e rfl rfl)) rfl rfl ?_
          refine gs rfl rfl rfl (eg rfl rfl) rfl rfl ?_
          refine gs rfl rfl rfl (eg rfl rfl) rfl rfl ?_
          refine gs rfl rfl rfl (eg rfl rfl) rfl rfl ?_
          refine gs rfl rfl rfl (eg rfl rfl) rfl rfl ?_
          refine sy (.t ⟨false, [.d (dB (false))]⟩) (zpf rfl (e rfl rfl) rfl (ec rfl)) rfl rfl ?_
          refine sy _ (zas rfl (e rfl rfl)) rfl rfl ?_
          refine s_end ?_
          refine v_ret ?_
          subst hr
          exact post_ret (rv (.tmp (eg rfl rfl)) rfl (.lf .nil) rfl .nil) (.ro .nil) rfl
        replace hr := bf_f hg4 hr
        refine gs rfl rfl rfl (eg rfl rfl) hg4 rfl ?_
        refine gs rfl rfl rfl (eg rfl rfl) hg4 rfl ?_
        refine gs rfl rfl rfl (eg rfl rfl) hg4 rfl ?_
        refine sy (.t ⟨false, [.d (dB (false))]⟩) (zpf rfl (e rfl rfl) hg4 (ec rfl)) rfl rfl ?_
        refine sy _ (zmv rfl (e rfl rfl)) rfl rfl ?_
        refine gs rfl rfl rfl (eg rfl rfl) rfl rfl ?_
        refine gs rfl rfl rfl (eg rfl rfl) rfl rfl ?_
        refine gs rfl rfl rfl (eg rfl rfl) rfl rfl ?_
        refine sy (.t ⟨false, [.d (dB (false))]⟩) (zpf rfl (e rfl rfl) rfl (ec rfl)) rfl rfl ?_
        refine sy _ (zmv rfl (e rfl rfl)) rfl rfl ?_
        refine gs rfl rfl rfl (eg rfl rfl) rfl rfl ?_
        refine gs rfl rfl rfl (eg rfl rfl) rfl rfl ?_
        refine gs rfl rfl rfl (eg rfl rfl) rfl rfl ?_
        refine sy (.t ⟨false, [.d (dB (false))]⟩) (zpf rfl (e rfl rfl) rfl (ec rfl)) rfl rfl ?_
        refine sy _ (zmv rfl (e rfl rfl)) rfl rfl ?_
        refine gs rfl rfl rfl (eg rfl rfl) rfl rfl ?_
        refine gs rfl rfl rfl (eg rfl rfl) rfl rfl ?_
        refine gs rfl rfl rfl (eg rfl rfl) rfl rfl ?_
        refine gs rfl rfl rfl (eg rfl rfl) rfl rfl ?_
        refine sy (.t ⟨false, [.d (dB (false))]⟩) (zpf rfl (e rfl rfl) rfl (ec rfl)) rfl rfl ?_
        refine sy _ (zmv rfl (e rfl rfl)) rfl rfl ?_
        refine gs rfl rfl rfl (eg rfl rfl) rfl rfl ?_
        refine gs rfl rfl rfl (eg rfl rfl) rfl rfl ?_
        refine gs rfl rfl rfl (eg rfl rfl) rfl rfl ?_
        refine gs rfl rfl rfl (eg rfl rfl) rfl rfl ?_
        refine sy (.t ⟨false, [.d (dB (false))]⟩) (zpf rfl (e rfl rfl) rfl (ec rfl)) rfl rfl ?_
        refine sy _ (zas rfl (e rfl rfl)) rfl rfl ?_
        refine s_end ?_
        refine v_ret ?_
        subst hr
        exact post_ret (rv (.tmp (eg rfl rfl)) rfl (.lf .nil) rfl .nil) (.ro .nil) rfl
      replace hr := bf_f hg3 hr
      refine gs rfl rfl rfl (eg rfl rfl) hg3 rfl ?_
      refine gs rfl rfl rfl (eg rfl rfl) hg3 rfl ?_
      refine gs rfl rfl rfl (eg rfl rfl) hg3 rfl ?_
      refine sy (.t ⟨false, [.d (dB (false))]⟩) (zpf rfl (e rfl rfl) hg3 (ec rfl)) rfl rfl ?_
      refine sy _ (zmv rfl (e rfl rfl)) rfl rfl ?_
      refine gs rfl rfl rfl (eg rfl rfl) rfl rfl ?_
      refine gs rfl rfl rfl (eg rfl rfl) rfl rfl ?_
      refine gs rfl rfl rfl (eg rfl rfl) rfl rfl ?_
      refine sy (.t ⟨false, [.d (dB (false))]⟩) (zpf rfl (e rfl rfl) rfl (ec rfl)) rfl rfl ?_
      refine sy _ (zmv rfl (e rfl rfl)) rfl rfl ?_
      refine gs rfl rfl rfl (eg rfl rfl) rfl rfl ?_
      refine gs rfl rfl rfl (eg rfl rfl) rfl rfl ?_
      refine gs rfl rfl rfl (eg rfl rfl) rfl rfl ?_
      refine sy (.t ⟨false, [.d (dB (false))]⟩) (zpf rfl (e rfl rfl) rfl (ec rfl)) rfl rfl ?_
      refine sy _ (zmv rfl (e rfl rfl)) rfl rfl ?_
      refine gs rfl rfl rfl (eg rfl rfl) rfl rfl ?_
      refine gs rfl rfl rfl (eg rfl rfl) rfl rfl ?_
      refine gs rfl rfl rfl (eg rfl rfl) rfl rfl ?_
      refine sy (.t ⟨false, [.d (dB (false))]⟩) (zpf rfl (e rfl rfl) rfl (ec rfl)) rfl rfl ?_
      refine sy _ (zmv rfl (e rfl rfl)) rfl rfl ?_
      refine gs rfl rfl rfl (eg rfl rfl) rfl rfl ?_
      refine gs rfl rfl rfl (eg rfl rfl) rfl rfl ?_
      refine gs rfl rfl rfl (eg rfl rfl) rfl rfl ?_
      refine gs rfl rfl rfl (eg rfl rfl) rfl rfl ?_
      refine sy (.t ⟨false, [.d (dB (false))]⟩) (zpf rfl (e rfl rfl) rfl (ec rfl)) rfl rfl ?_
      refine sy _ (zmv rfl (e rfl rfl)) rfl rfl ?_
      refine gs rfl rfl rfl (eg rfl rfl) rfl rfl ?_
      refine gs rfl rfl rfl (eg rfl rfl) rfl rfl ?_
      refine gs rfl rfl rfl (eg rfl rfl) rfl rfl ?_
      refine gs rfl rfl rfl (eg rfl rfl) rfl rfl ?_
      refine sy (.t ⟨false, [.d (dB (false))]⟩) (zpf rfl (e rfl rfl) rfl (ec rfl)) rfl rfl ?_
      refine sy _ (zas rfl (e rfl rfl)) rfl rfl ?_
      refine s_end ?_
      refine v_ret ?_
      subst hr
      exact post_ret (rv (.tmp (eg rfl rfl)) rfl (.lf .nil) rfl .nil) (.ro .nil) rfl
    replace hr := bf_f hg2 hr
    refine gs rfl rfl rfl (eg rfl rfl) hg2 rfl ?_
    refine gs rfl rfl rfl (eg rfl rfl) hg2 rfl ?_
    refine gs rfl rfl rfl (eg rfl rfl) hg2 rfl ?_
    refine sy (.t ⟨false, [.d (dB (false))]⟩) (zpf rfl (e rfl rfl) hg2 (ec rfl)) rfl rfl ?_
    refine sy _ (zmv rfl (e rfl rfl)) rfl rfl ?_
    refine gs rfl rfl rfl (eg rfl rfl) rfl rfl ?_
    refine gs rfl rfl rfl (eg rfl rfl) rfl rfl ?_
    refine gs rfl rfl rfl (eg rfl rfl) rfl rfl ?_
    refine sy (.t ⟨false, [.d (dB (false))]⟩) (zpf rfl (e rfl rfl) rfl (ec rfl)) rfl rfl ?_
    refine sy _ (zmv rfl (e rfl rfl)) rfl rfl ?_
    refine gs rfl rfl rfl (eg rfl rfl) rfl rfl ?_
    refine gs rfl rfl rfl (eg rfl rfl) rfl rfl ?_
    refine gs rfl rfl rfl (eg rfl rfl) rfl rfl ?_
    refine sy (.t ⟨false, [.d (dB (false))]⟩) (zpf rfl (e rfl rfl) rfl (ec rfl)) rfl rfl ?_
    refine sy _ (zmv rfl (e rfl rfl)) rfl rfl ?_
    refine gs rfl rfl rfl (eg rfl rfl) rfl rfl ?_
    refine gs rfl rfl rfl (eg rfl rfl) rfl rfl ?_
    refine gs rfl rfl rfl (eg rfl rfl) rfl rfl ?_
    refine sy (.t ⟨false, [.d (dB (false))]⟩) (zpf rfl (e rfl rfl) rfl (ec rfl)) rfl rfl ?_
    refine sy _ (zmv rfl (e rfl rfl)) rfl rfl ?_
    refine gs rfl rfl rfl (eg rfl rfl) rfl rfl ?_
    refine gs rfl rfl rfl (eg rfl rfl) rfl rfl ?_
    refine gs rfl rfl rfl (eg rfl rfl) rfl rfl ?_
    refine sy (.t ⟨false, [.d (dB (false))]⟩) (zpf rfl (e rfl rfl) rfl (ec rfl)) rfl rfl ?_
    refine sy _ (zmv rfl (e rfl rfl)) rfl rfl ?_
    refine gs rfl rfl rfl (eg rfl rfl) rfl rfl ?_
    refine gs rfl rfl rfl (eg rfl rfl) rfl rfl ?_
    refine gs rfl rfl rfl (eg rfl rfl) rfl rfl ?_
    refine gs rfl rfl rfl (eg rfl rfl) rfl rfl ?_
    refine sy (.t ⟨false, [.d (dB (false))]⟩) (zpf rfl (e rfl rfl) rfl (ec rfl)) rfl rfl ?_
    refine sy _ (zmv rfl (e rfl rfl)) rfl rfl ?_
    refine gs rfl rfl rfl (eg rfl rfl) rfl rfl ?_
    refine gs rfl rfl rfl (eg rfl rfl) rfl rfl ?_
    refine gs rfl rfl rfl (eg rfl rfl) rfl rfl ?_
    refine gs rfl rfl rfl (eg rfl rfl) rfl rfl ?_
    refine sy (.t ⟨false, [.d (dB (false))]⟩) (zpf rfl (e rfl rfl) rfl (ec rfl)) rfl rfl ?_
    refine sy _ (zas rfl (e rfl rfl)) rfl rfl ?_
    refine s_end ?_
    refine v_ret ?_
    subst hr
    exact post_ret (rv (.tmp (eg rfl rfl)) rfl (.lf .nil) rfl .nil) (.ro .nil) rfl
  replace hr := bf_f hg1 hr
  refine gs rfl rfl rfl (eg rfl rfl) hg1 rfl ?_
  refine gs rfl rfl rfl (eg rfl rfl) hg1 rfl ?_
  refine gs rfl rfl rfl (eg rfl rfl) hg1 rfl ?_
  refine sy (.t ⟨false, [.d (dB (false))]⟩) (zpf rfl (e rfl rfl) hg1 (ec rfl)) rfl rfl ?_
  refine sy _ (zmv rfl (e rfl rfl)) rfl rfl ?_
  refine gs rfl rfl rfl (eg rfl rfl) rfl rfl ?_
  refine gs rfl rfl rfl (eg rfl rfl) rfl rfl ?_
  refine gs rfl rfl rfl (eg rfl rfl) rfl rfl ?_
  refine sy (.t ⟨false, [.d (dB (false))]⟩) (zpf rfl (e rfl rfl) rfl (ec rfl)) rfl rfl ?_
  refine sy _ (zmv rfl (e rfl rfl)) rfl rfl ?_
  refine gs rfl rfl rfl (eg rfl rfl) rfl rfl ?_
  refine gs rfl rfl rfl (eg rfl rfl) rfl rfl ?_
  refine gs rfl rfl rfl (eg rfl rfl) rfl rfl ?_
  refine sy (.t ⟨false, [.d (dB (false))]⟩) (zpf rfl (e rfl rfl) rfl (ec rfl)) rfl rfl ?_
  refine sy _ (zmv rfl (e rfl rfl)) rfl rfl ?_
  refine gs rfl rfl rfl (eg rfl rfl) rfl rfl ?_
  refine gs rfl rfl rfl (eg rfl rfl) rfl rfl ?_
  refine gs rfl rfl rfl (eg rfl rfl) rfl rfl ?_
  refine sy (.t ⟨false, [.d (dB (false))]⟩) (zpf rfl (e rfl rfl) rfl (ec rfl)) rfl rfl ?_
  refine sy _ (zmv rfl (e rfl rfl)) rfl rfl ?_
  refine gs rfl rfl rfl (eg rfl rfl) rfl rfl ?_
  refine gs rfl rfl rfl (eg rfl rfl) rfl rfl ?_
  refine gs rfl rfl rfl (eg rfl rfl) rfl rfl ?_
  refine sy (.t ⟨false, [.d (dB (false))]⟩) (zpf rfl (e rfl rfl) rfl (ec rfl)) rfl rfl ?_
  refine sy _ (zmv rfl (e rfl rfl)) rfl rfl ?_
  refine gs rfl rfl rfl (eg rfl rfl) rfl rfl ?_
  refine gs rfl rfl rfl (eg rfl rfl) rfl rfl ?_
  refine gs rfl rfl rfl (eg rfl rfl) rfl rfl ?_
  refine sy (.t ⟨false, [.d (dB (false))]⟩) (zpf rfl (e rfl rfl) rfl (ec rfl)) rfl rfl ?_
  refine sy _ (zmv rfl (e rfl rfl)) rfl rfl ?_
  refine gs rfl rfl rfl (eg rfl rfl) rfl rfl ?_
  refine gs rfl rfl rfl (eg rfl rfl) rfl rfl ?_
  refine gs rfl rfl rfl (eg rfl rfl) rfl rfl ?_
  refine gs rfl rfl rfl (eg rfl rfl) rfl rfl ?_
  refine sy (.t ⟨false, [.d (dB (false))]⟩) (zpf rfl (e rfl rfl) rfl (ec rfl)) rfl rfl ?_
  refine sy _ (zmv rfl (e rfl rfl)) rfl rfl ?_
  refine gs rfl rfl rfl (eg rfl rfl) rfl rfl ?_
  refine gs rfl rfl rfl (eg rfl rfl) rfl rfl ?_
  refine gs rfl rfl rfl (eg rfl rfl) rfl rfl ?_
  refine gs rfl rfl rfl (eg rfl rfl) rfl rfl ?_
  refine sy (.t ⟨false, [.d (dB (false))]⟩) (zpf rfl (e rfl rfl) rfl (ec rfl)) rfl rfl ?_
  refine sy _ (zas rfl (e rfl rfl)) rfl rfl ?_
  refine s_end ?_
  refine v_ret ?_
  subst hr
  exact post_ret (rv (.tmp (eg rfl rfl)) rfl (.lf .nil) rfl .nil) (.ro .nil) rfl
def n_spec_CacheNew (a0 : Int) : Cache := cond (!(n_spec_l1In a0 1 60)) ((⟨1, []⟩ : Cache)) ((⟨a0, []⟩ : Cache))
set_option maxHeartbeats 4000000 in
set_option maxRecDepth 20000 in
theorem tr_n_spec_CacheNew (a0 : Int) : Tr Try.prog 29 [.ro ⟨false, [dI (a0)]⟩] [⟨true, [dI (((n_spec_CacheNew a0)).Cap), .sl 6 ((((n_spec_CacheNew a0)).L).map Entry.cells)]⟩] := by
  obtain ⟨r, hr⟩ : ∃ r, n_spec_CacheNew a0 = r := ⟨_, rfl⟩
  rw [hr]
  rw [n_spec_CacheNew] at hr
  refine tr_go tabOk Try.func29 rfl rfl rfl rfl rfl (ov := [(0, .t ⟨false, [.d (dI (a0))]⟩)]) (hv := []) rfl rfl ?_
  refine v_seq ?_
  refine v_reg ?_
  refine sr 0 (.t ⟨false, [.vp 0 0]⟩) (.var [.d (dI (0)), .nl 6]) (zal tabOk rfl rfl rfl rfl) rfl rfl ?_
  refine s_end ?_
  refine v_seq ?_
  refine v_seq ?_
  refine v_reg ?_
  refine sy _ (zmv rfl (e rfl rfl)) rfl rfl ?_
  refine sd (.t ⟨false, [.d (dB (n_spec_l1In a0 1 60))]⟩) (zcall 1 (.t ⟨false, [.d (dB (n_spec_l1In a0 1 60))]⟩) [] rfl (tr_n_spec_l1In a0 1 60) (ar (e rfl rfl) (.d .nil) (ar (ec rfl) (.d .nil) (ar (ec rfl) (.d .nil) .nil))) rfl rfl rfl) rfl rfl rfl rfl ?_
  refine sy (.t ⟨false, [.d (dB (!(n_spec_l1In a0 1 60)))]⟩) (y_un rfl (e rfl rfl) (fun _ => u_not) rfl) rfl rfl ?_
  refine s_end ?_
  refine v_cond (e rfl rfl) (fun hb1 => ?_) fun hb1 => ?_
  · replace hr := bf_t hb1 hr
    have hn2 := not_t hb1
    refine v_reg ?_
    refine sy _ (zas rfl (ec rfl)) rfl rfl ?_
    refine s_end ?_
    refine v_seq ?_
    refine v_reg ?_
    refine sy _ (zmv rfl (e rfl rfl)) rfl rfl ?_
    refine sy (.t ⟨true, [.d (dI (1)), .nl 6]⟩) (zbd tabOk rfl rfl (pv rfl (e rfl rfl) rfl rfl .nil)) rfl rfl ?_
    refine sw 0 (.var [.d (dI (1)), .nl 6]) (zst tabOk rfl (e rfl rfl) rfl (e rfl rfl) rfl rfl rfl) rfl rfl ?_
    refine s_end ?_
    refine v_ret ?_
    subst hr
    exact post_ret (rv (.cell (eg rfl rfl) rfl rfl (.inl rfl) rfl) rfl (.lf (.nl .nil)) rfl .nil) (.ro .nil) rfl
  replace hr := bf_f hb1 hr
  have hn3 := not_f hb1
  refine v_skip ?_
  refine v_seq ?_
  refine v_reg ?_
  refine sy _ (zmv rfl (e rfl rfl)) rfl rfl ?_
  refine sy (.t ⟨true, [.d (dI (a0)), .nl 6]⟩) (zbd tabOk rfl rfl (pv rfl (e rfl rfl) rfl rfl .nil)) rfl rfl ?_
  refine sw 0 (.var [.d (dI (a0)), .nl 6]) (zst tabOk rfl (e rfl rfl) rfl (e rfl rfl) rfl rfl rfl) rfl rfl ?_
  refine s_end ?_
  refine v_ret ?_
  subst hr
  exact post_ret (rv (.cell (eg rfl rfl) rfl rfl (.inl rfl) rfl) rfl (.lf (.nl .nil)) rfl .nil) (.ro .nil) rfl
def n_impl_CacheNew (a0 : Int) : Cache := cond (decide ((a0) < (1))) ((⟨1, []⟩ : Cache)) (cond (decide ((60) < (a0))) ((⟨1, []⟩ : Cache)) ((⟨a0, []⟩ : Cache)))
set_option maxHeartbeats 4000000 in
set_option maxRecDepth 20000 in
theorem tr_n_impl_CacheNew (a0 : Int) : Tr Try.prog 33 [.ro ⟨false, [dI (a0)]⟩] [⟨true, [dI (((n_impl_CacheNew a0)).Cap), .sl 6 ((((n_impl_CacheNew a0)).L).map Entry.cells)]⟩] := by
  obtain ⟨r, hr⟩ : ∃ r, n_impl_CacheNew a0 = r := ⟨_, rfl⟩
  rw [hr]
  rw [n_impl_CacheNew] at hr
  refine tr_go tabOk Try.func33 rfl rfl rfl rfl rfl (ov := [(0, .t ⟨false, [.d (dI (a0))]⟩)]) (hv := []) rfl rfl ?_
  refine v_seq ?_
  refine v_reg ?_
  refine sr 0 (.t ⟨false, [.vp 0 0]⟩) (.var [.d (dI (0)), .nl 6]) (zal tabOk rfl rfl rfl rfl) rfl rfl ?_
  refine s_end ?_
  refine v_seq ?_
  refine v_seq ?_
  refine v_reg ?_
  refine sy _ (zmv rfl (e rfl rfl)) rfl rfl ?_
  refine sy (.t ⟨false, [.d (dB (decide ((a0) < (1))))]⟩) (y_bin rfl (e rfl rfl) (ec rfl) (fun _ => b_lss) rfl) rfl rfl ?_
  refine sy _ (zmv rfl (e rfl rfl)) rfl rfl ?_
  rcases Bool.eq_false_or_eq_true (decide ((a0) < (1))) with hg1 | hg1
  · replace hr := bf_t hg1 hr
    have hg1p := dec_t hg1
    refine gs rfl rfl rfl (eg rfl rfl) hg1 rfl ?_
    refine gs rfl rfl rfl (eg rfl rfl) hg1 rfl ?_
    refine sy (.t ⟨false, [.d (dB (true))]⟩) (zpt rfl (e rfl rfl) hg1 (ec rfl)) rfl rfl ?_
    refine s_end ?_
    refine v_cT (e rfl rfl) rfl ?_
    refine v_reg ?_
    refine sy _ (zas rfl (ec rfl)) rfl rfl ?_
    refine s_end ?_
    refine v_seq ?_
    refine v_reg ?_
    refine sy _ (zmv rfl (e rfl rfl)) rfl rfl ?_
    refine sy (.t ⟨true, [.d (dI (1)), .nl 6]⟩) (zbd tabOk rfl rfl (pv rfl (e rfl rfl) rfl rfl .nil)) rfl rfl ?_
    refine sw 0 (.var [.d (dI (1)), .nl 6]) (zst tabOk rfl (e rfl rfl) rfl (e rfl rfl) rfl rfl rfl) rfl rfl ?_
    refine s_end ?_
    refine v_ret ?_
    subst hr
    exact post_ret (rv (.cell (eg rfl rfl) rfl rfl (.inl rfl) rfl) rfl (.lf (.nl .nil)) rfl .nil) (.ro .nil) rfl
  replace hr := bf_f hg1 hr
  have hg1p := dec_f hg1
  refine gr rfl rfl rfl (eg rfl rfl) hg1 ?_
  refine sy _ (zmv rfl (e rfl rfl)) rfl rfl ?_
  refine gr rfl rfl rfl (eg rfl rfl) hg1 ?_
  refine sy (.t ⟨false, [.d (dB (decide ((60) < (a0))))]⟩) (y_bin rfl (e rfl rfl) (ec rfl) (fun _ => b_gtr) rfl) rfl rfl ?_
  refine sy (.t ⟨false, [.d (dB (decide ((60) < (a0))))]⟩) (zpf rfl (e rfl rfl) hg1 (e rfl rfl)) rfl rfl ?_
  refine s_end ?_
  refine v_cond (e rfl rfl) (fun hb2 => ?_) fun hb2 => ?_
  · replace hr := bf_t hb2 hr
    have hb2p := dec_t hb2
    refine v_reg ?_
    refine sy _ (zas rfl (ec rfl)) rfl rfl ?_
    refine s_end ?_
    refine v_seq ?_
    refine v_reg ?_
    refine sy _ (zmv rfl (e rfl rfl)) rfl rfl ?_
    refine sy (.t ⟨true, [.d (dI (1)), .nl 6]⟩) (zbd tabOk rfl rfl (pv rfl (e rfl rfl) rfl rfl .nil)) rfl rfl ?_
    refine sw 0 (.var [.d (dI (1)), .nl 6]) (zst tabOk rfl (e rfl rfl) rfl (e rfl rfl) rfl rfl rfl) rfl rfl ?_
    refine s_end ?_
    refine v_ret ?_
    subst hr
    exact post_ret (rv (.cell (eg rfl rfl) rfl rfl (.inl rfl) rfl) rfl (.lf (.nl .nil)) rfl .nil) (.ro .nil) rfl
  replace hr := bf_f hb2 hr
  have hb2p := dec_f hb2
  refine v_skip ?_
  refine v_seq ?_
  refine v_reg ?_
  refine sy _ (zmv rfl (e rfl rfl)) rfl rfl ?_
  refine sy (.t ⟨true, [.d (dI (a0)), .nl 6]⟩) (zbd tabOk rfl rfl (pv rfl (e rfl rfl) rfl rfl .nil)) rfl rfl ?_
  refine sw 0 (.var [.d (dI (a0)), .nl 6]) (zst tabOk rfl (e rfl rfl) rfl (e rfl rfl) rfl rfl rfl) rfl rfl ?_
  refine s_end ?_
  refine v_ret ?_
  subst hr
  exact post_ret (rv (.cell (eg rfl rfl) rfl rfl (.inl rfl) rfl) rfl (.lf (.nl .nil)) rfl .nil) (.ro .nil) rfl
def n_spec_WorldNew (a0 : Conf) : World := cond (!(n_spec_ConfOk a0)) ((⟨⟨0, 0, 0, 0, 0, 0, 0, []⟩, 0, ⟨0, []⟩, [], [], [], [], 0⟩ : World)) (bindv (n_spec_CacheNew a0.Cap) (fun v1 => (⟨a0, 0, v1, [], [], [], [], 0⟩ : World)))
set_option maxHeartbeats 4000000 in
set_option maxRecDepth 20000 in
theorem tr_n_spec_WorldNew (a0 : Conf) (h0 : Conf.Fit a0) : Tr Try.prog 7 [.ro ⟨true, [dI (a0.Quota), dI (a0.Depth), dI (a0.Chain), dI (a0.Glue), dI (a0.Tries), dI (a0.Addrs), dI (a0.Cap), .sl 1 (a0.Roots.map encI)]⟩] [⟨true, [dI ((((n_spec_WorldNew a0)).C).Quota), dI ((((n_spec_WorldNew a0)).C).Depth), dI ((((n_spec_WorldNew a0)).C).Chain), dI ((((n_spec_WorldNew a0)).C).Glue), dI ((((n_spec_WorldNew a0)).C).Tries), dI ((((n_spec_WorldNew a0)).C).Addrs), dI ((((n_spec_WorldNew a0)).C).Cap), .sl 1 (((((n_spec_WorldNew a0)).C).Roots).map encI), dI (((n_spec_WorldNew a0)).Now), dI ((((n_spec_WorldNew a0)).K).Cap), .sl 6 (((((n_spec_WorldNew a0)).K).L).map Entry.cells), .sl 3 ((((n_spec_WorldNew a0)).Bad).map Lame.cells), .sl 7 ((((n_spec_WorldNew a0)).Jobs).map Job.cells), .sl 2 ((((n_spec_WorldNew a0)).Outs).map Packet.cells), .sl 8 ((((n_spec_WorldNew a0)).Reps).map Answer.cells), dI (((n_spec_WorldNew a0)).Next)]⟩] := by
  obtain ⟨r, hr⟩ : ∃ r, n_spec_WorldNew a0 = r := ⟨_, rfl⟩
  rw [hr]
  rw [n_spec_WorldNew] at hr
  refine tr_go tabOk Try.func7 rfl rfl rfl rfl rfl (ov := [(0, .t ⟨true, [.d (dI (a0.Quota)), .d (dI (a0.Depth)), .d (dI (a0.Chain)), .d (dI (a0.Glue)), .d (dI (a0.Tries)), .d (dI (a0.Addrs)), .d (dI (a0.Cap)), .d (.sl 1 (a0.Roots.map encI))]⟩)]) (hv := []) rfl rfl ?_
  refine v_seq ?_
  refine v_reg ?_
  refine sr 0 (.t ⟨false, [.vp 0 0]⟩) (.var [.d (dI (a0.Quota)), .d (dI (a0.Depth)), .d (dI (a0.Chain)), .d (dI (a0.Glue)), .d (dI (a0.Tries)), .d (dI (a0.Addrs)), .d (dI (a0.Cap)), .d (.sl 1 (a0.Roots.map encI))]) (zbx rfl (e rfl rfl) rfl rfl rfl) rfl rfl ?_
  refine sr 1 (.t ⟨false, [.vp 1 0]⟩) (.var [.d (dI (0)), .d (dI (0)), .d (dI (0)), .d (dI (0)), .d (dI (0)), .d (dI (0)), .d (dI (0)), .nl 1, .d (dI (0)), .d (dI (0)), .nl 6, .nl 3, .nl 7, .nl 2, .nl 8, .d (dI (0))]) (zal tabOk rfl rfl rfl rfl) rfl rfl ?_
  refine s_end ?_
  refine v_seq ?_
  refine v_seq ?_
  refine v_reg ?_
  refine sy (.t ⟨true, [.d (dI (a0.Quota)), .d (dI (a0.Depth)), .d (dI (a0.Chain)), .d (dI (a0.Glue)), .d (dI (a0.Tries)), .d (dI (a0.Addrs)), .d (dI (a0.Cap)), .d (.sl 1 (a0.Roots.map encI))]⟩) (zlv tabOk rfl (e rfl rfl) rfl rfl rfl) rfl rfl ?_
  refine sd (.t ⟨false, [.d (dB (n_spec_ConfOk a0))]⟩) (zcall 2 (.t ⟨false, [.d (dB (n_spec_ConfOk a0))]⟩) [] rfl (tr_n_spec_ConfOk a0 h0) (ar (e rfl rfl) (.d (.d (.d (.d (.d (.d (.d (.d .nil)))))))) .nil) rfl rfl rfl) rfl rfl rfl rfl ?_
  refine sy (.t ⟨false, [.d (dB (!(n_spec_ConfOk a0)))]⟩) (y_un rfl (e rfl rfl) (fun _ => u_not) rfl) rfl rfl ?_
  refine s_end ?_
  refine v_cond (e rfl rfl) (fun hb1 => ?_) fun hb1 => ?_
  · replace hr := bf_t hb1 hr
    have hn2 := not_t hb1
    refine v_seq ?_
    refine v_reg ?_
    refine sy (.t ⟨true, [.d (dI (0)), .d (dI (0)), .d (dI (0)), .d (dI (0)), .d (dI (0)), .d (dI (0)), .d (dI (0)), .nl 1, .d (dI (0)), .d (dI (0)), .nl 6, .nl 3, .nl 7, .nl 2, .nl 8, .d (dI (0))]⟩) (zbd tabOk rfl rfl .nil) rfl rfl ?_
    refine sw 1 (.var [.d (dI (0)), .d (dI (0)), .d (dI (0)), .d (dI (0)), .d (dI (0)), .d (dI (0)), .d (dI (0)), .nl 1, .d (dI (0)), .d (dI (0)), .nl 6, .nl 3, .nl 7, .nl 2, .nl 8, .d (dI (0))]) (zst tabOk rfl (e rfl rfl) rfl (e rfl rfl) rfl rfl rfl) rfl rfl ?_
    refine s_end ?_
    refine v_ret ?_
    subst hr
    exact post_ret (rv (.cell (eg rfl rfl) rfl rfl (.inl rfl) rfl) rfl (.lf (.lf (.lf (.lf (.lf (.lf (.lf (.nl (.lf (.lf (.nl (.nl (.nl (.nl (.nl (.lf .nil)))))))))))))))) rfl .nil) (.ro .nil) rfl
  replace hr := bf_f hb1 hr
  have hn3 := not_f hb1
  refine v_skip ?_
  refine v_seq ?_
  refine v_reg ?_
  refine sy (.t ⟨true, [.d (dI (a0.Quota)), .d (dI (a0.Depth)), .d (dI (a0.Chain)), .d (dI (a0.Glue)), .d (dI (a0.Tries)), .d (dI (a0.Addrs)), .d (dI (a0.Cap)), .d (.sl 1 (a0.Roots.map encI))]⟩) (zlv tabOk rfl (e rfl rfl) rfl rfl rfl) rfl rfl ?_
  refine sr 2 (.t ⟨false, [.vp 2 0]⟩) (.var [.d (dI (0)), .d (dI (0)), .d (dI (0)), .d (dI (0)), .d (dI (0)), .d (dI (0)), .d (dI (0)), .nl 1]) (zal tabOk rfl rfl rfl rfl) rfl rfl ?_
  refine sw 2 (.var [.d (dI (a0.Quota)), .d (dI (a0.Depth)), .d (dI (a0.Chain)), .d (dI (a0.Glue)), .d (dI (a0.Tries)), .d (dI (a0.Addrs)), .d (dI (a0.Cap)), .d (.sl 1 (a0.Roots.map encI))]) (zst tabOk rfl (e rfl rfl) rfl (e rfl rfl) rfl rfl rfl) rfl rfl ?_
  refine s_end ?_
  refine v_seq ?_
  refine v_reg ?_
  refine sbk 3 (.t ⟨false, [.sr 3 1 0 ((([] : List Int).map encI).length) ((([] : List Int).map encI).length)]⟩) (.row 1 (([] : List Int).map encI) true 1 0) (zbu tabOk rfl rfl rfl rfl .nil rfl rfl) rfl rfl ?_
  refine sy (.t ⟨false, [.vp 0 7]⟩) (zfa tabOk rfl rfl rfl (e rfl rfl) rfl rfl) rfl rfl ?_
  refine sy (.t ⟨false, [.d (.sl 1 (a0.Roots.map encI))]⟩) (zlv tabOk rfl (e rfl rfl) rfl rfl rfl) rfl rfl ?_
  have hB2 := (h0.Roots).1
  refine sa 3 (.t ⟨false, [.sr 3 2 0 (((a0.Roots).map encI).length) (((a0.Roots).map encI).length)]⟩) (.row 1 ((a0.Roots).map encI) true 2 1) (zap tabOk rfl rfl rfl rfl (e rfl rfl) rfl rfl (e rfl rfl) (.d (flat_I _)) (ap_big (by simp only [List.length_map, List.length_cons, List.length_nil]; omega) rfl) rfl (by simp only [List.length_map, List.length_append, List.length_cons, List.length_nil]; omega)) rfl rfl ?_
  refine sy (.t ⟨false, [.vp 2 7]⟩) (zfa tabOk rfl rfl rfl (e rfl rfl) rfl rfl) rfl rfl ?_
  refine sw 2 (.var [.d (dI (a0.Quota)), .d (dI (a0.Depth)), .d (dI (a0.Chain)), .d (dI (a0.Glue)), .d (dI (a0.Tries)), .d (dI (a0.Addrs)), .d (dI (a0.Cap)), .sr 3 2 0 (((a0.Roots).map encI).length) (((a0.Roots).map encI).length)]) (zst tabOk rfl (e rfl rfl) rfl (e rfl rfl) rfl rfl rfl) rfl rfl ?_
  refine s_end ?_
  refine v_seq ?_
  obtain ⟨v1, ev1⟩ : ∃ v : Cache, v = n_spec_CacheNew a0.Cap := ⟨_, rfl⟩
  replace hr := bv_step ev1 hr
  refine v_drw2 [⟨.t ⟨true, [.d (dI (a0.Quota)), .d (dI (a0.Depth)), .d (dI (a0.Chain)), .d (dI (a0.Glue)), .d (dI (a0.Tries)), .d (dI (a0.Addrs)), .d (dI (a0.Cap)), .sr 3 2 0 (((a0.Roots).map encI).length) (((a0.Roots).map encI).length)]⟩, [], [3], [2], false⟩, ⟨.t ⟨false, [.vp 0 6]⟩, [], [1], [], false⟩, ⟨.t ⟨false, [.d (dI (a0.Cap))]⟩, [], [15], [0], false⟩, ⟨.t ⟨true, [.d (dI (v1.Cap)), .sr 4 1 0 ((v1.L.map Entry.cells).length) ((v1.L.map Entry.cells).length)]⟩, [(4, .row 6 (v1.L.map Entry.cells) true 1 0)], [16], [], false⟩, ⟨.t ⟨true, [.d (dI (a0.Quota)), .d (dI (a0.Depth)), .d (dI (a0.Chain)), .d (dI (a0.Glue)), .d (dI (a0.Tries)), .d (dI (a0.Addrs)), .d (dI (a0.Cap)), .sr 3 2 0 (((a0.Roots).map encI).length) (((a0.Roots).map encI).length), .d (dI (0)), .d (dI (v1.Cap)), .sr 4 1 0 ((v1.L.map Entry.cells).length) ((v1.L.map Entry.cells).length), .nl 3, .nl 7, .nl 2, .nl 8, .d (dI (0))]⟩, [], [14, 17], [], false⟩] mixed (.c rfl (.c rfl (.c rfl (.c rfl (.c rfl .nil))))) (.s rfl (.s rfl (.s rfl (.g rfl (.s rfl .nil))))) (by kernel_rfl) (by kernel_rfl) ⟨gN rfl rfl (fun t h A => by exact dy (zlv tabOk rfl (A.e rfl rfl rfl) (A.h rfl rfl) rfl rfl)), gN rfl rfl (fun t h A => by exact dy (zfa tabOk rfl rfl rfl (A.e rfl rfl rfl) rfl rfl)), gN rfl rfl (fun t h A => by exact dy (zlv tabOk rfl (A.e rfl rfl rfl) (A.h rfl rfl) rfl rfl)), gN rfl rfl (fun t h A => by exact zcallA 4 (.t ⟨true, [.d (dI (v1.Cap)), .sr 4 1 0 ((v1.L.map Entry.cells).length) ((v1.L.map Entry.cells).length)]⟩) [(4, .row 6 (v1.L.map Entry.cells) true 1 0)] rfl (by rw [ev1]; exact (tr_n_spec_CacheNew a0.Cap) : Tr Try.prog 29 _ [⟨true, [dI (v1.Cap), .sl 6 (v1.L.map Entry.cells)]⟩]) (ar (A.e rfl rfl rfl) (.d .nil) .nil) rfl (A.free rfl) rfl rfl), gN rfl rfl (fun t h A => by exact dy (zbd tabOk rfl rfl (pv rfl (A.e rfl rfl rfl) rfl rfl (pv rfl (A.e rfl rfl rfl) rfl rfl .nil)))), trivial⟩ ?_
  refine sw 1 (.var [.d (dI (a0.Quota)), .d (dI (a0.Depth)), .d (dI (a0.Chain)), .d (dI (a0.Glue)), .d (dI (a0.Tries)), .d (dI (a0.Addrs)), .d (dI (a0.Cap)), .sr 3 2 0 (((a0.Roots).map encI).length) (((a0.Roots).map encI).length), .d (dI (0)), .d (dI (v1.Cap)), .sr 4 1 0 ((v1.L.map Entry.cells).length) ((v1.L.map Entry.cells).length), .nl 3, .nl 7, .nl 2, .nl 8, .d (dI (0))]) (zst tabOk rfl (e rfl rfl) rfl (e rfl rfl) rfl rfl rfl) rfl rfl ?_
  refine s_end ?_
  refine v_ret ?_
  subst hr
  exact post_ret (rv (.cell (eg rfl rfl) rfl rfl (.inl rfl) rfl) rfl (.lf (.lf (.lf (.lf (.lf (.lf (.lf (.sr rfl le_all take_all (.lf (.lf (.sr rfl le_all take_all (.nl (.nl (.nl (.nl (.lf .nil)))))))))))))))) rfl .nil) (.ro .nil) rfl
def n_impl_WorldNew (a0 : Conf) : World := cond (!(n_impl_ConfOk a0)) ((⟨⟨0, 0, 0, 0, 0, 0, 0, []⟩, 0, ⟨0, []⟩, [], [], [], [], 0⟩ : World)) (bindv (n_impl_CacheNew a0.Cap) (fun v1 => (⟨a0, 0, v1, [], [], [], [], 0⟩ : World)))
set_option maxHeartbeats 4000000 in
set_option maxRecDepth 20000 in
theorem tr_n_impl_WorldNew (a0 : Conf) (h0 : Conf.Fit a0) : Tr Try.prog 9 [.ro ⟨true, [dI (a0.Quota), dI (a0.Depth), dI (a0.Chain), dI (a0.Glue), dI (a0.Tries), dI (a0.Addrs), dI (a0.Cap), .sl 1 (a0.Roots.map encI)]⟩] [⟨true, [dI ((((n_impl_WorldNew a0)).C).Quota), dI ((((n_impl_WorldNew a0)).C).Depth), dI ((((n_impl_WorldNew a0)).C).Chain), dI ((((n_impl_WorldNew a0)).C).Glue), dI ((((n_impl_WorldNew a0)).C).Tries), dI ((((n_impl_WorldNew a0)).C).Addrs), dI ((((n_impl_WorldNew a0)).C).Cap), .sl 1 (((((n_impl_WorldNew a0)).C).Roots).map encI), dI (((n_impl_WorldNew a0)).Now), dI ((((n_impl_WorldNew a0)).K).Cap), .sl 6 (((((n_impl_WorldNew a0)).K).L).map Entry.cells), .sl 3 ((((n_impl_WorldNew a0)).Bad).map Lame.cells), .sl 7 ((((n_impl_WorldNew a0)).Jobs).map Job.cells), .sl 2 ((((n_impl_WorldNew a0)).Outs).map Packet.cells), .sl 8 ((((n_impl_WorldNew a0)).Reps).map Answer.cells), dI (((n_impl_WorldNew a0)).Next)]⟩] := by
  obtain ⟨r, hr⟩ : ∃ r, n_impl_WorldNew a0 = r := ⟨_, rfl⟩
  rw [hr]
  rw [n_impl_WorldNew] at hr
  refine tr_go tabOk Try.func9 rfl rfl rfl rfl rfl (ov := [(0, .t ⟨true, [.d (dI (a0.Quota)), .d (dI (a0.Depth)), .d (dI (a0.Chain)), .d (dI (a0.Glue)), .d (dI (a0.Tries)), .d (dI (a0.Addrs)), .d (dI (a0.Cap)), .d (.sl 1 (a0.Roots.map encI))]⟩)]) (hv := []) rfl rfl ?_
  refine v_seq ?_
  refine v_reg ?_
  refine sr 0 (.t ⟨false, [.vp 0 0]⟩) (.var [.d (dI (a0.Quota)), .d (dI (a0.Depth)), .d (dI (a0.Chain)), .d (dI (a0.Glue)), .d (dI (a0.Tries)), .d (dI (a0.Addrs)), .d (dI (a0.Cap)), .d (.sl 1 (a0.Roots.map encI))]) (zbx rfl (e rfl rfl) rfl rfl rfl) rfl rfl ?_
  refine sr 1 (.t ⟨false, [.vp 1 0]⟩) (.var [.d (dI (0)), .d (dI (0)), .d (dI (0)), .d (dI (0)), .d (dI (0)), .d (dI (0)), .d (dI (0)), .nl 1, .d (dI (0)), .d (dI (0)), .nl 6, .nl 3, .nl 7, .nl 2, .nl 8, .d (dI (0))]) (zal tabOk rfl rfl rfl rfl) rfl rfl ?_
  refine s_end ?_
  refine v_seq ?_
  refine v_seq ?_
  refine v_reg ?_
  refine sy (.t ⟨true, [.d (dI (a0.Quota)), .d (dI (a0.Depth)), .d (dI (a0.Chain)), .d (dI (a0.Glue)), .d (dI (a0.Tries)), .d (dI (a0.Addrs)), .d (dI (a0.Cap)), .d (.sl 1 (a0.Roots.map encI))]⟩) (zlv tabOk rfl (e rfl rfl) rfl rfl rfl) rfl rfl ?_
  refine sd (.t ⟨false, [.d (dB (n_impl_ConfOk a0))]⟩) (zcall 2 (.t ⟨false, [.d (dB (n_impl_ConfOk a0))]⟩) [] rfl (tr_n_impl_ConfOk a0 h0) (ar (e rfl rfl) (.d (.d (.d (.d (.d (.d (.d (.d .nil)))))))) .nil) rfl rfl rfl) rfl rfl rfl rfl ?_
  refine sy (.t ⟨false, [.d (dB (!(n_impl_ConfOk a0)))]⟩) (y_un rfl (e rfl rfl) (fun _ => u_not) rfl) rfl rfl ?_
  refine s_end ?_
  refine v_cond (e rfl rfl) (fun hb1 => ?_) fun hb1 => ?_
  · replace hr := bf_t hb1 hr
    have hn2 := not_t hb1
    refine v_seq ?_
    refine v_reg ?_
    refine sy (.t ⟨true, [.d (dI (0)), .d (dI (0)), .d (dI (0)), .d (dI (0)), .d (dI (0)), .d (dI (0)), .d (dI (0)), .nl 1, .d (dI (0)), .d (dI (0)), .nl 6, .nl 3, .nl 7, .nl 2, .nl 8, .d (dI (0))]⟩) (zbd tabOk rfl rfl .nil) rfl rfl ?_
    refine sw 1 (.var [.d (dI (0)), .d (dI (0)), .d (dI (0)), .d (dI (0)), .d (dI (0)), .d (dI (0)), .d (dI (0)), .nl 1, .d (dI (0)), .d (dI (0)), .nl 6, .nl 3, .nl 7, .nl 2, .nl 8, .d (dI (0))]) (zst tabOk rfl (e rfl rfl) rfl (e rfl rfl) rfl rfl rfl) rfl rfl ?_
    refine s_end ?_
    refine v_ret ?_
    subst hr
    exact post_ret (rv (.cell (eg rfl rfl) rfl rfl (.inl rfl) rfl) rfl (.lf (.lf (.lf (.lf (.lf (.lf (.lf (.nl (.lf (.lf (.nl (.nl (.nl (.nl (.nl (.lf .nil)))))))))))))))) rfl .nil) (.ro .nil) rfl
  replace hr := bf_f hb1 hr
  have hn3 := not_f hb1
  refine v_skip ?_
  refine v_seq ?_
  refine v_reg ?_
  refine sy (.t ⟨false, [.vp 0 7]⟩) (zfa tabOk rfl rfl rfl (e rfl rfl) rfl rfl) rfl rfl ?_
  refine sy (.t ⟨false, [.d (.sl 1 (a0.Roots.map encI))]⟩) (zlv tabOk rfl (e rfl rfl) rfl rfl rfl) rfl rfl ?_
  refine sd (.t ⟨false, [.sr 2 1 0 ((a0.Roots.map encI).length) ((a0.Roots.map encI).length)]⟩) (zcall 2 (.t ⟨false, [.sr 2 1 0 ((a0.Roots.map encI).length) ((a0.Roots.map encI).length)]⟩) [(2, .row 1 (a0.Roots.map encI) true 1 0)] rfl (tr_clone_encI a0.Roots (Nat.le_trans h0.Roots.1 (by decide))) (ar (e rfl rfl) (.d .nil) .nil) rfl rfl rfl) rfl rfl rfl rfl ?_
  refine sy (.t ⟨false, [.vp 0 7]⟩) (zfa tabOk rfl rfl rfl (e rfl rfl) rfl rfl) rfl rfl ?_
  refine sw 0 (.var [.d (dI (a0.Quota)), .d (dI (a0.Depth)), .d (dI (a0.Chain)), .d (dI (a0.Glue)), .d (dI (a0.Tries)), .d (dI (a0.Addrs)), .d (dI (a0.Cap)), .sr 2 1 0 ((a0.Roots.map encI).length) ((a0.Roots.map encI).length)]) (zst tabOk rfl (e rfl rfl) rfl (e rfl rfl) rfl rfl rfl) rfl rfl ?_
  refine s_end ?_
  refine v_seq ?_
  obtain ⟨v1, ev1⟩ : ∃ v : Cache, v = n_impl_CacheNew a0.Cap := ⟨_, rfl⟩
  replace hr := bv_step ev1 hr
  refine v_drw2 [⟨.t ⟨true, [.d (dI (a0.Quota)), .d (dI (a0.Depth)), .d (dI (a0.Chain)), .d (dI (a0.Glue)), .d (dI (a0.Tries)), .d (dI (a0.Addrs)), .d (dI (a0.Cap)), .sr 2 1 0 ((a0.Roots.map encI).length) ((a0.Roots.map encI).length)]⟩, [], [1], [0], false⟩, ⟨.t ⟨false, [.vp 0 6]⟩, [], [1], [], false⟩, ⟨.t ⟨false, [.d (dI (a0.Cap))]⟩, [], [12], [0], false⟩, ⟨.t ⟨true, [.d (dI (v1.Cap)), .sr 3 1 0 ((v1.L.map Entry.cells).length) ((v1.L.map Entry.cells).length)]⟩, [(3, .row 6 (v1.L.map Entry.cells) true 1 0)], [13], [], false⟩, ⟨.t ⟨true, [.d (dI (a0.Quota)), .d (dI (a0.Depth)), .d (dI (a0.Chain)), .d (dI (a0.Glue)), .d (dI (a0.Tries)), .d (dI (a0.Addrs)), .d (dI (a0.Cap)), .sr 2 1 0 ((a0.Roots.map encI).length) ((a0.Roots.map encI).length), .d (dI (0)), .d (dI (v1.Cap)), .sr 3 1 0 ((v1.L.map Entry.cells).length) ((v1.L.map Entry.cells).length), .nl 3, .nl 7, .nl 2, .nl 8, .d (dI (0))]⟩, [], [11, 14], [], false⟩] mixed (.c rfl (.c rfl (.c rfl (.c rfl (.c rfl .nil))))) (.s rfl (.s rfl (.s rfl (.g rfl (.s rfl .nil))))) (by kernel_rfl) (by kernel_rfl) ⟨gN rfl rfl (fun t h A => by exact dy (zlv tabOk rfl (A.e rfl rfl rfl) (A.h rfl rfl) rfl rfl)), gN rfl rfl (fun t h A => by exact dy (zfa tabOk rfl rfl rfl (A.e rfl rfl rfl) rfl rfl)), gN rfl rfl (fun t h A => by exact dy (zlv tabOk rfl (A.e rfl rfl rfl) (A.h rfl rfl) rfl rfl)), gN rfl rfl (fun t h A => by exact zcallA 3 (.t ⟨true, [.d (dI (v1.Cap)), .sr 3 1 0 ((v1.L.map Entry.cells).length) ((v1.L.map Entry.cells).length)]⟩) [(3, .row 6 (v1.L.map Entry.cells) true 1 0)] rfl (by rw [ev1]; exact (tr_n_impl_CacheNew a0.Cap) : Tr Try.prog 33 _ [⟨true, [dI (v1.Cap), .sl 6 (v1.L.map Entry.cells)]⟩]) (ar (A.e rfl rfl rfl) (.d .nil) .nil) rfl (A.free rfl) rfl rfl), gN rfl rfl (fun t h A => by exact dy (zbd tabOk rfl rfl (pv rfl (A.e rfl rfl rfl) rfl rfl (pv rfl (A.e rfl rfl rfl) rfl rfl .nil)))), trivial⟩ ?_
  refine sw 1 (.var [.d (dI (a0.Quota)), .d (dI (a0.Depth)), .d (dI (a0.Chain)), .d (dI (a0.Glue)), .d (dI (a0.Tries)), .d (dI (a0.Addrs)), .d (dI (a0.Cap)), .sr 2 1 0 ((a0.Roots.map encI).length) ((a0.Roots.map encI).length), .d (dI (0)), .d (dI (v1.Cap)), .sr 3 1 0 ((v1.L.map Entry.cells).length) ((v1.L.map Entry.cells).length), .nl 3, .nl 7, .nl 2, .nl 8, .d (dI (0))]) (zst tabOk rfl (e rfl rfl) rfl (e rfl rfl) rfl rfl rfl) rfl rfl ?_
  refine s_end ?_
  refine v_ret ?_
  subst hr
  exact post_ret (rv (.cell (eg rfl rfl) rfl rfl (.inl rfl) rfl) rfl (.lf (.lf (.lf (.lf (.lf (.lf (.lf (.sr rfl le_all take_all (.lf (.lf (.sr rfl le_all take_all (.nl (.nl (.nl (.nl (.lf .nil)))))))))))))))) rfl .nil) (.ro .nil) rfl
def n_spec_Top (a0 : Job) : Frame × Bool := cond (decide ((((a0.Stack).length : Int)) = (0))) (((⟨⟨⟨#[]⟩, 0⟩, ⟨⟨#[]⟩, 0⟩, [], ⟨#[]⟩, [], [], 0, 0, 0, ⟨0, 0, 0, 0⟩⟩ : Frame), false)) (atL (a0.Stack) ((((a0.Stack).length : Int) - 1).toNat) (fun x1 => (x1, true)))
set_option maxHeartbeats 4000000 in
set_option maxRecDepth 20000 in
theorem tr_n_spec_Top (a0 : Job) (h0 : Job.Fit a0) : Tr Try.prog 55 [.ro ⟨true, [dI (a0.No), dI (a0.Client), dS (a0.Ask.Name), dI (a0.Ask.Typ), dI (a0.Sent), dI (a0.Fetched), .sl 15 (a0.Stack.map Frame.cells)]⟩] [⟨true, [dS ((((n_spec_Top a0).1).Ask).Name), dI ((((n_spec_Top a0).1).Ask).Typ), dS ((((n_spec_Top a0).1).Q).Name), dI ((((n_spec_Top a0).1).Q).Typ), .sl 6 ((((n_spec_Top a0).1).Links).map Record.cells), dS (((n_spec_Top a0).1).Apex), .sl 1 ((((n_spec_Top a0).1).Servers).map encI), .sl 1 ((((n_spec_Top a0).1).Need).map encS), dI (((n_spec_Top a0).1).Down), dI (((n_spec_Top a0).1).Left), dI (((n_spec_Top a0).1).Pc), dI ((((n_spec_Top a0).1).X).Id), dI ((((n_spec_Top a0).1).X).Addr), dI ((((n_spec_Top a0).1).X).Try), dI ((((n_spec_Top a0).1).X).Due)]⟩, ⟨false, [dB ((n_spec_Top a0).2)]⟩] := by
  obtain ⟨r, hr⟩ : ∃ r, n_spec_Top a0 = r := ⟨_, rfl⟩
  rw [hr]
  rw [n_spec_Top] at hr
  refine tr_go tabOk Try.func55 rfl rfl rfl rfl rfl (ov := [(0, .t ⟨true, [.d (dI (a0.No)), .d (dI (a0.Client)), .d (dS (a0.Ask.Name)), .d (dI (a0.Ask.Typ)), .d (dI (a0.Sent)), .d (dI (a0.Fetched)), .d (.sl 15 (a0.Stack.map Frame.cells))]⟩)]) (hv := []) rfl rfl ?_
  refine v_seq ?_
  refine v_reg ?_
  refine sr 0 (.t ⟨false, [.vp 0 0]⟩) (.var [.d (dI (a0.No)), .d (dI (a0.Client)), .d (dS (a0.Ask.Name)), .d (dI (a0.Ask.Typ)), .d (dI (a0.Sent)), .d (dI (a0.Fetched)), .d (.sl 15 (a0.Stack.map Frame.cells))]) (zbx rfl (e rfl rfl) rfl rfl rfl) rfl rfl ?_
  refine sr 1 (.t ⟨false, [.vp 1 0]⟩) (.var [.d (dS (⟨#[]⟩)), .d (dI (0)), .d (dS (⟨#[]⟩)), .d (dI (0)), .nl 6, .d (dS (⟨#[]⟩)), .nl 1, .nl 1, .d (dI (0)), .d (dI (0)), .d (dI (0)), .d (dI (0)), .d (dI (0)), .d (dI (0)), .d (dI (0))]) (zal tabOk rfl rfl rfl rfl) rfl rfl ?_
  refine sy _ (zas rfl (ec rfl)) rfl rfl ?_
  refine s_end ?_
  refine v_seq ?_
  refine v_seq ?_
  refine v_reg ?_
  refine sy (.t ⟨false, [.vp 0 6]⟩) (zfa tabOk rfl rfl rfl (e rfl rfl) rfl rfl) rfl rfl ?_
  refine sy (.t ⟨false, [.d (.sl 15 (a0.Stack.map Frame.cells))]⟩) (zlv tabOk rfl (e rfl rfl) rfl rfl rfl) rfl rfl ?_
  have hB1 := (h0.Stack).1
  refine sy (.t ⟨false, [.d (dI ((a0.Stack).length : Int))]⟩) (zlm tabOk rfl rfl (e rfl rfl) .d) rfl rfl ?_
  refine sy (.t ⟨false, [.d (dB (decide ((((a0.Stack).length : Int)) = (0))))]⟩) (y_bin rfl (e rfl rfl) (ec rfl) (fun _ => b_eql) rfl) rfl rfl ?_
  refine s_end ?_
  refine v_cond (e rfl rfl) (fun hb1 => ?_) fun hb1 => ?_
  · replace hr := bf_t hb1 hr
    have hb1p := dec_t hb1
    refine v_seq ?_
    refine v_reg ?_
    refine sy (.t ⟨true, [.d (dS (⟨#[]⟩)), .d (dI (0)), .d (dS (⟨#[]⟩)), .d (dI (0)), .nl 6, .d (dS (⟨#[]⟩)), .nl 1, .nl 1, .d (dI (0)), .d (dI (0)), .d (dI (0)), .d (dI (0)), .d (dI (0)), .d (dI (0)), .d (dI (0))]⟩) (zbd tabOk rfl rfl .nil) rfl rfl ?_
    refine sw 1 (.var [.d (dS (⟨#[]⟩)), .d (dI (0)), .d (dS (⟨#[]⟩)), .d (dI (0)), .nl 6, .d (dS (⟨#[]⟩)), .nl 1, .nl 1, .d (dI (0)), .d (dI (0)), .d (dI (0)), .d (dI (0)), .d (dI (0)), .d (dI (0)), .d (dI (0))]) (zst tabOk rfl (e rfl rfl) rfl (e rfl rfl) rfl rfl rfl) rfl rfl ?_
    refine sy _ (zas rfl (ec rfl)) rfl rfl ?_
    refine s_end ?_
    refine v_ret ?_
    subst hr
    exact post_ret (rv (.cell (eg rfl rfl) rfl rfl (.inl rfl) rfl) rfl (.lf (.lf (.lf (.lf (.nl (.lf (.nl (.nl (.lf (.lf (.lf (.lf (.lf (.lf (.lf .nil))))))))))))))) rfl (rv (.tmp (eg rfl rfl)) rfl (.lf .nil) rfl .nil)) (.ro .nil) rfl
  replace hr := bf_f hb1 hr
  have hb1p := dec_f hb1
  refine v_skip ?_
  refine v_seq ?_
  refine v_reg ?_
  refine sy (.t ⟨false, [.vp 0 6]⟩) (zfa tabOk rfl rfl rfl (e rfl rfl) rfl rfl) rfl rfl ?_
  refine sy (.t ⟨false, [.d (.sl 15 (a0.Stack.map Frame.cells))]⟩) (zlv tabOk rfl (e rfl rfl) rfl rfl rfl) rfl rfl ?_
  refine sy (.t ⟨false, [.vp 0 6]⟩) (zfa tabOk rfl rfl rfl (e rfl rfl) rfl rfl) rfl rfl ?_
  refine sy (.t ⟨false, [.d (.sl 15 (a0.Stack.map Frame.cells))]⟩) (zlv tabOk rfl (e rfl rfl) rfl rfl rfl) rfl rfl ?_
  refine sy (.t ⟨false, [.d (dI ((a0.Stack).length : Int))]⟩) (zlm tabOk rfl rfl (e rfl rfl) .d) rfl rfl ?_
  refine sy (.t ⟨false, [.d (dI (((a0.Stack).length : Int) - 1))]⟩) (y_bin rfl (e rfl rfl) (ec rfl) (fun _ => b_subn (by omega) (by omega)) rfl) rfl rfl ?_
  obtain ⟨x1, hx1⟩ : ∃ x, (a0.Stack)[(((a0.Stack).length : Int) - 1).toNat]? = some x := some_of_lt (by omega)
  replace hr := at_step hx1 hr
  have hfx1 := h0.Stack.2 _ (List.mem_of_getElem? hx1)
  refine sy (.t ⟨false, [.fe 15 (a0.Stack.map Frame.cells) ((((a0.Stack).length : Int) - 1).toNat) 0]⟩) (zixI tabOk rfl rfl rfl (e rfl rfl) (e rfl rfl) (by omega) (ltm_of_some hx1)) rfl rfl ?_
  refine sy (.t ⟨true, [.d (dS (x1.Ask.Name)), .d (dI (x1.Ask.Typ)), .d (dS (x1.Q.Name)), .d (dI (x1.Q.Typ)), .d (.sl 6 (x1.Links.map Record.cells)), .d (dS (x1.Apex)), .d (.sl 1 (x1.Servers.map encI)), .d (.sl 1 (x1.Need.map encS)), .d (dI (x1.Down)), .d (dI (x1.Left)), .d (dI (x1.Pc)), .d (dI (x1.X.Id)), .d (dI (x1.X.Addr)), .d (dI (x1.X.Try)), .d (dI (x1.X.Due))]⟩) (zle tabOk rfl (e rfl rfl) (getm hx1) rfl rfl) rfl rfl ?_
  refine sd (.t ⟨true, [.d (dS (x1.Ask.Name)), .d (dI (x1.Ask.Typ)), .d (dS (x1.Q.Name)), .d (dI (x1.Q.Typ)), .sr 2 1 0 ((x1.Links.map Record.cells).length) ((x1.Links.map Record.cells).length), .d (dS (x1.Apex)), .sr 3 1 0 ((x1.Servers.map encI).length) ((x1.Servers.map encI).length), .sr 4 1 0 ((x1.Need.map encS).length) ((x1.Need.map encS).length), .d (dI (x1.Down)), .d (dI (x1.Left)), .d (dI (x1.Pc)), .d (dI (x1.X.Id)), .d (dI (x1.X.Addr)), .d (dI (x1.X.Try)), .d (dI (x1.X.Due))]⟩) (zcall 2 (.t ⟨true, [.d (dS (x1.Ask.Name)), .d (dI (x1.Ask.Typ)), .d (dS (x1.Q.Name)), .d (dI (x1.Q.Typ)), .sr 2 1 0 ((x1.Links.map Record.cells).length) ((x1.Links.map Record.cells).length), .d (dS (x1.Apex)), .sr 3 1 0 ((x1.Servers.map encI).length) ((x1.Servers.map encI).length), .sr 4 1 0 ((x1.Need.map encS).length) ((x1.Need.map encS).length), .d (dI (x1.Down)), .d (dI (x1.Left)), .d (dI (x1.Pc)), .d (dI (x1.X.Id)), .d (dI (x1.X.Addr)), .d (dI (x1.X.Try)), .d (dI (x1.X.Due))]⟩) [(2, .row 6 (x1.Links.map Record.cells) true 1 0), (3, .row 1 (x1.Servers.map encI) true 1 0), (4, .row 1 (x1.Need.map encS) true 1 0)] rfl (tr_n_spec_l21Copy x1 hfx1) (ar (e rfl rfl) (.d (.d (.d (.d (.d (.d (.d (.d (.d (.d (.d (.d (.d (.d (.d .nil))))))))))))))) .nil) rfl rfl rfl) rfl rfl rfl rfl ?_
  refine sw 1 (.var [.d (dS (x1.Ask.Name)), .d (dI (x1.Ask.Typ)), .d (dS (x1.Q.Name)), .d (dI (x1.Q.Typ)), .sr 2 1 0 ((x1.Links.map Record.cells).length) ((x1.Links.map Record.cells).length), .d (dS (x1.Apex)), .sr 3 1 0 ((x1.Servers.map encI).length) ((x1.Servers.map encI).length), .sr 4 1 0 ((x1.Need.map encS).length) ((x1.Need.map encS).length), .d (dI (x1.Down)), .d (dI (x1.Left)), .d (dI (x1.Pc)), .d (dI (x1.X.Id)), .d (dI (x1.X.Addr)), .d (dI (x1.X.Try)), .d (dI (x1.X.Due))]) (zst tabOk rfl (e rfl rfl) rfl (e rfl rfl) rfl rfl rfl) rfl rfl ?_
  refine sy _ (zas rfl (ec rfl)) rfl rfl ?_
  refine s_end ?_
  refine v_ret ?_
  subst hr
  exact post_ret (rv (.cell (eg rfl rfl) rfl rfl (.inl rfl) rfl) rfl (.lf (.lf (.lf (.lf (.sr rfl le_all take_all (.lf (.sr rfl le_all take_all (.sr rfl le_all take_all (.lf (.lf (.lf (.lf (.lf (.lf (.lf .nil))))))))))))))) rfl (rv (.tmp (eg rfl rfl)) rfl (.lf .nil) rfl .nil)) (.ro .nil) rfl
def n_impl_Top (a0 : Job) : Frame × Bool := cond (decide ((((a0.Stack).length : Int)) = (0))) (((⟨⟨⟨#[]⟩, 0⟩, ⟨⟨#[]⟩, 0⟩, [], ⟨#[]⟩, [], [], 0, 0, 0, ⟨0, 0, 0, 0⟩⟩ : Frame), false)) (atL (a0.Stack) ((((a0.Stack).length : Int) - 1).toNat) (fun x1 => (x1, true)))
set_option maxHeartbeats 4000000 in
set_option maxRecDepth 20000 in
theorem tr_n_impl_Top (a0 : Job) (h0 : Job.Fit a0) : Tr Try.prog 96 [.ro ⟨true, [dI (a0.No), dI (a0.Client), dS (a0.Ask.Name), dI (a0.Ask.Typ), dI (a0.Sent), dI (a0.Fetched), .sl 15 (a0.Stack.map Frame.cells)]⟩] [⟨true, [dS ((((n_impl_Top a0).1).Ask).Name), dI ((((n_impl_Top a0).1).Ask).Typ), dS ((((n_impl_Top a0).1).Q).Name), dI ((((n_impl_Top a0).1).Q).Typ), .sl 6 ((((n_impl_Top a0).1).Links).map Record.cells), dS (((n_impl_Top a0).1).Apex), .sl 1 ((((n_impl_Top a0).1).Servers).map encI), .sl 1 ((((n_impl_Top a0).1).Need).map encS), dI (((n_impl_Top a0).1).Down), dI (((n_impl_Top a0).1).Left), dI (((n_impl_Top a0).1).Pc), dI ((((n_impl_Top a0).1).X).Id), dI ((((n_impl_Top a0).1).X).Addr), dI ((((n_impl_Top a0).1).X).Try), dI ((((n_impl_Top a0).1).X).Due)]⟩, ⟨false, [dB ((n_impl_Top a0).2)]⟩] := by
  obtain ⟨r, hr⟩ : ∃ r, n_impl_Top a0 = r := ⟨_, rfl⟩
  rw [hr]
  rw [n_impl_Top] at hr
  refine tr_go tabOk Try.func96 rfl rfl rfl rfl rfl (ov := [(0, .t ⟨true, [.d (dI (a0.No)), .d (dI (a0.Client)), .d (dS (a0.Ask.Name)), .d (dI (a0.Ask.Typ)), .d (dI (a0.Sent)), .d (dI (a0.Fetched)), .d (.sl 15 (a0.Stack.map Frame.cells))]⟩)]) (hv := []) rfl rfl ?_
  refine v_seq ?_
  refine v_reg ?_
  refine sr 0 (.t ⟨false, [.vp 0 0]⟩) (.var [.d (dI (a0.No)), .d (dI (a0.Client)), .d (dS (a0.Ask.Name)), .d (dI (a0.Ask.Typ)), .d (dI (a0.Sent)), .d (dI (a0.Fetched)), .d (.sl 15 (a0.Stack.map Frame.cells))]) (zbx rfl (e rfl rfl) rfl rfl rfl) rfl rfl ?_
  refine sr 1 (.t ⟨false, [.vp 1 0]⟩) (.var [.d (dS (⟨#[]⟩)), .d (dI (0)), .d (dS (⟨#[]⟩)), .d (dI (0)), .nl 6, .d (dS (⟨#[]⟩)), .nl 1, .nl 1, .d (dI (0)), .d (dI (0)), .d (dI (0)), .d (dI (0)), .d (dI (0)), .d (dI (0)), .d (dI (0))]) (zal tabOk rfl rfl rfl rfl) rfl rfl ?_
  refine sy _ (zas rfl (ec rfl)) rfl rfl ?_
  refine s_end ?_
  refine v_seq ?_
  refine v_seq ?_
  refine v_reg ?_
  refine sy (.t ⟨false, [.vp 0 6]⟩) (zfa tabOk rfl rfl rfl (e rfl rfl) rfl rfl) rfl rfl ?_
  refine sy (.t ⟨false, [.d (.sl 15 (a0.Stack.map Frame.cells))]⟩) (zlv tabOk rfl (e rfl rfl) rfl rfl rfl) rfl rfl ?_
  have hB1 := (h0.Stack).1
  refine sy (.t ⟨false, [.d (dI ((a0.Stack).length : Int))]⟩) (zlm tabOk rfl rfl (e rfl rfl) .d) rfl rfl ?_
  refine sy (.t ⟨false, [.d (dB (decide ((((a0.Stack).length : Int)) = (0))))]⟩) (y_bin rfl (e rfl rfl) (ec rfl) (fun _ => b_eql) rfl) rfl rfl ?_
  refine s_end ?_
  refine v_cond (e rfl rfl) (fun hb1 => ?_) fun hb1 => ?_
  · replace hr := bf_t hb1 hr
    have hb1p := dec_t hb1
    refine v_seq ?_
    refine v_reg ?_
    refine sy (.t ⟨true, [.d (dS (⟨#[]⟩)), .d (dI (0)), .d (dS (⟨#[]⟩)), .d (dI (0)), .nl 6, .d (dS (⟨#[]⟩)), .nl 1, .nl 1, .d (dI (0)), .d (dI (0)), .d (dI (0)), .d (dI (0)), .d (dI (0)), .d (dI (0)), .d (dI (0))]⟩) (zbd tabOk rfl rfl .nil) rfl rfl ?_
    refine sw 1 (.var [.d (dS (⟨#[]⟩)), .d (dI (0)), .d (dS (⟨#[]⟩)), .d (dI (0)), .nl 6, .d (dS (⟨#[]⟩)), .nl 1, .nl 1, .d (dI (0)), .d (dI (0)), .d (dI (0)), .d (dI (0)), .d (dI (0)), .d (dI (0)), .d (dI (0))]) (zst tabOk rfl (e rfl rfl) rfl (e rfl rfl) rfl rfl rfl) rfl rfl ?_
    refine sy _ (zas rfl (ec rfl)) rfl rfl ?_
    refine s_end ?_
    refine v_ret ?_
    subst hr
    exact post_ret (rv (.cell (eg rfl rfl) rfl rfl (.inl rfl) rfl) rfl (.lf (.lf (.lf (.lf (.nl (.lf (.nl (.nl (.lf (.lf (.lf (.lf (.lf (.lf (.lf .nil))))))))))))))) rfl (rv (.tmp (eg rfl rfl)) rfl (.lf .nil) rfl .nil)) (.ro .nil) rfl
  replace hr := bf_f hb1 hr
  have hb1p := dec_f hb1
  refine v_skip ?_
  refine v_seq ?_
  refine v_reg ?_
  refine sy (.t ⟨false, [.vp 0 6]⟩) (zfa tabOk rfl rfl rfl (e rfl rfl) rfl rfl) rfl rfl ?_
  refine sy (.t ⟨false, [.d (.sl 15 (a0.Stack.map Frame.cells))]⟩) (zlv tabOk rfl (e rfl rfl) rfl rfl rfl) rfl rfl ?_
  refine sy (.t ⟨false, [.vp 0 6]⟩) (zfa tabOk rfl rfl rfl (e rfl rfl) rfl rfl) rfl rfl ?_
  refine sy (.t ⟨false, [.d (.sl 15 (a0.Stack.map Frame.cells))]⟩) (zlv tabOk rfl (e rfl rfl) rfl rfl rfl) rfl rfl ?_
  refine sy (.t ⟨false, [.d (dI ((a0.Stack).length : Int))]⟩) (zlm tabOk rfl rfl (e rfl rfl) .d) rfl rfl ?_
  refine sy (.t ⟨false, [.d (dI (((a0.Stack).length : Int) - 1))]⟩) (y_bin rfl (e rfl rfl) (ec rfl) (fun _ => b_subn (by omega) (by omega)) rfl) rfl rfl ?_
  obtain ⟨x1, hx1⟩ : ∃ x, (a0.Stack)[(((a0.Stack).length : Int) - 1).toNat]? = some x := some_of_lt (by omega)
  replace hr := at_step hx1 hr
  have hfx1 := h0.Stack.2 _ (List.mem_of_getElem? hx1)
  refine sy (.t ⟨false, [.fe 15 (a0.Stack.map Frame.cells) ((((a0.Stack).length : Int) - 1).toNat) 0]⟩) (zixI tabOk rfl rfl rfl (e rfl rfl) (e rfl rfl) (by omega) (ltm_of_some hx1)) rfl rfl ?_
  refine sy (.t ⟨true, [.d (dS (x1.Ask.Name)), .d (dI (x1.Ask.Typ)), .d (dS (x1.Q.Name)), .d (dI (x1.Q.Typ)), .d (.sl 6 (x1.Links.map Record.cells)), .d (dS (x1.Apex)), .d (.sl 1 (x1.Servers.map encI)), .d (.sl 1 (x1.Need.map encS)), .d (dI (x1.Down)), .d (dI (x1.Left)), .d (dI (x1.Pc)), .d (dI (x1.X.Id)), .d (dI (x1.X.Addr)), .d (dI (x1.X.Try)), .d (dI (x1.X.Due))]⟩) (zle tabOk rfl (e rfl rfl) (getm hx1) rfl rfl) rfl rfl ?_
  refine sd (.t ⟨true, [.d (dS (x1.Ask.Name)), .d (dI (x1.Ask.Typ)), .d (dS (x1.Q.Name)), .d (dI (x1.Q.Typ)), .sr 2 1 0 ((x1.Links.map Record.cells).length) ((x1.Links.map Record.cells).length), .d (dS (x1.Apex)), .sr 3 1 0 ((x1.Servers.map encI).length) ((x1.Servers.map encI).length), .sr 4 1 0 ((x1.Need.map encS).length) ((x1.Need.map encS).length), .d (dI (x1.Down)), .d (dI (x1.Left)), .d (dI (x1.Pc)), .d (dI (x1.X.Id)), .d (dI (x1.X.Addr)), .d (dI (x1.X.Try)), .d (dI (x1.X.Due))]⟩) (zcall 2 (.t ⟨true, [.d (dS (x1.Ask.Name)), .d (dI (x1.Ask.Typ)), .d (dS (x1.Q.Name)), .d (dI (x1.Q.Typ)), .sr 2 1 0 ((x1.Links.map Record.cells).length) ((x1.Links.map Record.cells).length), .d (dS (x1.Apex)), .sr 3 1 0 ((x1.Servers.map encI).length) ((x1.Servers.map encI).length), .sr 4 1 0 ((x1.Need.map encS).length) ((x1.Need.map encS).length), .d (dI (x1.Down)), .d (dI (x1.Left)), .d (dI (x1.Pc)), .d (dI (x1.X.Id)), .d (dI (x1.X.Addr)), .d (dI (x1.X.Try)), .d (dI (x1.X.Due))]⟩) [(2, .row 6 (x1.Links.map Record.cells) true 1 0), (3, .row 1 (x1.Servers.map encI) true 1 0), (4, .row 1 (x1.Need.map encS) true 1 0)] rfl (tr_n_impl_copyFrame x1 hfx1) (ar (e rfl rfl) (.d (.d (.d (.d (.d (.d (.d (.d (.d (.d (.d (.d (.d (.d (.d .nil))))))))))))))) .nil) rfl rfl rfl) rfl rfl rfl rfl ?_
  refine sw 1 (.var [.d (dS (x1.Ask.Name)), .d (dI (x1.Ask.Typ)), .d (dS (x1.Q.Name)), .d (dI (x1.Q.Typ)), .sr 2 1 0 ((x1.Links.map Record.cells).length) ((x1.Links.map Record.cells).length), .d (dS (x1.Apex)), .sr 3 1 0 ((x1.Servers.map encI).length) ((x1.Servers.map encI).length), .sr 4 1 0 ((x1.Need.map encS).length) ((x1.Need.map encS).length), .d (dI (x1.Down)), .d (dI (x1.Left)), .d (dI (x1.Pc)), .d (dI (x1.X.Id)), .d (dI (x1.X.Addr)), .d (dI (x1.X.Try)), .d (dI (x1.X.Due))]) (zst tabOk rfl (e rfl rfl) rfl (e rfl rfl) rfl rfl rfl) rfl rfl ?_
  refine sy _ (zas rfl (ec rfl)) rfl rfl ?_
  refine s_end ?_
  refine v_ret ?_
  subst hr
  exact post_ret (rv (.cell (eg rfl rfl) rfl rfl (.inl rfl) rfl) rfl (.lf (.lf (.lf (.lf (.sr rfl le_all take_all (.lf (.sr rfl le_all take_all (.sr rfl le_all take_all (.lf (.lf (.lf (.lf (.lf (.lf (.lf .nil))))))))))))))) rfl (rv (.tmp (eg rfl rfl)) rfl (.lf .nil) rfl .nil)) (.ro .nil) rfl
def n_impl_waits (a0 : Job) : Bool := bindv (n_impl_Top a0) (fun v1 => decide ((v1.1.Pc) = (3)))
set_option maxHeartbeats 4000000 in
set_option maxRecDepth 20000 in
theorem tr_n_impl_waits (a0 : Job) (h0 : Job.Fit a0) : Tr Try.prog 61 [.ro ⟨true, [dI (a0.No), dI (a0.Client), dS (a0.Ask.Name), dI (a0.Ask.Typ), dI (a0.Sent), dI (a0.Fetched), .sl 15 (a0.Stack.map Frame.cells)]⟩] [⟨false, [dB ((n_impl_waits a0))]⟩] := by
  obtain ⟨r, hr⟩ : ∃ r, n_impl_waits a0 = r := ⟨_, rfl⟩
  rw [hr]
  rw [n_impl_waits] at hr
  refine tr_go tabOk Try.func61 rfl rfl rfl rfl rfl (ov := [(0, .t ⟨true, [.d (dI (a0.No)), .d (dI (a0.Client)), .d (dS (a0.Ask.Name)), .d (dI (a0.Ask.Typ)), .d (dI (a0.Sent)), .d (dI (a0.Fetched)), .d (.sl 15 (a0.Stack.map Frame.cells))]⟩)]) (hv := []) rfl rfl ?_
  refine v_seq ?_
  refine v_reg ?_
  refine sr 0 (.t ⟨false, [.vp 0 0]⟩) (.var [.d (dI (a0.No)), .d (dI (a0.Client)), .d (dS (a0.Ask.Name)), .d (dI (a0.Ask.Typ)), .d (dI (a0.Sent)), .d (dI (a0.Fetched)), .d (.sl 15 (a0.Stack.map Frame.cells))]) (zbx rfl (e rfl rfl) rfl rfl rfl) rfl rfl ?_
  refine sy _ (zas rfl (ec rfl)) rfl rfl ?_
  refine s_end ?_
  refine v_seq ?_
  refine v_reg ?_
  refine sy (.t ⟨true, [.d (dI (a0.No)), .d (dI (a0.Client)), .d (dS (a0.Ask.Name)), .d (dI (a0.Ask.Typ)), .d (dI (a0.Sent)), .d (dI (a0.Fetched)), .d (.sl 15 (a0.Stack.map Frame.cells))]⟩) (zlv tabOk rfl (e rfl rfl) rfl rfl rfl) rfl rfl ?_
  obtain ⟨v1, ev1⟩ : ∃ v : Frame × Bool, v = n_impl_Top a0 := ⟨_, rfl⟩
  replace hr := bv_step ev1 hr
  refine sd (.tu [⟨true, [.d (dS (v1.1.Ask.Name)), .d (dI (v1.1.Ask.Typ)), .d (dS (v1.1.Q.Name)), .d (dI (v1.1.Q.Typ)), .d (.sl 6 (v1.1.Links.map Record.cells)), .d (dS (v1.1.Apex)), .d (.sl 1 (v1.1.Servers.map encI)), .d (.sl 1 (v1.1.Need.map encS)), .d (dI (v1.1.Down)), .d (dI (v1.1.Left)), .d (dI (v1.1.Pc)), .d (dI (v1.1.X.Id)), .d (dI (v1.1.X.Addr)), .d (dI (v1.1.X.Try)), .d (dI (v1.1.X.Due))]⟩, ⟨false, [.d (dB (v1.2))]⟩]) (zcd (.tu [⟨true, [.d (dS (v1.1.Ask.Name)), .d (dI (v1.1.Ask.Typ)), .d (dS (v1.1.Q.Name)), .d (dI (v1.1.Q.Typ)), .d (.sl 6 (v1.1.Links.map Record.cells)), .d (dS (v1.1.Apex)), .d (.sl 1 (v1.1.Servers.map encI)), .d (.sl 1 (v1.1.Need.map encS)), .d (dI (v1.1.Down)), .d (dI (v1.1.Left)), .d (dI (v1.1.Pc)), .d (dI (v1.1.X.Id)), .d (dI (v1.1.X.Addr)), .d (dI (v1.1.X.Try)), .d (dI (v1.1.X.Due))]⟩, ⟨false, [.d (dB (v1.2))]⟩]) rfl (by rw [ev1]; exact (tr_n_impl_Top a0 h0) : Tr Try.prog 96 _ [⟨true, [dS (v1.1.Ask.Name), dI (v1.1.Ask.Typ), dS (v1.1.Q.Name), dI (v1.1.Q.Typ), .sl 6 (v1.1.Links.map Record.cells), dS (v1.1.Apex), .sl 1 (v1.1.Servers.map encI), .sl 1 (v1.1.Need.map encS), dI (v1.1.Down), dI (v1.1.Left), dI (v1.1.Pc), dI (v1.1.X.Id), dI (v1.1.X.Addr), dI (v1.1.X.Try), dI (v1.1.X.Due)]⟩, ⟨false, [dB (v1.2)]⟩]) (ar (e rfl rfl) (.d (.d (.d (.d (.d (.d (.d .nil))))))) .nil) rfl) rfl rfl rfl rfl ?_
  refine sy (.tu [⟨true, [.d (dS (v1.1.Ask.Name)), .d (dI (v1.1.Ask.Typ)), .d (dS (v1.1.Q.Name)), .d (dI (v1.1.Q.Typ)), .d (.sl 6 (v1.1.Links.map Record.cells)), .d (dS (v1.1.Apex)), .d (.sl 1 (v1.1.Servers.map encI)), .d (.sl 1 (v1.1.Need.map encS)), .d (dI (v1.1.Down)), .d (dI (v1.1.Left)), .d (dI (v1.1.Pc)), .d (dI (v1.1.X.Id)), .d (dI (v1.1.X.Addr)), .d (dI (v1.1.X.Try)), .d (dI (v1.1.X.Due))]⟩, ⟨false, [.d (dB (v1.2))]⟩]) (zmvt (.inl rfl) (eg rfl rfl)) rfl rfl ?_
  refine sy (.t ⟨true, [.d (dS (v1.1.Ask.Name)), .d (dI (v1.1.Ask.Typ)), .d (dS (v1.1.Q.Name)), .d (dI (v1.1.Q.Typ)), .d (.sl 6 (v1.1.Links.map Record.cells)), .d (dS (v1.1.Apex)), .d (.sl 1 (v1.1.Servers.map encI)), .d (.sl 1 (v1.1.Need.map encS)), .d (dI (v1.1.Down)), .d (dI (v1.1.Left)), .d (dI (v1.1.Pc)), .d (dI (v1.1.X.Id)), .d (dI (v1.1.X.Addr)), .d (dI (v1.1.X.Try)), .d (dI (v1.1.X.Due))]⟩) (y_extract rfl rfl (eg rfl rfl) rfl) rfl rfl ?_
  refine sy (.t ⟨false, [.d (dB (v1.2))]⟩) (y_extract rfl rfl (eg rfl rfl) rfl) rfl rfl ?_
  refine sr 1 (.t ⟨false, [.vp 1 0]⟩) (.var [.d (dS (⟨#[]⟩)), .d (dI (0)), .d (dS (⟨#[]⟩)), .d (dI (0)), .nl 6, .d (dS (⟨#[]⟩)), .nl 1, .nl 1, .d (dI (0)), .d (dI (0)), .d (dI (0)), .d (dI (0)), .d (dI (0)), .d (dI (0)), .d (dI (0))]) (zal tabOk rfl rfl rfl rfl) rfl rfl ?_
  refine sw 1 (.var [.d (dS (v1.1.Ask.Name)), .d (dI (v1.1.Ask.Typ)), .d (dS (v1.1.Q.Name)), .d (dI (v1.1.Q.Typ)), .d (.sl 6 (v1.1.Links.map Record.cells)), .d (dS (v1.1.Apex)), .d (.sl 1 (v1.1.Servers.map encI)), .d (.sl 1 (v1.1.Need.map encS)), .d (dI (v1.1.Down)), .d (dI (v1.1.Left)), .d (dI (v1.1.Pc)), .d (dI (v1.1.X.Id)), .d (dI (v1.1.X.Addr)), .d (dI (v1.1.X.Try)), .d (dI (v1.1.X.Due))]) (zst tabOk rfl (e rfl rfl) rfl (e rfl rfl) rfl rfl rfl) rfl rfl ?_
  refine sy _ (zas rfl (e rfl rfl)) rfl rfl ?_
  refine s_end ?_
  refine v_seq ?_
  refine v_reg ?_
  refine sy (.t ⟨false, [.vp 1 10]⟩) (zfa tabOk rfl rfl rfl (e rfl rfl) rfl rfl) rfl rfl ?_
  refine sy (.t ⟨false, [.d (dI (v1.1.Pc))]⟩) (zlv tabOk rfl (e rfl rfl) rfl rfl rfl) rfl rfl ?_
  refine sy (.t ⟨false, [.d (dB (decide ((v1.1.Pc) = (3))))]⟩) (y_bin rfl (e rfl rfl) (ec rfl) (fun _ => b_eql) rfl) rfl rfl ?_
  refine sy _ (zas rfl (e rfl rfl)) rfl rfl ?_
  refine s_end ?_
  refine v_ret ?_
  subst hr
  exact post_ret (rv (.tmp (eg rfl rfl)) rfl (.lf .nil) rfl .nil) (.ro .nil) rfl
def n_spec_WaitingL1 (a0 : World) : Nat → (List Int) → Nat → (List Int)
  | 0, _, _ => default
  | n + 1, l1, i => cond (decide (((i : Int)) < (((a0.Jobs).length : Int)))) (atL (a0.Jobs) (i) (fun x1 => bindv (n_spec_Top x1) (fun v2 => cond (v2.2) (cond (decide ((v2.1.Pc) = (3))) (n_spec_WaitingL1 a0 n (l1 ++ ([x1.No] : List Int)) (i + 1)) (n_spec_WaitingL1 a0 n l1 (i + 1))) (n_spec_WaitingL1 a0 n l1 (i + 1))))) (l1)
def n_spec_Waiting (a0 : World) : List Int := n_spec_WaitingL1 a0 ((a0.Jobs).length + 1) (([] : List Int)) 0
set_option maxHeartbeats 4000000 in
set_option maxRecDepth 20000 in
theorem tr_n_spec_Waiting (a0 : World) (h0 : World.Fit a0) : Tr Try.prog 16 [.ro ⟨true, [dI (a0.C.Quota), dI (a0.C.Depth), dI (a0.C.Chain), dI (a0.C.Glue), dI (a0.C.Tries), dI (a0.C.Addrs), dI (a0.C.Cap), .sl 1 (a0.C.Roots.map encI), dI (a0.Now), dI (a0.K.Cap), .sl 6 (a0.K.L.map Entry.cells), .sl 3 (a0.Bad.map Lame.cells), .sl 7 (a0.Jobs.map Job.cells), .sl 2 (a0.Outs.map Packet.cells), .sl 8 (a0.Reps.map Answer.cells), dI (a0.Next)]⟩] [⟨false, [.sl 1 (((n_spec_Waiting a0)).map encI)]⟩] := by
  obtain ⟨r, hr⟩ : ∃ r, n_spec_Waiting a0 = r := ⟨_, rfl⟩
  rw [hr]
  rw [n_spec_Waiting] at hr
  refine tr_go tabOk Try.func16 rfl rfl rfl rfl rfl (ov := [(0, .t ⟨true, [.d (dI (a0.C.Quota)), .d (dI (a0.C.Depth)), .d (dI (a0.C.Chain)), .d (dI (a0.C.Glue)), .d (dI (a0.C.Tries)), .d (dI (a0.C.Addrs)), .d (dI (a0.C.Cap)), .d (.sl 1 (a0.C.Roots.map encI)), .d (dI (a0.Now)), .d (dI (a0.K.Cap)), .d (.sl 6 (a0.K.L.map Entry.cells)), .d (.sl 3 (a0.Bad.map Lame.cells)), .d (.sl 7 (a0.Jobs.map Job.cells)), .d (.sl 2 (a0.Outs.map Packet.cells)), .d (.sl 8 (a0.Reps.map Answer.cells)), .d (dI (a0.Next))]⟩)]) (hv := []) rfl rfl ?_
  refine v_seq ?_
  refine v_reg ?_
  refine sr 0 (.t ⟨false, [.vp 0 0]⟩) (.var [.d (dI (a0.C.Quota)), .d (dI (a0.C.Depth)), .d (dI (a0.C.Chain)), .d (dI (a0.C.Glue)), .d (dI (a0.C.Tries)), .d (dI (a0.C.Addrs)), .d (dI (a0.C.Cap)), .d (.sl 1 (a0.C.Roots.map encI)), .d (dI (a0.Now)), .d (dI (a0.K.Cap)), .d (.sl 6 (a0.K.L.map Entry.cells)), .d (.sl 3 (a0.Bad.map Lame.cells)), .d (.sl 7 (a0.Jobs.map Job.cells)), .d (.sl 2 (a0.Outs.map Packet.cells)), .d (.sl 8 (a0.Reps.map Answer.cells)), .d (dI (a0.Next))]) (zbx rfl (e rfl rfl) rfl rfl rfl) rfl rfl ?_
  refine sy _ (zas rfl (en 1)) rfl rfl ?_
  refine s_end ?_
  refine v_seq ?_
  refine v_reg ?_
  refine sbk 1 (.t ⟨false, [.sr 1 1 0 ((([] : List Int).map encI).length) ((([] : List Int).map encI).length)]⟩) (.row 1 (([] : List Int).map encI) true 1 0) (zbu tabOk rfl rfl rfl rfl .nil rfl rfl) rfl rfl ?_
  refine sy _ (zas rfl (e rfl rfl)) rfl rfl ?_
  refine s_end ?_
  refine v_seq ?_
  refine v_seq ?_
  refine v_reg ?_
  refine sy _ (zas rfl (ec rfl)) rfl rfl ?_
  refine s_end ?_
  refine v_block ?_
  refine v_lp (fun (q : Nat × List Int × Nat × Nat × Nat) => [(1, .t ⟨false, [.vp 0 0]⟩), (3, .t ⟨false, [.sr 1 q.2.2.2.1 0 (((q.2.1).map encI).length) (((q.2.1).map encI).length)]⟩), (4, .t ⟨false, [.d (dI (q.2.2.1 : Int))]⟩)]) (fun q => [(0, .var [.d (dI (a0.C.Quota)), .d (dI (a0.C.Depth)), .d (dI (a0.C.Chain)), .d (dI (a0.C.Glue)), .d (dI (a0.C.Tries)), .d (dI (a0.C.Addrs)), .d (dI (a0.C.Cap)), .d (.sl 1 (a0.C.Roots.map encI)), .d (dI (a0.Now)), .d (dI (a0.K.Cap)), .d (.sl 6 (a0.K.L.map Entry.cells)), .d (.sl 3 (a0.Bad.map Lame.cells)), .d (.sl 7 (a0.Jobs.map Job.cells)), .d (.sl 2 (a0.Outs.map Packet.cells)), .d (.sl 8 (a0.Reps.map Answer.cells)), .d (dI (a0.Next))]), (1, .row 1 ((q.2.1).map encI) true q.2.2.2.1 q.2.2.2.2)]) (fun q => n_spec_WaitingL1 a0 q.1 q.2.1 q.2.2.1 = r ∧ q.2.2.1 ≤ (a0.Jobs).length ∧ q.2.2.1 + q.1 = (a0.Jobs).length + 1 ∧ q.2.1.length ≤ q.2.2.1 ∧ fitL fitU q.2.1) (fun q => q.1) ((a0.Jobs).length + 1, (([] : List Int) : List Int), (0 : Nat), 1, 0) ⟨hr, by (try dsimp only); (try simp only [List.length_nil, List.length_replicate]); first | done | omega, by (try dsimp only); (try simp only [List.length_nil, List.length_replicate]); first | done | omega, by (try dsimp only); (try simp only [List.length_nil, List.length_replicate]); first | done | omega, fitL_nil⟩ ⟨rfl, rfl, rfl, trivial⟩ ⟨rfl, rfl, trivial⟩ rfl (fun q hq => ?_)
  obtain ⟨n, l1, i, g1, w1⟩ := q
  obtain ⟨hr, hi1x0, hi1x1, hi1x2, hi1x3⟩ := hq
  dsimp only at hr hi1x0 hi1x1 hi1x2 hi1x3
  show VWp _ _ _ (mk [(1, .t ⟨false, [.vp 0 0]⟩), (3, .t ⟨false, [.sr 1 g1 0 (((l1).map encI).length) (((l1).map encI).length)]⟩), (4, .t ⟨false, [.d (dI (i : Int))]⟩)] _ [(0, .var [.d (dI (a0.C.Quota)), .d (dI (a0.C.Depth)), .d (dI (a0.C.Chain)), .d (dI (a0.C.Glue)), .d (dI (a0.C.Tries)), .d (dI (a0.C.Addrs)), .d (dI (a0.C.Cap)), .d (.sl 1 (a0.C.Roots.map encI)), .d (dI (a0.Now)), .d (dI (a0.K.Cap)), .d (.sl 6 (a0.K.L.map Entry.cells)), .d (.sl 3 (a0.Bad.map Lame.cells)), .d (.sl 7 (a0.Jobs.map Job.cells)), .d (.sl 2 (a0.Outs.map Packet.cells)), .d (.sl 8 (a0.Reps.map Answer.cells)), .d (dI (a0.Next))]), (1, .row 1 ((l1).map encI) true g1 w1)])
  rcases n with _ | n
  · exfalso; omega
  rw [n_spec_WaitingL1] at hr
  refine v_seq ?_
  refine v_seq ?_
  refine v_reg ?_
  refine sy _ (zmv rfl (e rfl rfl)) rfl rfl ?_
  refine sy (.t ⟨false, [.vp 0 12]⟩) (zfa tabOk rfl rfl rfl (e rfl rfl) rfl rfl) rfl rfl ?_
  refine sy (.t ⟨false, [.d (.sl 7 (a0.Jobs.map Job.cells))]⟩) (zlv tabOk rfl (e rfl rfl) rfl rfl rfl) rfl rfl ?_
  have hB1 := (h0.Jobs).1
  refine sy (.t ⟨false, [.d (dI ((a0.Jobs).length : Int))]⟩) (zlm tabOk rfl rfl (e rfl rfl) .d) rfl rfl ?_
  refine sy (.t ⟨false, [.d (dB (decide (((i : Int)) < (((a0.Jobs).length : Int)))))]⟩) (y_bin rfl (e rfl rfl) (e rfl rfl) (fun _ => b_lss) rfl) rfl rfl ?_
  refine s_end ?_
  refine v_cond (e rfl rfl) (fun hb1 => ?_) fun hb1 => ?_
  · replace hr := bf_t hb1 hr
    have hb1p := dec_t hb1
    refine v_skip ?_
    refine v_seq ?_
    refine v_block ?_
    refine v_seq ?_
    refine v_reg ?_
    refine sy (.t ⟨false, [.vp 0 12]⟩) (zfa tabOk rfl rfl rfl (e rfl rfl) rfl rfl) rfl rfl ?_
    refine sy (.t ⟨false, [.d (.sl 7 (a0.Jobs.map Job.cells))]⟩) (zlv tabOk rfl (e rfl rfl) rfl rfl rfl) rfl rfl ?_
    refine sy _ (zmv rfl (e rfl rfl)) rfl rfl ?_
    obtain ⟨x1, hx1⟩ : ∃ x, (a0.Jobs)[i]? = some x := some_of_lt (by omega)
    replace hr := at_step hx1 hr
    have hfx1 := h0.Jobs.2 _ (List.mem_of_getElem? hx1)
    refine sy (.t ⟨false, [.fe 7 (a0.Jobs.map Job.cells) i 0]⟩) (zix tabOk rfl rfl rfl (e rfl rfl) (e rfl rfl) (ltm_of_some hx1)) rfl rfl ?_
    refine sy (.t ⟨true, [.d (dI (x1.No)), .d (dI (x1.Client)), .d (dS (x1.Ask.Name)), .d (dI (x1.Ask.Typ)), .d (dI (x1.Sent)), .d (dI (x1.Fetched)), .d (.sl 15 (x1.Stack.map Frame.cells))]⟩) (zle tabOk rfl (e rfl rfl) (getm hx1) rfl rfl) rfl rfl ?_
    obtain ⟨v2, ev2⟩ : ∃ v : Frame × Bool, v = n_spec_Top x1 := ⟨_, rfl⟩
    replace hr := bv_step ev2 hr
    refine sd (.tu [⟨true, [.d (dS (v2.1.Ask.Name)), .d (dI (v2.1.Ask.Typ)), .d (dS (v2.1.Q.Name)), .d (dI (v2.1.Q.Typ)), .d (.sl 6 (v2.1.Links.map Record.cells)), .d (dS (v2.1.Apex)), .d (.sl 1 (v2.1.Servers.map encI)), .d (.sl 1 (v2.1.Need.map encS)), .d (dI (v2.1.Down)), .d (dI (v2.1.Left)), .d (dI (v2.1.Pc)), .d (dI (v2.1.X.Id)), .d (dI (v2.1.X.Addr)), .d (dI (v2.1.X.Try)), .d (dI (v2.1.X.Due))]⟩, ⟨false, [.d (dB (v2.2))]⟩]) (zcd (.tu [⟨true, [.d (dS (v2.1.Ask.Name)), .d (dI (v2.1.Ask.Typ)), .d (dS (v2.1.Q.Name)), .d (dI (v2.1.Q.Typ)), .d (.sl 6 (v2.1.Links.map Record.cells)), .d (dS (v2.1.Apex)), .d (.sl 1 (v2.1.Servers.map encI)), .d (.sl 1 (v2.1.Need.map encS)), .d (dI (v2.1.Down)), .d (dI (v2.1.Left)), .d (dI (v2.1.Pc)), .d (dI (v2.1.X.Id)), .d (dI (v2.1.X.Addr)), .d (dI (v2.1.X.Try)), .d (dI (v2.1.X.Due))]⟩, ⟨false, [.d (dB (v2.2))]⟩]) rfl (by rw [ev2]; exact (tr_n_spec_Top x1 hfx1) : Tr Try.prog 55 _ [⟨true, [dS (v2.1.Ask.Name), dI (v2.1.Ask.Typ), dS (v2.1.Q.Name), dI (v2.1.Q.Typ), .sl 6 (v2.1.Links.map Record.cells), dS (v2.1.Apex), .sl 1 (v2.1.Servers.map encI), .sl 1 (v2.1.Need.map encS), dI (v2.1.Down), dI (v2.1.Left), dI (v2.1.Pc), dI (v2.1.X.Id), dI (v2.1.X.Addr), dI (v2.1.X.Try), dI (v2.1.X.Due)]⟩, ⟨false, [dB (v2.2)]⟩]) (ar (e rfl rfl) (.d (.d (.d (.d (.d (.d (.d .nil))))))) .nil) rfl) rfl rfl rfl rfl ?_
    refine sy (.tu [⟨true, [.d (dS (v2.1.Ask.Name)), .d (dI (v2.1.Ask.Typ)), .d (dS (v2.1.Q.Name)), .d (dI (v2.1.Q.Typ)), .d (.sl 6 (v2.1.Links.map Record.cells)), .d (dS (v2.1.Apex)), .d (.sl 1 (v2.1.Servers.map encI)), .d (.sl 1 (v2.1.Need.map encS)), .d (dI (v2.1.Down)), .d (dI (v2.1.Left)), .d (dI (v2.1.Pc)), .d (dI (v2.1.X.Id)), .d (dI (v2.1.X.Addr)), .d (dI (v2.1.X.Try)), .d (dI (v2.1.X.Due))]⟩, ⟨false, [.d (dB (v2.2))]⟩]) (zmvt (.inl rfl) (eg rfl rfl)) rfl rfl ?_
    refine sy (.t ⟨true, [.d (dS (v2.1.Ask.Name)), .d (dI (v2.1.Ask.Typ)), .d (dS (v2.1.Q.Name)), .d (dI (v2.1.Q.Typ)), .d (.sl 6 (v2.1.Links.map Record.cells)), .d (dS (v2.1.Apex)), .d (.sl 1 (v2.1.Servers.map encI)), .d (.sl 1 (v2.1.Need.map encS)), .d (dI (v2.1.Down)), .d (dI (v2.1.Left)), .d (dI (v2.1.Pc)), .d (dI (v2.1.X.Id)), .d (dI (v2.1.X.Addr)), .d (dI (v2.1.X.Try)), .d (dI (v2.1.X.Due))]⟩) (y_extract rfl rfl (eg rfl rfl) rfl) rfl rfl ?_
    refine sy (.t ⟨false, [.d (dB (v2.2))]⟩) (y_extract rfl rfl (eg rfl rfl) rfl) rfl rfl ?_
    refine sr 6 (.t ⟨false, [.vp 6 0]⟩) (.var [.d (dS (⟨#[]⟩)), .d (dI (0)), .d (dS (⟨#[]⟩)), .d (dI (0)), .nl 6, .d (dS (⟨#[]⟩)), .nl 1, .nl 1, .d (dI (0)), .d (dI (0)), .d (dI (0)), .d (dI (0)), .d (dI (0)), .d (dI (0)), .d (dI (0))]) (zal tabOk rfl rfl rfl rfl) rfl rfl ?_
    refine sw 6 (.var [.d (dS (v2.1.Ask.Name)), .d (dI (v2.1.Ask.Typ)), .d (dS (v2.1.Q.Name)), .d (dI (v2.1.Q.Typ)), .d (.sl 6 (v2.1.Links.map Record.cells)), .d (dS (v2.1.Apex)), .d (.sl 1 (v2.1.Servers.map encI)), .d (.sl 1 (v2.1.Need.map encS)), .d (dI (v2.1.Down)), .d (dI (v2.1.Left)), .d (dI (v2.1.Pc)), .d (dI (v2.1.X.Id)), .d (dI (v2.1.X.Addr)), .d (dI (v2.1.X.Try)), .d (dI (v2.1.X.Due))]) (zst tabOk rfl (e rfl rfl) rfl (e rfl rfl) rfl rfl rfl) rfl rfl ?_
    refine sy _ (zas rfl (e rfl rfl)) rfl rfl ?_
    refine s_end ?_
    refine v_seq ?_
    refine v_reg ?_
    refine sy _ (zmv rfl (e rfl rfl)) rfl rfl ?_
    refine sy _ (zmv rfl (e rfl rfl)) rfl rfl ?_
    rcases Bool.eq_false_or_eq_true (v2.2) with hg2 | hg2
    · replace hr := bf_t hg2 hr
      refine gr rfl rfl rfl (eg rfl rfl) hg2 ?_
      refine sy (.t ⟨false, [.vp 6 10]⟩) (zfa tabOk rfl rfl rfl (e rfl rfl) rfl rfl) rfl rfl ?_
      refine gr rfl rfl rfl (eg rfl rfl) hg2 ?_
      refine sy (.t ⟨false, [.d (dI (v2.1.Pc))]⟩) (zlv tabOk rfl (e rfl rfl) rfl rfl rfl) rfl rfl ?_
      refine gr rfl rfl rfl (eg rfl rfl) hg2 ?_
      refine sy (.t ⟨false, [.d (dB (decide ((v2.1.Pc) = (3))))]⟩) (y_bin rfl (e rfl rfl) (ec rfl) (fun _ => b_eql) rfl) rfl rfl ?_
      refine sy (.t ⟨false, [.d (dB (decide ((v2.1.Pc) = (3))))]⟩) (zpt rfl (e rfl rfl) hg2 (e rfl rfl)) rfl rfl ?_
      refine s_end ?_
      refine v_cond (e rfl rfl) (fun hb3 => ?_) fun hb3 => ?_
      · replace hr := bf_t hb3 hr
        have hb3p := dec_t hb3
        refine v_reg ?_
        refine sy _ (zmv rfl (e rfl rfl)) rfl rfl ?_
        refine sy (.t ⟨false, [.vp 0 12]⟩) (zfa tabOk rfl rfl rfl (e rfl rfl) rfl rfl) rfl rfl ?_
        refine sy (.t ⟨false, [.d (.sl 7 (a0.Jobs.map Job.cells))]⟩) (zlv tabOk rfl (e rfl rfl) rfl rfl rfl) rfl rfl ?_
        refine sy _ (zmv rfl (e rfl rfl)) rfl rfl ?_
        refine sy (.t ⟨false, [.fe 7 (a0.Jobs.map Job.cells) i 0]⟩) (zix tabOk rfl rfl rfl (e rfl rfl) (e rfl rfl) (ltm_of_some hx1)) rfl rfl ?_
        refine sy (.t ⟨false, [.fe 7 (a0.Jobs.map Job.cells) i 0]⟩) (zfa tabOk rfl rfl rfl (e rfl rfl) rfl rfl) rfl rfl ?_
        refine sy (.t ⟨false, [.d (dI (x1.No))]⟩) (zle tabOk rfl (e rfl rfl) (getm hx1) rfl rfl) rfl rfl ?_
        refine sbk 7 (.t ⟨false, [.sr 7 1 0 ((([x1.No] : List Int).map encI).length) ((([x1.No] : List Int).map encI).length)]⟩) (.row 1 (([x1.No] : List Int).map encI) true 1 0) (zbu tabOk rfl rfl rfl rfl (pd0 (e rfl rfl) rfl (.lf .nil) rfl .nil) rfl rfl) rfl rfl ?_
        have hB2 := (hi1x3).1
        refine sa 1 (.t ⟨false, [.sr 1 (g1 + 1) 0 (((l1 ++ ([x1.No] : List Int)).map encI).length) (((l1 ++ ([x1.No] : List Int)).map encI).length)]⟩) (.row 1 ((l1 ++ ([x1.No] : List Int)).map encI) true (g1 + 1) (w1 + 1)) (zap tabOk rfl rfl rfl rfl (e rfl rfl) rfl rfl (e rfl rfl) (.flat rfl le_all take_all (flat_I _)) (ap_big (by simp only [List.length_map, List.length_cons, List.length_nil]; omega) rfl) map_app len_app) rfl rfl ?_
        refine sy _ (zas rfl (e rfl rfl)) rfl rfl ?_
        refine s_end ?_
        refine blk_norm ?_
        refine v_reg ?_
        refine sy _ (zmv rfl (e rfl rfl)) rfl rfl ?_
        refine sy (.t ⟨false, [.d (dI (i + 1 : Int))]⟩) (y_bin rfl (e rfl rfl) (ec rfl) (fun _ => b_addn (by omega) (by omega)) rfl) rfl rfl ?_
        refine sy _ (zas rfl (e rfl rfl)) rfl rfl ?_
        refine s_end ?_
        exact lp_next (n, l1 ++ ([x1.No] : List Int), i + 1, g1 + 1, w1 + 1) ⟨hr, by (try simp only [List.length_append, List.length_cons, List.length_nil, List.length_set]); first | done | omega, by (try simp only [List.length_append, List.length_cons, List.length_nil, List.length_set]); first | done | omega, by (try simp only [List.length_append, List.length_cons, List.length_nil, List.length_set]); first | done | omega, fitL_snoc hi1x3 (by omega) trivial⟩ (Nat.lt_succ_self _) ⟨rfl, rfl, rfl, trivial⟩ ⟨rfl, rfl, trivial⟩ rfl
      replace hr := bf_f hb3 hr
      have hb3p := dec_f hb3
      refine v_skip ?_
      refine blk_norm ?_
      refine v_reg ?_
      refine sy _ (zmv rfl (e rfl rfl)) rfl rfl ?_
      refine sy (.t ⟨false, [.d (dI (i + 1 : Int))]⟩) (y_bin rfl (e rfl rfl) (ec rfl) (fun _ => b_addn (by omega) (by omega)) rfl) rfl rfl ?_
      refine sy _ (zas rfl (e rfl rfl)) rfl rfl ?_
      refine s_end ?_
      exact lp_next (n, l1, i + 1, g1, w1) ⟨hr, by (try simp only [List.length_append, List.length_cons, List.length_nil, List.length_set]); first | done | omega, by (try simp only [List.length_append, List.length_cons, List.length_nil, List.length_set]); first | done | omega, by (try simp only [List.length_append, List.length_cons, List.length_nil, List.length_set]); first | done | omega, hi1x3⟩ (Nat.lt_succ_self _) ⟨rfl, rfl, rfl, trivial⟩ ⟨rfl, rfl, trivial⟩ rfl
    replace hr := bf_f hg2 hr
    refine gs rfl rfl rfl (eg rfl rfl) hg2 rfl ?_
    refine gs rfl rfl rfl (eg rfl rfl) hg2 rfl ?_
    refine gs rfl rfl rfl (eg rfl rfl) hg2 rfl ?_
    refine sy (.t ⟨false, [.d (dB (false))]⟩) (zpf rfl (e rfl rfl) hg2 (ec rfl)) rfl rfl ?_
    refine s_end ?_
    refine v_cF (e rfl rfl) rfl ?_
    refine v_skip ?_
    refine blk_norm ?_
    refine v_reg ?_
    refine sy _ (zmv rfl (e rfl rfl)) rfl rfl ?_
    refine sy (.t ⟨false, [.d (dI (i + 1 : Int))]⟩) (y_bin rfl (e rfl rfl) (ec rfl) (fun _ => b_addn (by omega) (by omega)) rfl) rfl rfl ?_
    refine sy _ (zas rfl (e rfl rfl)) rfl rfl ?_
    refine s_end ?_
    exact lp_next (n, l1, i + 1, g1, w1) ⟨hr, by (try simp only [List.length_append, List.length_cons, List.length_nil, List.length_set]); first | done | omega, by (try simp only [List.length_append, List.length_cons, List.length_nil, List.length_set]); first | done | omega, by (try simp only [List.length_append, List.length_cons, List.length_nil, List.length_set]); first | done | omega, hi1x3⟩ (Nat.lt_succ_self _) ⟨rfl, rfl, rfl, trivial⟩ ⟨rfl, rfl, trivial⟩ rfl
  replace hr := bf_f hb1 hr
  have hb1p := dec_f hb1
  refine v_exit ?_
  refine then_exit ?_
  refine loop_exit ?_
  refine blk_hit ?_
  refine v_seq ?_
  refine v_reg ?_
  refine sy _ (zmv rfl (e rfl rfl)) rfl rfl ?_
  refine sy _ (zas rfl (e rfl rfl)) rfl rfl ?_
  refine s_end ?_
  refine v_ret ?_
  subst hr
  exact post_ret (rv (.tmp (eg rfl rfl)) rfl (.sr rfl le_all take_all .nil) rfl .nil) (.ro .nil) rfl
def n_impl_WaitingL1 (a0 : World) : Nat → (List Int) → Nat → (List Int)
  | 0, _, _ => default
  | n + 1, l1, z10 => cond (decide (((z10 : Int)) < (((a0.Jobs).length : Int)))) (atL (a0.Jobs) (z10) (fun x1 => cond (n_impl_waits x1) (n_impl_WaitingL1 a0 n (l1 ++ ([x1.No] : List Int)) (z10 + 1)) (n_impl_WaitingL1 a0 n l1 (z10 + 1)))) (l1)
def n_impl_Waiting (a0 : World) : List Int := n_impl_WaitingL1 a0 ((a0.Jobs).length + 1) (([] : List Int)) 0
set_option maxHeartbeats 4000000 in
set_option maxRecDepth 20000 in
theorem tr_n_impl_Waiting (a0 : World) (h0 : World.Fit a0) : Tr Try.prog 18 [.ro ⟨true, [dI (a0.C.Quota), dI (a0.C.Depth), dI (a0.C.Chain), dI (a0.C.Glue), dI (a0.C.Tries), dI (a0.C.Addrs), dI (a0.C.Cap), .sl 1 (a0.C.Roots.map encI), dI (a0.Now), dI (a0.K.Cap), .sl 6 (a0.K.L.map Entry.cells), .sl 3 (a0.Bad.map Lame.cells), .sl 7 (a0.Jobs.map Job.cells), .sl 2 (a0.Outs.map Packet.cells), .sl 8 (a0.Reps.map Answer.cells), dI (a0.Next)]⟩] [⟨false, [.sl 1 (((n_impl_Waiting a0)).map encI)]⟩] := by
  obtain ⟨r, hr⟩ : ∃ r, n_impl_Waiting a0 = r := ⟨_, rfl⟩
  rw [hr]
  rw [n_impl_Waiting] at hr
  refine tr_go tabOk Try.func18 rfl rfl rfl rfl rfl (ov := [(0, .t ⟨true, [.d (dI (a0.C.Quota)), .d (dI (a0.C.Depth)), .d (dI (a0.C.Chain)), .d (dI (a0.C.Glue)), .d (dI (a0.C.Tries)), .d (dI (a0.C.Addrs)), .d (dI (a0.C.Cap)), .d (.sl 1 (a0.C.Roots.map encI)), .d (dI (a0.Now)), .d (dI (a0.K.Cap)), .d (.sl 6 (a0.K.L.map Entry.cells)), .d (.sl 3 (a0.Bad.map Lame.cells)), .d (.sl 7 (a0.Jobs.map Job.cells)), .d (.sl 2 (a0.Outs.map Packet.cells)), .d (.sl 8 (a0.Reps.map Answer.cells)), .d (dI (a0.Next))]⟩)]) (hv := []) rfl rfl ?_
  refine v_seq ?_
  refine v_reg ?_
  refine sr 0 (.t ⟨false, [.vp 0 0]⟩) (.var [.d (dI (a0.C.Quota)), .d (dI (a0.C.Depth)), .d (dI (a0.C.Chain)), .d (dI (a0.C.Glue)), .d (dI (a0.C.Tries)), .d (dI (a0.C.Addrs)), .d (dI (a0.C.Cap)), .d (.sl 1 (a0.C.Roots.map encI)), .d (dI (a0.Now)), .d (dI (a0.K.Cap)), .d (.sl 6 (a0.K.L.map Entry.cells)), .d (.sl 3 (a0.Bad.map Lame.cells)), .d (.sl 7 (a0.Jobs.map Job.cells)), .d (.sl 2 (a0.Outs.map Packet.cells)), .d (.sl 8 (a0.Reps.map Answer.cells)), .d (dI (a0.Next))]) (zbx rfl (e rfl rfl) rfl rfl rfl) rfl rfl ?_
  refine sy _ (zas rfl (en 1)) rfl rfl ?_
  refine s_end ?_
  refine v_seq ?_
  refine v_reg ?_
  refine sbk 1 (.t ⟨false, [.sr 1 1 0 ((([] : List Int).map encI).length) ((([] : List Int).map encI).length)]⟩) (.row 1 (([] : List Int).map encI) true 1 0) (zbu tabOk rfl rfl rfl rfl .nil rfl rfl) rfl rfl ?_
  refine sy _ (zas rfl (e rfl rfl)) rfl rfl ?_
  refine s_end ?_
  refine v_seq ?_
  refine v_seq ?_
  refine v_reg ?_
  refine sy (.t ⟨false, [.vp 0 12]⟩) (zfa tabOk rfl rfl rfl (e rfl rfl) rfl rfl) rfl rfl ?_
  refine sy (.t ⟨false, [.d (.sl 7 (a0.Jobs.map Job.cells))]⟩) (zlv tabOk rfl (e rfl rfl) rfl rfl rfl) rfl rfl ?_
  have hB1 := (h0.Jobs).1
  refine sy (.t ⟨false, [.d (dI ((a0.Jobs).length : Int))]⟩) (zlm tabOk rfl rfl (e rfl rfl) .d) rfl rfl ?_
  refine sy _ (zmv rfl (ec rfl)) rfl rfl ?_
  refine s_end ?_
  refine v_block ?_
  refine v_lp (fun (q : Nat × List Int × Nat × Nat × Nat) => [(3, .t ⟨false, [.sr 1 q.2.2.2.1 0 (((q.2.1).map encI).length) (((q.2.1).map encI).length)]⟩), (8, .t ⟨false, [.d (.sl 7 (a0.Jobs.map Job.cells))]⟩), (9, .t ⟨false, [.d (dI ((a0.Jobs).length : Int))]⟩), (10, .t ⟨false, [.d (dI (q.2.2.1 : Int))]⟩)]) (fun q => [(1, .row 1 ((q.2.1).map encI) true q.2.2.2.1 q.2.2.2.2)]) (fun q => n_impl_WaitingL1 a0 q.1 q.2.1 q.2.2.1 = r ∧ q.2.2.1 ≤ (a0.Jobs).length ∧ q.2.2.1 + q.1 = (a0.Jobs).length + 1 ∧ q.2.1.length ≤ q.2.2.1 ∧ fitL fitU q.2.1) (fun q => q.1) ((a0.Jobs).length + 1, (([] : List Int) : List Int), (0 : Nat), 1, 0) ⟨hr, by (try dsimp only); (try simp only [List.length_nil, List.length_replicate]); first | done | omega, by (try dsimp only); (try simp only [List.length_nil, List.length_replicate]); first | done | omega, by (try dsimp only); (try simp only [List.length_nil, List.length_replicate]); first | done | omega, fitL_nil⟩ ⟨rfl, rfl, rfl, rfl, trivial⟩ ⟨rfl, trivial⟩ rfl (fun q hq => ?_)
  obtain ⟨n, l1, z10, g1, w1⟩ := q
  obtain ⟨hr, hi1x0, hi1x1, hi1x2, hi1x3⟩ := hq
  dsimp only at hr hi1x0 hi1x1 hi1x2 hi1x3
  show VWp _ _ _ (mk [(3, .t ⟨false, [.sr 1 g1 0 (((l1).map encI).length) (((l1).map encI).length)]⟩), (8, .t ⟨false, [.d (.sl 7 (a0.Jobs.map Job.cells))]⟩), (9, .t ⟨false, [.d (dI ((a0.Jobs).length : Int))]⟩), (10, .t ⟨false, [.d (dI (z10 : Int))]⟩)] _ [(1, .row 1 ((l1).map encI) true g1 w1)])
  rcases n with _ | n
  · exfalso; omega
  rw [n_impl_WaitingL1] at hr
  refine v_seq ?_
  refine v_reg ?_
  refine sy (.t ⟨false, [.d (dB (decide (((z10 : Int)) < (((a0.Jobs).length : Int)))))]⟩) (y_bin rfl (e rfl rfl) (e rfl rfl) (fun _ => b_lss) rfl) rfl rfl ?_
  refine s_end ?_
  refine v_seq ?_
  refine v_cond (e rfl rfl) (fun hb1 => ?_) fun hb1 => ?_
  · replace hr := bf_t hb1 hr
    have hb1p := dec_t hb1
    refine v_skip ?_
    refine v_seq ?_
    refine v_block ?_
    refine v_seq ?_
    refine v_reg ?_
    obtain ⟨x1, hx1⟩ : ∃ x, (a0.Jobs)[z10]? = some x := some_of_lt (by omega)
    replace hr := at_step hx1 hr
    have hfx1 := h0.Jobs.2 _ (List.mem_of_getElem? hx1)
    refine sy (.t ⟨false, [.fe 7 (a0.Jobs.map Job.cells) z10 0]⟩) (zix tabOk rfl rfl rfl (e rfl rfl) (e rfl rfl) (ltm_of_some hx1)) rfl rfl ?_
    refine sy (.t ⟨true, [.d (dI (x1.No)), .d (dI (x1.Client)), .d (dS (x1.Ask.Name)), .d (dI (x1.Ask.Typ)), .d (dI (x1.Sent)), .d (dI (x1.Fetched)), .d (.sl 15 (x1.Stack.map Frame.cells))]⟩) (zle tabOk rfl (e rfl rfl) (getm hx1) rfl rfl) rfl rfl ?_
    refine sr 6 (.t ⟨false, [.vp 6 0]⟩) (.var [.d (dI (0)), .d (dI (0)), .d (dS (⟨#[]⟩)), .d (dI (0)), .d (dI (0)), .d (dI (0)), .nl 15]) (zal tabOk rfl rfl rfl rfl) rfl rfl ?_
    refine sw 6 (.var [.d (dI (x1.No)), .d (dI (x1.Client)), .d (dS (x1.Ask.Name)), .d (dI (x1.Ask.Typ)), .d (dI (x1.Sent)), .d (dI (x1.Fetched)), .d (.sl 15 (x1.Stack.map Frame.cells))]) (zst tabOk rfl (e rfl rfl) rfl (e rfl rfl) rfl rfl rfl) rfl rfl ?_
    refine s_end ?_
    refine v_seq ?_
    refine v_reg ?_
    refine sy (.t ⟨true, [.d (dI (x1.No)), .d (dI (x1.Client)), .d (dS (x1.Ask.Name)), .d (dI (x1.Ask.Typ)), .d (dI (x1.Sent)), .d (dI (x1.Fetched)), .d (.sl 15 (x1.Stack.map Frame.cells))]⟩) (zlv tabOk rfl (e rfl rfl) rfl rfl rfl) rfl rfl ?_
    refine sd (.t ⟨false, [.d (dB (n_impl_waits x1))]⟩) (zcall 7 (.t ⟨false, [.d (dB (n_impl_waits x1))]⟩) [] rfl (tr_n_impl_waits x1 hfx1) (ar (e rfl rfl) (.d (.d (.d (.d (.d (.d (.d .nil))))))) .nil) rfl rfl rfl) rfl rfl rfl rfl ?_
    refine s_end ?_
    refine v_cond (e rfl rfl) (fun hb2 => ?_) fun hb2 => ?_
    · replace hr := bf_t hb2 hr
      refine v_reg ?_
      refine sy _ (zmv rfl (e rfl rfl)) rfl rfl ?_
      refine sy (.t ⟨false, [.vp 6 0]⟩) (zfa tabOk rfl rfl rfl (e rfl rfl) rfl rfl) rfl rfl ?_
      refine sy (.t ⟨false, [.d (dI (x1.No))]⟩) (zlv tabOk rfl (e rfl rfl) rfl rfl rfl) rfl rfl ?_
      refine sbk 7 (.t ⟨false, [.sr 7 1 0 ((([x1.No] : List Int).map encI).length) ((([x1.No] : List Int).map encI).length)]⟩) (.row 1 (([x1.No] : List Int).map encI) true 1 0) (zbu tabOk rfl rfl rfl rfl (pd0 (e rfl rfl) rfl (.lf .nil) rfl .nil) rfl rfl) rfl rfl ?_
      have hB2 := (hi1x3).1
      refine sa 1 (.t ⟨false, [.sr 1 (g1 + 1) 0 (((l1 ++ ([x1.No] : List Int)).map encI).length) (((l1 ++ ([x1.No] : List Int)).map encI).length)]⟩) (.row 1 ((l1 ++ ([x1.No] : List Int)).map encI) true (g1 + 1) (w1 + 1)) (zap tabOk rfl rfl rfl rfl (e rfl rfl) rfl rfl (e rfl rfl) (.flat rfl le_all take_all (flat_I _)) (ap_big (by simp only [List.length_map, List.length_cons, List.length_nil]; omega) rfl) map_app len_app) rfl rfl ?_
      refine sy _ (zas rfl (e rfl rfl)) rfl rfl ?_
      refine s_end ?_
      refine blk_norm ?_
      refine v_reg ?_
      refine sy (.t ⟨false, [.d (dI (z10 + 1 : Int))]⟩) (y_bin rfl (e rfl rfl) (ec rfl) (fun _ => b_addn (by omega) (by omega)) rfl) rfl rfl ?_
      refine sy _ (zmv rfl (e rfl rfl)) rfl rfl ?_
      refine s_end ?_
      exact lp_next (n, l1 ++ ([x1.No] : List Int), z10 + 1, g1 + 1, w1 + 1) ⟨hr, by (try simp only [List.length_append, List.length_cons, List.length_nil, List.length_set]); first | done | omega, by (try simp only [List.length_append, List.length_cons, List.length_nil, List.length_set]); first | done | omega, by (try simp only [List.length_append, List.length_cons, List.length_nil, List.length_set]); first | done | omega, fitL_snoc hi1x3 (by omega) trivial⟩ (Nat.lt_succ_self _) ⟨rfl, rfl, rfl, rfl, trivial⟩ ⟨rfl, trivial⟩ rfl
    replace hr := bf_f hb2 hr
    refine v_skip ?_
    refine blk_norm ?_
    refine v_reg ?_
    refine sy (.t ⟨false, [.d (dI (z10 + 1 : Int))]⟩) (y_bin rfl (e rfl rfl) (ec rfl) (fun _ => b_addn (by omega) (by omega)) rfl) rfl rfl ?_
    refine sy _ (zmv rfl (e rfl rfl)) rfl rfl ?_
    refine s_end ?_
    exact lp_next (n, l1, z10 + 1, g1, w1) ⟨hr, by (try simp only [List.length_append, List.length_cons, List.length_nil, List.length_set]); first | done | omega, by (try simp only [List.length_append, List.length_cons, List.length_nil, List.length_set]); first | done | omega, by (try simp only [List.length_append, List.length_cons, List.length_nil, List.length_set]); first | done | omega, hi1x3⟩ (Nat.lt_succ_self _) ⟨rfl, rfl, rfl, rfl, trivial⟩ ⟨rfl, trivial⟩ rfl
  replace hr := bf_f hb1 hr
  have hb1p := dec_f hb1
  refine v_exit ?_
  refine then_exit ?_
  refine loop_exit ?_
  refine blk_hit ?_
  refine v_seq ?_
  refine v_reg ?_
  refine sy _ (zmv rfl (e rfl rfl)) rfl rfl ?_
  refine sy _ (zas rfl (e rfl rfl)) rfl rfl ?_
  refine s_end ?_
  refine v_ret ?_
  subst hr
  exact post_ret (rv (.tmp (eg rfl rfl)) rfl (.sr rfl le_all take_all .nil) rfl .nil) (.ro .nil) rfl
def n_spec_l23AtL1 (a0 : World) (a1 : Int) : Nat → Nat → Int
  | 0, _ => default
  | n + 1, i => cond (decide (((i : Int)) < (((a0.Reps).length : Int)))) (atL (a0.Reps) (i) (fun x1 => cond (decide ((x1.No) = (a1))) ((i : Int)) (n_spec_l23AtL1 a0 a1 n (i + 1)))) (-1)
def n_spec_l23At (a0 : World) (a1 : Int) : Int := n_spec_l23AtL1 a0 a1 ((a0.Reps).length + 1) 0
set_option maxHeartbeats 4000000 in
set_option maxRecDepth 20000 in
theorem tr_n_spec_l23At (a0 : World) (a1 : Int) (h0 : World.Fit a0) : Tr Try.prog 62 [.ro ⟨true, [dI (a0.C.Quota), dI (a0.C.Depth), dI (a0.C.Chain), dI (a0.C.Glue), dI (a0.C.Tries), dI (a0.C.Addrs), dI (a0.C.Cap), .sl 1 (a0.C.Roots.map encI), dI (a0.Now), dI (a0.K.Cap), .sl 6 (a0.K.L.map Entry.cells), .sl 3 (a0.Bad.map Lame.cells), .sl 7 (a0.Jobs.map Job.cells), .sl 2 (a0.Outs.map Packet.cells), .sl 8 (a0.Reps.map Answer.cells), dI (a0.Next)]⟩, .ro ⟨false, [dI (a1)]⟩] [⟨false, [dI ((n_spec_l23At a0 a1))]⟩] := by
  obtain ⟨r, hr⟩ : ∃ r, n_spec_l23At a0 a1 = r := ⟨_, rfl⟩
  rw [hr]
  rw [n_spec_l23At] at hr
  refine tr_go tabOk Try.func62 rfl rfl rfl rfl rfl (ov := [(0, .t ⟨true, [.d (dI (a0.C.Quota)), .d (dI (a0.C.Depth)), .d (dI (a0.C.Chain)), .d (dI (a0.C.Glue)), .d (dI (a0.C.Tries)), .d (dI (a0.C.Addrs)), .d (dI (a0.C.Cap)), .d (.sl 1 (a0.C.Roots.map encI)), .d (dI (a0.Now)), .d (dI (a0.K.Cap)), .d (.sl 6 (a0.K.L.map Entry.cells)), .d (.sl 3 (a0.Bad.map Lame.cells)), .d (.sl 7 (a0.Jobs.map Job.cells)), .d (.sl 2 (a0.Outs.map Packet.cells)), .d (.sl 8 (a0.Reps.map Answer.cells)), .d (dI (a0.Next))]⟩), (1, .t ⟨false, [.d (dI (a1))]⟩)]) (hv := []) rfl rfl ?_
  refine v_seq ?_
  refine v_reg ?_
  refine sr 0 (.t ⟨false, [.vp 0 0]⟩) (.var [.d (dI (a0.C.Quota)), .d (dI (a0.C.Depth)), .d (dI (a0.C.Chain)), .d (dI (a0.C.Glue)), .d (dI (a0.C.Tries)), .d (dI (a0.C.Addrs)), .d (dI (a0.C.Cap)), .d (.sl 1 (a0.C.Roots.map encI)), .d (dI (a0.Now)), .d (dI (a0.K.Cap)), .d (.sl 6 (a0.K.L.map Entry.cells)), .d (.sl 3 (a0.Bad.map Lame.cells)), .d (.sl 7 (a0.Jobs.map Job.cells)), .d (.sl 2 (a0.Outs.map Packet.cells)), .d (.sl 8 (a0.Reps.map Answer.cells)), .d (dI (a0.Next))]) (zbx rfl (e rfl rfl) rfl rfl rfl) rfl rfl ?_
  refine sy _ (zas rfl (ec rfl)) rfl rfl ?_
  refine s_end ?_
  refine v_seq ?_
  refine v_seq ?_
  refine v_reg ?_
  refine sy _ (zas rfl (ec rfl)) rfl rfl ?_
  refine s_end ?_
  refine v_block ?_
  refine v_lp (fun (q : Nat × Nat) => [(1, .t ⟨false, [.d (dI (a1))]⟩), (2, .t ⟨false, [.vp 0 0]⟩), (5, .t ⟨false, [.d (dI (q.2 : Int))]⟩)]) (fun q => [(0, .var [.d (dI (a0.C.Quota)), .d (dI (a0.C.Depth)), .d (dI (a0.C.Chain)), .d (dI (a0.C.Glue)), .d (dI (a0.C.Tries)), .d (dI (a0.C.Addrs)), .d (dI (a0.C.Cap)), .d (.sl 1 (a0.C.Roots.map encI)), .d (dI (a0.Now)), .d (dI (a0.K.Cap)), .d (.sl 6 (a0.K.L.map Entry.cells)), .d (.sl 3 (a0.Bad.map Lame.cells)), .d (.sl 7 (a0.Jobs.map Job.cells)), .d (.sl 2 (a0.Outs.map Packet.cells)), .d (.sl 8 (a0.Reps.map Answer.cells)), .d (dI (a0.Next))])]) (fun q => n_spec_l23AtL1 a0 a1 q.1 q.2 = r ∧ q.2 ≤ (a0.Reps).length ∧ q.2 + q.1 = (a0.Reps).length + 1) (fun q => q.1) ((a0.Reps).length + 1, (0 : Nat)) ⟨hr, by (try dsimp only); (try simp only [List.length_nil, List.length_replicate]); first | done | omega, by (try dsimp only); (try simp only [List.length_nil, List.length_replicate]); first | done | omega⟩ ⟨rfl, rfl, rfl, trivial⟩ ⟨rfl, trivial⟩ rfl (fun q hq => ?_)
  obtain ⟨n, i⟩ := q
  obtain ⟨hr, hi1x0, hi1x1⟩ := hq
  dsimp only at hr hi1x0 hi1x1
  show VWp _ _ _ (mk [(1, .t ⟨false, [.d (dI (a1))]⟩), (2, .t ⟨false, [.vp 0 0]⟩), (5, .t ⟨false, [.d (dI (i : Int))]⟩)] _ [(0, .var [.d (dI (a0.C.Quota)), .d (dI (a0.C.Depth)), .d (dI (a0.C.Chain)), .d (dI (a0.C.Glue)), .d (dI (a0.C.Tries)), .d (dI (a0.C.Addrs)), .d (dI (a0.C.Cap)), .d (.sl 1 (a0.C.Roots.map encI)), .d (dI (a0.Now)), .d (dI (a0.K.Cap)), .d (.sl 6 (a0.K.L.map Entry.cells)), .d (.sl 3 (a0.Bad.map Lame.cells)), .d (.sl 7 (a0.Jobs.map Job.cells)), .d (.sl 2 (a0.Outs.map Packet.cells)), .d (.sl 8 (a0.Reps.map Answer.cells)), .d (dI (a0.Next))])])
  rcases n with _ | n
  · exfalso; omega
  rw [n_spec_l23AtL1] at hr
  refine v_seq ?_
  refine v_seq ?_
  refine v_reg ?_
  refine sy _ (zmv rfl (e rfl rfl)) rfl rfl ?_
  refine sy (.t ⟨false, [.vp 0 14]⟩) (zfa tabOk rfl rfl rfl (e rfl rfl) rfl rfl) rfl rfl ?_
  refine sy (.t ⟨false, [.d (.sl 8 (a0.Reps.map Answer.cells))]⟩) (zlv tabOk rfl (e rfl rfl) rfl rfl rfl) rfl rfl ?_
  have hB1 := (h0.Reps).1
  refine sy (.t ⟨false, [.d (dI ((a0.Reps).length : Int))]⟩) (zlm tabOk rfl rfl (e rfl rfl) .d) rfl rfl ?_
  refine sy (.t ⟨false, [.d (dB (decide (((i : Int)) < (((a0.Reps).length : Int)))))]⟩) (y_bin rfl (e rfl rfl) (e rfl rfl) (fun _ => b_lss) rfl) rfl rfl ?_
  refine s_end ?_
  refine v_cond (e rfl rfl) (fun hb1 => ?_) fun hb1 => ?_
  · replace hr := bf_t hb1 hr
    have hb1p := dec_t hb1
    refine v_skip ?_
    refine v_seq ?_
    refine v_block ?_
    refine v_seq ?_
    refine v_reg ?_
    refine sy (.t ⟨false, [.vp 0 14]⟩) (zfa tabOk rfl rfl rfl (e rfl rfl) rfl rfl) rfl rfl ?_
    refine sy (.t ⟨false, [.d (.sl 8 (a0.Reps.map Answer.cells))]⟩) (zlv tabOk rfl (e rfl rfl) rfl rfl rfl) rfl rfl ?_
    refine sy _ (zmv rfl (e rfl rfl)) rfl rfl ?_
    obtain ⟨x1, hx1⟩ : ∃ x, (a0.Reps)[i]? = some x := some_of_lt (by omega)
    replace hr := at_step hx1 hr
    have hfx1 := h0.Reps.2 _ (List.mem_of_getElem? hx1)
    refine sy (.t ⟨false, [.fe 8 (a0.Reps.map Answer.cells) i 0]⟩) (zix tabOk rfl rfl rfl (e rfl rfl) (e rfl rfl) (ltm_of_some hx1)) rfl rfl ?_
    refine sy (.t ⟨false, [.fe 8 (a0.Reps.map Answer.cells) i 0]⟩) (zfa tabOk rfl rfl rfl (e rfl rfl) rfl rfl) rfl rfl ?_
    refine sy (.t ⟨false, [.d (dI (x1.No))]⟩) (zle tabOk rfl (e rfl rfl) (getm hx1) rfl rfl) rfl rfl ?_
    refine sy _ (zmv rfl (e rfl rfl)) rfl rfl ?_
    refine sy (.t ⟨false, [.d (dB (decide ((x1.No) = (a1))))]⟩) (y_bin rfl (e rfl rfl) (e rfl rfl) (fun _ => b_eql) rfl) rfl rfl ?_
    refine s_end ?_
    refine v_cond (e rfl rfl) (fun hb2 => ?_) fun hb2 => ?_
    · replace hr := bf_t hb2 hr
      have hb2p := dec_t hb2
      refine v_seq ?_
      refine v_reg ?_
      refine sy _ (zmv rfl (e rfl rfl)) rfl rfl ?_
      refine sy _ (zas rfl (e rfl rfl)) rfl rfl ?_
      refine s_end ?_
      refine v_ret ?_
      subst hr
      exact post_ret (rv (.tmp (eg rfl rfl)) rfl (.lf .nil) rfl .nil) (.ro (.ro .nil)) rfl
    replace hr := bf_f hb2 hr
    have hb2p := dec_f hb2
    refine v_skip ?_
    refine blk_norm ?_
    refine v_reg ?_
    refine sy _ (zmv rfl (e rfl rfl)) rfl rfl ?_
    refine sy (.t ⟨false, [.d (dI (i + 1 : Int))]⟩) (y_bin rfl (e rfl rfl) (ec rfl) (fun _ => b_addn (by omega) (by omega)) rfl) rfl rfl ?_
    refine sy _ (zas rfl (e rfl rfl)) rfl rfl ?_
    refine s_end ?_
    exact lp_next (n, i + 1) ⟨hr, by (try simp only [List.length_append, List.length_cons, List.length_nil, List.length_set]); first | done | omega, by (try simp only [List.length_append, List.length_cons, List.length_nil, List.length_set]); first | done | omega⟩ (Nat.lt_succ_self _) ⟨rfl, rfl, rfl, trivial⟩ ⟨rfl, trivial⟩ rfl
  replace hr := bf_f hb1 hr
  have hb1p := dec_f hb1
  refine v_exit ?_
  refine then_exit ?_
  refine loop_exit ?_
  refine blk_hit ?_
  refine v_seq ?_
  refine v_reg ?_
  refine sy _ (zas rfl (ec rfl)) rfl rfl ?_
  refine s_end ?_
  refine v_ret ?_
  subst hr
  exact post_ret (rv (.tmp (eg rfl rfl)) rfl (.lf .nil) rfl .nil) (.ro (.ro .nil)) rfl
theorem idx_rng {α : Type} {p : α → Bool} {xs : List α} {f : Nat → Nat → Int} (hs : ∀ n i, f (n + 1) i = cond (decide ((i : Int) < (xs.length : Int))) (atL xs i fun x => cond (p x) (i : Int) (f n (i + 1))) (-1)) :
    ∀ (n i : Nat), i ≤ xs.length → i + n = xs.length + 1 → -1 ≤ f n i ∧ f n i < (xs.length : Int)
  | 0, i, h1, h2 => by omega
  | n + 1, i, h1, h2 => by
    rw [hs]
    rcases Nat.lt_or_ge i xs.length with h | h
    · have e : (decide ((i : Int) < (xs.length : Int))) = true := by simp; omega
      rw [e, cond_true, atL_lt h]
      cases p xs[i] with
      | true => simp only [cond_true]; omega
      | false => simp only [cond_false]; exact idx_rng hs n (i + 1) (by omega) (by omega)
    · have e : (decide ((i : Int) < (xs.length : Int))) = false := by simp; omega
      rw [e, cond_false]; omega

theorem l23At_rng (a : World) (k : Int) : -1 ≤ n_spec_l23At a k ∧ n_spec_l23At a k < a.Reps.length :=
  idx_rng (p := fun x => decide (x.No = k)) (xs := a.Reps) (f := n_spec_l23AtL1 a k) (fun n i => rfl) (a.Reps.length + 1) 0 (Nat.zero_le _) (Nat.zero_add _)
def n_spec_l23Answer (a0 : Answer) : Answer := a0
set_option maxHeartbeats 4000000 in
set_option maxRecDepth 20000 in
theorem tr_n_spec_l23Answer (a0 : Answer) (h0 : Answer.Fit a0) : Tr Try.prog 63 [.ro ⟨true, [dI (a0.No), dI (a0.Client), dI (a0.Code), dS (a0.Q.Name), dI (a0.Q.Typ), .sl 6 (a0.Links.map Record.cells), .sl 6 (a0.L.map Record.cells), dI (a0.Sent)]⟩] [⟨true, [dI (((n_spec_l23Answer a0)).No), dI (((n_spec_l23Answer a0)).Client), dI (((n_spec_l23Answer a0)).Code), dS ((((n_spec_l23Answer a0)).Q).Name), dI ((((n_spec_l23Answer a0)).Q).Typ), .sl 6 ((((n_spec_l23Answer a0)).Links).map Record.cells), .sl 6 ((((n_spec_l23Answer a0)).L).map Record.cells), dI (((n_spec_l23Answer a0)).Sent)]⟩] := by
  obtain ⟨r, hr⟩ : ∃ r, n_spec_l23Answer a0 = r := ⟨_, rfl⟩
  rw [hr]
  rw [n_spec_l23Answer] at hr
  refine tr_go tabOk Try.func63 rfl rfl rfl rfl rfl (ov := [(0, .t ⟨true, [.d (dI (a0.No)), .d (dI (a0.Client)), .d (dI (a0.Code)), .d (dS (a0.Q.Name)), .d (dI (a0.Q.Typ)), .d (.sl 6 (a0.Links.map Record.cells)), .d (.sl 6 (a0.L.map Record.cells)), .d (dI (a0.Sent))]⟩)]) (hv := []) rfl rfl ?_
  refine v_seq ?_
  refine v_reg ?_
  refine sr 0 (.t ⟨false, [.vp 0 0]⟩) (.var [.d (dI (a0.No)), .d (dI (a0.Client)), .d (dI (a0.Code)), .d (dS (a0.Q.Name)), .d (dI (a0.Q.Typ)), .d (.sl 6 (a0.Links.map Record.cells)), .d (.sl 6 (a0.L.map Record.cells)), .d (dI (a0.Sent))]) (zbx rfl (e rfl rfl) rfl rfl rfl) rfl rfl ?_
  refine sr 1 (.t ⟨false, [.vp 1 0]⟩) (.var [.d (dI (0)), .d (dI (0)), .d (dI (0)), .d (dS (⟨#[]⟩)), .d (dI (0)), .nl 6, .nl 6, .d (dI (0))]) (zal tabOk rfl rfl rfl rfl) rfl rfl ?_
  refine s_end ?_
  refine v_seq ?_
  refine v_reg ?_
  refine sy (.t ⟨false, [.vp 0 5]⟩) (zfa tabOk rfl rfl rfl (e rfl rfl) rfl rfl) rfl rfl ?_
  refine sy (.t ⟨false, [.d (.sl 6 (a0.Links.map Record.cells))]⟩) (zlv tabOk rfl (e rfl rfl) rfl rfl rfl) rfl rfl ?_
  refine sd (.t ⟨false, [.sr 2 1 0 ((a0.Links.map Record.cells).length) ((a0.Links.map Record.cells).length)]⟩) (zcall 2 (.t ⟨false, [.sr 2 1 0 ((a0.Links.map Record.cells).length) ((a0.Links.map Record.cells).length)]⟩) [(2, .row 6 (a0.Links.map Record.cells) true 1 0)] rfl (tr_n_spec_l7Copy a0.Links h0.Links) (ar (e rfl rfl) (.d .nil) .nil) rfl rfl rfl) rfl rfl rfl rfl ?_
  refine sy (.t ⟨false, [.vp 0 5]⟩) (zfa tabOk rfl rfl rfl (e rfl rfl) rfl rfl) rfl rfl ?_
  refine sw 0 (.var [.d (dI (a0.No)), .d (dI (a0.Client)), .d (dI (a0.Code)), .d (dS (a0.Q.Name)), .d (dI (a0.Q.Typ)), .sr 2 1 0 ((a0.Links.map Record.cells).length) ((a0.Links.map Record.cells).length), .d (.sl 6 (a0.L.map Record.cells)), .d (dI (a0.Sent))]) (zst tabOk rfl (e rfl rfl) rfl (e rfl rfl) rfl rfl rfl) rfl rfl ?_
  refine s_end ?_
  refine v_seq ?_
  refine v_reg ?_
  refine sy (.t ⟨false, [.vp 0 6]⟩) (zfa tabOk rfl rfl rfl (e rfl rfl) rfl rfl) rfl rfl ?_
  refine sy (.t ⟨false, [.d (.sl 6 (a0.L.map Record.cells))]⟩) (zlv tabOk rfl (e rfl rfl) rfl rfl rfl) rfl rfl ?_
  refine sd (.t ⟨false, [.sr 3 1 0 ((a0.L.map Record.cells).length) ((a0.L.map Record.cells).length)]⟩) (zcall 3 (.t ⟨false, [.sr 3 1 0 ((a0.L.map Record.cells).length) ((a0.L.map Record.cells).length)]⟩) [(3, .row 6 (a0.L.map Record.cells) true 1 0)] rfl (tr_n_spec_l7Copy a0.L h0.L) (ar (e rfl rfl) (.d .nil) .nil) rfl rfl rfl) rfl rfl rfl rfl ?_
  refine sy (.t ⟨false, [.vp 0 6]⟩) (zfa tabOk rfl rfl rfl (e rfl rfl) rfl rfl) rfl rfl ?_
  refine sw 0 (.var [.d (dI (a0.No)), .d (dI (a0.Client)), .d (dI (a0.Code)), .d (dS (a0.Q.Name)), .d (dI (a0.Q.Typ)), .sr 2 1 0 ((a0.Links.map Record.cells).length) ((a0.Links.map Record.cells).length), .sr 3 1 0 ((a0.L.map Record.cells).length) ((a0.L.map Record.cells).length), .d (dI (a0.Sent))]) (zst tabOk rfl (e rfl rfl) rfl (e rfl rfl) rfl rfl rfl) rfl rfl ?_
  refine s_end ?_
  refine v_seq ?_
  refine v_reg ?_
  refine sy (.t ⟨true, [.d (dI (a0.No)), .d (dI (a0.Client)), .d (dI (a0.Code)), .d (dS (a0.Q.Name)), .d (dI (a0.Q.Typ)), .sr 2 1 0 ((a0.Links.map Record.cells).length) ((a0.Links.map Record.cells).length), .sr 3 1 0 ((a0.L.map Record.cells).length) ((a0.L.map Record.cells).length), .d (dI (a0.Sent))]⟩) (zlv tabOk rfl (e rfl rfl) rfl rfl rfl) rfl rfl ?_
  refine sw 1 (.var [.d (dI (a0.No)), .d (dI (a0.Client)), .d (dI (a0.Code)), .d (dS (a0.Q.Name)), .d (dI (a0.Q.Typ)), .sr 2 1 0 ((a0.Links.map Record.cells).length) ((a0.Links.map Record.cells).length), .sr 3 1 0 ((a0.L.map Record.cells).length) ((a0.L.map Record.cells).length), .d (dI (a0.Sent))]) (zst tabOk rfl (e rfl rfl) rfl (e rfl rfl) rfl rfl rfl) rfl rfl ?_
  refine s_end ?_
  refine v_ret ?_
  subst hr
  exact post_ret (rv (.cell (eg rfl rfl) rfl rfl (.inl rfl) rfl) rfl (.lf (.lf (.lf (.lf (.lf (.sr rfl le_all take_all (.sr rfl le_all take_all (.lf .nil)))))))) rfl .nil) (.ro .nil) rfl
def n_impl_copyAnswer (a0 : Answer) : Answer := a0
set_option maxHeartbeats 4000000 in
set_option maxRecDepth 20000 in
theorem tr_n_impl_copyAnswer (a0 : Answer) (h0 : Answer.Fit a0) : Tr Try.prog 64 [.ro ⟨true, [dI (a0.No), dI (a0.Client), dI (a0.Code), dS (a0.Q.Name), dI (a0.Q.Typ), .sl 6 (a0.Links.map Record.cells), .sl 6 (a0.L.map Record.cells), dI (a0.Sent)]⟩] [⟨true, [dI (((n_impl_copyAnswer a0)).No), dI (((n_impl_copyAnswer a0)).Client), dI (((n_impl_copyAnswer a0)).Code), dS ((((n_impl_copyAnswer a0)).Q).Name), dI ((((n_impl_copyAnswer a0)).Q).Typ), .sl 6 ((((n_impl_copyAnswer a0)).Links).map Record.cells), .sl 6 ((((n_impl_copyAnswer a0)).L).map Record.cells), dI (((n_impl_copyAnswer a0)).Sent)]⟩] := by
  obtain ⟨r, hr⟩ : ∃ r, n_impl_copyAnswer a0 = r := ⟨_, rfl⟩
  rw [hr]
  rw [n_impl_copyAnswer] at hr
  refine tr_go tabOk Try.func64 rfl rfl rfl rfl rfl (ov := [(0, .t ⟨true, [.d (dI (a0.No)), .d (dI (a0.Client)), .d (dI (a0.Code)), .d (dS (a0.Q.Name)), .d (dI (a0.Q.Typ)), .d (.sl 6 (a0.Links.map Record.cells)), .d (.sl 6 (a0.L.map Record.cells)), .d (dI (a0.Sent))]⟩)]) (hv := []) rfl rfl ?_
  refine v_seq ?_
  refine v_reg ?_
  refine sr 0 (.t ⟨false, [.vp 0 0]⟩) (.var [.d (dI (a0.No)), .d (dI (a0.Client)), .d (dI (a0.Code)), .d (dS (a0.Q.Name)), .d (dI (a0.Q.Typ)), .d (.sl 6 (a0.Links.map Record.cells)), .d (.sl 6 (a0.L.map Record.cells)), .d (dI (a0.Sent))]) (zbx rfl (e rfl rfl) rfl rfl rfl) rfl rfl ?_
  refine sr 1 (.t ⟨false, [.vp 1 0]⟩) (.var [.d (dI (0)), .d (dI (0)), .d (dI (0)), .d (dS (⟨#[]⟩)), .d (dI (0)), .nl 6, .nl 6, .d (dI (0))]) (zal tabOk rfl rfl rfl rfl) rfl rfl ?_
  refine s_end ?_
  refine v_seq ?_
  refine v_reg ?_
  refine sy (.t ⟨false, [.vp 0 5]⟩) (zfa tabOk rfl rfl rfl (e rfl rfl) rfl rfl) rfl rfl ?_
  refine sy (.t ⟨false, [.d (.sl 6 (a0.Links.map Record.cells))]⟩) (zlv tabOk rfl (e rfl rfl) rfl rfl rfl) rfl rfl ?_
  refine sd (.t ⟨false, [.sr 2 1 0 ((a0.Links.map Record.cells).length) ((a0.Links.map Record.cells).length)]⟩) (zcall 2 (.t ⟨false, [.sr 2 1 0 ((a0.Links.map Record.cells).length) ((a0.Links.map Record.cells).length)]⟩) [(2, .row 6 (a0.Links.map Record.cells) true 1 0)] rfl (tr_clone_Record a0.Links (Nat.le_trans h0.Links.1 (by decide))) (ar (e rfl rfl) (.d .nil) .nil) rfl rfl rfl) rfl rfl rfl rfl ?_
  refine sy (.t ⟨false, [.vp 0 5]⟩) (zfa tabOk rfl rfl rfl (e rfl rfl) rfl rfl) rfl rfl ?_
  refine sw 0 (.var [.d (dI (a0.No)), .d (dI (a0.Client)), .d (dI (a0.Code)), .d (dS (a0.Q.Name)), .d (dI (a0.Q.Typ)), .sr 2 1 0 ((a0.Links.map Record.cells).length) ((a0.Links.map Record.cells).length), .d (.sl 6 (a0.L.map Record.cells)), .d (dI (a0.Sent))]) (zst tabOk rfl (e rfl rfl) rfl (e rfl rfl) rfl rfl rfl) rfl rfl ?_
  refine s_end ?_
  refine v_seq ?_
  refine v_reg ?_
  refine sy (.t ⟨false, [.vp 0 6]⟩) (zfa tabOk rfl rfl rfl (e rfl rfl) rfl rfl) rfl rfl ?_
  refine sy (.t ⟨false, [.d (.sl 6 (a0.L.map Record.cells))]⟩) (zlv tabOk rfl (e rfl rfl) rfl rfl rfl) rfl rfl ?_
  refine sd (.t ⟨false, [.sr 3 1 0 ((a0.L.map Record.cells).length) ((a0.L.map Record.cells).length)]⟩) (zcall 3 (.t ⟨false, [.sr 3 1 0 ((a0.L.map Record.cells).length) ((a0.L.map Record.cells).length)]⟩) [(3, .row 6 (a0.L.map Record.cells) true 1 0)] rfl (tr_clone_Record a0.L (Nat.le_trans h0.L.1 (by decide))) (ar (e rfl rfl) (.d .nil) .nil) rfl rfl rfl) rfl rfl rfl rfl ?_
  refine sy (.t ⟨false, [.vp 0 6]⟩) (zfa tabOk rfl rfl rfl (e rfl rfl) rfl rfl) rfl rfl ?_
  refine sw 0 (.var [.d (dI (a0.No)), .d (dI (a0.Client)), .d (dI (a0.Code)), .d (dS (a0.Q.Name)), .d (dI (a0.Q.Typ)), .sr 2 1 0 ((a0.Links.map Record.cells).length) ((a0.Links.map Record.cells).length), .sr 3 1 0 ((a0.L.map Record.cells).length) ((a0.L.map Record.cells).length), .d (dI (a0.Sent))]) (zst tabOk rfl (e rfl rfl) rfl (e rfl rfl) rfl rfl rfl) rfl rfl ?_
  refine s_end ?_
  refine v_seq ?_
  refine v_reg ?_
  refine sy (.t ⟨true, [.d (dI (a0.No)), .d (dI (a0.Client)), .d (dI (a0.Code)), .d (dS (a0.Q.Name)), .d (dI (a0.Q.Typ)), .sr 2 1 0 ((a0.Links.map Record.cells).length) ((a0.Links.map Record.cells).length), .sr 3 1 0 ((a0.L.map Record.cells).length) ((a0.L.map Record.cells).length), .d (dI (a0.Sent))]⟩) (zlv tabOk rfl (e rfl rfl) rfl rfl rfl) rfl rfl ?_
  refine sw 1 (.var [.d (dI (a0.No)), .d (dI (a0.Client)), .d (dI (a0.Code)), .d (dS (a0.Q.Name)), .d (dI (a0.Q.Typ)), .sr 2 1 0 ((a0.Links.map Record.cells).length) ((a0.Links.map Record.cells).length), .sr 3 1 0 ((a0.L.map Record.cells).length) ((a0.L.map Record.cells).length), .d (dI (a0.Sent))]) (zst tabOk rfl (e rfl rfl) rfl (e rfl rfl) rfl rfl rfl) rfl rfl ?_
  refine s_end ?_
  refine v_ret ?_
  subst hr
  exact post_ret (rv (.cell (eg rfl rfl) rfl rfl (.inl rfl) rfl) rfl (.lf (.lf (.lf (.lf (.lf (.sr rfl le_all take_all (.sr rfl le_all take_all (.lf .nil)))))))) rfl .nil) (.ro .nil) rfl
def n_spec_AnswerTo (a0 : World) (a1 : Int) : Answer × Bool := cond (decide ((n_spec_l23At a0 a1) < (0))) (((⟨0, 0, 0, ⟨⟨#[]⟩, 0⟩, [], [], 0⟩ : Answer), false)) (atL (a0.Reps) ((n_spec_l23At a0 a1).toNat) (fun x1 => bindv (n_spec_l23Answer x1) (fun v2 => (v2, true))))
set_option maxHeartbeats 4000000 in
set_option maxRecDepth 20000 in
theorem tr_n_spec_AnswerTo (a0 : World) (a1 : Int) (h0 : World.Fit a0) : Tr Try.prog 22 [.ro ⟨true, [dI (a0.C.Quota), dI (a0.C.Depth), dI (a0.C.Chain), dI (a0.C.Glue), dI (a0.C.Tries), dI (a0.C.Addrs), dI (a0.C.Cap), .sl 1 (a0.C.Roots.map encI), dI (a0.Now), dI (a0.K.Cap), .sl 6 (a0.K.L.map Entry.cells), .sl 3 (a0.Bad.map Lame.cells), .sl 7 (a0.Jobs.map Job.cells), .sl 2 (a0.Outs.map Packet.cells), .sl 8 (a0.Reps.map Answer.cells), dI (a0.Next)]⟩, .ro ⟨false, [dI (a1)]⟩] [⟨true, [dI (((n_spec_AnswerTo a0 a1).1).No), dI (((n_spec_AnswerTo a0 a1).1).Client), dI (((n_spec_AnswerTo a0 a1).1).Code), dS ((((n_spec_AnswerTo a0 a1).1).Q).Name), dI ((((n_spec_AnswerTo a0 a1).1).Q).Typ), .sl 6 ((((n_spec_AnswerTo a0 a1).1).Links).map Record.cells), .sl 6 ((((n_spec_AnswerTo a0 a1).1).L).map Record.cells), dI (((n_spec_AnswerTo a0 a1).1).Sent)]⟩, ⟨false, [dB ((n_spec_AnswerTo a0 a1).2)]⟩] := by
  obtain ⟨r, hr⟩ : ∃ r, n_spec_AnswerTo a0 a1 = r := ⟨_, rfl⟩
  rw [hr]
  rw [n_spec_AnswerTo] at hr
  refine tr_go tabOk Try.func22 rfl rfl rfl rfl rfl (ov := [(0, .t ⟨true, [.d (dI (a0.C.Quota)), .d (dI (a0.C.Depth)), .d (dI (a0.C.Chain)), .d (dI (a0.C.Glue)), .d (dI (a0.C.Tries)), .d (dI (a0.C.Addrs)), .d (dI (a0.C.Cap)), .d (.sl 1 (a0.C.Roots.map encI)), .d (dI (a0.Now)), .d (dI (a0.K.Cap)), .d (.sl 6 (a0.K.L.map Entry.cells)), .d (.sl 3 (a0.Bad.map Lame.cells)), .d (.sl 7 (a0.Jobs.map Job.cells)), .d (.sl 2 (a0.Outs.map Packet.cells)), .d (.sl 8 (a0.Reps.map Answer.cells)), .d (dI (a0.Next))]⟩), (1, .t ⟨false, [.d (dI (a1))]⟩)]) (hv := []) rfl rfl ?_
  refine v_seq ?_
  refine v_reg ?_
  refine sr 0 (.t ⟨false, [.vp 0 0]⟩) (.var [.d (dI (a0.C.Quota)), .d (dI (a0.C.Depth)), .d (dI (a0.C.Chain)), .d (dI (a0.C.Glue)), .d (dI (a0.C.Tries)), .d (dI (a0.C.Addrs)), .d (dI (a0.C.Cap)), .d (.sl 1 (a0.C.Roots.map encI)), .d (dI (a0.Now)), .d (dI (a0.K.Cap)), .d (.sl 6 (a0.K.L.map Entry.cells)), .d (.sl 3 (a0.Bad.map Lame.cells)), .d (.sl 7 (a0.Jobs.map Job.cells)), .d (.sl 2 (a0.Outs.map Packet.cells)), .d (.sl 8 (a0.Reps.map Answer.cells)), .d (dI (a0.Next))]) (zbx rfl (e rfl rfl) rfl rfl rfl) rfl rfl ?_
  refine sr 1 (.t ⟨false, [.vp 1 0]⟩) (.var [.d (dI (0)), .d (dI (0)), .d (dI (0)), .d (dS (⟨#[]⟩)), .d (dI (0)), .nl 6, .nl 6, .d (dI (0))]) (zal tabOk rfl rfl rfl rfl) rfl rfl ?_
  refine sy _ (zas rfl (ec rfl)) rfl rfl ?_
  refine s_end ?_
  refine v_seq ?_
  refine v_reg ?_
  refine sy (.t ⟨true, [.d (dI (a0.C.Quota)), .d (dI (a0.C.Depth)), .d (dI (a0.C.Chain)), .d (dI (a0.C.Glue)), .d (dI (a0.C.Tries)), .d (dI (a0.C.Addrs)), .d (dI (a0.C.Cap)), .d (.sl 1 (a0.C.Roots.map encI)), .d (dI (a0.Now)), .d (dI (a0.K.Cap)), .d (.sl 6 (a0.K.L.map Entry.cells)), .d (.sl 3 (a0.Bad.map Lame.cells)), .d (.sl 7 (a0.Jobs.map Job.cells)), .d (.sl 2 (a0.Outs.map Packet.cells)), .d (.sl 8 (a0.Reps.map Answer.cells)), .d (dI (a0.Next))]⟩) (zlv tabOk rfl (e rfl rfl) rfl rfl rfl) rfl rfl ?_
  refine sy _ (zmv rfl (e rfl rfl)) rfl rfl ?_
  have hq1 := l23At_rng a0 a1
  refine sd (.t ⟨false, [.d (dI (n_spec_l23At a0 a1))]⟩) (zcall 2 (.t ⟨false, [.d (dI (n_spec_l23At a0 a1))]⟩) [] rfl (tr_n_spec_l23At a0 a1 h0) (ar (e rfl rfl) (.d (.d (.d (.d (.d (.d (.d (.d (.d (.d (.d (.d (.d (.d (.d (.d .nil)))))))))))))))) (ar (e rfl rfl) (.d .nil) .nil)) rfl rfl rfl) rfl rfl rfl rfl ?_
  refine sy _ (zas rfl (e rfl rfl)) rfl rfl ?_
  refine s_end ?_
  refine v_seq ?_
  refine v_seq ?_
  refine v_reg ?_
  refine sy _ (zmv rfl (e rfl rfl)) rfl rfl ?_
  refine sy (.t ⟨false, [.d (dB (decide ((n_spec_l23At a0 a1) < (0))))]⟩) (y_bin rfl (e rfl rfl) (ec rfl) (fun _ => b_lss) rfl) rfl rfl ?_
  refine s_end ?_
  refine v_cond (e rfl rfl) (fun hb2 => ?_) fun hb2 => ?_
  · replace hr := bf_t hb2 hr
    have hb2p := dec_t hb2
    refine v_seq ?_
    refine v_reg ?_
    refine sy (.t ⟨true, [.d (dI (0)), .d (dI (0)), .d (dI (0)), .d (dS (⟨#[]⟩)), .d (dI (0)), .nl 6, .nl 6, .d (dI (0))]⟩) (zbd tabOk rfl rfl .nil) rfl rfl ?_
    refine sw 1 (.var [.d (dI (0)), .d (dI (0)), .d (dI (0)), .d (dS (⟨#[]⟩)), .d (dI (0)), .nl 6, .nl 6, .d (dI (0))]) (zst tabOk rfl (e rfl rfl) rfl (e rfl rfl) rfl rfl rfl) rfl rfl ?_
    refine sy _ (zas rfl (ec rfl)) rfl rfl ?_
    refine s_end ?_
    refine v_ret ?_
    subst hr
    exact post_ret (rv (.cell (eg rfl rfl) rfl rfl (.inl rfl) rfl) rfl (.lf (.lf (.lf (.lf (.lf (.nl (.nl (.lf .nil)))))))) rfl (rv (.tmp (eg rfl rfl)) rfl (.lf .nil) rfl .nil)) (.ro (.ro .nil)) rfl
  replace hr := bf_f hb2 hr
  have hb2p := dec_f hb2
  refine v_skip ?_
  refine v_seq ?_
  refine v_reg ?_
  refine sy (.t ⟨false, [.vp 0 14]⟩) (zfa tabOk rfl rfl rfl (e rfl rfl) rfl rfl) rfl rfl ?_
  refine sy (.t ⟨false, [.d (.sl 8 (a0.Reps.map Answer.cells))]⟩) (zlv tabOk rfl (e rfl rfl) rfl rfl rfl) rfl rfl ?_
  refine sy _ (zmv rfl (e rfl rfl)) rfl rfl ?_
  obtain ⟨x1, hx1⟩ : ∃ x, (a0.Reps)[(n_spec_l23At a0 a1).toNat]? = some x := some_of_lt (by omega)
  replace hr := at_step hx1 hr
  have hfx1 := h0.Reps.2 _ (List.mem_of_getElem? hx1)
  refine sy (.t ⟨false, [.fe 8 (a0.Reps.map Answer.cells) ((n_spec_l23At a0 a1).toNat) 0]⟩) (zixI tabOk rfl rfl rfl (e rfl rfl) (e rfl rfl) (by omega) (ltm_of_some hx1)) rfl rfl ?_
  refine sy (.t ⟨true, [.d (dI (x1.No)), .d (dI (x1.Client)), .d (dI (x1.Code)), .d (dS (x1.Q.Name)), .d (dI (x1.Q.Typ)), .d (.sl 6 (x1.Links.map Record.cells)), .d (.sl 6 (x1.L.map Record.cells)), .d (dI (x1.Sent))]⟩) (zle tabOk rfl (e rfl rfl) (getm hx1) rfl rfl) rfl rfl ?_
  obtain ⟨v2, ev2⟩ : ∃ v : Answer, v = n_spec_l23Answer x1 := ⟨_, rfl⟩
  replace hr := bv_step ev2 hr
  refine sd (.t ⟨true, [.d (dI (v2.No)), .d (dI (v2.Client)), .d (dI (v2.Code)), .d (dS (v2.Q.Name)), .d (dI (v2.Q.Typ)), .sr 2 1 0 ((v2.Links.map Record.cells).length) ((v2.Links.map Record.cells).length), .sr 3 1 0 ((v2.L.map Record.cells).length) ((v2.L.map Record.cells).length), .d (dI (v2.Sent))]⟩) (zcall 2 (.t ⟨true, [.d (dI (v2.No)), .d (dI (v2.Client)), .d (dI (v2.Code)), .d (dS (v2.Q.Name)), .d (dI (v2.Q.Typ)), .sr 2 1 0 ((v2.Links.map Record.cells).length) ((v2.Links.map Record.cells).length), .sr 3 1 0 ((v2.L.map Record.cells).length) ((v2.L.map Record.cells).length), .d (dI (v2.Sent))]⟩) [(2, .row 6 (v2.Links.map Record.cells) true 1 0), (3, .row 6 (v2.L.map Record.cells) true 1 0)] rfl (by rw [ev2]; exact (tr_n_spec_l23Answer x1 hfx1) : Tr Try.prog 63 _ [⟨true, [dI (v2.No), dI (v2.Client), dI (v2.Code), dS (v2.Q.Name), dI (v2.Q.Typ), .sl 6 (v2.Links.map Record.cells), .sl 6 (v2.L.map Record.cells), dI (v2.Sent)]⟩]) (ar (e rfl rfl) (.d (.d (.d (.d (.d (.d (.d (.d .nil)))))))) .nil) rfl rfl rfl) rfl rfl rfl rfl ?_
  refine sw 1 (.var [.d (dI (v2.No)), .d (dI (v2.Client)), .d (dI (v2.Code)), .d (dS (v2.Q.Name)), .d (dI (v2.Q.Typ)), .sr 2 1 0 ((v2.Links.map Record.cells).length) ((v2.Links.map Record.cells).length), .sr 3 1 0 ((v2.L.map Record.cells).length) ((v2.L.map Record.cells).length), .d (dI (v2.Sent))]) (zst tabOk rfl (e rfl rfl) rfl (e rfl rfl) rfl rfl rfl) rfl rfl ?_
  refine sy _ (zas rfl (ec rfl)) rfl rfl ?_
  refine s_end ?_
  refine v_ret ?_
  subst hr
  exact post_ret (rv (.cell (eg rfl rfl) rfl rfl (.inl rfl) rfl) rfl (.lf (.lf (.lf (.lf (.lf (.sr rfl le_all take_all (.sr rfl le_all take_all (.lf .nil)))))))) rfl (rv (.tmp (eg rfl rfl)) rfl (.lf .nil) rfl .nil)) (.ro (.ro .nil)) rfl
def n_impl_AnswerToL1 (a0 : World) (a1 : Int) : Nat → Nat → (Answer × Bool)
  | 0, _ => default
  | n + 1, z11 => cond (decide (((z11 : Int)) < (((a0.Reps).length : Int)))) (atL (a0.Reps) (z11) (fun x1 => cond (decide ((x1.No) = (a1))) (bindv (n_impl_copyAnswer x1) (fun v2 => (v2, true))) (n_impl_AnswerToL1 a0 a1 n (z11 + 1)))) (((⟨0, 0, 0, ⟨⟨#[]⟩, 0⟩, [], [], 0⟩ : Answer), false))
def n_impl_AnswerTo (a0 : World) (a1 : Int) : Answer × Bool := n_impl_AnswerToL1 a0 a1 ((a0.Reps).length + 1) 0
set_option maxHeartbeats 4000000 in
set_option maxRecDepth 20000 in
theorem tr_n_impl_AnswerTo (a0 : World) (a1 : Int) (h0 : World.Fit a0) : Tr Try.prog 23 [.ro ⟨true, [dI (a0.C.Quota), dI (a0.C.Depth), dI (a0.C.Chain), dI (a0.C.Glue), dI (a0.C.Tries), dI (a0.C.Addrs), dI (a0.C.Cap), .sl 1 (a0.C.Roots.map encI), dI (a0.Now), dI (a0.K.Cap), .sl 6 (a0.K.L.map Entry.cells), .sl 3 (a0.Bad.map Lame.cells), .sl 7 (a0.Jobs.map Job.cells), .sl 2 (a0.Outs.map Packet.cells), .sl 8 (a0.Reps.map Answer.cells), dI (a0.Next)]⟩, .ro ⟨false, [dI (a1)]⟩] [⟨true, [dI (((n_impl_AnswerTo a0 a1).1).No), dI (((n_impl_AnswerTo a0 a1).1).Client), dI (((n_impl_AnswerTo a0 a1).1).Code), dS ((((n_impl_AnswerTo a0 a1).1).Q).Name), dI ((((n_impl_AnswerTo a0 a1).1).Q).Typ), .sl 6 ((((n_impl_AnswerTo a0 a1).1).Links).map Record.cells), .sl 6 ((((n_impl_AnswerTo a0 a1).1).L).map Record.cells), dI (((n_impl_AnswerTo a0 a1).1).Sent)]⟩, ⟨false, [dB ((n_impl_AnswerTo a0 a1).2)]⟩] := by
  obtain ⟨r, hr⟩ : ∃ r, n_impl_AnswerTo a0 a1 = r := ⟨_, rfl⟩
  rw [hr]
  rw [n_impl_AnswerTo] at hr
  refine tr_go tabOk Try.func23 rfl rfl rfl rfl rfl (ov := [(0, .t ⟨true, [.d (dI (a0.C.Quota)), .d (dI (a0.C.Depth)), .d (dI (a0.C.Chain)), .d (dI (a0.C.Glue)), .d (dI (a0.C.Tries)), .d (dI (a0.C.Addrs)), .d (dI (a0.C.Cap)), .d (.sl 1 (a0.C.Roots.map encI)), .d (dI (a0.Now)), .d (dI (a0.K.Cap)), .d (.sl 6 (a0.K.L.map Entry.cells)), .d (.sl 3 (a0.Bad.map Lame.cells)), .d (.sl 7 (a0.Jobs.map Job.cells)), .d (.sl 2 (a0.Outs.map Packet.cells)), .d (.sl 8 (a0.Reps.map Answer.cells)), .d (dI (a0.Next))]⟩), (1, .t ⟨false, [.d (dI (a1))]⟩)]) (hv := []) rfl rfl ?_
  refine v_seq ?_
  refine v_reg ?_
  refine sr 0 (.t ⟨false, [.vp 0 0]⟩) (.var [.d (dI (a0.C.Quota)), .d (dI (a0.C.Depth)), .d (dI (a0.C.Chain)), .d (dI (a0.C.Glue)), .d (dI (a0.C.Tries)), .d (dI (a0.C.Addrs)), .d (dI (a0.C.Cap)), .d (.sl 1 (a0.C.Roots.map encI)), .d (dI (a0.Now)), .d (dI (a0.K.Cap)), .d (.sl 6 (a0.K.L.map Entry.cells)), .d (.sl 3 (a0.Bad.map Lame.cells)), .d (.sl 7 (a0.Jobs.map Job.cells)), .d (.sl 2 (a0.Outs.map Packet.cells)), .d (.sl 8 (a0.Reps.map Answer.cells)), .d (dI (a0.Next))]) (zbx rfl (e rfl rfl) rfl rfl rfl) rfl rfl ?_
  refine sr 1 (.t ⟨false, [.vp 1 0]⟩) (.var [.d (dI (0)), .d (dI (0)), .d (dI (0)), .d (dS (⟨#[]⟩)), .d (dI (0)), .nl 6, .nl 6, .d (dI (0))]) (zal tabOk rfl rfl rfl rfl) rfl rfl ?_
  refine sy _ (zas rfl (ec rfl)) rfl rfl ?_
  refine s_end ?_
  refine v_seq ?_
  refine v_seq ?_
  refine v_reg ?_
  refine sy (.t ⟨false, [.vp 0 14]⟩) (zfa tabOk rfl rfl rfl (e rfl rfl) rfl rfl) rfl rfl ?_
  refine sy (.t ⟨false, [.d (.sl 8 (a0.Reps.map Answer.cells))]⟩) (zlv tabOk rfl (e rfl rfl) rfl rfl rfl) rfl rfl ?_
  have hB1 := (h0.Reps).1
  refine sy (.t ⟨false, [.d (dI ((a0.Reps).length : Int))]⟩) (zlm tabOk rfl rfl (e rfl rfl) .d) rfl rfl ?_
  refine sy _ (zmv rfl (ec rfl)) rfl rfl ?_
  refine s_end ?_
  refine v_block ?_
  refine v_lp (fun (q : Nat × Nat) => [(1, .t ⟨false, [.d (dI (a1))]⟩), (4, .t ⟨false, [.vp 1 0]⟩), (9, .t ⟨false, [.d (.sl 8 (a0.Reps.map Answer.cells))]⟩), (10, .t ⟨false, [.d (dI ((a0.Reps).length : Int))]⟩), (11, .t ⟨false, [.d (dI (q.2 : Int))]⟩)]) (fun q => [(1, .var [.d (dI (0)), .d (dI (0)), .d (dI (0)), .d (dS (⟨#[]⟩)), .d (dI (0)), .nl 6, .nl 6, .d (dI (0))])]) (fun q => n_impl_AnswerToL1 a0 a1 q.1 q.2 = r ∧ q.2 ≤ (a0.Reps).length ∧ q.2 + q.1 = (a0.Reps).length + 1) (fun q => q.1) ((a0.Reps).length + 1, (0 : Nat)) ⟨hr, by (try dsimp only); (try simp only [List.length_nil, List.length_replicate]); first | done | omega, by (try dsimp only); (try simp only [List.length_nil, List.length_replicate]); first | done | omega⟩ ⟨rfl, rfl, rfl, rfl, rfl, trivial⟩ ⟨rfl, trivial⟩ rfl (fun q hq => ?_)
  obtain ⟨n, z11⟩ := q
  obtain ⟨hr, hi1x0, hi1x1⟩ := hq
  dsimp only at hr hi1x0 hi1x1
  show VWp _ _ _ (mk [(1, .t ⟨false, [.d (dI (a1))]⟩), (4, .t ⟨false, [.vp 1 0]⟩), (9, .t ⟨false, [.d (.sl 8 (a0.Reps.map Answer.cells))]⟩), (10, .t ⟨false, [.d (dI ((a0.Reps).length : Int))]⟩), (11, .t ⟨false, [.d (dI (z11 : Int))]⟩)] _ [(1, .var [.d (dI (0)), .d (dI (0)), .d (dI (0)), .d (dS (⟨#[]⟩)), .d (dI (0)), .nl 6, .nl 6, .d (dI (0))])])
  rcases n with _ | n
  · exfalso; omega
  rw [n_impl_AnswerToL1] at hr
  refine v_seq ?_
  refine v_reg ?_
  refine sy (.t ⟨false, [.d (dB (decide (((z11 : Int)) < (((a0.Reps).length : Int)))))]⟩) (y_bin rfl (e rfl rfl) (e rfl rfl) (fun _ => b_lss) rfl) rfl rfl ?_
  refine s_end ?_
  refine v_seq ?_
  refine v_cond (e rfl rfl) (fun hb1 => ?_) fun hb1 => ?_
  · replace hr := bf_t hb1 hr
    have hb1p := dec_t hb1
    refine v_skip ?_
    refine v_seq ?_
    refine v_block ?_
    refine v_seq ?_
    refine v_reg ?_
    obtain ⟨x1, hx1⟩ : ∃ x, (a0.Reps)[z11]? = some x := some_of_lt (by omega)
    replace hr := at_step hx1 hr
    have hfx1 := h0.Reps.2 _ (List.mem_of_getElem? hx1)
    refine sy (.t ⟨false, [.fe 8 (a0.Reps.map Answer.cells) z11 0]⟩) (zix tabOk rfl rfl rfl (e rfl rfl) (e rfl rfl) (ltm_of_some hx1)) rfl rfl ?_
    refine sy (.t ⟨true, [.d (dI (x1.No)), .d (dI (x1.Client)), .d (dI (x1.Code)), .d (dS (x1.Q.Name)), .d (dI (x1.Q.Typ)), .d (.sl 6 (x1.Links.map Record.cells)), .d (.sl 6 (x1.L.map Record.cells)), .d (dI (x1.Sent))]⟩) (zle tabOk rfl (e rfl rfl) (getm hx1) rfl rfl) rfl rfl ?_
    refine sr 8 (.t ⟨false, [.vp 8 0]⟩) (.var [.d (dI (0)), .d (dI (0)), .d (dI (0)), .d (dS (⟨#[]⟩)), .d (dI (0)), .nl 6, .nl 6, .d (dI (0))]) (zal tabOk rfl rfl rfl rfl) rfl rfl ?_
    refine sw 8 (.var [.d (dI (x1.No)), .d (dI (x1.Client)), .d (dI (x1.Code)), .d (dS (x1.Q.Name)), .d (dI (x1.Q.Typ)), .d (.sl 6 (x1.Links.map Record.cells)), .d (.sl 6 (x1.L.map Record.cells)), .d (dI (x1.Sent))]) (zst tabOk rfl (e rfl rfl) rfl (e rfl rfl) rfl rfl rfl) rfl rfl ?_
    refine s_end ?_
    refine v_seq ?_
    refine v_reg ?_
    refine sy (.t ⟨false, [.vp 8 0]⟩) (zfa tabOk rfl rfl rfl (e rfl rfl) rfl rfl) rfl rfl ?_
    refine sy (.t ⟨false, [.d (dI (x1.No))]⟩) (zlv tabOk rfl (e rfl rfl) rfl rfl rfl) rfl rfl ?_
    refine sy _ (zmv rfl (e rfl rfl)) rfl rfl ?_
    refine sy (.t ⟨false, [.d (dB (decide ((x1.No) = (a1))))]⟩) (y_bin rfl (e rfl rfl) (e rfl rfl) (fun _ => b_eql) rfl) rfl rfl ?_
    refine s_end ?_
    refine v_cond (e rfl rfl) (fun hb2 => ?_) fun hb2 => ?_
    · replace hr := bf_t hb2 hr
      have hb2p := dec_t hb2
      refine v_seq ?_
      refine v_reg ?_
      refine sy (.t ⟨true, [.d (dI (x1.No)), .d (dI (x1.Client)), .d (dI (x1.Code)), .d (dS (x1.Q.Name)), .d (dI (x1.Q.Typ)), .d (.sl 6 (x1.Links.map Record.cells)), .d (.sl 6 (x1.L.map Record.cells)), .d (dI (x1.Sent))]⟩) (zlv tabOk rfl (e rfl rfl) rfl rfl rfl) rfl rfl ?_
      obtain ⟨v2, ev2⟩ : ∃ v : Answer, v = n_impl_copyAnswer x1 := ⟨_, rfl⟩
      replace hr := bv_step ev2 hr
      refine sd (.t ⟨true, [.d (dI (v2.No)), .d (dI (v2.Client)), .d (dI (v2.Code)), .d (dS (v2.Q.Name)), .d (dI (v2.Q.Typ)), .sr 9 1 0 ((v2.Links.map Record.cells).length) ((v2.Links.map Record.cells).length), .sr 10 1 0 ((v2.L.map Record.cells).length) ((v2.L.map Record.cells).length), .d (dI (v2.Sent))]⟩) (zcall 9 (.t ⟨true, [.d (dI (v2.No)), .d (dI (v2.Client)), .d (dI (v2.Code)), .d (dS (v2.Q.Name)), .d (dI (v2.Q.Typ)), .sr 9 1 0 ((v2.Links.map Record.cells).length) ((v2.Links.map Record.cells).length), .sr 10 1 0 ((v2.L.map Record.cells).length) ((v2.L.map Record.cells).length), .d (dI (v2.Sent))]⟩) [(9, .row 6 (v2.Links.map Record.cells) true 1 0), (10, .row 6 (v2.L.map Record.cells) true 1 0)] rfl (by rw [ev2]; exact (tr_n_impl_copyAnswer x1 hfx1) : Tr Try.prog 64 _ [⟨true, [dI (v2.No), dI (v2.Client), dI (v2.Code), dS (v2.Q.Name), dI (v2.Q.Typ), .sl 6 (v2.Links.map Record.cells), .sl 6 (v2.L.map Record.cells), dI (v2.Sent)]⟩]) (ar (e rfl rfl) (.d (.d (.d (.d (.d (.d (.d (.d .nil)))))))) .nil) rfl rfl rfl) rfl rfl rfl rfl ?_
      refine sw 1 (.var [.d (dI (v2.No)), .d (dI (v2.Client)), .d (dI (v2.Code)), .d (dS (v2.Q.Name)), .d (dI (v2.Q.Typ)), .sr 9 1 0 ((v2.Links.map Record.cells).length) ((v2.Links.map Record.cells).length), .sr 10 1 0 ((v2.L.map Record.cells).length) ((v2.L.map Record.cells).length), .d (dI (v2.Sent))]) (zst tabOk rfl (e rfl rfl) rfl (e rfl rfl) rfl rfl rfl) rfl rfl ?_
      refine sy _ (zas rfl (ec rfl)) rfl rfl ?_
      refine s_end ?_
      refine v_ret ?_
      subst hr
      exact post_ret (rv (.cell (eg rfl rfl) rfl rfl (.inl rfl) rfl) rfl (.lf (.lf (.lf (.lf (.lf (.sr rfl le_all take_all (.sr rfl le_all take_all (.lf .nil)))))))) rfl (rv (.tmp (eg rfl rfl)) rfl (.lf .nil) rfl .nil)) (.ro (.ro .nil)) rfl
    replace hr := bf_f hb2 hr
    have hb2p := dec_f hb2
    refine v_skip ?_
    refine blk_norm ?_
    refine v_reg ?_
    refine sy (.t ⟨false, [.d (dI (z11 + 1 : Int))]⟩) (y_bin rfl (e rfl rfl) (ec rfl) (fun _ => b_addn (by omega) (by omega)) rfl) rfl rfl ?_
    refine sy _ (zmv rfl (e rfl rfl)) rfl rfl ?_
    refine s_end ?_
    exact lp_next (n, z11 + 1) ⟨hr, by (try simp only [List.length_append, List.length_cons, List.length_nil, List.length_set]); first | done | omega, by (try simp only [List.length_append, List.length_cons, List.length_nil, List.length_set]); first | done | omega⟩ (Nat.lt_succ_self _) ⟨rfl, rfl, rfl, rfl, rfl, trivial⟩ ⟨rfl, trivial⟩ rfl
  replace hr := bf_f hb1 hr
  have hb1p := dec_f hb1
  refine v_exit ?_
  refine then_exit ?_
  refine loop_exit ?_
  refine blk_hit ?_
  refine v_seq ?_
  refine v_reg ?_
  refine sy (.t ⟨true, [.d (dI (0)), .d (dI (0)), .d (dI (0)), .d (dS (⟨#[]⟩)), .d (dI (0)), .nl 6, .nl 6, .d (dI (0))]⟩) (zbd tabOk rfl rfl .nil) rfl rfl ?_
  refine sw 1 (.var [.d (dI (0)), .d (dI (0)), .d (dI (0)), .d (dS (⟨#[]⟩)), .d (dI (0)), .nl 6, .nl 6, .d (dI (0))]) (zst tabOk rfl (e rfl rfl) rfl (e rfl rfl) rfl rfl rfl) rfl rfl ?_
  refine sy _ (zas rfl (ec rfl)) rfl rfl ?_
  refine s_end ?_
  refine v_ret ?_
  subst hr
  exact post_ret (rv (.cell (eg rfl rfl) rfl rfl (.inl rfl) rfl) rfl (.lf (.lf (.lf (.lf (.lf (.nl (.nl (.lf .nil)))))))) rfl (rv (.tmp (eg rfl rfl)) rfl (.lf .nil) rfl .nil)) (.ro (.ro .nil)) rfl
end Go.Proofs.Ytglilpigoocgeaa.V
