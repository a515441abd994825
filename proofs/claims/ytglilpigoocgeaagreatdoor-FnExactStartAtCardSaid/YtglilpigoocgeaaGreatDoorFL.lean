/-
  Entries of the cache, looked up.
-/
import Derived.Test.YtglilpigoocgeaaGreatDoorN
import Derived.Test.YtglilpigoocgeaaGreatDoorFB
import Derived.Test.YtglilpigoocgeaaGreatDoorVE
import Derived.Test.YtglilpigoocgeaaGreatDoorFA
import Derived.Test.YtglilpigoocgeaaGreatDoorQ
namespace Go.Proofs.YtglilpigoocgeaaGreatDoor.V
open Go
set_option linter.unusedVariables false
set_option linter.unusedSimpArgs false
def n_spec_l15Lives (a0 : Entry) (a1 : Int) : Bool := decide ((a1) < (a0.Until))
set_option maxHeartbeats 4000000 in
set_option maxRecDepth 20000 in
theorem tr_n_spec_l15Lives (a0 : Entry) (a1 : Int) (h0 : Entry.Fit a0) : Tr Tryz.prog 57 [.ro ⟨true, [dS (a0.Q.Name), dI (a0.Q.Typ), dI (a0.Kind), .sl 6 (a0.L.map Record.cells), dI (a0.Rank), dI (a0.Until)]⟩, .ro ⟨false, [dI (a1)]⟩] [⟨false, [dB ((n_spec_l15Lives a0 a1))]⟩] := by
  obtain ⟨r, hr⟩ : ∃ r, n_spec_l15Lives a0 a1 = r := ⟨_, rfl⟩
  rw [hr]
  rw [n_spec_l15Lives] at hr
  refine tr_go tabOk Tryz.func57 rfl rfl rfl rfl rfl (ov := [(0, .t ⟨true, [.d (dS (a0.Q.Name)), .d (dI (a0.Q.Typ)), .d (dI (a0.Kind)), .d (.sl 6 (a0.L.map Record.cells)), .d (dI (a0.Rank)), .d (dI (a0.Until))]⟩), (1, .t ⟨false, [.d (dI (a1))]⟩)]) (hv := []) rfl rfl ?_
  refine v_seq ?_
  refine v_reg ?_
  refine sr 0 (.t ⟨false, [.vp 0 0]⟩) (.var [.d (dS (a0.Q.Name)), .d (dI (a0.Q.Typ)), .d (dI (a0.Kind)), .d (.sl 6 (a0.L.map Record.cells)), .d (dI (a0.Rank)), .d (dI (a0.Until))]) (zbx rfl (e rfl rfl) rfl rfl rfl) rfl rfl ?_
  refine sy _ (zas rfl (ec rfl)) rfl rfl ?_
  refine s_end ?_
  refine v_seq ?_
  refine v_reg ?_
  refine sy _ (zmv rfl (e rfl rfl)) rfl rfl ?_
  refine sy (.t ⟨false, [.vp 0 5]⟩) (zfa tabOk rfl rfl rfl (e rfl rfl) rfl rfl) rfl rfl ?_
  refine sy (.t ⟨false, [.d (dI (a0.Until))]⟩) (zlv tabOk rfl (e rfl rfl) rfl rfl rfl) rfl rfl ?_
  refine sy (.t ⟨false, [.d (dB (decide ((a1) < (a0.Until))))]⟩) (y_bin rfl (e rfl rfl) (e rfl rfl) (fun _ => b_lss) rfl) rfl rfl ?_
  refine sy _ (zas rfl (e rfl rfl)) rfl rfl ?_
  refine s_end ?_
  refine v_ret ?_
  subst hr
  exact post_ret (rv (.tmp (eg rfl rfl)) rfl (.lf .nil) rfl .nil) (.ro (.ro .nil)) rfl
def n_spec_l15Entry (a0 : Entry) : Entry := a0
set_option maxHeartbeats 4000000 in
set_option maxRecDepth 20000 in
theorem tr_n_spec_l15Entry (a0 : Entry) (h0 : Entry.Fit a0) : Tr Tryz.prog 58 [.ro ⟨true, [dS (a0.Q.Name), dI (a0.Q.Typ), dI (a0.Kind), .sl 6 (a0.L.map Record.cells), dI (a0.Rank), dI (a0.Until)]⟩] [⟨true, [dS ((((n_spec_l15Entry a0)).Q).Name), dI ((((n_spec_l15Entry a0)).Q).Typ), dI (((n_spec_l15Entry a0)).Kind), .sl 6 ((((n_spec_l15Entry a0)).L).map Record.cells), dI (((n_spec_l15Entry a0)).Rank), dI (((n_spec_l15Entry a0)).Until)]⟩] := by
  obtain ⟨r, hr⟩ : ∃ r, n_spec_l15Entry a0 = r := ⟨_, rfl⟩
  rw [hr]
  rw [n_spec_l15Entry] at hr
  refine tr_go tabOk Tryz.func58 rfl rfl rfl rfl rfl (ov := [(0, .t ⟨true, [.d (dS (a0.Q.Name)), .d (dI (a0.Q.Typ)), .d (dI (a0.Kind)), .d (.sl 6 (a0.L.map Record.cells)), .d (dI (a0.Rank)), .d (dI (a0.Until))]⟩)]) (hv := []) rfl rfl ?_
  refine v_seq ?_
  refine v_reg ?_
  refine sr 0 (.t ⟨false, [.vp 0 0]⟩) (.var [.d (dS (a0.Q.Name)), .d (dI (a0.Q.Typ)), .d (dI (a0.Kind)), .d (.sl 6 (a0.L.map Record.cells)), .d (dI (a0.Rank)), .d (dI (a0.Until))]) (zbx rfl (e rfl rfl) rfl rfl rfl) rfl rfl ?_
  refine sr 1 (.t ⟨false, [.vp 1 0]⟩) (.var [.d (dS (⟨#[]⟩)), .d (dI (0)), .d (dI (0)), .nl 6, .d (dI (0)), .d (dI (0))]) (zal tabOk rfl rfl rfl rfl) rfl rfl ?_
  refine s_end ?_
  refine v_seq ?_
  refine v_reg ?_
  refine sy (.t ⟨false, [.vp 0 3]⟩) (zfa tabOk rfl rfl rfl (e rfl rfl) rfl rfl) rfl rfl ?_
  refine sy (.t ⟨false, [.d (.sl 6 (a0.L.map Record.cells))]⟩) (zlv tabOk rfl (e rfl rfl) rfl rfl rfl) rfl rfl ?_
  refine sd (.t ⟨false, [.sr 2 1 0 ((a0.L.map Record.cells).length) ((a0.L.map Record.cells).length)]⟩) (zcall 2 (.t ⟨false, [.sr 2 1 0 ((a0.L.map Record.cells).length) ((a0.L.map Record.cells).length)]⟩) [(2, .row 6 (a0.L.map Record.cells) true 1 0)] rfl (tr_n_spec_l7Copy a0.L h0.L) (ar (e rfl rfl) (.d .nil) .nil) rfl rfl rfl) rfl rfl rfl rfl ?_
  refine sy (.t ⟨false, [.vp 0 3]⟩) (zfa tabOk rfl rfl rfl (e rfl rfl) rfl rfl) rfl rfl ?_
  refine sw 0 (.var [.d (dS (a0.Q.Name)), .d (dI (a0.Q.Typ)), .d (dI (a0.Kind)), .sr 2 1 0 ((a0.L.map Record.cells).length) ((a0.L.map Record.cells).length), .d (dI (a0.Rank)), .d (dI (a0.Until))]) (zst tabOk rfl (e rfl rfl) rfl (e rfl rfl) rfl rfl rfl) rfl rfl ?_
  refine s_end ?_
  refine v_seq ?_
  refine v_reg ?_
  refine sy (.t ⟨true, [.d (dS (a0.Q.Name)), .d (dI (a0.Q.Typ)), .d (dI (a0.Kind)), .sr 2 1 0 ((a0.L.map Record.cells).length) ((a0.L.map Record.cells).length), .d (dI (a0.Rank)), .d (dI (a0.Until))]⟩) (zlv tabOk rfl (e rfl rfl) rfl rfl rfl) rfl rfl ?_
  refine sw 1 (.var [.d (dS (a0.Q.Name)), .d (dI (a0.Q.Typ)), .d (dI (a0.Kind)), .sr 2 1 0 ((a0.L.map Record.cells).length) ((a0.L.map Record.cells).length), .d (dI (a0.Rank)), .d (dI (a0.Until))]) (zst tabOk rfl (e rfl rfl) rfl (e rfl rfl) rfl rfl rfl) rfl rfl ?_
  refine s_end ?_
  refine v_ret ?_
  subst hr
  exact post_ret (rv (.cell (eg rfl rfl) rfl rfl (.inl rfl) rfl) rfl (.lf (.lf (.lf (.sr rfl le_all take_all (.lf (.lf .nil)))))) rfl .nil) (.ro .nil) rfl
set_option maxHeartbeats 4000000 in
theorem fitx_n_spec_l15Entry (a0 : Entry) (h0 : Entry.Fit a0) : Entry.Fit (n_spec_l15Entry a0) := by
  obtain ⟨r, hr⟩ : ∃ r, n_spec_l15Entry a0 = r := ⟨_, rfl⟩
  rw [hr]
  rw [n_spec_l15Entry] at hr
  subst hr
  exact h0
def n_spec_WithTtlL1 (a1 : Int) : Nat → (List Record) → Nat → (List Record)
  | 0, _, _ => default
  | n + 1, l0, i => cond (decide (((i : Int)) < (((l0).length : Int)))) (atL (l0) (i) (fun x1 => n_spec_WithTtlL1 a1 n ((l0).set i ((⟨x1.Name, x1.Typ, a1, x1.N, x1.Host, x1.Text⟩ : Record))) (i + 1))) (l0)
def n_spec_WithTtl (a0 : List Record) (a1 : Int) : List Record := n_spec_WithTtlL1 a1 (a0.length + 1) a0 0
set_option maxHeartbeats 4000000 in
set_option maxRecDepth 20000 in
theorem tr_n_spec_WithTtl (a0 : List Record) (a1 : Int) (h0 : fitL Record.Fit a0) : Tr Tryz.prog 59 [.ro ⟨false, [.sl 6 (a0.map Record.cells)]⟩, .ro ⟨false, [dI (a1)]⟩] [⟨false, [.sl 6 (((n_spec_WithTtl a0 a1)).map Record.cells)]⟩] := by
  obtain ⟨r, hr⟩ : ∃ r, n_spec_WithTtl a0 a1 = r := ⟨_, rfl⟩
  rw [hr]
  rw [n_spec_WithTtl] at hr
  have hl0 : a0.length ≤ 4194304 := h0.1
  refine tr_go tabOk Tryz.func59 rfl rfl rfl rfl rfl (ov := [(0, .t ⟨false, [.d (.sl 6 (a0.map Record.cells))]⟩), (1, .t ⟨false, [.d (dI (a1))]⟩)]) (hv := []) rfl rfl ?_
  refine v_seq ?_
  refine v_reg ?_
  refine sy _ (zas rfl (en 6)) rfl rfl ?_
  refine s_end ?_
  refine v_seq ?_
  refine v_reg ?_
  refine sy _ (zmv rfl (e rfl rfl)) rfl rfl ?_
  refine sd (.t ⟨false, [.sr 0 1 0 ((a0.map Record.cells).length) ((a0.map Record.cells).length)]⟩) (zcall 0 (.t ⟨false, [.sr 0 1 0 ((a0.map Record.cells).length) ((a0.map Record.cells).length)]⟩) [(0, .row 6 (a0.map Record.cells) true 1 0)] rfl (tr_n_spec_l7Copy a0 h0) (ar (e rfl rfl) (.d .nil) .nil) rfl rfl rfl) rfl rfl rfl rfl ?_
  refine sy _ (zas rfl (e rfl rfl)) rfl rfl ?_
  refine s_end ?_
  refine v_seq ?_
  refine v_seq ?_
  refine v_reg ?_
  refine sy _ (zas rfl (ec rfl)) rfl rfl ?_
  refine s_end ?_
  refine v_block ?_
  refine v_lp (fun (q : Nat × List Record × Nat × Nat × Nat) => [(1, .t ⟨false, [.d (dI (a1))]⟩), (5, .t ⟨false, [.sr 0 q.2.2.2.1 0 (((q.2.1).map Record.cells).length) (((q.2.1).map Record.cells).length)]⟩), (6, .t ⟨false, [.d (dI (q.2.2.1 : Int))]⟩)]) (fun q => [(0, .row 6 ((q.2.1).map Record.cells) true q.2.2.2.1 q.2.2.2.2)]) (fun q => n_spec_WithTtlL1 a1 q.1 q.2.1 q.2.2.1 = r ∧ (q.2.2.1 ≤ a0.length) ∧ (q.2.2.1 + q.1 = a0.length + 1) ∧ (q.2.1.length = a0.length) ∧ (fitL Record.Fit q.2.1)) (fun q => q.1) (a0.length + 1, (a0 : List Record), (0 : Nat), 1, 0) ⟨hr, by (try dsimp only); (try simp only [List.length_nil, List.length_cons, List.length_replicate]); first | done | omega | exact Nat.zero_le _, by (try dsimp only); (try simp only [List.length_nil, List.length_cons, List.length_replicate]); first | done | omega | exact Nat.zero_le _, by (try dsimp only); (try simp only [List.length_nil, List.length_cons, List.length_replicate]); first | done | omega | exact Nat.zero_le _, h0⟩ ⟨rfl, rfl, rfl, trivial⟩ ⟨rfl, trivial⟩ rfl (fun q hq => ?_)
  obtain ⟨n, l0, i, g0, w0⟩ := q
  obtain ⟨hr, hi1x0, hi1x1, hi1x2, hi1x3⟩ := hq
  dsimp only at hr hi1x0 hi1x1 hi1x2 hi1x3
  show VWp _ _ _ (mk [(1, .t ⟨false, [.d (dI (a1))]⟩), (5, .t ⟨false, [.sr 0 g0 0 (((l0).map Record.cells).length) (((l0).map Record.cells).length)]⟩), (6, .t ⟨false, [.d (dI (i : Int))]⟩)] _ [(0, .row 6 ((l0).map Record.cells) true g0 w0)])
  rcases n with _ | n
  · exfalso; omega
  rw [n_spec_WithTtlL1] at hr
  refine v_seq ?_
  refine v_seq ?_
  refine v_reg ?_
  refine sy _ (zmv rfl (e rfl rfl)) rfl rfl ?_
  refine sy _ (zmv rfl (e rfl rfl)) rfl rfl ?_
  have hB1 := (hi1x3).1
  refine sy (.t ⟨false, [.d (dI ((l0).length : Int))]⟩) (zlm tabOk rfl rfl (e rfl rfl) (.sr (dp := 0) rfl)) rfl rfl ?_
  refine sy (.t ⟨false, [.d (dB (decide (((i : Int)) < (((l0).length : Int)))))]⟩) (y_bin rfl (e rfl rfl) (e rfl rfl) (fun _ => b_lss) rfl) rfl rfl ?_
  refine s_end ?_
  refine v_cond (e rfl rfl) (fun hb1 => ?_) fun hb1 => ?_
  · replace hr := bf_t hb1 hr
    have hb1p := dec_t hb1
    refine v_skip ?_
    refine v_seq ?_
    refine v_block ?_
    refine v_reg ?_
    refine sy _ (zmv rfl (e rfl rfl)) rfl rfl ?_
    refine sy _ (zmv rfl (e rfl rfl)) rfl rfl ?_
    refine sy _ (zmv rfl (e rfl rfl)) rfl rfl ?_
    obtain ⟨x1, hx1⟩ : ∃ x, (l0)[i]? = some x := some_of_lt (by omega)
    replace hr := at_step hx1 hr
    have hfx1 := hi1x3.2 _ (List.mem_of_getElem? hx1)
    refine sy (.t ⟨false, [.ep 0 g0 i 0]⟩) (zis tabOk rfl rfl rfl (e rfl rfl) rfl (e rfl rfl) (ltm_of_some hx1) (Nat.zero_add _)) rfl rfl ?_
    refine sy (.t ⟨false, [.ep 0 g0 i 2]⟩) (zfa tabOk rfl rfl rfl (e rfl rfl) rfl rfl) rfl rfl ?_
    refine sw 0 (.row 6 (((l0).set i ((⟨x1.Name, x1.Typ, a1, x1.N, x1.Host, x1.Text⟩ : Record))).map Record.cells) true g0 w0) (zsr0 tabOk rfl (e rfl rfl) rfl (getm hx1) (e rfl rfl) rfl (.lf .nil) rfl rfl (map_set rfl)) rfl rfl ?_
    refine s_end ?_
    refine blk_norm ?_
    refine v_reg ?_
    refine sy _ (zmv rfl (e rfl rfl)) rfl rfl ?_
    refine sy (.t ⟨false, [.d (dI (i + 1 : Int))]⟩) (y_bin rfl (e rfl rfl) (ec rfl) (fun _ => b_addn (by omega) (by omega)) rfl) rfl rfl ?_
    refine sy _ (zas rfl (e rfl rfl)) rfl rfl ?_
    refine s_end ?_
    exact lp_next (n, (l0).set i ((⟨x1.Name, x1.Typ, a1, x1.N, x1.Host, x1.Text⟩ : Record)), i + 1, g0, w0) ⟨hr, by (try simp only [List.length_append, List.length_cons, List.length_nil, List.length_set]); first | done | omega, by (try simp only [List.length_append, List.length_cons, List.length_nil, List.length_set]); first | done | omega, by (try simp only [List.length_append, List.length_cons, List.length_nil, List.length_set]); first | done | omega, (fitL_set hi1x3 (⟨hfx1.Name, hfx1.Host, hfx1.Text⟩))⟩ (Nat.lt_succ_self _) ⟨rfl, (show (.t ⟨false, [.sr 0 g0 0 (((l0).map Record.cells).length) (((l0).map Record.cells).length)]⟩ : Slot) = _ by simp only [List.length_map, List.length_set]), rfl, trivial⟩ ⟨rfl, trivial⟩ rfl
  replace hr := bf_f hb1 hr
  have hb1p := dec_f hb1
  refine v_exit ?_
  refine then_exit ?_
  refine loop_exit ?_
  refine blk_hit ?_
  refine v_seq ?_
  refine v_reg ?_
  refine sy _ (zmv rfl (e rfl rfl)) rfl rfl ?_
  refine sy _ (zas rfl (e rfl rfl)) rfl rfl ?_
  refine s_end ?_
  refine v_ret ?_
  subst hr
  exact post_ret (rv (.tmp (eg rfl rfl)) rfl (.sr rfl le_all take_all .nil) rfl .nil) (.ro (.ro .nil)) rfl
set_option maxHeartbeats 4000000 in
theorem fitx_n_spec_WithTtl (a0 : List Record) (a1 : Int) (h0 : fitL Record.Fit a0) : fitL Record.Fit (n_spec_WithTtl a0 a1) := by
  obtain ⟨r, hr⟩ : ∃ r, n_spec_WithTtl a0 a1 = r := ⟨_, rfl⟩
  rw [hr]
  rw [n_spec_WithTtl] at hr
  have hl0 : a0.length ≤ 4194304 := h0.1
  refine fx_lp (fun (q : Nat × List Record × Nat × Nat × Nat) => n_spec_WithTtlL1 a1 q.1 q.2.1 q.2.2.1 = r ∧ (q.2.2.1 ≤ a0.length) ∧ (q.2.2.1 + q.1 = a0.length + 1) ∧ (q.2.1.length = a0.length) ∧ (fitL Record.Fit q.2.1)) (fun q => q.1) (a0.length + 1, (a0 : List Record), (0 : Nat), 1, 0) ⟨hr, by (try dsimp only); (try simp only [List.length_nil, List.length_cons, List.length_replicate]); first | done | omega | exact Nat.zero_le _, by (try dsimp only); (try simp only [List.length_nil, List.length_cons, List.length_replicate]); first | done | omega | exact Nat.zero_le _, by (try dsimp only); (try simp only [List.length_nil, List.length_cons, List.length_replicate]); first | done | omega | exact Nat.zero_le _, h0⟩ (fun q hq hn1 => ?_)
  obtain ⟨n, l0, i, g0, w0⟩ := q
  obtain ⟨hr, hi1x0, hi1x1, hi1x2, hi1x3⟩ := hq
  dsimp only at hr hi1x0 hi1x1 hi1x2 hi1x3
  rcases n with _ | n
  · exfalso; omega
  rw [n_spec_WithTtlL1] at hr
  have hB1 : (l0).length ≤ _ := (hi1x3).1
  rcases Bool.eq_false_or_eq_true (decide (((i : Int)) < (((l0).length : Int)))) with hb1 | hb1
  · replace hr := bf_t hb1 hr
    have hb1p := dec_t hb1
    obtain ⟨x1, hx1⟩ : ∃ x, (l0)[i]? = some x := some_of_lt (by omega)
    replace hr := at_step hx1 hr
    have hfx1 := hi1x3.2 _ (List.mem_of_getElem? hx1)
    exact hn1 (n, (l0).set i ((⟨x1.Name, x1.Typ, a1, x1.N, x1.Host, x1.Text⟩ : Record)), i + 1, g0, w0) (Nat.lt_succ_self _) ⟨hr, by (try simp only [List.length_append, List.length_cons, List.length_nil, List.length_set]); first | done | omega, by (try simp only [List.length_append, List.length_cons, List.length_nil, List.length_set]); first | done | omega, by (try simp only [List.length_append, List.length_cons, List.length_nil, List.length_set]); first | done | omega, (fitL_set hi1x3 (⟨hfx1.Name, hfx1.Host, hfx1.Text⟩))⟩
  replace hr := bf_f hb1 hr
  have hb1p := dec_f hb1
  subst hr
  exact hi1x3
def n_impl_WithTtlL1 (a0 : List Record) (a1 : Int) : Nat → (List Record) → Nat → (List Record)
  | 0, _, _ => default
  | n + 1, l0, z11 => cond (decide (((z11 : Int)) < (((a0).length : Int)))) (atL (l0) (z11) (fun x1 => n_impl_WithTtlL1 a0 a1 n ((l0).set z11 ((⟨x1.Name, x1.Typ, a1, x1.N, x1.Host, x1.Text⟩ : Record))) (z11 + 1))) (l0)
def n_impl_WithTtl (a0 : List Record) (a1 : Int) : List Record := n_impl_WithTtlL1 a0 a1 (a0.length + 1) a0 0
set_option maxHeartbeats 4000000 in
set_option maxRecDepth 20000 in
theorem tr_n_impl_WithTtl (a0 : List Record) (a1 : Int) (h0 : fitL Record.Fit a0) : Tr Tryz.prog 67 [.ro ⟨false, [.sl 6 (a0.map Record.cells)]⟩, .ro ⟨false, [dI (a1)]⟩] [⟨false, [.sl 6 (((n_impl_WithTtl a0 a1)).map Record.cells)]⟩] := by
  obtain ⟨r, hr⟩ : ∃ r, n_impl_WithTtl a0 a1 = r := ⟨_, rfl⟩
  rw [hr]
  rw [n_impl_WithTtl] at hr
  refine tr_go tabOk Tryz.func67 rfl rfl rfl rfl rfl (ov := [(0, .t ⟨false, [.d (.sl 6 (a0.map Record.cells))]⟩), (1, .t ⟨false, [.d (dI (a1))]⟩)]) (hv := []) rfl rfl ?_
  refine v_seq ?_
  refine v_reg ?_
  refine sy _ (zas rfl (en 6)) rfl rfl ?_
  refine s_end ?_
  refine v_seq ?_
  refine v_reg ?_
  refine sy _ (zmv rfl (e rfl rfl)) rfl rfl ?_
  refine sd (.t ⟨false, [.sr 0 1 0 ((a0.map Record.cells).length) ((a0.map Record.cells).length)]⟩) (zcall 0 (.t ⟨false, [.sr 0 1 0 ((a0.map Record.cells).length) ((a0.map Record.cells).length)]⟩) [(0, .row 6 (a0.map Record.cells) true 1 0)] rfl (tr_clone_Record a0 (Nat.le_trans h0.1 (by decide))) (ar (e rfl rfl) (.d .nil) .nil) rfl rfl rfl) rfl rfl rfl rfl ?_
  refine sy _ (zas rfl (e rfl rfl)) rfl rfl ?_
  refine s_end ?_
  refine v_seq ?_
  refine v_seq ?_
  refine v_reg ?_
  refine sy _ (zmv rfl (e rfl rfl)) rfl rfl ?_
  have hB1 := (h0).1
  refine sy (.t ⟨false, [.d (dI ((a0).length : Int))]⟩) (zlm tabOk rfl rfl (e rfl rfl) (.sr (dp := 0) rfl)) rfl rfl ?_
  refine sy _ (zmv rfl (ec rfl)) rfl rfl ?_
  refine s_end ?_
  refine v_block ?_
  refine v_lp (fun (q : Nat × List Record × Nat × Nat × Nat) => [(1, .t ⟨false, [.d (dI (a1))]⟩), (5, .t ⟨false, [.sr 0 q.2.2.2.1 0 (((q.2.1).map Record.cells).length) (((q.2.1).map Record.cells).length)]⟩), (10, .t ⟨false, [.d (dI ((a0).length : Int))]⟩), (11, .t ⟨false, [.d (dI (q.2.2.1 : Int))]⟩)]) (fun q => [(0, .row 6 ((q.2.1).map Record.cells) true q.2.2.2.1 q.2.2.2.2)]) (fun q => n_impl_WithTtlL1 a0 a1 q.1 q.2.1 q.2.2.1 = r ∧ (q.2.2.1 ≤ a0.length) ∧ (q.2.2.1 + q.1 = a0.length + 1) ∧ (q.2.1.length = a0.length) ∧ (fitL Record.Fit q.2.1)) (fun q => q.1) (a0.length + 1, (a0 : List Record), (0 : Nat), 1, 0) ⟨hr, by (try dsimp only); (try simp only [List.length_nil, List.length_cons, List.length_replicate]); first | done | omega | exact Nat.zero_le _, by (try dsimp only); (try simp only [List.length_nil, List.length_cons, List.length_replicate]); first | done | omega | exact Nat.zero_le _, by (try dsimp only); (try simp only [List.length_nil, List.length_cons, List.length_replicate]); first | done | omega | exact Nat.zero_le _, h0⟩ ⟨rfl, rfl, rfl, rfl, trivial⟩ ⟨rfl, trivial⟩ rfl (fun q hq => ?_)
  obtain ⟨n, l0, z11, g0, w0⟩ := q
  obtain ⟨hr, hi1x0, hi1x1, hi1x2, hi1x3⟩ := hq
  dsimp only at hr hi1x0 hi1x1 hi1x2 hi1x3
  show VWp _ _ _ (mk [(1, .t ⟨false, [.d (dI (a1))]⟩), (5, .t ⟨false, [.sr 0 g0 0 (((l0).map Record.cells).length) (((l0).map Record.cells).length)]⟩), (10, .t ⟨false, [.d (dI ((a0).length : Int))]⟩), (11, .t ⟨false, [.d (dI (z11 : Int))]⟩)] _ [(0, .row 6 ((l0).map Record.cells) true g0 w0)])
  rcases n with _ | n
  · exfalso; omega
  rw [n_impl_WithTtlL1] at hr
  refine v_seq ?_
  refine v_reg ?_
  refine sy (.t ⟨false, [.d (dB (decide (((z11 : Int)) < (((a0).length : Int)))))]⟩) (y_bin rfl (e rfl rfl) (e rfl rfl) (fun _ => b_lss) rfl) rfl rfl ?_
  refine s_end ?_
  refine v_seq ?_
  refine v_cond (e rfl rfl) (fun hb1 => ?_) fun hb1 => ?_
  · replace hr := bf_t hb1 hr
    have hb1p := dec_t hb1
    refine v_skip ?_
    refine v_seq ?_
    refine v_block ?_
    refine v_seq ?_
    refine v_reg ?_
    refine sy _ (zmv rfl (e rfl rfl)) rfl rfl ?_
    refine sy _ (zas rfl (e rfl rfl)) rfl rfl ?_
    refine s_end ?_
    refine v_reg ?_
    refine sy _ (zmv rfl (e rfl rfl)) rfl rfl ?_
    refine sy _ (zmv rfl (e rfl rfl)) rfl rfl ?_
    refine sy _ (zmv rfl (e rfl rfl)) rfl rfl ?_
    obtain ⟨x1, hx1⟩ : ∃ x, (l0)[z11]? = some x := some_of_lt (by omega)
    replace hr := at_step hx1 hr
    have hfx1 := hi1x3.2 _ (List.mem_of_getElem? hx1)
    refine sy (.t ⟨false, [.ep 0 g0 z11 0]⟩) (zis tabOk rfl rfl rfl (e rfl rfl) rfl (e rfl rfl) (ltm_of_some hx1) (Nat.zero_add _)) rfl rfl ?_
    refine sy (.t ⟨false, [.ep 0 g0 z11 2]⟩) (zfa tabOk rfl rfl rfl (e rfl rfl) rfl rfl) rfl rfl ?_
    refine sw 0 (.row 6 (((l0).set z11 ((⟨x1.Name, x1.Typ, a1, x1.N, x1.Host, x1.Text⟩ : Record))).map Record.cells) true g0 w0) (zsr0 tabOk rfl (e rfl rfl) rfl (getm hx1) (e rfl rfl) rfl (.lf .nil) rfl rfl (map_set rfl)) rfl rfl ?_
    refine s_end ?_
    refine blk_norm ?_
    refine v_reg ?_
    refine sy (.t ⟨false, [.d (dI (z11 + 1 : Int))]⟩) (y_bin rfl (e rfl rfl) (ec rfl) (fun _ => b_addn (by omega) (by omega)) rfl) rfl rfl ?_
    refine sy _ (zmv rfl (e rfl rfl)) rfl rfl ?_
    refine s_end ?_
    exact lp_next (n, (l0).set z11 ((⟨x1.Name, x1.Typ, a1, x1.N, x1.Host, x1.Text⟩ : Record)), z11 + 1, g0, w0) ⟨hr, by (try simp only [List.length_append, List.length_cons, List.length_nil, List.length_set]); first | done | omega, by (try simp only [List.length_append, List.length_cons, List.length_nil, List.length_set]); first | done | omega, by (try simp only [List.length_append, List.length_cons, List.length_nil, List.length_set]); first | done | omega, (fitL_set hi1x3 (⟨hfx1.Name, hfx1.Host, hfx1.Text⟩))⟩ (Nat.lt_succ_self _) ⟨rfl, (show (.t ⟨false, [.sr 0 g0 0 (((l0).map Record.cells).length) (((l0).map Record.cells).length)]⟩ : Slot) = _ by simp only [List.length_map, List.length_set]), rfl, rfl, trivial⟩ ⟨rfl, trivial⟩ rfl
  replace hr := bf_f hb1 hr
  have hb1p := dec_f hb1
  refine v_exit ?_
  refine then_exit ?_
  refine loop_exit ?_
  refine blk_hit ?_
  refine v_seq ?_
  refine v_reg ?_
  refine sy _ (zmv rfl (e rfl rfl)) rfl rfl ?_
  refine sy _ (zas rfl (e rfl rfl)) rfl rfl ?_
  refine s_end ?_
  refine v_ret ?_
  subst hr
  exact post_ret (rv (.tmp (eg rfl rfl)) rfl (.sr rfl le_all take_all .nil) rfl .nil) (.ro (.ro .nil)) rfl
set_option maxHeartbeats 4000000 in
theorem fitx_n_impl_WithTtl (a0 : List Record) (a1 : Int) (h0 : fitL Record.Fit a0) : fitL Record.Fit (n_impl_WithTtl a0 a1) := by
  obtain ⟨r, hr⟩ : ∃ r, n_impl_WithTtl a0 a1 = r := ⟨_, rfl⟩
  rw [hr]
  rw [n_impl_WithTtl] at hr
  have hB1 : (a0).length ≤ _ := (h0).1
  refine fx_lp (fun (q : Nat × List Record × Nat × Nat × Nat) => n_impl_WithTtlL1 a0 a1 q.1 q.2.1 q.2.2.1 = r ∧ (q.2.2.1 ≤ a0.length) ∧ (q.2.2.1 + q.1 = a0.length + 1) ∧ (q.2.1.length = a0.length) ∧ (fitL Record.Fit q.2.1)) (fun q => q.1) (a0.length + 1, (a0 : List Record), (0 : Nat), 1, 0) ⟨hr, by (try dsimp only); (try simp only [List.length_nil, List.length_cons, List.length_replicate]); first | done | omega | exact Nat.zero_le _, by (try dsimp only); (try simp only [List.length_nil, List.length_cons, List.length_replicate]); first | done | omega | exact Nat.zero_le _, by (try dsimp only); (try simp only [List.length_nil, List.length_cons, List.length_replicate]); first | done | omega | exact Nat.zero_le _, h0⟩ (fun q hq hn1 => ?_)
  obtain ⟨n, l0, z11, g0, w0⟩ := q
  obtain ⟨hr, hi1x0, hi1x1, hi1x2, hi1x3⟩ := hq
  dsimp only at hr hi1x0 hi1x1 hi1x2 hi1x3
  rcases n with _ | n
  · exfalso; omega
  rw [n_impl_WithTtlL1] at hr
  rcases Bool.eq_false_or_eq_true (decide (((z11 : Int)) < (((a0).length : Int)))) with hb1 | hb1
  · replace hr := bf_t hb1 hr
    have hb1p := dec_t hb1
    obtain ⟨x1, hx1⟩ : ∃ x, (l0)[z11]? = some x := some_of_lt (by omega)
    replace hr := at_step hx1 hr
    have hfx1 := hi1x3.2 _ (List.mem_of_getElem? hx1)
    exact hn1 (n, (l0).set z11 ((⟨x1.Name, x1.Typ, a1, x1.N, x1.Host, x1.Text⟩ : Record)), z11 + 1, g0, w0) (Nat.lt_succ_self _) ⟨hr, by (try simp only [List.length_append, List.length_cons, List.length_nil, List.length_set]); first | done | omega, by (try simp only [List.length_append, List.length_cons, List.length_nil, List.length_set]); first | done | omega, by (try simp only [List.length_append, List.length_cons, List.length_nil, List.length_set]); first | done | omega, (fitL_set hi1x3 (⟨hfx1.Name, hfx1.Host, hfx1.Text⟩))⟩
  replace hr := bf_f hb1 hr
  have hb1p := dec_f hb1
  subst hr
  exact hi1x3
def n_spec_LookL1 (a0 : Cache) (a1 : Int) (a2 : Quest) (a3 : Int) : Nat → Nat → (Entry × Bool)
  | 0, _ => default
  | n + 1, i => cond (decide (((i : Int)) < (((a0.L).length : Int)))) (atL (a0.L) (i) (fun x1 => cond (decide (x1.Q = a2)) (cond (n_spec_l15Lives x1 a1) (cond (decide ((a3) ≤ (x1.Rank))) (bindv (n_spec_l15Entry x1) (fun v2 => cond (decide ((0) < (a1))) (cond (decide ((w64 (x1.Until - a1)) < (100000))) (bindv (n_spec_WithTtl x1.L (w64 (x1.Until - a1))) (fun v3 => ((⟨v2.Q, v2.Kind, v3, v2.Rank, v2.Until⟩ : Entry), true))) (cond (decide ((a1) ≤ (0))) (cond (decide ((x1.Until) < (w64 (100000 + a1)))) (bindv (n_spec_WithTtl x1.L (w64 (x1.Until - a1))) (fun v4 => ((⟨v2.Q, v2.Kind, v4, v2.Rank, v2.Until⟩ : Entry), true))) (bindv (n_spec_WithTtl x1.L 100000) (fun v5 => ((⟨v2.Q, v2.Kind, v5, v2.Rank, v2.Until⟩ : Entry), true)))) (bindv (n_spec_WithTtl x1.L 100000) (fun v6 => ((⟨v2.Q, v2.Kind, v6, v2.Rank, v2.Until⟩ : Entry), true))))) (cond (decide ((a1) ≤ (0))) (cond (decide ((x1.Until) < (w64 (100000 + a1)))) (bindv (n_spec_WithTtl x1.L (w64 (x1.Until - a1))) (fun v7 => ((⟨v2.Q, v2.Kind, v7, v2.Rank, v2.Until⟩ : Entry), true))) (bindv (n_spec_WithTtl x1.L 100000) (fun v8 => ((⟨v2.Q, v2.Kind, v8, v2.Rank, v2.Until⟩ : Entry), true)))) (bindv (n_spec_WithTtl x1.L 100000) (fun v9 => ((⟨v2.Q, v2.Kind, v9, v2.Rank, v2.Until⟩ : Entry), true)))))) (n_spec_LookL1 a0 a1 a2 a3 n (i + 1))) (n_spec_LookL1 a0 a1 a2 a3 n (i + 1))) (n_spec_LookL1 a0 a1 a2 a3 n (i + 1)))) (((⟨⟨⟨#[]⟩, 0⟩, 0, [], 0, 0⟩ : Entry), false))
def n_spec_Look (a0 : Cache) (a1 : Int) (a2 : Quest) (a3 : Int) : Entry × Bool := n_spec_LookL1 a0 a1 a2 a3 ((a0.L).length + 1) 0
set_option maxHeartbeats 4000000 in
set_option maxRecDepth 20000 in
theorem tr_n_spec_Look (a0 : Cache) (a1 : Int) (a2 : Quest) (a3 : Int) (h0 : Cache.Fit a0) (h2 : Quest.Fit a2) : Tr Tryz.prog 37 [.ro ⟨true, [dI (a0.Cap), .sl 6 (a0.L.map Entry.cells)]⟩, .ro ⟨false, [dI (a1)]⟩, .ro ⟨true, [dS (a2.Name), dI (a2.Typ)]⟩, .ro ⟨false, [dI (a3)]⟩] [⟨true, [dS ((((n_spec_Look a0 a1 a2 a3).1).Q).Name), dI ((((n_spec_Look a0 a1 a2 a3).1).Q).Typ), dI (((n_spec_Look a0 a1 a2 a3).1).Kind), .sl 6 ((((n_spec_Look a0 a1 a2 a3).1).L).map Record.cells), dI (((n_spec_Look a0 a1 a2 a3).1).Rank), dI (((n_spec_Look a0 a1 a2 a3).1).Until)]⟩, ⟨false, [dB ((n_spec_Look a0 a1 a2 a3).2)]⟩] := by
  obtain ⟨r, hr⟩ : ∃ r, n_spec_Look a0 a1 a2 a3 = r := ⟨_, rfl⟩
  rw [hr]
  rw [n_spec_Look] at hr
  refine tr_go tabOk Tryz.func37 rfl rfl rfl rfl rfl (ov := [(0, .t ⟨true, [.d (dI (a0.Cap)), .d (.sl 6 (a0.L.map Entry.cells))]⟩), (1, .t ⟨false, [.d (dI (a1))]⟩), (2, .t ⟨true, [.d (dS (a2.Name)), .d (dI (a2.Typ))]⟩), (3, .t ⟨false, [.d (dI (a3))]⟩)]) (hv := []) rfl rfl ?_
  refine v_seq ?_
  refine v_reg ?_
  refine sr 0 (.t ⟨false, [.vp 0 0]⟩) (.var [.d (dI (a0.Cap)), .d (.sl 6 (a0.L.map Entry.cells))]) (zbx rfl (e rfl rfl) rfl rfl rfl) rfl rfl ?_
  refine sr 1 (.t ⟨false, [.vp 1 0]⟩) (.var [.d (dS (a2.Name)), .d (dI (a2.Typ))]) (zbx rfl (e rfl rfl) rfl rfl rfl) rfl rfl ?_
  refine sr 2 (.t ⟨false, [.vp 2 0]⟩) (.var [.d (dS (⟨#[]⟩)), .d (dI (0)), .d (dI (0)), .nl 6, .d (dI (0)), .d (dI (0))]) (zal tabOk rfl rfl rfl rfl) rfl rfl ?_
  refine sy _ (zas rfl (ec rfl)) rfl rfl ?_
  refine s_end ?_
  refine v_seq ?_
  refine v_seq ?_
  refine v_reg ?_
  refine sy _ (zas rfl (ec rfl)) rfl rfl ?_
  refine s_end ?_
  refine v_block ?_
  refine v_lp (fun (q : Nat × Nat) => [(1, .t ⟨false, [.d (dI (a1))]⟩), (3, .t ⟨false, [.d (dI (a3))]⟩), (4, .t ⟨false, [.vp 0 0]⟩), (6, .t ⟨false, [.vp 1 0]⟩), (8, .t ⟨false, [.vp 2 0]⟩), (10, .t ⟨false, [.d (dI (q.2 : Int))]⟩)]) (fun q => [(0, .var [.d (dI (a0.Cap)), .d (.sl 6 (a0.L.map Entry.cells))]), (1, .var [.d (dS (a2.Name)), .d (dI (a2.Typ))]), (2, .var [.d (dS (⟨#[]⟩)), .d (dI (0)), .d (dI (0)), .nl 6, .d (dI (0)), .d (dI (0))])]) (fun q => n_spec_LookL1 a0 a1 a2 a3 q.1 q.2 = r ∧ (q.2 ≤ (a0.L).length) ∧ (q.2 + q.1 = (a0.L).length + 1)) (fun q => q.1) ((a0.L).length + 1, (0 : Nat)) ⟨hr, by (try dsimp only); (try simp only [List.length_nil, List.length_cons, List.length_replicate]); first | done | omega | exact Nat.zero_le _, by (try dsimp only); (try simp only [List.length_nil, List.length_cons, List.length_replicate]); first | done | omega | exact Nat.zero_le _⟩ ⟨rfl, rfl, rfl, rfl, rfl, rfl, trivial⟩ ⟨rfl, rfl, rfl, trivial⟩ rfl (fun q hq => ?_)
  obtain ⟨n, i⟩ := q
  obtain ⟨hr, hi1x0, hi1x1⟩ := hq
  dsimp only at hr hi1x0 hi1x1
  show VWp _ _ _ (mk [(1, .t ⟨false, [.d (dI (a1))]⟩), (3, .t ⟨false, [.d (dI (a3))]⟩), (4, .t ⟨false, [.vp 0 0]⟩), (6, .t ⟨false, [.vp 1 0]⟩), (8, .t ⟨false, [.vp 2 0]⟩), (10, .t ⟨false, [.d (dI (i : Int))]⟩)] _ [(0, .var [.d (dI (a0.Cap)), .d (.sl 6 (a0.L.map Entry.cells))]), (1, .var [.d (dS (a2.Name)), .d (dI (a2.Typ))]), (2, .var [.d (dS (⟨#[]⟩)), .d (dI (0)), .d (dI (0)), .nl 6, .d (dI (0)), .d (dI (0))])])
  rcases n with _ | n
  · exfalso; omega
  rw [n_spec_LookL1] at hr
  refine v_seq ?_
  refine v_seq ?_
  refine v_reg ?_
  refine sy _ (zmv rfl (e rfl rfl)) rfl rfl ?_
  refine sy (.t ⟨false, [.vp 0 1]⟩) (zfa tabOk rfl rfl rfl (e rfl rfl) rfl rfl) rfl rfl ?_
  refine sy (.t ⟨false, [.d (.sl 6 (a0.L.map Entry.cells))]⟩) (zlv tabOk rfl (e rfl rfl) rfl rfl rfl) rfl rfl ?_
  have hB1 := (h0.L).1
  refine sy (.t ⟨false, [.d (dI ((a0.L).length : Int))]⟩) (zlm tabOk rfl rfl (e rfl rfl) .d) rfl rfl ?_
  refine sy (.t ⟨false, [.d (dB (decide (((i : Int)) < (((a0.L).length : Int)))))]⟩) (y_bin rfl (e rfl rfl) (e rfl rfl) (fun _ => b_lss) rfl) rfl rfl ?_
  refine s_end ?_
  refine v_cond (e rfl rfl) (fun hb1 => ?_) fun hb1 => ?_
  · replace hr := bf_t hb1 hr
    have hb1p := dec_t hb1
    refine v_skip ?_
    refine v_seq ?_
    refine v_block ?_
    refine v_seq ?_
    refine v_reg ?_
    refine sy (.t ⟨false, [.vp 0 1]⟩) (zfa tabOk rfl rfl rfl (e rfl rfl) rfl rfl) rfl rfl ?_
    refine sy (.t ⟨false, [.d (.sl 6 (a0.L.map Entry.cells))]⟩) (zlv tabOk rfl (e rfl rfl) rfl rfl rfl) rfl rfl ?_
    refine sy _ (zmv rfl (e rfl rfl)) rfl rfl ?_
    obtain ⟨x1, hx1⟩ : ∃ x, (a0.L)[i]? = some x := some_of_lt (by omega)
    replace hr := at_step hx1 hr
    have hfx1 := h0.L.2 _ (List.mem_of_getElem? hx1)
    refine sy (.t ⟨false, [.fe 6 (a0.L.map Entry.cells) i 0]⟩) (zix tabOk rfl rfl rfl (e rfl rfl) (e rfl rfl) (ltm_of_some hx1)) rfl rfl ?_
    refine sy (.t ⟨true, [.d (dS (x1.Q.Name)), .d (dI (x1.Q.Typ)), .d (dI (x1.Kind)), .d (.sl 6 (x1.L.map Record.cells)), .d (dI (x1.Rank)), .d (dI (x1.Until))]⟩) (zle tabOk rfl (e rfl rfl) (getm hx1) rfl rfl) rfl rfl ?_
    refine sr 23 (.t ⟨false, [.vp 23 0]⟩) (.var [.d (dS (⟨#[]⟩)), .d (dI (0)), .d (dI (0)), .nl 6, .d (dI (0)), .d (dI (0))]) (zal tabOk rfl rfl rfl rfl) rfl rfl ?_
    refine sw 23 (.var [.d (dS (x1.Q.Name)), .d (dI (x1.Q.Typ)), .d (dI (x1.Kind)), .d (.sl 6 (x1.L.map Record.cells)), .d (dI (x1.Rank)), .d (dI (x1.Until))]) (zst tabOk rfl (e rfl rfl) rfl (e rfl rfl) rfl rfl rfl) rfl rfl ?_
    refine s_end ?_
    refine v_seq ?_
    refine v_reg ?_
    refine sy (.t ⟨false, [.vp 23 0]⟩) (zfa tabOk rfl rfl rfl (e rfl rfl) rfl rfl) rfl rfl ?_
    refine sy (.t ⟨true, [.d (dS (x1.Q.Name)), .d (dI (x1.Q.Typ))]⟩) (zlv tabOk rfl (e rfl rfl) rfl rfl rfl) rfl rfl ?_
    refine sy (.t ⟨true, [.d (dS (a2.Name)), .d (dI (a2.Typ))]⟩) (zlv tabOk rfl (e rfl rfl) rfl rfl rfl) rfl rfl ?_
    refine sy (.t ⟨false, [.d (dB (decide (x1.Q = a2)))]⟩) (zeqs61 (a := x1.Q) (b := a2) rfl (e rfl rfl) (e rfl rfl)) rfl rfl ?_
    refine sy _ (zmv rfl (e rfl rfl)) rfl rfl ?_
    rcases Bool.eq_false_or_eq_true (decide (x1.Q = a2)) with hg2 | hg2
    · replace hr := bf_t hg2 hr
      have hg2p := dec_t hg2
      refine gr rfl rfl rfl (eg rfl rfl) hg2 ?_
      refine sy (.t ⟨true, [.d (dS (x1.Q.Name)), .d (dI (x1.Q.Typ)), .d (dI (x1.Kind)), .d (.sl 6 (x1.L.map Record.cells)), .d (dI (x1.Rank)), .d (dI (x1.Until))]⟩) (zlv tabOk rfl (e rfl rfl) rfl rfl rfl) rfl rfl ?_
      refine gr rfl rfl rfl (eg rfl rfl) hg2 ?_
      refine sy _ (zmv rfl (e rfl rfl)) rfl rfl ?_
      refine gr rfl rfl rfl (eg rfl rfl) hg2 ?_
      refine sd (.t ⟨false, [.d (dB (n_spec_l15Lives x1 a1))]⟩) (zcall 24 (.t ⟨false, [.d (dB (n_spec_l15Lives x1 a1))]⟩) [] rfl (tr_n_spec_l15Lives x1 a1 hfx1) (ar (e rfl rfl) (.d (.d (.d (.d (.d (.d .nil)))))) (ar (e rfl rfl) (.d .nil) .nil)) rfl rfl rfl) rfl rfl rfl rfl ?_
      refine sy (.t ⟨false, [.d (dB (n_spec_l15Lives x1 a1))]⟩) (zpt rfl (e rfl rfl) hg2 (e rfl rfl)) rfl rfl ?_
      refine sy _ (zmv rfl (e rfl rfl)) rfl rfl ?_
      rcases Bool.eq_false_or_eq_true (n_spec_l15Lives x1 a1) with hg3 | hg3
      · replace hr := bf_t hg3 hr
        refine gr rfl rfl rfl (eg rfl rfl) hg3 ?_
        refine sy (.t ⟨false, [.vp 23 4]⟩) (zfa tabOk rfl rfl rfl (e rfl rfl) rfl rfl) rfl rfl ?_
        refine gr rfl rfl rfl (eg rfl rfl) hg3 ?_
        refine sy (.t ⟨false, [.d (dI (x1.Rank))]⟩) (zlv tabOk rfl (e rfl rfl) rfl rfl rfl) rfl rfl ?_
        refine gr rfl rfl rfl (eg rfl rfl) hg3 ?_
        refine sy _ (zmv rfl (e rfl rfl)) rfl rfl ?_
        refine gr rfl rfl rfl (eg rfl rfl) hg3 ?_
        refine sy (.t ⟨false, [.d (dB (decide ((a3) ≤ (x1.Rank))))]⟩) (y_bin rfl (e rfl rfl) (e rfl rfl) (fun _ => b_geq) rfl) rfl rfl ?_
        refine sy (.t ⟨false, [.d (dB (decide ((a3) ≤ (x1.Rank))))]⟩) (zpt rfl (e rfl rfl) hg3 (e rfl rfl)) rfl rfl ?_
        refine s_end ?_
        refine v_cond (e rfl rfl) (fun hb4 => ?_) fun hb4 => ?_
        · replace hr := bf_t hb4 hr
          have hb4p := dec_t hb4
          refine v_seq ?_
          refine v_reg ?_
          refine sy (.t ⟨true, [.d (dS (x1.Q.Name)), .d (dI (x1.Q.Typ)), .d (dI (x1.Kind)), .d (.sl 6 (x1.L.map Record.cells)), .d (dI (x1.Rank)), .d (dI (x1.Until))]⟩) (zlv tabOk rfl (e rfl rfl) rfl rfl rfl) rfl rfl ?_
          obtain ⟨v2, ev2⟩ : ∃ v : Entry, v = n_spec_l15Entry x1 := ⟨_, rfl⟩
          replace hr := bv_step ev2 hr
          have hfv2 : Entry.Fit v2 := by rw [ev2]; exact (fitx_n_spec_l15Entry x1 hfx1)
          refine sd (.t ⟨true, [.d (dS (v2.Q.Name)), .d (dI (v2.Q.Typ)), .d (dI (v2.Kind)), .sr 24 1 0 ((v2.L.map Record.cells).length) ((v2.L.map Record.cells).length), .d (dI (v2.Rank)), .d (dI (v2.Until))]⟩) (zcall 24 (.t ⟨true, [.d (dS (v2.Q.Name)), .d (dI (v2.Q.Typ)), .d (dI (v2.Kind)), .sr 24 1 0 ((v2.L.map Record.cells).length) ((v2.L.map Record.cells).length), .d (dI (v2.Rank)), .d (dI (v2.Until))]⟩) [(24, .row 6 (v2.L.map Record.cells) true 1 0)] rfl (by rw [ev2]; exact (tr_n_spec_l15Entry x1 hfx1) : Tr Tryz.prog 58 _ [⟨true, [dS (v2.Q.Name), dI (v2.Q.Typ), dI (v2.Kind), .sl 6 (v2.L.map Record.cells), dI (v2.Rank), dI (v2.Until)]⟩]) (ar (e rfl rfl) (.d (.d (.d (.d (.d (.d .nil)))))) .nil) rfl rfl rfl) rfl rfl rfl rfl ?_
          refine sr 25 (.t ⟨false, [.vp 25 0]⟩) (.var [.d (dS (⟨#[]⟩)), .d (dI (0)), .d (dI (0)), .nl 6, .d (dI (0)), .d (dI (0))]) (zal tabOk rfl rfl rfl rfl) rfl rfl ?_
          refine sw 25 (.var [.d (dS (v2.Q.Name)), .d (dI (v2.Q.Typ)), .d (dI (v2.Kind)), .sr 24 1 0 ((v2.L.map Record.cells).length) ((v2.L.map Record.cells).length), .d (dI (v2.Rank)), .d (dI (v2.Until))]) (zst tabOk rfl (e rfl rfl) rfl (e rfl rfl) rfl rfl rfl) rfl rfl ?_
          refine s_end ?_
          refine v_seq ?_
          refine v_reg ?_
          refine sy _ (zas rfl (ec rfl)) rfl rfl ?_
          refine s_end ?_
          refine v_seq ?_
          refine v_seq ?_
          refine v_reg ?_
          refine sy _ (zmv rfl (e rfl rfl)) rfl rfl ?_
          refine sy (.t ⟨false, [.d (dB (decide ((0) < (a1))))]⟩) (y_bin rfl (e rfl rfl) (ec rfl) (fun _ => b_gtr) rfl) rfl rfl ?_
          refine sy _ (zmv rfl (e rfl rfl)) rfl rfl ?_
          rcases Bool.eq_false_or_eq_true (decide ((0) < (a1))) with hg5 | hg5
          · replace hr := bf_t hg5 hr
            have hg5p := dec_t hg5
            refine gr rfl rfl rfl (eg rfl rfl) hg5 ?_
            refine sy (.t ⟨false, [.vp 23 5]⟩) (zfa tabOk rfl rfl rfl (e rfl rfl) rfl rfl) rfl rfl ?_
            refine gr rfl rfl rfl (eg rfl rfl) hg5 ?_
            refine sy (.t ⟨false, [.d (dI (x1.Until))]⟩) (zlv tabOk rfl (e rfl rfl) rfl rfl rfl) rfl rfl ?_
            refine gr rfl rfl rfl (eg rfl rfl) hg5 ?_
            refine sy _ (zmv rfl (e rfl rfl)) rfl rfl ?_
            refine gr rfl rfl rfl (eg rfl rfl) hg5 ?_
            refine sy (.t ⟨false, [.d (dI (w64 (x1.Until - a1)))]⟩) (y_bin rfl (e rfl rfl) (e rfl rfl) (fun _ => b_ws) rfl) rfl rfl ?_
            refine gr rfl rfl rfl (eg rfl rfl) hg5 ?_
            refine sy (.t ⟨false, [.d (dB (decide ((w64 (x1.Until - a1)) < (100000))))]⟩) (y_bin rfl (e rfl rfl) (ec rfl) (fun _ => b_lss) rfl) rfl rfl ?_
            refine sy (.t ⟨false, [.d (dB (decide ((w64 (x1.Until - a1)) < (100000))))]⟩) (zpt rfl (e rfl rfl) hg5 (e rfl rfl)) rfl rfl ?_
            refine sy _ (zmv rfl (e rfl rfl)) rfl rfl ?_
            rcases Bool.eq_false_or_eq_true (decide ((w64 (x1.Until - a1)) < (100000))) with hg6 | hg6
            · replace hr := bf_t hg6 hr
              have hg6p := dec_t hg6
              refine gs rfl rfl rfl (eg rfl rfl) hg6 rfl ?_
              refine gs rfl rfl rfl (eg rfl rfl) hg6 rfl ?_
              refine gs rfl rfl rfl (eg rfl rfl) hg6 rfl ?_
              refine gs0 rfl rfl rfl (eg rfl rfl) rfl ?_
              refine gs0 rfl rfl rfl (eg rfl rfl) rfl ?_
              refine gs0 rfl rfl rfl (eg rfl rfl) rfl ?_
              refine gs0 rfl rfl rfl (eg rfl rfl) rfl ?_
              refine gs0 rfl rfl rfl (eg rfl rfl) rfl ?_
              refine gs rfl rfl rfl (eg rfl rfl) hg6 rfl ?_
              refine sy (.t ⟨false, [.d (dB (true))]⟩) (zpt rfl (e rfl rfl) hg6 (ec rfl)) rfl rfl ?_
              refine s_end ?_
              refine v_cT (e rfl rfl) rfl ?_
              refine v_reg ?_
              refine sy (.t ⟨false, [.vp 23 5]⟩) (zfa tabOk rfl rfl rfl (e rfl rfl) rfl rfl) rfl rfl ?_
              refine sy (.t ⟨false, [.d (dI (x1.Until))]⟩) (zlv tabOk rfl (e rfl rfl) rfl rfl rfl) rfl rfl ?_
              refine sy _ (zmv rfl (e rfl rfl)) rfl rfl ?_
              refine sy (.t ⟨false, [.d (dI (w64 (x1.Until - a1)))]⟩) (y_bin rfl (e rfl rfl) (e rfl rfl) (fun _ => b_ws) rfl) rfl rfl ?_
              refine sy _ (zas rfl (e rfl rfl)) rfl rfl ?_
              refine s_end ?_
              refine v_seq ?_
              refine v_reg ?_
              refine sy (.t ⟨false, [.vp 23 3]⟩) (zfa tabOk rfl rfl rfl (e rfl rfl) rfl rfl) rfl rfl ?_
              refine sy (.t ⟨false, [.d (.sl 6 (x1.L.map Record.cells))]⟩) (zlv tabOk rfl (e rfl rfl) rfl rfl rfl) rfl rfl ?_
              refine sy _ (zmv rfl (e rfl rfl)) rfl rfl ?_
              obtain ⟨v3, ev3⟩ : ∃ v : List Record, v = n_spec_WithTtl x1.L (w64 (x1.Until - a1)) := ⟨_, rfl⟩
              replace hr := bv_step ev3 hr
              have hfv3 : fitL Record.Fit v3 := by rw [ev3]; exact (fitx_n_spec_WithTtl x1.L (w64 (x1.Until - a1)) hfx1.L)
              refine sd (.t ⟨false, [.sr 26 1 0 ((v3.map Record.cells).length) ((v3.map Record.cells).length)]⟩) (zcall 26 (.t ⟨false, [.sr 26 1 0 ((v3.map Record.cells).length) ((v3.map Record.cells).length)]⟩) [(26, .row 6 (v3.map Record.cells) true 1 0)] rfl (by rw [ev3]; exact (tr_n_spec_WithTtl x1.L (w64 (x1.Until - a1)) hfx1.L) : Tr Tryz.prog 59 _ [⟨false, [.sl 6 (v3.map Record.cells)]⟩]) (ar (e rfl rfl) (.d .nil) (ar (e rfl rfl) (.d .nil) .nil)) rfl rfl rfl) rfl rfl rfl rfl ?_
              refine sy (.t ⟨false, [.vp 25 3]⟩) (zfa tabOk rfl rfl rfl (e rfl rfl) rfl rfl) rfl rfl ?_
              refine sw 25 (.var [.d (dS (v2.Q.Name)), .d (dI (v2.Q.Typ)), .d (dI (v2.Kind)), .sr 26 1 0 ((v3.map Record.cells).length) ((v3.map Record.cells).length), .d (dI (v2.Rank)), .d (dI (v2.Until))]) (zst tabOk rfl (e rfl rfl) rfl (e rfl rfl) rfl rfl rfl) rfl rfl ?_
              refine s_end ?_
              refine v_seq ?_
              refine v_reg ?_
              refine sy (.t ⟨true, [.d (dS (v2.Q.Name)), .d (dI (v2.Q.Typ)), .d (dI (v2.Kind)), .sr 26 1 0 ((v3.map Record.cells).length) ((v3.map Record.cells).length), .d (dI (v2.Rank)), .d (dI (v2.Until))]⟩) (zlv tabOk rfl (e rfl rfl) rfl rfl rfl) rfl rfl ?_
              refine sw 2 (.var [.d (dS (v2.Q.Name)), .d (dI (v2.Q.Typ)), .d (dI (v2.Kind)), .sr 26 1 0 ((v3.map Record.cells).length) ((v3.map Record.cells).length), .d (dI (v2.Rank)), .d (dI (v2.Until))]) (zst tabOk rfl (e rfl rfl) rfl (e rfl rfl) rfl rfl rfl) rfl rfl ?_
              refine sy _ (zas rfl (ec rfl)) rfl rfl ?_
              refine s_end ?_
              refine v_ret ?_
              subst hr
              exact post_ret (rv (.cell (eg rfl rfl) rfl rfl (.inl rfl) rfl) rfl (.lf (.lf (.lf (.sr rfl le_all take_all (.lf (.lf .nil)))))) rfl (rv (.tmp (eg rfl rfl)) rfl (.lf .nil) rfl .nil)) (.ro (.ro (.ro (.ro .nil)))) rfl
            replace hr := bf_f hg6 hr
            have hg6p := dec_f hg6
            refine gr rfl rfl rfl (eg rfl rfl) hg6 ?_
            refine sy _ (zmv rfl (e rfl rfl)) rfl rfl ?_
            refine gr rfl rfl rfl (eg rfl rfl) hg6 ?_
            refine sy (.t ⟨false, [.d (dB (decide ((a1) ≤ (0))))]⟩) (y_bin rfl (e rfl rfl) (ec rfl) (fun _ => b_leq) rfl) rfl rfl ?_
            refine gr rfl rfl rfl (eg rfl rfl) hg6 ?_
            refine sy _ (zmv rfl (e rfl rfl)) rfl rfl ?_
            rcases Bool.eq_false_or_eq_true (decide ((a1) ≤ (0))) with hg7 | hg7
            · replace hr := bf_t hg7 hr
              have hg7p := dec_t hg7
              refine gr rfl rfl rfl (eg rfl rfl) hg7 ?_
              refine sy (.t ⟨false, [.vp 23 5]⟩) (zfa tabOk rfl rfl rfl (e rfl rfl) rfl rfl) rfl rfl ?_
              refine gr rfl rfl rfl (eg rfl rfl) hg7 ?_
              refine sy (.t ⟨false, [.d (dI (x1.Until))]⟩) (zlv tabOk rfl (e rfl rfl) rfl rfl rfl) rfl rfl ?_
              refine gr rfl rfl rfl (eg rfl rfl) hg7 ?_
              refine sy _ (zmv rfl (e rfl rfl)) rfl rfl ?_
              refine gr rfl rfl rfl (eg rfl rfl) hg7 ?_
              refine sy (.t ⟨false, [.d (dI (w64 (100000 + a1)))]⟩) (y_bin rfl (ec rfl) (e rfl rfl) (fun _ => b_w) rfl) rfl rfl ?_
              refine gr rfl rfl rfl (eg rfl rfl) hg7 ?_
              refine sy (.t ⟨false, [.d (dB (decide ((x1.Until) < (w64 (100000 + a1)))))]⟩) (y_bin rfl (e rfl rfl) (e rfl rfl) (fun _ => b_lss) rfl) rfl rfl ?_
              refine gr rfl rfl rfl (eg rfl rfl) hg6 ?_
              refine sy (.t ⟨false, [.d (dB (decide ((x1.Until) < (w64 (100000 + a1)))))]⟩) (zpt rfl (e rfl rfl) hg7 (e rfl rfl)) rfl rfl ?_
              refine sy (.t ⟨false, [.d (dB (decide ((x1.Until) < (w64 (100000 + a1)))))]⟩) (zpf rfl (e rfl rfl) hg6 (e rfl rfl)) rfl rfl ?_
              refine s_end ?_
              refine v_cond (e rfl rfl) (fun hb8 => ?_) fun hb8 => ?_
              · replace hr := bf_t hb8 hr
                have hb8p := dec_t hb8
                refine v_reg ?_
                refine sy (.t ⟨false, [.vp 23 5]⟩) (zfa tabOk rfl rfl rfl (e rfl rfl) rfl rfl) rfl rfl ?_
                refine sy (.t ⟨false, [.d (dI (x1.Until))]⟩) (zlv tabOk rfl (e rfl rfl) rfl rfl rfl) rfl rfl ?_
                refine sy _ (zmv rfl (e rfl rfl)) rfl rfl ?_
                refine sy (.t ⟨false, [.d (dI (w64 (x1.Until - a1)))]⟩) (y_bin rfl (e rfl rfl) (e rfl rfl) (fun _ => b_ws) rfl) rfl rfl ?_
                refine sy _ (zas rfl (e rfl rfl)) rfl rfl ?_
                refine s_end ?_
                refine v_seq ?_
                refine v_reg ?_
                refine sy (.t ⟨false, [.vp 23 3]⟩) (zfa tabOk rfl rfl rfl (e rfl rfl) rfl rfl) rfl rfl ?_
                refine sy (.t ⟨false, [.d (.sl 6 (x1.L.map Record.cells))]⟩) (zlv tabOk rfl (e rfl rfl) rfl rfl rfl) rfl rfl ?_
                refine sy _ (zmv rfl (e rfl rfl)) rfl rfl ?_
                obtain ⟨v4, ev4⟩ : ∃ v : List Record, v = n_spec_WithTtl x1.L (w64 (x1.Until - a1)) := ⟨_, rfl⟩
                replace hr := bv_step ev4 hr
                have hfv4 : fitL Record.Fit v4 := by rw [ev4]; exact (fitx_n_spec_WithTtl x1.L (w64 (x1.Until - a1)) hfx1.L)
                refine sd (.t ⟨false, [.sr 27 1 0 ((v4.map Record.cells).length) ((v4.map Record.cells).length)]⟩) (zcall 27 (.t ⟨false, [.sr 27 1 0 ((v4.map Record.cells).length) ((v4.map Record.cells).length)]⟩) [(27, .row 6 (v4.map Record.cells) true 1 0)] rfl (by rw [ev4]; exact (tr_n_spec_WithTtl x1.L (w64 (x1.Until - a1)) hfx1.L) : Tr Tryz.prog 59 _ [⟨false, [.sl 6 (v4.map Record.cells)]⟩]) (ar (e rfl rfl) (.d .nil) (ar (e rfl rfl) (.d .nil) .nil)) rfl rfl rfl) rfl rfl rfl rfl ?_
                refine sy (.t ⟨false, [.vp 25 3]⟩) (zfa tabOk rfl rfl rfl (e rfl rfl) rfl rfl) rfl rfl ?_
                refine sw 25 (.var [.d (dS (v2.Q.Name)), .d (dI (v2.Q.Typ)), .d (dI (v2.Kind)), .sr 27 1 0 ((v4.map Record.cells).length) ((v4.map Record.cells).length), .d (dI (v2.Rank)), .d (dI (v2.Until))]) (zst tabOk rfl (e rfl rfl) rfl (e rfl rfl) rfl rfl rfl) rfl rfl ?_
                refine s_end ?_
                refine v_seq ?_
                refine v_reg ?_
                refine sy (.t ⟨true, [.d (dS (v2.Q.Name)), .d (dI (v2.Q.Typ)), .d (dI (v2.Kind)), .sr 27 1 0 ((v4.map Record.cells).length) ((v4.map Record.cells).length), .d (dI (v2.Rank)), .d (dI (v2.Until))]⟩) (zlv tabOk rfl (e rfl rfl) rfl rfl rfl) rfl rfl ?_
                refine sw 2 (.var [.d (dS (v2.Q.Name)), .d (dI (v2.Q.Typ)), .d (dI (v2.Kind)), .sr 27 1 0 ((v4.map Record.cells).length) ((v4.map Record.cells).length), .d (dI (v2.Rank)), .d (dI (v2.Until))]) (zst tabOk rfl (e rfl rfl) rfl (e rfl rfl) rfl rfl rfl) rfl rfl ?_
                refine sy _ (zas rfl (ec rfl)) rfl rfl ?_
                refine s_end ?_
                refine v_ret ?_
                subst hr
                exact post_ret (rv (.cell (eg rfl rfl) rfl rfl (.inl rfl) rfl) rfl (.lf (.lf (.lf (.sr rfl le_all take_all (.lf (.lf .nil)))))) rfl (rv (.tmp (eg rfl rfl)) rfl (.lf .nil) rfl .nil)) (.ro (.ro (.ro (.ro .nil)))) rfl
              replace hr := bf_f hb8 hr
              have hb8p := dec_f hb8
              refine v_skip ?_
              refine v_seq ?_
              refine v_reg ?_
              refine sy (.t ⟨false, [.vp 23 3]⟩) (zfa tabOk rfl rfl rfl (e rfl rfl) rfl rfl) rfl rfl ?_
              refine sy (.t ⟨false, [.d (.sl 6 (x1.L.map Record.cells))]⟩) (zlv tabOk rfl (e rfl rfl) rfl rfl rfl) rfl rfl ?_
              refine sy _ (zmv rfl (e rfl rfl)) rfl rfl ?_
              obtain ⟨v5, ev5⟩ : ∃ v : List Record, v = n_spec_WithTtl x1.L 100000 := ⟨_, rfl⟩
              replace hr := bv_step ev5 hr
              have hfv5 : fitL Record.Fit v5 := by rw [ev5]; exact (fitx_n_spec_WithTtl x1.L 100000 hfx1.L)
              refine sd (.t ⟨false, [.sr 28 1 0 ((v5.map Record.cells).length) ((v5.map Record.cells).length)]⟩) (zcall 28 (.t ⟨false, [.sr 28 1 0 ((v5.map Record.cells).length) ((v5.map Record.cells).length)]⟩) [(28, .row 6 (v5.map Record.cells) true 1 0)] rfl (by rw [ev5]; exact (tr_n_spec_WithTtl x1.L 100000 hfx1.L) : Tr Tryz.prog 59 _ [⟨false, [.sl 6 (v5.map Record.cells)]⟩]) (ar (e rfl rfl) (.d .nil) (ar (e rfl rfl) (.d .nil) .nil)) rfl rfl rfl) rfl rfl rfl rfl ?_
              refine sy (.t ⟨false, [.vp 25 3]⟩) (zfa tabOk rfl rfl rfl (e rfl rfl) rfl rfl) rfl rfl ?_
              refine sw 25 (.var [.d (dS (v2.Q.Name)), .d (dI (v2.Q.Typ)), .d (dI (v2.Kind)), .sr 28 1 0 ((v5.map Record.cells).length) ((v5.map Record.cells).length), .d (dI (v2.Rank)), .d (dI (v2.Until))]) (zst tabOk rfl (e rfl rfl) rfl (e rfl rfl) rfl rfl rfl) rfl rfl ?_
              refine s_end ?_
              refine v_seq ?_
              refine v_reg ?_
              refine sy (.t ⟨true, [.d (dS (v2.Q.Name)), .d (dI (v2.Q.Typ)), .d (dI (v2.Kind)), .sr 28 1 0 ((v5.map Record.cells).length) ((v5.map Record.cells).length), .d (dI (v2.Rank)), .d (dI (v2.Until))]⟩) (zlv tabOk rfl (e rfl rfl) rfl rfl rfl) rfl rfl ?_
              refine sw 2 (.var [.d (dS (v2.Q.Name)), .d (dI (v2.Q.Typ)), .d (dI (v2.Kind)), .sr 28 1 0 ((v5.map Record.cells).length) ((v5.map Record.cells).length), .d (dI (v2.Rank)), .d (dI (v2.Until))]) (zst tabOk rfl (e rfl rfl) rfl (e rfl rfl) rfl rfl rfl) rfl rfl ?_
              refine sy _ (zas rfl (ec rfl)) rfl rfl ?_
              refine s_end ?_
              refine v_ret ?_
              subst hr
              exact post_ret (rv (.cell (eg rfl rfl) rfl rfl (.inl rfl) rfl) rfl (.lf (.lf (.lf (.sr rfl le_all take_all (.lf (.lf .nil)))))) rfl (rv (.tmp (eg rfl rfl)) rfl (.lf .nil) rfl .nil)) (.ro (.ro (.ro (.ro .nil)))) rfl
            replace hr := bf_f hg7 hr
            have hg7p := dec_f hg7
            refine gs rfl rfl rfl (eg rfl rfl) hg7 rfl ?_
            refine gs rfl rfl rfl (eg rfl rfl) hg7 rfl ?_
            refine gs rfl rfl rfl (eg rfl rfl) hg7 rfl ?_
            refine gs rfl rfl rfl (eg rfl rfl) hg7 rfl ?_
            refine gs rfl rfl rfl (eg rfl rfl) hg7 rfl ?_
            refine gr rfl rfl rfl (eg rfl rfl) hg6 ?_
            refine sy (.t ⟨false, [.d (dB (false))]⟩) (zpf rfl (e rfl rfl) hg7 (ec rfl)) rfl rfl ?_
            refine sy (.t ⟨false, [.d (dB (false))]⟩) (zpf rfl (e rfl rfl) hg6 (e rfl rfl)) rfl rfl ?_
            refine s_end ?_
            refine v_cF (e rfl rfl) rfl ?_
            refine v_skip ?_
            refine v_seq ?_
            refine v_reg ?_
            refine sy (.t ⟨false, [.vp 23 3]⟩) (zfa tabOk rfl rfl rfl (e rfl rfl) rfl rfl) rfl rfl ?_
            refine sy (.t ⟨false, [.d (.sl 6 (x1.L.map Record.cells))]⟩) (zlv tabOk rfl (e rfl rfl) rfl rfl rfl) rfl rfl ?_
            refine sy _ (zmv rfl (e rfl rfl)) rfl rfl ?_
            obtain ⟨v6, ev6⟩ : ∃ v : List Record, v = n_spec_WithTtl x1.L 100000 := ⟨_, rfl⟩
            replace hr := bv_step ev6 hr
            have hfv6 : fitL Record.Fit v6 := by rw [ev6]; exact (fitx_n_spec_WithTtl x1.L 100000 hfx1.L)
            refine sd (.t ⟨false, [.sr 29 1 0 ((v6.map Record.cells).length) ((v6.map Record.cells).length)]⟩) (zcall 29 (.t ⟨false, [.sr 29 1 0 ((v6.map Record.cells).length) ((v6.map Record.cells).length)]⟩) [(29, .row 6 (v6.map Record.cells) true 1 0)] rfl (by rw [ev6]; exact (tr_n_spec_WithTtl x1.L 100000 hfx1.L) : Tr Tryz.prog 59 _ [⟨false, [.sl 6 (v6.map Record.cells)]⟩]) (ar (e rfl rfl) (.d .nil) (ar (e rfl rfl) (.d .nil) .nil)) rfl rfl rfl) rfl rfl rfl rfl ?_
            refine sy (.t ⟨false, [.vp 25 3]⟩) (zfa tabOk rfl rfl rfl (e rfl rfl) rfl rfl) rfl rfl ?_
            refine sw 25 (.var [.d (dS (v2.Q.Name)), .d (dI (v2.Q.Typ)), .d (dI (v2.Kind)), .sr 29 1 0 ((v6.map Record.cells).length) ((v6.map Record.cells).length), .d (dI (v2.Rank)), .d (dI (v2.Until))]) (zst tabOk rfl (e rfl rfl) rfl (e rfl rfl) rfl rfl rfl) rfl rfl ?_
            refine s_end ?_
            refine v_seq ?_
            refine v_reg ?_
            refine sy (.t ⟨true, [.d (dS (v2.Q.Name)), .d (dI (v2.Q.Typ)), .d (dI (v2.Kind)), .sr 29 1 0 ((v6.map Record.cells).length) ((v6.map Record.cells).length), .d (dI (v2.Rank)), .d (dI (v2.Until))]⟩) (zlv tabOk rfl (e rfl rfl) rfl rfl rfl) rfl rfl ?_
            refine sw 2 (.var [.d (dS (v2.Q.Name)), .d (dI (v2.Q.Typ)), .d (dI (v2.Kind)), .sr 29 1 0 ((v6.map Record.cells).length) ((v6.map Record.cells).length), .d (dI (v2.Rank)), .d (dI (v2.Until))]) (zst tabOk rfl (e rfl rfl) rfl (e rfl rfl) rfl rfl rfl) rfl rfl ?_
            refine sy _ (zas rfl (ec rfl)) rfl rfl ?_
            refine s_end ?_
            refine v_ret ?_
            subst hr
            exact post_ret (rv (.cell (eg rfl rfl) rfl rfl (.inl rfl) rfl) rfl (.lf (.lf (.lf (.sr rfl le_all take_all (.lf (.lf .nil)))))) rfl (rv (.tmp (eg rfl rfl)) rfl (.lf .nil) rfl .nil)) (.ro (.ro (.ro (.ro .nil)))) rfl
          replace hr := bf_f hg5 hr
          have hg5p := dec_f hg5
          refine gs rfl rfl rfl (eg rfl rfl) hg5 rfl ?_
          refine gs rfl rfl rfl (eg rfl rfl) hg5 rfl ?_
          refine gs rfl rfl rfl (eg rfl rfl) hg5 rfl ?_
          refine gs rfl rfl rfl (eg rfl rfl) hg5 rfl ?_
          refine gs rfl rfl rfl (eg rfl rfl) hg5 rfl ?_
          refine sy (.t ⟨false, [.d (dB (false))]⟩) (zpf rfl (e rfl rfl) hg5 (ec rfl)) rfl rfl ?_
          refine sy _ (zmv rfl (e rfl rfl)) rfl rfl ?_
          refine gr rfl rfl rfl (eg rfl rfl) rfl ?_
          refine sy _ (zmv rfl (e rfl rfl)) rfl rfl ?_
          refine gr rfl rfl rfl (eg rfl rfl) rfl ?_
          refine sy (.t ⟨false, [.d (dB (decide ((a1) ≤ (0))))]⟩) (y_bin rfl (e rfl rfl) (ec rfl) (fun _ => b_leq) rfl) rfl rfl ?_
          refine gr rfl rfl rfl (eg rfl rfl) rfl ?_
          refine sy _ (zmv rfl (e rfl rfl)) rfl rfl ?_
          rcases Bool.eq_false_or_eq_true (decide ((a1) ≤ (0))) with hg9 | hg9
          · replace hr := bf_t hg9 hr
            have hg9p := dec_t hg9
            refine gr rfl rfl rfl (eg rfl rfl) hg9 ?_
            refine sy (.t ⟨false, [.vp 23 5]⟩) (zfa tabOk rfl rfl rfl (e rfl rfl) rfl rfl) rfl rfl ?_
            refine gr rfl rfl rfl (eg rfl rfl) hg9 ?_
            refine sy (.t ⟨false, [.d (dI (x1.Until))]⟩) (zlv tabOk rfl (e rfl rfl) rfl rfl rfl) rfl rfl ?_
            refine gr rfl rfl rfl (eg rfl rfl) hg9 ?_
            refine sy _ (zmv rfl (e rfl rfl)) rfl rfl ?_
            refine gr rfl rfl rfl (eg rfl rfl) hg9 ?_
            refine sy (.t ⟨false, [.d (dI (w64 (100000 + a1)))]⟩) (y_bin rfl (ec rfl) (e rfl rfl) (fun _ => b_w) rfl) rfl rfl ?_
            refine gr rfl rfl rfl (eg rfl rfl) hg9 ?_
            refine sy (.t ⟨false, [.d (dB (decide ((x1.Until) < (w64 (100000 + a1)))))]⟩) (y_bin rfl (e rfl rfl) (e rfl rfl) (fun _ => b_lss) rfl) rfl rfl ?_
            refine gr rfl rfl rfl (eg rfl rfl) rfl ?_
            refine sy (.t ⟨false, [.d (dB (decide ((x1.Until) < (w64 (100000 + a1)))))]⟩) (zpt rfl (e rfl rfl) hg9 (e rfl rfl)) rfl rfl ?_
            refine sy (.t ⟨false, [.d (dB (decide ((x1.Until) < (w64 (100000 + a1)))))]⟩) (zpf rfl (e rfl rfl) rfl (e rfl rfl)) rfl rfl ?_
            refine s_end ?_
            refine v_cond (e rfl rfl) (fun hb10 => ?_) fun hb10 => ?_
            · replace hr := bf_t hb10 hr
              have hb10p := dec_t hb10
              refine v_reg ?_
              refine sy (.t ⟨false, [.vp 23 5]⟩) (zfa tabOk rfl rfl rfl (e rfl rfl) rfl rfl) rfl rfl ?_
              refine sy (.t ⟨false, [.d (dI (x1.Until))]⟩) (zlv tabOk rfl (e rfl rfl) rfl rfl rfl) rfl rfl ?_
              refine sy _ (zmv rfl (e rfl rfl)) rfl rfl ?_
              refine sy (.t ⟨false, [.d (dI (w64 (x1.Until - a1)))]⟩) (y_bin rfl (e rfl rfl) (e rfl rfl) (fun _ => b_ws) rfl) rfl rfl ?_
              refine sy _ (zas rfl (e rfl rfl)) rfl rfl ?_
              refine s_end ?_
              refine v_seq ?_
              refine v_reg ?_
              refine sy (.t ⟨false, [.vp 23 3]⟩) (zfa tabOk rfl rfl rfl (e rfl rfl) rfl rfl) rfl rfl ?_
              refine sy (.t ⟨false, [.d (.sl 6 (x1.L.map Record.cells))]⟩) (zlv tabOk rfl (e rfl rfl) rfl rfl rfl) rfl rfl ?_
              refine sy _ (zmv rfl (e rfl rfl)) rfl rfl ?_
              obtain ⟨v7, ev7⟩ : ∃ v : List Record, v = n_spec_WithTtl x1.L (w64 (x1.Until - a1)) := ⟨_, rfl⟩
              replace hr := bv_step ev7 hr
              have hfv7 : fitL Record.Fit v7 := by rw [ev7]; exact (fitx_n_spec_WithTtl x1.L (w64 (x1.Until - a1)) hfx1.L)
              refine sd (.t ⟨false, [.sr 30 1 0 ((v7.map Record.cells).length) ((v7.map Record.cells).length)]⟩) (zcall 30 (.t ⟨false, [.sr 30 1 0 ((v7.map Record.cells).length) ((v7.map Record.cells).length)]⟩) [(30, .row 6 (v7.map Record.cells) true 1 0)] rfl (by rw [ev7]; exact (tr_n_spec_WithTtl x1.L (w64 (x1.Until - a1)) hfx1.L) : Tr Tryz.prog 59 _ [⟨false, [.sl 6 (v7.map Record.cells)]⟩]) (ar (e rfl rfl) (.d .nil) (ar (e rfl rfl) (.d .nil) .nil)) rfl rfl rfl) rfl rfl rfl rfl ?_
              refine sy (.t ⟨false, [.vp 25 3]⟩) (zfa tabOk rfl rfl rfl (e rfl rfl) rfl rfl) rfl rfl ?_
              refine sw 25 (.var [.d (dS (v2.Q.Name)), .d (dI (v2.Q.Typ)), .d (dI (v2.Kind)), .sr 30 1 0 ((v7.map Record.cells).length) ((v7.map Record.cells).length), .d (dI (v2.Rank)), .d (dI (v2.Until))]) (zst tabOk rfl (e rfl rfl) rfl (e rfl rfl) rfl rfl rfl) rfl rfl ?_
              refine s_end ?_
              refine v_seq ?_
              refine v_reg ?_
              refine sy (.t ⟨true, [.d (dS (v2.Q.Name)), .d (dI (v2.Q.Typ)), .d (dI (v2.Kind)), .sr 30 1 0 ((v7.map Record.cells).length) ((v7.map Record.cells).length), .d (dI (v2.Rank)), .d (dI (v2.Until))]⟩) (zlv tabOk rfl (e rfl rfl) rfl rfl rfl) rfl rfl ?_
              refine sw 2 (.var [.d (dS (v2.Q.Name)), .d (dI (v2.Q.Typ)), .d (dI (v2.Kind)), .sr 30 1 0 ((v7.map Record.cells).length) ((v7.map Record.cells).length), .d (dI (v2.Rank)), .d (dI (v2.Until))]) (zst tabOk rfl (e rfl rfl) rfl (e rfl rfl) rfl rfl rfl) rfl rfl ?_
              refine sy _ (zas rfl (ec rfl)) rfl rfl ?_
              refine s_end ?_
              refine v_ret ?_
              subst hr
              exact post_ret (rv (.cell (eg rfl rfl) rfl rfl (.inl rfl) rfl) rfl (.lf (.lf (.lf (.sr rfl le_all take_all (.lf (.lf .nil)))))) rfl (rv (.tmp (eg rfl rfl)) rfl (.lf .nil) rfl .nil)) (.ro (.ro (.ro (.ro .nil)))) rfl
            replace hr := bf_f hb10 hr
            have hb10p := dec_f hb10
            refine v_skip ?_
            refine v_seq ?_
            refine v_reg ?_
            refine sy (.t ⟨false, [.vp 23 3]⟩) (zfa tabOk rfl rfl rfl (e rfl rfl) rfl rfl) rfl rfl ?_
            refine sy (.t ⟨false, [.d (.sl 6 (x1.L.map Record.cells))]⟩) (zlv tabOk rfl (e rfl rfl) rfl rfl rfl) rfl rfl ?_
            refine sy _ (zmv rfl (e rfl rfl)) rfl rfl ?_
            obtain ⟨v8, ev8⟩ : ∃ v : List Record, v = n_spec_WithTtl x1.L 100000 := ⟨_, rfl⟩
            replace hr := bv_step ev8 hr
            have hfv8 : fitL Record.Fit v8 := by rw [ev8]; exact (fitx_n_spec_WithTtl x1.L 100000 hfx1.L)
            refine sd (.t ⟨false, [.sr 31 1 0 ((v8.map Record.cells).length) ((v8.map Record.cells).length)]⟩) (zcall 31 (.t ⟨false, [.sr 31 1 0 ((v8.map Record.cells).length) ((v8.map Record.cells).length)]⟩) [(31, .row 6 (v8.map Record.cells) true 1 0)] rfl (by rw [ev8]; exact (tr_n_spec_WithTtl x1.L 100000 hfx1.L) : Tr Tryz.prog 59 _ [⟨false, [.sl 6 (v8.map Record.cells)]⟩]) (ar (e rfl rfl) (.d .nil) (ar (e rfl rfl) (.d .nil) .nil)) rfl rfl rfl) rfl rfl rfl rfl ?_
            refine sy (.t ⟨false, [.vp 25 3]⟩) (zfa tabOk rfl rfl rfl (e rfl rfl) rfl rfl) rfl rfl ?_
            refine sw 25 (.var [.d (dS (v2.Q.Name)), .d (dI (v2.Q.Typ)), .d (dI (v2.Kind)), .sr 31 1 0 ((v8.map Record.cells).length) ((v8.map Record.cells).length), .d (dI (v2.Rank)), .d (dI (v2.Until))]) (zst tabOk rfl (e rfl rfl) rfl (e rfl rfl) rfl rfl rfl) rfl rfl ?_
            refine s_end ?_
            refine v_seq ?_
            refine v_reg ?_
            refine sy (.t ⟨true, [.d (dS (v2.Q.Name)), .d (dI (v2.Q.Typ)), .d (dI (v2.Kind)), .sr 31 1 0 ((v8.map Record.cells).length) ((v8.map Record.cells).length), .d (dI (v2.Rank)), .d (dI (v2.Until))]⟩) (zlv tabOk rfl (e rfl rfl) rfl rfl rfl) rfl rfl ?_
            refine sw 2 (.var [.d (dS (v2.Q.Name)), .d (dI (v2.Q.Typ)), .d (dI (v2.Kind)), .sr 31 1 0 ((v8.map Record.cells).length) ((v8.map Record.cells).length), .d (dI (v2.Rank)), .d (dI (v2.Until))]) (zst tabOk rfl (e rfl rfl) rfl (e rfl rfl) rfl rfl rfl) rfl rfl ?_
            refine sy _ (zas rfl (ec rfl)) rfl rfl ?_
            refine s_end ?_
            refine v_ret ?_
            subst hr
            exact post_ret (rv (.cell (eg rfl rfl) rfl rfl (.inl rfl) rfl) rfl (.lf (.lf (.lf (.sr rfl le_all take_all (.lf (.lf .nil)))))) rfl (rv (.tmp (eg rfl rfl)) rfl (.lf .nil) rfl .nil)) (.ro (.ro (.ro (.ro .nil)))) rfl
          replace hr := bf_f hg9 hr
          have hg9p := dec_f hg9
          refine gs rfl rfl rfl (eg rfl rfl) hg9 rfl ?_
          refine gs rfl rfl rfl (eg rfl rfl) hg9 rfl ?_
          refine gs rfl rfl rfl (eg rfl rfl) hg9 rfl ?_
          refine gs rfl rfl rfl (eg rfl rfl) hg9 rfl ?_
          refine gs rfl rfl rfl (eg rfl rfl) hg9 rfl ?_
          refine gr rfl rfl rfl (eg rfl rfl) rfl ?_
          refine sy (.t ⟨false, [.d (dB (false))]⟩) (zpf rfl (e rfl rfl) hg9 (ec rfl)) rfl rfl ?_
          refine sy (.t ⟨false, [.d (dB (false))]⟩) (zpf rfl (e rfl rfl) rfl (e rfl rfl)) rfl rfl ?_
          refine s_end ?_
          refine v_cF (e rfl rfl) rfl ?_
          refine v_skip ?_
          refine v_seq ?_
          refine v_reg ?_
          refine sy (.t ⟨false, [.vp 23 3]⟩) (zfa tabOk rfl rfl rfl (e rfl rfl) rfl rfl) rfl rfl ?_
          refine sy (.t ⟨false, [.d (.sl 6 (x1.L.map Record.cells))]⟩) (zlv tabOk rfl (e rfl rfl) rfl rfl rfl) rfl rfl ?_
          refine sy _ (zmv rfl (e rfl rfl)) rfl rfl ?_
          obtain ⟨v9, ev9⟩ : ∃ v : List Record, v = n_spec_WithTtl x1.L 100000 := ⟨_, rfl⟩
          replace hr := bv_step ev9 hr
          have hfv9 : fitL Record.Fit v9 := by rw [ev9]; exact (fitx_n_spec_WithTtl x1.L 100000 hfx1.L)
          refine sd (.t ⟨false, [.sr 32 1 0 ((v9.map Record.cells).length) ((v9.map Record.cells).length)]⟩) (zcall 32 (.t ⟨false, [.sr 32 1 0 ((v9.map Record.cells).length) ((v9.map Record.cells).length)]⟩) [(32, .row 6 (v9.map Record.cells) true 1 0)] rfl (by rw [ev9]; exact (tr_n_spec_WithTtl x1.L 100000 hfx1.L) : Tr Tryz.prog 59 _ [⟨false, [.sl 6 (v9.map Record.cells)]⟩]) (ar (e rfl rfl) (.d .nil) (ar (e rfl rfl) (.d .nil) .nil)) rfl rfl rfl) rfl rfl rfl rfl ?_
          refine sy (.t ⟨false, [.vp 25 3]⟩) (zfa tabOk rfl rfl rfl (e rfl rfl) rfl rfl) rfl rfl ?_
          refine sw 25 (.var [.d (dS (v2.Q.Name)), .d (dI (v2.Q.Typ)), .d (dI (v2.Kind)), .sr 32 1 0 ((v9.map Record.cells).length) ((v9.map Record.cells).length), .d (dI (v2.Rank)), .d (dI (v2.Until))]) (zst tabOk rfl (e rfl rfl) rfl (e rfl rfl) rfl rfl rfl) rfl rfl ?_
          refine s_end ?_
          refine v_seq ?_
          refine v_reg ?_
          refine sy (.t ⟨true, [.d (dS (v2.Q.Name)), .d (dI (v2.Q.Typ)), .d (dI (v2.Kind)), .sr 32 1 0 ((v9.map Record.cells).length) ((v9.map Record.cells).length), .d (dI (v2.Rank)), .d (dI (v2.Until))]⟩) (zlv tabOk rfl (e rfl rfl) rfl rfl rfl) rfl rfl ?_
          refine sw 2 (.var [.d (dS (v2.Q.Name)), .d (dI (v2.Q.Typ)), .d (dI (v2.Kind)), .sr 32 1 0 ((v9.map Record.cells).length) ((v9.map Record.cells).length), .d (dI (v2.Rank)), .d (dI (v2.Until))]) (zst tabOk rfl (e rfl rfl) rfl (e rfl rfl) rfl rfl rfl) rfl rfl ?_
          refine sy _ (zas rfl (ec rfl)) rfl rfl ?_
          refine s_end ?_
          refine v_ret ?_
          subst hr
          exact post_ret (rv (.cell (eg rfl rfl) rfl rfl (.inl rfl) rfl) rfl (.lf (.lf (.lf (.sr rfl le_all take_all (.lf (.lf .nil)))))) rfl (rv (.tmp (eg rfl rfl)) rfl (.lf .nil) rfl .nil)) (.ro (.ro (.ro (.ro .nil)))) rfl
        replace hr := bf_f hb4 hr
        have hb4p := dec_f hb4
        refine v_skip ?_
        refine blk_norm ?_
        refine v_reg ?_
        refine sy _ (zmv rfl (e rfl rfl)) rfl rfl ?_
        refine sy (.t ⟨false, [.d (dI (i + 1 : Int))]⟩) (y_bin rfl (e rfl rfl) (ec rfl) (fun _ => b_addn (by omega) (by omega)) rfl) rfl rfl ?_
        refine sy _ (zas rfl (e rfl rfl)) rfl rfl ?_
        refine s_end ?_
        exact lp_next (n, i + 1) ⟨hr, by (try simp only [List.length_append, List.length_cons, List.length_nil, List.length_set]); first | done | omega, by (try simp only [List.length_append, List.length_cons, List.length_nil, List.length_set]); first | done | omega⟩ (Nat.lt_succ_self _) ⟨rfl, rfl, rfl, rfl, rfl, rfl, trivial⟩ ⟨rfl, rfl, rfl, trivial⟩ rfl
      replace hr := bf_f hg3 hr
      refine gs rfl rfl rfl (eg rfl rfl) hg3 rfl ?_
      refine gs rfl rfl rfl (eg rfl rfl) hg3 rfl ?_
      refine gs rfl rfl rfl (eg rfl rfl) hg3 rfl ?_
      refine gs rfl rfl rfl (eg rfl rfl) hg3 rfl ?_
      refine sy (.t ⟨false, [.d (dB (false))]⟩) (zpf rfl (e rfl rfl) hg3 (ec rfl)) rfl rfl ?_
      refine s_end ?_
      refine v_cF (e rfl rfl) rfl ?_
      refine v_skip ?_
      refine blk_norm ?_
      refine v_reg ?_
      refine sy _ (zmv rfl (e rfl rfl)) rfl rfl ?_
      refine sy (.t ⟨false, [.d (dI (i + 1 : Int))]⟩) (y_bin rfl (e rfl rfl) (ec rfl) (fun _ => b_addn (by omega) (by omega)) rfl) rfl rfl ?_
      refine sy _ (zas rfl (e rfl rfl)) rfl rfl ?_
      refine s_end ?_
      exact lp_next (n, i + 1) ⟨hr, by (try simp only [List.length_append, List.length_cons, List.length_nil, List.length_set]); first | done | omega, by (try simp only [List.length_append, List.length_cons, List.length_nil, List.length_set]); first | done | omega⟩ (Nat.lt_succ_self _) ⟨rfl, rfl, rfl, rfl, rfl, rfl, trivial⟩ ⟨rfl, rfl, rfl, trivial⟩ rfl
    replace hr := bf_f hg2 hr
    have hg2p := dec_f hg2
    refine gs rfl rfl rfl (eg rfl rfl) hg2 rfl ?_
    refine gs rfl rfl rfl (eg rfl rfl) hg2 rfl ?_
    refine gs rfl rfl rfl (eg rfl rfl) hg2 rfl ?_
    refine sy (.t ⟨false, [.d (dB (false))]⟩) (zpf rfl (e rfl rfl) hg2 (ec rfl)) rfl rfl ?_
    refine sy _ (zmv rfl (e rfl rfl)) rfl rfl ?_
    refine gs rfl rfl rfl (eg rfl rfl) rfl rfl ?_
    refine gs rfl rfl rfl (eg rfl rfl) rfl rfl ?_
    refine gs rfl rfl rfl (eg rfl rfl) rfl rfl ?_
    refine gs rfl rfl rfl (eg rfl rfl) rfl rfl ?_
    refine sy (.t ⟨false, [.d (dB (false))]⟩) (zpf rfl (e rfl rfl) rfl (ec rfl)) rfl rfl ?_
    refine s_end ?_
    refine v_cF (e rfl rfl) rfl ?_
    refine v_skip ?_
    refine blk_norm ?_
    refine v_reg ?_
    refine sy _ (zmv rfl (e rfl rfl)) rfl rfl ?_
    refine sy (.t ⟨false, [.d (dI (i + 1 : Int))]⟩) (y_bin rfl (e rfl rfl) (ec rfl) (fun _ => b_addn (by omega) (by omega)) rfl) rfl rfl ?_
    refine sy _ (zas rfl (e rfl rfl)) rfl rfl ?_
    refine s_end ?_
    exact lp_next (n, i + 1) ⟨hr, by (try simp only [List.length_append, List.length_cons, List.length_nil, List.length_set]); first | done | omega, by (try simp only [List.length_append, List.length_cons, List.length_nil, List.length_set]); first | done | omega⟩ (Nat.lt_succ_self _) ⟨rfl, rfl, rfl, rfl, rfl, rfl, trivial⟩ ⟨rfl, rfl, rfl, trivial⟩ rfl
  replace hr := bf_f hb1 hr
  have hb1p := dec_f hb1
  refine v_exit ?_
  refine then_exit ?_
  refine loop_exit ?_
  refine blk_hit ?_
  refine v_seq ?_
  refine v_reg ?_
  refine sy (.t ⟨true, [.d (dS (⟨#[]⟩)), .d (dI (0)), .d (dI (0)), .nl 6, .d (dI (0)), .d (dI (0))]⟩) (zbd tabOk rfl rfl .nil) rfl rfl ?_
  refine sw 2 (.var [.d (dS (⟨#[]⟩)), .d (dI (0)), .d (dI (0)), .nl 6, .d (dI (0)), .d (dI (0))]) (zst tabOk rfl (e rfl rfl) rfl (e rfl rfl) rfl rfl rfl) rfl rfl ?_
  refine sy _ (zas rfl (ec rfl)) rfl rfl ?_
  refine s_end ?_
  refine v_ret ?_
  subst hr
  exact post_ret (rv (.cell (eg rfl rfl) rfl rfl (.inl rfl) rfl) rfl (.lf (.lf (.lf (.nl (.lf (.lf .nil)))))) rfl (rv (.tmp (eg rfl rfl)) rfl (.lf .nil) rfl .nil)) (.ro (.ro (.ro (.ro .nil)))) rfl
set_option maxHeartbeats 4000000 in
theorem fitx_n_spec_Look (a0 : Cache) (a1 : Int) (a2 : Quest) (a3 : Int) (h0 : Cache.Fit a0) (h2 : Quest.Fit a2) : Entry.Fit (n_spec_Look a0 a1 a2 a3).1 := by
  obtain ⟨r, hr⟩ : ∃ r, n_spec_Look a0 a1 a2 a3 = r := ⟨_, rfl⟩
  rw [hr]
  rw [n_spec_Look] at hr
  refine fx_lp (fun (q : Nat × Nat) => n_spec_LookL1 a0 a1 a2 a3 q.1 q.2 = r ∧ (q.2 ≤ (a0.L).length) ∧ (q.2 + q.1 = (a0.L).length + 1)) (fun q => q.1) ((a0.L).length + 1, (0 : Nat)) ⟨hr, by (try dsimp only); (try simp only [List.length_nil, List.length_cons, List.length_replicate]); first | done | omega | exact Nat.zero_le _, by (try dsimp only); (try simp only [List.length_nil, List.length_cons, List.length_replicate]); first | done | omega | exact Nat.zero_le _⟩ (fun q hq hn1 => ?_)
  obtain ⟨n, i⟩ := q
  obtain ⟨hr, hi1x0, hi1x1⟩ := hq
  dsimp only at hr hi1x0 hi1x1
  rcases n with _ | n
  · exfalso; omega
  rw [n_spec_LookL1] at hr
  have hB1 : (a0.L).length ≤ _ := (h0.L).1
  rcases Bool.eq_false_or_eq_true (decide (((i : Int)) < (((a0.L).length : Int)))) with hb1 | hb1
  · replace hr := bf_t hb1 hr
    have hb1p := dec_t hb1
    obtain ⟨x1, hx1⟩ : ∃ x, (a0.L)[i]? = some x := some_of_lt (by omega)
    replace hr := at_step hx1 hr
    have hfx1 := h0.L.2 _ (List.mem_of_getElem? hx1)
    rcases Bool.eq_false_or_eq_true (decide (x1.Q = a2)) with hg2 | hg2
    · replace hr := bf_t hg2 hr
      have hg2p := dec_t hg2
      rcases Bool.eq_false_or_eq_true (n_spec_l15Lives x1 a1) with hg3 | hg3
      · replace hr := bf_t hg3 hr
        rcases Bool.eq_false_or_eq_true (decide ((a3) ≤ (x1.Rank))) with hb4 | hb4
        · replace hr := bf_t hb4 hr
          have hb4p := dec_t hb4
          obtain ⟨v2, ev2⟩ : ∃ v : Entry, v = n_spec_l15Entry x1 := ⟨_, rfl⟩
          replace hr := bv_step ev2 hr
          have hfv2 : Entry.Fit v2 := by rw [ev2]; exact (fitx_n_spec_l15Entry x1 hfx1)
          rcases Bool.eq_false_or_eq_true (decide ((0) < (a1))) with hg5 | hg5
          · replace hr := bf_t hg5 hr
            have hg5p := dec_t hg5
            rcases Bool.eq_false_or_eq_true (decide ((w64 (x1.Until - a1)) < (100000))) with hg6 | hg6
            · replace hr := bf_t hg6 hr
              have hg6p := dec_t hg6
              obtain ⟨v3, ev3⟩ : ∃ v : List Record, v = n_spec_WithTtl x1.L (w64 (x1.Until - a1)) := ⟨_, rfl⟩
              replace hr := bv_step ev3 hr
              have hfv3 : fitL Record.Fit v3 := by rw [ev3]; exact (fitx_n_spec_WithTtl x1.L (w64 (x1.Until - a1)) hfx1.L)
              subst hr
              exact ⟨hfv2.Q, hfv3⟩
            replace hr := bf_f hg6 hr
            have hg6p := dec_f hg6
            rcases Bool.eq_false_or_eq_true (decide ((a1) ≤ (0))) with hg7 | hg7
            · replace hr := bf_t hg7 hr
              have hg7p := dec_t hg7
              rcases Bool.eq_false_or_eq_true (decide ((x1.Until) < (w64 (100000 + a1)))) with hb8 | hb8
              · replace hr := bf_t hb8 hr
                have hb8p := dec_t hb8
                obtain ⟨v4, ev4⟩ : ∃ v : List Record, v = n_spec_WithTtl x1.L (w64 (x1.Until - a1)) := ⟨_, rfl⟩
                replace hr := bv_step ev4 hr
                have hfv4 : fitL Record.Fit v4 := by rw [ev4]; exact (fitx_n_spec_WithTtl x1.L (w64 (x1.Until - a1)) hfx1.L)
                subst hr
                exact ⟨hfv2.Q, hfv4⟩
              replace hr := bf_f hb8 hr
              have hb8p := dec_f hb8
              obtain ⟨v5, ev5⟩ : ∃ v : List Record, v = n_spec_WithTtl x1.L 100000 := ⟨_, rfl⟩
              replace hr := bv_step ev5 hr
              have hfv5 : fitL Record.Fit v5 := by rw [ev5]; exact (fitx_n_spec_WithTtl x1.L 100000 hfx1.L)
              subst hr
              exact ⟨hfv2.Q, hfv5⟩
            replace hr := bf_f hg7 hr
            have hg7p := dec_f hg7
            obtain ⟨v6, ev6⟩ : ∃ v : List Record, v = n_spec_WithTtl x1.L 100000 := ⟨_, rfl⟩
            replace hr := bv_step ev6 hr
            have hfv6 : fitL Record.Fit v6 := by rw [ev6]; exact (fitx_n_spec_WithTtl x1.L 100000 hfx1.L)
            subst hr
            exact ⟨hfv2.Q, hfv6⟩
          replace hr := bf_f hg5 hr
          have hg5p := dec_f hg5
          rcases Bool.eq_false_or_eq_true (decide ((a1) ≤ (0))) with hg9 | hg9
          · replace hr := bf_t hg9 hr
            have hg9p := dec_t hg9
            rcases Bool.eq_false_or_eq_true (decide ((x1.Until) < (w64 (100000 + a1)))) with hb10 | hb10
            · replace hr := bf_t hb10 hr
              have hb10p := dec_t hb10
              obtain ⟨v7, ev7⟩ : ∃ v : List Record, v = n_spec_WithTtl x1.L (w64 (x1.Until - a1)) := ⟨_, rfl⟩
              replace hr := bv_step ev7 hr
              have hfv7 : fitL Record.Fit v7 := by rw [ev7]; exact (fitx_n_spec_WithTtl x1.L (w64 (x1.Until - a1)) hfx1.L)
              subst hr
              exact ⟨hfv2.Q, hfv7⟩
            replace hr := bf_f hb10 hr
            have hb10p := dec_f hb10
            obtain ⟨v8, ev8⟩ : ∃ v : List Record, v = n_spec_WithTtl x1.L 100000 := ⟨_, rfl⟩
            replace hr := bv_step ev8 hr
            have hfv8 : fitL Record.Fit v8 := by rw [ev8]; exact (fitx_n_spec_WithTtl x1.L 100000 hfx1.L)
            subst hr
            exact ⟨hfv2.Q, hfv8⟩
          replace hr := bf_f hg9 hr
          have hg9p := dec_f hg9
          obtain ⟨v9, ev9⟩ : ∃ v : List Record, v = n_spec_WithTtl x1.L 100000 := ⟨_, rfl⟩
          replace hr := bv_step ev9 hr
          have hfv9 : fitL Record.Fit v9 := by rw [ev9]; exact (fitx_n_spec_WithTtl x1.L 100000 hfx1.L)
          subst hr
          exact ⟨hfv2.Q, hfv9⟩
        replace hr := bf_f hb4 hr
        have hb4p := dec_f hb4
        exact hn1 (n, i + 1) (Nat.lt_succ_self _) ⟨hr, by (try simp only [List.length_append, List.length_cons, List.length_nil, List.length_set]); first | done | omega, by (try simp only [List.length_append, List.length_cons, List.length_nil, List.length_set]); first | done | omega⟩
      replace hr := bf_f hg3 hr
      exact hn1 (n, i + 1) (Nat.lt_succ_self _) ⟨hr, by (try simp only [List.length_append, List.length_cons, List.length_nil, List.length_set]); first | done | omega, by (try simp only [List.length_append, List.length_cons, List.length_nil, List.length_set]); first | done | omega⟩
    replace hr := bf_f hg2 hr
    have hg2p := dec_f hg2
    exact hn1 (n, i + 1) (Nat.lt_succ_self _) ⟨hr, by (try simp only [List.length_append, List.length_cons, List.length_nil, List.length_set]); first | done | omega, by (try simp only [List.length_append, List.length_cons, List.length_nil, List.length_set]); first | done | omega⟩
  replace hr := bf_f hb1 hr
  have hb1p := dec_f hb1
  subst hr
  exact ⟨⟨(fitS_lit (⟨#[]⟩ : ByteArray) (Nat.le_of_ble_eq_true rfl))⟩, fitL_nil⟩
def n_impl_LookL1 (a0 : Cache) (a1 : Int) (a2 : Quest) (a3 : Int) : Nat → Nat → (Entry × Bool)
  | 0, _ => default
  | n + 1, z16 => cond (decide (((z16 : Int)) < (((a0.L).length : Int)))) (atL (a0.L) (z16) (fun x1 => cond (decide (x1.Q ≠ a2)) (n_impl_LookL1 a0 a1 a2 a3 n (z16 + 1)) (cond (decide ((x1.Rank) < (a3))) (n_impl_LookL1 a0 a1 a2 a3 n (z16 + 1)) (cond (decide ((x1.Until) ≤ (a1))) (n_impl_LookL1 a0 a1 a2 a3 n (z16 + 1)) (cond (decide ((w64 (x1.Until - a1)) < (0))) (bindv (n_impl_WithTtl x1.L 100000) (fun v2 => ((⟨x1.Q, x1.Kind, v2, x1.Rank, x1.Until⟩ : Entry), true))) (cond (decide ((100000) < (w64 (x1.Until - a1)))) (bindv (n_impl_WithTtl x1.L 100000) (fun v3 => ((⟨x1.Q, x1.Kind, v3, x1.Rank, x1.Until⟩ : Entry), true))) (bindv (n_impl_WithTtl x1.L (w64 (x1.Until - a1))) (fun v4 => ((⟨x1.Q, x1.Kind, v4, x1.Rank, x1.Until⟩ : Entry), true))))))))) (((⟨⟨⟨#[]⟩, 0⟩, 0, [], 0, 0⟩ : Entry), false))
def n_impl_Look (a0 : Cache) (a1 : Int) (a2 : Quest) (a3 : Int) : Entry × Bool := n_impl_LookL1 a0 a1 a2 a3 ((a0.L).length + 1) 0
set_option maxHeartbeats 4000000 in
set_option maxRecDepth 20000 in
theorem tr_n_impl_Look (a0 : Cache) (a1 : Int) (a2 : Quest) (a3 : Int) (h0 : Cache.Fit a0) (h2 : Quest.Fit a2) : Tr Tryz.prog 44 [.ro ⟨true, [dI (a0.Cap), .sl 6 (a0.L.map Entry.cells)]⟩, .ro ⟨false, [dI (a1)]⟩, .ro ⟨true, [dS (a2.Name), dI (a2.Typ)]⟩, .ro ⟨false, [dI (a3)]⟩] [⟨true, [dS ((((n_impl_Look a0 a1 a2 a3).1).Q).Name), dI ((((n_impl_Look a0 a1 a2 a3).1).Q).Typ), dI (((n_impl_Look a0 a1 a2 a3).1).Kind), .sl 6 ((((n_impl_Look a0 a1 a2 a3).1).L).map Record.cells), dI (((n_impl_Look a0 a1 a2 a3).1).Rank), dI (((n_impl_Look a0 a1 a2 a3).1).Until)]⟩, ⟨false, [dB ((n_impl_Look a0 a1 a2 a3).2)]⟩] := by
  obtain ⟨r, hr⟩ : ∃ r, n_impl_Look a0 a1 a2 a3 = r := ⟨_, rfl⟩
  rw [hr]
  rw [n_impl_Look] at hr
  refine tr_go tabOk Tryz.func44 rfl rfl rfl rfl rfl (ov := [(0, .t ⟨true, [.d (dI (a0.Cap)), .d (.sl 6 (a0.L.map Entry.cells))]⟩), (1, .t ⟨false, [.d (dI (a1))]⟩), (2, .t ⟨true, [.d (dS (a2.Name)), .d (dI (a2.Typ))]⟩), (3, .t ⟨false, [.d (dI (a3))]⟩)]) (hv := []) rfl rfl ?_
  refine v_seq ?_
  refine v_reg ?_
  refine sr 0 (.t ⟨false, [.vp 0 0]⟩) (.var [.d (dI (a0.Cap)), .d (.sl 6 (a0.L.map Entry.cells))]) (zbx rfl (e rfl rfl) rfl rfl rfl) rfl rfl ?_
  refine sr 1 (.t ⟨false, [.vp 1 0]⟩) (.var [.d (dS (a2.Name)), .d (dI (a2.Typ))]) (zbx rfl (e rfl rfl) rfl rfl rfl) rfl rfl ?_
  refine sr 2 (.t ⟨false, [.vp 2 0]⟩) (.var [.d (dS (⟨#[]⟩)), .d (dI (0)), .d (dI (0)), .nl 6, .d (dI (0)), .d (dI (0))]) (zal tabOk rfl rfl rfl rfl) rfl rfl ?_
  refine sy _ (zas rfl (ec rfl)) rfl rfl ?_
  refine s_end ?_
  refine v_seq ?_
  refine v_seq ?_
  refine v_reg ?_
  refine sy (.t ⟨false, [.vp 0 1]⟩) (zfa tabOk rfl rfl rfl (e rfl rfl) rfl rfl) rfl rfl ?_
  refine sy (.t ⟨false, [.d (.sl 6 (a0.L.map Entry.cells))]⟩) (zlv tabOk rfl (e rfl rfl) rfl rfl rfl) rfl rfl ?_
  have hB1 := (h0.L).1
  refine sy (.t ⟨false, [.d (dI ((a0.L).length : Int))]⟩) (zlm tabOk rfl rfl (e rfl rfl) .d) rfl rfl ?_
  refine sy _ (zmv rfl (ec rfl)) rfl rfl ?_
  refine s_end ?_
  refine v_block ?_
  refine v_lp (fun (q : Nat × Nat) => [(1, .t ⟨false, [.d (dI (a1))]⟩), (3, .t ⟨false, [.d (dI (a3))]⟩), (6, .t ⟨false, [.vp 1 0]⟩), (8, .t ⟨false, [.vp 2 0]⟩), (14, .t ⟨false, [.d (.sl 6 (a0.L.map Entry.cells))]⟩), (15, .t ⟨false, [.d (dI ((a0.L).length : Int))]⟩), (16, .t ⟨false, [.d (dI (q.2 : Int))]⟩)]) (fun q => [(1, .var [.d (dS (a2.Name)), .d (dI (a2.Typ))]), (2, .var [.d (dS (⟨#[]⟩)), .d (dI (0)), .d (dI (0)), .nl 6, .d (dI (0)), .d (dI (0))])]) (fun q => n_impl_LookL1 a0 a1 a2 a3 q.1 q.2 = r ∧ (q.2 ≤ (a0.L).length) ∧ (q.2 + q.1 = (a0.L).length + 1)) (fun q => q.1) ((a0.L).length + 1, (0 : Nat)) ⟨hr, by (try dsimp only); (try simp only [List.length_nil, List.length_cons, List.length_replicate]); first | done | omega | exact Nat.zero_le _, by (try dsimp only); (try simp only [List.length_nil, List.length_cons, List.length_replicate]); first | done | omega | exact Nat.zero_le _⟩ ⟨rfl, rfl, rfl, rfl, rfl, rfl, rfl, trivial⟩ ⟨rfl, rfl, trivial⟩ rfl (fun q hq => ?_)
  obtain ⟨n, z16⟩ := q
  obtain ⟨hr, hi1x0, hi1x1⟩ := hq
  dsimp only at hr hi1x0 hi1x1
  show VWp _ _ _ (mk [(1, .t ⟨false, [.d (dI (a1))]⟩), (3, .t ⟨false, [.d (dI (a3))]⟩), (6, .t ⟨false, [.vp 1 0]⟩), (8, .t ⟨false, [.vp 2 0]⟩), (14, .t ⟨false, [.d (.sl 6 (a0.L.map Entry.cells))]⟩), (15, .t ⟨false, [.d (dI ((a0.L).length : Int))]⟩), (16, .t ⟨false, [.d (dI (z16 : Int))]⟩)] _ [(1, .var [.d (dS (a2.Name)), .d (dI (a2.Typ))]), (2, .var [.d (dS (⟨#[]⟩)), .d (dI (0)), .d (dI (0)), .nl 6, .d (dI (0)), .d (dI (0))])])
  rcases n with _ | n
  · exfalso; omega
  rw [n_impl_LookL1] at hr
  refine v_seq ?_
  refine v_reg ?_
  refine sy (.t ⟨false, [.d (dB (decide (((z16 : Int)) < (((a0.L).length : Int)))))]⟩) (y_bin rfl (e rfl rfl) (e rfl rfl) (fun _ => b_lss) rfl) rfl rfl ?_
  refine s_end ?_
  refine v_seq ?_
  refine v_cond (e rfl rfl) (fun hb1 => ?_) fun hb1 => ?_
  · replace hr := bf_t hb1 hr
    have hb1p := dec_t hb1
    refine v_skip ?_
    refine v_seq ?_
    refine v_block ?_
    refine v_seq ?_
    refine v_reg ?_
    obtain ⟨x1, hx1⟩ : ∃ x, (a0.L)[z16]? = some x := some_of_lt (by omega)
    replace hr := at_step hx1 hr
    have hfx1 := h0.L.2 _ (List.mem_of_getElem? hx1)
    refine sy (.t ⟨false, [.fe 6 (a0.L.map Entry.cells) z16 0]⟩) (zix tabOk rfl rfl rfl (e rfl rfl) (e rfl rfl) (ltm_of_some hx1)) rfl rfl ?_
    refine sy (.t ⟨true, [.d (dS (x1.Q.Name)), .d (dI (x1.Q.Typ)), .d (dI (x1.Kind)), .d (.sl 6 (x1.L.map Record.cells)), .d (dI (x1.Rank)), .d (dI (x1.Until))]⟩) (zle tabOk rfl (e rfl rfl) (getm hx1) rfl rfl) rfl rfl ?_
    refine sr 11 (.t ⟨false, [.vp 11 0]⟩) (.var [.d (dS (⟨#[]⟩)), .d (dI (0)), .d (dI (0)), .nl 6, .d (dI (0)), .d (dI (0))]) (zal tabOk rfl rfl rfl rfl) rfl rfl ?_
    refine sw 11 (.var [.d (dS (x1.Q.Name)), .d (dI (x1.Q.Typ)), .d (dI (x1.Kind)), .d (.sl 6 (x1.L.map Record.cells)), .d (dI (x1.Rank)), .d (dI (x1.Until))]) (zst tabOk rfl (e rfl rfl) rfl (e rfl rfl) rfl rfl rfl) rfl rfl ?_
    refine s_end ?_
    refine v_seq ?_
    refine v_seq ?_
    refine v_reg ?_
    refine sy (.t ⟨false, [.vp 11 0]⟩) (zfa tabOk rfl rfl rfl (e rfl rfl) rfl rfl) rfl rfl ?_
    refine sy (.t ⟨true, [.d (dS (x1.Q.Name)), .d (dI (x1.Q.Typ))]⟩) (zlv tabOk rfl (e rfl rfl) rfl rfl rfl) rfl rfl ?_
    refine sy (.t ⟨true, [.d (dS (a2.Name)), .d (dI (a2.Typ))]⟩) (zlv tabOk rfl (e rfl rfl) rfl rfl rfl) rfl rfl ?_
    refine sy (.t ⟨false, [.d (dB (decide (x1.Q ≠ a2)))]⟩) (zeqn61 (a := x1.Q) (b := a2) rfl (e rfl rfl) (e rfl rfl)) rfl rfl ?_
    refine sy _ (zmv rfl (e rfl rfl)) rfl rfl ?_
    rcases Bool.eq_false_or_eq_true (decide (x1.Q ≠ a2)) with hg2 | hg2
    · replace hr := bf_t hg2 hr
      have hg2p := dec_t hg2
      refine gs rfl rfl rfl (eg rfl rfl) hg2 rfl ?_
      refine gs rfl rfl rfl (eg rfl rfl) hg2 rfl ?_
      refine gs rfl rfl rfl (eg rfl rfl) hg2 rfl ?_
      refine gs rfl rfl rfl (eg rfl rfl) hg2 rfl ?_
      refine sy (.t ⟨false, [.d (dB (true))]⟩) (zpt rfl (e rfl rfl) hg2 (ec rfl)) rfl rfl ?_
      refine sy _ (zmv rfl (e rfl rfl)) rfl rfl ?_
      refine gs rfl rfl rfl (eg rfl rfl) rfl rfl ?_
      refine gs rfl rfl rfl (eg rfl rfl) rfl rfl ?_
      refine gs rfl rfl rfl (eg rfl rfl) rfl rfl ?_
      refine gs rfl rfl rfl (eg rfl rfl) rfl rfl ?_
      refine sy (.t ⟨false, [.d (dB (true))]⟩) (zpt rfl (e rfl rfl) rfl (ec rfl)) rfl rfl ?_
      refine s_end ?_
      refine v_cT (e rfl rfl) rfl ?_
      refine v_exit ?_
      refine then_exit ?_
      refine blk_hit ?_
      refine v_reg ?_
      refine sy (.t ⟨false, [.d (dI (z16 + 1 : Int))]⟩) (y_bin rfl (e rfl rfl) (ec rfl) (fun _ => b_addn (by omega) (by omega)) rfl) rfl rfl ?_
      refine sy _ (zmv rfl (e rfl rfl)) rfl rfl ?_
      refine s_end ?_
      exact lp_next (n, z16 + 1) ⟨hr, by (try simp only [List.length_append, List.length_cons, List.length_nil, List.length_set]); first | done | omega, by (try simp only [List.length_append, List.length_cons, List.length_nil, List.length_set]); first | done | omega⟩ (Nat.lt_succ_self _) ⟨rfl, rfl, rfl, rfl, rfl, rfl, rfl, trivial⟩ ⟨rfl, rfl, trivial⟩ rfl
    replace hr := bf_f hg2 hr
    have hg2p := dec_f hg2
    refine gr rfl rfl rfl (eg rfl rfl) hg2 ?_
    refine sy (.t ⟨false, [.vp 11 4]⟩) (zfa tabOk rfl rfl rfl (e rfl rfl) rfl rfl) rfl rfl ?_
    refine gr rfl rfl rfl (eg rfl rfl) hg2 ?_
    refine sy (.t ⟨false, [.d (dI (x1.Rank))]⟩) (zlv tabOk rfl (e rfl rfl) rfl rfl rfl) rfl rfl ?_
    refine gr rfl rfl rfl (eg rfl rfl) hg2 ?_
    refine sy _ (zmv rfl (e rfl rfl)) rfl rfl ?_
    refine gr rfl rfl rfl (eg rfl rfl) hg2 ?_
    refine sy (.t ⟨false, [.d (dB (decide ((x1.Rank) < (a3))))]⟩) (y_bin rfl (e rfl rfl) (e rfl rfl) (fun _ => b_lss) rfl) rfl rfl ?_
    refine sy (.t ⟨false, [.d (dB (decide ((x1.Rank) < (a3))))]⟩) (zpf rfl (e rfl rfl) hg2 (e rfl rfl)) rfl rfl ?_
    refine sy _ (zmv rfl (e rfl rfl)) rfl rfl ?_
    rcases Bool.eq_false_or_eq_true (decide ((x1.Rank) < (a3))) with hg3 | hg3
    · replace hr := bf_t hg3 hr
      have hg3p := dec_t hg3
      refine gs rfl rfl rfl (eg rfl rfl) hg3 rfl ?_
      refine gs rfl rfl rfl (eg rfl rfl) hg3 rfl ?_
      refine gs rfl rfl rfl (eg rfl rfl) hg3 rfl ?_
      refine gs rfl rfl rfl (eg rfl rfl) hg3 rfl ?_
      refine sy (.t ⟨false, [.d (dB (true))]⟩) (zpt rfl (e rfl rfl) hg3 (ec rfl)) rfl rfl ?_
      refine s_end ?_
      refine v_cT (e rfl rfl) rfl ?_
      refine v_exit ?_
      refine then_exit ?_
      refine blk_hit ?_
      refine v_reg ?_
      refine sy (.t ⟨false, [.d (dI (z16 + 1 : Int))]⟩) (y_bin rfl (e rfl rfl) (ec rfl) (fun _ => b_addn (by omega) (by omega)) rfl) rfl rfl ?_
      refine sy _ (zmv rfl (e rfl rfl)) rfl rfl ?_
      refine s_end ?_
      exact lp_next (n, z16 + 1) ⟨hr, by (try simp only [List.length_append, List.length_cons, List.length_nil, List.length_set]); first | done | omega, by (try simp only [List.length_append, List.length_cons, List.length_nil, List.length_set]); first | done | omega⟩ (Nat.lt_succ_self _) ⟨rfl, rfl, rfl, rfl, rfl, rfl, rfl, trivial⟩ ⟨rfl, rfl, trivial⟩ rfl
    replace hr := bf_f hg3 hr
    have hg3p := dec_f hg3
    refine gr rfl rfl rfl (eg rfl rfl) hg3 ?_
    refine sy (.t ⟨false, [.vp 11 5]⟩) (zfa tabOk rfl rfl rfl (e rfl rfl) rfl rfl) rfl rfl ?_
    refine gr rfl rfl rfl (eg rfl rfl) hg3 ?_
    refine sy (.t ⟨false, [.d (dI (x1.Until))]⟩) (zlv tabOk rfl (e rfl rfl) rfl rfl rfl) rfl rfl ?_
    refine gr rfl rfl rfl (eg rfl rfl) hg3 ?_
    refine sy _ (zmv rfl (e rfl rfl)) rfl rfl ?_
    refine gr rfl rfl rfl (eg rfl rfl) hg3 ?_
    refine sy (.t ⟨false, [.d (dB (decide ((x1.Until) ≤ (a1))))]⟩) (y_bin rfl (e rfl rfl) (e rfl rfl) (fun _ => b_leq) rfl) rfl rfl ?_
    refine sy (.t ⟨false, [.d (dB (decide ((x1.Until) ≤ (a1))))]⟩) (zpf rfl (e rfl rfl) hg3 (e rfl rfl)) rfl rfl ?_
    refine s_end ?_
    refine v_cond (e rfl rfl) (fun hb4 => ?_) fun hb4 => ?_
    · replace hr := bf_t hb4 hr
      have hb4p := dec_t hb4
      refine v_exit ?_
      refine then_exit ?_
      refine blk_hit ?_
      refine v_reg ?_
      refine sy (.t ⟨false, [.d (dI (z16 + 1 : Int))]⟩) (y_bin rfl (e rfl rfl) (ec rfl) (fun _ => b_addn (by omega) (by omega)) rfl) rfl rfl ?_
      refine sy _ (zmv rfl (e rfl rfl)) rfl rfl ?_
      refine s_end ?_
      exact lp_next (n, z16 + 1) ⟨hr, by (try simp only [List.length_append, List.length_cons, List.length_nil, List.length_set]); first | done | omega, by (try simp only [List.length_append, List.length_cons, List.length_nil, List.length_set]); first | done | omega⟩ (Nat.lt_succ_self _) ⟨rfl, rfl, rfl, rfl, rfl, rfl, rfl, trivial⟩ ⟨rfl, rfl, trivial⟩ rfl
    replace hr := bf_f hb4 hr
    have hb4p := dec_f hb4
    refine v_skip ?_
    refine v_seq ?_
    refine v_reg ?_
    refine sy (.t ⟨false, [.vp 11 5]⟩) (zfa tabOk rfl rfl rfl (e rfl rfl) rfl rfl) rfl rfl ?_
    refine sy (.t ⟨false, [.d (dI (x1.Until))]⟩) (zlv tabOk rfl (e rfl rfl) rfl rfl rfl) rfl rfl ?_
    refine sy _ (zmv rfl (e rfl rfl)) rfl rfl ?_
    refine sy (.t ⟨false, [.d (dI (w64 (x1.Until - a1)))]⟩) (y_bin rfl (e rfl rfl) (e rfl rfl) (fun _ => b_ws) rfl) rfl rfl ?_
    refine sy _ (zas rfl (e rfl rfl)) rfl rfl ?_
    refine s_end ?_
    refine v_seq ?_
    refine v_seq ?_
    refine v_reg ?_
    refine sy _ (zmv rfl (e rfl rfl)) rfl rfl ?_
    refine sy (.t ⟨false, [.d (dB (decide ((w64 (x1.Until - a1)) < (0))))]⟩) (y_bin rfl (e rfl rfl) (ec rfl) (fun _ => b_lss) rfl) rfl rfl ?_
    refine sy _ (zmv rfl (e rfl rfl)) rfl rfl ?_
    rcases Bool.eq_false_or_eq_true (decide ((w64 (x1.Until - a1)) < (0))) with hg5 | hg5
    · replace hr := bf_t hg5 hr
      have hg5p := dec_t hg5
      refine gs rfl rfl rfl (eg rfl rfl) hg5 rfl ?_
      refine gs rfl rfl rfl (eg rfl rfl) hg5 rfl ?_
      refine sy (.t ⟨false, [.d (dB (true))]⟩) (zpt rfl (e rfl rfl) hg5 (ec rfl)) rfl rfl ?_
      refine s_end ?_
      refine v_cT (e rfl rfl) rfl ?_
      refine v_reg ?_
      refine sy _ (zas rfl (ec rfl)) rfl rfl ?_
      refine s_end ?_
      refine v_seq ?_
      refine v_reg ?_
      refine sy (.t ⟨false, [.vp 11 3]⟩) (zfa tabOk rfl rfl rfl (e rfl rfl) rfl rfl) rfl rfl ?_
      refine sy (.t ⟨false, [.d (.sl 6 (x1.L.map Record.cells))]⟩) (zlv tabOk rfl (e rfl rfl) rfl rfl rfl) rfl rfl ?_
      refine sy _ (zmv rfl (e rfl rfl)) rfl rfl ?_
      obtain ⟨v2, ev2⟩ : ∃ v : List Record, v = n_impl_WithTtl x1.L 100000 := ⟨_, rfl⟩
      replace hr := bv_step ev2 hr
      have hfv2 : fitL Record.Fit v2 := by rw [ev2]; exact (fitx_n_impl_WithTtl x1.L 100000 hfx1.L)
      refine sd (.t ⟨false, [.sr 12 1 0 ((v2.map Record.cells).length) ((v2.map Record.cells).length)]⟩) (zcall 12 (.t ⟨false, [.sr 12 1 0 ((v2.map Record.cells).length) ((v2.map Record.cells).length)]⟩) [(12, .row 6 (v2.map Record.cells) true 1 0)] rfl (by rw [ev2]; exact (tr_n_impl_WithTtl x1.L 100000 hfx1.L) : Tr Tryz.prog 67 _ [⟨false, [.sl 6 (v2.map Record.cells)]⟩]) (ar (e rfl rfl) (.d .nil) (ar (e rfl rfl) (.d .nil) .nil)) rfl rfl rfl) rfl rfl rfl rfl ?_
      refine sy (.t ⟨false, [.vp 11 3]⟩) (zfa tabOk rfl rfl rfl (e rfl rfl) rfl rfl) rfl rfl ?_
      refine sw 11 (.var [.d (dS (x1.Q.Name)), .d (dI (x1.Q.Typ)), .d (dI (x1.Kind)), .sr 12 1 0 ((v2.map Record.cells).length) ((v2.map Record.cells).length), .d (dI (x1.Rank)), .d (dI (x1.Until))]) (zst tabOk rfl (e rfl rfl) rfl (e rfl rfl) rfl rfl rfl) rfl rfl ?_
      refine s_end ?_
      refine v_seq ?_
      refine v_reg ?_
      refine sy (.t ⟨true, [.d (dS (x1.Q.Name)), .d (dI (x1.Q.Typ)), .d (dI (x1.Kind)), .sr 12 1 0 ((v2.map Record.cells).length) ((v2.map Record.cells).length), .d (dI (x1.Rank)), .d (dI (x1.Until))]⟩) (zlv tabOk rfl (e rfl rfl) rfl rfl rfl) rfl rfl ?_
      refine sw 2 (.var [.d (dS (x1.Q.Name)), .d (dI (x1.Q.Typ)), .d (dI (x1.Kind)), .sr 12 1 0 ((v2.map Record.cells).length) ((v2.map Record.cells).length), .d (dI (x1.Rank)), .d (dI (x1.Until))]) (zst tabOk rfl (e rfl rfl) rfl (e rfl rfl) rfl rfl rfl) rfl rfl ?_
      refine sy _ (zas rfl (ec rfl)) rfl rfl ?_
      refine s_end ?_
      refine v_ret ?_
      subst hr
      exact post_ret (rv (.cell (eg rfl rfl) rfl rfl (.inl rfl) rfl) rfl (.lf (.lf (.lf (.sr rfl le_all take_all (.lf (.lf .nil)))))) rfl (rv (.tmp (eg rfl rfl)) rfl (.lf .nil) rfl .nil)) (.ro (.ro (.ro (.ro .nil)))) rfl
    replace hr := bf_f hg5 hr
    have hg5p := dec_f hg5
    refine gr rfl rfl rfl (eg rfl rfl) hg5 ?_
    refine sy _ (zmv rfl (e rfl rfl)) rfl rfl ?_
    refine gr rfl rfl rfl (eg rfl rfl) hg5 ?_
    refine sy (.t ⟨false, [.d (dB (decide ((100000) < (w64 (x1.Until - a1)))))]⟩) (y_bin rfl (e rfl rfl) (ec rfl) (fun _ => b_gtr) rfl) rfl rfl ?_
    refine sy (.t ⟨false, [.d (dB (decide ((100000) < (w64 (x1.Until - a1)))))]⟩) (zpf rfl (e rfl rfl) hg5 (e rfl rfl)) rfl rfl ?_
    refine s_end ?_
    refine v_cond (e rfl rfl) (fun hb6 => ?_) fun hb6 => ?_
    · replace hr := bf_t hb6 hr
      have hb6p := dec_t hb6
      refine v_reg ?_
      refine sy _ (zas rfl (ec rfl)) rfl rfl ?_
      refine s_end ?_
      refine v_seq ?_
      refine v_reg ?_
      refine sy (.t ⟨false, [.vp 11 3]⟩) (zfa tabOk rfl rfl rfl (e rfl rfl) rfl rfl) rfl rfl ?_
      refine sy (.t ⟨false, [.d (.sl 6 (x1.L.map Record.cells))]⟩) (zlv tabOk rfl (e rfl rfl) rfl rfl rfl) rfl rfl ?_
      refine sy _ (zmv rfl (e rfl rfl)) rfl rfl ?_
      obtain ⟨v3, ev3⟩ : ∃ v : List Record, v = n_impl_WithTtl x1.L 100000 := ⟨_, rfl⟩
      replace hr := bv_step ev3 hr
      have hfv3 : fitL Record.Fit v3 := by rw [ev3]; exact (fitx_n_impl_WithTtl x1.L 100000 hfx1.L)
      refine sd (.t ⟨false, [.sr 13 1 0 ((v3.map Record.cells).length) ((v3.map Record.cells).length)]⟩) (zcall 13 (.t ⟨false, [.sr 13 1 0 ((v3.map Record.cells).length) ((v3.map Record.cells).length)]⟩) [(13, .row 6 (v3.map Record.cells) true 1 0)] rfl (by rw [ev3]; exact (tr_n_impl_WithTtl x1.L 100000 hfx1.L) : Tr Tryz.prog 67 _ [⟨false, [.sl 6 (v3.map Record.cells)]⟩]) (ar (e rfl rfl) (.d .nil) (ar (e rfl rfl) (.d .nil) .nil)) rfl rfl rfl) rfl rfl rfl rfl ?_
      refine sy (.t ⟨false, [.vp 11 3]⟩) (zfa tabOk rfl rfl rfl (e rfl rfl) rfl rfl) rfl rfl ?_
      refine sw 11 (.var [.d (dS (x1.Q.Name)), .d (dI (x1.Q.Typ)), .d (dI (x1.Kind)), .sr 13 1 0 ((v3.map Record.cells).length) ((v3.map Record.cells).length), .d (dI (x1.Rank)), .d (dI (x1.Until))]) (zst tabOk rfl (e rfl rfl) rfl (e rfl rfl) rfl rfl rfl) rfl rfl ?_
      refine s_end ?_
      refine v_seq ?_
      refine v_reg ?_
      refine sy (.t ⟨true, [.d (dS (x1.Q.Name)), .d (dI (x1.Q.Typ)), .d (dI (x1.Kind)), .sr 13 1 0 ((v3.map Record.cells).length) ((v3.map Record.cells).length), .d (dI (x1.Rank)), .d (dI (x1.Until))]⟩) (zlv tabOk rfl (e rfl rfl) rfl rfl rfl) rfl rfl ?_
      refine sw 2 (.var [.d (dS (x1.Q.Name)), .d (dI (x1.Q.Typ)), .d (dI (x1.Kind)), .sr 13 1 0 ((v3.map Record.cells).length) ((v3.map Record.cells).length), .d (dI (x1.Rank)), .d (dI (x1.Until))]) (zst tabOk rfl (e rfl rfl) rfl (e rfl rfl) rfl rfl rfl) rfl rfl ?_
      refine sy _ (zas rfl (ec rfl)) rfl rfl ?_
      refine s_end ?_
      refine v_ret ?_
      subst hr
      exact post_ret (rv (.cell (eg rfl rfl) rfl rfl (.inl rfl) rfl) rfl (.lf (.lf (.lf (.sr rfl le_all take_all (.lf (.lf .nil)))))) rfl (rv (.tmp (eg rfl rfl)) rfl (.lf .nil) rfl .nil)) (.ro (.ro (.ro (.ro .nil)))) rfl
    replace hr := bf_f hb6 hr
    have hb6p := dec_f hb6
    refine v_skip ?_
    refine v_seq ?_
    refine v_reg ?_
    refine sy (.t ⟨false, [.vp 11 3]⟩) (zfa tabOk rfl rfl rfl (e rfl rfl) rfl rfl) rfl rfl ?_
    refine sy (.t ⟨false, [.d (.sl 6 (x1.L.map Record.cells))]⟩) (zlv tabOk rfl (e rfl rfl) rfl rfl rfl) rfl rfl ?_
    refine sy _ (zmv rfl (e rfl rfl)) rfl rfl ?_
    obtain ⟨v4, ev4⟩ : ∃ v : List Record, v = n_impl_WithTtl x1.L (w64 (x1.Until - a1)) := ⟨_, rfl⟩
    replace hr := bv_step ev4 hr
    have hfv4 : fitL Record.Fit v4 := by rw [ev4]; exact (fitx_n_impl_WithTtl x1.L (w64 (x1.Until - a1)) hfx1.L)
    refine sd (.t ⟨false, [.sr 14 1 0 ((v4.map Record.cells).length) ((v4.map Record.cells).length)]⟩) (zcall 14 (.t ⟨false, [.sr 14 1 0 ((v4.map Record.cells).length) ((v4.map Record.cells).length)]⟩) [(14, .row 6 (v4.map Record.cells) true 1 0)] rfl (by rw [ev4]; exact (tr_n_impl_WithTtl x1.L (w64 (x1.Until - a1)) hfx1.L) : Tr Tryz.prog 67 _ [⟨false, [.sl 6 (v4.map Record.cells)]⟩]) (ar (e rfl rfl) (.d .nil) (ar (e rfl rfl) (.d .nil) .nil)) rfl rfl rfl) rfl rfl rfl rfl ?_
    refine sy (.t ⟨false, [.vp 11 3]⟩) (zfa tabOk rfl rfl rfl (e rfl rfl) rfl rfl) rfl rfl ?_
    refine sw 11 (.var [.d (dS (x1.Q.Name)), .d (dI (x1.Q.Typ)), .d (dI (x1.Kind)), .sr 14 1 0 ((v4.map Record.cells).length) ((v4.map Record.cells).length), .d (dI (x1.Rank)), .d (dI (x1.Until))]) (zst tabOk rfl (e rfl rfl) rfl (e rfl rfl) rfl rfl rfl) rfl rfl ?_
    refine s_end ?_
    refine v_seq ?_
    refine v_reg ?_
    refine sy (.t ⟨true, [.d (dS (x1.Q.Name)), .d (dI (x1.Q.Typ)), .d (dI (x1.Kind)), .sr 14 1 0 ((v4.map Record.cells).length) ((v4.map Record.cells).length), .d (dI (x1.Rank)), .d (dI (x1.Until))]⟩) (zlv tabOk rfl (e rfl rfl) rfl rfl rfl) rfl rfl ?_
    refine sw 2 (.var [.d (dS (x1.Q.Name)), .d (dI (x1.Q.Typ)), .d (dI (x1.Kind)), .sr 14 1 0 ((v4.map Record.cells).length) ((v4.map Record.cells).length), .d (dI (x1.Rank)), .d (dI (x1.Until))]) (zst tabOk rfl (e rfl rfl) rfl (e rfl rfl) rfl rfl rfl) rfl rfl ?_
    refine sy _ (zas rfl (ec rfl)) rfl rfl ?_
    refine s_end ?_
    refine v_ret ?_
    subst hr
    exact post_ret (rv (.cell (eg rfl rfl) rfl rfl (.inl rfl) rfl) rfl (.lf (.lf (.lf (.sr rfl le_all take_all (.lf (.lf .nil)))))) rfl (rv (.tmp (eg rfl rfl)) rfl (.lf .nil) rfl .nil)) (.ro (.ro (.ro (.ro .nil)))) rfl
  replace hr := bf_f hb1 hr
  have hb1p := dec_f hb1
  refine v_exit ?_
  refine then_exit ?_
  refine loop_exit ?_
  refine blk_hit ?_
  refine v_seq ?_
  refine v_reg ?_
  refine sy (.t ⟨true, [.d (dS (⟨#[]⟩)), .d (dI (0)), .d (dI (0)), .nl 6, .d (dI (0)), .d (dI (0))]⟩) (zbd tabOk rfl rfl .nil) rfl rfl ?_
  refine sw 2 (.var [.d (dS (⟨#[]⟩)), .d (dI (0)), .d (dI (0)), .nl 6, .d (dI (0)), .d (dI (0))]) (zst tabOk rfl (e rfl rfl) rfl (e rfl rfl) rfl rfl rfl) rfl rfl ?_
  refine sy _ (zas rfl (ec rfl)) rfl rfl ?_
  refine s_end ?_
  refine v_ret ?_
  subst hr
  exact post_ret (rv (.cell (eg rfl rfl) rfl rfl (.inl rfl) rfl) rfl (.lf (.lf (.lf (.nl (.lf (.lf .nil)))))) rfl (rv (.tmp (eg rfl rfl)) rfl (.lf .nil) rfl .nil)) (.ro (.ro (.ro (.ro .nil)))) rfl
set_option maxHeartbeats 4000000 in
theorem fitx_n_impl_Look (a0 : Cache) (a1 : Int) (a2 : Quest) (a3 : Int) (h0 : Cache.Fit a0) (h2 : Quest.Fit a2) : Entry.Fit (n_impl_Look a0 a1 a2 a3).1 := by
  obtain ⟨r, hr⟩ : ∃ r, n_impl_Look a0 a1 a2 a3 = r := ⟨_, rfl⟩
  rw [hr]
  rw [n_impl_Look] at hr
  have hB1 : (a0.L).length ≤ _ := (h0.L).1
  refine fx_lp (fun (q : Nat × Nat) => n_impl_LookL1 a0 a1 a2 a3 q.1 q.2 = r ∧ (q.2 ≤ (a0.L).length) ∧ (q.2 + q.1 = (a0.L).length + 1)) (fun q => q.1) ((a0.L).length + 1, (0 : Nat)) ⟨hr, by (try dsimp only); (try simp only [List.length_nil, List.length_cons, List.length_replicate]); first | done | omega | exact Nat.zero_le _, by (try dsimp only); (try simp only [List.length_nil, List.length_cons, List.length_replicate]); first | done | omega | exact Nat.zero_le _⟩ (fun q hq hn1 => ?_)
  obtain ⟨n, z16⟩ := q
  obtain ⟨hr, hi1x0, hi1x1⟩ := hq
  dsimp only at hr hi1x0 hi1x1
  rcases n with _ | n
  · exfalso; omega
  rw [n_impl_LookL1] at hr
  rcases Bool.eq_false_or_eq_true (decide (((z16 : Int)) < (((a0.L).length : Int)))) with hb1 | hb1
  · replace hr := bf_t hb1 hr
    have hb1p := dec_t hb1
    obtain ⟨x1, hx1⟩ : ∃ x, (a0.L)[z16]? = some x := some_of_lt (by omega)
    replace hr := at_step hx1 hr
    have hfx1 := h0.L.2 _ (List.mem_of_getElem? hx1)
    rcases Bool.eq_false_or_eq_true (decide (x1.Q ≠ a2)) with hg2 | hg2
    · replace hr := bf_t hg2 hr
      have hg2p := dec_t hg2
      exact hn1 (n, z16 + 1) (Nat.lt_succ_self _) ⟨hr, by (try simp only [List.length_append, List.length_cons, List.length_nil, List.length_set]); first | done | omega, by (try simp only [List.length_append, List.length_cons, List.length_nil, List.length_set]); first | done | omega⟩
    replace hr := bf_f hg2 hr
    have hg2p := dec_f hg2
    rcases Bool.eq_false_or_eq_true (decide ((x1.Rank) < (a3))) with hg3 | hg3
    · replace hr := bf_t hg3 hr
      have hg3p := dec_t hg3
      exact hn1 (n, z16 + 1) (Nat.lt_succ_self _) ⟨hr, by (try simp only [List.length_append, List.length_cons, List.length_nil, List.length_set]); first | done | omega, by (try simp only [List.length_append, List.length_cons, List.length_nil, List.length_set]); first | done | omega⟩
    replace hr := bf_f hg3 hr
    have hg3p := dec_f hg3
    rcases Bool.eq_false_or_eq_true (decide ((x1.Until) ≤ (a1))) with hb4 | hb4
    · replace hr := bf_t hb4 hr
      have hb4p := dec_t hb4
      exact hn1 (n, z16 + 1) (Nat.lt_succ_self _) ⟨hr, by (try simp only [List.length_append, List.length_cons, List.length_nil, List.length_set]); first | done | omega, by (try simp only [List.length_append, List.length_cons, List.length_nil, List.length_set]); first | done | omega⟩
    replace hr := bf_f hb4 hr
    have hb4p := dec_f hb4
    rcases Bool.eq_false_or_eq_true (decide ((w64 (x1.Until - a1)) < (0))) with hg5 | hg5
    · replace hr := bf_t hg5 hr
      have hg5p := dec_t hg5
      obtain ⟨v2, ev2⟩ : ∃ v : List Record, v = n_impl_WithTtl x1.L 100000 := ⟨_, rfl⟩
      replace hr := bv_step ev2 hr
      have hfv2 : fitL Record.Fit v2 := by rw [ev2]; exact (fitx_n_impl_WithTtl x1.L 100000 hfx1.L)
      subst hr
      exact ⟨hfx1.Q, hfv2⟩
    replace hr := bf_f hg5 hr
    have hg5p := dec_f hg5
    rcases Bool.eq_false_or_eq_true (decide ((100000) < (w64 (x1.Until - a1)))) with hb6 | hb6
    · replace hr := bf_t hb6 hr
      have hb6p := dec_t hb6
      obtain ⟨v3, ev3⟩ : ∃ v : List Record, v = n_impl_WithTtl x1.L 100000 := ⟨_, rfl⟩
      replace hr := bv_step ev3 hr
      have hfv3 : fitL Record.Fit v3 := by rw [ev3]; exact (fitx_n_impl_WithTtl x1.L 100000 hfx1.L)
      subst hr
      exact ⟨hfx1.Q, hfv3⟩
    replace hr := bf_f hb6 hr
    have hb6p := dec_f hb6
    obtain ⟨v4, ev4⟩ : ∃ v : List Record, v = n_impl_WithTtl x1.L (w64 (x1.Until - a1)) := ⟨_, rfl⟩
    replace hr := bv_step ev4 hr
    have hfv4 : fitL Record.Fit v4 := by rw [ev4]; exact (fitx_n_impl_WithTtl x1.L (w64 (x1.Until - a1)) hfx1.L)
    subst hr
    exact ⟨hfx1.Q, hfv4⟩
  replace hr := bf_f hb1 hr
  have hb1p := dec_f hb1
  subst hr
  exact ⟨⟨(fitS_lit (⟨#[]⟩ : ByteArray) (Nat.le_of_ble_eq_true rfl))⟩, fitL_nil⟩
theorem law_WithTtl (a : List Record) (t : Int) : n_impl_WithTtl a t = n_spec_WithTtl a t := by
  have key : ∀ n l i, l.length = a.length → n_impl_WithTtlL1 a t n l i = n_spec_WithTtlL1 t n l i := by
    intro n
    induction n with
    | zero => intro l i _; rfl
    | succ n ih =>
      intro l i hl
      rw [n_impl_WithTtlL1, n_spec_WithTtlL1, hl]
      cases decide ((i : Int) < (a.length : Int)) with
      | false => rfl
      | true =>
        simp only [cond_true, atL]
        cases hx : l[i]? with
        | none => rfl
        | some x => exact ih _ _ (by rw [List.length_set]; exact hl)
  exact key _ _ _ rfl
theorem w64_in {n : Int} (h1 : -9223372036854775808 ≤ n) (h2 : n < 9223372036854775808) : w64 n = n := w64_of h1 h2
theorem w64_over {n : Int} (h1 : 9223372036854775808 ≤ n) (h2 : n < 18446744073709551616) : w64 n = n - 18446744073709551616 := by
  have e : w64 n = if 9223372036854775808 ≤ n % 18446744073709551616 then n % 18446744073709551616 - 18446744073709551616 else n % 18446744073709551616 := by
    simp [w64, IntKind.wrap, IntKind.signed, IntKind.bits]
  rw [e]; split <;> omega
theorem look_left {R : Type} (U now : Int) (hU : bndI U) (hn : bndI now) (hl : now < U) (f : Int → R) :
    cond (decide (w64 (U - now) < 0)) (f 100000) (cond (decide (100000 < w64 (U - now))) (f 100000) (f (w64 (U - now)))) =
    cond (decide (0 < now)) (cond (decide (w64 (U - now) < 100000)) (f (w64 (U - now))) (cond (decide (now ≤ 0)) (cond (decide (U < w64 (100000 + now))) (f (w64 (U - now))) (f 100000)) (f 100000))) (cond (decide (now ≤ 0)) (cond (decide (U < w64 (100000 + now))) (f (w64 (U - now))) (f 100000)) (f 100000)) := by
  obtain ⟨u1, u2⟩ := hU
  obtain ⟨n1, n2⟩ := hn
  rcases Int.lt_or_le 0 now with hp | hp
  · have e1 := w64_in (n := U - now) (by omega) (by omega)
    rw [e1, decide_eq_true hp, decide_eq_false (by omega : ¬ now ≤ 0), decide_eq_false (by omega : ¬ U - now < 0)]
    simp only [cond_true, cond_false]
    rcases Int.lt_trichotomy (U - now) 100000 with h | h | h
    · rw [decide_eq_true h, decide_eq_false (by omega : ¬ 100000 < U - now)]; rfl
    · rw [decide_eq_false (by omega : ¬ U - now < 100000), decide_eq_false (by omega : ¬ 100000 < U - now), h]; try rfl
    · rw [decide_eq_false (by omega : ¬ U - now < 100000), decide_eq_true h]; rfl
  · have e2 := w64_in (n := 100000 + now) (by omega) (by omega)
    rw [e2, decide_eq_false (by omega : ¬ 0 < now), decide_eq_true hp]
    simp only [cond_true, cond_false]
    rcases Int.lt_or_le (U - now) 9223372036854775808 with hb | hb
    · have e1 := w64_in (n := U - now) (by omega) hb
      rw [e1, decide_eq_false (by omega : ¬ U - now < 0)]
      simp only [cond_false]
      rcases Int.lt_trichotomy (U - now) 100000 with h | h | h
      · rw [decide_eq_true (by omega : U < 100000 + now), decide_eq_false (by omega : ¬ 100000 < U - now)]; rfl
      · rw [decide_eq_false (by omega : ¬ U < 100000 + now), decide_eq_false (by omega : ¬ 100000 < U - now), h]; try rfl
      · rw [decide_eq_false (by omega : ¬ U < 100000 + now), decide_eq_true h]; rfl
    · have e1 := w64_over (n := U - now) hb (by omega)
      rw [e1, decide_eq_true (by omega : U - now - 18446744073709551616 < 0), decide_eq_false (by omega : ¬ U < 100000 + now)]; rfl
theorem law_Look (c : Cache) (now : Int) (q : Quest) (r : Int) (hc : c.Bnd) (hn : bndI now) : n_impl_Look c now q r = n_spec_Look c now q r := by
  have key : ∀ n i, n_impl_LookL1 c now q r n i = n_spec_LookL1 c now q r n i := by
    intro n
    induction n with
    | zero => intro i; rfl
    | succ n ih =>
      intro i
      rw [n_impl_LookL1, n_spec_LookL1, ih]
      cases decide ((i : Int) < (c.L.length : Int)) with
      | false => rfl
      | true =>
        simp only [cond_true, atL]
        cases hx : c.L[i]? with
        | none => rfl
        | some x =>
          have hU := (hc.L.2 x (List.mem_of_getElem? hx)).Until
          simp only [law_WithTtl, n_spec_l15Lives, n_spec_l15Entry, bindv]
          by_cases hq : x.Q = q
          · rw [decide_eq_false (fun e => e hq : ¬ x.Q ≠ q), decide_eq_true hq]
            simp only [cond_true, cond_false]
            by_cases hr : x.Rank < r
            · rw [decide_eq_true hr, decide_eq_false (by omega : ¬ r ≤ x.Rank)]
              simp only [cond_true, cond_false]
              cases decide (now < x.Until) <;> rfl
            · rw [decide_eq_false hr, decide_eq_true (by omega : r ≤ x.Rank)]
              simp only [cond_true, cond_false]
              by_cases hl : now < x.Until
              · rw [decide_eq_false (by omega : ¬ x.Until ≤ now), decide_eq_true hl]
                simp only [cond_true, cond_false]
                exact look_left x.Until now hU hn hl fun t => ((⟨x.Q, x.Kind, n_spec_WithTtl x.L t, x.Rank, x.Until⟩ : Entry), true)
              · rw [decide_eq_true (by omega : x.Until ≤ now), decide_eq_false hl]; rfl
          · rw [decide_eq_true (hq : x.Q ≠ q), decide_eq_false hq]; rfl
  exact key _ _
theorem look_none (c : Cache) (now : Int) (q : Quest) (r : Int) (h : (n_spec_Look c now q r).2 = false) : (n_spec_Look c now q r).1.L = [] := by
  have key : ∀ n i, (n_spec_LookL1 c now q r n i).2 = false → (n_spec_LookL1 c now q r n i).1.L = [] := by
    intro n
    induction n with
    | zero => intro i _; rfl
    | succ n ih =>
      intro i
      rw [n_spec_LookL1]
      cases decide ((i : Int) < (c.L.length : Int)) with
      | false => intro _; rfl
      | true =>
        simp only [cond_true, atL]
        cases hx : c.L[i]? with
        | none => intro _; rfl
        | some x =>
          simp only [bindv]
          cases decide (x.Q = q) with
          | false => exact ih _
          | true =>
            cases n_spec_l15Lives x now with
            | false => exact ih _
            | true =>
              cases decide (r ≤ x.Rank) with
              | false => exact ih _
              | true =>
                simp only [cond_true]
                cases decide (0 < now) <;> cases decide (w64 (x.Until - now) < 100000) <;> cases decide (now ≤ 0) <;> cases decide (x.Until < w64 (100000 + now)) <;> exact fun h => by cases h
  exact key _ _ h
end Go.Proofs.YtglilpigoocgeaaGreatDoor.V
