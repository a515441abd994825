/-
  Copies of slices; functions of package slices.
-/
import Derived.Test.YtglilpigoocgeaaGreatDoorN
namespace Go.Proofs.YtglilpigoocgeaaGreatDoor.V
open Go
set_option linter.unusedVariables false
set_option linter.unusedSimpArgs false
theorem flat_I (xs : List Int) : (xs.map encI).flatten.all isLf = true := by induction xs <;> simp_all [encI, isLf]
theorem flat_S (xs : List ByteArray) : (xs.map encS).flatten.all isLf = true := by induction xs <;> simp_all [encS, isLf]
theorem flat_B (xs : List Bool) : (xs.map encB).flatten.all isLf = true := by induction xs <;> simp_all [encB, isLf]
theorem flat_Y (xs : List Int) : (xs.map encY).flatten.all isLf = true := by induction xs <;> simp_all [encY, isLf]
theorem flat_Quest (xs : List Quest) : (xs.map Quest.cells).flatten.all isLf = true := by induction xs <;> simp_all [Quest.cells, isLf]
theorem flat_Record (xs : List Record) : (xs.map Record.cells).flatten.all isLf = true := by induction xs <;> simp_all [Record.cells, isLf]
set_option maxRecDepth 20000 in
theorem tr_clone_encS (xs : List ByteArray) (hx : xs.length ≤ 33554432) : Tr Tryz.prog 48 [.ro (one (.sl 1 (xs.map encS)))] [one (.sl 1 (xs.map encS))] := by
  refine tr_go tabOk Tryz.func48 rfl rfl rfl rfl rfl (ov := [(0, sc (.sl 1 (xs.map encS)))]) (hv := []) rfl rfl ?_
  refine v_seq ?_
  refine v_reg ?_
  refine sy _ (zas rfl (en 1)) rfl rfl ?_
  refine s_end ?_
  refine v_seq ?_
  refine v_seq ?_
  refine v_reg ?_
  refine sy _ (zmv rfl (e rfl rfl)) rfl rfl ?_
  rcases xs with _ | ⟨x, l⟩
  · refine sy (.t ⟨false, [.unk]⟩) (y_nil tabOk rfl (.inl rfl) rfl (e rfl rfl) .d) rfl rfl ?_
    refine s_end ?_
    refine v_cond_unk (e rfl rfl) ?_ ?_
    · refine v_seq ?_
      refine v_reg ?_
      refine sy _ (zas rfl (en 1)) rfl rfl ?_
      refine s_end ?_
      refine v_ret ?_
      exact post_ret (rv (.tmp (eg rfl rfl)) rfl (.nl .nil) rfl .nil) (.ro .nil) rfl
    refine v_skip ?_
    refine v_seq ?_
    refine v_reg ?_
    refine sbk 0 (.t ⟨false, [.sr 0 1 0 0 0]⟩) (.row 1 [] true 1 0) (zbu tabOk rfl rfl rfl rfl .nil rfl rfl) rfl rfl ?_
    refine sy _ (zmv rfl (e rfl rfl)) rfl rfl ?_
    refine sa 0 (.t ⟨false, [.sr 0 2 0 (([] : List ByteArray).map encS).length (([] : List ByteArray).map encS).length]⟩) (.row 1 (([] : List ByteArray).map encS) true 2 1) (zap tabOk rfl rfl rfl rfl (e rfl rfl) rfl rfl (e rfl rfl) (.d (flat_S _)) (ap_big (by rw [List.length_map]; omega) rfl) rfl (Nat.zero_add _)) rfl rfl ?_
    refine sy _ (zas rfl (e rfl rfl)) rfl rfl ?_
    refine s_end ?_
    refine v_ret ?_
    exact post_ret (rv (.tmp (eg rfl rfl)) rfl (.sr rfl le_all take_all .nil) rfl .nil) (.ro .nil) rfl
  refine sy (sc (dB false)) (y_nilne tabOk rfl (.inl rfl) rfl (e rfl rfl) .d (by simp)) rfl rfl ?_
  refine s_end ?_
  refine v_cF (e rfl rfl) rfl ?_
  refine v_skip ?_
  refine v_seq ?_
  refine v_reg ?_
  refine sbk 0 (.t ⟨false, [.sr 0 1 0 0 0]⟩) (.row 1 [] true 1 0) (zbu tabOk rfl rfl rfl rfl .nil rfl rfl) rfl rfl ?_
  refine sy _ (zmv rfl (e rfl rfl)) rfl rfl ?_
  refine sa 0 (.t ⟨false, [.sr 0 2 0 ((x :: l).map encS).length ((x :: l).map encS).length]⟩) (.row 1 ((x :: l).map encS) true 2 1) (zap tabOk rfl rfl rfl rfl (e rfl rfl) rfl rfl (e rfl rfl) (.d (flat_S _)) (ap_big (by rw [List.length_map]; omega) rfl) rfl (Nat.zero_add _)) rfl rfl ?_
  refine sy _ (zas rfl (e rfl rfl)) rfl rfl ?_
  refine s_end ?_
  refine v_ret ?_
  exact post_ret (rv (.tmp (eg rfl rfl)) rfl (.sr rfl le_all take_all .nil) rfl .nil) (.ro .nil) rfl
set_option maxRecDepth 20000 in
theorem tr_clone_Record (xs : List Record) (hx : xs.length ≤ 33554432) : Tr Tryz.prog 79 [.ro (one (.sl 6 (xs.map Record.cells)))] [one (.sl 6 (xs.map Record.cells))] := by
  refine tr_go tabOk Tryz.func79 rfl rfl rfl rfl rfl (ov := [(0, sc (.sl 6 (xs.map Record.cells)))]) (hv := []) rfl rfl ?_
  refine v_seq ?_
  refine v_reg ?_
  refine sy _ (zas rfl (en 6)) rfl rfl ?_
  refine s_end ?_
  refine v_seq ?_
  refine v_seq ?_
  refine v_reg ?_
  refine sy _ (zmv rfl (e rfl rfl)) rfl rfl ?_
  rcases xs with _ | ⟨x, l⟩
  · refine sy (.t ⟨false, [.unk]⟩) (y_nil tabOk rfl (.inl rfl) rfl (e rfl rfl) .d) rfl rfl ?_
    refine s_end ?_
    refine v_cond_unk (e rfl rfl) ?_ ?_
    · refine v_seq ?_
      refine v_reg ?_
      refine sy _ (zas rfl (en 6)) rfl rfl ?_
      refine s_end ?_
      refine v_ret ?_
      exact post_ret (rv (.tmp (eg rfl rfl)) rfl (.nl .nil) rfl .nil) (.ro .nil) rfl
    refine v_skip ?_
    refine v_seq ?_
    refine v_reg ?_
    refine sbk 0 (.t ⟨false, [.sr 0 1 0 0 0]⟩) (.row 6 [] true 1 0) (zbu tabOk rfl rfl rfl rfl .nil rfl rfl) rfl rfl ?_
    refine sy _ (zmv rfl (e rfl rfl)) rfl rfl ?_
    refine sa 0 (.t ⟨false, [.sr 0 2 0 (([] : List Record).map Record.cells).length (([] : List Record).map Record.cells).length]⟩) (.row 6 (([] : List Record).map Record.cells) true 2 1) (zap tabOk rfl rfl rfl rfl (e rfl rfl) rfl rfl (e rfl rfl) (.d (flat_Record _)) (ap_big (by rw [List.length_map]; omega) rfl) rfl (Nat.zero_add _)) rfl rfl ?_
    refine sy _ (zas rfl (e rfl rfl)) rfl rfl ?_
    refine s_end ?_
    refine v_ret ?_
    exact post_ret (rv (.tmp (eg rfl rfl)) rfl (.sr rfl le_all take_all .nil) rfl .nil) (.ro .nil) rfl
  refine sy (sc (dB false)) (y_nilne tabOk rfl (.inl rfl) rfl (e rfl rfl) .d (by simp)) rfl rfl ?_
  refine s_end ?_
  refine v_cF (e rfl rfl) rfl ?_
  refine v_skip ?_
  refine v_seq ?_
  refine v_reg ?_
  refine sbk 0 (.t ⟨false, [.sr 0 1 0 0 0]⟩) (.row 6 [] true 1 0) (zbu tabOk rfl rfl rfl rfl .nil rfl rfl) rfl rfl ?_
  refine sy _ (zmv rfl (e rfl rfl)) rfl rfl ?_
  refine sa 0 (.t ⟨false, [.sr 0 2 0 ((x :: l).map Record.cells).length ((x :: l).map Record.cells).length]⟩) (.row 6 ((x :: l).map Record.cells) true 2 1) (zap tabOk rfl rfl rfl rfl (e rfl rfl) rfl rfl (e rfl rfl) (.d (flat_Record _)) (ap_big (by rw [List.length_map]; omega) rfl) rfl (Nat.zero_add _)) rfl rfl ?_
  refine sy _ (zas rfl (e rfl rfl)) rfl rfl ?_
  refine s_end ?_
  refine v_ret ?_
  exact post_ret (rv (.tmp (eg rfl rfl)) rfl (.sr rfl le_all take_all .nil) rfl .nil) (.ro .nil) rfl
theorem idx_rng {α : Type} {p : α → Bool} {xs : List α} {f : Nat → Nat → Int} (hs : ∀ n i, f (n + 1) i = cond (decide ((i : Int) < (xs.length : Int))) (atL xs i fun x => cond (p x) (i : Int) (f n (i + 1))) (-1)) :
    ∀ (n i : Nat), i ≤ xs.length → i + n = xs.length + 1 → -1 ≤ f n i ∧ f n i < (xs.length : Int)
  | 0, i, h1, h2 => by omega
  | n + 1, i, h1, h2 => by
    rw [hs]
    rcases Nat.lt_or_ge i xs.length with h | h
    · have e : (decide ((i : Int) < (xs.length : Int))) = true := by simp; omega
      rw [e, cond_true, atL_lt h]
      cases p xs[i] with
      | true => simp only [cond_true]; omega
      | false => simp only [cond_false]; exact idx_rng hs n (i + 1) (by omega) (by omega)
    · have e : (decide ((i : Int) < (xs.length : Int))) = false := by simp; omega
      rw [e, cond_false]; omega
def n_slices_IndexFunc_stringL1 (a0 : List ByteArray) (p1 : ByteArray → Bool) : Nat → Nat → Int
  | 0, _ => default
  | n + 1, z8 => cond (decide (((z8 : Int)) < (((a0).length : Int)))) (atL (a0) (z8) (fun x1 => cond (p1 x1) ((z8 : Int)) (n_slices_IndexFunc_stringL1 a0 p1 n (z8 + 1)))) (-1)
def n_slices_IndexFunc_string (a0 : List ByteArray) (p1 : ByteArray → Bool) : Int := n_slices_IndexFunc_stringL1 a0 p1 ((a0).length + 1) 0
set_option maxHeartbeats 4000000 in
set_option maxRecDepth 20000 in
theorem tr_n_slices_IndexFunc_string (a0 : List ByteArray) (g1 : FuncId) (dc1 : List Dat) (p1 : ByteArray → Bool) (h0 : fitL fitS a0) (hp1 : ∀ (x0 : ByteArray), fitS x0 → Tr Tryz.prog g1 ([.ro ⟨false, [dS (x0)]⟩] ++ capA dc1) [⟨false, [dB ((p1 x0))]⟩]) : Tr Tryz.prog 70 [.ro ⟨false, [.sl 1 (a0.map encS)]⟩, .ro (one (.cl g1 dc1))] [⟨false, [dI ((n_slices_IndexFunc_string a0 p1))]⟩] := by
  obtain ⟨r, hr⟩ : ∃ r, n_slices_IndexFunc_string a0 p1 = r := ⟨_, rfl⟩
  rw [hr]
  rw [n_slices_IndexFunc_string] at hr
  refine tr_go tabOk Tryz.func70 rfl rfl rfl rfl rfl (ov := [(0, .t ⟨false, [.d (.sl 1 (a0.map encS))]⟩), (1, .t ⟨false, [.d (.cl g1 dc1)]⟩)]) (hv := []) rfl rfl ?_
  refine v_seq ?_
  refine v_reg ?_
  refine sy _ (zas rfl (ec rfl)) rfl rfl ?_
  refine s_end ?_
  refine v_seq ?_
  refine v_seq ?_
  refine v_reg ?_
  refine sy _ (zmv rfl (e rfl rfl)) rfl rfl ?_
  have hB1 := (h0).1
  refine sy (.t ⟨false, [.d (dI ((a0).length : Int))]⟩) (zlm tabOk rfl rfl (e rfl rfl) .d) rfl rfl ?_
  refine sy _ (zmv rfl (ec rfl)) rfl rfl ?_
  refine s_end ?_
  refine v_block ?_
  refine v_lp (fun (q : Nat × Nat) => [(0, .t ⟨false, [.d (.sl 1 (a0.map encS))]⟩), (1, .t ⟨false, [.d (.cl g1 dc1)]⟩), (7, .t ⟨false, [.d (dI ((a0).length : Int))]⟩), (8, .t ⟨false, [.d (dI (q.2 : Int))]⟩)]) (fun q => []) (fun q => n_slices_IndexFunc_stringL1 a0 p1 q.1 q.2 = r ∧ (q.2 ≤ (a0).length) ∧ (q.2 + q.1 = (a0).length + 1)) (fun q => q.1) ((a0).length + 1, (0 : Nat)) ⟨hr, by (try dsimp only); (try simp only [List.length_nil, List.length_cons, List.length_replicate]); first | done | omega | exact Nat.zero_le _, by (try dsimp only); (try simp only [List.length_nil, List.length_cons, List.length_replicate]); first | done | omega | exact Nat.zero_le _⟩ ⟨rfl, rfl, rfl, rfl, trivial⟩ trivial rfl (fun q hq => ?_)
  obtain ⟨n, z8⟩ := q
  obtain ⟨hr, hi1x0, hi1x1⟩ := hq
  dsimp only at hr hi1x0 hi1x1
  show VWp _ _ _ (mk [(0, .t ⟨false, [.d (.sl 1 (a0.map encS))]⟩), (1, .t ⟨false, [.d (.cl g1 dc1)]⟩), (7, .t ⟨false, [.d (dI ((a0).length : Int))]⟩), (8, .t ⟨false, [.d (dI (z8 : Int))]⟩)] _ [])
  rcases n with _ | n
  · exfalso; omega
  rw [n_slices_IndexFunc_stringL1] at hr
  refine v_seq ?_
  refine v_reg ?_
  refine sy (.t ⟨false, [.d (dB (decide (((z8 : Int)) < (((a0).length : Int)))))]⟩) (y_bin rfl (e rfl rfl) (e rfl rfl) (fun _ => b_lss) rfl) rfl rfl ?_
  refine s_end ?_
  refine v_seq ?_
  refine v_cond (e rfl rfl) (fun hb1 => ?_) fun hb1 => ?_
  · replace hr := bf_t hb1 hr
    have hb1p := dec_t hb1
    refine v_skip ?_
    refine v_seq ?_
    refine v_block ?_
    refine v_seq ?_
    refine v_reg ?_
    refine sy _ (zmv rfl (e rfl rfl)) rfl rfl ?_
    refine sy _ (zas rfl (e rfl rfl)) rfl rfl ?_
    refine s_end ?_
    refine v_seq ?_
    refine v_reg ?_
    refine sy _ (zmv rfl (e rfl rfl)) rfl rfl ?_
    refine sy _ (zmv rfl (e rfl rfl)) rfl rfl ?_
    refine sy _ (zmv rfl (e rfl rfl)) rfl rfl ?_
    obtain ⟨x1, hx1⟩ : ∃ x, (a0)[z8]? = some x := some_of_lt (by omega)
    replace hr := at_step hx1 hr
    have hfx1 := h0.2 _ (List.mem_of_getElem? hx1)
    refine sy (.t ⟨false, [.fe 1 (a0.map encS) z8 0]⟩) (zix tabOk rfl rfl rfl (e rfl rfl) (e rfl rfl) (ltm_of_some hx1)) rfl rfl ?_
    refine sy (.t ⟨false, [.d (dS (x1))]⟩) (zle tabOk rfl (e rfl rfl) (getm hx1) rfl rfl) rfl rfl ?_
    refine sd (.t ⟨false, [.d (dB (p1 x1))]⟩) (zcallv 0 (.t ⟨false, [.d (dB (p1 x1))]⟩) [] rfl (e rfl rfl) (hp1 x1 hfx1) (ar (e rfl rfl) (.d .nil) .nil) rfl (free0 rfl) rfl rfl) rfl rfl rfl rfl ?_
    refine s_end ?_
    refine v_cond (e rfl rfl) (fun hb2 => ?_) fun hb2 => ?_
    · replace hr := bf_t hb2 hr
      refine v_seq ?_
      refine v_reg ?_
      refine sy _ (zmv rfl (e rfl rfl)) rfl rfl ?_
      refine sy _ (zas rfl (e rfl rfl)) rfl rfl ?_
      refine s_end ?_
      refine v_ret ?_
      subst hr
      exact post_ret (rv (.tmp (eg rfl rfl)) rfl (.lf .nil) rfl .nil) (.ro (.ro .nil)) rfl
    replace hr := bf_f hb2 hr
    refine v_skip ?_
    refine blk_norm ?_
    refine v_reg ?_
    refine sy (.t ⟨false, [.d (dI (z8 + 1 : Int))]⟩) (y_bin rfl (e rfl rfl) (ec rfl) (fun _ => b_addn (by omega) (by omega)) rfl) rfl rfl ?_
    refine sy _ (zmv rfl (e rfl rfl)) rfl rfl ?_
    refine s_end ?_
    exact lp_next (n, z8 + 1) ⟨hr, by (try simp only [List.length_append, List.length_cons, List.length_nil, List.length_set]); first | done | omega, by (try simp only [List.length_append, List.length_cons, List.length_nil, List.length_set]); first | done | omega⟩ (Nat.lt_succ_self _) ⟨rfl, rfl, rfl, rfl, trivial⟩ trivial rfl
  replace hr := bf_f hb1 hr
  have hb1p := dec_f hb1
  refine v_exit ?_
  refine then_exit ?_
  refine loop_exit ?_
  refine blk_hit ?_
  refine v_seq ?_
  refine v_reg ?_
  refine sy _ (zas rfl (ec rfl)) rfl rfl ?_
  refine s_end ?_
  refine v_ret ?_
  subst hr
  exact post_ret (rv (.tmp (eg rfl rfl)) rfl (.lf .nil) rfl .nil) (.ro (.ro .nil)) rfl
theorem n_slices_IndexFunc_string_rng (xs : List ByteArray) (p : ByteArray → Bool) : -1 ≤ n_slices_IndexFunc_string xs p ∧ n_slices_IndexFunc_string xs p < (xs.length : Int) := idx_rng (p := p) (f := n_slices_IndexFunc_stringL1 xs p) (fun n i => rfl) (xs.length + 1) 0 (Nat.zero_le _) (Nat.zero_add _)
end Go.Proofs.YtglilpigoocgeaaGreatDoor.V
