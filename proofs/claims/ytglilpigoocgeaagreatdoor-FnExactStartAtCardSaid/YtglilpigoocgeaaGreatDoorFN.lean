/-
  Names put together, names above.
-/
import Derived.Test.YtglilpigoocgeaaGreatDoorVE
import Derived.Test.YtglilpigoocgeaaGreatDoorN
import Derived.Test.YtglilpigoocgeaaGreatDoorFT
import Derived.Test.YtglilpigoocgeaaGreatDoorFD
import Derived.Test.YtglilpigoocgeaaGreatDoorFA
namespace Go.Proofs.YtglilpigoocgeaaGreatDoor.V
open Go
set_option linter.unusedVariables false
set_option linter.unusedSimpArgs false
def n_spec_JoinLabelsL1 (a0 : List ByteArray) : Nat → ByteArray → Nat → ByteArray
  | 0, _, _ => default
  | n + 1, s, i => cond (decide (((i : Int)) < (((a0).length : Int)))) (cond (decide ((0) < ((i : Int)))) (bindv (s ++ (⟨#[46]⟩ : ByteArray)) (fun v1 => atL (a0) (i) (fun x2 => bindv (v1 ++ x2) (fun v3 => n_spec_JoinLabelsL1 a0 n v3 (i + 1))))) (atL (a0) (i) (fun x4 => bindv (s ++ x4) (fun v5 => n_spec_JoinLabelsL1 a0 n v5 (i + 1))))) (s)
def n_spec_JoinLabels (a0 : List ByteArray) : ByteArray := n_spec_JoinLabelsL1 a0 ((a0).length + 1) ((⟨#[]⟩ : ByteArray)) 0
set_option maxHeartbeats 4000000 in
set_option maxRecDepth 20000 in
theorem tr_n_spec_JoinLabels (a0 : List ByteArray) (h0 : fitL fitS a0) : Tr Tryz.prog 56 [.ro ⟨false, [.sl 1 (a0.map encS)]⟩] [⟨false, [dS ((n_spec_JoinLabels a0))]⟩] := by
  obtain ⟨r, hr⟩ : ∃ r, n_spec_JoinLabels a0 = r := ⟨_, rfl⟩
  rw [hr]
  rw [n_spec_JoinLabels] at hr
  refine tr_go tabOk Tryz.func56 rfl rfl rfl rfl rfl (ov := [(0, .t ⟨false, [.d (.sl 1 (a0.map encS))]⟩)]) (hv := []) rfl rfl ?_
  refine v_seq ?_
  refine v_reg ?_
  refine sy _ (zas rfl (ec rfl)) rfl rfl ?_
  refine s_end ?_
  refine v_seq ?_
  refine v_reg ?_
  refine sy _ (zas rfl (ec rfl)) rfl rfl ?_
  refine s_end ?_
  refine v_seq ?_
  refine v_seq ?_
  refine v_reg ?_
  refine sy _ (zas rfl (ec rfl)) rfl rfl ?_
  refine s_end ?_
  refine v_block ?_
  refine v_lp (fun (q : Nat × ByteArray × Nat) => [(0, .t ⟨false, [.d (.sl 1 (a0.map encS))]⟩), (3, .t ⟨false, [.d (dS (q.2.1))]⟩), (4, .t ⟨false, [.d (dI (q.2.2 : Int))]⟩)]) (fun q => []) (fun q => n_spec_JoinLabelsL1 a0 q.1 q.2.1 q.2.2 = r ∧ (q.2.2 ≤ (a0).length) ∧ (q.2.2 + q.1 = (a0).length + 1) ∧ (q.2.1.size ≤ q.2.2 * 2097153)) (fun q => q.1) ((a0).length + 1, ((⟨#[]⟩ : ByteArray) : ByteArray), (0 : Nat)) ⟨hr, by (try dsimp only); (try simp only [List.length_nil, List.length_cons, List.length_replicate]); first | done | omega | exact Nat.zero_le _, by (try dsimp only); (try simp only [List.length_nil, List.length_cons, List.length_replicate]); first | done | omega | exact Nat.zero_le _, by (try dsimp only); (try simp only [List.length_nil, List.length_cons, List.length_replicate]); first | done | omega | exact Nat.zero_le _⟩ ⟨rfl, rfl, rfl, trivial⟩ trivial rfl (fun q hq => ?_)
  obtain ⟨n, s, i⟩ := q
  obtain ⟨hr, hi1x0, hi1x1, hi1x2⟩ := hq
  dsimp only at hr hi1x0 hi1x1 hi1x2
  show VWp _ _ _ (mk [(0, .t ⟨false, [.d (.sl 1 (a0.map encS))]⟩), (3, .t ⟨false, [.d (dS (s))]⟩), (4, .t ⟨false, [.d (dI (i : Int))]⟩)] _ [])
  rcases n with _ | n
  · exfalso; omega
  rw [n_spec_JoinLabelsL1] at hr
  refine v_seq ?_
  refine v_seq ?_
  refine v_reg ?_
  refine sy _ (zmv rfl (e rfl rfl)) rfl rfl ?_
  refine sy _ (zmv rfl (e rfl rfl)) rfl rfl ?_
  have hB1 := (h0).1
  refine sy (.t ⟨false, [.d (dI ((a0).length : Int))]⟩) (zlm tabOk rfl rfl (e rfl rfl) .d) rfl rfl ?_
  refine sy (.t ⟨false, [.d (dB (decide (((i : Int)) < (((a0).length : Int)))))]⟩) (y_bin rfl (e rfl rfl) (e rfl rfl) (fun _ => b_lss) rfl) rfl rfl ?_
  refine s_end ?_
  refine v_cond (e rfl rfl) (fun hb1 => ?_) fun hb1 => ?_
  · replace hr := bf_t hb1 hr
    have hb1p := dec_t hb1
    refine v_skip ?_
    refine v_seq ?_
    refine v_block ?_
    refine v_seq ?_
    refine v_seq ?_
    refine v_reg ?_
    refine sy _ (zmv rfl (e rfl rfl)) rfl rfl ?_
    refine sy (.t ⟨false, [.d (dB (decide ((0) < ((i : Int)))))]⟩) (y_bin rfl (e rfl rfl) (ec rfl) (fun _ => b_gtr) rfl) rfl rfl ?_
    refine s_end ?_
    refine v_cond (e rfl rfl) (fun hb2 => ?_) fun hb2 => ?_
    · replace hr := bf_t hb2 hr
      have hb2p := dec_t hb2
      refine v_reg ?_
      refine sy _ (zmv rfl (e rfl rfl)) rfl rfl ?_
      have hB3 : ((⟨#[46]⟩ : ByteArray)).size = 1 := rfl
      obtain ⟨v1, ev1⟩ : ∃ v : ByteArray, v = s ++ (⟨#[46]⟩ : ByteArray) := ⟨_, rfl⟩
      replace hr := bv_step ev1 hr
      have ev1z := size_app ev1
      refine sy (.t ⟨false, [.d (dS (v1))]⟩) (by rw [ev1]; exact y_bin rfl (e rfl rfl) (ec rfl) (fun _ => b_sadd (by omega)) rfl) rfl rfl ?_
      refine sy _ (zas rfl (e rfl rfl)) rfl rfl ?_
      refine s_end ?_
      refine v_reg ?_
      refine sy _ (zmv rfl (e rfl rfl)) rfl rfl ?_
      refine sy _ (zmv rfl (e rfl rfl)) rfl rfl ?_
      refine sy _ (zmv rfl (e rfl rfl)) rfl rfl ?_
      obtain ⟨x2, hx2⟩ : ∃ x, (a0)[i]? = some x := some_of_lt (by omega)
      replace hr := at_step hx2 hr
      have hfx2 := h0.2 _ (List.mem_of_getElem? hx2)
      refine sy (.t ⟨false, [.fe 1 (a0.map encS) i 0]⟩) (zix tabOk rfl rfl rfl (e rfl rfl) (e rfl rfl) (ltm_of_some hx2)) rfl rfl ?_
      refine sy (.t ⟨false, [.d (dS (x2))]⟩) (zle tabOk rfl (e rfl rfl) (getm hx2) rfl rfl) rfl rfl ?_
      have hB5 : (x2).size ≤ 2097152 := hfx2
      obtain ⟨v3, ev3⟩ : ∃ v : ByteArray, v = v1 ++ x2 := ⟨_, rfl⟩
      replace hr := bv_step ev3 hr
      have ev3z := size_app ev3
      refine sy (.t ⟨false, [.d (dS (v3))]⟩) (by rw [ev3]; exact y_bin rfl (e rfl rfl) (e rfl rfl) (fun _ => b_sadd (by omega)) rfl) rfl rfl ?_
      refine sy _ (zas rfl (e rfl rfl)) rfl rfl ?_
      refine s_end ?_
      refine blk_norm ?_
      refine v_reg ?_
      refine sy _ (zmv rfl (e rfl rfl)) rfl rfl ?_
      refine sy (.t ⟨false, [.d (dI (i + 1 : Int))]⟩) (y_bin rfl (e rfl rfl) (ec rfl) (fun _ => b_addn (by omega) (by omega)) rfl) rfl rfl ?_
      refine sy _ (zas rfl (e rfl rfl)) rfl rfl ?_
      refine s_end ?_
      exact lp_next (n, v3, i + 1) ⟨hr, by (try simp only [List.length_append, List.length_cons, List.length_nil, List.length_set]); first | done | omega, by (try simp only [List.length_append, List.length_cons, List.length_nil, List.length_set]); first | done | omega, by (try simp only [List.length_append, List.length_cons, List.length_nil, List.length_set]); first | done | omega⟩ (Nat.lt_succ_self _) ⟨rfl, rfl, rfl, trivial⟩ trivial rfl
    replace hr := bf_f hb2 hr
    have hb2p := dec_f hb2
    refine v_skip ?_
    refine v_reg ?_
    refine sy _ (zmv rfl (e rfl rfl)) rfl rfl ?_
    refine sy _ (zmv rfl (e rfl rfl)) rfl rfl ?_
    refine sy _ (zmv rfl (e rfl rfl)) rfl rfl ?_
    obtain ⟨x4, hx4⟩ : ∃ x, (a0)[i]? = some x := some_of_lt (by omega)
    replace hr := at_step hx4 hr
    have hfx4 := h0.2 _ (List.mem_of_getElem? hx4)
    refine sy (.t ⟨false, [.fe 1 (a0.map encS) i 0]⟩) (zix tabOk rfl rfl rfl (e rfl rfl) (e rfl rfl) (ltm_of_some hx4)) rfl rfl ?_
    refine sy (.t ⟨false, [.d (dS (x4))]⟩) (zle tabOk rfl (e rfl rfl) (getm hx4) rfl rfl) rfl rfl ?_
    have hB3 : (x4).size ≤ 2097152 := hfx4
    obtain ⟨v5, ev5⟩ : ∃ v : ByteArray, v = s ++ x4 := ⟨_, rfl⟩
    replace hr := bv_step ev5 hr
    have ev5z := size_app ev5
    refine sy (.t ⟨false, [.d (dS (v5))]⟩) (by rw [ev5]; exact y_bin rfl (e rfl rfl) (e rfl rfl) (fun _ => b_sadd (by omega)) rfl) rfl rfl ?_
    refine sy _ (zas rfl (e rfl rfl)) rfl rfl ?_
    refine s_end ?_
    refine blk_norm ?_
    refine v_reg ?_
    refine sy _ (zmv rfl (e rfl rfl)) rfl rfl ?_
    refine sy (.t ⟨false, [.d (dI (i + 1 : Int))]⟩) (y_bin rfl (e rfl rfl) (ec rfl) (fun _ => b_addn (by omega) (by omega)) rfl) rfl rfl ?_
    refine sy _ (zas rfl (e rfl rfl)) rfl rfl ?_
    refine s_end ?_
    exact lp_next (n, v5, i + 1) ⟨hr, by (try simp only [List.length_append, List.length_cons, List.length_nil, List.length_set]); first | done | omega, by (try simp only [List.length_append, List.length_cons, List.length_nil, List.length_set]); first | done | omega, by (try simp only [List.length_append, List.length_cons, List.length_nil, List.length_set]); first | done | omega⟩ (Nat.lt_succ_self _) ⟨rfl, rfl, rfl, trivial⟩ trivial rfl
  replace hr := bf_f hb1 hr
  have hb1p := dec_f hb1
  refine v_exit ?_
  refine then_exit ?_
  refine loop_exit ?_
  refine blk_hit ?_
  refine v_seq ?_
  refine v_reg ?_
  refine sy _ (zmv rfl (e rfl rfl)) rfl rfl ?_
  refine sy _ (zas rfl (e rfl rfl)) rfl rfl ?_
  refine s_end ?_
  refine v_ret ?_
  subst hr
  exact post_ret (rv (.tmp (eg rfl rfl)) rfl (.lf .nil) rfl .nil) (.ro .nil) rfl
def n_impl_JoinLabels (a0 : List ByteArray) : ByteArray := bindv (joinB a0 ((⟨#[46]⟩ : ByteArray))) (fun v1 => v1)
set_option maxHeartbeats 4000000 in
set_option maxRecDepth 20000 in
theorem tr_n_impl_JoinLabels (a0 : List ByteArray) (h0 : fitL fitS a0) : Tr Tryz.prog 65 [.ro ⟨false, [.sl 1 (a0.map encS)]⟩] [⟨false, [dS ((n_impl_JoinLabels a0))]⟩] := by
  obtain ⟨r, hr⟩ : ∃ r, n_impl_JoinLabels a0 = r := ⟨_, rfl⟩
  rw [hr]
  rw [n_impl_JoinLabels] at hr
  refine tr_go tabOk Tryz.func65 rfl rfl rfl rfl rfl (ov := [(0, .t ⟨false, [.d (.sl 1 (a0.map encS))]⟩)]) (hv := []) rfl rfl ?_
  refine v_seq ?_
  refine v_reg ?_
  refine sy _ (zas rfl (ec rfl)) rfl rfl ?_
  refine s_end ?_
  refine v_seq ?_
  refine v_reg ?_
  refine sy _ (zmv rfl (e rfl rfl)) rfl rfl ?_
  obtain ⟨v1, ev1⟩ : ∃ v : ByteArray, v = joinB a0 ((⟨#[46]⟩ : ByteArray)) := ⟨_, rfl⟩
  replace hr := bv_step ev1 hr
  refine sd (.t ⟨false, [.d (dS (v1))]⟩) (zcd (.t ⟨false, [.d (dS (v1))]⟩) rfl (by rw [ev1]; exact (tr_n_strings_Join a0 ((⟨#[46]⟩ : ByteArray)) h0 ((fitS_lit (⟨#[46]⟩ : ByteArray) (Nat.le_of_ble_eq_true rfl)))) : Tr Tryz.prog 78 _ [⟨false, [dS (v1)]⟩]) (ar (e rfl rfl) (.d .nil) (ar (ec rfl) (.d .nil) .nil)) rfl) rfl rfl rfl rfl ?_
  refine sy _ (zas rfl (e rfl rfl)) rfl rfl ?_
  refine s_end ?_
  refine v_ret ?_
  subst hr
  exact post_ret (rv (.tmp (eg rfl rfl)) rfl (.lf .nil) rfl .nil) (.ro .nil) rfl
def dotB : ByteArray := ⟨#[46]⟩
def jtail : List ByteArray → ByteArray
  | [] => ⟨#[]⟩
  | x :: r => dotB ++ (x ++ jtail r)
theorem jtail_list : ∀ (r : List ByteArray), (jtail r).data.toList = Lib.joinTail [46] (r.map (·.data.toList))
  | [] => rfl
  | x :: r => by
    simp only [jtail, ba_app, jtail_list r]
    simp [Lib.joinTail, dotB]
theorem joinB_nil (p : ByteArray) : joinB [] p = ⟨#[]⟩ := by simp [joinB, Lib.join_nil]
theorem joinB_cons (x : ByteArray) (r : List ByteArray) : joinB (x :: r) (⟨#[46]⟩ : ByteArray) = x ++ jtail r := by
  apply ba_list
  rw [ba_app, jtail_list]
  simp only [joinB, List.map_cons, Lib.join_cons]
theorem spec_JoinLabels_eq (l : List ByteArray) : n_spec_JoinLabels l = joinB l (⟨#[46]⟩ : ByteArray) := by
  have key : ∀ (n i : Nat) (s : ByteArray), 1 ≤ i → i ≤ l.length → i + n = l.length + 1 → n_spec_JoinLabelsL1 l n s i = s ++ jtail (l.drop i) := by
    intro n
    induction n with
    | zero => intro i s h0 h1 h2; omega
    | succ n ih =>
      intro i s h0 h1 h2
      rw [n_spec_JoinLabelsL1]
      rcases Nat.lt_or_ge i l.length with h | h
      · have e : (decide ((i : Int) < (l.length : Int))) = true := by simp; omega
        have e2 : (decide ((0 : Int) < (i : Int))) = true := by simp; omega
        rw [e, e2]
        simp only [cond_true, bindv]
        rw [atL_lt h, ih (i + 1) _ (by omega) (by omega) (by omega), List.drop_eq_getElem_cons h]
        simp only [jtail]
        rw [ByteArray.append_assoc, ByteArray.append_assoc]; rfl
      · have e : (decide ((i : Int) < (l.length : Int))) = false := by simp; omega
        rw [e, cond_false, List.drop_eq_nil_of_le h]
        apply ba_list
        rw [ba_app]; simp [jtail]
  unfold n_spec_JoinLabels
  cases l with
  | nil =>
    rw [joinB_nil, n_spec_JoinLabelsL1]
    rfl
  | cons x r =>
    rw [n_spec_JoinLabelsL1]
    have e : (decide (((0 : Nat) : Int) < ((x :: r).length : Int))) = true := by simp
    have e2 : (decide ((0 : Int) < ((0 : Nat) : Int))) = false := by simp
    rw [e, e2]
    simp only [cond_true, cond_false, bindv]
    show n_spec_JoinLabelsL1 (x :: r) (x :: r).length ((⟨#[]⟩ : ByteArray) ++ x) (0 + 1) = _
    rw [key (x :: r).length (0 + 1) _ (by omega) (by simp) (by omega), joinB_cons]
    apply ba_list
    simp [ba_app]
theorem impl_JoinLabels_eq (l : List ByteArray) : n_impl_JoinLabels l = joinB l (⟨#[46]⟩ : ByteArray) := rfl
theorem splitL_sum : ∀ (l : List UInt8), Lib.lens (splitL l) + (splitL l).length = l.length + 1
  | [] => by simp [splitL, Lib.lens]
  | c :: l => by
    have := splitL_sum l
    simp only [splitL]
    split
    · simp [Lib.lens] at *; omega
    · split
      · rename_i h; rw [h] at this; simp [Lib.lens] at *
      · rename_i x r h
        rw [h] at this
        simp [Lib.lens] at *; omega
theorem lens_drop (L : List (List UInt8)) (k : Nat) : Lib.lens (L.drop k) + (L.drop k).length ≤ Lib.lens L + L.length := by
  induction L generalizing k with
  | nil => simp
  | cons x r ih =>
    cases k with
    | zero => simp
    | succ k =>
      have := ih k
      simp [Lib.lens] at *; omega
theorem joinB_size (L : List ByteArray) : (joinB L (⟨#[46]⟩ : ByteArray)).size ≤ Lib.lens (L.map (·.data.toList)) + L.length := by
  show (joinB L (⟨#[46]⟩ : ByteArray)).data.size ≤ _
  simp only [joinB, List.size_toArray]
  cases L with
  | nil => simp [Lib.join_nil]
  | cons x r =>
    rw [List.map_cons, Lib.join_length]
    simp; omega
theorem LB_sum (s : ByteArray) : Lib.lens ((LB s).map (·.data.toList)) + (LB s).length ≤ s.size + 1 := by
  unfold LB
  split
  · simp [Lib.lens]
  · have := splitL_sum s.data.toList
    rw [size_list] at this
    have e : ((splitL s.data.toList).map toBA).map (·.data.toList) = splitL s.data.toList := by
      rw [List.map_map]
      have : ((fun x : ByteArray => x.data.toList) ∘ toBA) = id := by funext x; simp [toBA]
      rw [this, List.map_id]
    rw [e, List.length_map]; omega
theorem joinB_suffix (s : ByteArray) (k : Nat) : (joinB ((LB s).drop k) (⟨#[46]⟩ : ByteArray)).size ≤ s.size := by
  have h1 := LB_sum s
  have h2 := lens_drop ((LB s).map (·.data.toList)) k
  rw [List.length_drop, List.length_map] at h2
  show (joinB _ _).data.size ≤ _
  cases hx : (LB s).drop k with
  | nil => simp [joinB, Lib.join_nil]
  | cons x r =>
    have e : ((LB s).map (·.data.toList)).drop k = (x :: r).map (·.data.toList) := by rw [← hx, List.map_drop]
    have e2 : (LB s).length - k = r.length + 1 := by have := congrArg List.length hx; simpa using this
    rw [e, e2] at h2
    simp only [joinB, List.size_toArray, List.map_cons]
    rw [Lib.join_length]
    simp only [List.map_cons] at h2
    simp only [List.length_map, List.length_cons, List.length_nil]
    omega
theorem fit_join_suffix {s : ByteArray} {x l : List ByteArray} {k : Nat} (e2 : x = l.drop k) (e1 : l = LB s) (h : fitS s) : fitS (joinB x (⟨#[46]⟩ : ByteArray)) := by
  subst e1; subst e2
  exact Nat.le_trans (joinB_suffix s k) h
theorem tr2_n_spec_JoinLabels (a0 : List ByteArray) (h0 : fitL fitS a0) : Tr Tryz.prog 56 [.ro ⟨false, [.sl 1 (a0.map encS)]⟩] [⟨false, [dS ((joinB a0 (⟨#[46]⟩ : ByteArray)))]⟩] := by
  have := tr_n_spec_JoinLabels a0 h0
  rwa [spec_JoinLabels_eq a0] at this
theorem tr2_n_impl_JoinLabels (a0 : List ByteArray) (h0 : fitL fitS a0) : Tr Tryz.prog 65 [.ro ⟨false, [.sl 1 (a0.map encS)]⟩] [⟨false, [dS ((joinB a0 (⟨#[46]⟩ : ByteArray)))]⟩] := by
  have := tr_n_impl_JoinLabels a0 h0
  rwa [impl_JoinLabels_eq a0] at this
def n_spec_AboveL1 (v1 : List ByteArray) : Nat → (List ByteArray) → Nat → (List ByteArray)
  | 0, _, _ => default
  | n + 1, l0, i => cond (decide (((i : Int)) ≤ (((v1).length : Int)))) (bindv ((v1).drop i) (fun v2 => bindv (joinB v2 (⟨#[46]⟩ : ByteArray)) (fun v3 => n_spec_AboveL1 v1 n (l0 ++ ([v3] : List ByteArray)) (i + 1)))) (l0)
def n_spec_Above (a0 : ByteArray) : List ByteArray := bindv (LB a0) (fun v1 => n_spec_AboveL1 v1 ((v1).length + 1 + 1 - 1) (([a0] : List ByteArray)) 1)
set_option maxHeartbeats 4000000 in
set_option maxRecDepth 20000 in
theorem tr_n_spec_Above (a0 : ByteArray) (h0 : fitS a0) : Tr Tryz.prog 35 [.ro ⟨false, [dS (a0)]⟩] [⟨false, [.sl 1 (((n_spec_Above a0)).map encS)]⟩] := by
  obtain ⟨r, hr⟩ : ∃ r, n_spec_Above a0 = r := ⟨_, rfl⟩
  rw [hr]
  rw [n_spec_Above] at hr
  refine tr_go tabOk Tryz.func35 rfl rfl rfl rfl rfl (ov := [(0, .t ⟨false, [.d (dS (a0))]⟩)]) (hv := []) rfl rfl ?_
  refine v_seq ?_
  refine v_reg ?_
  refine sy _ (zas rfl (en 1)) rfl rfl ?_
  refine s_end ?_
  refine v_seq ?_
  refine v_reg ?_
  refine sy _ (zmv rfl (e rfl rfl)) rfl rfl ?_
  refine sbk 0 (.t ⟨false, [.sr 0 1 0 ((([a0] : List ByteArray).map encS).length) ((([a0] : List ByteArray).map encS).length)]⟩) (.row 1 (([a0] : List ByteArray).map encS) true 1 0) (zbu tabOk rfl rfl rfl rfl (pd0 (e rfl rfl) rfl (.lf .nil) rfl .nil) rfl rfl) rfl rfl ?_
  refine sy _ (zas rfl (e rfl rfl)) rfl rfl ?_
  refine s_end ?_
  refine v_seq ?_
  refine v_reg ?_
  refine sy _ (zmv rfl (e rfl rfl)) rfl rfl ?_
  obtain ⟨v1, ev1⟩ : ∃ v : List ByteArray, v = LB a0 := ⟨_, rfl⟩
  replace hr := bv_step ev1 hr
  have hfv1 : fitL fitS v1 := by rw [ev1]; exact fit_LB a0 h0
  have hq1 : (v1).length ≤ 2097153 := by rw [ev1]; exact LB_len a0 h0
  refine sd (.t ⟨false, [.d (.sl 1 (v1.map encS))]⟩) (zcd (.t ⟨false, [.d (.sl 1 (v1.map encS))]⟩) rfl (by rw [ev1]; exact (tr2_n_spec_Labels a0 h0) : Tr Tryz.prog 55 _ [⟨false, [.sl 1 (v1.map encS)]⟩]) (ar (e rfl rfl) (.d .nil) .nil) rfl) rfl rfl rfl rfl ?_
  refine sy _ (zas rfl (e rfl rfl)) rfl rfl ?_
  refine s_end ?_
  refine v_seq ?_
  refine v_seq ?_
  refine v_reg ?_
  refine sy _ (zas rfl (ec rfl)) rfl rfl ?_
  refine s_end ?_
  refine v_block ?_
  refine v_lp (fun (q : Nat × List ByteArray × Nat × Nat × Nat) => [(3, .t ⟨false, [.sr 0 q.2.2.2.1 0 (((q.2.1).map encS).length) (((q.2.1).map encS).length)]⟩), (4, .t ⟨false, [.d (.sl 1 (v1.map encS))]⟩), (5, .t ⟨false, [.d (dI (q.2.2.1 : Int))]⟩)]) (fun q => [(0, .row 1 ((q.2.1).map encS) true q.2.2.2.1 q.2.2.2.2)]) (fun q => n_spec_AboveL1 v1 q.1 q.2.1 q.2.2.1 = r ∧ (q.2.2.1 ≤ (v1).length + 1) ∧ (q.2.2.1 + q.1 = (v1).length + 1 + 1) ∧ (q.2.1.length ≤ q.2.2.1) ∧ (fitL fitS q.2.1)) (fun q => q.1) ((v1).length + 1 + 1 - 1, (([a0] : List ByteArray) : List ByteArray), (1 : Nat), 1, 0) ⟨hr, by (try dsimp only); (try simp only [List.length_nil, List.length_cons, List.length_replicate]); first | done | omega | exact Nat.zero_le _, by (try dsimp only); (try simp only [List.length_nil, List.length_cons, List.length_replicate]); first | done | omega | exact Nat.zero_le _, by (try dsimp only); (try simp only [List.length_nil, List.length_cons, List.length_replicate]); first | done | omega | exact Nat.zero_le _, fitL_one h0⟩ ⟨rfl, rfl, rfl, trivial⟩ ⟨rfl, trivial⟩ rfl (fun q hq => ?_)
  obtain ⟨n, l0, i, g0, w0⟩ := q
  obtain ⟨hr, hi1x0, hi1x1, hi1x2, hi1x3⟩ := hq
  dsimp only at hr hi1x0 hi1x1 hi1x2 hi1x3
  show VWp _ _ _ (mk [(3, .t ⟨false, [.sr 0 g0 0 (((l0).map encS).length) (((l0).map encS).length)]⟩), (4, .t ⟨false, [.d (.sl 1 (v1.map encS))]⟩), (5, .t ⟨false, [.d (dI (i : Int))]⟩)] _ [(0, .row 1 ((l0).map encS) true g0 w0)])
  rcases n with _ | n
  · exfalso; omega
  rw [n_spec_AboveL1] at hr
  refine v_seq ?_
  refine v_seq ?_
  refine v_reg ?_
  refine sy _ (zmv rfl (e rfl rfl)) rfl rfl ?_
  refine sy _ (zmv rfl (e rfl rfl)) rfl rfl ?_
  have hB1 := (hfv1).1
  refine sy (.t ⟨false, [.d (dI ((v1).length : Int))]⟩) (zlm tabOk rfl rfl (e rfl rfl) .d) rfl rfl ?_
  refine sy (.t ⟨false, [.d (dB (decide (((i : Int)) ≤ (((v1).length : Int)))))]⟩) (y_bin rfl (e rfl rfl) (e rfl rfl) (fun _ => b_leq) rfl) rfl rfl ?_
  refine s_end ?_
  refine v_cond (e rfl rfl) (fun hb2 => ?_) fun hb2 => ?_
  · replace hr := bf_t hb2 hr
    have hb2p := dec_t hb2
    refine v_skip ?_
    refine v_seq ?_
    refine v_block ?_
    refine v_reg ?_
    refine sy _ (zmv rfl (e rfl rfl)) rfl rfl ?_
    refine sy _ (zmv rfl (e rfl rfl)) rfl rfl ?_
    refine sy _ (zmv rfl (e rfl rfl)) rfl rfl ?_
    obtain ⟨v2, ev2⟩ : ∃ v : List ByteArray, v = (v1).drop i := ⟨_, rfl⟩
    replace hr := bv_step ev2 hr
    have hl3 : i ≤ (v1).length := by omega
    have hl3u : (v1).length ≤ (v1).length := by omega
    have hl3z := len_from ev2
    have hfv2 := fit_from ev2 hfv1
    refine sy (.t ⟨false, [.d (.sl 1 (v2.map encS))]⟩) (by rw [ev2]; exact zsx tabOk rfl rfl rfl (e rfl rfl) (sbs (e rfl rfl) rfl) (sbn rfl) (by rw [List.length_map]; exact hl3) (Nat.le_refl _) sl_from) rfl rfl ?_
    obtain ⟨v3, ev3⟩ : ∃ v : ByteArray, v = joinB v2 (⟨#[46]⟩ : ByteArray) := ⟨_, rfl⟩
    replace hr := bv_step ev3 hr
    have hfv3 : fitS v3 := by rw [ev3]; exact fit_join_suffix (by assumption) (by assumption) (by assumption)
    refine sd (.t ⟨false, [.d (dS (v3))]⟩) (zcd (.t ⟨false, [.d (dS (v3))]⟩) rfl (by rw [ev3]; exact (tr2_n_spec_JoinLabels v2 hfv2) : Tr Tryz.prog 56 _ [⟨false, [dS (v3)]⟩]) (ar (e rfl rfl) (.d .nil) .nil) rfl) rfl rfl rfl rfl ?_
    refine sbk 3 (.t ⟨false, [.sr 3 1 0 ((([v3] : List ByteArray).map encS).length) ((([v3] : List ByteArray).map encS).length)]⟩) (.row 1 (([v3] : List ByteArray).map encS) true 1 0) (zbu tabOk rfl rfl rfl rfl (pd0 (e rfl rfl) rfl (.lf .nil) rfl .nil) rfl rfl) rfl rfl ?_
    have hB2 := (hi1x3).1
    refine sa 0 (.t ⟨false, [.sr 0 (g0 + 1) 0 (((l0 ++ ([v3] : List ByteArray)).map encS).length) (((l0 ++ ([v3] : List ByteArray)).map encS).length)]⟩) (.row 1 ((l0 ++ ([v3] : List ByteArray)).map encS) true (g0 + 1) (w0 + 1)) (zap tabOk rfl rfl rfl rfl (e rfl rfl) rfl rfl (e rfl rfl) (.flat rfl le_all take_all (flat_S _)) (ap_big (by simp only [List.length_map, List.length_cons, List.length_nil]; omega) rfl) map_app len_app) rfl rfl ?_
    refine sy _ (zas rfl (e rfl rfl)) rfl rfl ?_
    refine s_end ?_
    refine blk_norm ?_
    refine v_reg ?_
    refine sy _ (zmv rfl (e rfl rfl)) rfl rfl ?_
    refine sy (.t ⟨false, [.d (dI (i + 1 : Int))]⟩) (y_bin rfl (e rfl rfl) (ec rfl) (fun _ => b_addn (by omega) (by omega)) rfl) rfl rfl ?_
    refine sy _ (zas rfl (e rfl rfl)) rfl rfl ?_
    refine s_end ?_
    exact lp_next (n, l0 ++ ([v3] : List ByteArray), i + 1, g0 + 1, w0 + 1) ⟨hr, by (try simp only [List.length_append, List.length_cons, List.length_nil, List.length_set]); first | done | omega, by (try simp only [List.length_append, List.length_cons, List.length_nil, List.length_set]); first | done | omega, by (try simp only [List.length_append, List.length_cons, List.length_nil, List.length_set]); first | done | omega, fitL_snoc hi1x3 (by omega) hfv3⟩ (Nat.lt_succ_self _) ⟨rfl, rfl, rfl, trivial⟩ ⟨rfl, trivial⟩ rfl
  replace hr := bf_f hb2 hr
  have hb2p := dec_f hb2
  refine v_exit ?_
  refine then_exit ?_
  refine loop_exit ?_
  refine blk_hit ?_
  refine v_seq ?_
  refine v_reg ?_
  refine sy _ (zmv rfl (e rfl rfl)) rfl rfl ?_
  refine sy _ (zas rfl (e rfl rfl)) rfl rfl ?_
  refine s_end ?_
  refine v_ret ?_
  subst hr
  exact post_ret (rv (.tmp (eg rfl rfl)) rfl (.sr rfl le_all take_all .nil) rfl .nil) (.ro .nil) rfl
set_option maxHeartbeats 4000000 in
theorem fitx_n_spec_Above (a0 : ByteArray) (h0 : fitS a0) : fitL fitS (n_spec_Above a0) := by
  obtain ⟨r, hr⟩ : ∃ r, n_spec_Above a0 = r := ⟨_, rfl⟩
  rw [hr]
  rw [n_spec_Above] at hr
  obtain ⟨v1, ev1⟩ : ∃ v : List ByteArray, v = LB a0 := ⟨_, rfl⟩
  replace hr := bv_step ev1 hr
  have hfv1 : fitL fitS v1 := by rw [ev1]; exact fit_LB a0 h0
  have hq1 : (v1).length ≤ 2097153 := by rw [ev1]; exact LB_len a0 h0
  refine fx_lp (fun (q : Nat × List ByteArray × Nat × Nat × Nat) => n_spec_AboveL1 v1 q.1 q.2.1 q.2.2.1 = r ∧ (q.2.2.1 ≤ (v1).length + 1) ∧ (q.2.2.1 + q.1 = (v1).length + 1 + 1) ∧ (q.2.1.length ≤ q.2.2.1) ∧ (fitL fitS q.2.1)) (fun q => q.1) ((v1).length + 1 + 1 - 1, (([a0] : List ByteArray) : List ByteArray), (1 : Nat), 1, 0) ⟨hr, by (try dsimp only); (try simp only [List.length_nil, List.length_cons, List.length_replicate]); first | done | omega | exact Nat.zero_le _, by (try dsimp only); (try simp only [List.length_nil, List.length_cons, List.length_replicate]); first | done | omega | exact Nat.zero_le _, by (try dsimp only); (try simp only [List.length_nil, List.length_cons, List.length_replicate]); first | done | omega | exact Nat.zero_le _, fitL_one h0⟩ (fun q hq hn1 => ?_)
  obtain ⟨n, l0, i, g0, w0⟩ := q
  obtain ⟨hr, hi1x0, hi1x1, hi1x2, hi1x3⟩ := hq
  dsimp only at hr hi1x0 hi1x1 hi1x2 hi1x3
  rcases n with _ | n
  · exfalso; omega
  rw [n_spec_AboveL1] at hr
  have hB1 : (v1).length ≤ _ := (hfv1).1
  rcases Bool.eq_false_or_eq_true (decide (((i : Int)) ≤ (((v1).length : Int)))) with hb2 | hb2
  · replace hr := bf_t hb2 hr
    have hb2p := dec_t hb2
    obtain ⟨v2, ev2⟩ : ∃ v : List ByteArray, v = (v1).drop i := ⟨_, rfl⟩
    replace hr := bv_step ev2 hr
    have hl3 : i ≤ (v1).length := by omega
    have hl3u : (v1).length ≤ (v1).length := by omega
    have hl3z := len_from ev2
    have hfv2 := fit_from ev2 hfv1
    obtain ⟨v3, ev3⟩ : ∃ v : ByteArray, v = joinB v2 (⟨#[46]⟩ : ByteArray) := ⟨_, rfl⟩
    replace hr := bv_step ev3 hr
    have hfv3 : fitS v3 := by rw [ev3]; exact fit_join_suffix (by assumption) (by assumption) (by assumption)
    have hB2 : (l0).length ≤ _ := (hi1x3).1
    exact hn1 (n, l0 ++ ([v3] : List ByteArray), i + 1, g0 + 1, w0 + 1) (Nat.lt_succ_self _) ⟨hr, by (try simp only [List.length_append, List.length_cons, List.length_nil, List.length_set]); first | done | omega, by (try simp only [List.length_append, List.length_cons, List.length_nil, List.length_set]); first | done | omega, by (try simp only [List.length_append, List.length_cons, List.length_nil, List.length_set]); first | done | omega, fitL_snoc hi1x3 (by omega) hfv3⟩
  replace hr := bf_f hb2 hr
  have hb2p := dec_f hb2
  subst hr
  exact hi1x3
def n_impl_AboveL1 (v1 : List ByteArray) : Nat → (List ByteArray) → Nat → (List ByteArray)
  | 0, _, _ => default
  | n + 1, l0, z11 => cond (decide (((z11 : Int)) < (((v1).length : Int)))) (bindv ((v1).drop z11) (fun v2 => bindv (joinB v2 (⟨#[46]⟩ : ByteArray)) (fun v3 => n_impl_AboveL1 v1 n (l0 ++ ([v3] : List ByteArray)) (z11 + 1)))) (l0 ++ ([(⟨#[]⟩ : ByteArray)] : List ByteArray))
def n_impl_Above (a0 : ByteArray) : List ByteArray := bindv (LB a0) (fun v1 => n_impl_AboveL1 v1 ((v1).length + 1) (([] : List ByteArray)) 0)
set_option maxHeartbeats 4000000 in
set_option maxRecDepth 20000 in
theorem tr_n_impl_Above (a0 : ByteArray) (h0 : fitS a0) : Tr Tryz.prog 42 [.ro ⟨false, [dS (a0)]⟩] [⟨false, [.sl 1 (((n_impl_Above a0)).map encS)]⟩] := by
  obtain ⟨r, hr⟩ : ∃ r, n_impl_Above a0 = r := ⟨_, rfl⟩
  rw [hr]
  rw [n_impl_Above] at hr
  refine tr_go tabOk Tryz.func42 rfl rfl rfl rfl rfl (ov := [(0, .t ⟨false, [.d (dS (a0))]⟩)]) (hv := []) rfl rfl ?_
  refine v_seq ?_
  refine v_reg ?_
  refine sy _ (zas rfl (en 1)) rfl rfl ?_
  refine s_end ?_
  refine v_seq ?_
  refine v_reg ?_
  refine sbk 0 (.t ⟨false, [.sr 0 1 0 ((([] : List ByteArray).map encS).length) ((([] : List ByteArray).map encS).length)]⟩) (.row 1 (([] : List ByteArray).map encS) true 1 0) (zbu tabOk rfl rfl rfl rfl .nil rfl rfl) rfl rfl ?_
  refine sy _ (zas rfl (e rfl rfl)) rfl rfl ?_
  refine s_end ?_
  refine v_seq ?_
  refine v_reg ?_
  refine sy _ (zmv rfl (e rfl rfl)) rfl rfl ?_
  obtain ⟨v1, ev1⟩ : ∃ v : List ByteArray, v = LB a0 := ⟨_, rfl⟩
  replace hr := bv_step ev1 hr
  have hfv1 : fitL fitS v1 := by rw [ev1]; exact fit_LB a0 h0
  have hq1 : (v1).length ≤ 2097153 := by rw [ev1]; exact LB_len a0 h0
  refine sd (.t ⟨false, [.d (.sl 1 (v1.map encS))]⟩) (zcd (.t ⟨false, [.d (.sl 1 (v1.map encS))]⟩) rfl (by rw [ev1]; exact (tr2_n_impl_Labels a0 h0) : Tr Tryz.prog 64 _ [⟨false, [.sl 1 (v1.map encS)]⟩]) (ar (e rfl rfl) (.d .nil) .nil) rfl) rfl rfl rfl rfl ?_
  refine sy _ (zas rfl (e rfl rfl)) rfl rfl ?_
  refine s_end ?_
  refine v_seq ?_
  refine v_seq ?_
  refine v_reg ?_
  refine sy _ (zmv rfl (e rfl rfl)) rfl rfl ?_
  have hB1 := (hfv1).1
  refine sy (.t ⟨false, [.d (dI ((v1).length : Int))]⟩) (zlm tabOk rfl rfl (e rfl rfl) .d) rfl rfl ?_
  refine sy _ (zmv rfl (ec rfl)) rfl rfl ?_
  refine s_end ?_
  refine v_block ?_
  refine v_lp (fun (q : Nat × List ByteArray × Nat × Nat × Nat) => [(3, .t ⟨false, [.sr 0 q.2.2.2.1 0 (((q.2.1).map encS).length) (((q.2.1).map encS).length)]⟩), (4, .t ⟨false, [.d (.sl 1 (v1.map encS))]⟩), (10, .t ⟨false, [.d (dI ((v1).length : Int))]⟩), (11, .t ⟨false, [.d (dI (q.2.2.1 : Int))]⟩)]) (fun q => [(0, .row 1 ((q.2.1).map encS) true q.2.2.2.1 q.2.2.2.2)]) (fun q => n_impl_AboveL1 v1 q.1 q.2.1 q.2.2.1 = r ∧ (q.2.2.1 ≤ (v1).length) ∧ (q.2.2.1 + q.1 = (v1).length + 1) ∧ (q.2.1.length ≤ q.2.2.1) ∧ (fitL fitS q.2.1)) (fun q => q.1) ((v1).length + 1, (([] : List ByteArray) : List ByteArray), (0 : Nat), 1, 0) ⟨hr, by (try dsimp only); (try simp only [List.length_nil, List.length_cons, List.length_replicate]); first | done | omega | exact Nat.zero_le _, by (try dsimp only); (try simp only [List.length_nil, List.length_cons, List.length_replicate]); first | done | omega | exact Nat.zero_le _, by (try dsimp only); (try simp only [List.length_nil, List.length_cons, List.length_replicate]); first | done | omega | exact Nat.zero_le _, fitL_nil⟩ ⟨rfl, rfl, rfl, rfl, trivial⟩ ⟨rfl, trivial⟩ rfl (fun q hq => ?_)
  obtain ⟨n, l0, z11, g0, w0⟩ := q
  obtain ⟨hr, hi1x0, hi1x1, hi1x2, hi1x3⟩ := hq
  dsimp only at hr hi1x0 hi1x1 hi1x2 hi1x3
  show VWp _ _ _ (mk [(3, .t ⟨false, [.sr 0 g0 0 (((l0).map encS).length) (((l0).map encS).length)]⟩), (4, .t ⟨false, [.d (.sl 1 (v1.map encS))]⟩), (10, .t ⟨false, [.d (dI ((v1).length : Int))]⟩), (11, .t ⟨false, [.d (dI (z11 : Int))]⟩)] _ [(0, .row 1 ((l0).map encS) true g0 w0)])
  rcases n with _ | n
  · exfalso; omega
  rw [n_impl_AboveL1] at hr
  refine v_seq ?_
  refine v_reg ?_
  refine sy (.t ⟨false, [.d (dB (decide (((z11 : Int)) < (((v1).length : Int)))))]⟩) (y_bin rfl (e rfl rfl) (e rfl rfl) (fun _ => b_lss) rfl) rfl rfl ?_
  refine s_end ?_
  refine v_seq ?_
  refine v_cond (e rfl rfl) (fun hb2 => ?_) fun hb2 => ?_
  · replace hr := bf_t hb2 hr
    have hb2p := dec_t hb2
    refine v_skip ?_
    refine v_seq ?_
    refine v_block ?_
    refine v_seq ?_
    refine v_reg ?_
    refine sy _ (zmv rfl (e rfl rfl)) rfl rfl ?_
    refine sy _ (zas rfl (e rfl rfl)) rfl rfl ?_
    refine s_end ?_
    refine v_reg ?_
    refine sy _ (zmv rfl (e rfl rfl)) rfl rfl ?_
    refine sy _ (zmv rfl (e rfl rfl)) rfl rfl ?_
    refine sy _ (zmv rfl (e rfl rfl)) rfl rfl ?_
    obtain ⟨v2, ev2⟩ : ∃ v : List ByteArray, v = (v1).drop z11 := ⟨_, rfl⟩
    replace hr := bv_step ev2 hr
    have hl3 : z11 ≤ (v1).length := by omega
    have hl3u : (v1).length ≤ (v1).length := by omega
    have hl3z := len_from ev2
    have hfv2 := fit_from ev2 hfv1
    refine sy (.t ⟨false, [.d (.sl 1 (v2.map encS))]⟩) (by rw [ev2]; exact zsx tabOk rfl rfl rfl (e rfl rfl) (sbs (e rfl rfl) rfl) (sbn rfl) (by rw [List.length_map]; exact hl3) (Nat.le_refl _) sl_from) rfl rfl ?_
    obtain ⟨v3, ev3⟩ : ∃ v : ByteArray, v = joinB v2 (⟨#[46]⟩ : ByteArray) := ⟨_, rfl⟩
    replace hr := bv_step ev3 hr
    have hfv3 : fitS v3 := by rw [ev3]; exact fit_join_suffix (by assumption) (by assumption) (by assumption)
    refine sd (.t ⟨false, [.d (dS (v3))]⟩) (zcd (.t ⟨false, [.d (dS (v3))]⟩) rfl (by rw [ev3]; exact (tr2_n_impl_JoinLabels v2 hfv2) : Tr Tryz.prog 65 _ [⟨false, [dS (v3)]⟩]) (ar (e rfl rfl) (.d .nil) .nil) rfl) rfl rfl rfl rfl ?_
    refine sbk 3 (.t ⟨false, [.sr 3 1 0 ((([v3] : List ByteArray).map encS).length) ((([v3] : List ByteArray).map encS).length)]⟩) (.row 1 (([v3] : List ByteArray).map encS) true 1 0) (zbu tabOk rfl rfl rfl rfl (pd0 (e rfl rfl) rfl (.lf .nil) rfl .nil) rfl rfl) rfl rfl ?_
    have hB2 := (hi1x3).1
    refine sa 0 (.t ⟨false, [.sr 0 (g0 + 1) 0 (((l0 ++ ([v3] : List ByteArray)).map encS).length) (((l0 ++ ([v3] : List ByteArray)).map encS).length)]⟩) (.row 1 ((l0 ++ ([v3] : List ByteArray)).map encS) true (g0 + 1) (w0 + 1)) (zap tabOk rfl rfl rfl rfl (e rfl rfl) rfl rfl (e rfl rfl) (.flat rfl le_all take_all (flat_S _)) (ap_big (by simp only [List.length_map, List.length_cons, List.length_nil]; omega) rfl) map_app len_app) rfl rfl ?_
    refine sy _ (zas rfl (e rfl rfl)) rfl rfl ?_
    refine s_end ?_
    refine blk_norm ?_
    refine v_reg ?_
    refine sy (.t ⟨false, [.d (dI (z11 + 1 : Int))]⟩) (y_bin rfl (e rfl rfl) (ec rfl) (fun _ => b_addn (by omega) (by omega)) rfl) rfl rfl ?_
    refine sy _ (zmv rfl (e rfl rfl)) rfl rfl ?_
    refine s_end ?_
    exact lp_next (n, l0 ++ ([v3] : List ByteArray), z11 + 1, g0 + 1, w0 + 1) ⟨hr, by (try simp only [List.length_append, List.length_cons, List.length_nil, List.length_set]); first | done | omega, by (try simp only [List.length_append, List.length_cons, List.length_nil, List.length_set]); first | done | omega, by (try simp only [List.length_append, List.length_cons, List.length_nil, List.length_set]); first | done | omega, fitL_snoc hi1x3 (by omega) hfv3⟩ (Nat.lt_succ_self _) ⟨rfl, rfl, rfl, rfl, trivial⟩ ⟨rfl, trivial⟩ rfl
  replace hr := bf_f hb2 hr
  have hb2p := dec_f hb2
  refine v_exit ?_
  refine then_exit ?_
  refine loop_exit ?_
  refine blk_hit ?_
  refine v_seq ?_
  refine v_reg ?_
  refine sy _ (zmv rfl (e rfl rfl)) rfl rfl ?_
  refine sbk 4 (.t ⟨false, [.sr 4 1 0 ((([(⟨#[]⟩ : ByteArray)] : List ByteArray).map encS).length) ((([(⟨#[]⟩ : ByteArray)] : List ByteArray).map encS).length)]⟩) (.row 1 (([(⟨#[]⟩ : ByteArray)] : List ByteArray).map encS) true 1 0) (zbu tabOk rfl rfl rfl rfl (pd0 (ec rfl) rfl (.lf .nil) rfl .nil) rfl rfl) rfl rfl ?_
  have hB2 := (hi1x3).1
  refine sa 0 (.t ⟨false, [.sr 0 (g0 + 1) 0 (((l0 ++ ([(⟨#[]⟩ : ByteArray)] : List ByteArray)).map encS).length) (((l0 ++ ([(⟨#[]⟩ : ByteArray)] : List ByteArray)).map encS).length)]⟩) (.row 1 ((l0 ++ ([(⟨#[]⟩ : ByteArray)] : List ByteArray)).map encS) true (g0 + 1) (w0 + 1)) (zap tabOk rfl rfl rfl rfl (e rfl rfl) rfl rfl (e rfl rfl) (.flat rfl le_all take_all (flat_S _)) (ap_big (by simp only [List.length_map, List.length_cons, List.length_nil]; omega) rfl) map_app len_app) rfl rfl ?_
  refine sy _ (zas rfl (e rfl rfl)) rfl rfl ?_
  refine s_end ?_
  refine v_ret ?_
  subst hr
  exact post_ret (rv (.tmp (eg rfl rfl)) rfl (.sr rfl le_all take_all .nil) rfl .nil) (.ro .nil) rfl
set_option maxHeartbeats 4000000 in
theorem fitx_n_impl_Above (a0 : ByteArray) (h0 : fitS a0) : fitL fitS (n_impl_Above a0) := by
  obtain ⟨r, hr⟩ : ∃ r, n_impl_Above a0 = r := ⟨_, rfl⟩
  rw [hr]
  rw [n_impl_Above] at hr
  obtain ⟨v1, ev1⟩ : ∃ v : List ByteArray, v = LB a0 := ⟨_, rfl⟩
  replace hr := bv_step ev1 hr
  have hfv1 : fitL fitS v1 := by rw [ev1]; exact fit_LB a0 h0
  have hq1 : (v1).length ≤ 2097153 := by rw [ev1]; exact LB_len a0 h0
  have hB1 : (v1).length ≤ _ := (hfv1).1
  refine fx_lp (fun (q : Nat × List ByteArray × Nat × Nat × Nat) => n_impl_AboveL1 v1 q.1 q.2.1 q.2.2.1 = r ∧ (q.2.2.1 ≤ (v1).length) ∧ (q.2.2.1 + q.1 = (v1).length + 1) ∧ (q.2.1.length ≤ q.2.2.1) ∧ (fitL fitS q.2.1)) (fun q => q.1) ((v1).length + 1, (([] : List ByteArray) : List ByteArray), (0 : Nat), 1, 0) ⟨hr, by (try dsimp only); (try simp only [List.length_nil, List.length_cons, List.length_replicate]); first | done | omega | exact Nat.zero_le _, by (try dsimp only); (try simp only [List.length_nil, List.length_cons, List.length_replicate]); first | done | omega | exact Nat.zero_le _, by (try dsimp only); (try simp only [List.length_nil, List.length_cons, List.length_replicate]); first | done | omega | exact Nat.zero_le _, fitL_nil⟩ (fun q hq hn1 => ?_)
  obtain ⟨n, l0, z11, g0, w0⟩ := q
  obtain ⟨hr, hi1x0, hi1x1, hi1x2, hi1x3⟩ := hq
  dsimp only at hr hi1x0 hi1x1 hi1x2 hi1x3
  rcases n with _ | n
  · exfalso; omega
  rw [n_impl_AboveL1] at hr
  rcases Bool.eq_false_or_eq_true (decide (((z11 : Int)) < (((v1).length : Int)))) with hb2 | hb2
  · replace hr := bf_t hb2 hr
    have hb2p := dec_t hb2
    obtain ⟨v2, ev2⟩ : ∃ v : List ByteArray, v = (v1).drop z11 := ⟨_, rfl⟩
    replace hr := bv_step ev2 hr
    have hl3 : z11 ≤ (v1).length := by omega
    have hl3u : (v1).length ≤ (v1).length := by omega
    have hl3z := len_from ev2
    have hfv2 := fit_from ev2 hfv1
    obtain ⟨v3, ev3⟩ : ∃ v : ByteArray, v = joinB v2 (⟨#[46]⟩ : ByteArray) := ⟨_, rfl⟩
    replace hr := bv_step ev3 hr
    have hfv3 : fitS v3 := by rw [ev3]; exact fit_join_suffix (by assumption) (by assumption) (by assumption)
    have hB2 : (l0).length ≤ _ := (hi1x3).1
    exact hn1 (n, l0 ++ ([v3] : List ByteArray), z11 + 1, g0 + 1, w0 + 1) (Nat.lt_succ_self _) ⟨hr, by (try simp only [List.length_append, List.length_cons, List.length_nil, List.length_set]); first | done | omega, by (try simp only [List.length_append, List.length_cons, List.length_nil, List.length_set]); first | done | omega, by (try simp only [List.length_append, List.length_cons, List.length_nil, List.length_set]); first | done | omega, fitL_snoc hi1x3 (by omega) hfv3⟩
  replace hr := bf_f hb2 hr
  have hb2p := dec_f hb2
  have hB2 : (l0).length ≤ _ := (hi1x3).1
  subst hr
  exact (fitL_app hi1x3 ((fitL_one ((fitS_lit (⟨#[]⟩ : ByteArray) (Nat.le_of_ble_eq_true rfl))))) (by (try simp only [List.length_append, List.length_cons, List.length_nil]); omega))
theorem join_split : ∀ (l : List UInt8), Lib.join (splitL l) [46] = l
  | [] => by simp [splitL, Lib.join_one]
  | c :: l => by
    have ih := join_split l
    simp only [splitL]
    split
    · rename_i h
      subst h
      cases hs : splitL l with
      | nil => rw [hs] at ih; have := splitL_sum l; rw [hs] at this; simp [Lib.lens] at this
      | cons x r =>
        rw [hs] at ih
        rw [Lib.join_cons] at ih ⊢
        rw [← ih]
        simp [Lib.joinTail]
    · split
      · rename_i h; have := splitL_sum l; rw [h] at this; simp [Lib.lens] at this
      · rename_i x r h
        rw [h] at ih
        rw [Lib.join_cons] at ih ⊢
        rw [← ih]; rfl
theorem joinB_LB (s : ByteArray) : joinB (LB s) (⟨#[46]⟩ : ByteArray) = s := by
  unfold LB
  split
  · rename_i h; rw [joinB_nil]; exact ((empty_iff s).2 h).symm
  · apply ba_list
    have e : ((splitL s.data.toList).map toBA).map (·.data.toList) = splitL s.data.toList := by
      rw [List.map_map]
      have : ((fun x : ByteArray => x.data.toList) ∘ toBA) = id := by funext x; simp [toBA]
      rw [this, List.map_id]
    simp only [joinB, e]
    rw [join_split]
def sufs (l : List ByteArray) (i : Nat) : List ByteArray := (List.range' i (l.length + 1 - i)).map fun k => joinB (l.drop k) (⟨#[46]⟩ : ByteArray)
theorem law_Above (s : ByteArray) : n_impl_Above s = n_spec_Above s := by
  have h1 : ∀ (n : Nat) (m : List ByteArray) (i : Nat), i ≤ (LB s).length → i + n = (LB s).length + 1 → n_impl_AboveL1 (LB s) n m i = m ++ sufs (LB s) i := by
    intro n
    induction n with
    | zero => intro m i h1 h2; omega
    | succ n ih =>
      intro m i h1 h2
      rw [n_impl_AboveL1]
      rcases Nat.lt_or_ge i (LB s).length with h | h
      · have e : (decide ((i : Int) < ((LB s).length : Int))) = true := by simp; omega
        rw [e]
        simp only [cond_true, bindv]
        rw [ih _ (i + 1) (by omega) (by omega)]
        simp only [sufs, List.append_assoc]
        rw [show (LB s).length + 1 - i = ((LB s).length + 1 - (i + 1)) + 1 by omega, List.range'_succ]
        rfl
      · have hi : i = (LB s).length := by omega
        have e : (decide ((i : Int) < ((LB s).length : Int))) = false := by simp; omega
        rw [e, cond_false]
        simp only [sufs]
        rw [hi, show (LB s).length + 1 - (LB s).length = 1 by omega]
        simp [List.range', joinB_nil]
  have h2 : ∀ (n : Nat) (m : List ByteArray) (i : Nat), i ≤ (LB s).length + 1 → i + n = (LB s).length + 2 → n_spec_AboveL1 (LB s) n m i = m ++ sufs (LB s) i := by
    intro n
    induction n with
    | zero => intro m i h1 h2; omega
    | succ n ih =>
      intro m i h1 h2
      rw [n_spec_AboveL1]
      rcases Nat.lt_or_ge (LB s).length i with h | h
      · have e : (decide ((i : Int) ≤ ((LB s).length : Int))) = false := by simp; omega
        rw [e, cond_false]
        simp only [sufs]
        rw [show (LB s).length + 1 - i = 0 by omega]
        simp
      · have e : (decide ((i : Int) ≤ ((LB s).length : Int))) = true := by simp; omega
        rw [e]
        simp only [cond_true, bindv]
        rw [ih _ (i + 1) (by omega) (by omega)]
        simp only [sufs, List.append_assoc]
        rw [show (LB s).length + 1 - i = ((LB s).length + 1 - (i + 1)) + 1 by omega, List.range'_succ]
        rfl
  simp only [n_impl_Above, n_spec_Above, bindv]
  rw [h1 _ _ _ (Nat.zero_le _) (by omega), h2 _ _ _ (by omega) (by omega)]
  simp only [sufs, List.nil_append]
  rw [show (LB s).length + 1 - 0 = ((LB s).length + 1 - 1) + 1 by omega, List.range'_succ, List.map_cons, List.drop_zero, joinB_LB]
  rfl
end Go.Proofs.YtglilpigoocgeaaGreatDoor.V
