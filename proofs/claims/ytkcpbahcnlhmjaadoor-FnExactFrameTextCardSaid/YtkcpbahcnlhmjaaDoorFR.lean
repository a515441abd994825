/-
  Numbers and frames as texts.
-/
import Derived.Test.YtkcpbahcnlhmjaaDoorVE
import Derived.Test.YtkcpbahcnlhmjaaDoorN
import Derived.Test.YtkcpbahcnlhmjaaDoorFG
import Derived.Test.YtkcpbahcnlhmjaaDoorFD
import Derived.Test.YtkcpbahcnlhmjaaDoorFF
import Derived.Test.YtkcpbahcnlhmjaaDoorFT
namespace Go.Proofs.YtkcpbahcnlhmjaaDoor.V
open Go
set_option linter.unusedVariables false
set_option linter.unusedSimpArgs false
def n_spec_NumTextL1 (a0 : Nat) : Nat → ByteArray → Nat → ByteArray
  | 0, _, _ => default
  | n + 1, s, x => cond (decide (((x : Int)) ≠ (0))) (cond (decide ((((x % 10 : Nat) : Int)) < (0))) default (bindv (strOfNums (([(48 + (x % 10 : Nat) : Int)] : List Int))) (fun v1 => bindv (v1 ++ s) (fun v2 => n_spec_NumTextL1 a0 n v2 ((x / 10 : Nat)))))) (cond (decide (((a0 : Int)) < (0))) default (s))
def n_spec_NumText (a0 : Nat) : ByteArray := cond (decide (((a0 : Int)) = (0))) ((⟨#[48]⟩ : ByteArray)) (n_spec_NumTextL1 a0 (a0 + 1) ((⟨#[]⟩ : ByteArray)) a0)
set_option maxHeartbeats 4000000 in
set_option maxRecDepth 20000 in
theorem tr_n_spec_NumText (a0 : Nat) (hk : a0 < 9223372036854775808) : Tr Tryd.prog 70 [.ro ⟨false, [dI (a0 : Int)]⟩] [⟨false, [dS ((n_spec_NumText a0))]⟩] := by
  obtain ⟨r, hr⟩ : ∃ r, n_spec_NumText a0 = r := ⟨_, rfl⟩
  rw [hr]
  rw [n_spec_NumText] at hr
  refine tr_go tabOk Tryd.func70 rfl rfl rfl rfl rfl (ov := [(0, .t ⟨false, [.d (dI (a0 : Int))]⟩)]) (hv := []) rfl rfl ?_
  refine v_seq ?_
  refine v_reg ?_
  refine sy _ (zas rfl (ec rfl)) rfl rfl ?_
  refine s_end ?_
  refine v_seq ?_
  refine v_seq ?_
  refine v_reg ?_
  refine sy _ (zmv rfl (e rfl rfl)) rfl rfl ?_
  refine sy (.t ⟨false, [.d (dB (decide (((a0 : Int)) = (0))))]⟩) (y_bin rfl (e rfl rfl) (ec rfl) (fun _ => b_eql) rfl) rfl rfl ?_
  refine s_end ?_
  refine v_cond (e rfl rfl) (fun hb1 => ?_) fun hb1 => ?_
  · replace hr := bf_t hb1 hr
    have hb1p := dec_t hb1
    refine v_seq ?_
    refine v_reg ?_
    refine sy _ (zas rfl (ec rfl)) rfl rfl ?_
    refine s_end ?_
    refine v_ret ?_
    subst hr
    exact post_ret (rv (.tmp (eg rfl rfl)) rfl (.lf .nil) rfl .nil) (.ro .nil) rfl
  replace hr := bf_f hb1 hr
  have hb1p := dec_f hb1
  refine v_skip ?_
  refine v_seq ?_
  refine v_reg ?_
  refine sy _ (zas rfl (ec rfl)) rfl rfl ?_
  refine s_end ?_
  refine v_seq ?_
  refine v_seq ?_
  refine v_reg ?_
  refine sy _ (zmv rfl (e rfl rfl)) rfl rfl ?_
  refine sy _ (zas rfl (e rfl rfl)) rfl rfl ?_
  refine s_end ?_
  refine v_block ?_
  refine v_lp (fun (q : Nat × ByteArray × Nat) => [(0, .t ⟨false, [.d (dI (a0 : Int))]⟩), (3, .t ⟨false, [.d (dS (q.2.1))]⟩), (4, .t ⟨false, [.d (dI (q.2.2 : Int))]⟩)]) (fun q => []) (fun q => n_spec_NumTextL1 a0 q.1 q.2.1 q.2.2 = r ∧ (q.2.2 < q.1) ∧ ((q.2.2 = 0 ∧ 2 * q.2.1.size ≤ a0 + 1) ∨ 2 * q.2.1.size + q.2.2 ≤ a0) ∧ (q.2.2 ≤ a0)) (fun q => q.1) (a0 + 1, ((⟨#[]⟩ : ByteArray) : ByteArray), (a0 : Nat)) ⟨hr, Nat.lt_succ_self _, .inr (by show 2 * 0 + a0 ≤ a0; omega), Nat.le_refl _⟩ ⟨rfl, rfl, rfl, trivial⟩ trivial rfl (fun q hq => ?_)
  obtain ⟨n, s, x⟩ := q
  obtain ⟨hr, hi1x0, hi1x1, hi1x2⟩ := hq
  dsimp only at hr hi1x0 hi1x1 hi1x2
  show VWp _ _ _ (mk [(0, .t ⟨false, [.d (dI (a0 : Int))]⟩), (3, .t ⟨false, [.d (dS (s))]⟩), (4, .t ⟨false, [.d (dI (x : Int))]⟩)] _ [])
  rcases n with _ | n
  · exfalso; omega
  rw [n_spec_NumTextL1] at hr
  refine v_seq ?_
  refine v_seq ?_
  refine v_reg ?_
  refine sy _ (zmv rfl (e rfl rfl)) rfl rfl ?_
  refine sy (.t ⟨false, [.d (dB (decide (((x : Int)) ≠ (0))))]⟩) (y_bin rfl (e rfl rfl) (ec rfl) (fun _ => b_neq) rfl) rfl rfl ?_
  refine s_end ?_
  refine v_cond (e rfl rfl) (fun hb2 => ?_) fun hb2 => ?_
  · replace hr := bf_t hb2 hr
    have hb2p := dec_t hb2
    refine v_skip ?_
    refine v_seq ?_
    refine v_block ?_
    refine v_seq ?_
    refine v_reg ?_
    refine sy _ (zmv rfl (e rfl rfl)) rfl rfl ?_
    refine sy (.t ⟨false, [.d (dI ((x % 10 : Nat) : Int))]⟩) (y_bin rfl (e rfl rfl) (ec rfl) (fun _ => b_rem10) rfl) rfl rfl ?_
    refine sy _ (zas rfl (e rfl rfl)) rfl rfl ?_
    refine s_end ?_
    refine v_seq ?_
    refine v_seq ?_
    refine v_reg ?_
    refine sy _ (zmv rfl (e rfl rfl)) rfl rfl ?_
    refine sy (.t ⟨false, [.d (dB (decide ((((x % 10 : Nat) : Int)) < (0))))]⟩) (y_bin rfl (e rfl rfl) (ec rfl) (fun _ => b_lss) rfl) rfl rfl ?_
    refine s_end ?_
    have hz3 : (decide ((((x % 10 : Nat) : Int)) < (0))) = false := by simp; try omega
    replace hr := bf_f hz3 hr
    refine v_cF (e rfl rfl) hz3 ?_
    refine v_skip ?_
    refine v_reg ?_
    refine sy _ (zmv rfl (e rfl rfl)) rfl rfl ?_
    refine sy (.t ⟨false, [.d (dI (48 + (x % 10 : Nat) : Int))]⟩) (y_bin rfl (ec rfl) (e rfl rfl) (fun _ => b_addn (by omega) (by omega)) rfl) rfl rfl ?_
    refine sy (.t ⟨false, [.d (.lf (.int .u8 ((48 + (x % 10 : Nat) : Int))))]⟩) (y_conv rfl (e rfl rfl) (fun _ => c_u8 (by kernel_rfl) (by kernel_rfl) (by omega) (by omega)) rfl) rfl rfl ?_
    refine sbk 2 (.t ⟨false, [.sr 2 1 0 ((([(48 + (x % 10 : Nat) : Int)] : List Int).map encY).length) ((([(48 + (x % 10 : Nat) : Int)] : List Int).map encY).length)]⟩) (.row 1 (([(48 + (x % 10 : Nat) : Int)] : List Int).map encY) true 1 0) (zbu tabOk rfl rfl rfl rfl (pd0 (e rfl rfl) rfl (.lf .nil) rfl .nil) rfl rfl) rfl rfl ?_
    obtain ⟨v1, ev1⟩ : ∃ v : ByteArray, v = strOfNums (([(48 + (x % 10 : Nat) : Int)] : List Int)) := ⟨_, rfl⟩
    replace hr := bv_step ev1 hr
    have ev1z : v1.size = 1 := by rw [ev1]; exact strOfNums_size _
    refine sy (.t ⟨false, [.d (dS (v1))]⟩) (by rw [ev1]; exact zbs (([(48 + (x % 10 : Nat) : Int)] : List Int)) tabOk rfl rfl rfl (by kernel_rfl) (e rfl rfl) rfl rfl rfl) rfl rfl ?_
    refine sy _ (zmv rfl (e rfl rfl)) rfl rfl ?_
    obtain ⟨v2, ev2⟩ : ∃ v : ByteArray, v = v1 ++ s := ⟨_, rfl⟩
    replace hr := bv_step ev2 hr
    have ev2z := size_app ev2
    refine sy (.t ⟨false, [.d (dS (v2))]⟩) (by rw [ev2]; exact y_bin rfl (e rfl rfl) (e rfl rfl) (fun _ => b_sadd (by omega)) rfl) rfl rfl ?_
    refine sy _ (zas rfl (e rfl rfl)) rfl rfl ?_
    refine s_end ?_
    refine blk_norm ?_
    refine v_reg ?_
    refine sy _ (zmv rfl (e rfl rfl)) rfl rfl ?_
    refine sy (.t ⟨false, [.d (dI ((x / 10 : Nat) : Int))]⟩) (y_bin rfl (e rfl rfl) (ec rfl) (fun _ => b_quo10 (by omega)) rfl) rfl rfl ?_
    refine sy _ (zas rfl (e rfl rfl)) rfl rfl ?_
    refine s_end ?_
    exact lp_next (n, v2, (x / 10 : Nat)) ⟨hr, by (try simp only [List.length_append, List.length_cons, List.length_nil, List.length_set]); first | done | omega, by (try simp only [List.length_append, List.length_cons, List.length_nil, List.length_set]); first | done | omega, by (try simp only [List.length_append, List.length_cons, List.length_nil, List.length_set]); first | done | omega⟩ (Nat.lt_succ_self _) ⟨rfl, rfl, rfl, trivial⟩ trivial rfl
  replace hr := bf_f hb2 hr
  have hb2p := dec_f hb2
  refine v_exit ?_
  refine then_exit ?_
  refine loop_exit ?_
  refine blk_hit ?_
  refine v_seq ?_
  refine v_seq ?_
  refine v_reg ?_
  refine sy _ (zmv rfl (e rfl rfl)) rfl rfl ?_
  refine sy (.t ⟨false, [.d (dB (decide (((a0 : Int)) < (0))))]⟩) (y_bin rfl (e rfl rfl) (ec rfl) (fun _ => b_lss) rfl) rfl rfl ?_
  refine s_end ?_
  have hz4 : (decide (((a0 : Int)) < (0))) = false := by simp; try omega
  replace hr := bf_f hz4 hr
  refine v_cF (e rfl rfl) hz4 ?_
  refine v_skip ?_
  refine v_seq ?_
  refine v_reg ?_
  refine sy _ (zmv rfl (e rfl rfl)) rfl rfl ?_
  refine sy _ (zas rfl (e rfl rfl)) rfl rfl ?_
  refine s_end ?_
  refine v_ret ?_
  subst hr
  exact post_ret (rv (.tmp (eg rfl rfl)) rfl (.lf .nil) rfl .nil) (.ro .nil) rfl
def numB (k : Nat) : ByteArray := if h : k < 10 then strOfNums [48 + (k : Int)] else numB (k / 10) ++ strOfNums [48 + ((k % 10 : Nat) : Int)]
  termination_by k
  decreasing_by omega
theorem numB_lt {k : Nat} (h : k < 10) : numB k = strOfNums [48 + (k : Int)] := by rw [numB, dif_pos h]
theorem numB_ge {k : Nat} (h : ¬ k < 10) : numB k = numB (k / 10) ++ strOfNums [48 + ((k % 10 : Nat) : Int)] := by rw [numB, dif_neg h]
theorem numB_size (k : Nat) : (numB k).size ≤ k + 1 := by
  induction k using Nat.strongRecOn with
  | ind k ih =>
    by_cases h : k < 10
    · rw [numB_lt h, strOfNums_size]; simp
    · rw [numB_ge h, ByteArray.size_append, strOfNums_size]
      have := ih (k / 10) (by omega)
      simp only [List.length_cons, List.length_nil]; omega
theorem numB_digits : ∀ (d k : Nat), 1 ≤ d → k < 10 ^ d → (numB k).size ≤ d
  | 0, k, h1, h2 => by omega
  | 1, k, h1, h2 => by rw [numB_lt (by omega), strOfNums_size]; simp
  | d + 2, k, h1, h2 => by
    by_cases h : k < 10
    · rw [numB_lt h, strOfNums_size]; simp
    · rw [numB_ge h, ByteArray.size_append, strOfNums_size]
      have := numB_digits (d + 1) (k / 10) (by omega) (by rw [Nat.pow_succ] at h2; omega)
      simp only [List.length_cons, List.length_nil]; omega
theorem fit_numB (a : Int) (h : a < 9223372036854775808) : fitS (numB a.toNat) :=
  Nat.le_trans (numB_digits 19 a.toNat (by omega) (by omega)) (by decide)
theorem mtd_numB (k : Nat) : ∀ (out : ByteArray), 0 < k → mtd k out = numB k ++ out := by
  induction k using Nat.strongRecOn with
  | ind k ih =>
    intro out hk
    rw [mtd_pos hk]
    by_cases h : k < 10
    · rw [show k / 10 = 0 by omega, mtd_zero, numB_lt h, show k % 10 = k by omega]
    · rw [ih (k / 10) (by omega) _ (by omega), numB_ge h, ByteArray.append_assoc]
theorem spec_NumText_eq (k : Nat) : n_spec_NumText k = numB k := by
  have key : ∀ (n : Nat) (s : ByteArray) (x : Nat), x < n → n_spec_NumTextL1 k n s x = mtd x s := by
    intro n
    induction n with
    | zero => intro s x h; omega
    | succ n ih =>
      intro s x h
      rw [n_spec_NumTextL1]
      by_cases hx : x = 0
      · subst hx
        rw [mtd_zero]; rfl
      · have e : decide (((x : Nat) : Int) ≠ 0) = true := decide_eq_true (by omega)
        have e2 : decide (((x % 10 : Nat) : Int) < 0) = false := decide_eq_false (by omega)
        rw [e]
        simp only [e2, cond_true, cond_false, bindv]
        rw [ih _ _ (by omega), mtd_pos (k := x) (by omega)]
  unfold n_spec_NumText
  by_cases hk : k = 0
  · subst hk
    rw [numB_lt (by omega)]; rfl
  · have e : decide (((k : Nat) : Int) = 0) = false := decide_eq_false (by omega)
    rw [e, cond_false, key _ _ _ (by omega), mtd_numB k _ (by omega)]
    exact ba_list (by rw [ba_app]; simp)
theorem tr2_n_spec_NumText (a0 : Int) (h0 : 0 ≤ a0) (h1 : a0 < 9223372036854775808) : Tr Tryd.prog 70 [.ro ⟨false, [dI a0]⟩] [⟨false, [dS (numB a0.toNat)]⟩] := by
  obtain ⟨k, rfl⟩ := Int.eq_ofNat_of_zero_le h0
  have := tr_n_spec_NumText k (by omega)
  rw [spec_NumText_eq] at this
  exact this
def n_impl_NumText (a0 : Nat) (fr : Nat → ByteArray) : ByteArray := cond (decide (((a0 : Int)) < (0))) default (cond (decide (((a0 : Int)) < (10))) (bindv (strOfNums [(48 + a0 : Int)]) (fun v1 => v1)) (bindv (fr ((a0 / 10 : Nat))) (fun v2 => bindv (strOfNums [(48 + (a0 % 10 : Nat) : Int)]) (fun v3 => bindv (v2 ++ v3) (fun v4 => v4)))))
set_option maxHeartbeats 4000000 in
set_option maxRecDepth 20000 in
theorem tr_n_impl_NumText (a0 : Nat) (fr : Nat → ByteArray) (ih : ∀ m : Nat, m < a0 → Tr Tryd.prog 74 [.ro ⟨false, [dI (m : Int)]⟩] [⟨false, [dS (fr m)]⟩]) (hsz : ∀ m : Nat, (fr m).size ≤ m + 1) (hk : a0 < 9223372036854775808) : Tr Tryd.prog 74 [.ro ⟨false, [dI (a0 : Int)]⟩] [⟨false, [dS ((n_impl_NumText a0 fr))]⟩] := by
  obtain ⟨r, hr⟩ : ∃ r, n_impl_NumText a0 fr = r := ⟨_, rfl⟩
  rw [hr]
  rw [n_impl_NumText] at hr
  refine tr_go tabOk Tryd.func74 rfl rfl rfl rfl rfl (ov := [(0, .t ⟨false, [.d (dI (a0 : Int))]⟩)]) (hv := []) rfl rfl ?_
  refine v_seq ?_
  refine v_reg ?_
  refine sy _ (zas rfl (ec rfl)) rfl rfl ?_
  refine s_end ?_
  refine v_seq ?_
  refine v_block ?_
  refine v_seq ?_
  refine v_reg ?_
  refine sy _ (zmv rfl (e rfl rfl)) rfl rfl ?_
  refine sy (.t ⟨false, [.d (dB (decide (((a0 : Int)) < (0))))]⟩) (y_bin rfl (e rfl rfl) (ec rfl) (fun _ => b_lss) rfl) rfl rfl ?_
  refine sy _ (zmv rfl (e rfl rfl)) rfl rfl ?_
  have hz1 : (decide (((a0 : Int)) < (0))) = false := by simp; try omega
  replace hr := bf_f hz1 hr
  refine gs rfl rfl rfl (eg rfl rfl) hz1 rfl ?_
  refine gs rfl rfl rfl (eg rfl rfl) hz1 rfl ?_
  refine sy (.t ⟨false, [.d (dB (false))]⟩) (zpf rfl (e rfl rfl) hz1 (ec rfl)) rfl rfl ?_
  refine sy _ (zas rfl (e rfl rfl)) rfl rfl ?_
  refine s_end ?_
  refine v_cF (e rfl rfl) rfl ?_
  refine v_seq ?_
  refine v_reg ?_
  refine sy _ (zmv rfl (e rfl rfl)) rfl rfl ?_
  refine sy (.t ⟨false, [.d (dB (decide (((a0 : Int)) < (0))))]⟩) (y_bin rfl (e rfl rfl) (ec rfl) (fun _ => b_lss) rfl) rfl rfl ?_
  refine sy _ (zas rfl (e rfl rfl)) rfl rfl ?_
  refine s_end ?_
  refine v_cF (e rfl rfl) hz1 ?_
  refine v_seq ?_
  refine v_reg ?_
  refine sy _ (zmv rfl (e rfl rfl)) rfl rfl ?_
  refine sy (.t ⟨false, [.d (dB (decide (((a0 : Int)) < (10))))]⟩) (y_bin rfl (e rfl rfl) (ec rfl) (fun _ => b_lss) rfl) rfl rfl ?_
  refine sy _ (zas rfl (e rfl rfl)) rfl rfl ?_
  refine s_end ?_
  refine v_cond (e rfl rfl) (fun hb2 => ?_) fun hb2 => ?_
  · replace hr := bf_t hb2 hr
    have hb2p := dec_t hb2
    refine v_seq ?_
    refine v_reg ?_
    refine sy _ (zmv rfl (e rfl rfl)) rfl rfl ?_
    refine sy (.t ⟨false, [.d (dI (48 + a0 : Int))]⟩) (y_bin rfl (ec rfl) (e rfl rfl) (fun _ => b_addn (by omega) (by omega)) rfl) rfl rfl ?_
    refine sy (.t ⟨false, [.d (.lf (.int .i32 ((48 + a0 : Int))))]⟩) (y_conv rfl (e rfl rfl) (fun _ => c_i32 (by kernel_rfl) (by kernel_rfl) (by omega) (by omega)) rfl) rfl rfl ?_
    obtain ⟨v1, ev1⟩ : ∃ v : ByteArray, v = strOfNums [(48 + a0 : Int)] := ⟨_, rfl⟩
    replace hr := bv_step ev1 hr
    have ev1z : v1.size = 1 := by rw [ev1]; exact strOfNums_size _
    refine sy (.t ⟨false, [.d (dS (v1))]⟩) (by rw [ev1]; exact y_conv rfl (e rfl rfl) (fun _ => c_rs (by kernel_rfl) (by kernel_rfl) (by omega) (by omega)) rfl) rfl rfl ?_
    refine sy _ (zas rfl (e rfl rfl)) rfl rfl ?_
    refine s_end ?_
    refine v_ret ?_
    subst hr
    exact post_ret (rv (.tmp (eg rfl rfl)) rfl (.lf .nil) rfl .nil) (.ro .nil) rfl
  replace hr := bf_f hb2 hr
  have hb2p := dec_f hb2
  refine v_skip ?_
  refine blk_norm ?_
  refine v_seq ?_
  refine v_reg ?_
  refine sy _ (zmv rfl (e rfl rfl)) rfl rfl ?_
  refine sy (.t ⟨false, [.d (dI ((a0 / 10 : Nat) : Int))]⟩) (y_bin rfl (e rfl rfl) (ec rfl) (fun _ => b_quo10 (by omega)) rfl) rfl rfl ?_
  obtain ⟨v2, ev2⟩ : ∃ v : ByteArray, v = fr ((a0 / 10 : Nat)) := ⟨_, rfl⟩
  replace hr := bv_step ev2 hr
  have hq3 : v2.size ≤ ((a0 / 10 : Nat)) + 1 := by rw [ev2]; exact hsz _
  refine sd (.t ⟨false, [.d (dS (v2))]⟩) (zcd (.t ⟨false, [.d (dS (v2))]⟩) rfl (by rw [ev2]; exact (ih ((a0 / 10 : Nat)) (by omega)) : Tr Tryd.prog 74 _ [⟨false, [dS (v2)]⟩]) (ar (e rfl rfl) (.d .nil) .nil) rfl) rfl rfl rfl rfl ?_
  refine sy _ (zmv rfl (e rfl rfl)) rfl rfl ?_
  refine sy (.t ⟨false, [.d (dI ((a0 % 10 : Nat) : Int))]⟩) (y_bin rfl (e rfl rfl) (ec rfl) (fun _ => b_rem10) rfl) rfl rfl ?_
  refine sy (.t ⟨false, [.d (dI (48 + (a0 % 10 : Nat) : Int))]⟩) (y_bin rfl (ec rfl) (e rfl rfl) (fun _ => b_addn (by omega) (by omega)) rfl) rfl rfl ?_
  refine sy (.t ⟨false, [.d (.lf (.int .i32 ((48 + (a0 % 10 : Nat) : Int))))]⟩) (y_conv rfl (e rfl rfl) (fun _ => c_i32 (by kernel_rfl) (by kernel_rfl) (by omega) (by omega)) rfl) rfl rfl ?_
  obtain ⟨v3, ev3⟩ : ∃ v : ByteArray, v = strOfNums [(48 + (a0 % 10 : Nat) : Int)] := ⟨_, rfl⟩
  replace hr := bv_step ev3 hr
  have ev3z : v3.size = 1 := by rw [ev3]; exact strOfNums_size _
  refine sy (.t ⟨false, [.d (dS (v3))]⟩) (by rw [ev3]; exact y_conv rfl (e rfl rfl) (fun _ => c_rs (by kernel_rfl) (by kernel_rfl) (by omega) (by omega)) rfl) rfl rfl ?_
  obtain ⟨v4, ev4⟩ : ∃ v : ByteArray, v = v2 ++ v3 := ⟨_, rfl⟩
  replace hr := bv_step ev4 hr
  have ev4z := size_app ev4
  refine sy (.t ⟨false, [.d (dS (v4))]⟩) (by rw [ev4]; exact y_bin rfl (e rfl rfl) (e rfl rfl) (fun _ => b_sadd (by omega)) rfl) rfl rfl ?_
  refine sy _ (zas rfl (e rfl rfl)) rfl rfl ?_
  refine s_end ?_
  refine v_ret ?_
  subst hr
  exact post_ret (rv (.tmp (eg rfl rfl)) rfl (.lf .nil) rfl .nil) (.ro .nil) rfl
theorem impl_NumText_eq (k : Nat) : n_impl_NumText k numB = numB k := by
  unfold n_impl_NumText
  have e0 : decide (((k : Nat) : Int) < 0) = false := decide_eq_false (by omega)
  by_cases h : k < 10
  · have e : decide (((k : Nat) : Int) < 10) = true := decide_eq_true (by omega)
    rw [numB_lt h]
    simp only [e0, e, cond_true, cond_false, bindv]
  · have e : decide (((k : Nat) : Int) < 10) = false := decide_eq_false (by omega)
    rw [numB_ge h]
    simp only [e0, e, cond_true, cond_false, bindv]
theorem tr_numB_impl (k : Nat) (hk : k < 9223372036854775808) : Tr Tryd.prog 74 [.ro ⟨false, [dI (k : Int)]⟩] [⟨false, [dS (numB k)]⟩] := by
  induction k using Nat.strongRecOn with
  | ind k ih =>
    have := tr_n_impl_NumText k numB (fun m hm => ih m hm (by omega)) numB_size hk
    rwa [impl_NumText_eq] at this
theorem tr2_n_impl_NumText (a0 : Int) (h0 : 0 ≤ a0) (h1 : a0 < 9223372036854775808) : Tr Tryd.prog 74 [.ro ⟨false, [dI a0]⟩] [⟨false, [dS (numB a0.toNat)]⟩] := by
  obtain ⟨k, rfl⟩ := Int.eq_ofNat_of_zero_le h0
  exact tr_numB_impl k (by omega)
def n_impl_nameText (a0 : ByteArray) : ByteArray := cond (decide ((a0) = ((⟨#[]⟩ : ByteArray)))) ((⟨#[46]⟩ : ByteArray)) (a0)
set_option maxHeartbeats 4000000 in
set_option maxRecDepth 20000 in
theorem tr_n_impl_nameText (a0 : ByteArray) (h0 : fitS a0) : Tr Tryd.prog 72 [.ro ⟨false, [dS (a0)]⟩] [⟨false, [dS ((n_impl_nameText a0))]⟩] := by
  obtain ⟨r, hr⟩ : ∃ r, n_impl_nameText a0 = r := ⟨_, rfl⟩
  rw [hr]
  rw [n_impl_nameText] at hr
  refine tr_go tabOk Tryd.func72 rfl rfl rfl rfl rfl (ov := [(0, .t ⟨false, [.d (dS (a0))]⟩)]) (hv := []) rfl rfl ?_
  refine v_seq ?_
  refine v_reg ?_
  refine sy _ (zas rfl (ec rfl)) rfl rfl ?_
  refine s_end ?_
  refine v_seq ?_
  refine v_seq ?_
  refine v_reg ?_
  refine sy _ (zmv rfl (e rfl rfl)) rfl rfl ?_
  refine sy (.t ⟨false, [.d (dB (decide ((a0) = ((⟨#[]⟩ : ByteArray)))))]⟩) (y_bin rfl (e rfl rfl) (ec rfl) (fun _ => b_seql) rfl) rfl rfl ?_
  refine s_end ?_
  refine v_cond (e rfl rfl) (fun hb1 => ?_) fun hb1 => ?_
  · replace hr := bf_t hb1 hr
    have hb1p := dec_t hb1
    refine v_seq ?_
    refine v_reg ?_
    refine sy _ (zas rfl (ec rfl)) rfl rfl ?_
    refine s_end ?_
    refine v_ret ?_
    subst hr
    exact post_ret (rv (.tmp (eg rfl rfl)) rfl (.lf .nil) rfl .nil) (.ro .nil) rfl
  replace hr := bf_f hb1 hr
  have hb1p := dec_f hb1
  refine v_skip ?_
  refine v_seq ?_
  refine v_reg ?_
  refine sy _ (zmv rfl (e rfl rfl)) rfl rfl ?_
  refine sy _ (zas rfl (e rfl rfl)) rfl rfl ?_
  refine s_end ?_
  refine v_ret ?_
  subst hr
  exact post_ret (rv (.tmp (eg rfl rfl)) rfl (.lf .nil) rfl .nil) (.ro .nil) rfl
set_option maxHeartbeats 4000000 in
theorem fitx_n_impl_nameText (a0 : ByteArray) (h0 : fitS a0) : fitS (n_impl_nameText a0) := by
  obtain ⟨r, hr⟩ : ∃ r, n_impl_nameText a0 = r := ⟨_, rfl⟩
  rw [hr]
  rw [n_impl_nameText] at hr
  rcases Bool.eq_false_or_eq_true (decide ((a0) = ((⟨#[]⟩ : ByteArray)))) with hb1 | hb1
  · replace hr := bf_t hb1 hr
    have hb1p := dec_t hb1
    subst hr
    exact (fitS_lit (⟨#[46]⟩ : ByteArray) (Nat.le_of_ble_eq_true rfl))
  replace hr := bf_f hb1 hr
  have hb1p := dec_f hb1
  subst hr
  exact h0
def n_spec_l5Dot (a0 : ByteArray) : ByteArray := cond (decide ((a0) = ((⟨#[]⟩ : ByteArray)))) ((⟨#[46]⟩ : ByteArray)) (a0)
set_option maxHeartbeats 4000000 in
set_option maxRecDepth 20000 in
theorem tr_n_spec_l5Dot (a0 : ByteArray) (h0 : fitS a0) : Tr Tryd.prog 68 [.ro ⟨false, [dS (a0)]⟩] [⟨false, [dS ((n_spec_l5Dot a0))]⟩] := by
  obtain ⟨r, hr⟩ : ∃ r, n_spec_l5Dot a0 = r := ⟨_, rfl⟩
  rw [hr]
  rw [n_spec_l5Dot] at hr
  refine tr_go tabOk Tryd.func68 rfl rfl rfl rfl rfl (ov := [(0, .t ⟨false, [.d (dS (a0))]⟩)]) (hv := []) rfl rfl ?_
  refine v_seq ?_
  refine v_reg ?_
  refine sy _ (zas rfl (ec rfl)) rfl rfl ?_
  refine s_end ?_
  refine v_seq ?_
  refine v_seq ?_
  refine v_reg ?_
  refine sy _ (zmv rfl (e rfl rfl)) rfl rfl ?_
  refine sy (.t ⟨false, [.d (dB (decide ((a0) = ((⟨#[]⟩ : ByteArray)))))]⟩) (y_bin rfl (e rfl rfl) (ec rfl) (fun _ => b_seql) rfl) rfl rfl ?_
  refine s_end ?_
  refine v_cond (e rfl rfl) (fun hb1 => ?_) fun hb1 => ?_
  · replace hr := bf_t hb1 hr
    have hb1p := dec_t hb1
    refine v_seq ?_
    refine v_reg ?_
    refine sy _ (zas rfl (ec rfl)) rfl rfl ?_
    refine s_end ?_
    refine v_ret ?_
    subst hr
    exact post_ret (rv (.tmp (eg rfl rfl)) rfl (.lf .nil) rfl .nil) (.ro .nil) rfl
  replace hr := bf_f hb1 hr
  have hb1p := dec_f hb1
  refine v_skip ?_
  refine v_seq ?_
  refine v_reg ?_
  refine sy _ (zmv rfl (e rfl rfl)) rfl rfl ?_
  refine sy _ (zas rfl (e rfl rfl)) rfl rfl ?_
  refine s_end ?_
  refine v_ret ?_
  subst hr
  exact post_ret (rv (.tmp (eg rfl rfl)) rfl (.lf .nil) rfl .nil) (.ro .nil) rfl
set_option maxHeartbeats 4000000 in
theorem fitx_n_spec_l5Dot (a0 : ByteArray) (h0 : fitS a0) : fitS (n_spec_l5Dot a0) := by
  obtain ⟨r, hr⟩ : ∃ r, n_spec_l5Dot a0 = r := ⟨_, rfl⟩
  rw [hr]
  rw [n_spec_l5Dot] at hr
  rcases Bool.eq_false_or_eq_true (decide ((a0) = ((⟨#[]⟩ : ByteArray)))) with hb1 | hb1
  · replace hr := bf_t hb1 hr
    have hb1p := dec_t hb1
    subst hr
    exact (fitS_lit (⟨#[46]⟩ : ByteArray) (Nat.le_of_ble_eq_true rfl))
  replace hr := bf_f hb1 hr
  have hb1p := dec_f hb1
  subst hr
  exact h0
def n_spec_TypeText (a0 : Int) : ByteArray := cond (decide ((a0) = (1))) ((⟨#[97, 100, 100, 114]⟩ : ByteArray)) (cond (decide ((a0) = (2))) ((⟨#[115, 101, 114, 118, 101, 114]⟩ : ByteArray)) (cond (decide ((a0) = (5))) ((⟨#[97, 108, 105, 97, 115]⟩ : ByteArray)) (cond (decide ((a0) = (6))) ((⟨#[115, 116, 97, 114, 116]⟩ : ByteArray)) (cond (decide ((a0) = (16))) ((⟨#[116, 101, 120, 116]⟩ : ByteArray)) ((⟨#[]⟩ : ByteArray))))))
set_option maxHeartbeats 4000000 in
set_option maxRecDepth 20000 in
theorem tr_n_spec_TypeText (a0 : Int) : Tr Tryd.prog 69 [.ro ⟨false, [dI (a0)]⟩] [⟨false, [dS ((n_spec_TypeText a0))]⟩] := by
  obtain ⟨r, hr⟩ : ∃ r, n_spec_TypeText a0 = r := ⟨_, rfl⟩
  rw [hr]
  rw [n_spec_TypeText] at hr
  refine tr_go tabOk Tryd.func69 rfl rfl rfl rfl rfl (ov := [(0, .t ⟨false, [.d (dI (a0))]⟩)]) (hv := []) rfl rfl ?_
  refine v_seq ?_
  refine v_reg ?_
  refine sy _ (zas rfl (ec rfl)) rfl rfl ?_
  refine s_end ?_
  refine v_seq ?_
  refine v_seq ?_
  refine v_reg ?_
  refine sy _ (zmv rfl (e rfl rfl)) rfl rfl ?_
  refine s_end ?_
  refine v_block ?_
  refine v_seq ?_
  refine v_reg ?_
  refine sy (.t ⟨false, [.d (dB (decide ((a0) = (1))))]⟩) (y_bin rfl (e rfl rfl) (ec rfl) (fun _ => b_eql) rfl) rfl rfl ?_
  refine sy _ (zas rfl (e rfl rfl)) rfl rfl ?_
  refine s_end ?_
  refine v_cond (e rfl rfl) (fun hb1 => ?_) fun hb1 => ?_
  · replace hr := bf_t hb1 hr
    have hb1p := dec_t hb1
    refine v_seq ?_
    refine v_reg ?_
    refine sy _ (zas rfl (ec rfl)) rfl rfl ?_
    refine s_end ?_
    refine v_ret ?_
    subst hr
    exact post_ret (rv (.tmp (eg rfl rfl)) rfl (.lf .nil) rfl .nil) (.ro .nil) rfl
  replace hr := bf_f hb1 hr
  have hb1p := dec_f hb1
  refine v_seq ?_
  refine v_reg ?_
  refine sy (.t ⟨false, [.d (dB (decide ((a0) = (2))))]⟩) (y_bin rfl (e rfl rfl) (ec rfl) (fun _ => b_eql) rfl) rfl rfl ?_
  refine sy _ (zas rfl (e rfl rfl)) rfl rfl ?_
  refine s_end ?_
  refine v_cond (e rfl rfl) (fun hb2 => ?_) fun hb2 => ?_
  · replace hr := bf_t hb2 hr
    have hb2p := dec_t hb2
    refine v_seq ?_
    refine v_reg ?_
    refine sy _ (zas rfl (ec rfl)) rfl rfl ?_
    refine s_end ?_
    refine v_ret ?_
    subst hr
    exact post_ret (rv (.tmp (eg rfl rfl)) rfl (.lf .nil) rfl .nil) (.ro .nil) rfl
  replace hr := bf_f hb2 hr
  have hb2p := dec_f hb2
  refine v_seq ?_
  refine v_reg ?_
  refine sy (.t ⟨false, [.d (dB (decide ((a0) = (5))))]⟩) (y_bin rfl (e rfl rfl) (ec rfl) (fun _ => b_eql) rfl) rfl rfl ?_
  refine sy _ (zas rfl (e rfl rfl)) rfl rfl ?_
  refine s_end ?_
  refine v_cond (e rfl rfl) (fun hb3 => ?_) fun hb3 => ?_
  · replace hr := bf_t hb3 hr
    have hb3p := dec_t hb3
    refine v_seq ?_
    refine v_reg ?_
    refine sy _ (zas rfl (ec rfl)) rfl rfl ?_
    refine s_end ?_
    refine v_ret ?_
    subst hr
    exact post_ret (rv (.tmp (eg rfl rfl)) rfl (.lf .nil) rfl .nil) (.ro .nil) rfl
  replace hr := bf_f hb3 hr
  have hb3p := dec_f hb3
  refine v_seq ?_
  refine v_reg ?_
  refine sy (.t ⟨false, [.d (dB (decide ((a0) = (6))))]⟩) (y_bin rfl (e rfl rfl) (ec rfl) (fun _ => b_eql) rfl) rfl rfl ?_
  refine sy _ (zas rfl (e rfl rfl)) rfl rfl ?_
  refine s_end ?_
  refine v_cond (e rfl rfl) (fun hb4 => ?_) fun hb4 => ?_
  · replace hr := bf_t hb4 hr
    have hb4p := dec_t hb4
    refine v_seq ?_
    refine v_reg ?_
    refine sy _ (zas rfl (ec rfl)) rfl rfl ?_
    refine s_end ?_
    refine v_ret ?_
    subst hr
    exact post_ret (rv (.tmp (eg rfl rfl)) rfl (.lf .nil) rfl .nil) (.ro .nil) rfl
  replace hr := bf_f hb4 hr
  have hb4p := dec_f hb4
  refine v_seq ?_
  refine v_reg ?_
  refine sy (.t ⟨false, [.d (dB (decide ((a0) = (16))))]⟩) (y_bin rfl (e rfl rfl) (ec rfl) (fun _ => b_eql) rfl) rfl rfl ?_
  refine sy _ (zas rfl (e rfl rfl)) rfl rfl ?_
  refine s_end ?_
  refine v_cond (e rfl rfl) (fun hb5 => ?_) fun hb5 => ?_
  · replace hr := bf_t hb5 hr
    have hb5p := dec_t hb5
    refine v_seq ?_
    refine v_reg ?_
    refine sy _ (zas rfl (ec rfl)) rfl rfl ?_
    refine s_end ?_
    refine v_ret ?_
    subst hr
    exact post_ret (rv (.tmp (eg rfl rfl)) rfl (.lf .nil) rfl .nil) (.ro .nil) rfl
  replace hr := bf_f hb5 hr
  have hb5p := dec_f hb5
  refine v_skip ?_
  refine blk_norm ?_
  refine v_seq ?_
  refine v_reg ?_
  refine sy _ (zas rfl (ec rfl)) rfl rfl ?_
  refine s_end ?_
  refine v_ret ?_
  subst hr
  exact post_ret (rv (.tmp (eg rfl rfl)) rfl (.lf .nil) rfl .nil) (.ro .nil) rfl
set_option maxHeartbeats 4000000 in
theorem fitx_n_spec_TypeText (a0 : Int) : fitS (n_spec_TypeText a0) := by
  obtain ⟨r, hr⟩ : ∃ r, n_spec_TypeText a0 = r := ⟨_, rfl⟩
  rw [hr]
  rw [n_spec_TypeText] at hr
  rcases Bool.eq_false_or_eq_true (decide ((a0) = (1))) with hb1 | hb1
  · replace hr := bf_t hb1 hr
    have hb1p := dec_t hb1
    subst hr
    exact (fitS_lit (⟨#[97, 100, 100, 114]⟩ : ByteArray) (Nat.le_of_ble_eq_true rfl))
  replace hr := bf_f hb1 hr
  have hb1p := dec_f hb1
  rcases Bool.eq_false_or_eq_true (decide ((a0) = (2))) with hb2 | hb2
  · replace hr := bf_t hb2 hr
    have hb2p := dec_t hb2
    subst hr
    exact (fitS_lit (⟨#[115, 101, 114, 118, 101, 114]⟩ : ByteArray) (Nat.le_of_ble_eq_true rfl))
  replace hr := bf_f hb2 hr
  have hb2p := dec_f hb2
  rcases Bool.eq_false_or_eq_true (decide ((a0) = (5))) with hb3 | hb3
  · replace hr := bf_t hb3 hr
    have hb3p := dec_t hb3
    subst hr
    exact (fitS_lit (⟨#[97, 108, 105, 97, 115]⟩ : ByteArray) (Nat.le_of_ble_eq_true rfl))
  replace hr := bf_f hb3 hr
  have hb3p := dec_f hb3
  rcases Bool.eq_false_or_eq_true (decide ((a0) = (6))) with hb4 | hb4
  · replace hr := bf_t hb4 hr
    have hb4p := dec_t hb4
    subst hr
    exact (fitS_lit (⟨#[115, 116, 97, 114, 116]⟩ : ByteArray) (Nat.le_of_ble_eq_true rfl))
  replace hr := bf_f hb4 hr
  have hb4p := dec_f hb4
  rcases Bool.eq_false_or_eq_true (decide ((a0) = (16))) with hb5 | hb5
  · replace hr := bf_t hb5 hr
    have hb5p := dec_t hb5
    subst hr
    exact (fitS_lit (⟨#[116, 101, 120, 116]⟩ : ByteArray) (Nat.le_of_ble_eq_true rfl))
  replace hr := bf_f hb5 hr
  have hb5p := dec_f hb5
  subst hr
  exact (fitS_lit (⟨#[]⟩ : ByteArray) (Nat.le_of_ble_eq_true rfl))
theorem cond_ff {a b : Bool} (h : cond a false b = true) : a = false ∧ b = true := by cases a <;> simp_all
theorem frameok_pc (f : Frame) (h : n_spec_FrameOk f = true) : 1 ≤ f.Pc ∧ f.Pc ≤ 5 ∧ 0 ≤ f.Down := by
  unfold n_spec_FrameOk at h
  obtain ⟨_, h⟩ := cond_ff h
  obtain ⟨_, h⟩ := cond_ff h
  obtain ⟨_, h⟩ := cond_ff h
  obtain ⟨_, h⟩ := cond_ff h
  obtain ⟨_, h⟩ := cond_ff h
  obtain ⟨_, h⟩ := cond_ff h
  obtain ⟨_, h⟩ := cond_ff h
  obtain ⟨h1, h⟩ := cond_ff h
  obtain ⟨_, h⟩ := cond_ff h
  obtain ⟨h2, h⟩ := cond_ff h
  have h1' := of_decide_eq_false h1
  unfold n_spec_l1In at h2
  cases h3 : decide (1 ≤ f.Pc) with
  | false => rw [h3] at h2; cases h2
  | true =>
    rw [h3] at h2
    cases h4 : decide (f.Pc ≤ 5) with
    | false => rw [h4] at h2; cases h2
    | true => exact ⟨of_decide_eq_true h3, of_decide_eq_true h4, by omega⟩
def n_spec_FrameText (a0 : Frame) : ByteArray := cond (!(n_spec_FrameOk a0)) ((⟨#[]⟩ : ByteArray)) (atL (([(⟨#[108, 111, 111, 107]⟩ : ByteArray), (⟨#[97, 115, 107]⟩ : ByteArray), (⟨#[119, 97, 105, 116]⟩ : ByteArray), (⟨#[102, 101, 116, 99, 104]⟩ : ByteArray), (⟨#[115, 117, 98]⟩ : ByteArray)] : List ByteArray)) ((a0.Pc - 1).toNat) (fun x1 => bindv (n_spec_l5Dot a0.Q.Name) (fun v2 => bindv (v2 ++ (⟨#[32]⟩ : ByteArray)) (fun v3 => bindv (n_spec_TypeText a0.Q.Typ) (fun v4 => bindv (v3 ++ v4) (fun v5 => bindv (v5 ++ (⟨#[32]⟩ : ByteArray)) (fun v6 => bindv (v6 ++ x1) (fun v7 => bindv (v7 ++ (⟨#[32]⟩ : ByteArray)) (fun v8 => bindv (n_spec_l5Dot a0.Apex) (fun v9 => bindv (v8 ++ v9) (fun v10 => bindv (v10 ++ (⟨#[32]⟩ : ByteArray)) (fun v11 => bindv (numB ((((a0.Servers).length : Int))).toNat) (fun v12 => bindv (v11 ++ v12) (fun v13 => bindv (v13 ++ (⟨#[32]⟩ : ByteArray)) (fun v14 => bindv (numB ((((a0.Need).length : Int))).toNat) (fun v15 => bindv (v14 ++ v15) (fun v16 => bindv (v16 ++ (⟨#[32]⟩ : ByteArray)) (fun v17 => bindv (numB (a0.Down).toNat) (fun v18 => bindv (v17 ++ v18) (fun v19 => v19))))))))))))))))))))
set_option maxHeartbeats 4000000 in
set_option maxRecDepth 20000 in
theorem tr_n_spec_FrameText (a0 : Frame) (h0 : Frame.Fit a0) (hd : bndI a0.Down) : Tr Tryd.prog 17 [.ro ⟨true, [dS (a0.Ask.Name), dI (a0.Ask.Typ), dS (a0.Q.Name), dI (a0.Q.Typ), .sl 6 (a0.Links.map Record.cells), dS (a0.Apex), .sl 1 (a0.Servers.map encI), .sl 1 (a0.Need.map encS), dI (a0.Down), dI (a0.Left), dI (a0.Pc), dI (a0.X.Id), dI (a0.X.Addr), dI (a0.X.Try), dI (a0.X.Due)]⟩] [⟨false, [dS ((n_spec_FrameText a0))]⟩] := by
  obtain ⟨r, hr⟩ : ∃ r, n_spec_FrameText a0 = r := ⟨_, rfl⟩
  rw [hr]
  rw [n_spec_FrameText] at hr
  refine tr_go tabOk Tryd.func17 rfl rfl rfl rfl rfl (ov := [(0, .t ⟨true, [.d (dS (a0.Ask.Name)), .d (dI (a0.Ask.Typ)), .d (dS (a0.Q.Name)), .d (dI (a0.Q.Typ)), .d (.sl 6 (a0.Links.map Record.cells)), .d (dS (a0.Apex)), .d (.sl 1 (a0.Servers.map encI)), .d (.sl 1 (a0.Need.map encS)), .d (dI (a0.Down)), .d (dI (a0.Left)), .d (dI (a0.Pc)), .d (dI (a0.X.Id)), .d (dI (a0.X.Addr)), .d (dI (a0.X.Try)), .d (dI (a0.X.Due))]⟩)]) (hv := []) rfl rfl ?_
  refine v_seq ?_
  refine v_reg ?_
  refine sr 0 (.t ⟨false, [.vp 0 0]⟩) (.var [.d (dS (a0.Ask.Name)), .d (dI (a0.Ask.Typ)), .d (dS (a0.Q.Name)), .d (dI (a0.Q.Typ)), .d (.sl 6 (a0.Links.map Record.cells)), .d (dS (a0.Apex)), .d (.sl 1 (a0.Servers.map encI)), .d (.sl 1 (a0.Need.map encS)), .d (dI (a0.Down)), .d (dI (a0.Left)), .d (dI (a0.Pc)), .d (dI (a0.X.Id)), .d (dI (a0.X.Addr)), .d (dI (a0.X.Try)), .d (dI (a0.X.Due))]) (zbx rfl (e rfl rfl) rfl rfl rfl) rfl rfl ?_
  refine sy _ (zas rfl (ec rfl)) rfl rfl ?_
  refine s_end ?_
  refine v_seq ?_
  refine v_seq ?_
  refine v_reg ?_
  refine sy (.t ⟨true, [.d (dS (a0.Ask.Name)), .d (dI (a0.Ask.Typ)), .d (dS (a0.Q.Name)), .d (dI (a0.Q.Typ)), .d (.sl 6 (a0.Links.map Record.cells)), .d (dS (a0.Apex)), .d (.sl 1 (a0.Servers.map encI)), .d (.sl 1 (a0.Need.map encS)), .d (dI (a0.Down)), .d (dI (a0.Left)), .d (dI (a0.Pc)), .d (dI (a0.X.Id)), .d (dI (a0.X.Addr)), .d (dI (a0.X.Try)), .d (dI (a0.X.Due))]⟩) (zlv tabOk rfl (e rfl rfl) rfl rfl rfl) rfl rfl ?_
  refine sd (.t ⟨false, [.d (dB (n_spec_FrameOk a0))]⟩) (zcd (.t ⟨false, [.d (dB (n_spec_FrameOk a0))]⟩) rfl (tr_n_spec_FrameOk a0 h0) (ar (e rfl rfl) (.d (.d (.d (.d (.d (.d (.d (.d (.d (.d (.d (.d (.d (.d (.d .nil))))))))))))))) .nil) rfl) rfl rfl rfl rfl ?_
  refine sy (.t ⟨false, [.d (dB (!(n_spec_FrameOk a0)))]⟩) (y_un rfl (e rfl rfl) (fun _ => u_not) rfl) rfl rfl ?_
  refine s_end ?_
  refine v_cond (e rfl rfl) (fun hb1 => ?_) fun hb1 => ?_
  · replace hr := bf_t hb1 hr
    have hn2 := not_t hb1
    refine v_seq ?_
    refine v_reg ?_
    refine sy _ (zas rfl (ec rfl)) rfl rfl ?_
    refine s_end ?_
    refine v_ret ?_
    subst hr
    exact post_ret (rv (.tmp (eg rfl rfl)) rfl (.lf .nil) rfl .nil) (.ro .nil) rfl
  replace hr := bf_f hb1 hr
  have hn3 := not_f hb1
  have hpc := frameok_pc a0 hn3
  refine v_skip ?_
  refine v_seq ?_
  refine v_reg ?_
  refine sbk 1 (.t ⟨false, [.sr 1 1 0 ((([(⟨#[108, 111, 111, 107]⟩ : ByteArray), (⟨#[97, 115, 107]⟩ : ByteArray), (⟨#[119, 97, 105, 116]⟩ : ByteArray), (⟨#[102, 101, 116, 99, 104]⟩ : ByteArray), (⟨#[115, 117, 98]⟩ : ByteArray)] : List ByteArray).map encS).length) ((([(⟨#[108, 111, 111, 107]⟩ : ByteArray), (⟨#[97, 115, 107]⟩ : ByteArray), (⟨#[119, 97, 105, 116]⟩ : ByteArray), (⟨#[102, 101, 116, 99, 104]⟩ : ByteArray), (⟨#[115, 117, 98]⟩ : ByteArray)] : List ByteArray).map encS).length)]⟩) (.row 1 (([(⟨#[108, 111, 111, 107]⟩ : ByteArray), (⟨#[97, 115, 107]⟩ : ByteArray), (⟨#[119, 97, 105, 116]⟩ : ByteArray), (⟨#[102, 101, 116, 99, 104]⟩ : ByteArray), (⟨#[115, 117, 98]⟩ : ByteArray)] : List ByteArray).map encS) true 1 0) (zbu tabOk rfl rfl rfl rfl (pd0 (ec rfl) rfl (.lf .nil) rfl (pd0 (ec rfl) rfl (.lf .nil) rfl (pd0 (ec rfl) rfl (.lf .nil) rfl (pd0 (ec rfl) rfl (.lf .nil) rfl (pd0 (ec rfl) rfl (.lf .nil) rfl .nil))))) rfl rfl) rfl rfl ?_
  refine sy (.t ⟨false, [.vp 0 10]⟩) (zfa tabOk rfl rfl rfl (e rfl rfl) rfl rfl) rfl rfl ?_
  refine sy (.t ⟨false, [.d (dI (a0.Pc))]⟩) (zlv tabOk rfl (e rfl rfl) rfl rfl rfl) rfl rfl ?_
  refine sy (.t ⟨false, [.d (dI (a0.Pc - 1))]⟩) (y_bin rfl (e rfl rfl) (ec rfl) (fun _ => b_subn (by omega) (by omega)) rfl) rfl rfl ?_
  obtain ⟨x1, hx1⟩ : ∃ x, (([(⟨#[108, 111, 111, 107]⟩ : ByteArray), (⟨#[97, 115, 107]⟩ : ByteArray), (⟨#[119, 97, 105, 116]⟩ : ByteArray), (⟨#[102, 101, 116, 99, 104]⟩ : ByteArray), (⟨#[115, 117, 98]⟩ : ByteArray)] : List ByteArray))[(a0.Pc - 1).toNat]? = some x := some_of_lt (by first | omega | (simp only [List.length_cons, List.length_nil]; omega))
  replace hr := at_step hx1 hr
  have hfx1 := ((fitL_cons ((fitS_lit (⟨#[108, 111, 111, 107]⟩ : ByteArray) (Nat.le_of_ble_eq_true rfl))) (fitL_cons ((fitS_lit (⟨#[97, 115, 107]⟩ : ByteArray) (Nat.le_of_ble_eq_true rfl))) (fitL_cons ((fitS_lit (⟨#[119, 97, 105, 116]⟩ : ByteArray) (Nat.le_of_ble_eq_true rfl))) (fitL_cons ((fitS_lit (⟨#[102, 101, 116, 99, 104]⟩ : ByteArray) (Nat.le_of_ble_eq_true rfl))) (fitL_cons ((fitS_lit (⟨#[115, 117, 98]⟩ : ByteArray) (Nat.le_of_ble_eq_true rfl))) fitL_nil (Nat.le_of_ble_eq_true rfl)) (Nat.le_of_ble_eq_true rfl)) (Nat.le_of_ble_eq_true rfl)) (Nat.le_of_ble_eq_true rfl)) (Nat.le_of_ble_eq_true rfl))).2 _ (List.mem_of_getElem? hx1)
  refine sy (.t ⟨false, [.ep 1 1 ((a0.Pc - 1).toNat) 0]⟩) (zisI tabOk rfl rfl rfl (e rfl rfl) rfl (e rfl rfl) (by omega) (ltm_of_some hx1) (Nat.zero_add _)) rfl rfl ?_
  refine sy (.t ⟨false, [.d (dS (x1))]⟩) (zlr tabOk rfl (e rfl rfl) rfl (getm hx1) rfl rfl) rfl rfl ?_
  refine sy _ (zas rfl (e rfl rfl)) rfl rfl ?_
  refine s_end ?_
  refine v_seq ?_
  obtain ⟨v2, ev2⟩ : ∃ v : ByteArray, v = n_spec_l5Dot a0.Q.Name := ⟨_, rfl⟩
  replace hr := bv_step ev2 hr
  have hfv2 : fitS v2 := by rw [ev2]; exact (fitx_n_spec_l5Dot a0.Q.Name h0.Q.Name)
  have hB1 : (v2).size ≤ 2097152 := hfv2
  have hB2 : ((⟨#[32]⟩ : ByteArray)).size = 1 := rfl
  obtain ⟨v3, ev3⟩ : ∃ v : ByteArray, v = v2 ++ (⟨#[32]⟩ : ByteArray) := ⟨_, rfl⟩
  replace hr := bv_step ev3 hr
  have ev3z := size_app ev3
  obtain ⟨v4, ev4⟩ : ∃ v : ByteArray, v = n_spec_TypeText a0.Q.Typ := ⟨_, rfl⟩
  replace hr := bv_step ev4 hr
  have hfv4 : fitS v4 := by rw [ev4]; exact (fitx_n_spec_TypeText a0.Q.Typ)
  have hB4 : (v4).size ≤ 2097152 := hfv4
  obtain ⟨v5, ev5⟩ : ∃ v : ByteArray, v = v3 ++ v4 := ⟨_, rfl⟩
  replace hr := bv_step ev5 hr
  have ev5z := size_app ev5
  obtain ⟨v6, ev6⟩ : ∃ v : ByteArray, v = v5 ++ (⟨#[32]⟩ : ByteArray) := ⟨_, rfl⟩
  replace hr := bv_step ev6 hr
  have ev6z := size_app ev6
  have hB7 : (x1).size ≤ 2097152 := hfx1
  obtain ⟨v7, ev7⟩ : ∃ v : ByteArray, v = v6 ++ x1 := ⟨_, rfl⟩
  replace hr := bv_step ev7 hr
  have ev7z := size_app ev7
  obtain ⟨v8, ev8⟩ : ∃ v : ByteArray, v = v7 ++ (⟨#[32]⟩ : ByteArray) := ⟨_, rfl⟩
  replace hr := bv_step ev8 hr
  have ev8z := size_app ev8
  obtain ⟨v9, ev9⟩ : ∃ v : ByteArray, v = n_spec_l5Dot a0.Apex := ⟨_, rfl⟩
  replace hr := bv_step ev9 hr
  have hfv9 : fitS v9 := by rw [ev9]; exact (fitx_n_spec_l5Dot a0.Apex h0.Apex)
  have hB10 : (v9).size ≤ 2097152 := hfv9
  obtain ⟨v10, ev10⟩ : ∃ v : ByteArray, v = v8 ++ v9 := ⟨_, rfl⟩
  replace hr := bv_step ev10 hr
  have ev10z := size_app ev10
  obtain ⟨v11, ev11⟩ : ∃ v : ByteArray, v = v10 ++ (⟨#[32]⟩ : ByteArray) := ⟨_, rfl⟩
  replace hr := bv_step ev11 hr
  have ev11z := size_app ev11
  have hB13 := (h0.Servers).1
  obtain ⟨v12, ev12⟩ : ∃ v : ByteArray, v = numB ((((a0.Servers).length : Int))).toNat := ⟨_, rfl⟩
  replace hr := bv_step ev12 hr
  have hfv12 : fitS v12 := by rw [ev12]; exact fit_numB ((((a0.Servers).length : Int))) (by omega)
  have hB14 : (v12).size ≤ 2097152 := hfv12
  obtain ⟨v13, ev13⟩ : ∃ v : ByteArray, v = v11 ++ v12 := ⟨_, rfl⟩
  replace hr := bv_step ev13 hr
  have ev13z := size_app ev13
  obtain ⟨v14, ev14⟩ : ∃ v : ByteArray, v = v13 ++ (⟨#[32]⟩ : ByteArray) := ⟨_, rfl⟩
  replace hr := bv_step ev14 hr
  have ev14z := size_app ev14
  have hB17 := (h0.Need).1
  obtain ⟨v15, ev15⟩ : ∃ v : ByteArray, v = numB ((((a0.Need).length : Int))).toNat := ⟨_, rfl⟩
  replace hr := bv_step ev15 hr
  have hfv15 : fitS v15 := by rw [ev15]; exact fit_numB ((((a0.Need).length : Int))) (by omega)
  have hB18 : (v15).size ≤ 2097152 := hfv15
  obtain ⟨v16, ev16⟩ : ∃ v : ByteArray, v = v14 ++ v15 := ⟨_, rfl⟩
  replace hr := bv_step ev16 hr
  have ev16z := size_app ev16
  obtain ⟨v17, ev17⟩ : ∃ v : ByteArray, v = v16 ++ (⟨#[32]⟩ : ByteArray) := ⟨_, rfl⟩
  replace hr := bv_step ev17 hr
  have ev17z := size_app ev17
  obtain ⟨v18, ev18⟩ : ∃ v : ByteArray, v = numB (a0.Down).toNat := ⟨_, rfl⟩
  replace hr := bv_step ev18 hr
  have hfv18 : fitS v18 := by rw [ev18]; exact fit_numB a0.Down (by have := hd.2; omega)
  have hB21 : (v18).size ≤ 2097152 := hfv18
  obtain ⟨v19, ev19⟩ : ∃ v : ByteArray, v = v17 ++ v18 := ⟨_, rfl⟩
  replace hr := bv_step ev19 hr
  have ev19z := size_app ev19
  refine v_drw2 [⟨.t ⟨false, [.vp 0 2]⟩, [], [1], [], false⟩, ⟨.t ⟨false, [.vp 0 2]⟩, [], [13], [], false⟩, ⟨.t ⟨false, [.d (dS (a0.Q.Name))]⟩, [], [14], [0], false⟩, ⟨.t ⟨false, [.d (dS (v2))]⟩, [], [15], [], false⟩, ⟨.t ⟨false, [.d (dS (v3))]⟩, [], [16], [], false⟩, ⟨.t ⟨false, [.vp 0 2]⟩, [], [1], [], false⟩, ⟨.t ⟨false, [.vp 0 3]⟩, [], [18], [], false⟩, ⟨.t ⟨false, [.d (dI (a0.Q.Typ))]⟩, [], [19], [0], false⟩, ⟨.t ⟨false, [.d (dS (v4))]⟩, [], [20], [], false⟩, ⟨.t ⟨false, [.d (dS (v5))]⟩, [], [17, 21], [], false⟩, ⟨.t ⟨false, [.d (dS (v6))]⟩, [], [22], [], false⟩, ⟨.t ⟨false, [.d (dS (x1))]⟩, [], [3], [], false⟩, ⟨.t ⟨false, [.d (dS (v7))]⟩, [], [23, 24], [], false⟩, ⟨.t ⟨false, [.d (dS (v8))]⟩, [], [25], [], false⟩, ⟨.t ⟨false, [.vp 0 5]⟩, [], [1], [], false⟩, ⟨.t ⟨false, [.d (dS (a0.Apex))]⟩, [], [27], [0], false⟩, ⟨.t ⟨false, [.d (dS (v9))]⟩, [], [28], [], false⟩, ⟨.t ⟨false, [.d (dS (v10))]⟩, [], [26, 29], [], false⟩, ⟨.t ⟨false, [.d (dS (v11))]⟩, [], [30], [], false⟩, ⟨.t ⟨false, [.vp 0 6]⟩, [], [1], [], false⟩, ⟨.t ⟨false, [.d (.sl 1 (a0.Servers.map encI))]⟩, [], [32], [0], false⟩, ⟨.t ⟨false, [.d (dI ((a0.Servers).length : Int))]⟩, [], [33], [], false⟩, ⟨.t ⟨false, [.d (dS (v12))]⟩, [], [34], [], false⟩, ⟨.t ⟨false, [.d (dS (v13))]⟩, [], [31, 35], [], false⟩, ⟨.t ⟨false, [.d (dS (v14))]⟩, [], [36], [], false⟩, ⟨.t ⟨false, [.vp 0 7]⟩, [], [1], [], false⟩, ⟨.t ⟨false, [.d (.sl 1 (a0.Need.map encS))]⟩, [], [38], [0], false⟩, ⟨.t ⟨false, [.d (dI ((a0.Need).length : Int))]⟩, [], [39], [], false⟩, ⟨.t ⟨false, [.d (dS (v15))]⟩, [], [40], [], false⟩, ⟨.t ⟨false, [.d (dS (v16))]⟩, [], [37, 41], [], false⟩, ⟨.t ⟨false, [.d (dS (v17))]⟩, [], [42], [], false⟩, ⟨.t ⟨false, [.vp 0 8]⟩, [], [1], [], false⟩, ⟨.t ⟨false, [.d (dI (a0.Down))]⟩, [], [44], [0], false⟩, ⟨.t ⟨false, [.d (dS (v18))]⟩, [], [45], [], false⟩, ⟨.t ⟨false, [.d (dS (v19))]⟩, [], [43, 46], [], false⟩, ⟨.t ⟨false, [.d (dS (v19))]⟩, [], [47], [], false⟩] mixed (.c rfl (.c rfl (.c rfl (.c rfl (.c rfl (.c rfl (.c rfl (.c rfl (.c rfl (.c rfl (.c rfl (.c rfl (.c rfl (.c rfl (.c rfl (.c rfl (.c rfl (.c rfl (.c rfl (.c rfl (.c rfl (.c rfl (.c rfl (.c rfl (.c rfl (.c rfl (.c rfl (.c rfl (.c rfl (.c rfl (.c rfl (.c rfl (.c rfl (.c rfl (.c rfl (.c rfl .nil)))))))))))))))))))))))))))))))))))) (.s rfl (.s rfl (.s rfl (.s rfl (.s rfl (.s rfl (.s rfl (.s rfl (.s rfl (.s rfl (.s rfl (.s rfl (.s rfl (.s rfl (.s rfl (.s rfl (.s rfl (.s rfl (.s rfl (.s rfl (.s rfl (.s rfl (.s rfl (.s rfl (.s rfl (.s rfl (.s rfl (.s rfl (.s rfl (.s rfl (.s rfl (.s rfl (.s rfl (.s rfl (.s rfl (.s rfl .nil)))))))))))))))))))))))))))))))))))) (by kernel_rfl) (by kernel_rfl) ⟨gN rfl rfl (fun t h A => by exact dy (zfa tabOk rfl rfl rfl (A.e rfl rfl rfl) rfl rfl)), gN rfl rfl (fun t h A => by exact dy (zfa tabOk rfl rfl rfl (A.e rfl rfl rfl) rfl rfl)), gN rfl rfl (fun t h A => by exact dy (zlv tabOk rfl (A.e rfl rfl rfl) (A.h rfl rfl) rfl rfl)), gN rfl rfl (fun t h A => by exact zcd (.t ⟨false, [.d (dS (v2))]⟩) rfl (by rw [ev2]; exact (tr_n_spec_l5Dot a0.Q.Name h0.Q.Name) : Tr Tryd.prog 68 _ [⟨false, [dS (v2)]⟩]) (ar (A.e rfl rfl rfl) (.d .nil) .nil) rfl), gN rfl rfl (fun t h A => by exact dy (by rw [ev3]; exact y_bin rfl (A.e rfl rfl rfl) (ec rfl) (fun _ => b_sadd (by omega)) rfl)), gN rfl rfl (fun t h A => by exact dy (zfa tabOk rfl rfl rfl (A.e rfl rfl rfl) rfl rfl)), gN rfl rfl (fun t h A => by exact dy (zfa tabOk rfl rfl rfl (A.e rfl rfl rfl) rfl rfl)), gN rfl rfl (fun t h A => by exact dy (zlv tabOk rfl (A.e rfl rfl rfl) (A.h rfl rfl) rfl rfl)), gN rfl rfl (fun t h A => by exact zcd (.t ⟨false, [.d (dS (v4))]⟩) rfl (by rw [ev4]; exact (tr_n_spec_TypeText a0.Q.Typ) : Tr Tryd.prog 69 _ [⟨false, [dS (v4)]⟩]) (ar (A.e rfl rfl rfl) (.d .nil) .nil) rfl), gN rfl rfl (fun t h A => by exact dy (by rw [ev5]; exact y_bin rfl (A.e rfl rfl rfl) (A.e rfl rfl rfl) (fun _ => b_sadd (by omega)) rfl)), gN rfl rfl (fun t h A => by exact dy (by rw [ev6]; exact y_bin rfl (A.e rfl rfl rfl) (ec rfl) (fun _ => b_sadd (by omega)) rfl)), gN rfl rfl (fun t h A => by exact dy (zmv rfl (A.e rfl rfl rfl))), gN rfl rfl (fun t h A => by exact dy (by rw [ev7]; exact y_bin rfl (A.e rfl rfl rfl) (A.e rfl rfl rfl) (fun _ => b_sadd (by omega)) rfl)), gN rfl rfl (fun t h A => by exact dy (by rw [ev8]; exact y_bin rfl (A.e rfl rfl rfl) (ec rfl) (fun _ => b_sadd (by omega)) rfl)), gN rfl rfl (fun t h A => by exact dy (zfa tabOk rfl rfl rfl (A.e rfl rfl rfl) rfl rfl)), gN rfl rfl (fun t h A => by exact dy (zlv tabOk rfl (A.e rfl rfl rfl) (A.h rfl rfl) rfl rfl)), gN rfl rfl (fun t h A => by exact zcd (.t ⟨false, [.d (dS (v9))]⟩) rfl (by rw [ev9]; exact (tr_n_spec_l5Dot a0.Apex h0.Apex) : Tr Tryd.prog 68 _ [⟨false, [dS (v9)]⟩]) (ar (A.e rfl rfl rfl) (.d .nil) .nil) rfl), gN rfl rfl (fun t h A => by exact dy (by rw [ev10]; exact y_bin rfl (A.e rfl rfl rfl) (A.e rfl rfl rfl) (fun _ => b_sadd (by omega)) rfl)), gN rfl rfl (fun t h A => by exact dy (by rw [ev11]; exact y_bin rfl (A.e rfl rfl rfl) (ec rfl) (fun _ => b_sadd (by omega)) rfl)), gN rfl rfl (fun t h A => by exact dy (zfa tabOk rfl rfl rfl (A.e rfl rfl rfl) rfl rfl)), gN rfl rfl (fun t h A => by exact dy (zlv tabOk rfl (A.e rfl rfl rfl) (A.h rfl rfl) rfl rfl)), gN rfl rfl (fun t h A => by exact dy (zlm tabOk rfl rfl (A.e rfl rfl rfl) .d)), gN rfl rfl (fun t h A => by exact zcd (.t ⟨false, [.d (dS (v12))]⟩) rfl (by rw [ev12]; exact (tr2_n_spec_NumText (((a0.Servers).length : Int)) (by omega) (by omega)) : Tr Tryd.prog 70 _ [⟨false, [dS (v12)]⟩]) (ar (A.e rfl rfl rfl) (.d .nil) .nil) rfl), gN rfl rfl (fun t h A => by exact dy (by rw [ev13]; exact y_bin rfl (A.e rfl rfl rfl) (A.e rfl rfl rfl) (fun _ => b_sadd (by omega)) rfl)), gN rfl rfl (fun t h A => by exact dy (by rw [ev14]; exact y_bin rfl (A.e rfl rfl rfl) (ec rfl) (fun _ => b_sadd (by omega)) rfl)), gN rfl rfl (fun t h A => by exact dy (zfa tabOk rfl rfl rfl (A.e rfl rfl rfl) rfl rfl)), gN rfl rfl (fun t h A => by exact dy (zlv tabOk rfl (A.e rfl rfl rfl) (A.h rfl rfl) rfl rfl)), gN rfl rfl (fun t h A => by exact dy (zlm tabOk rfl rfl (A.e rfl rfl rfl) .d)), gN rfl rfl (fun t h A => by exact zcd (.t ⟨false, [.d (dS (v15))]⟩) rfl (by rw [ev15]; exact (tr2_n_spec_NumText (((a0.Need).length : Int)) (by omega) (by omega)) : Tr Tryd.prog 70 _ [⟨false, [dS (v15)]⟩]) (ar (A.e rfl rfl rfl) (.d .nil) .nil) rfl), gN rfl rfl (fun t h A => by exact dy (by rw [ev16]; exact y_bin rfl (A.e rfl rfl rfl) (A.e rfl rfl rfl) (fun _ => b_sadd (by omega)) rfl)), gN rfl rfl (fun t h A => by exact dy (by rw [ev17]; exact y_bin rfl (A.e rfl rfl rfl) (ec rfl) (fun _ => b_sadd (by omega)) rfl)), gN rfl rfl (fun t h A => by exact dy (zfa tabOk rfl rfl rfl (A.e rfl rfl rfl) rfl rfl)), gN rfl rfl (fun t h A => by exact dy (zlv tabOk rfl (A.e rfl rfl rfl) (A.h rfl rfl) rfl rfl)), gN rfl rfl (fun t h A => by exact zcd (.t ⟨false, [.d (dS (v18))]⟩) rfl (by rw [ev18]; exact (tr2_n_spec_NumText a0.Down hpc.2.2 (by have := hd.2; omega)) : Tr Tryd.prog 70 _ [⟨false, [dS (v18)]⟩]) (ar (A.e rfl rfl rfl) (.d .nil) .nil) rfl), gN rfl rfl (fun t h A => by exact dy (by rw [ev19]; exact y_bin rfl (A.e rfl rfl rfl) (A.e rfl rfl rfl) (fun _ => b_sadd (by omega)) rfl)), gN rfl rfl (fun t h A => by exact dy (zas rfl (A.e rfl rfl rfl))), trivial⟩ ?_
  refine s_end ?_
  refine v_ret ?_
  subst hr
  exact post_ret (rv (.tmp (eg rfl rfl)) rfl (.lf .nil) rfl .nil) (.ro .nil) rfl
def n_impl_FrameText (a0 : Frame) : ByteArray := cond (!(n_spec_FrameOk a0)) ((⟨#[]⟩ : ByteArray)) (atL (([(⟨#[108, 111, 111, 107]⟩ : ByteArray), (⟨#[97, 115, 107]⟩ : ByteArray), (⟨#[119, 97, 105, 116]⟩ : ByteArray), (⟨#[102, 101, 116, 99, 104]⟩ : ByteArray), (⟨#[115, 117, 98]⟩ : ByteArray)] : List ByteArray)) ((a0.Pc - 1).toNat) (fun x1 => bindv (n_impl_nameText a0.Q.Name) (fun v2 => bindv (n_impl_TypeText a0.Q.Typ) (fun v3 => bindv (n_impl_nameText a0.Apex) (fun v4 => bindv (numB ((((a0.Servers).length : Int))).toNat) (fun v5 => bindv (numB ((((a0.Need).length : Int))).toNat) (fun v6 => bindv (numB (a0.Down).toNat) (fun v7 => bindv (joinB (([v2, v3, x1, v4, v5, v6, v7] : List ByteArray)) ((⟨#[32]⟩ : ByteArray))) (fun v8 => v8)))))))))
set_option maxHeartbeats 4000000 in
set_option maxRecDepth 20000 in
theorem tr_n_impl_FrameText (a0 : Frame) (h0 : Frame.Fit a0) (hd : bndI a0.Down) : Tr Tryd.prog 18 [.ro ⟨true, [dS (a0.Ask.Name), dI (a0.Ask.Typ), dS (a0.Q.Name), dI (a0.Q.Typ), .sl 6 (a0.Links.map Record.cells), dS (a0.Apex), .sl 1 (a0.Servers.map encI), .sl 1 (a0.Need.map encS), dI (a0.Down), dI (a0.Left), dI (a0.Pc), dI (a0.X.Id), dI (a0.X.Addr), dI (a0.X.Try), dI (a0.X.Due)]⟩] [⟨false, [dS ((n_impl_FrameText a0))]⟩] := by
  obtain ⟨r, hr⟩ : ∃ r, n_impl_FrameText a0 = r := ⟨_, rfl⟩
  rw [hr]
  rw [n_impl_FrameText] at hr
  refine tr_go tabOk Tryd.func18 rfl rfl rfl rfl rfl (ov := [(0, .t ⟨true, [.d (dS (a0.Ask.Name)), .d (dI (a0.Ask.Typ)), .d (dS (a0.Q.Name)), .d (dI (a0.Q.Typ)), .d (.sl 6 (a0.Links.map Record.cells)), .d (dS (a0.Apex)), .d (.sl 1 (a0.Servers.map encI)), .d (.sl 1 (a0.Need.map encS)), .d (dI (a0.Down)), .d (dI (a0.Left)), .d (dI (a0.Pc)), .d (dI (a0.X.Id)), .d (dI (a0.X.Addr)), .d (dI (a0.X.Try)), .d (dI (a0.X.Due))]⟩)]) (hv := []) rfl rfl ?_
  refine v_seq ?_
  refine v_reg ?_
  refine sr 0 (.t ⟨false, [.vp 0 0]⟩) (.var [.d (dS (a0.Ask.Name)), .d (dI (a0.Ask.Typ)), .d (dS (a0.Q.Name)), .d (dI (a0.Q.Typ)), .d (.sl 6 (a0.Links.map Record.cells)), .d (dS (a0.Apex)), .d (.sl 1 (a0.Servers.map encI)), .d (.sl 1 (a0.Need.map encS)), .d (dI (a0.Down)), .d (dI (a0.Left)), .d (dI (a0.Pc)), .d (dI (a0.X.Id)), .d (dI (a0.X.Addr)), .d (dI (a0.X.Try)), .d (dI (a0.X.Due))]) (zbx rfl (e rfl rfl) rfl rfl rfl) rfl rfl ?_
  refine sy _ (zas rfl (ec rfl)) rfl rfl ?_
  refine s_end ?_
  refine v_seq ?_
  refine v_seq ?_
  refine v_reg ?_
  refine sy (.t ⟨true, [.d (dS (a0.Ask.Name)), .d (dI (a0.Ask.Typ)), .d (dS (a0.Q.Name)), .d (dI (a0.Q.Typ)), .d (.sl 6 (a0.Links.map Record.cells)), .d (dS (a0.Apex)), .d (.sl 1 (a0.Servers.map encI)), .d (.sl 1 (a0.Need.map encS)), .d (dI (a0.Down)), .d (dI (a0.Left)), .d (dI (a0.Pc)), .d (dI (a0.X.Id)), .d (dI (a0.X.Addr)), .d (dI (a0.X.Try)), .d (dI (a0.X.Due))]⟩) (zlv tabOk rfl (e rfl rfl) rfl rfl rfl) rfl rfl ?_
  refine sd (.t ⟨false, [.d (dB (n_spec_FrameOk a0))]⟩) (zcd (.t ⟨false, [.d (dB (n_spec_FrameOk a0))]⟩) rfl (tr2_n_impl_FrameOk a0 h0) (ar (e rfl rfl) (.d (.d (.d (.d (.d (.d (.d (.d (.d (.d (.d (.d (.d (.d (.d .nil))))))))))))))) .nil) rfl) rfl rfl rfl rfl ?_
  refine sy (.t ⟨false, [.d (dB (!(n_spec_FrameOk a0)))]⟩) (y_un rfl (e rfl rfl) (fun _ => u_not) rfl) rfl rfl ?_
  refine s_end ?_
  refine v_cond (e rfl rfl) (fun hb1 => ?_) fun hb1 => ?_
  · replace hr := bf_t hb1 hr
    have hn2 := not_t hb1
    refine v_seq ?_
    refine v_reg ?_
    refine sy _ (zas rfl (ec rfl)) rfl rfl ?_
    refine s_end ?_
    refine v_ret ?_
    subst hr
    exact post_ret (rv (.tmp (eg rfl rfl)) rfl (.lf .nil) rfl .nil) (.ro .nil) rfl
  replace hr := bf_f hb1 hr
  have hn3 := not_f hb1
  have hpc := frameok_pc a0 hn3
  refine v_skip ?_
  refine v_seq ?_
  refine v_reg ?_
  refine sbk 1 (.t ⟨false, [.sr 1 1 0 ((([(⟨#[108, 111, 111, 107]⟩ : ByteArray), (⟨#[97, 115, 107]⟩ : ByteArray), (⟨#[119, 97, 105, 116]⟩ : ByteArray), (⟨#[102, 101, 116, 99, 104]⟩ : ByteArray), (⟨#[115, 117, 98]⟩ : ByteArray)] : List ByteArray).map encS).length) ((([(⟨#[108, 111, 111, 107]⟩ : ByteArray), (⟨#[97, 115, 107]⟩ : ByteArray), (⟨#[119, 97, 105, 116]⟩ : ByteArray), (⟨#[102, 101, 116, 99, 104]⟩ : ByteArray), (⟨#[115, 117, 98]⟩ : ByteArray)] : List ByteArray).map encS).length)]⟩) (.row 1 (([(⟨#[108, 111, 111, 107]⟩ : ByteArray), (⟨#[97, 115, 107]⟩ : ByteArray), (⟨#[119, 97, 105, 116]⟩ : ByteArray), (⟨#[102, 101, 116, 99, 104]⟩ : ByteArray), (⟨#[115, 117, 98]⟩ : ByteArray)] : List ByteArray).map encS) true 1 0) (zbu tabOk rfl rfl rfl rfl (pd0 (ec rfl) rfl (.lf .nil) rfl (pd0 (ec rfl) rfl (.lf .nil) rfl (pd0 (ec rfl) rfl (.lf .nil) rfl (pd0 (ec rfl) rfl (.lf .nil) rfl (pd0 (ec rfl) rfl (.lf .nil) rfl .nil))))) rfl rfl) rfl rfl ?_
  refine sy (.t ⟨false, [.vp 0 10]⟩) (zfa tabOk rfl rfl rfl (e rfl rfl) rfl rfl) rfl rfl ?_
  refine sy (.t ⟨false, [.d (dI (a0.Pc))]⟩) (zlv tabOk rfl (e rfl rfl) rfl rfl rfl) rfl rfl ?_
  refine sy (.t ⟨false, [.d (dI (a0.Pc - 1))]⟩) (y_bin rfl (e rfl rfl) (ec rfl) (fun _ => b_subn (by omega) (by omega)) rfl) rfl rfl ?_
  obtain ⟨x1, hx1⟩ : ∃ x, (([(⟨#[108, 111, 111, 107]⟩ : ByteArray), (⟨#[97, 115, 107]⟩ : ByteArray), (⟨#[119, 97, 105, 116]⟩ : ByteArray), (⟨#[102, 101, 116, 99, 104]⟩ : ByteArray), (⟨#[115, 117, 98]⟩ : ByteArray)] : List ByteArray))[(a0.Pc - 1).toNat]? = some x := some_of_lt (by first | omega | (simp only [List.length_cons, List.length_nil]; omega))
  replace hr := at_step hx1 hr
  have hfx1 := ((fitL_cons ((fitS_lit (⟨#[108, 111, 111, 107]⟩ : ByteArray) (Nat.le_of_ble_eq_true rfl))) (fitL_cons ((fitS_lit (⟨#[97, 115, 107]⟩ : ByteArray) (Nat.le_of_ble_eq_true rfl))) (fitL_cons ((fitS_lit (⟨#[119, 97, 105, 116]⟩ : ByteArray) (Nat.le_of_ble_eq_true rfl))) (fitL_cons ((fitS_lit (⟨#[102, 101, 116, 99, 104]⟩ : ByteArray) (Nat.le_of_ble_eq_true rfl))) (fitL_cons ((fitS_lit (⟨#[115, 117, 98]⟩ : ByteArray) (Nat.le_of_ble_eq_true rfl))) fitL_nil (Nat.le_of_ble_eq_true rfl)) (Nat.le_of_ble_eq_true rfl)) (Nat.le_of_ble_eq_true rfl)) (Nat.le_of_ble_eq_true rfl)) (Nat.le_of_ble_eq_true rfl))).2 _ (List.mem_of_getElem? hx1)
  refine sy (.t ⟨false, [.ep 1 1 ((a0.Pc - 1).toNat) 0]⟩) (zisI tabOk rfl rfl rfl (e rfl rfl) rfl (e rfl rfl) (by omega) (ltm_of_some hx1) (Nat.zero_add _)) rfl rfl ?_
  refine sy (.t ⟨false, [.d (dS (x1))]⟩) (zlr tabOk rfl (e rfl rfl) rfl (getm hx1) rfl rfl) rfl rfl ?_
  refine sy _ (zas rfl (e rfl rfl)) rfl rfl ?_
  refine s_end ?_
  refine v_seq ?_
  obtain ⟨v2, ev2⟩ : ∃ v : ByteArray, v = n_impl_nameText a0.Q.Name := ⟨_, rfl⟩
  replace hr := bv_step ev2 hr
  have hfv2 : fitS v2 := by rw [ev2]; exact (fitx_n_impl_nameText a0.Q.Name h0.Q.Name)
  obtain ⟨v3, ev3⟩ : ∃ v : ByteArray, v = n_impl_TypeText a0.Q.Typ := ⟨_, rfl⟩
  replace hr := bv_step ev3 hr
  have hfv3 : fitS v3 := by rw [ev3]; exact (fitx_n_impl_TypeText a0.Q.Typ)
  obtain ⟨v4, ev4⟩ : ∃ v : ByteArray, v = n_impl_nameText a0.Apex := ⟨_, rfl⟩
  replace hr := bv_step ev4 hr
  have hfv4 : fitS v4 := by rw [ev4]; exact (fitx_n_impl_nameText a0.Apex h0.Apex)
  have hB1 := (h0.Servers).1
  obtain ⟨v5, ev5⟩ : ∃ v : ByteArray, v = numB ((((a0.Servers).length : Int))).toNat := ⟨_, rfl⟩
  replace hr := bv_step ev5 hr
  have hfv5 : fitS v5 := by rw [ev5]; exact fit_numB ((((a0.Servers).length : Int))) (by omega)
  have hB2 := (h0.Need).1
  obtain ⟨v6, ev6⟩ : ∃ v : ByteArray, v = numB ((((a0.Need).length : Int))).toNat := ⟨_, rfl⟩
  replace hr := bv_step ev6 hr
  have hfv6 : fitS v6 := by rw [ev6]; exact fit_numB ((((a0.Need).length : Int))) (by omega)
  obtain ⟨v7, ev7⟩ : ∃ v : ByteArray, v = numB (a0.Down).toNat := ⟨_, rfl⟩
  replace hr := bv_step ev7 hr
  have hfv7 : fitS v7 := by rw [ev7]; exact fit_numB a0.Down (by have := hd.2; omega)
  obtain ⟨v8, ev8⟩ : ∃ v : ByteArray, v = joinB (([v2, v3, x1, v4, v5, v6, v7] : List ByteArray)) ((⟨#[32]⟩ : ByteArray)) := ⟨_, rfl⟩
  replace hr := bv_step ev8 hr
  refine v_drw2 [⟨.t ⟨false, [.vp 0 2]⟩, [], [1], [], false⟩, ⟨.t ⟨false, [.vp 0 2]⟩, [], [13], [], false⟩, ⟨.t ⟨false, [.d (dS (a0.Q.Name))]⟩, [], [14], [0], false⟩, ⟨.t ⟨false, [.d (dS (v2))]⟩, [], [15], [], false⟩, ⟨.t ⟨false, [.vp 0 2]⟩, [], [1], [], false⟩, ⟨.t ⟨false, [.vp 0 3]⟩, [], [17], [], false⟩, ⟨.t ⟨false, [.d (dI (a0.Q.Typ))]⟩, [], [18], [0], false⟩, ⟨.t ⟨false, [.d (dS (v3))]⟩, [], [19], [], false⟩, ⟨.t ⟨false, [.d (dS (x1))]⟩, [], [3], [], false⟩, ⟨.t ⟨false, [.vp 0 5]⟩, [], [1], [], false⟩, ⟨.t ⟨false, [.d (dS (a0.Apex))]⟩, [], [22], [0], false⟩, ⟨.t ⟨false, [.d (dS (v4))]⟩, [], [23], [], false⟩, ⟨.t ⟨false, [.vp 0 6]⟩, [], [1], [], false⟩, ⟨.t ⟨false, [.d (.sl 1 (a0.Servers.map encI))]⟩, [], [25], [0], false⟩, ⟨.t ⟨false, [.d (dI ((a0.Servers).length : Int))]⟩, [], [26], [], false⟩, ⟨.t ⟨false, [.d (dS (v5))]⟩, [], [27], [], false⟩, ⟨.t ⟨false, [.vp 0 7]⟩, [], [1], [], false⟩, ⟨.t ⟨false, [.d (.sl 1 (a0.Need.map encS))]⟩, [], [29], [0], false⟩, ⟨.t ⟨false, [.d (dI ((a0.Need).length : Int))]⟩, [], [30], [], false⟩, ⟨.t ⟨false, [.d (dS (v6))]⟩, [], [31], [], false⟩, ⟨.t ⟨false, [.vp 0 8]⟩, [], [1], [], false⟩, ⟨.t ⟨false, [.d (dI (a0.Down))]⟩, [], [33], [0], false⟩, ⟨.t ⟨false, [.d (dS (v7))]⟩, [], [34], [], false⟩, ⟨.t ⟨false, [.sr 2 1 0 ((([v2, v3, x1, v4, v5, v6, v7] : List ByteArray).map encS).length) ((([v2, v3, x1, v4, v5, v6, v7] : List ByteArray).map encS).length)]⟩, [(2, .row 1 (([v2, v3, x1, v4, v5, v6, v7] : List ByteArray).map encS) true 1 0)], [16, 20, 21, 24, 28, 32, 35], [], false⟩, ⟨.t ⟨false, [.d (dS (v8))]⟩, [], [36], [2], false⟩, ⟨.t ⟨false, [.d (dS (v8))]⟩, [], [37], [], false⟩] mixed (.c rfl (.c rfl (.c rfl (.c rfl (.c rfl (.c rfl (.c rfl (.c rfl (.c rfl (.c rfl (.c rfl (.c rfl (.c rfl (.c rfl (.c rfl (.c rfl (.c rfl (.c rfl (.c rfl (.c rfl (.c rfl (.c rfl (.c rfl (.c rfl (.c rfl (.c rfl .nil)))))))))))))))))))))))))) (.s rfl (.s rfl (.s rfl (.s rfl (.s rfl (.s rfl (.s rfl (.s rfl (.s rfl (.s rfl (.s rfl (.s rfl (.s rfl (.s rfl (.s rfl (.s rfl (.s rfl (.s rfl (.s rfl (.s rfl (.s rfl (.s rfl (.s rfl (.g rfl (.s rfl (.s rfl .nil)))))))))))))))))))))))))) (by kernel_rfl) (by kernel_rfl) ⟨gN rfl rfl (fun t h A => by exact dy (zfa tabOk rfl rfl rfl (A.e rfl rfl rfl) rfl rfl)), gN rfl rfl (fun t h A => by exact dy (zfa tabOk rfl rfl rfl (A.e rfl rfl rfl) rfl rfl)), gN rfl rfl (fun t h A => by exact dy (zlv tabOk rfl (A.e rfl rfl rfl) (A.h rfl rfl) rfl rfl)), gN rfl rfl (fun t h A => by exact zcd (.t ⟨false, [.d (dS (v2))]⟩) rfl (by rw [ev2]; exact (tr_n_impl_nameText a0.Q.Name h0.Q.Name) : Tr Tryd.prog 72 _ [⟨false, [dS (v2)]⟩]) (ar (A.e rfl rfl rfl) (.d .nil) .nil) rfl), gN rfl rfl (fun t h A => by exact dy (zfa tabOk rfl rfl rfl (A.e rfl rfl rfl) rfl rfl)), gN rfl rfl (fun t h A => by exact dy (zfa tabOk rfl rfl rfl (A.e rfl rfl rfl) rfl rfl)), gN rfl rfl (fun t h A => by exact dy (zlv tabOk rfl (A.e rfl rfl rfl) (A.h rfl rfl) rfl rfl)), gN rfl rfl (fun t h A => by exact zcd (.t ⟨false, [.d (dS (v3))]⟩) rfl (by rw [ev3]; exact (tr_n_impl_TypeText a0.Q.Typ) : Tr Tryd.prog 73 _ [⟨false, [dS (v3)]⟩]) (ar (A.e rfl rfl rfl) (.d .nil) .nil) rfl), gN rfl rfl (fun t h A => by exact dy (zmv rfl (A.e rfl rfl rfl))), gN rfl rfl (fun t h A => by exact dy (zfa tabOk rfl rfl rfl (A.e rfl rfl rfl) rfl rfl)), gN rfl rfl (fun t h A => by exact dy (zlv tabOk rfl (A.e rfl rfl rfl) (A.h rfl rfl) rfl rfl)), gN rfl rfl (fun t h A => by exact zcd (.t ⟨false, [.d (dS (v4))]⟩) rfl (by rw [ev4]; exact (tr_n_impl_nameText a0.Apex h0.Apex) : Tr Tryd.prog 72 _ [⟨false, [dS (v4)]⟩]) (ar (A.e rfl rfl rfl) (.d .nil) .nil) rfl), gN rfl rfl (fun t h A => by exact dy (zfa tabOk rfl rfl rfl (A.e rfl rfl rfl) rfl rfl)), gN rfl rfl (fun t h A => by exact dy (zlv tabOk rfl (A.e rfl rfl rfl) (A.h rfl rfl) rfl rfl)), gN rfl rfl (fun t h A => by exact dy (zlm tabOk rfl rfl (A.e rfl rfl rfl) .d)), gN rfl rfl (fun t h A => by exact zcd (.t ⟨false, [.d (dS (v5))]⟩) rfl (by rw [ev5]; exact (tr2_n_impl_NumText (((a0.Servers).length : Int)) (by omega) (by omega)) : Tr Tryd.prog 74 _ [⟨false, [dS (v5)]⟩]) (ar (A.e rfl rfl rfl) (.d .nil) .nil) rfl), gN rfl rfl (fun t h A => by exact dy (zfa tabOk rfl rfl rfl (A.e rfl rfl rfl) rfl rfl)), gN rfl rfl (fun t h A => by exact dy (zlv tabOk rfl (A.e rfl rfl rfl) (A.h rfl rfl) rfl rfl)), gN rfl rfl (fun t h A => by exact dy (zlm tabOk rfl rfl (A.e rfl rfl rfl) .d)), gN rfl rfl (fun t h A => by exact zcd (.t ⟨false, [.d (dS (v6))]⟩) rfl (by rw [ev6]; exact (tr2_n_impl_NumText (((a0.Need).length : Int)) (by omega) (by omega)) : Tr Tryd.prog 74 _ [⟨false, [dS (v6)]⟩]) (ar (A.e rfl rfl rfl) (.d .nil) .nil) rfl), gN rfl rfl (fun t h A => by exact dy (zfa tabOk rfl rfl rfl (A.e rfl rfl rfl) rfl rfl)), gN rfl rfl (fun t h A => by exact dy (zlv tabOk rfl (A.e rfl rfl rfl) (A.h rfl rfl) rfl rfl)), gN rfl rfl (fun t h A => by exact zcd (.t ⟨false, [.d (dS (v7))]⟩) rfl (by rw [ev7]; exact (tr2_n_impl_NumText a0.Down hpc.2.2 (by have := hd.2; omega)) : Tr Tryd.prog 74 _ [⟨false, [dS (v7)]⟩]) (ar (A.e rfl rfl rfl) (.d .nil) .nil) rfl), gN rfl rfl (fun t h A => by exact dk (zbu tabOk rfl rfl rfl rfl (pd0 (A.e rfl rfl rfl) rfl (.lf .nil) rfl (pd0 (A.e rfl rfl rfl) rfl (.lf .nil) rfl (pd0 (A.e rfl rfl rfl) rfl (.lf .nil) rfl (pd0 (A.e rfl rfl rfl) rfl (.lf .nil) rfl (pd0 (A.e rfl rfl rfl) rfl (.lf .nil) rfl (pd0 (A.e rfl rfl rfl) rfl (.lf .nil) rfl (pd0 (A.e rfl rfl rfl) rfl (.lf .nil) rfl .nil))))))) rfl (A.g rfl))), gN rfl rfl (fun t h A => by exact zcd (.t ⟨false, [.d (dS (v8))]⟩) rfl (by rw [ev8]; exact (tr_n_strings_Join (([v2, v3, x1, v4, v5, v6, v7] : List ByteArray)) ((⟨#[32]⟩ : ByteArray)) ((fitL_cons hfv2 (fitL_cons hfv3 (fitL_cons hfx1 (fitL_cons hfv4 (fitL_cons hfv5 (fitL_cons hfv6 (fitL_cons hfv7 fitL_nil (Nat.le_of_ble_eq_true rfl)) (Nat.le_of_ble_eq_true rfl)) (Nat.le_of_ble_eq_true rfl)) (Nat.le_of_ble_eq_true rfl)) (Nat.le_of_ble_eq_true rfl)) (Nat.le_of_ble_eq_true rfl)) (Nat.le_of_ble_eq_true rfl))) ((fitS_lit (⟨#[32]⟩ : ByteArray) (Nat.le_of_ble_eq_true rfl)))) : Tr Tryd.prog 71 _ [⟨false, [dS (v8)]⟩]) (ar (A.e rfl rfl rfl) (.sr (A.h rfl rfl) le_all take_all .nil) (ar (ec rfl) (.d .nil) .nil)) rfl), gN rfl rfl (fun t h A => by exact dy (zas rfl (A.e rfl rfl rfl))), trivial⟩ ?_
  refine s_end ?_
  refine v_ret ?_
  subst hr
  exact post_ret (rv (.tmp (eg rfl rfl)) rfl (.lf .nil) rfl .nil) (.ro .nil) rfl
theorem joinB_one (x p : ByteArray) : joinB [x] p = x := by
  apply ba_list
  simp [joinB, Lib.join_one]
theorem joinB_two (x y : ByteArray) (r : List ByteArray) (p : ByteArray) : joinB (x :: y :: r) p = x ++ (p ++ joinB (y :: r) p) := by
  apply ba_list
  rw [ba_app, ba_app]
  simp only [joinB, List.map_cons]
  rw [Lib.join_cons, Lib.join_cons]
  simp [Lib.joinTail]
theorem law_nameText (s : ByteArray) : n_impl_nameText s = n_spec_l5Dot s := by
  unfold n_impl_nameText n_spec_l5Dot
  first | rfl | (cases decide (s = (⟨#[]⟩ : ByteArray)) <;> rfl)
theorem law_TypeText (n : Int) : n_impl_TypeText n = n_spec_TypeText n := by
  unfold n_impl_TypeText n_spec_TypeText
  first | rfl | (cases decide (n = 1) <;> cases decide (n = 2) <;> cases decide (n = 5) <;> cases decide (n = 6) <;> cases decide (n = 16) <;> rfl)
theorem law_FrameText (f : Frame) : n_impl_FrameText f = n_spec_FrameText f := by
  unfold n_impl_FrameText n_spec_FrameText
  simp only [law_nameText, law_TypeText, bindv, joinB_two, joinB_one, ByteArray.append_assoc]
theorem tr2_n_impl_FrameText (a0 : Frame) (h0 : Frame.Fit a0) (hd : bndI a0.Down) : Tr Tryd.prog 18 [.ro ⟨true, [dS (a0.Ask.Name), dI (a0.Ask.Typ), dS (a0.Q.Name), dI (a0.Q.Typ), .sl 6 (a0.Links.map Record.cells), dS (a0.Apex), .sl 1 (a0.Servers.map encI), .sl 1 (a0.Need.map encS), dI (a0.Down), dI (a0.Left), dI (a0.Pc), dI (a0.X.Id), dI (a0.X.Addr), dI (a0.X.Try), dI (a0.X.Due)]⟩] [⟨false, [dS ((n_spec_FrameText a0))]⟩] := by
  have := tr_n_impl_FrameText a0 h0 hd
  rwa [law_FrameText a0] at this
end Go.Proofs.YtkcpbahcnlhmjaaDoor.V
