/-
  The mark texts.
-/
import Derived.Test.YtglilpigoocgeaaGreatDoorN
namespace Go.Proofs.YtglilpigoocgeaaGreatDoor.V
open Go
set_option linter.unusedVariables false
set_option linter.unusedSimpArgs false
set_option maxRecDepth 20000 in
theorem tr_markText (k : Int) (hk : k < 9223372036854775808) : Tr Tryz.prog 33 [.ro (one (dI k))] [one (dS (mt k))] := by
  refine tr_go tabOk Tryz.func33 rfl rfl rfl rfl rfl (ov := [(0, sc (dI k))]) (hv := []) rfl rfl ?_
  refine v_seq ?_
  refine v_reg ?_
  refine sy _ (zas rfl (ec rfl)) rfl rfl ?_
  refine s_end ?_
  refine v_seq ?_
  refine v_seq ?_
  refine v_reg ?_
  refine sy _ (zmv rfl (e rfl rfl)) rfl rfl ?_
  refine sy (.t ⟨false, [.d (dB (decide ((k) ≤ (0))))]⟩) (y_bin rfl (e rfl rfl) (ec rfl) (fun _ => b_leq) rfl) rfl rfl ?_
  refine s_end ?_
  refine v_cond (e rfl rfl) (fun hb1 => ?_) fun hb1 => ?_
  · refine v_seq ?_
    refine v_reg ?_
    refine sy _ (zas rfl (ec rfl)) rfl rfl ?_
    refine s_end ?_
    refine v_ret ?_
    have hr : mt k = (⟨#[109, 48]⟩ : ByteArray) := by simp only [mt]; rw [if_pos (by have := hb1; simpa using this)]
    rw [hr]
    exact post_ret (rv (.tmp (eg rfl rfl)) rfl (.lf .nil) rfl .nil) (.ro .nil) rfl
  have hkp : 0 < k := by have := hb1; simp at this; omega
  refine v_skip ?_
  refine v_seq ?_
  refine v_reg ?_
  refine sy _ (zas rfl (ec rfl)) rfl rfl ?_
  refine s_end ?_
  refine v_seq ?_
  refine v_block ?_
  have hkn : k = (k.toNat : Int) := by omega
  refine v_lp (fun (q : Nat × ByteArray) => [(0, .t ⟨false, [.d (dI (q.1 : Int))]⟩), (3, .t ⟨false, [.d (dS (q.2))]⟩)]) (fun _ => []) (fun q => ((q.1 = 0 ∧ 2 * q.2.size ≤ k.toNat + 1) ∨ 2 * q.2.size + q.1 ≤ k.toNat) ∧ mtd q.1 q.2 = mtd k.toNat ⟨#[]⟩) (fun q => q.1) (k.toNat, ⟨#[]⟩) ⟨.inr (Nat.le_of_eq (Nat.zero_add _)), rfl⟩ ⟨congrArg (fun x => sc (dI x)) hkn, rfl, trivial⟩ trivial rfl (fun q hi => ?_)
  obtain ⟨kk, out⟩ := q
  have hi1 := hi.1; simp only at hi1
  have e3 : ((kk, out) : Nat × ByteArray).2.size = out.size := rfl
  refine v_seq ?_
  refine v_seq ?_
  refine v_reg ?_
  refine sy _ (zmv rfl (e rfl rfl)) rfl rfl ?_
  refine sy (.t ⟨false, [.d (dB (decide ((0) < ((kk : Int)))))]⟩) (y_bin rfl (e rfl rfl) (ec rfl) (fun _ => b_gtr) rfl) rfl rfl ?_
  refine s_end ?_
  refine v_cond (e rfl rfl) (fun hb2 => ?_) fun hb2 => ?_
  · have hkk : 0 < kk := by have := hb2; simp at this; omega
    refine v_skip ?_
    refine v_block ?_
    refine v_seq ?_
    refine v_reg ?_
    refine sy _ (zmv rfl (e rfl rfl)) rfl rfl ?_
    refine sy (.t ⟨false, [.d (dI ((kk % 10 : Nat) : Int))]⟩) (y_bin rfl (e rfl rfl) (ec rfl) (fun _ => b_rem10) rfl) rfl rfl ?_
    refine sy (.t ⟨false, [.d (dI (48 + ((kk % 10 : Nat) : Int)))]⟩) (y_bin rfl (ec rfl) (e rfl rfl) (fun _ => b_addn (by omega) (by omega)) rfl) rfl rfl ?_
    refine sy (.t ⟨false, [.d (.lf (.int .u8 (48 + ((kk % 10 : Nat) : Int))))]⟩) (y_conv rfl (e rfl rfl) (fun _ => c_u8 (by kernel_rfl) (by kernel_rfl) (by omega) (by omega)) rfl) rfl rfl ?_
    refine sb 0 (.t ⟨false, [.sr 0 1 0 1 1]⟩) (.row 1 ([[.lf (.int .u8 (48 + ((kk % 10 : Nat) : Int)))]]) true 1 0) (zbu tabOk rfl rfl rfl rfl (pd0 (e rfl rfl) rfl (.lf .nil) rfl .nil) rfl rfl) rfl rfl ?_
    refine sy (.t ⟨false, [.d (dS (strOfNums [48 + ((kk % 10 : Nat) : Int)]))]⟩) (zbs [48 + ((kk % 10 : Nat) : Int)] tabOk rfl rfl rfl (by kernel_rfl) (e rfl rfl) rfl rfl rfl) rfl rfl ?_
    refine sy _ (zmv rfl (e rfl rfl)) rfl rfl ?_
    refine sy (.t ⟨false, [.d (dS (strOfNums [48 + ((kk % 10 : Nat) : Int)] ++ out))]⟩) (y_bin rfl (e rfl rfl) (e rfl rfl) (fun _ => b_sadd (by rw [strOfNums_size]; simp only [List.length_cons, List.length_nil]; (try dsimp only); omega)) rfl) rfl rfl ?_
    refine sy _ (zas rfl (e rfl rfl)) rfl rfl ?_
    refine s_end ?_
    refine v_reg ?_
    refine sy _ (zmv rfl (e rfl rfl)) rfl rfl ?_
    refine sy (.t ⟨false, [.d (dI ((kk / 10 : Nat) : Int))]⟩) (y_bin rfl (e rfl rfl) (ec rfl) (fun _ => b_quo10 (by omega)) rfl) rfl rfl ?_
    refine sy _ (zas rfl (e rfl rfl)) rfl rfl ?_
    refine s_end ?_
    refine blk_norm ?_
    exact lp_next (kk / 10, strOfNums [48 + ((kk % 10 : Nat) : Int)] ++ out) ⟨by simp only; rw [str1_size]; omega, by simp only; rw [← mtd_pos hkk]; exact hi.2⟩ (by simp only; omega) ⟨rfl, rfl, trivial⟩ trivial rfl
  refine v_exit ?_
  refine then_exit ?_
  refine loop_exit ?_
  refine blk_hit ?_
  refine v_seq ?_
  refine v_reg ?_
  refine sy _ (zmv rfl (e rfl rfl)) rfl rfl ?_
  refine sy (.t ⟨false, [.d (dS ((⟨#[109]⟩ : ByteArray) ++ out))]⟩) (y_bin rfl (ec rfl) (e rfl rfl) (fun _ => b_sadd (by have e1 : (⟨#[109]⟩ : ByteArray).size = 1 := rfl; (try dsimp only); omega)) rfl) rfl rfl ?_
  refine sy _ (zas rfl (e rfl rfl)) rfl rfl ?_
  refine s_end ?_
  refine v_ret ?_
  have hr : mt k = (⟨#[109]⟩ : ByteArray) ++ out := by
    have hq : kk = 0 := by have := hb2; simp at this; omega
    subst hq; simp only [mt]; rw [if_neg (by omega), ← hi.2, mtd_zero]
  rw [hr]
  exact post_ret (rv (.tmp (eg rfl rfl)) rfl (.lf .nil) rfl .nil) (.ro .nil) rfl
end Go.Proofs.YtglilpigoocgeaaGreatDoor.V
