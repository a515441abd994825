/-
  strings.Split at a dot.
-/
import Derived.Test.YtglilpigoocgeaaGreatDoorN
import Derived.Test.YtglilpigoocgeaaGreatDoorK1
namespace Go.Proofs.YtglilpigoocgeaaGreatDoor.V
open Go
set_option linter.unusedVariables false
set_option linter.unusedSimpArgs false
def n_strings_Count (s : ByteArray) : Nat := Lib.countByte s.data.toList 46
def n_strings_Index (s : ByteArray) : Int := Lib.indexByte s.data.toList 46
theorem idx_bnd : ∀ (l : List UInt8) (c : UInt8), -1 ≤ Lib.indexByte l c ∧ (Lib.indexByte l c : Int) < l.length
  | [], c => by simp [Lib.indexByte]
  | x :: l, c => by
    have := idx_bnd l c
    simp only [Lib.indexByte, List.length_cons]
    split
    · omega
    · split <;> omega
theorem count_le (s : ByteArray) : n_strings_Count s ≤ s.size := by
  have := List.count_le_length (a := (46 : UInt8)) (l := s.data.toList)
  rw [Array.length_toList] at this
  exact this
theorem index_bnd (s : ByteArray) {m : Int} (e : m = n_strings_Index s) : -1 ≤ m ∧ m < s.size := by
  have := idx_bnd s.data.toList 46
  rw [Array.length_toList] at this
  subst e; exact this
theorem tr_n_strings_Count (a0 : ByteArray) : Tr Tryz.prog 87 [.ro ⟨false, [dS a0]⟩, .ro ⟨false, [dS (⟨#[46]⟩ : ByteArray)]⟩] [⟨false, [dI (n_strings_Count a0)]⟩] :=
  tr_pure (xs := [.string a0, .string ⟨#[46]⟩]) ⟨_, _, Tryz.func87, rfl, rfl⟩ rfl (fun w => Tryz.strings_Count_one a0 46 w)
theorem tr_n_strings_Index (a0 : ByteArray) : Tr Tryz.prog 88 [.ro ⟨false, [dS a0]⟩, .ro ⟨false, [dS (⟨#[46]⟩ : ByteArray)]⟩] [⟨false, [dI (n_strings_Index a0)]⟩] :=
  tr_pure (xs := [.string a0, .string ⟨#[46]⟩]) ⟨_, _, Tryz.func88, rfl, rfl⟩ rfl (fun w => Tryz.strings_Index_one a0 46 w)
def n_strings_genSplitL1 (v1 : Nat) : Nat → (List ByteArray) → ByteArray → Nat → (List ByteArray)
  | 0, _, _, _ => default
  | n + 1, l0, s, i => cond (decide (((i : Int)) < ((v1 : Int) - 1))) (bindv (n_strings_Index s) (fun v2 => cond (decide ((v2) < (0))) (atL (l0) (i) (fun x3 => ((l0).set i s).take (i + 1))) (bindv ((s).extract 0 ((v2 + 0).toNat)) (fun v4 => atL (l0) (i) (fun x5 => bindv ((s).extract ((v2 + 1).toNat) ((s).size)) (fun v6 => n_strings_genSplitL1 v1 n ((l0).set i v4) v6 (i + 1))))))) (atL (l0) (i) (fun x7 => ((l0).set i s).take (i + 1)))
def n_strings_genSplit (a0 : ByteArray) : List ByteArray := cond (decide ((-1) = (0))) default (cond (decide (((⟨#[46]⟩ : ByteArray)) = ((⟨#[]⟩ : ByteArray)))) default (cond (decide ((-1) < (0))) (bindv (min (n_strings_Count a0 + 1) (a0.size + 1)) (fun v1 => n_strings_genSplitL1 v1 (n_strings_Count a0 + 2) (List.replicate v1 (⟨#[]⟩ : ByteArray)) a0 0)) default))
set_option maxHeartbeats 4000000 in
set_option maxRecDepth 20000 in
theorem tr_n_strings_genSplit (a0 : ByteArray) (h0 : fitS a0) : Tr Tryz.prog 82 [.ro ⟨false, [dS (a0)]⟩, .ro ⟨false, [dS ((⟨#[46]⟩ : ByteArray))]⟩, .ro ⟨false, [dI (0)]⟩, .ro ⟨false, [dI (-1)]⟩] [⟨false, [.sl 1 (((n_strings_genSplit a0)).map encS)]⟩] := by
  obtain ⟨r, hr⟩ : ∃ r, n_strings_genSplit a0 = r := ⟨_, rfl⟩
  rw [hr]
  rw [n_strings_genSplit] at hr
  have hsz : a0.size ≤ 2097152 := h0
  refine tr_go tabOk Tryz.func82 rfl rfl rfl rfl rfl (ov := [(0, .t ⟨false, [.d (dS (a0))]⟩), (1, .t ⟨false, [.d (dS ((⟨#[46]⟩ : ByteArray)))]⟩), (2, .t ⟨false, [.d (dI (0))]⟩), (3, .t ⟨false, [.d (dI (-1))]⟩)]) (hv := []) rfl rfl ?_
  refine v_seq ?_
  refine v_reg ?_
  refine sy _ (zas rfl (en 1)) rfl rfl ?_
  refine s_end ?_
  refine v_seq ?_
  refine v_seq ?_
  refine v_reg ?_
  refine sy _ (zmv rfl (e rfl rfl)) rfl rfl ?_
  refine sy (.t ⟨false, [.d (dB (decide ((-1) = (0))))]⟩) (y_bin rfl (e rfl rfl) (ec rfl) (fun _ => b_eql) rfl) rfl rfl ?_
  refine s_end ?_
  have hz1 : (decide ((-1) = (0))) = false := by decide
  replace hr := bf_f hz1 hr
  refine v_cF (e rfl rfl) hz1 ?_
  refine v_skip ?_
  refine v_seq ?_
  refine v_seq ?_
  refine v_reg ?_
  refine sy _ (zmv rfl (e rfl rfl)) rfl rfl ?_
  refine sy (.t ⟨false, [.d (dB (decide (((⟨#[46]⟩ : ByteArray)) = ((⟨#[]⟩ : ByteArray)))))]⟩) (y_bin rfl (e rfl rfl) (ec rfl) (fun _ => b_seql) rfl) rfl rfl ?_
  refine s_end ?_
  have hz2 : (decide (((⟨#[46]⟩ : ByteArray)) = ((⟨#[]⟩ : ByteArray)))) = false := by decide
  replace hr := bf_f hz2 hr
  refine v_cF (e rfl rfl) hz2 ?_
  refine v_skip ?_
  refine v_seq ?_
  refine v_seq ?_
  refine v_reg ?_
  refine sy _ (zmv rfl (e rfl rfl)) rfl rfl ?_
  refine sy (.t ⟨false, [.d (dB (decide ((-1) < (0))))]⟩) (y_bin rfl (e rfl rfl) (ec rfl) (fun _ => b_lss) rfl) rfl rfl ?_
  refine s_end ?_
  have hz3 : (decide ((-1) < (0))) = true := by decide
  replace hr := bf_t hz3 hr
  refine v_cT (e rfl rfl) hz3 ?_
  refine v_reg ?_
  refine sy _ (zmv rfl (e rfl rfl)) rfl rfl ?_
  refine sy _ (zmv rfl (e rfl rfl)) rfl rfl ?_
  have hq4 := count_le a0
  refine sd (.t ⟨false, [.d (dI (n_strings_Count a0 : Int))]⟩) (zcall 0 (.t ⟨false, [.d (dI (n_strings_Count a0 : Int))]⟩) [] rfl (tr_n_strings_Count a0) (ar (e rfl rfl) (.d .nil) (ar (e rfl rfl) (.d .nil) .nil)) rfl rfl rfl) rfl rfl rfl rfl ?_
  refine sy (.t ⟨false, [.d (dI (n_strings_Count a0 + 1 : Int))]⟩) (y_bin rfl (e rfl rfl) (ec rfl) (fun _ => b_addn (by omega) (by omega)) rfl) rfl rfl ?_
  refine sy _ (zas rfl (e rfl rfl)) rfl rfl ?_
  refine s_end ?_
  refine v_seq ?_
  refine v_reg ?_
  refine sy _ (zmv rfl (e rfl rfl)) rfl rfl ?_
  refine sy _ (zmv rfl (e rfl rfl)) rfl rfl ?_
  have hB1 : (a0).size ≤ 2097152 := h0
  refine sy (.t ⟨false, [.d (dI (a0.size : Int))]⟩) (zls tabOk rfl rfl (e rfl rfl)) rfl rfl ?_
  refine sy (.t ⟨false, [.d (dI (a0.size + 1 : Int))]⟩) (y_bin rfl (e rfl rfl) (ec rfl) (fun _ => b_addn (by omega) (by omega)) rfl) rfl rfl ?_
  obtain ⟨v1, ev1⟩ : ∃ v : Nat, v = min (n_strings_Count a0 + 1) (a0.size + 1) := ⟨_, rfl⟩
  replace hr := bv_step ev1 hr
  have ev1a : v1 = min (n_strings_Count a0 + 1) (a0.size + 1) := ev1
  have ev1b := min_facts ev1
  refine sy (.t ⟨false, [.d (dI (v1 : Int))]⟩) (by rw [ev1]; exact zminn rfl (e rfl rfl) (e rfl rfl)) rfl rfl ?_
  refine sy _ (zas rfl (e rfl rfl)) rfl rfl ?_
  refine s_end ?_
  refine v_seq ?_
  refine v_reg ?_
  refine sy _ (zmv rfl (e rfl rfl)) rfl rfl ?_
  refine sr 0 (.t ⟨false, [.sr 0 1 0 (((List.replicate v1 (⟨#[]⟩ : ByteArray)).map encS).length) (((List.replicate v1 (⟨#[]⟩ : ByteArray)).map encS).length)]⟩) (.row 1 ((List.replicate v1 (⟨#[]⟩ : ByteArray)).map encS) true 1 0) (zmkn (zn := (⟨#[]⟩ : ByteArray)) tabOk rfl rfl rfl (e rfl rfl) (e rfl rfl) (Nat.le_refl _) (Nat.le_trans (Nat.mul_le_mul_right _ (by omega : v1 ≤ 8388608)) (by decide)) rfl rfl) rfl rfl ?_
  refine sy _ (zas rfl (e rfl rfl)) rfl rfl ?_
  refine s_end ?_
  refine v_seq ?_
  refine v_reg ?_
  refine sy _ (zmv rfl (e rfl rfl)) rfl rfl ?_
  refine sy (.t ⟨false, [.d (dI ((v1 : Int) - 1))]⟩) (y_bin rfl (e rfl rfl) (ec rfl) (fun _ => b_subn (by omega) (by omega)) rfl) rfl rfl ?_
  refine sy _ (zas rfl (e rfl rfl)) rfl rfl ?_
  refine s_end ?_
  refine v_seq ?_
  refine v_reg ?_
  refine sy _ (zas rfl (ec rfl)) rfl rfl ?_
  refine s_end ?_
  refine v_seq ?_
  refine v_block ?_
  refine v_lp (fun (q : Nat × List ByteArray × ByteArray × Nat × Nat × Nat) => [(0, .t ⟨false, [.d (dS (q.2.2.1))]⟩), (1, .t ⟨false, [.d (dS ((⟨#[46]⟩ : ByteArray)))]⟩), (2, .t ⟨false, [.d (dI (0))]⟩), (3, .t ⟨false, [.d (dI ((v1 : Int) - 1))]⟩), (9, .t ⟨false, [.sr 0 q.2.2.2.2.1 0 (((q.2.1).map encS).length) (((q.2.1).map encS).length)]⟩), (10, .t ⟨false, [.d (dI (q.2.2.2.1 : Int))]⟩)]) (fun q => [(0, .row 1 ((q.2.1).map encS) true q.2.2.2.2.1 q.2.2.2.2.2)]) (fun q => n_strings_genSplitL1 v1 q.1 q.2.1 q.2.2.1 q.2.2.2.1 = r ∧ (q.2.2.2.1 + q.1 = n_strings_Count a0 + 2) ∧ (q.2.2.2.1 ≤ n_strings_Count a0) ∧ (q.2.1.length = v1) ∧ (q.2.2.1.size ≤ 2097152)) (fun q => q.1) (n_strings_Count a0 + 2, (List.replicate v1 (⟨#[]⟩ : ByteArray) : List ByteArray), (a0 : ByteArray), (0 : Nat), 1, 0) ⟨hr, by (try dsimp only); (try simp only [List.length_nil, List.length_cons, List.length_replicate]); first | done | omega | exact Nat.zero_le _, by (try dsimp only); (try simp only [List.length_nil, List.length_cons, List.length_replicate]); first | done | omega | exact Nat.zero_le _, by (try dsimp only); (try simp only [List.length_nil, List.length_cons, List.length_replicate]); first | done | omega | exact Nat.zero_le _, h0⟩ ⟨rfl, rfl, rfl, rfl, rfl, rfl, trivial⟩ ⟨rfl, trivial⟩ rfl (fun q hq => ?_)
  obtain ⟨n, l0, s, i, g0, w0⟩ := q
  obtain ⟨hr, hi1x0, hi1x1, hi1x2, hi1x3⟩ := hq
  dsimp only at hr hi1x0 hi1x1 hi1x2 hi1x3
  show VWp _ _ _ (mk [(0, .t ⟨false, [.d (dS (s))]⟩), (1, .t ⟨false, [.d (dS ((⟨#[46]⟩ : ByteArray)))]⟩), (2, .t ⟨false, [.d (dI (0))]⟩), (3, .t ⟨false, [.d (dI ((v1 : Int) - 1))]⟩), (9, .t ⟨false, [.sr 0 g0 0 (((l0).map encS).length) (((l0).map encS).length)]⟩), (10, .t ⟨false, [.d (dI (i : Int))]⟩)] _ [(0, .row 1 ((l0).map encS) true g0 w0)])
  rcases n with _ | n
  · exfalso; omega
  rw [n_strings_genSplitL1] at hr
  refine v_seq ?_
  refine v_seq ?_
  refine v_reg ?_
  refine sy _ (zmv rfl (e rfl rfl)) rfl rfl ?_
  refine sy _ (zmv rfl (e rfl rfl)) rfl rfl ?_
  refine sy (.t ⟨false, [.d (dB (decide (((i : Int)) < ((v1 : Int) - 1))))]⟩) (y_bin rfl (e rfl rfl) (e rfl rfl) (fun _ => b_lss) rfl) rfl rfl ?_
  refine s_end ?_
  refine v_cond (e rfl rfl) (fun hb5 => ?_) fun hb5 => ?_
  · replace hr := bf_t hb5 hr
    have hb5p := dec_t hb5
    refine v_skip ?_
    refine v_block ?_
    refine v_seq ?_
    refine v_reg ?_
    refine sy _ (zmv rfl (e rfl rfl)) rfl rfl ?_
    refine sy _ (zmv rfl (e rfl rfl)) rfl rfl ?_
    obtain ⟨v2, ev2⟩ : ∃ v : Int, v = n_strings_Index s := ⟨_, rfl⟩
    replace hr := bv_step ev2 hr
    have hq6 := index_bnd s ev2
    refine sd (.t ⟨false, [.d (dI (v2))]⟩) (zcall 1 (.t ⟨false, [.d (dI (v2))]⟩) [] rfl (by rw [ev2]; exact (tr_n_strings_Index s) : Tr Tryz.prog 88 _ [⟨false, [dI (v2)]⟩]) (ar (e rfl rfl) (.d .nil) (ar (e rfl rfl) (.d .nil) .nil)) rfl rfl rfl) rfl rfl rfl rfl ?_
    refine sy _ (zas rfl (e rfl rfl)) rfl rfl ?_
    refine s_end ?_
    refine v_seq ?_
    refine v_seq ?_
    refine v_reg ?_
    refine sy _ (zmv rfl (e rfl rfl)) rfl rfl ?_
    refine sy (.t ⟨false, [.d (dB (decide ((v2) < (0))))]⟩) (y_bin rfl (e rfl rfl) (ec rfl) (fun _ => b_lss) rfl) rfl rfl ?_
    refine s_end ?_
    refine v_cond (e rfl rfl) (fun hb7 => ?_) fun hb7 => ?_
    · replace hr := bf_t hb7 hr
      have hb7p := dec_t hb7
      refine v_exit ?_
      refine then_exit ?_
      refine blk_miss rfl ?_
      refine loop_exit ?_
      refine blk_hit ?_
      refine v_seq ?_
      refine v_reg ?_
      refine sy _ (zmv rfl (e rfl rfl)) rfl rfl ?_
      refine sy _ (zmv rfl (e rfl rfl)) rfl rfl ?_
      refine sy _ (zmv rfl (e rfl rfl)) rfl rfl ?_
      obtain ⟨x3, hx3⟩ : ∃ x, (l0)[i]? = some x := some_of_lt (by omega)
      replace hr := at_step hx3 hr
      refine sy (.t ⟨false, [.ep 0 g0 i 0]⟩) (zis tabOk rfl rfl rfl (e rfl rfl) rfl (e rfl rfl) (ltm_of_some hx3) (Nat.zero_add _)) rfl rfl ?_
      refine sw 0 (.row 1 (((l0).set i s).map encS) true g0 w0) (zsr0 tabOk rfl (e rfl rfl) rfl (getm hx3) (e rfl rfl) rfl (.lf .nil) rfl rfl (map_set rfl)) rfl rfl ?_
      refine s_end ?_
      refine v_seq ?_
      refine v_reg ?_
      refine sy _ (zmv rfl (e rfl rfl)) rfl rfl ?_
      refine sy _ (zmv rfl (e rfl rfl)) rfl rfl ?_
      refine sy (.t ⟨false, [.d (dI (i + 1 : Int))]⟩) (y_bin rfl (e rfl rfl) (ec rfl) (fun _ => b_addn (by omega) (by omega)) rfl) rfl rfl ?_
      have hl8 : i + 1 ≤ ((l0).set i s).length := by (try simp only [List.length_append, List.length_cons, List.length_nil, List.length_set]); omega
      refine sy (.t ⟨false, [.sr 0 g0 0 (i + 1) (((l0).map encS).length)]⟩) (zso tabOk rfl rfl rfl (e rfl rfl) rfl (sbs (e rfl rfl) rfl) (by simp only [List.length_map, List.length_set]; omega)) rfl rfl ?_
      refine sy _ (zas rfl (e rfl rfl)) rfl rfl ?_
      refine s_end ?_
      refine v_ret ?_
      subst hr
      exact post_ret (rv (.tmp (eg rfl rfl)) rfl (.sr rfl (by simp only [List.length_map, List.length_set]; omega) (by simp [List.map_take]) .nil) rfl .nil) (.ro (.ro (.ro (.ro .nil)))) rfl
    replace hr := bf_f hb7 hr
    have hb7p := dec_f hb7
    refine v_skip ?_
    refine v_seq ?_
    refine v_reg ?_
    refine sy _ (zmv rfl (e rfl rfl)) rfl rfl ?_
    refine sy _ (zmv rfl (e rfl rfl)) rfl rfl ?_
    refine sy _ (zmv rfl (e rfl rfl)) rfl rfl ?_
    refine sy _ (zmv rfl (e rfl rfl)) rfl rfl ?_
    refine sy _ (zmv rfl (e rfl rfl)) rfl rfl ?_
    refine sy (.t ⟨false, [.d (dI (v2 + 0))]⟩) (y_bin rfl (e rfl rfl) (e rfl rfl) (fun _ => b_addn (by omega) (by omega)) rfl) rfl rfl ?_
    have hB2 : (s).size ≤ 2097152 := hi1x3
    obtain ⟨v4, ev4⟩ : ∃ v : ByteArray, v = (s).extract 0 ((v2 + 0).toNat) := ⟨_, rfl⟩
    replace hr := bv_step ev4 hr
    have hl9 : 0 ≤ (v2 + 0).toNat := by omega
    have hl9u : (v2 + 0).toNat ≤ (s).size := by omega
    have hl9z := size_ext ev4 hl9 hl9u
    have hfv4 := fit_ext ev4 hi1x3
    refine sy (.t ⟨false, [.d (dS (v4))]⟩) (by rw [ev4]; exact zss tabOk rfl rfl (e rfl rfl) (sbn rfl) (sbs (e rfl rfl) (by omega)) hl9 hl9u) rfl rfl ?_
    obtain ⟨x5, hx5⟩ : ∃ x, (l0)[i]? = some x := some_of_lt (by omega)
    replace hr := at_step hx5 hr
    refine sy (.t ⟨false, [.ep 0 g0 i 0]⟩) (zis tabOk rfl rfl rfl (e rfl rfl) rfl (e rfl rfl) (ltm_of_some hx5) (Nat.zero_add _)) rfl rfl ?_
    refine sw 0 (.row 1 (((l0).set i v4).map encS) true g0 w0) (zsr0 tabOk rfl (e rfl rfl) rfl (getm hx5) (e rfl rfl) rfl (.lf .nil) rfl rfl (map_set rfl)) rfl rfl ?_
    refine s_end ?_
    refine v_seq ?_
    refine v_reg ?_
    refine sy _ (zmv rfl (e rfl rfl)) rfl rfl ?_
    refine sy _ (zmv rfl (e rfl rfl)) rfl rfl ?_
    refine sy _ (zmv rfl (e rfl rfl)) rfl rfl ?_
    refine sy (.t ⟨false, [.d (dI (1))]⟩) (zlsk tabOk rfl rfl (e rfl rfl) rfl) rfl rfl ?_
    refine sy (.t ⟨false, [.d (dI (v2 + 1))]⟩) (y_bin rfl (e rfl rfl) (e rfl rfl) (fun _ => b_addn (by omega) (by omega)) rfl) rfl rfl ?_
    obtain ⟨v6, ev6⟩ : ∃ v : ByteArray, v = (s).extract ((v2 + 1).toNat) ((s).size) := ⟨_, rfl⟩
    replace hr := bv_step ev6 hr
    have hl10 : (v2 + 1).toNat ≤ (s).size := by omega
    have hl10u : (s).size ≤ (s).size := by omega
    have hl10z := size_ext ev6 hl10 hl10u
    have hfv6 := fit_ext ev6 hi1x3
    refine sy (.t ⟨false, [.d (dS (v6))]⟩) (by rw [ev6]; exact zss tabOk rfl rfl (e rfl rfl) (sbs (e rfl rfl) (by omega)) (sbn rfl) hl10 hl10u) rfl rfl ?_
    refine sy _ (zas rfl (e rfl rfl)) rfl rfl ?_
    refine s_end ?_
    refine v_reg ?_
    refine sy _ (zmv rfl (e rfl rfl)) rfl rfl ?_
    refine sy (.t ⟨false, [.d (dI (i + 1 : Int))]⟩) (y_bin rfl (e rfl rfl) (ec rfl) (fun _ => b_addn (by omega) (by omega)) rfl) rfl rfl ?_
    refine sy _ (zas rfl (e rfl rfl)) rfl rfl ?_
    refine s_end ?_
    refine blk_norm ?_
    exact lp_next (n, (l0).set i v4, v6, i + 1, g0, w0) ⟨hr, by (try simp only [List.length_append, List.length_cons, List.length_nil, List.length_set]); first | done | omega, by (try simp only [List.length_append, List.length_cons, List.length_nil, List.length_set]); first | done | omega, by (try simp only [List.length_append, List.length_cons, List.length_nil, List.length_set]); first | done | omega, by (try simp only [List.length_append, List.length_cons, List.length_nil, List.length_set]); first | done | omega⟩ (Nat.lt_succ_self _) ⟨rfl, rfl, rfl, rfl, (show (.t ⟨false, [.sr 0 g0 0 (((l0).map encS).length) (((l0).map encS).length)]⟩ : Slot) = _ by simp only [List.length_map, List.length_set]), rfl, trivial⟩ ⟨rfl, trivial⟩ rfl
  replace hr := bf_f hb5 hr
  have hb5p := dec_f hb5
  refine v_exit ?_
  refine then_exit ?_
  refine loop_exit ?_
  refine blk_hit ?_
  refine v_seq ?_
  refine v_reg ?_
  refine sy _ (zmv rfl (e rfl rfl)) rfl rfl ?_
  refine sy _ (zmv rfl (e rfl rfl)) rfl rfl ?_
  refine sy _ (zmv rfl (e rfl rfl)) rfl rfl ?_
  obtain ⟨x7, hx7⟩ : ∃ x, (l0)[i]? = some x := some_of_lt (by omega)
  replace hr := at_step hx7 hr
  refine sy (.t ⟨false, [.ep 0 g0 i 0]⟩) (zis tabOk rfl rfl rfl (e rfl rfl) rfl (e rfl rfl) (ltm_of_some hx7) (Nat.zero_add _)) rfl rfl ?_
  refine sw 0 (.row 1 (((l0).set i s).map encS) true g0 w0) (zsr0 tabOk rfl (e rfl rfl) rfl (getm hx7) (e rfl rfl) rfl (.lf .nil) rfl rfl (map_set rfl)) rfl rfl ?_
  refine s_end ?_
  refine v_seq ?_
  refine v_reg ?_
  refine sy _ (zmv rfl (e rfl rfl)) rfl rfl ?_
  refine sy _ (zmv rfl (e rfl rfl)) rfl rfl ?_
  refine sy (.t ⟨false, [.d (dI (i + 1 : Int))]⟩) (y_bin rfl (e rfl rfl) (ec rfl) (fun _ => b_addn (by omega) (by omega)) rfl) rfl rfl ?_
  have hl11 : i + 1 ≤ ((l0).set i s).length := by (try simp only [List.length_append, List.length_cons, List.length_nil, List.length_set]); omega
  refine sy (.t ⟨false, [.sr 0 g0 0 (i + 1) (((l0).map encS).length)]⟩) (zso tabOk rfl rfl rfl (e rfl rfl) rfl (sbs (e rfl rfl) rfl) (by simp only [List.length_map, List.length_set]; omega)) rfl rfl ?_
  refine sy _ (zas rfl (e rfl rfl)) rfl rfl ?_
  refine s_end ?_
  refine v_ret ?_
  subst hr
  exact post_ret (rv (.tmp (eg rfl rfl)) rfl (.sr rfl (by simp only [List.length_map, List.length_set]; omega) (by simp [List.map_take]) .nil) rfl .nil) (.ro (.ro (.ro (.ro .nil)))) rfl
def n_strings_Split (a0 : ByteArray) : List ByteArray := bindv (n_strings_genSplit a0) (fun v1 => v1)
set_option maxHeartbeats 4000000 in
set_option maxRecDepth 20000 in
theorem tr_n_strings_Split (a0 : ByteArray) (h0 : fitS a0) : Tr Tryz.prog 77 [.ro ⟨false, [dS (a0)]⟩, .ro ⟨false, [dS ((⟨#[46]⟩ : ByteArray))]⟩] [⟨false, [.sl 1 (((n_strings_Split a0)).map encS)]⟩] := by
  obtain ⟨r, hr⟩ : ∃ r, n_strings_Split a0 = r := ⟨_, rfl⟩
  rw [hr]
  rw [n_strings_Split] at hr
  refine tr_go tabOk Tryz.func77 rfl rfl rfl rfl rfl (ov := [(0, .t ⟨false, [.d (dS (a0))]⟩), (1, .t ⟨false, [.d (dS ((⟨#[46]⟩ : ByteArray)))]⟩)]) (hv := []) rfl rfl ?_
  refine v_seq ?_
  refine v_reg ?_
  refine sy _ (zas rfl (en 1)) rfl rfl ?_
  refine s_end ?_
  refine v_seq ?_
  refine v_reg ?_
  refine sy _ (zmv rfl (e rfl rfl)) rfl rfl ?_
  refine sy _ (zmv rfl (e rfl rfl)) rfl rfl ?_
  obtain ⟨v1, ev1⟩ : ∃ v : List ByteArray, v = n_strings_genSplit a0 := ⟨_, rfl⟩
  replace hr := bv_step ev1 hr
  refine sd (.t ⟨false, [.sr 0 1 0 ((v1.map encS).length) ((v1.map encS).length)]⟩) (zcall 0 (.t ⟨false, [.sr 0 1 0 ((v1.map encS).length) ((v1.map encS).length)]⟩) [(0, .row 1 (v1.map encS) true 1 0)] rfl (by rw [ev1]; exact (tr_n_strings_genSplit a0 h0) : Tr Tryz.prog 82 _ [⟨false, [.sl 1 (v1.map encS)]⟩]) (ar (e rfl rfl) (.d .nil) (ar (e rfl rfl) (.d .nil) (ar (ec rfl) (.d .nil) (ar (ec rfl) (.d .nil) .nil)))) rfl rfl rfl) rfl rfl rfl rfl ?_
  refine sy _ (zas rfl (e rfl rfl)) rfl rfl ?_
  refine s_end ?_
  refine v_ret ?_
  subst hr
  exact post_ret (rv (.tmp (eg rfl rfl)) rfl (.sr rfl le_all take_all .nil) rfl .nil) (.ro (.ro .nil)) rfl
end Go.Proofs.YtglilpigoocgeaaGreatDoor.V
