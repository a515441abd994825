/-
  Copies of values.
-/
import Derived.Test.YtkcpbahcnlhmjaaN
import Derived.Test.YtkcpbahcnlhmjaaV25
namespace Go.Proofs.Ytkcpbahcnlhmjaa.V
open Go
set_option linter.unusedVariables false
set_option linter.unusedSimpArgs false
set_option maxRecDepth 20000 in
theorem tr_toQuest (a : Quest) (ha : a.Fit) : Tr Try.prog 10 [.ro ⟨true, [dS (a.Name), dI (a.Typ)]⟩] [⟨true, [dS (a.Name), dI (a.Typ)]⟩] := by
  refine tr_go tabOk Try.func10 rfl rfl rfl rfl rfl (ov := [(0, .t ⟨true, [.d (dS (a.Name)), .d (dI (a.Typ))]⟩)]) (hv := []) rfl rfl ?_
  refine v_seq ?_
  refine v_reg ?_
  refine sr 0 (.t ⟨false, [.vp 0 0]⟩) (.var [.d (dS (a.Name)), .d (dI (a.Typ))]) (zbx rfl (e rfl rfl) rfl rfl rfl) rfl rfl ?_
  refine sr 1 (.t ⟨false, [.vp 1 0]⟩) (.var [.d (dS (⟨#[]⟩)), .d (dI (0))]) (zal tabOk rfl rfl rfl rfl) rfl rfl ?_
  refine s_end ?_
  refine v_seq ?_
  refine v_reg ?_
  refine sr 2 (.t ⟨false, [.vp 2 0]⟩) (.var [.d (dS (⟨#[]⟩)), .d (dI (0))]) (zal tabOk rfl rfl rfl rfl) rfl rfl ?_
  refine s_end ?_
  refine v_seq ?_
  refine v_reg ?_
  refine sy (.t ⟨false, [.vp 0 0]⟩) (zfa tabOk rfl rfl rfl (e rfl rfl) rfl rfl) rfl rfl ?_
  refine sy (.t ⟨false, [.d (dS (a.Name))]⟩) (zlv tabOk rfl (e rfl rfl) rfl rfl rfl) rfl rfl ?_
  refine sy (.t ⟨false, [.vp 2 0]⟩) (zfa tabOk rfl rfl rfl (e rfl rfl) rfl rfl) rfl rfl ?_
  refine sw 2 (.var [.d (dS (a.Name)), .d (dI (0))]) (zst tabOk rfl (e rfl rfl) rfl (e rfl rfl) rfl rfl rfl) rfl rfl ?_
  refine s_end ?_
  refine v_seq ?_
  refine v_reg ?_
  refine sy (.t ⟨false, [.vp 0 1]⟩) (zfa tabOk rfl rfl rfl (e rfl rfl) rfl rfl) rfl rfl ?_
  refine sy (.t ⟨false, [.d (dI (a.Typ))]⟩) (zlv tabOk rfl (e rfl rfl) rfl rfl rfl) rfl rfl ?_
  refine sy (.t ⟨false, [.vp 2 1]⟩) (zfa tabOk rfl rfl rfl (e rfl rfl) rfl rfl) rfl rfl ?_
  refine sw 2 (.var [.d (dS (a.Name)), .d (dI (a.Typ))]) (zst tabOk rfl (e rfl rfl) rfl (e rfl rfl) rfl rfl rfl) rfl rfl ?_
  refine s_end ?_
  refine v_seq ?_
  refine v_reg ?_
  refine sy (.t ⟨true, [.d (dS (a.Name)), .d (dI (a.Typ))]⟩) (zlv tabOk rfl (e rfl rfl) rfl rfl rfl) rfl rfl ?_
  refine sw 1 (.var [.d (dS (a.Name)), .d (dI (a.Typ))]) (zst tabOk rfl (e rfl rfl) rfl (e rfl rfl) rfl rfl rfl) rfl rfl ?_
  refine s_end ?_
  refine v_ret ?_
  exact post_ret (rv (.cell (eg rfl rfl) rfl rfl (.inl rfl) rfl) rfl (.lf (.lf .nil)) rfl .nil) (.ro .nil) rfl
set_option maxRecDepth 20000 in
theorem tr_toIntS (xs : List Int) (hx : fitL fitU xs) : Tr Try.prog 41 [.ro ⟨false, [.sl 1 (xs.map encI)]⟩] [⟨false, [.sl 1 (xs.map encI)]⟩] := by
  refine tr_go tabOk Try.func41 rfl rfl rfl rfl rfl (ov := [(0, .t ⟨false, [.d (.sl 1 (xs.map encI))]⟩)]) (hv := []) rfl rfl ?_
  refine v_seq ?_
  refine v_reg ?_
  refine sy _ (zas rfl (en 1)) rfl rfl ?_
  refine s_end ?_
  refine v_seq ?_
  refine v_reg ?_
  refine sy _ (zmv rfl (e rfl rfl)) rfl rfl ?_
  refine sy (.t ⟨false, [.d (dI ((xs.map encI).length : Int))]⟩) (zln tabOk rfl rfl (e rfl rfl) .d) rfl rfl ?_
  refine sr 0 (.t ⟨false, [.sr 0 1 0 ((xs.map encI).length) ((xs.map encI).length)]⟩) (.row 1 (List.replicate ((xs.map encI).length) [dI (0)]) true 1 0) (zmk tabOk rfl rfl rfl (e rfl rfl) (e rfl rfl) (Nat.le_refl _) (mkok hx.1 rfl) rfl rfl) rfl rfl ?_
  refine sy _ (zas rfl (e rfl rfl)) rfl rfl ?_
  refine s_end ?_
  refine v_seq ?_
  refine v_seq ?_
  refine v_reg ?_
  refine sy _ (zas rfl (ec rfl)) rfl rfl ?_
  refine s_end ?_
  refine v_block ?_
  have hB := hx.1
  refine v_lp (fun (i : Nat) => [(0, .t ⟨false, [.d (.sl 1 (xs.map encI))]⟩), (3, .t ⟨false, [.sr 0 1 0 ((xs.map encI).length) ((xs.map encI).length)]⟩), (4, .t ⟨false, [.d (dI (i : Int))]⟩)]) (fun i => [(0, .row 1 (fill encI xs [dI (0)] i) true 1 i)]) (fun i => i ≤ xs.length) (fun i => xs.length - i) 0 (Nat.zero_le _) ⟨rfl, rfl, rfl, trivial⟩ ⟨congrArg (fun l => VO.row 1 l true 1 0) fill0, trivial⟩ rfl (fun i hi => ?_)
  refine v_seq ?_
  refine v_seq ?_
  refine v_reg ?_
  refine sy _ (zmv rfl (e rfl rfl)) rfl rfl ?_
  refine sy _ (zmv rfl (e rfl rfl)) rfl rfl ?_
  refine sy (.t ⟨false, [.d (dI ((xs.map encI).length : Int))]⟩) (zln tabOk rfl rfl (e rfl rfl) .d) rfl rfl ?_
  refine sy (.t ⟨false, [.d (dB (decide (((i : Int)) < (((xs.map encI).length : Int)))))]⟩) (y_bin rfl (e rfl rfl) (e rfl rfl) (fun _ => b_lss) rfl) rfl rfl ?_
  refine s_end ?_
  refine v_cond (e rfl rfl) (fun hb1 => ?_) fun hb1 => ?_
  · have hlt : i < xs.length := by have := hb1; simp at this; omega
    obtain ⟨x, hxi⟩ := some_of_lt hlt
    refine v_skip ?_
    refine v_seq ?_
    refine v_block ?_
    refine v_reg ?_
    refine sy _ (zmv rfl (e rfl rfl)) rfl rfl ?_
    refine sy _ (zmv rfl (e rfl rfl)) rfl rfl ?_
    refine sy _ (zmv rfl (e rfl rfl)) rfl rfl ?_
    refine sy _ (zmv rfl (e rfl rfl)) rfl rfl ?_
    refine sy (.t ⟨false, [.fe 1 (xs.map encI) i 0]⟩) (zix tabOk rfl rfl rfl (e rfl rfl) (e rfl rfl) (ltm_of_some hxi)) rfl rfl ?_
    refine sy (.t ⟨false, [.d (dI (x))]⟩) (zle tabOk rfl (e rfl rfl) (getm hxi) rfl rfl) rfl rfl ?_
    refine sy (.t ⟨false, [.ep 0 1 i 0]⟩) (zis tabOk rfl rfl rfl (e rfl rfl) rfl (e rfl rfl) (ltm_of_some hxi) (Nat.zero_add _)) rfl rfl ?_
    refine sw 0 (.row 1 (fill encI xs [dI (0)] (i + 1)) true 1 (i + 1)) (zsr tabOk rfl (e rfl rfl) rfl (fill_get hxi) (e rfl rfl) rfl (.lf .nil) rfl (.inl Nat.one_pos) (fill_set (f := encI) hxi)) rfl rfl ?_
    refine s_end ?_
    refine blk_norm ?_
    refine v_reg ?_
    refine sy _ (zmv rfl (e rfl rfl)) rfl rfl ?_
    refine sy (.t ⟨false, [.d (dI ((i : Int) + 1))]⟩) (y_bin rfl (e rfl rfl) (ec rfl) (fun _ => b_addn (by omega) (by omega)) rfl) rfl rfl ?_
    refine sy _ (zas rfl (e rfl rfl)) rfl rfl ?_
    refine s_end ?_
    exact lp_next (i + 1) hlt (by omega) ⟨rfl, rfl, rfl, trivial⟩ ⟨rfl, trivial⟩ rfl
  have hend : i = xs.length := by have := hb1; simp at this; omega
  refine v_exit ?_
  refine then_exit ?_
  refine loop_exit ?_
  refine blk_hit ?_
  refine v_seq ?_
  refine v_reg ?_
  refine sy _ (zmv rfl (e rfl rfl)) rfl rfl ?_
  refine sy _ (zas rfl (e rfl rfl)) rfl rfl ?_
  refine s_end ?_
  refine v_ret ?_
  exact post_ret (rv (.tmp (eg rfl rfl)) rfl (.sr rfl (fill_le hend) (fill_end hend) .nil) rfl .nil) (.ro .nil) rfl
set_option maxRecDepth 20000 in
theorem tr_toStringS (xs : List ByteArray) (hx : fitL fitS xs) : Tr Try.prog 42 [.ro ⟨false, [.sl 1 (xs.map encS)]⟩] [⟨false, [.sl 1 (xs.map encS)]⟩] := by
  refine tr_go tabOk Try.func42 rfl rfl rfl rfl rfl (ov := [(0, .t ⟨false, [.d (.sl 1 (xs.map encS))]⟩)]) (hv := []) rfl rfl ?_
  refine v_seq ?_
  refine v_reg ?_
  refine sy _ (zas rfl (en 1)) rfl rfl ?_
  refine s_end ?_
  refine v_seq ?_
  refine v_reg ?_
  refine sy _ (zmv rfl (e rfl rfl)) rfl rfl ?_
  refine sy (.t ⟨false, [.d (dI ((xs.map encS).length : Int))]⟩) (zln tabOk rfl rfl (e rfl rfl) .d) rfl rfl ?_
  refine sr 0 (.t ⟨false, [.sr 0 1 0 ((xs.map encS).length) ((xs.map encS).length)]⟩) (.row 1 (List.replicate ((xs.map encS).length) [dS (⟨#[]⟩)]) true 1 0) (zmk tabOk rfl rfl rfl (e rfl rfl) (e rfl rfl) (Nat.le_refl _) (mkok hx.1 rfl) rfl rfl) rfl rfl ?_
  refine sy _ (zas rfl (e rfl rfl)) rfl rfl ?_
  refine s_end ?_
  refine v_seq ?_
  refine v_seq ?_
  refine v_reg ?_
  refine sy _ (zas rfl (ec rfl)) rfl rfl ?_
  refine s_end ?_
  refine v_block ?_
  have hB := hx.1
  refine v_lp (fun (i : Nat) => [(0, .t ⟨false, [.d (.sl 1 (xs.map encS))]⟩), (3, .t ⟨false, [.sr 0 1 0 ((xs.map encS).length) ((xs.map encS).length)]⟩), (4, .t ⟨false, [.d (dI (i : Int))]⟩)]) (fun i => [(0, .row 1 (fill encS xs [dS (⟨#[]⟩)] i) true 1 i)]) (fun i => i ≤ xs.length) (fun i => xs.length - i) 0 (Nat.zero_le _) ⟨rfl, rfl, rfl, trivial⟩ ⟨congrArg (fun l => VO.row 1 l true 1 0) fill0, trivial⟩ rfl (fun i hi => ?_)
  refine v_seq ?_
  refine v_seq ?_
  refine v_reg ?_
  refine sy _ (zmv rfl (e rfl rfl)) rfl rfl ?_
  refine sy _ (zmv rfl (e rfl rfl)) rfl rfl ?_
  refine sy (.t ⟨false, [.d (dI ((xs.map encS).length : Int))]⟩) (zln tabOk rfl rfl (e rfl rfl) .d) rfl rfl ?_
  refine sy (.t ⟨false, [.d (dB (decide (((i : Int)) < (((xs.map encS).length : Int)))))]⟩) (y_bin rfl (e rfl rfl) (e rfl rfl) (fun _ => b_lss) rfl) rfl rfl ?_
  refine s_end ?_
  refine v_cond (e rfl rfl) (fun hb1 => ?_) fun hb1 => ?_
  · have hlt : i < xs.length := by have := hb1; simp at this; omega
    obtain ⟨x, hxi⟩ := some_of_lt hlt
    refine v_skip ?_
    refine v_seq ?_
    refine v_block ?_
    refine v_reg ?_
    refine sy _ (zmv rfl (e rfl rfl)) rfl rfl ?_
    refine sy _ (zmv rfl (e rfl rfl)) rfl rfl ?_
    refine sy _ (zmv rfl (e rfl rfl)) rfl rfl ?_
    refine sy _ (zmv rfl (e rfl rfl)) rfl rfl ?_
    refine sy (.t ⟨false, [.fe 1 (xs.map encS) i 0]⟩) (zix tabOk rfl rfl rfl (e rfl rfl) (e rfl rfl) (ltm_of_some hxi)) rfl rfl ?_
    refine sy (.t ⟨false, [.d (dS (x))]⟩) (zle tabOk rfl (e rfl rfl) (getm hxi) rfl rfl) rfl rfl ?_
    refine sy (.t ⟨false, [.ep 0 1 i 0]⟩) (zis tabOk rfl rfl rfl (e rfl rfl) rfl (e rfl rfl) (ltm_of_some hxi) (Nat.zero_add _)) rfl rfl ?_
    refine sw 0 (.row 1 (fill encS xs [dS (⟨#[]⟩)] (i + 1)) true 1 (i + 1)) (zsr tabOk rfl (e rfl rfl) rfl (fill_get hxi) (e rfl rfl) rfl (.lf .nil) rfl (.inl Nat.one_pos) (fill_set (f := encS) hxi)) rfl rfl ?_
    refine s_end ?_
    refine blk_norm ?_
    refine v_reg ?_
    refine sy _ (zmv rfl (e rfl rfl)) rfl rfl ?_
    refine sy (.t ⟨false, [.d (dI ((i : Int) + 1))]⟩) (y_bin rfl (e rfl rfl) (ec rfl) (fun _ => b_addn (by omega) (by omega)) rfl) rfl rfl ?_
    refine sy _ (zas rfl (e rfl rfl)) rfl rfl ?_
    refine s_end ?_
    exact lp_next (i + 1) hlt (by omega) ⟨rfl, rfl, rfl, trivial⟩ ⟨rfl, trivial⟩ rfl
  have hend : i = xs.length := by have := hb1; simp at this; omega
  refine v_exit ?_
  refine then_exit ?_
  refine loop_exit ?_
  refine blk_hit ?_
  refine v_seq ?_
  refine v_reg ?_
  refine sy _ (zmv rfl (e rfl rfl)) rfl rfl ?_
  refine sy _ (zas rfl (e rfl rfl)) rfl rfl ?_
  refine s_end ?_
  refine v_ret ?_
  exact post_ret (rv (.tmp (eg rfl rfl)) rfl (.sr rfl (fill_le hend) (fill_end hend) .nil) rfl .nil) (.ro .nil) rfl
set_option maxRecDepth 20000 in
theorem tr_toExch (a : Exch) (ha : a.Fit) : Tr Try.prog 43 [.ro ⟨true, [dI (a.Id), dI (a.Addr), dI (a.Try), dI (a.Due)]⟩] [⟨true, [dI (a.Id), dI (a.Addr), dI (a.Try), dI (a.Due)]⟩] := by
  refine tr_go tabOk Try.func43 rfl rfl rfl rfl rfl (ov := [(0, .t ⟨true, [.d (dI (a.Id)), .d (dI (a.Addr)), .d (dI (a.Try)), .d (dI (a.Due))]⟩)]) (hv := []) rfl rfl ?_
  refine v_seq ?_
  refine v_reg ?_
  refine sr 0 (.t ⟨false, [.vp 0 0]⟩) (.var [.d (dI (a.Id)), .d (dI (a.Addr)), .d (dI (a.Try)), .d (dI (a.Due))]) (zbx rfl (e rfl rfl) rfl rfl rfl) rfl rfl ?_
  refine sr 1 (.t ⟨false, [.vp 1 0]⟩) (.var [.d (dI (0)), .d (dI (0)), .d (dI (0)), .d (dI (0))]) (zal tabOk rfl rfl rfl rfl) rfl rfl ?_
  refine s_end ?_
  refine v_seq ?_
  refine v_reg ?_
  refine sr 2 (.t ⟨false, [.vp 2 0]⟩) (.var [.d (dI (0)), .d (dI (0)), .d (dI (0)), .d (dI (0))]) (zal tabOk rfl rfl rfl rfl) rfl rfl ?_
  refine s_end ?_
  refine v_seq ?_
  refine v_reg ?_
  refine sy (.t ⟨false, [.vp 0 0]⟩) (zfa tabOk rfl rfl rfl (e rfl rfl) rfl rfl) rfl rfl ?_
  refine sy (.t ⟨false, [.d (dI (a.Id))]⟩) (zlv tabOk rfl (e rfl rfl) rfl rfl rfl) rfl rfl ?_
  refine sy (.t ⟨false, [.vp 2 0]⟩) (zfa tabOk rfl rfl rfl (e rfl rfl) rfl rfl) rfl rfl ?_
  refine sw 2 (.var [.d (dI (a.Id)), .d (dI (0)), .d (dI (0)), .d (dI (0))]) (zst tabOk rfl (e rfl rfl) rfl (e rfl rfl) rfl rfl rfl) rfl rfl ?_
  refine s_end ?_
  refine v_seq ?_
  refine v_reg ?_
  refine sy (.t ⟨false, [.vp 0 1]⟩) (zfa tabOk rfl rfl rfl (e rfl rfl) rfl rfl) rfl rfl ?_
  refine sy (.t ⟨false, [.d (dI (a.Addr))]⟩) (zlv tabOk rfl (e rfl rfl) rfl rfl rfl) rfl rfl ?_
  refine sy (.t ⟨false, [.vp 2 1]⟩) (zfa tabOk rfl rfl rfl (e rfl rfl) rfl rfl) rfl rfl ?_
  refine sw 2 (.var [.d (dI (a.Id)), .d (dI (a.Addr)), .d (dI (0)), .d (dI (0))]) (zst tabOk rfl (e rfl rfl) rfl (e rfl rfl) rfl rfl rfl) rfl rfl ?_
  refine s_end ?_
  refine v_seq ?_
  refine v_reg ?_
  refine sy (.t ⟨false, [.vp 0 2]⟩) (zfa tabOk rfl rfl rfl (e rfl rfl) rfl rfl) rfl rfl ?_
  refine sy (.t ⟨false, [.d (dI (a.Try))]⟩) (zlv tabOk rfl (e rfl rfl) rfl rfl rfl) rfl rfl ?_
  refine sy (.t ⟨false, [.vp 2 2]⟩) (zfa tabOk rfl rfl rfl (e rfl rfl) rfl rfl) rfl rfl ?_
  refine sw 2 (.var [.d (dI (a.Id)), .d (dI (a.Addr)), .d (dI (a.Try)), .d (dI (0))]) (zst tabOk rfl (e rfl rfl) rfl (e rfl rfl) rfl rfl rfl) rfl rfl ?_
  refine s_end ?_
  refine v_seq ?_
  refine v_reg ?_
  refine sy (.t ⟨false, [.vp 0 3]⟩) (zfa tabOk rfl rfl rfl (e rfl rfl) rfl rfl) rfl rfl ?_
  refine sy (.t ⟨false, [.d (dI (a.Due))]⟩) (zlv tabOk rfl (e rfl rfl) rfl rfl rfl) rfl rfl ?_
  refine sy (.t ⟨false, [.vp 2 3]⟩) (zfa tabOk rfl rfl rfl (e rfl rfl) rfl rfl) rfl rfl ?_
  refine sw 2 (.var [.d (dI (a.Id)), .d (dI (a.Addr)), .d (dI (a.Try)), .d (dI (a.Due))]) (zst tabOk rfl (e rfl rfl) rfl (e rfl rfl) rfl rfl rfl) rfl rfl ?_
  refine s_end ?_
  refine v_seq ?_
  refine v_reg ?_
  refine sy (.t ⟨true, [.d (dI (a.Id)), .d (dI (a.Addr)), .d (dI (a.Try)), .d (dI (a.Due))]⟩) (zlv tabOk rfl (e rfl rfl) rfl rfl rfl) rfl rfl ?_
  refine sw 1 (.var [.d (dI (a.Id)), .d (dI (a.Addr)), .d (dI (a.Try)), .d (dI (a.Due))]) (zst tabOk rfl (e rfl rfl) rfl (e rfl rfl) rfl rfl rfl) rfl rfl ?_
  refine s_end ?_
  refine v_ret ?_
  exact post_ret (rv (.cell (eg rfl rfl) rfl rfl (.inl rfl) rfl) rfl (.lf (.lf (.lf (.lf .nil)))) rfl .nil) (.ro .nil) rfl
set_option maxRecDepth 20000 in
theorem tr_toConf (a : Conf) (ha : a.Fit) : Tr Try.prog 58 [.ro ⟨true, [dI (a.Quota), dI (a.Depth), dI (a.Chain), dI (a.Glue), dI (a.Tries), dI (a.Addrs), dI (a.Cap), .sl 1 (a.Roots.map encI)]⟩] [⟨true, [dI (a.Quota), dI (a.Depth), dI (a.Chain), dI (a.Glue), dI (a.Tries), dI (a.Addrs), dI (a.Cap), .sl 1 (a.Roots.map encI)]⟩] := by
  refine tr_go tabOk Try.func58 rfl rfl rfl rfl rfl (ov := [(0, .t ⟨true, [.d (dI (a.Quota)), .d (dI (a.Depth)), .d (dI (a.Chain)), .d (dI (a.Glue)), .d (dI (a.Tries)), .d (dI (a.Addrs)), .d (dI (a.Cap)), .d (.sl 1 (a.Roots.map encI))]⟩)]) (hv := []) rfl rfl ?_
  refine v_seq ?_
  refine v_reg ?_
  refine sr 0 (.t ⟨false, [.vp 0 0]⟩) (.var [.d (dI (a.Quota)), .d (dI (a.Depth)), .d (dI (a.Chain)), .d (dI (a.Glue)), .d (dI (a.Tries)), .d (dI (a.Addrs)), .d (dI (a.Cap)), .d (.sl 1 (a.Roots.map encI))]) (zbx rfl (e rfl rfl) rfl rfl rfl) rfl rfl ?_
  refine sr 1 (.t ⟨false, [.vp 1 0]⟩) (.var [.d (dI (0)), .d (dI (0)), .d (dI (0)), .d (dI (0)), .d (dI (0)), .d (dI (0)), .d (dI (0)), .nl 1]) (zal tabOk rfl rfl rfl rfl) rfl rfl ?_
  refine s_end ?_
  refine v_seq ?_
  refine v_reg ?_
  refine sr 2 (.t ⟨false, [.vp 2 0]⟩) (.var [.d (dI (0)), .d (dI (0)), .d (dI (0)), .d (dI (0)), .d (dI (0)), .d (dI (0)), .d (dI (0)), .nl 1]) (zal tabOk rfl rfl rfl rfl) rfl rfl ?_
  refine s_end ?_
  refine v_seq ?_
  refine v_reg ?_
  refine sy (.t ⟨false, [.vp 0 0]⟩) (zfa tabOk rfl rfl rfl (e rfl rfl) rfl rfl) rfl rfl ?_
  refine sy (.t ⟨false, [.d (dI (a.Quota))]⟩) (zlv tabOk rfl (e rfl rfl) rfl rfl rfl) rfl rfl ?_
  refine sy (.t ⟨false, [.vp 2 0]⟩) (zfa tabOk rfl rfl rfl (e rfl rfl) rfl rfl) rfl rfl ?_
  refine sw 2 (.var [.d (dI (a.Quota)), .d (dI (0)), .d (dI (0)), .d (dI (0)), .d (dI (0)), .d (dI (0)), .d (dI (0)), .nl 1]) (zst tabOk rfl (e rfl rfl) rfl (e rfl rfl) rfl rfl rfl) rfl rfl ?_
  refine s_end ?_
  refine v_seq ?_
  refine v_reg ?_
  refine sy (.t ⟨false, [.vp 0 1]⟩) (zfa tabOk rfl rfl rfl (e rfl rfl) rfl rfl) rfl rfl ?_
  refine sy (.t ⟨false, [.d (dI (a.Depth))]⟩) (zlv tabOk rfl (e rfl rfl) rfl rfl rfl) rfl rfl ?_
  refine sy (.t ⟨false, [.vp 2 1]⟩) (zfa tabOk rfl rfl rfl (e rfl rfl) rfl rfl) rfl rfl ?_
  refine sw 2 (.var [.d (dI (a.Quota)), .d (dI (a.Depth)), .d (dI (0)), .d (dI (0)), .d (dI (0)), .d (dI (0)), .d (dI (0)), .nl 1]) (zst tabOk rfl (e rfl rfl) rfl (e rfl rfl) rfl rfl rfl) rfl rfl ?_
  refine s_end ?_
  refine v_seq ?_
  refine v_reg ?_
  refine sy (.t ⟨false, [.vp 0 2]⟩) (zfa tabOk rfl rfl rfl (e rfl rfl) rfl rfl) rfl rfl ?_
  refine sy (.t ⟨false, [.d (dI (a.Chain))]⟩) (zlv tabOk rfl (e rfl rfl) rfl rfl rfl) rfl rfl ?_
  refine sy (.t ⟨false, [.vp 2 2]⟩) (zfa tabOk rfl rfl rfl (e rfl rfl) rfl rfl) rfl rfl ?_
  refine sw 2 (.var [.d (dI (a.Quota)), .d (dI (a.Depth)), .d (dI (a.Chain)), .d (dI (0)), .d (dI (0)), .d (dI (0)), .d (dI (0)), .nl 1]) (zst tabOk rfl (e rfl rfl) rfl (e rfl rfl) rfl rfl rfl) rfl rfl ?_
  refine s_end ?_
  refine v_seq ?_
  refine v_reg ?_
  refine sy (.t ⟨false, [.vp 0 3]⟩) (zfa tabOk rfl rfl rfl (e rfl rfl) rfl rfl) rfl rfl ?_
  refine sy (.t ⟨false, [.d (dI (a.Glue))]⟩) (zlv tabOk rfl (e rfl rfl) rfl rfl rfl) rfl rfl ?_
  refine sy (.t ⟨false, [.vp 2 3]⟩) (zfa tabOk rfl rfl rfl (e rfl rfl) rfl rfl) rfl rfl ?_
  refine sw 2 (.var [.d (dI (a.Quota)), .d (dI (a.Depth)), .d (dI (a.Chain)), .d (dI (a.Glue)), .d (dI (0)), .d (dI (0)), .d (dI (0)), .nl 1]) (zst tabOk rfl (e rfl rfl) rfl (e rfl rfl) rfl rfl rfl) rfl rfl ?_
  refine s_end ?_
  refine v_seq ?_
  refine v_reg ?_
  refine sy (.t ⟨false, [.vp 0 4]⟩) (zfa tabOk rfl rfl rfl (e rfl rfl) rfl rfl) rfl rfl ?_
  refine sy (.t ⟨false, [.d (dI (a.Tries))]⟩) (zlv tabOk rfl (e rfl rfl) rfl rfl rfl) rfl rfl ?_
  refine sy (.t ⟨false, [.vp 2 4]⟩) (zfa tabOk rfl rfl rfl (e rfl rfl) rfl rfl) rfl rfl ?_
  refine sw 2 (.var [.d (dI (a.Quota)), .d (dI (a.Depth)), .d (dI (a.Chain)), .d (dI (a.Glue)), .d (dI (a.Tries)), .d (dI (0)), .d (dI (0)), .nl 1]) (zst tabOk rfl (e rfl rfl) rfl (e rfl rfl) rfl rfl rfl) rfl rfl ?_
  refine s_end ?_
  refine v_seq ?_
  refine v_reg ?_
  refine sy (.t ⟨false, [.vp 0 5]⟩) (zfa tabOk rfl rfl rfl (e rfl rfl) rfl rfl) rfl rfl ?_
  refine sy (.t ⟨false, [.d (dI (a.Addrs))]⟩) (zlv tabOk rfl (e rfl rfl) rfl rfl rfl) rfl rfl ?_
  refine sy (.t ⟨false, [.vp 2 5]⟩) (zfa tabOk rfl rfl rfl (e rfl rfl) rfl rfl) rfl rfl ?_
  refine sw 2 (.var [.d (dI (a.Quota)), .d (dI (a.Depth)), .d (dI (a.Chain)), .d (dI (a.Glue)), .d (dI (a.Tries)), .d (dI (a.Addrs)), .d (dI (0)), .nl 1]) (zst tabOk rfl (e rfl rfl) rfl (e rfl rfl) rfl rfl rfl) rfl rfl ?_
  refine s_end ?_
  refine v_seq ?_
  refine v_reg ?_
  refine sy (.t ⟨false, [.vp 0 6]⟩) (zfa tabOk rfl rfl rfl (e rfl rfl) rfl rfl) rfl rfl ?_
  refine sy (.t ⟨false, [.d (dI (a.Cap))]⟩) (zlv tabOk rfl (e rfl rfl) rfl rfl rfl) rfl rfl ?_
  refine sy (.t ⟨false, [.vp 2 6]⟩) (zfa tabOk rfl rfl rfl (e rfl rfl) rfl rfl) rfl rfl ?_
  refine sw 2 (.var [.d (dI (a.Quota)), .d (dI (a.Depth)), .d (dI (a.Chain)), .d (dI (a.Glue)), .d (dI (a.Tries)), .d (dI (a.Addrs)), .d (dI (a.Cap)), .nl 1]) (zst tabOk rfl (e rfl rfl) rfl (e rfl rfl) rfl rfl rfl) rfl rfl ?_
  refine s_end ?_
  refine v_seq ?_
  refine v_reg ?_
  refine sy (.t ⟨false, [.vp 0 7]⟩) (zfa tabOk rfl rfl rfl (e rfl rfl) rfl rfl) rfl rfl ?_
  refine sy (.t ⟨false, [.d (.sl 1 (a.Roots.map encI))]⟩) (zlv tabOk rfl (e rfl rfl) rfl rfl rfl) rfl rfl ?_
  refine sd (.t ⟨false, [.sr 3 1 0 ((a.Roots.map encI).length) ((a.Roots.map encI).length)]⟩) (zcall 3 (.t ⟨false, [.sr 3 1 0 ((a.Roots.map encI).length) ((a.Roots.map encI).length)]⟩) [(3, .row 1 (a.Roots.map encI) true 1 0)] rfl (tr_toIntS a.Roots ha.Roots) (ar (e rfl rfl) (.d .nil) .nil) rfl rfl rfl) rfl rfl rfl rfl ?_
  refine sy (.t ⟨false, [.vp 2 7]⟩) (zfa tabOk rfl rfl rfl (e rfl rfl) rfl rfl) rfl rfl ?_
  refine sw 2 (.var [.d (dI (a.Quota)), .d (dI (a.Depth)), .d (dI (a.Chain)), .d (dI (a.Glue)), .d (dI (a.Tries)), .d (dI (a.Addrs)), .d (dI (a.Cap)), .sr 3 1 0 ((a.Roots.map encI).length) ((a.Roots.map encI).length)]) (zst tabOk rfl (e rfl rfl) rfl (e rfl rfl) rfl rfl rfl) rfl rfl ?_
  refine s_end ?_
  refine v_seq ?_
  refine v_reg ?_
  refine sy (.t ⟨true, [.d (dI (a.Quota)), .d (dI (a.Depth)), .d (dI (a.Chain)), .d (dI (a.Glue)), .d (dI (a.Tries)), .d (dI (a.Addrs)), .d (dI (a.Cap)), .sr 3 1 0 ((a.Roots.map encI).length) ((a.Roots.map encI).length)]⟩) (zlv tabOk rfl (e rfl rfl) rfl rfl rfl) rfl rfl ?_
  refine sw 1 (.var [.d (dI (a.Quota)), .d (dI (a.Depth)), .d (dI (a.Chain)), .d (dI (a.Glue)), .d (dI (a.Tries)), .d (dI (a.Addrs)), .d (dI (a.Cap)), .sr 3 1 0 ((a.Roots.map encI).length) ((a.Roots.map encI).length)]) (zst tabOk rfl (e rfl rfl) rfl (e rfl rfl) rfl rfl rfl) rfl rfl ?_
  refine s_end ?_
  refine v_ret ?_
  exact post_ret (rv (.cell (eg rfl rfl) rfl rfl (.inl rfl) rfl) rfl (.lf (.lf (.lf (.lf (.lf (.lf (.lf (.sr rfl le_all take_all .nil)))))))) rfl .nil) (.ro .nil) rfl
set_option maxRecDepth 20000 in
theorem tr_toRecord (a : Record) (ha : a.Fit) : Tr Try.prog 78 [.ro ⟨true, [dS (a.Name), dI (a.Typ), dI (a.Ttl), dI (a.N), dS (a.Host), dS (a.Text)]⟩] [⟨true, [dS (a.Name), dI (a.Typ), dI (a.Ttl), dI (a.N), dS (a.Host), dS (a.Text)]⟩] := by
  refine tr_go tabOk Try.func78 rfl rfl rfl rfl rfl (ov := [(0, .t ⟨true, [.d (dS (a.Name)), .d (dI (a.Typ)), .d (dI (a.Ttl)), .d (dI (a.N)), .d (dS (a.Host)), .d (dS (a.Text))]⟩)]) (hv := []) rfl rfl ?_
  refine v_seq ?_
  refine v_reg ?_
  refine sr 0 (.t ⟨false, [.vp 0 0]⟩) (.var [.d (dS (a.Name)), .d (dI (a.Typ)), .d (dI (a.Ttl)), .d (dI (a.N)), .d (dS (a.Host)), .d (dS (a.Text))]) (zbx rfl (e rfl rfl) rfl rfl rfl) rfl rfl ?_
  refine sr 1 (.t ⟨false, [.vp 1 0]⟩) (.var [.d (dS (⟨#[]⟩)), .d (dI (0)), .d (dI (0)), .d (dI (0)), .d (dS (⟨#[]⟩)), .d (dS (⟨#[]⟩))]) (zal tabOk rfl rfl rfl rfl) rfl rfl ?_
  refine s_end ?_
  refine v_seq ?_
  refine v_reg ?_
  refine sr 2 (.t ⟨false, [.vp 2 0]⟩) (.var [.d (dS (⟨#[]⟩)), .d (dI (0)), .d (dI (0)), .d (dI (0)), .d (dS (⟨#[]⟩)), .d (dS (⟨#[]⟩))]) (zal tabOk rfl rfl rfl rfl) rfl rfl ?_
  refine s_end ?_
  refine v_seq ?_
  refine v_reg ?_
  refine sy (.t ⟨false, [.vp 0 0]⟩) (zfa tabOk rfl rfl rfl (e rfl rfl) rfl rfl) rfl rfl ?_
  refine sy (.t ⟨false, [.d (dS (a.Name))]⟩) (zlv tabOk rfl (e rfl rfl) rfl rfl rfl) rfl rfl ?_
  refine sy (.t ⟨false, [.vp 2 0]⟩) (zfa tabOk rfl rfl rfl (e rfl rfl) rfl rfl) rfl rfl ?_
  refine sw 2 (.var [.d (dS (a.Name)), .d (dI (0)), .d (dI (0)), .d (dI (0)), .d (dS (⟨#[]⟩)), .d (dS (⟨#[]⟩))]) (zst tabOk rfl (e rfl rfl) rfl (e rfl rfl) rfl rfl rfl) rfl rfl ?_
  refine s_end ?_
  refine v_seq ?_
  refine v_reg ?_
  refine sy (.t ⟨false, [.vp 0 1]⟩) (zfa tabOk rfl rfl rfl (e rfl rfl) rfl rfl) rfl rfl ?_
  refine sy (.t ⟨false, [.d (dI (a.Typ))]⟩) (zlv tabOk rfl (e rfl rfl) rfl rfl rfl) rfl rfl ?_
  refine sy (.t ⟨false, [.vp 2 1]⟩) (zfa tabOk rfl rfl rfl (e rfl rfl) rfl rfl) rfl rfl ?_
  refine sw 2 (.var [.d (dS (a.Name)), .d (dI (a.Typ)), .d (dI (0)), .d (dI (0)), .d (dS (⟨#[]⟩)), .d (dS (⟨#[]⟩))]) (zst tabOk rfl (e rfl rfl) rfl (e rfl rfl) rfl rfl rfl) rfl rfl ?_
  refine s_end ?_
  refine v_seq ?_
  refine v_reg ?_
  refine sy (.t ⟨false, [.vp 0 2]⟩) (zfa tabOk rfl rfl rfl (e rfl rfl) rfl rfl) rfl rfl ?_
  refine sy (.t ⟨false, [.d (dI (a.Ttl))]⟩) (zlv tabOk rfl (e rfl rfl) rfl rfl rfl) rfl rfl ?_
  refine sy (.t ⟨false, [.vp 2 2]⟩) (zfa tabOk rfl rfl rfl (e rfl rfl) rfl rfl) rfl rfl ?_
  refine sw 2 (.var [.d (dS (a.Name)), .d (dI (a.Typ)), .d (dI (a.Ttl)), .d (dI (0)), .d (dS (⟨#[]⟩)), .d (dS (⟨#[]⟩))]) (zst tabOk rfl (e rfl rfl) rfl (e rfl rfl) rfl rfl rfl) rfl rfl ?_
  refine s_end ?_
  refine v_seq ?_
  refine v_reg ?_
  refine sy (.t ⟨false, [.vp 0 3]⟩) (zfa tabOk rfl rfl rfl (e rfl rfl) rfl rfl) rfl rfl ?_
  refine sy (.t ⟨false, [.d (dI (a.N))]⟩) (zlv tabOk rfl (e rfl rfl) rfl rfl rfl) rfl rfl ?_
  refine sy (.t ⟨false, [.vp 2 3]⟩) (zfa tabOk rfl rfl rfl (e rfl rfl) rfl rfl) rfl rfl ?_
  refine sw 2 (.var [.d (dS (a.Name)), .d (dI (a.Typ)), .d (dI (a.Ttl)), .d (dI (a.N)), .d (dS (⟨#[]⟩)), .d (dS (⟨#[]⟩))]) (zst tabOk rfl (e rfl rfl) rfl (e rfl rfl) rfl rfl rfl) rfl rfl ?_
  refine s_end ?_
  refine v_seq ?_
  refine v_reg ?_
  refine sy (.t ⟨false, [.vp 0 4]⟩) (zfa tabOk rfl rfl rfl (e rfl rfl) rfl rfl) rfl rfl ?_
  refine sy (.t ⟨false, [.d (dS (a.Host))]⟩) (zlv tabOk rfl (e rfl rfl) rfl rfl rfl) rfl rfl ?_
  refine sy (.t ⟨false, [.vp 2 4]⟩) (zfa tabOk rfl rfl rfl (e rfl rfl) rfl rfl) rfl rfl ?_
  refine sw 2 (.var [.d (dS (a.Name)), .d (dI (a.Typ)), .d (dI (a.Ttl)), .d (dI (a.N)), .d (dS (a.Host)), .d (dS (⟨#[]⟩))]) (zst tabOk rfl (e rfl rfl) rfl (e rfl rfl) rfl rfl rfl) rfl rfl ?_
  refine s_end ?_
  refine v_seq ?_
  refine v_reg ?_
  refine sy (.t ⟨false, [.vp 0 5]⟩) (zfa tabOk rfl rfl rfl (e rfl rfl) rfl rfl) rfl rfl ?_
  refine sy (.t ⟨false, [.d (dS (a.Text))]⟩) (zlv tabOk rfl (e rfl rfl) rfl rfl rfl) rfl rfl ?_
  refine sy (.t ⟨false, [.vp 2 5]⟩) (zfa tabOk rfl rfl rfl (e rfl rfl) rfl rfl) rfl rfl ?_
  refine sw 2 (.var [.d (dS (a.Name)), .d (dI (a.Typ)), .d (dI (a.Ttl)), .d (dI (a.N)), .d (dS (a.Host)), .d (dS (a.Text))]) (zst tabOk rfl (e rfl rfl) rfl (e rfl rfl) rfl rfl rfl) rfl rfl ?_
  refine s_end ?_
  refine v_seq ?_
  refine v_reg ?_
  refine sy (.t ⟨true, [.d (dS (a.Name)), .d (dI (a.Typ)), .d (dI (a.Ttl)), .d (dI (a.N)), .d (dS (a.Host)), .d (dS (a.Text))]⟩) (zlv tabOk rfl (e rfl rfl) rfl rfl rfl) rfl rfl ?_
  refine sw 1 (.var [.d (dS (a.Name)), .d (dI (a.Typ)), .d (dI (a.Ttl)), .d (dI (a.N)), .d (dS (a.Host)), .d (dS (a.Text))]) (zst tabOk rfl (e rfl rfl) rfl (e rfl rfl) rfl rfl rfl) rfl rfl ?_
  refine s_end ?_
  refine v_ret ?_
  exact post_ret (rv (.cell (eg rfl rfl) rfl rfl (.inl rfl) rfl) rfl (.lf (.lf (.lf (.lf (.lf (.lf .nil)))))) rfl .nil) (.ro .nil) rfl
set_option maxRecDepth 20000 in
theorem tr_toRecordS (xs : List Record) (hx : fitL Record.Fit xs) : Tr Try.prog 40 [.ro ⟨false, [.sl 6 (xs.map Record.cells)]⟩] [⟨false, [.sl 6 (xs.map Record.cells)]⟩] := by
  refine tr_go tabOk Try.func40 rfl rfl rfl rfl rfl (ov := [(0, .t ⟨false, [.d (.sl 6 (xs.map Record.cells))]⟩)]) (hv := []) rfl rfl ?_
  refine v_seq ?_
  refine v_reg ?_
  refine sy _ (zas rfl (en 6)) rfl rfl ?_
  refine s_end ?_
  refine v_seq ?_
  refine v_reg ?_
  refine sy _ (zmv rfl (e rfl rfl)) rfl rfl ?_
  refine sy (.t ⟨false, [.d (dI ((xs.map Record.cells).length : Int))]⟩) (zln tabOk rfl rfl (e rfl rfl) .d) rfl rfl ?_
  refine sr 0 (.t ⟨false, [.sr 0 1 0 ((xs.map Record.cells).length) ((xs.map Record.cells).length)]⟩) (.row 6 (List.replicate ((xs.map Record.cells).length) [dS (⟨#[]⟩), dI (0), dI (0), dI (0), dS (⟨#[]⟩), dS (⟨#[]⟩)]) true 1 0) (zmk tabOk rfl rfl rfl (e rfl rfl) (e rfl rfl) (Nat.le_refl _) (mkok hx.1 rfl) rfl rfl) rfl rfl ?_
  refine sy _ (zas rfl (e rfl rfl)) rfl rfl ?_
  refine s_end ?_
  refine v_seq ?_
  refine v_seq ?_
  refine v_reg ?_
  refine sy _ (zas rfl (ec rfl)) rfl rfl ?_
  refine s_end ?_
  refine v_block ?_
  have hB := hx.1
  refine v_lp (fun (i : Nat) => [(0, .t ⟨false, [.d (.sl 6 (xs.map Record.cells))]⟩), (3, .t ⟨false, [.sr 0 1 0 ((xs.map Record.cells).length) ((xs.map Record.cells).length)]⟩), (4, .t ⟨false, [.d (dI (i : Int))]⟩)]) (fun i => [(0, .row 6 (fill Record.cells xs [dS (⟨#[]⟩), dI (0), dI (0), dI (0), dS (⟨#[]⟩), dS (⟨#[]⟩)] i) true 1 i)]) (fun i => i ≤ xs.length) (fun i => xs.length - i) 0 (Nat.zero_le _) ⟨rfl, rfl, rfl, trivial⟩ ⟨congrArg (fun l => VO.row 6 l true 1 0) fill0, trivial⟩ rfl (fun i hi => ?_)
  refine v_seq ?_
  refine v_seq ?_
  refine v_reg ?_
  refine sy _ (zmv rfl (e rfl rfl)) rfl rfl ?_
  refine sy _ (zmv rfl (e rfl rfl)) rfl rfl ?_
  refine sy (.t ⟨false, [.d (dI ((xs.map Record.cells).length : Int))]⟩) (zln tabOk rfl rfl (e rfl rfl) .d) rfl rfl ?_
  refine sy (.t ⟨false, [.d (dB (decide (((i : Int)) < (((xs.map Record.cells).length : Int)))))]⟩) (y_bin rfl (e rfl rfl) (e rfl rfl) (fun _ => b_lss) rfl) rfl rfl ?_
  refine s_end ?_
  refine v_cond (e rfl rfl) (fun hb1 => ?_) fun hb1 => ?_
  · have hlt : i < xs.length := by have := hb1; simp at this; omega
    obtain ⟨x, hxi⟩ := some_of_lt hlt
    refine v_skip ?_
    refine v_seq ?_
    refine v_block ?_
    refine v_reg ?_
    refine sy _ (zmv rfl (e rfl rfl)) rfl rfl ?_
    refine sy _ (zmv rfl (e rfl rfl)) rfl rfl ?_
    refine sy _ (zmv rfl (e rfl rfl)) rfl rfl ?_
    refine sy _ (zmv rfl (e rfl rfl)) rfl rfl ?_
    refine sy (.t ⟨false, [.fe 6 (xs.map Record.cells) i 0]⟩) (zix tabOk rfl rfl rfl (e rfl rfl) (e rfl rfl) (ltm_of_some hxi)) rfl rfl ?_
    refine sy (.t ⟨true, [.d (dS (x.Name)), .d (dI (x.Typ)), .d (dI (x.Ttl)), .d (dI (x.N)), .d (dS (x.Host)), .d (dS (x.Text))]⟩) (zle tabOk rfl (e rfl rfl) (getm hxi) rfl rfl) rfl rfl ?_
    refine sd (.t ⟨true, [.d (dS (x.Name)), .d (dI (x.Typ)), .d (dI (x.Ttl)), .d (dI (x.N)), .d (dS (x.Host)), .d (dS (x.Text))]⟩) (zcall 1 (.t ⟨true, [.d (dS (x.Name)), .d (dI (x.Typ)), .d (dI (x.Ttl)), .d (dI (x.N)), .d (dS (x.Host)), .d (dS (x.Text))]⟩) [] rfl (tr_toRecord x ((hx.2 _ (List.mem_of_getElem? hxi)))) (ar (e rfl rfl) (.d (.d (.d (.d (.d (.d .nil)))))) .nil) rfl rfl rfl) rfl rfl rfl rfl ?_
    refine sy (.t ⟨false, [.ep 0 1 i 0]⟩) (zis tabOk rfl rfl rfl (e rfl rfl) rfl (e rfl rfl) (ltm_of_some hxi) (Nat.zero_add _)) rfl rfl ?_
    refine sw 0 (.row 6 (fill Record.cells xs [dS (⟨#[]⟩), dI (0), dI (0), dI (0), dS (⟨#[]⟩), dS (⟨#[]⟩)] (i + 1)) true 1 (i + 1)) (zsr tabOk rfl (e rfl rfl) rfl (fill_get hxi) (e rfl rfl) rfl (.lf (.lf (.lf (.lf (.lf (.lf .nil)))))) rfl (.inl Nat.one_pos) (fill_set (f := Record.cells) hxi)) rfl rfl ?_
    refine s_end ?_
    refine blk_norm ?_
    refine v_reg ?_
    refine sy _ (zmv rfl (e rfl rfl)) rfl rfl ?_
    refine sy (.t ⟨false, [.d (dI ((i : Int) + 1))]⟩) (y_bin rfl (e rfl rfl) (ec rfl) (fun _ => b_addn (by omega) (by omega)) rfl) rfl rfl ?_
    refine sy _ (zas rfl (e rfl rfl)) rfl rfl ?_
    refine s_end ?_
    exact lp_next (i + 1) hlt (by omega) ⟨rfl, rfl, rfl, trivial⟩ ⟨rfl, trivial⟩ rfl
  have hend : i = xs.length := by have := hb1; simp at this; omega
  refine v_exit ?_
  refine then_exit ?_
  refine loop_exit ?_
  refine blk_hit ?_
  refine v_seq ?_
  refine v_reg ?_
  refine sy _ (zmv rfl (e rfl rfl)) rfl rfl ?_
  refine sy _ (zas rfl (e rfl rfl)) rfl rfl ?_
  refine s_end ?_
  refine v_ret ?_
  exact post_ret (rv (.tmp (eg rfl rfl)) rfl (.sr rfl (fill_le hend) (fill_end hend) .nil) rfl .nil) (.ro .nil) rfl
set_option maxRecDepth 20000 in
theorem tr_toFrame (a : Frame) (ha : a.Fit) : Tr Try.prog 17 [.ro ⟨true, [dS (a.Ask.Name), dI (a.Ask.Typ), dS (a.Q.Name), dI (a.Q.Typ), .sl 6 (a.Links.map Record.cells), dS (a.Apex), .sl 1 (a.Servers.map encI), .sl 1 (a.Need.map encS), dI (a.Down), dI (a.Left), dI (a.Pc), dI (a.X.Id), dI (a.X.Addr), dI (a.X.Try), dI (a.X.Due)]⟩] [⟨true, [dS (a.Ask.Name), dI (a.Ask.Typ), dS (a.Q.Name), dI (a.Q.Typ), .sl 6 (a.Links.map Record.cells), dS (a.Apex), .sl 1 (a.Servers.map encI), .sl 1 (a.Need.map encS), dI (a.Down), dI (a.Left), dI (a.Pc), dI (a.X.Id), dI (a.X.Addr), dI (a.X.Try), dI (a.X.Due)]⟩] := by
  refine tr_go tabOk Try.func17 rfl rfl rfl rfl rfl (ov := [(0, .t ⟨true, [.d (dS (a.Ask.Name)), .d (dI (a.Ask.Typ)), .d (dS (a.Q.Name)), .d (dI (a.Q.Typ)), .d (.sl 6 (a.Links.map Record.cells)), .d (dS (a.Apex)), .d (.sl 1 (a.Servers.map encI)), .d (.sl 1 (a.Need.map encS)), .d (dI (a.Down)), .d (dI (a.Left)), .d (dI (a.Pc)), .d (dI (a.X.Id)), .d (dI (a.X.Addr)), .d (dI (a.X.Try)), .d (dI (a.X.Due))]⟩)]) (hv := []) rfl rfl ?_
  refine v_seq ?_
  refine v_reg ?_
  refine sr 0 (.t ⟨false, [.vp 0 0]⟩) (.var [.d (dS (a.Ask.Name)), .d (dI (a.Ask.Typ)), .d (dS (a.Q.Name)), .d (dI (a.Q.Typ)), .d (.sl 6 (a.Links.map Record.cells)), .d (dS (a.Apex)), .d (.sl 1 (a.Servers.map encI)), .d (.sl 1 (a.Need.map encS)), .d (dI (a.Down)), .d (dI (a.Left)), .d (dI (a.Pc)), .d (dI (a.X.Id)), .d (dI (a.X.Addr)), .d (dI (a.X.Try)), .d (dI (a.X.Due))]) (zbx rfl (e rfl rfl) rfl rfl rfl) rfl rfl ?_
  refine sr 1 (.t ⟨false, [.vp 1 0]⟩) (.var [.d (dS (⟨#[]⟩)), .d (dI (0)), .d (dS (⟨#[]⟩)), .d (dI (0)), .nl 6, .d (dS (⟨#[]⟩)), .nl 1, .nl 1, .d (dI (0)), .d (dI (0)), .d (dI (0)), .d (dI (0)), .d (dI (0)), .d (dI (0)), .d (dI (0))]) (zal tabOk rfl rfl rfl rfl) rfl rfl ?_
  refine s_end ?_
  refine v_seq ?_
  refine v_reg ?_
  refine sr 2 (.t ⟨false, [.vp 2 0]⟩) (.var [.d (dS (⟨#[]⟩)), .d (dI (0)), .d (dS (⟨#[]⟩)), .d (dI (0)), .nl 6, .d (dS (⟨#[]⟩)), .nl 1, .nl 1, .d (dI (0)), .d (dI (0)), .d (dI (0)), .d (dI (0)), .d (dI (0)), .d (dI (0)), .d (dI (0))]) (zal tabOk rfl rfl rfl rfl) rfl rfl ?_
  refine s_end ?_
  refine v_seq ?_
  refine v_reg ?_
  refine sy (.t ⟨false, [.vp 0 0]⟩) (zfa tabOk rfl rfl rfl (e rfl rfl) rfl rfl) rfl rfl ?_
  refine sy (.t ⟨true, [.d (dS (a.Ask.Name)), .d (dI (a.Ask.Typ))]⟩) (zlv tabOk rfl (e rfl rfl) rfl rfl rfl) rfl rfl ?_
  refine sd (.t ⟨true, [.d (dS (a.Ask.Name)), .d (dI (a.Ask.Typ))]⟩) (zcall 3 (.t ⟨true, [.d (dS (a.Ask.Name)), .d (dI (a.Ask.Typ))]⟩) [] rfl (tr_toQuest a.Ask ha.Ask) (ar (e rfl rfl) (.d (.d .nil)) .nil) rfl rfl rfl) rfl rfl rfl rfl ?_
  refine sy (.t ⟨false, [.vp 2 0]⟩) (zfa tabOk rfl rfl rfl (e rfl rfl) rfl rfl) rfl rfl ?_
  refine sw 2 (.var [.d (dS (a.Ask.Name)), .d (dI (a.Ask.Typ)), .d (dS (⟨#[]⟩)), .d (dI (0)), .nl 6, .d (dS (⟨#[]⟩)), .nl 1, .nl 1, .d (dI (0)), .d (dI (0)), .d (dI (0)), .d (dI (0)), .d (dI (0)), .d (dI (0)), .d (dI (0))]) (zst tabOk rfl (e rfl rfl) rfl (e rfl rfl) rfl rfl rfl) rfl rfl ?_
  refine s_end ?_
  refine v_seq ?_
  refine v_reg ?_
  refine sy (.t ⟨false, [.vp 0 2]⟩) (zfa tabOk rfl rfl rfl (e rfl rfl) rfl rfl) rfl rfl ?_
  refine sy (.t ⟨true, [.d (dS (a.Q.Name)), .d (dI (a.Q.Typ))]⟩) (zlv tabOk rfl (e rfl rfl) rfl rfl rfl) rfl rfl ?_
  refine sd (.t ⟨true, [.d (dS (a.Q.Name)), .d (dI (a.Q.Typ))]⟩) (zcall 3 (.t ⟨true, [.d (dS (a.Q.Name)), .d (dI (a.Q.Typ))]⟩) [] rfl (tr_toQuest a.Q ha.Q) (ar (e rfl rfl) (.d (.d .nil)) .nil) rfl rfl rfl) rfl rfl rfl rfl ?_
  refine sy (.t ⟨false, [.vp 2 2]⟩) (zfa tabOk rfl rfl rfl (e rfl rfl) rfl rfl) rfl rfl ?_
  refine sw 2 (.var [.d (dS (a.Ask.Name)), .d (dI (a.Ask.Typ)), .d (dS (a.Q.Name)), .d (dI (a.Q.Typ)), .nl 6, .d (dS (⟨#[]⟩)), .nl 1, .nl 1, .d (dI (0)), .d (dI (0)), .d (dI (0)), .d (dI (0)), .d (dI (0)), .d (dI (0)), .d (dI (0))]) (zst tabOk rfl (e rfl rfl) rfl (e rfl rfl) rfl rfl rfl) rfl rfl ?_
  refine s_end ?_
  refine v_seq ?_
  refine v_reg ?_
  refine sy (.t ⟨false, [.vp 0 4]⟩) (zfa tabOk rfl rfl rfl (e rfl rfl) rfl rfl) rfl rfl ?_
  refine sy (.t ⟨false, [.d (.sl 6 (a.Links.map Record.cells))]⟩) (zlv tabOk rfl (e rfl rfl) rfl rfl rfl) rfl rfl ?_
  refine sd (.t ⟨false, [.sr 3 1 0 ((a.Links.map Record.cells).length) ((a.Links.map Record.cells).length)]⟩) (zcall 3 (.t ⟨false, [.sr 3 1 0 ((a.Links.map Record.cells).length) ((a.Links.map Record.cells).length)]⟩) [(3, .row 6 (a.Links.map Record.cells) true 1 0)] rfl (tr_toRecordS a.Links ha.Links) (ar (e rfl rfl) (.d .nil) .nil) rfl rfl rfl) rfl rfl rfl rfl ?_
  refine sy (.t ⟨false, [.vp 2 4]⟩) (zfa tabOk rfl rfl rfl (e rfl rfl) rfl rfl) rfl rfl ?_
  refine sw 2 (.var [.d (dS (a.Ask.Name)), .d (dI (a.Ask.Typ)), .d (dS (a.Q.Name)), .d (dI (a.Q.Typ)), .sr 3 1 0 ((a.Links.map Record.cells).length) ((a.Links.map Record.cells).length), .d (dS (⟨#[]⟩)), .nl 1, .nl 1, .d (dI (0)), .d (dI (0)), .d (dI (0)), .d (dI (0)), .d (dI (0)), .d (dI (0)), .d (dI (0))]) (zst tabOk rfl (e rfl rfl) rfl (e rfl rfl) rfl rfl rfl) rfl rfl ?_
  refine s_end ?_
  refine v_seq ?_
  refine v_reg ?_
  refine sy (.t ⟨false, [.vp 0 5]⟩) (zfa tabOk rfl rfl rfl (e rfl rfl) rfl rfl) rfl rfl ?_
  refine sy (.t ⟨false, [.d (dS (a.Apex))]⟩) (zlv tabOk rfl (e rfl rfl) rfl rfl rfl) rfl rfl ?_
  refine sy (.t ⟨false, [.vp 2 5]⟩) (zfa tabOk rfl rfl rfl (e rfl rfl) rfl rfl) rfl rfl ?_
  refine sw 2 (.var [.d (dS (a.Ask.Name)), .d (dI (a.Ask.Typ)), .d (dS (a.Q.Name)), .d (dI (a.Q.Typ)), .sr 3 1 0 ((a.Links.map Record.cells).length) ((a.Links.map Record.cells).length), .d (dS (a.Apex)), .nl 1, .nl 1, .d (dI (0)), .d (dI (0)), .d (dI (0)), .d (dI (0)), .d (dI (0)), .d (dI (0)), .d (dI (0))]) (zst tabOk rfl (e rfl rfl) rfl (e rfl rfl) rfl rfl rfl) rfl rfl ?_
  refine s_end ?_
  refine v_seq ?_
  refine v_reg ?_
  refine sy (.t ⟨false, [.vp 0 6]⟩) (zfa tabOk rfl rfl rfl (e rfl rfl) rfl rfl) rfl rfl ?_
  refine sy (.t ⟨false, [.d (.sl 1 (a.Servers.map encI))]⟩) (zlv tabOk rfl (e rfl rfl) rfl rfl rfl) rfl rfl ?_
  refine sd (.t ⟨false, [.sr 4 1 0 ((a.Servers.map encI).length) ((a.Servers.map encI).length)]⟩) (zcall 4 (.t ⟨false, [.sr 4 1 0 ((a.Servers.map encI).length) ((a.Servers.map encI).length)]⟩) [(4, .row 1 (a.Servers.map encI) true 1 0)] rfl (tr_toIntS a.Servers ha.Servers) (ar (e rfl rfl) (.d .nil) .nil) rfl rfl rfl) rfl rfl rfl rfl ?_
  refine sy (.t ⟨false, [.vp 2 6]⟩) (zfa tabOk rfl rfl rfl (e rfl rfl) rfl rfl) rfl rfl ?_
  refine sw 2 (.var [.d (dS (a.Ask.Name)), .d (dI (a.Ask.Typ)), .d (dS (a.Q.Name)), .d (dI (a.Q.Typ)), .sr 3 1 0 ((a.Links.map Record.cells).length) ((a.Links.map Record.cells).length), .d (dS (a.Apex)), .sr 4 1 0 ((a.Servers.map encI).length) ((a.Servers.map encI).length), .nl 1, .d (dI (0)), .d (dI (0)), .d (dI (0)), .d (dI (0)), .d (dI (0)), .d (dI (0)), .d (dI (0))]) (zst tabOk rfl (e rfl rfl) rfl (e rfl rfl) rfl rfl rfl) rfl rfl ?_
  refine s_end ?_
  refine v_seq ?_
  refine v_reg ?_
  refine sy (.t ⟨false, [.vp 0 7]⟩) (zfa tabOk rfl rfl rfl (e rfl rfl) rfl rfl) rfl rfl ?_
  refine sy (.t ⟨false, [.d (.sl 1 (a.Need.map encS))]⟩) (zlv tabOk rfl (e rfl rfl) rfl rfl rfl) rfl rfl ?_
  refine sd (.t ⟨false, [.sr 5 1 0 ((a.Need.map encS).length) ((a.Need.map encS).length)]⟩) (zcall 5 (.t ⟨false, [.sr 5 1 0 ((a.Need.map encS).length) ((a.Need.map encS).length)]⟩) [(5, .row 1 (a.Need.map encS) true 1 0)] rfl (tr_toStringS a.Need ha.Need) (ar (e rfl rfl) (.d .nil) .nil) rfl rfl rfl) rfl rfl rfl rfl ?_
  refine sy (.t ⟨false, [.vp 2 7]⟩) (zfa tabOk rfl rfl rfl (e rfl rfl) rfl rfl) rfl rfl ?_
  refine sw 2 (.var [.d (dS (a.Ask.Name)), .d (dI (a.Ask.Typ)), .d (dS (a.Q.Name)), .d (dI (a.Q.Typ)), .sr 3 1 0 ((a.Links.map Record.cells).length) ((a.Links.map Record.cells).length), .d (dS (a.Apex)), .sr 4 1 0 ((a.Servers.map encI).length) ((a.Servers.map encI).length), .sr 5 1 0 ((a.Need.map encS).length) ((a.Need.map encS).length), .d (dI (0)), .d (dI (0)), .d (dI (0)), .d (dI (0)), .d (dI (0)), .d (dI (0)), .d (dI (0))]) (zst tabOk rfl (e rfl rfl) rfl (e rfl rfl) rfl rfl rfl) rfl rfl ?_
  refine s_end ?_
  refine v_seq ?_
  refine v_reg ?_
  refine sy (.t ⟨false, [.vp 0 8]⟩) (zfa tabOk rfl rfl rfl (e rfl rfl) rfl rfl) rfl rfl ?_
  refine sy (.t ⟨false, [.d (dI (a.Down))]⟩) (zlv tabOk rfl (e rfl rfl) rfl rfl rfl) rfl rfl ?_
  refine sy (.t ⟨false, [.vp 2 8]⟩) (zfa tabOk rfl rfl rfl (e rfl rfl) rfl rfl) rfl rfl ?_
  refine sw 2 (.var [.d (dS (a.Ask.Name)), .d (dI (a.Ask.Typ)), .d (dS (a.Q.Name)), .d (dI (a.Q.Typ)), .sr 3 1 0 ((a.Links.map Record.cells).length) ((a.Links.map Record.cells).length), .d (dS (a.Apex)), .sr 4 1 0 ((a.Servers.map encI).length) ((a.Servers.map encI).length), .sr 5 1 0 ((a.Need.map encS).length) ((a.Need.map encS).length), .d (dI (a.Down)), .d (dI (0)), .d (dI (0)), .d (dI (0)), .d (dI (0)), .d (dI (0)), .d (dI (0))]) (zst tabOk rfl (e rfl rfl) rfl (e rfl rfl) rfl rfl rfl) rfl rfl ?_
  refine s_end ?_
  refine v_seq ?_
  refine v_reg ?_
  refine sy (.t ⟨false, [.vp 0 9]⟩) (zfa tabOk rfl rfl rfl (e rfl rfl) rfl rfl) rfl rfl ?_
  refine sy (.t ⟨false, [.d (dI (a.Left))]⟩) (zlv tabOk rfl (e rfl rfl) rfl rfl rfl) rfl rfl ?_
  refine sy (.t ⟨false, [.vp 2 9]⟩) (zfa tabOk rfl rfl rfl (e rfl rfl) rfl rfl) rfl rfl ?_
  refine sw 2 (.var [.d (dS (a.Ask.Name)), .d (dI (a.Ask.Typ)), .d (dS (a.Q.Name)), .d (dI (a.Q.Typ)), .sr 3 1 0 ((a.Links.map Record.cells).length) ((a.Links.map Record.cells).length), .d (dS (a.Apex)), .sr 4 1 0 ((a.Servers.map encI).length) ((a.Servers.map encI).length), .sr 5 1 0 ((a.Need.map encS).length) ((a.Need.map encS).length), .d (dI (a.Down)), .d (dI (a.Left)), .d (dI (0)), .d (dI (0)), .d (dI (0)), .d (dI (0)), .d (dI (0))]) (zst tabOk rfl (e rfl rfl) rfl (e rfl rfl) rfl rfl rfl) rfl rfl ?_
  refine s_end ?_
  refine v_seq ?_
  refine v_reg ?_
  refine sy (.t ⟨false, [.vp 0 10]⟩) (zfa tabOk rfl rfl rfl (e rfl rfl) rfl rfl) rfl rfl ?_
  refine sy (.t ⟨false, [.d (dI (a.Pc))]⟩) (zlv tabOk rfl (e rfl rfl) rfl rfl rfl) rfl rfl ?_
  refine sy (.t ⟨false, [.vp 2 10]⟩) (zfa tabOk rfl rfl rfl (e rfl rfl) rfl rfl) rfl rfl ?_
  refine sw 2 (.var [.d (dS (a.Ask.Name)), .d (dI (a.Ask.Typ)), .d (dS (a.Q.Name)), .d (dI (a.Q.Typ)), .sr 3 1 0 ((a.Links.map Record.cells).length) ((a.Links.map Record.cells).length), .d (dS (a.Apex)), .sr 4 1 0 ((a.Servers.map encI).length) ((a.Servers.map encI).length), .sr 5 1 0 ((a.Need.map encS).length) ((a.Need.map encS).length), .d (dI (a.Down)), .d (dI (a.Left)), .d (dI (a.Pc)), .d (dI (0)), .d (dI (0)), .d (dI (0)), .d (dI (0))]) (zst tabOk rfl (e rfl rfl) rfl (e rfl rfl) rfl rfl rfl) rfl rfl ?_
  refine s_end ?_
  refine v_seq ?_
  refine v_reg ?_
  refine sy (.t ⟨false, [.vp 0 11]⟩) (zfa tabOk rfl rfl rfl (e rfl rfl) rfl rfl) rfl rfl ?_
  refine sy (.t ⟨true, [.d (dI (a.X.Id)), .d (dI (a.X.Addr)), .d (dI (a.X.Try)), .d (dI (a.X.Due))]⟩) (zlv tabOk rfl (e rfl rfl) rfl rfl rfl) rfl rfl ?_
  refine sd (.t ⟨true, [.d (dI (a.X.Id)), .d (dI (a.X.Addr)), .d (dI (a.X.Try)), .d (dI (a.X.Due))]⟩) (zcall 6 (.t ⟨true, [.d (dI (a.X.Id)), .d (dI (a.X.Addr)), .d (dI (a.X.Try)), .d (dI (a.X.Due))]⟩) [] rfl (tr_toExch a.X ha.X) (ar (e rfl rfl) (.d (.d (.d (.d .nil)))) .nil) rfl rfl rfl) rfl rfl rfl rfl ?_
  refine sy (.t ⟨false, [.vp 2 11]⟩) (zfa tabOk rfl rfl rfl (e rfl rfl) rfl rfl) rfl rfl ?_
  refine sw 2 (.var [.d (dS (a.Ask.Name)), .d (dI (a.Ask.Typ)), .d (dS (a.Q.Name)), .d (dI (a.Q.Typ)), .sr 3 1 0 ((a.Links.map Record.cells).length) ((a.Links.map Record.cells).length), .d (dS (a.Apex)), .sr 4 1 0 ((a.Servers.map encI).length) ((a.Servers.map encI).length), .sr 5 1 0 ((a.Need.map encS).length) ((a.Need.map encS).length), .d (dI (a.Down)), .d (dI (a.Left)), .d (dI (a.Pc)), .d (dI (a.X.Id)), .d (dI (a.X.Addr)), .d (dI (a.X.Try)), .d (dI (a.X.Due))]) (zst tabOk rfl (e rfl rfl) rfl (e rfl rfl) rfl rfl rfl) rfl rfl ?_
  refine s_end ?_
  refine v_seq ?_
  refine v_reg ?_
  refine sy (.t ⟨true, [.d (dS (a.Ask.Name)), .d (dI (a.Ask.Typ)), .d (dS (a.Q.Name)), .d (dI (a.Q.Typ)), .sr 3 1 0 ((a.Links.map Record.cells).length) ((a.Links.map Record.cells).length), .d (dS (a.Apex)), .sr 4 1 0 ((a.Servers.map encI).length) ((a.Servers.map encI).length), .sr 5 1 0 ((a.Need.map encS).length) ((a.Need.map encS).length), .d (dI (a.Down)), .d (dI (a.Left)), .d (dI (a.Pc)), .d (dI (a.X.Id)), .d (dI (a.X.Addr)), .d (dI (a.X.Try)), .d (dI (a.X.Due))]⟩) (zlv tabOk rfl (e rfl rfl) rfl rfl rfl) rfl rfl ?_
  refine sw 1 (.var [.d (dS (a.Ask.Name)), .d (dI (a.Ask.Typ)), .d (dS (a.Q.Name)), .d (dI (a.Q.Typ)), .sr 3 1 0 ((a.Links.map Record.cells).length) ((a.Links.map Record.cells).length), .d (dS (a.Apex)), .sr 4 1 0 ((a.Servers.map encI).length) ((a.Servers.map encI).length), .sr 5 1 0 ((a.Need.map encS).length) ((a.Need.map encS).length), .d (dI (a.Down)), .d (dI (a.Left)), .d (dI (a.Pc)), .d (dI (a.X.Id)), .d (dI (a.X.Addr)), .d (dI (a.X.Try)), .d (dI (a.X.Due))]) (zst tabOk rfl (e rfl rfl) rfl (e rfl rfl) rfl rfl rfl) rfl rfl ?_
  refine s_end ?_
  refine v_ret ?_
  exact post_ret (rv (.cell (eg rfl rfl) rfl rfl (.inl rfl) rfl) rfl (.lf (.lf (.lf (.lf (.sr rfl le_all take_all (.lf (.sr rfl le_all take_all (.sr rfl le_all take_all (.lf (.lf (.lf (.lf (.lf (.lf (.lf .nil))))))))))))))) rfl .nil) (.ro .nil) rfl
set_option maxRecDepth 20000 in
theorem tr_toFrameS (xs : List Frame) (hx : fitL Frame.Fit xs) : Tr Try.prog 29 [.ro ⟨false, [.sl 15 (xs.map Frame.cells)]⟩] [⟨false, [.sl 15 (xs.map Frame.cells)]⟩] := by
  refine tr_go tabOk Try.func29 rfl rfl rfl rfl rfl (ov := [(0, .t ⟨false, [.d (.sl 15 (xs.map Frame.cells))]⟩)]) (hv := []) rfl rfl ?_
  refine v_seq ?_
  refine v_reg ?_
  refine sy _ (zas rfl (en 15)) rfl rfl ?_
  refine s_end ?_
  refine v_seq ?_
  refine v_reg ?_
  refine sy _ (zmv rfl (e rfl rfl)) rfl rfl ?_
  refine sy (.t ⟨false, [.d (dI ((xs.map Frame.cells).length : Int))]⟩) (zln tabOk rfl rfl (e rfl rfl) .d) rfl rfl ?_
  refine sr 0 (.t ⟨false, [.sr 0 1 0 ((xs.map Frame.cells).length) ((xs.map Frame.cells).length)]⟩) (.row 15 (List.replicate ((xs.map Frame.cells).length) [dS (⟨#[]⟩), dI (0), dS (⟨#[]⟩), dI (0), .sl 6 ([]), dS (⟨#[]⟩), .sl 1 ([]), .sl 1 ([]), dI (0), dI (0), dI (0), dI (0), dI (0), dI (0), dI (0)]) true 1 0) (zmk tabOk rfl rfl rfl (e rfl rfl) (e rfl rfl) (Nat.le_refl _) (mkok hx.1 rfl) rfl rfl) rfl rfl ?_
  refine sy _ (zas rfl (e rfl rfl)) rfl rfl ?_
  refine s_end ?_
  refine v_seq ?_
  refine v_seq ?_
  refine v_reg ?_
  refine sy _ (zas rfl (ec rfl)) rfl rfl ?_
  refine s_end ?_
  refine v_block ?_
  have hB := hx.1
  refine v_lp (fun (i : Nat) => [(0, .t ⟨false, [.d (.sl 15 (xs.map Frame.cells))]⟩), (3, .t ⟨false, [.sr 0 1 0 ((xs.map Frame.cells).length) ((xs.map Frame.cells).length)]⟩), (4, .t ⟨false, [.d (dI (i : Int))]⟩)]) (fun i => [(0, .row 15 (fill Frame.cells xs [dS (⟨#[]⟩), dI (0), dS (⟨#[]⟩), dI (0), .sl 6 ([]), dS (⟨#[]⟩), .sl 1 ([]), .sl 1 ([]), dI (0), dI (0), dI (0), dI (0), dI (0), dI (0), dI (0)] i) true 1 i)]) (fun i => i ≤ xs.length) (fun i => xs.length - i) 0 (Nat.zero_le _) ⟨rfl, rfl, rfl, trivial⟩ ⟨congrArg (fun l => VO.row 15 l true 1 0) fill0, trivial⟩ rfl (fun i hi => ?_)
  refine v_seq ?_
  refine v_seq ?_
  refine v_reg ?_
  refine sy _ (zmv rfl (e rfl rfl)) rfl rfl ?_
  refine sy _ (zmv rfl (e rfl rfl)) rfl rfl ?_
  refine sy (.t ⟨false, [.d (dI ((xs.map Frame.cells).length : Int))]⟩) (zln tabOk rfl rfl (e rfl rfl) .d) rfl rfl ?_
  refine sy (.t ⟨false, [.d (dB (decide (((i : Int)) < (((xs.map Frame.cells).length : Int)))))]⟩) (y_bin rfl (e rfl rfl) (e rfl rfl) (fun _ => b_lss) rfl) rfl rfl ?_
  refine s_end ?_
  refine v_cond (e rfl rfl) (fun hb1 => ?_) fun hb1 => ?_
  · have hlt : i < xs.length := by have := hb1; simp at this; omega
    obtain ⟨x, hxi⟩ := some_of_lt hlt
    refine v_skip ?_
    refine v_seq ?_
    refine v_block ?_
    refine v_reg ?_
    refine sy _ (zmv rfl (e rfl rfl)) rfl rfl ?_
    refine sy _ (zmv rfl (e rfl rfl)) rfl rfl ?_
    refine sy _ (zmv rfl (e rfl rfl)) rfl rfl ?_
    refine sy _ (zmv rfl (e rfl rfl)) rfl rfl ?_
    refine sy (.t ⟨false, [.fe 15 (xs.map Frame.cells) i 0]⟩) (zix tabOk rfl rfl rfl (e rfl rfl) (e rfl rfl) (ltm_of_some hxi)) rfl rfl ?_
    refine sy (.t ⟨true, [.d (dS (x.Ask.Name)), .d (dI (x.Ask.Typ)), .d (dS (x.Q.Name)), .d (dI (x.Q.Typ)), .d (.sl 6 (x.Links.map Record.cells)), .d (dS (x.Apex)), .d (.sl 1 (x.Servers.map encI)), .d (.sl 1 (x.Need.map encS)), .d (dI (x.Down)), .d (dI (x.Left)), .d (dI (x.Pc)), .d (dI (x.X.Id)), .d (dI (x.X.Addr)), .d (dI (x.X.Try)), .d (dI (x.X.Due))]⟩) (zle tabOk rfl (e rfl rfl) (getm hxi) rfl rfl) rfl rfl ?_
    refine sd (.t ⟨true, [.d (dS (x.Ask.Name)), .d (dI (x.Ask.Typ)), .d (dS (x.Q.Name)), .d (dI (x.Q.Typ)), .sr 1 1 0 ((x.Links.map Record.cells).length) ((x.Links.map Record.cells).length), .d (dS (x.Apex)), .sr 2 1 0 ((x.Servers.map encI).length) ((x.Servers.map encI).length), .sr 3 1 0 ((x.Need.map encS).length) ((x.Need.map encS).length), .d (dI (x.Down)), .d (dI (x.Left)), .d (dI (x.Pc)), .d (dI (x.X.Id)), .d (dI (x.X.Addr)), .d (dI (x.X.Try)), .d (dI (x.X.Due))]⟩) (zcall 1 (.t ⟨true, [.d (dS (x.Ask.Name)), .d (dI (x.Ask.Typ)), .d (dS (x.Q.Name)), .d (dI (x.Q.Typ)), .sr 1 1 0 ((x.Links.map Record.cells).length) ((x.Links.map Record.cells).length), .d (dS (x.Apex)), .sr 2 1 0 ((x.Servers.map encI).length) ((x.Servers.map encI).length), .sr 3 1 0 ((x.Need.map encS).length) ((x.Need.map encS).length), .d (dI (x.Down)), .d (dI (x.Left)), .d (dI (x.Pc)), .d (dI (x.X.Id)), .d (dI (x.X.Addr)), .d (dI (x.X.Try)), .d (dI (x.X.Due))]⟩) [(1, .row 6 (x.Links.map Record.cells) true 1 0), (2, .row 1 (x.Servers.map encI) true 1 0), (3, .row 1 (x.Need.map encS) true 1 0)] rfl (tr_toFrame x ((hx.2 _ (List.mem_of_getElem? hxi)))) (ar (e rfl rfl) (.d (.d (.d (.d (.d (.d (.d (.d (.d (.d (.d (.d (.d (.d (.d .nil))))))))))))))) .nil) rfl rfl rfl) rfl rfl rfl rfl ?_
    refine sy (.t ⟨false, [.ep 0 1 i 0]⟩) (zis tabOk rfl rfl rfl (e rfl rfl) rfl (e rfl rfl) (ltm_of_some hxi) (Nat.zero_add _)) rfl rfl ?_
    refine swk 0 (.row 15 (fill Frame.cells xs [dS (⟨#[]⟩), dI (0), dS (⟨#[]⟩), dI (0), .sl 6 ([]), dS (⟨#[]⟩), .sl 1 ([]), .sl 1 ([]), dI (0), dI (0), dI (0), dI (0), dI (0), dI (0), dI (0)] (i + 1)) true 1 (i + 1)) (zsg tabOk rfl (e rfl rfl) rfl (fill_get hxi) (e rfl rfl) rfl (.lf (.lf (.lf (.lf (.sr rfl le_all take_all (.lf (.sr rfl le_all take_all (.sr rfl le_all take_all (.lf (.lf (.lf (.lf (.lf (.lf (.lf .nil))))))))))))))) rfl rfl (fill_set (f := Frame.cells) hxi)) rfl rfl ?_
    refine s_end ?_
    refine blk_norm ?_
    refine v_reg ?_
    refine sy _ (zmv rfl (e rfl rfl)) rfl rfl ?_
    refine sy (.t ⟨false, [.d (dI ((i : Int) + 1))]⟩) (y_bin rfl (e rfl rfl) (ec rfl) (fun _ => b_addn (by omega) (by omega)) rfl) rfl rfl ?_
    refine sy _ (zas rfl (e rfl rfl)) rfl rfl ?_
    refine s_end ?_
    exact lp_next (i + 1) hlt (by omega) ⟨rfl, rfl, rfl, trivial⟩ ⟨rfl, trivial⟩ rfl
  have hend : i = xs.length := by have := hb1; simp at this; omega
  refine v_exit ?_
  refine then_exit ?_
  refine loop_exit ?_
  refine blk_hit ?_
  refine v_seq ?_
  refine v_reg ?_
  refine sy _ (zmv rfl (e rfl rfl)) rfl rfl ?_
  refine sy _ (zas rfl (e rfl rfl)) rfl rfl ?_
  refine s_end ?_
  refine v_ret ?_
  exact post_ret (rv (.tmp (eg rfl rfl)) rfl (.sr rfl (fill_le hend) (fill_end hend) .nil) rfl .nil) (.ro .nil) rfl
set_option maxRecDepth 20000 in
theorem tr_toJob (a : Job) (ha : a.Fit) : Tr Try.prog 9 [.ro ⟨true, [dI (a.No), dI (a.Client), dS (a.Ask.Name), dI (a.Ask.Typ), dI (a.Sent), dI (a.Fetched), .sl 15 (a.Stack.map Frame.cells)]⟩] [⟨true, [dI (a.No), dI (a.Client), dS (a.Ask.Name), dI (a.Ask.Typ), dI (a.Sent), dI (a.Fetched), .sl 15 (a.Stack.map Frame.cells)]⟩] := by
  refine tr_go tabOk Try.func9 rfl rfl rfl rfl rfl (ov := [(0, .t ⟨true, [.d (dI (a.No)), .d (dI (a.Client)), .d (dS (a.Ask.Name)), .d (dI (a.Ask.Typ)), .d (dI (a.Sent)), .d (dI (a.Fetched)), .d (.sl 15 (a.Stack.map Frame.cells))]⟩)]) (hv := []) rfl rfl ?_
  refine v_seq ?_
  refine v_reg ?_
  refine sr 0 (.t ⟨false, [.vp 0 0]⟩) (.var [.d (dI (a.No)), .d (dI (a.Client)), .d (dS (a.Ask.Name)), .d (dI (a.Ask.Typ)), .d (dI (a.Sent)), .d (dI (a.Fetched)), .d (.sl 15 (a.Stack.map Frame.cells))]) (zbx rfl (e rfl rfl) rfl rfl rfl) rfl rfl ?_
  refine sr 1 (.t ⟨false, [.vp 1 0]⟩) (.var [.d (dI (0)), .d (dI (0)), .d (dS (⟨#[]⟩)), .d (dI (0)), .d (dI (0)), .d (dI (0)), .nl 15]) (zal tabOk rfl rfl rfl rfl) rfl rfl ?_
  refine s_end ?_
  refine v_seq ?_
  refine v_reg ?_
  refine sr 2 (.t ⟨false, [.vp 2 0]⟩) (.var [.d (dI (0)), .d (dI (0)), .d (dS (⟨#[]⟩)), .d (dI (0)), .d (dI (0)), .d (dI (0)), .nl 15]) (zal tabOk rfl rfl rfl rfl) rfl rfl ?_
  refine s_end ?_
  refine v_seq ?_
  refine v_reg ?_
  refine sy (.t ⟨false, [.vp 0 0]⟩) (zfa tabOk rfl rfl rfl (e rfl rfl) rfl rfl) rfl rfl ?_
  refine sy (.t ⟨false, [.d (dI (a.No))]⟩) (zlv tabOk rfl (e rfl rfl) rfl rfl rfl) rfl rfl ?_
  refine sy (.t ⟨false, [.vp 2 0]⟩) (zfa tabOk rfl rfl rfl (e rfl rfl) rfl rfl) rfl rfl ?_
  refine sw 2 (.var [.d (dI (a.No)), .d (dI (0)), .d (dS (⟨#[]⟩)), .d (dI (0)), .d (dI (0)), .d (dI (0)), .nl 15]) (zst tabOk rfl (e rfl rfl) rfl (e rfl rfl) rfl rfl rfl) rfl rfl ?_
  refine s_end ?_
  refine v_seq ?_
  refine v_reg ?_
  refine sy (.t ⟨false, [.vp 0 1]⟩) (zfa tabOk rfl rfl rfl (e rfl rfl) rfl rfl) rfl rfl ?_
  refine sy (.t ⟨false, [.d (dI (a.Client))]⟩) (zlv tabOk rfl (e rfl rfl) rfl rfl rfl) rfl rfl ?_
  refine sy (.t ⟨false, [.vp 2 1]⟩) (zfa tabOk rfl rfl rfl (e rfl rfl) rfl rfl) rfl rfl ?_
  refine sw 2 (.var [.d (dI (a.No)), .d (dI (a.Client)), .d (dS (⟨#[]⟩)), .d (dI (0)), .d (dI (0)), .d (dI (0)), .nl 15]) (zst tabOk rfl (e rfl rfl) rfl (e rfl rfl) rfl rfl rfl) rfl rfl ?_
  refine s_end ?_
  refine v_seq ?_
  refine v_reg ?_
  refine sy (.t ⟨false, [.vp 0 2]⟩) (zfa tabOk rfl rfl rfl (e rfl rfl) rfl rfl) rfl rfl ?_
  refine sy (.t ⟨true, [.d (dS (a.Ask.Name)), .d (dI (a.Ask.Typ))]⟩) (zlv tabOk rfl (e rfl rfl) rfl rfl rfl) rfl rfl ?_
  refine sd (.t ⟨true, [.d (dS (a.Ask.Name)), .d (dI (a.Ask.Typ))]⟩) (zcall 3 (.t ⟨true, [.d (dS (a.Ask.Name)), .d (dI (a.Ask.Typ))]⟩) [] rfl (tr_toQuest a.Ask ha.Ask) (ar (e rfl rfl) (.d (.d .nil)) .nil) rfl rfl rfl) rfl rfl rfl rfl ?_
  refine sy (.t ⟨false, [.vp 2 2]⟩) (zfa tabOk rfl rfl rfl (e rfl rfl) rfl rfl) rfl rfl ?_
  refine sw 2 (.var [.d (dI (a.No)), .d (dI (a.Client)), .d (dS (a.Ask.Name)), .d (dI (a.Ask.Typ)), .d (dI (0)), .d (dI (0)), .nl 15]) (zst tabOk rfl (e rfl rfl) rfl (e rfl rfl) rfl rfl rfl) rfl rfl ?_
  refine s_end ?_
  refine v_seq ?_
  refine v_reg ?_
  refine sy (.t ⟨false, [.vp 0 4]⟩) (zfa tabOk rfl rfl rfl (e rfl rfl) rfl rfl) rfl rfl ?_
  refine sy (.t ⟨false, [.d (dI (a.Sent))]⟩) (zlv tabOk rfl (e rfl rfl) rfl rfl rfl) rfl rfl ?_
  refine sy (.t ⟨false, [.vp 2 4]⟩) (zfa tabOk rfl rfl rfl (e rfl rfl) rfl rfl) rfl rfl ?_
  refine sw 2 (.var [.d (dI (a.No)), .d (dI (a.Client)), .d (dS (a.Ask.Name)), .d (dI (a.Ask.Typ)), .d (dI (a.Sent)), .d (dI (0)), .nl 15]) (zst tabOk rfl (e rfl rfl) rfl (e rfl rfl) rfl rfl rfl) rfl rfl ?_
  refine s_end ?_
  refine v_seq ?_
  refine v_reg ?_
  refine sy (.t ⟨false, [.vp 0 5]⟩) (zfa tabOk rfl rfl rfl (e rfl rfl) rfl rfl) rfl rfl ?_
  refine sy (.t ⟨false, [.d (dI (a.Fetched))]⟩) (zlv tabOk rfl (e rfl rfl) rfl rfl rfl) rfl rfl ?_
  refine sy (.t ⟨false, [.vp 2 5]⟩) (zfa tabOk rfl rfl rfl (e rfl rfl) rfl rfl) rfl rfl ?_
  refine sw 2 (.var [.d (dI (a.No)), .d (dI (a.Client)), .d (dS (a.Ask.Name)), .d (dI (a.Ask.Typ)), .d (dI (a.Sent)), .d (dI (a.Fetched)), .nl 15]) (zst tabOk rfl (e rfl rfl) rfl (e rfl rfl) rfl rfl rfl) rfl rfl ?_
  refine s_end ?_
  refine v_seq ?_
  refine v_reg ?_
  refine sy (.t ⟨false, [.vp 0 6]⟩) (zfa tabOk rfl rfl rfl (e rfl rfl) rfl rfl) rfl rfl ?_
  refine sy (.t ⟨false, [.d (.sl 15 (a.Stack.map Frame.cells))]⟩) (zlv tabOk rfl (e rfl rfl) rfl rfl rfl) rfl rfl ?_
  refine sd (.t ⟨false, [.sr 3 1 0 ((a.Stack.map Frame.cells).length) ((a.Stack.map Frame.cells).length)]⟩) (zcall 3 (.t ⟨false, [.sr 3 1 0 ((a.Stack.map Frame.cells).length) ((a.Stack.map Frame.cells).length)]⟩) [(3, .row 15 (a.Stack.map Frame.cells) true 1 0)] rfl (tr_toFrameS a.Stack ha.Stack) (ar (e rfl rfl) (.d .nil) .nil) rfl rfl rfl) rfl rfl rfl rfl ?_
  refine sy (.t ⟨false, [.vp 2 6]⟩) (zfa tabOk rfl rfl rfl (e rfl rfl) rfl rfl) rfl rfl ?_
  refine sw 2 (.var [.d (dI (a.No)), .d (dI (a.Client)), .d (dS (a.Ask.Name)), .d (dI (a.Ask.Typ)), .d (dI (a.Sent)), .d (dI (a.Fetched)), .sr 3 1 0 ((a.Stack.map Frame.cells).length) ((a.Stack.map Frame.cells).length)]) (zst tabOk rfl (e rfl rfl) rfl (e rfl rfl) rfl rfl rfl) rfl rfl ?_
  refine s_end ?_
  refine v_seq ?_
  refine v_reg ?_
  refine sy (.t ⟨true, [.d (dI (a.No)), .d (dI (a.Client)), .d (dS (a.Ask.Name)), .d (dI (a.Ask.Typ)), .d (dI (a.Sent)), .d (dI (a.Fetched)), .sr 3 1 0 ((a.Stack.map Frame.cells).length) ((a.Stack.map Frame.cells).length)]⟩) (zlv tabOk rfl (e rfl rfl) rfl rfl rfl) rfl rfl ?_
  refine sw 1 (.var [.d (dI (a.No)), .d (dI (a.Client)), .d (dS (a.Ask.Name)), .d (dI (a.Ask.Typ)), .d (dI (a.Sent)), .d (dI (a.Fetched)), .sr 3 1 0 ((a.Stack.map Frame.cells).length) ((a.Stack.map Frame.cells).length)]) (zst tabOk rfl (e rfl rfl) rfl (e rfl rfl) rfl rfl rfl) rfl rfl ?_
  refine s_end ?_
  refine v_ret ?_
  exact post_ret (rv (.cell (eg rfl rfl) rfl rfl (.inl rfl) rfl) rfl (.lf (.lf (.lf (.lf (.lf (.lf (.sr rfl le_all take_all .nil))))))) rfl .nil) (.ro .nil) rfl
set_option maxRecDepth 20000 in
theorem tr_toJobS (xs : List Job) (hx : fitL Job.Fit xs) : Tr Try.prog 61 [.ro ⟨false, [.sl 7 (xs.map Job.cells)]⟩] [⟨false, [.sl 7 (xs.map Job.cells)]⟩] := by
  refine tr_go tabOk Try.func61 rfl rfl rfl rfl rfl (ov := [(0, .t ⟨false, [.d (.sl 7 (xs.map Job.cells))]⟩)]) (hv := []) rfl rfl ?_
  refine v_seq ?_
  refine v_reg ?_
  refine sy _ (zas rfl (en 7)) rfl rfl ?_
  refine s_end ?_
  refine v_seq ?_
  refine v_reg ?_
  refine sy _ (zmv rfl (e rfl rfl)) rfl rfl ?_
  refine sy (.t ⟨false, [.d (dI ((xs.map Job.cells).length : Int))]⟩) (zln tabOk rfl rfl (e rfl rfl) .d) rfl rfl ?_
  refine sr 0 (.t ⟨false, [.sr 0 1 0 ((xs.map Job.cells).length) ((xs.map Job.cells).length)]⟩) (.row 7 (List.replicate ((xs.map Job.cells).length) [dI (0), dI (0), dS (⟨#[]⟩), dI (0), dI (0), dI (0), .sl 15 ([])]) true 1 0) (zmk tabOk rfl rfl rfl (e rfl rfl) (e rfl rfl) (Nat.le_refl _) (mkok hx.1 rfl) rfl rfl) rfl rfl ?_
  refine sy _ (zas rfl (e rfl rfl)) rfl rfl ?_
  refine s_end ?_
  refine v_seq ?_
  refine v_seq ?_
  refine v_reg ?_
  refine sy _ (zas rfl (ec rfl)) rfl rfl ?_
  refine s_end ?_
  refine v_block ?_
  have hB := hx.1
  refine v_lp (fun (i : Nat) => [(0, .t ⟨false, [.d (.sl 7 (xs.map Job.cells))]⟩), (3, .t ⟨false, [.sr 0 1 0 ((xs.map Job.cells).length) ((xs.map Job.cells).length)]⟩), (4, .t ⟨false, [.d (dI (i : Int))]⟩)]) (fun i => [(0, .row 7 (fill Job.cells xs [dI (0), dI (0), dS (⟨#[]⟩), dI (0), dI (0), dI (0), .sl 15 ([])] i) true 1 i)]) (fun i => i ≤ xs.length) (fun i => xs.length - i) 0 (Nat.zero_le _) ⟨rfl, rfl, rfl, trivial⟩ ⟨congrArg (fun l => VO.row 7 l true 1 0) fill0, trivial⟩ rfl (fun i hi => ?_)
  refine v_seq ?_
  refine v_seq ?_
  refine v_reg ?_
  refine sy _ (zmv rfl (e rfl rfl)) rfl rfl ?_
  refine sy _ (zmv rfl (e rfl rfl)) rfl rfl ?_
  refine sy (.t ⟨false, [.d (dI ((xs.map Job.cells).length : Int))]⟩) (zln tabOk rfl rfl (e rfl rfl) .d) rfl rfl ?_
  refine sy (.t ⟨false, [.d (dB (decide (((i : Int)) < (((xs.map Job.cells).length : Int)))))]⟩) (y_bin rfl (e rfl rfl) (e rfl rfl) (fun _ => b_lss) rfl) rfl rfl ?_
  refine s_end ?_
  refine v_cond (e rfl rfl) (fun hb1 => ?_) fun hb1 => ?_
  · have hlt : i < xs.length := by have := hb1; simp at this; omega
    obtain ⟨x, hxi⟩ := some_of_lt hlt
    refine v_skip ?_
    refine v_seq ?_
    refine v_block ?_
    refine v_reg ?_
    refine sy _ (zmv rfl (e rfl rfl)) rfl rfl ?_
    refine sy _ (zmv rfl (e rfl rfl)) rfl rfl ?_
    refine sy _ (zmv rfl (e rfl rfl)) rfl rfl ?_
    refine sy _ (zmv rfl (e rfl rfl)) rfl rfl ?_
    refine sy (.t ⟨false, [.fe 7 (xs.map Job.cells) i 0]⟩) (zix tabOk rfl rfl rfl (e rfl rfl) (e rfl rfl) (ltm_of_some hxi)) rfl rfl ?_
    refine sy (.t ⟨true, [.d (dI (x.No)), .d (dI (x.Client)), .d (dS (x.Ask.Name)), .d (dI (x.Ask.Typ)), .d (dI (x.Sent)), .d (dI (x.Fetched)), .d (.sl 15 (x.Stack.map Frame.cells))]⟩) (zle tabOk rfl (e rfl rfl) (getm hxi) rfl rfl) rfl rfl ?_
    refine sd (.t ⟨true, [.d (dI (x.No)), .d (dI (x.Client)), .d (dS (x.Ask.Name)), .d (dI (x.Ask.Typ)), .d (dI (x.Sent)), .d (dI (x.Fetched)), .sr 1 1 0 ((x.Stack.map Frame.cells).length) ((x.Stack.map Frame.cells).length)]⟩) (zcall 1 (.t ⟨true, [.d (dI (x.No)), .d (dI (x.Client)), .d (dS (x.Ask.Name)), .d (dI (x.Ask.Typ)), .d (dI (x.Sent)), .d (dI (x.Fetched)), .sr 1 1 0 ((x.Stack.map Frame.cells).length) ((x.Stack.map Frame.cells).length)]⟩) [(1, .row 15 (x.Stack.map Frame.cells) true 1 0)] rfl (tr_toJob x ((hx.2 _ (List.mem_of_getElem? hxi)))) (ar (e rfl rfl) (.d (.d (.d (.d (.d (.d (.d .nil))))))) .nil) rfl rfl rfl) rfl rfl rfl rfl ?_
    refine sy (.t ⟨false, [.ep 0 1 i 0]⟩) (zis tabOk rfl rfl rfl (e rfl rfl) rfl (e rfl rfl) (ltm_of_some hxi) (Nat.zero_add _)) rfl rfl ?_
    refine swk 0 (.row 7 (fill Job.cells xs [dI (0), dI (0), dS (⟨#[]⟩), dI (0), dI (0), dI (0), .sl 15 ([])] (i + 1)) true 1 (i + 1)) (zsg tabOk rfl (e rfl rfl) rfl (fill_get hxi) (e rfl rfl) rfl (.lf (.lf (.lf (.lf (.lf (.lf (.sr rfl le_all take_all .nil))))))) rfl rfl (fill_set (f := Job.cells) hxi)) rfl rfl ?_
    refine s_end ?_
    refine blk_norm ?_
    refine v_reg ?_
    refine sy _ (zmv rfl (e rfl rfl)) rfl rfl ?_
    refine sy (.t ⟨false, [.d (dI ((i : Int) + 1))]⟩) (y_bin rfl (e rfl rfl) (ec rfl) (fun _ => b_addn (by omega) (by omega)) rfl) rfl rfl ?_
    refine sy _ (zas rfl (e rfl rfl)) rfl rfl ?_
    refine s_end ?_
    exact lp_next (i + 1) hlt (by omega) ⟨rfl, rfl, rfl, trivial⟩ ⟨rfl, trivial⟩ rfl
  have hend : i = xs.length := by have := hb1; simp at this; omega
  refine v_exit ?_
  refine then_exit ?_
  refine loop_exit ?_
  refine blk_hit ?_
  refine v_seq ?_
  refine v_reg ?_
  refine sy _ (zmv rfl (e rfl rfl)) rfl rfl ?_
  refine sy _ (zas rfl (e rfl rfl)) rfl rfl ?_
  refine s_end ?_
  refine v_ret ?_
  exact post_ret (rv (.tmp (eg rfl rfl)) rfl (.sr rfl (fill_le hend) (fill_end hend) .nil) rfl .nil) (.ro .nil) rfl
set_option maxRecDepth 20000 in
theorem tr_toLame (a : Lame) (ha : a.Fit) : Tr Try.prog 88 [.ro ⟨true, [dI (a.Addr), dS (a.Apex), dI (a.Until)]⟩] [⟨true, [dI (a.Addr), dS (a.Apex), dI (a.Until)]⟩] := by
  refine tr_go tabOk Try.func88 rfl rfl rfl rfl rfl (ov := [(0, .t ⟨true, [.d (dI (a.Addr)), .d (dS (a.Apex)), .d (dI (a.Until))]⟩)]) (hv := []) rfl rfl ?_
  refine v_seq ?_
  refine v_reg ?_
  refine sr 0 (.t ⟨false, [.vp 0 0]⟩) (.var [.d (dI (a.Addr)), .d (dS (a.Apex)), .d (dI (a.Until))]) (zbx rfl (e rfl rfl) rfl rfl rfl) rfl rfl ?_
  refine sr 1 (.t ⟨false, [.vp 1 0]⟩) (.var [.d (dI (0)), .d (dS (⟨#[]⟩)), .d (dI (0))]) (zal tabOk rfl rfl rfl rfl) rfl rfl ?_
  refine s_end ?_
  refine v_seq ?_
  refine v_reg ?_
  refine sr 2 (.t ⟨false, [.vp 2 0]⟩) (.var [.d (dI (0)), .d (dS (⟨#[]⟩)), .d (dI (0))]) (zal tabOk rfl rfl rfl rfl) rfl rfl ?_
  refine s_end ?_
  refine v_seq ?_
  refine v_reg ?_
  refine sy (.t ⟨false, [.vp 0 0]⟩) (zfa tabOk rfl rfl rfl (e rfl rfl) rfl rfl) rfl rfl ?_
  refine sy (.t ⟨false, [.d (dI (a.Addr))]⟩) (zlv tabOk rfl (e rfl rfl) rfl rfl rfl) rfl rfl ?_
  refine sy (.t ⟨false, [.vp 2 0]⟩) (zfa tabOk rfl rfl rfl (e rfl rfl) rfl rfl) rfl rfl ?_
  refine sw 2 (.var [.d (dI (a.Addr)), .d (dS (⟨#[]⟩)), .d (dI (0))]) (zst tabOk rfl (e rfl rfl) rfl (e rfl rfl) rfl rfl rfl) rfl rfl ?_
  refine s_end ?_
  refine v_seq ?_
  refine v_reg ?_
  refine sy (.t ⟨false, [.vp 0 1]⟩) (zfa tabOk rfl rfl rfl (e rfl rfl) rfl rfl) rfl rfl ?_
  refine sy (.t ⟨false, [.d (dS (a.Apex))]⟩) (zlv tabOk rfl (e rfl rfl) rfl rfl rfl) rfl rfl ?_
  refine sy (.t ⟨false, [.vp 2 1]⟩) (zfa tabOk rfl rfl rfl (e rfl rfl) rfl rfl) rfl rfl ?_
  refine sw 2 (.var [.d (dI (a.Addr)), .d (dS (a.Apex)), .d (dI (0))]) (zst tabOk rfl (e rfl rfl) rfl (e rfl rfl) rfl rfl rfl) rfl rfl ?_
  refine s_end ?_
  refine v_seq ?_
  refine v_reg ?_
  refine sy (.t ⟨false, [.vp 0 2]⟩) (zfa tabOk rfl rfl rfl (e rfl rfl) rfl rfl) rfl rfl ?_
  refine sy (.t ⟨false, [.d (dI (a.Until))]⟩) (zlv tabOk rfl (e rfl rfl) rfl rfl rfl) rfl rfl ?_
  refine sy (.t ⟨false, [.vp 2 2]⟩) (zfa tabOk rfl rfl rfl (e rfl rfl) rfl rfl) rfl rfl ?_
  refine sw 2 (.var [.d (dI (a.Addr)), .d (dS (a.Apex)), .d (dI (a.Until))]) (zst tabOk rfl (e rfl rfl) rfl (e rfl rfl) rfl rfl rfl) rfl rfl ?_
  refine s_end ?_
  refine v_seq ?_
  refine v_reg ?_
  refine sy (.t ⟨true, [.d (dI (a.Addr)), .d (dS (a.Apex)), .d (dI (a.Until))]⟩) (zlv tabOk rfl (e rfl rfl) rfl rfl rfl) rfl rfl ?_
  refine sw 1 (.var [.d (dI (a.Addr)), .d (dS (a.Apex)), .d (dI (a.Until))]) (zst tabOk rfl (e rfl rfl) rfl (e rfl rfl) rfl rfl rfl) rfl rfl ?_
  refine s_end ?_
  refine v_ret ?_
  exact post_ret (rv (.cell (eg rfl rfl) rfl rfl (.inl rfl) rfl) rfl (.lf (.lf (.lf .nil))) rfl .nil) (.ro .nil) rfl
set_option maxRecDepth 20000 in
theorem tr_toLameS (xs : List Lame) (hx : fitL Lame.Fit xs) : Tr Try.prog 60 [.ro ⟨false, [.sl 3 (xs.map Lame.cells)]⟩] [⟨false, [.sl 3 (xs.map Lame.cells)]⟩] := by
  refine tr_go tabOk Try.func60 rfl rfl rfl rfl rfl (ov := [(0, .t ⟨false, [.d (.sl 3 (xs.map Lame.cells))]⟩)]) (hv := []) rfl rfl ?_
  refine v_seq ?_
  refine v_reg ?_
  refine sy _ (zas rfl (en 3)) rfl rfl ?_
  refine s_end ?_
  refine v_seq ?_
  refine v_reg ?_
  refine sy _ (zmv rfl (e rfl rfl)) rfl rfl ?_
  refine sy (.t ⟨false, [.d (dI ((xs.map Lame.cells).length : Int))]⟩) (zln tabOk rfl rfl (e rfl rfl) .d) rfl rfl ?_
  refine sr 0 (.t ⟨false, [.sr 0 1 0 ((xs.map Lame.cells).length) ((xs.map Lame.cells).length)]⟩) (.row 3 (List.replicate ((xs.map Lame.cells).length) [dI (0), dS (⟨#[]⟩), dI (0)]) true 1 0) (zmk tabOk rfl rfl rfl (e rfl rfl) (e rfl rfl) (Nat.le_refl _) (mkok hx.1 rfl) rfl rfl) rfl rfl ?_
  refine sy _ (zas rfl (e rfl rfl)) rfl rfl ?_
  refine s_end ?_
  refine v_seq ?_
  refine v_seq ?_
  refine v_reg ?_
  refine sy _ (zas rfl (ec rfl)) rfl rfl ?_
  refine s_end ?_
  refine v_block ?_
  have hB := hx.1
  refine v_lp (fun (i : Nat) => [(0, .t ⟨false, [.d (.sl 3 (xs.map Lame.cells))]⟩), (3, .t ⟨false, [.sr 0 1 0 ((xs.map Lame.cells).length) ((xs.map Lame.cells).length)]⟩), (4, .t ⟨false, [.d (dI (i : Int))]⟩)]) (fun i => [(0, .row 3 (fill Lame.cells xs [dI (0), dS (⟨#[]⟩), dI (0)] i) true 1 i)]) (fun i => i ≤ xs.length) (fun i => xs.length - i) 0 (Nat.zero_le _) ⟨rfl, rfl, rfl, trivial⟩ ⟨congrArg (fun l => VO.row 3 l true 1 0) fill0, trivial⟩ rfl (fun i hi => ?_)
  refine v_seq ?_
  refine v_seq ?_
  refine v_reg ?_
  refine sy _ (zmv rfl (e rfl rfl)) rfl rfl ?_
  refine sy _ (zmv rfl (e rfl rfl)) rfl rfl ?_
  refine sy (.t ⟨false, [.d (dI ((xs.map Lame.cells).length : Int))]⟩) (zln tabOk rfl rfl (e rfl rfl) .d) rfl rfl ?_
  refine sy (.t ⟨false, [.d (dB (decide (((i : Int)) < (((xs.map Lame.cells).length : Int)))))]⟩) (y_bin rfl (e rfl rfl) (e rfl rfl) (fun _ => b_lss) rfl) rfl rfl ?_
  refine s_end ?_
  refine v_cond (e rfl rfl) (fun hb1 => ?_) fun hb1 => ?_
  · have hlt : i < xs.length := by have := hb1; simp at this; omega
    obtain ⟨x, hxi⟩ := some_of_lt hlt
    refine v_skip ?_
    refine v_seq ?_
    refine v_block ?_
    refine v_reg ?_
    refine sy _ (zmv rfl (e rfl rfl)) rfl rfl ?_
    refine sy _ (zmv rfl (e rfl rfl)) rfl rfl ?_
    refine sy _ (zmv rfl (e rfl rfl)) rfl rfl ?_
    refine sy _ (zmv rfl (e rfl rfl)) rfl rfl ?_
    refine sy (.t ⟨false, [.fe 3 (xs.map Lame.cells) i 0]⟩) (zix tabOk rfl rfl rfl (e rfl rfl) (e rfl rfl) (ltm_of_some hxi)) rfl rfl ?_
    refine sy (.t ⟨true, [.d (dI (x.Addr)), .d (dS (x.Apex)), .d (dI (x.Until))]⟩) (zle tabOk rfl (e rfl rfl) (getm hxi) rfl rfl) rfl rfl ?_
    refine sd (.t ⟨true, [.d (dI (x.Addr)), .d (dS (x.Apex)), .d (dI (x.Until))]⟩) (zcall 1 (.t ⟨true, [.d (dI (x.Addr)), .d (dS (x.Apex)), .d (dI (x.Until))]⟩) [] rfl (tr_toLame x ((hx.2 _ (List.mem_of_getElem? hxi)))) (ar (e rfl rfl) (.d (.d (.d .nil))) .nil) rfl rfl rfl) rfl rfl rfl rfl ?_
    refine sy (.t ⟨false, [.ep 0 1 i 0]⟩) (zis tabOk rfl rfl rfl (e rfl rfl) rfl (e rfl rfl) (ltm_of_some hxi) (Nat.zero_add _)) rfl rfl ?_
    refine sw 0 (.row 3 (fill Lame.cells xs [dI (0), dS (⟨#[]⟩), dI (0)] (i + 1)) true 1 (i + 1)) (zsr tabOk rfl (e rfl rfl) rfl (fill_get hxi) (e rfl rfl) rfl (.lf (.lf (.lf .nil))) rfl (.inl Nat.one_pos) (fill_set (f := Lame.cells) hxi)) rfl rfl ?_
    refine s_end ?_
    refine blk_norm ?_
    refine v_reg ?_
    refine sy _ (zmv rfl (e rfl rfl)) rfl rfl ?_
    refine sy (.t ⟨false, [.d (dI ((i : Int) + 1))]⟩) (y_bin rfl (e rfl rfl) (ec rfl) (fun _ => b_addn (by omega) (by omega)) rfl) rfl rfl ?_
    refine sy _ (zas rfl (e rfl rfl)) rfl rfl ?_
    refine s_end ?_
    exact lp_next (i + 1) hlt (by omega) ⟨rfl, rfl, rfl, trivial⟩ ⟨rfl, trivial⟩ rfl
  have hend : i = xs.length := by have := hb1; simp at this; omega
  refine v_exit ?_
  refine then_exit ?_
  refine loop_exit ?_
  refine blk_hit ?_
  refine v_seq ?_
  refine v_reg ?_
  refine sy _ (zmv rfl (e rfl rfl)) rfl rfl ?_
  refine sy _ (zas rfl (e rfl rfl)) rfl rfl ?_
  refine s_end ?_
  refine v_ret ?_
  exact post_ret (rv (.tmp (eg rfl rfl)) rfl (.sr rfl (fill_le hend) (fill_end hend) .nil) rfl .nil) (.ro .nil) rfl
set_option maxRecDepth 20000 in
theorem tr_toAnswer (a : Answer) (ha : a.Fit) : Tr Try.prog 90 [.ro ⟨true, [dI (a.No), dI (a.Client), dI (a.Code), dS (a.Q.Name), dI (a.Q.Typ), .sl 6 (a.Links.map Record.cells), .sl 6 (a.L.map Record.cells), dI (a.Sent)]⟩] [⟨true, [dI (a.No), dI (a.Client), dI (a.Code), dS (a.Q.Name), dI (a.Q.Typ), .sl 6 (a.Links.map Record.cells), .sl 6 (a.L.map Record.cells), dI (a.Sent)]⟩] := by
  refine tr_go tabOk Try.func90 rfl rfl rfl rfl rfl (ov := [(0, .t ⟨true, [.d (dI (a.No)), .d (dI (a.Client)), .d (dI (a.Code)), .d (dS (a.Q.Name)), .d (dI (a.Q.Typ)), .d (.sl 6 (a.Links.map Record.cells)), .d (.sl 6 (a.L.map Record.cells)), .d (dI (a.Sent))]⟩)]) (hv := []) rfl rfl ?_
  refine v_seq ?_
  refine v_reg ?_
  refine sr 0 (.t ⟨false, [.vp 0 0]⟩) (.var [.d (dI (a.No)), .d (dI (a.Client)), .d (dI (a.Code)), .d (dS (a.Q.Name)), .d (dI (a.Q.Typ)), .d (.sl 6 (a.Links.map Record.cells)), .d (.sl 6 (a.L.map Record.cells)), .d (dI (a.Sent))]) (zbx rfl (e rfl rfl) rfl rfl rfl) rfl rfl ?_
  refine sr 1 (.t ⟨false, [.vp 1 0]⟩) (.var [.d (dI (0)), .d (dI (0)), .d (dI (0)), .d (dS (⟨#[]⟩)), .d (dI (0)), .nl 6, .nl 6, .d (dI (0))]) (zal tabOk rfl rfl rfl rfl) rfl rfl ?_
  refine s_end ?_
  refine v_seq ?_
  refine v_reg ?_
  refine sr 2 (.t ⟨false, [.vp 2 0]⟩) (.var [.d (dI (0)), .d (dI (0)), .d (dI (0)), .d (dS (⟨#[]⟩)), .d (dI (0)), .nl 6, .nl 6, .d (dI (0))]) (zal tabOk rfl rfl rfl rfl) rfl rfl ?_
  refine s_end ?_
  refine v_seq ?_
  refine v_reg ?_
  refine sy (.t ⟨false, [.vp 0 0]⟩) (zfa tabOk rfl rfl rfl (e rfl rfl) rfl rfl) rfl rfl ?_
  refine sy (.t ⟨false, [.d (dI (a.No))]⟩) (zlv tabOk rfl (e rfl rfl) rfl rfl rfl) rfl rfl ?_
  refine sy (.t ⟨false, [.vp 2 0]⟩) (zfa tabOk rfl rfl rfl (e rfl rfl) rfl rfl) rfl rfl ?_
  refine sw 2 (.var [.d (dI (a.No)), .d (dI (0)), .d (dI (0)), .d (dS (⟨#[]⟩)), .d (dI (0)), .nl 6, .nl 6, .d (dI (0))]) (zst tabOk rfl (e rfl rfl) rfl (e rfl rfl) rfl rfl rfl) rfl rfl ?_
  refine s_end ?_
  refine v_seq ?_
  refine v_reg ?_
  refine sy (.t ⟨false, [.vp 0 1]⟩) (zfa tabOk rfl rfl rfl (e rfl rfl) rfl rfl) rfl rfl ?_
  refine sy (.t ⟨false, [.d (dI (a.Client))]⟩) (zlv tabOk rfl (e rfl rfl) rfl rfl rfl) rfl rfl ?_
  refine sy (.t ⟨false, [.vp 2 1]⟩) (zfa tabOk rfl rfl rfl (e rfl rfl) rfl rfl) rfl rfl ?_
  refine sw 2 (.var [.d (dI (a.No)), .d (dI (a.Client)), .d (dI (0)), .d (dS (⟨#[]⟩)), .d (dI (0)), .nl 6, .nl 6, .d (dI (0))]) (zst tabOk rfl (e rfl rfl) rfl (e rfl rfl) rfl rfl rfl) rfl rfl ?_
  refine s_end ?_
  refine v_seq ?_
  refine v_reg ?_
  refine sy (.t ⟨false, [.vp 0 2]⟩) (zfa tabOk rfl rfl rfl (e rfl rfl) rfl rfl) rfl rfl ?_
  refine sy (.t ⟨false, [.d (dI (a.Code))]⟩) (zlv tabOk rfl (e rfl rfl) rfl rfl rfl) rfl rfl ?_
  refine sy (.t ⟨false, [.vp 2 2]⟩) (zfa tabOk rfl rfl rfl (e rfl rfl) rfl rfl) rfl rfl ?_
  refine sw 2 (.var [.d (dI (a.No)), .d (dI (a.Client)), .d (dI (a.Code)), .d (dS (⟨#[]⟩)), .d (dI (0)), .nl 6, .nl 6, .d (dI (0))]) (zst tabOk rfl (e rfl rfl) rfl (e rfl rfl) rfl rfl rfl) rfl rfl ?_
  refine s_end ?_
  refine v_seq ?_
  refine v_reg ?_
  refine sy (.t ⟨false, [.vp 0 3]⟩) (zfa tabOk rfl rfl rfl (e rfl rfl) rfl rfl) rfl rfl ?_
  refine sy (.t ⟨true, [.d (dS (a.Q.Name)), .d (dI (a.Q.Typ))]⟩) (zlv tabOk rfl (e rfl rfl) rfl rfl rfl) rfl rfl ?_
  refine sd (.t ⟨true, [.d (dS (a.Q.Name)), .d (dI (a.Q.Typ))]⟩) (zcall 3 (.t ⟨true, [.d (dS (a.Q.Name)), .d (dI (a.Q.Typ))]⟩) [] rfl (tr_toQuest a.Q ha.Q) (ar (e rfl rfl) (.d (.d .nil)) .nil) rfl rfl rfl) rfl rfl rfl rfl ?_
  refine sy (.t ⟨false, [.vp 2 3]⟩) (zfa tabOk rfl rfl rfl (e rfl rfl) rfl rfl) rfl rfl ?_
  refine sw 2 (.var [.d (dI (a.No)), .d (dI (a.Client)), .d (dI (a.Code)), .d (dS (a.Q.Name)), .d (dI (a.Q.Typ)), .nl 6, .nl 6, .d (dI (0))]) (zst tabOk rfl (e rfl rfl) rfl (e rfl rfl) rfl rfl rfl) rfl rfl ?_
  refine s_end ?_
  refine v_seq ?_
  refine v_reg ?_
  refine sy (.t ⟨false, [.vp 0 5]⟩) (zfa tabOk rfl rfl rfl (e rfl rfl) rfl rfl) rfl rfl ?_
  refine sy (.t ⟨false, [.d (.sl 6 (a.Links.map Record.cells))]⟩) (zlv tabOk rfl (e rfl rfl) rfl rfl rfl) rfl rfl ?_
  refine sd (.t ⟨false, [.sr 3 1 0 ((a.Links.map Record.cells).length) ((a.Links.map Record.cells).length)]⟩) (zcall 3 (.t ⟨false, [.sr 3 1 0 ((a.Links.map Record.cells).length) ((a.Links.map Record.cells).length)]⟩) [(3, .row 6 (a.Links.map Record.cells) true 1 0)] rfl (tr_toRecordS a.Links ha.Links) (ar (e rfl rfl) (.d .nil) .nil) rfl rfl rfl) rfl rfl rfl rfl ?_
  refine sy (.t ⟨false, [.vp 2 5]⟩) (zfa tabOk rfl rfl rfl (e rfl rfl) rfl rfl) rfl rfl ?_
  refine sw 2 (.var [.d (dI (a.No)), .d (dI (a.Client)), .d (dI (a.Code)), .d (dS (a.Q.Name)), .d (dI (a.Q.Typ)), .sr 3 1 0 ((a.Links.map Record.cells).length) ((a.Links.map Record.cells).length), .nl 6, .d (dI (0))]) (zst tabOk rfl (e rfl rfl) rfl (e rfl rfl) rfl rfl rfl) rfl rfl ?_
  refine s_end ?_
  refine v_seq ?_
  refine v_reg ?_
  refine sy (.t ⟨false, [.vp 0 6]⟩) (zfa tabOk rfl rfl rfl (e rfl rfl) rfl rfl) rfl rfl ?_
  refine sy (.t ⟨false, [.d (.sl 6 (a.L.map Record.cells))]⟩) (zlv tabOk rfl (e rfl rfl) rfl rfl rfl) rfl rfl ?_
  refine sd (.t ⟨false, [.sr 4 1 0 ((a.L.map Record.cells).length) ((a.L.map Record.cells).length)]⟩) (zcall 4 (.t ⟨false, [.sr 4 1 0 ((a.L.map Record.cells).length) ((a.L.map Record.cells).length)]⟩) [(4, .row 6 (a.L.map Record.cells) true 1 0)] rfl (tr_toRecordS a.L ha.L) (ar (e rfl rfl) (.d .nil) .nil) rfl rfl rfl) rfl rfl rfl rfl ?_
  refine sy (.t ⟨false, [.vp 2 6]⟩) (zfa tabOk rfl rfl rfl (e rfl rfl) rfl rfl) rfl rfl ?_
  refine sw 2 (.var [.d (dI (a.No)), .d (dI (a.Client)), .d (dI (a.Code)), .d (dS (a.Q.Name)), .d (dI (a.Q.Typ)), .sr 3 1 0 ((a.Links.map Record.cells).length) ((a.Links.map Record.cells).length), .sr 4 1 0 ((a.L.map Record.cells).length) ((a.L.map Record.cells).length), .d (dI (0))]) (zst tabOk rfl (e rfl rfl) rfl (e rfl rfl) rfl rfl rfl) rfl rfl ?_
  refine s_end ?_
  refine v_seq ?_
  refine v_reg ?_
  refine sy (.t ⟨false, [.vp 0 7]⟩) (zfa tabOk rfl rfl rfl (e rfl rfl) rfl rfl) rfl rfl ?_
  refine sy (.t ⟨false, [.d (dI (a.Sent))]⟩) (zlv tabOk rfl (e rfl rfl) rfl rfl rfl) rfl rfl ?_
  refine sy (.t ⟨false, [.vp 2 7]⟩) (zfa tabOk rfl rfl rfl (e rfl rfl) rfl rfl) rfl rfl ?_
  refine sw 2 (.var [.d (dI (a.No)), .d (dI (a.Client)), .d (dI (a.Code)), .d (dS (a.Q.Name)), .d (dI (a.Q.Typ)), .sr 3 1 0 ((a.Links.map Record.cells).length) ((a.Links.map Record.cells).length), .sr 4 1 0 ((a.L.map Record.cells).length) ((a.L.map Record.cells).length), .d (dI (a.Sent))]) (zst tabOk rfl (e rfl rfl) rfl (e rfl rfl) rfl rfl rfl) rfl rfl ?_
  refine s_end ?_
  refine v_seq ?_
  refine v_reg ?_
  refine sy (.t ⟨true, [.d (dI (a.No)), .d (dI (a.Client)), .d (dI (a.Code)), .d (dS (a.Q.Name)), .d (dI (a.Q.Typ)), .sr 3 1 0 ((a.Links.map Record.cells).length) ((a.Links.map Record.cells).length), .sr 4 1 0 ((a.L.map Record.cells).length) ((a.L.map Record.cells).length), .d (dI (a.Sent))]⟩) (zlv tabOk rfl (e rfl rfl) rfl rfl rfl) rfl rfl ?_
  refine sw 1 (.var [.d (dI (a.No)), .d (dI (a.Client)), .d (dI (a.Code)), .d (dS (a.Q.Name)), .d (dI (a.Q.Typ)), .sr 3 1 0 ((a.Links.map Record.cells).length) ((a.Links.map Record.cells).length), .sr 4 1 0 ((a.L.map Record.cells).length) ((a.L.map Record.cells).length), .d (dI (a.Sent))]) (zst tabOk rfl (e rfl rfl) rfl (e rfl rfl) rfl rfl rfl) rfl rfl ?_
  refine s_end ?_
  refine v_ret ?_
  exact post_ret (rv (.cell (eg rfl rfl) rfl rfl (.inl rfl) rfl) rfl (.lf (.lf (.lf (.lf (.lf (.sr rfl le_all take_all (.sr rfl le_all take_all (.lf .nil)))))))) rfl .nil) (.ro .nil) rfl
set_option maxRecDepth 20000 in
theorem tr_toAnswerS (xs : List Answer) (hx : fitL Answer.Fit xs) : Tr Try.prog 63 [.ro ⟨false, [.sl 8 (xs.map Answer.cells)]⟩] [⟨false, [.sl 8 (xs.map Answer.cells)]⟩] := by
  refine tr_go tabOk Try.func63 rfl rfl rfl rfl rfl (ov := [(0, .t ⟨false, [.d (.sl 8 (xs.map Answer.cells))]⟩)]) (hv := []) rfl rfl ?_
  refine v_seq ?_
  refine v_reg ?_
  refine sy _ (zas rfl (en 8)) rfl rfl ?_
  refine s_end ?_
  refine v_seq ?_
  refine v_reg ?_
  refine sy _ (zmv rfl (e rfl rfl)) rfl rfl ?_
  refine sy (.t ⟨false, [.d (dI ((xs.map Answer.cells).length : Int))]⟩) (zln tabOk rfl rfl (e rfl rfl) .d) rfl rfl ?_
  refine sr 0 (.t ⟨false, [.sr 0 1 0 ((xs.map Answer.cells).length) ((xs.map Answer.cells).length)]⟩) (.row 8 (List.replicate ((xs.map Answer.cells).length) [dI (0), dI (0), dI (0), dS (⟨#[]⟩), dI (0), .sl 6 ([]), .sl 6 ([]), dI (0)]) true 1 0) (zmk tabOk rfl rfl rfl (e rfl rfl) (e rfl rfl) (Nat.le_refl _) (mkok hx.1 rfl) rfl rfl) rfl rfl ?_
  refine sy _ (zas rfl (e rfl rfl)) rfl rfl ?_
  refine s_end ?_
  refine v_seq ?_
  refine v_seq ?_
  refine v_reg ?_
  refine sy _ (zas rfl (ec rfl)) rfl rfl ?_
  refine s_end ?_
  refine v_block ?_
  have hB := hx.1
  refine v_lp (fun (i : Nat) => [(0, .t ⟨false, [.d (.sl 8 (xs.map Answer.cells))]⟩), (3, .t ⟨false, [.sr 0 1 0 ((xs.map Answer.cells).length) ((xs.map Answer.cells).length)]⟩), (4, .t ⟨false, [.d (dI (i : Int))]⟩)]) (fun i => [(0, .row 8 (fill Answer.cells xs [dI (0), dI (0), dI (0), dS (⟨#[]⟩), dI (0), .sl 6 ([]), .sl 6 ([]), dI (0)] i) true 1 i)]) (fun i => i ≤ xs.length) (fun i => xs.length - i) 0 (Nat.zero_le _) ⟨rfl, rfl, rfl, trivial⟩ ⟨congrArg (fun l => VO.row 8 l true 1 0) fill0, trivial⟩ rfl (fun i hi => ?_)
  refine v_seq ?_
  refine v_seq ?_
  refine v_reg ?_
  refine sy _ (zmv rfl (e rfl rfl)) rfl rfl ?_
  refine sy _ (zmv rfl (e rfl rfl)) rfl rfl ?_
  refine sy (.t ⟨false, [.d (dI ((xs.map Answer.cells).length : Int))]⟩) (zln tabOk rfl rfl (e rfl rfl) .d) rfl rfl ?_
  refine sy (.t ⟨false, [.d (dB (decide (((i : Int)) < (((xs.map Answer.cells).length : Int)))))]⟩) (y_bin rfl (e rfl rfl) (e rfl rfl) (fun _ => b_lss) rfl) rfl rfl ?_
  refine s_end ?_
  refine v_cond (e rfl rfl) (fun hb1 => ?_) fun hb1 => ?_
  · have hlt : i < xs.length := by have := hb1; simp at this; omega
    obtain ⟨x, hxi⟩ := some_of_lt hlt
    refine v_skip ?_
    refine v_seq ?_
    refine v_block ?_
    refine v_reg ?_
    refine sy _ (zmv rfl (e rfl rfl)) rfl rfl ?_
    refine sy _ (zmv rfl (e rfl rfl)) rfl rfl ?_
    refine sy _ (zmv rfl (e rfl rfl)) rfl rfl ?_
    refine sy _ (zmv rfl (e rfl rfl)) rfl rfl ?_
    refine sy (.t ⟨false, [.fe 8 (xs.map Answer.cells) i 0]⟩) (zix tabOk rfl rfl rfl (e rfl rfl) (e rfl rfl) (ltm_of_some hxi)) rfl rfl ?_
    refine sy (.t ⟨true, [.d (dI (x.No)), .d (dI (x.Client)), .d (dI (x.Code)), .d (dS (x.Q.Name)), .d (dI (x.Q.Typ)), .d (.sl 6 (x.Links.map Record.cells)), .d (.sl 6 (x.L.map Record.cells)), .d (dI (x.Sent))]⟩) (zle tabOk rfl (e rfl rfl) (getm hxi) rfl rfl) rfl rfl ?_
    refine sd (.t ⟨true, [.d (dI (x.No)), .d (dI (x.Client)), .d (dI (x.Code)), .d (dS (x.Q.Name)), .d (dI (x.Q.Typ)), .sr 1 1 0 ((x.Links.map Record.cells).length) ((x.Links.map Record.cells).length), .sr 2 1 0 ((x.L.map Record.cells).length) ((x.L.map Record.cells).length), .d (dI (x.Sent))]⟩) (zcall 1 (.t ⟨true, [.d (dI (x.No)), .d (dI (x.Client)), .d (dI (x.Code)), .d (dS (x.Q.Name)), .d (dI (x.Q.Typ)), .sr 1 1 0 ((x.Links.map Record.cells).length) ((x.Links.map Record.cells).length), .sr 2 1 0 ((x.L.map Record.cells).length) ((x.L.map Record.cells).length), .d (dI (x.Sent))]⟩) [(1, .row 6 (x.Links.map Record.cells) true 1 0), (2, .row 6 (x.L.map Record.cells) true 1 0)] rfl (tr_toAnswer x ((hx.2 _ (List.mem_of_getElem? hxi)))) (ar (e rfl rfl) (.d (.d (.d (.d (.d (.d (.d (.d .nil)))))))) .nil) rfl rfl rfl) rfl rfl rfl rfl ?_
    refine sy (.t ⟨false, [.ep 0 1 i 0]⟩) (zis tabOk rfl rfl rfl (e rfl rfl) rfl (e rfl rfl) (ltm_of_some hxi) (Nat.zero_add _)) rfl rfl ?_
    refine swk 0 (.row 8 (fill Answer.cells xs [dI (0), dI (0), dI (0), dS (⟨#[]⟩), dI (0), .sl 6 ([]), .sl 6 ([]), dI (0)] (i + 1)) true 1 (i + 1)) (zsg tabOk rfl (e rfl rfl) rfl (fill_get hxi) (e rfl rfl) rfl (.lf (.lf (.lf (.lf (.lf (.sr rfl le_all take_all (.sr rfl le_all take_all (.lf .nil)))))))) rfl rfl (fill_set (f := Answer.cells) hxi)) rfl rfl ?_
    refine s_end ?_
    refine blk_norm ?_
    refine v_reg ?_
    refine sy _ (zmv rfl (e rfl rfl)) rfl rfl ?_
    refine sy (.t ⟨false, [.d (dI ((i : Int) + 1))]⟩) (y_bin rfl (e rfl rfl) (ec rfl) (fun _ => b_addn (by omega) (by omega)) rfl) rfl rfl ?_
    refine sy _ (zas rfl (e rfl rfl)) rfl rfl ?_
    refine s_end ?_
    exact lp_next (i + 1) hlt (by omega) ⟨rfl, rfl, rfl, trivial⟩ ⟨rfl, trivial⟩ rfl
  have hend : i = xs.length := by have := hb1; simp at this; omega
  refine v_exit ?_
  refine then_exit ?_
  refine loop_exit ?_
  refine blk_hit ?_
  refine v_seq ?_
  refine v_reg ?_
  refine sy _ (zmv rfl (e rfl rfl)) rfl rfl ?_
  refine sy _ (zas rfl (e rfl rfl)) rfl rfl ?_
  refine s_end ?_
  refine v_ret ?_
  exact post_ret (rv (.tmp (eg rfl rfl)) rfl (.sr rfl (fill_le hend) (fill_end hend) .nil) rfl .nil) (.ro .nil) rfl
set_option maxRecDepth 20000 in
theorem tr_toEntry (a : Entry) (ha : a.Fit) : Tr Try.prog 97 [.ro ⟨true, [dS (a.Q.Name), dI (a.Q.Typ), dI (a.Kind), .sl 6 (a.L.map Record.cells), dI (a.Rank), dI (a.Until)]⟩] [⟨true, [dS (a.Q.Name), dI (a.Q.Typ), dI (a.Kind), .sl 6 (a.L.map Record.cells), dI (a.Rank), dI (a.Until)]⟩] := by
  refine tr_go tabOk Try.func97 rfl rfl rfl rfl rfl (ov := [(0, .t ⟨true, [.d (dS (a.Q.Name)), .d (dI (a.Q.Typ)), .d (dI (a.Kind)), .d (.sl 6 (a.L.map Record.cells)), .d (dI (a.Rank)), .d (dI (a.Until))]⟩)]) (hv := []) rfl rfl ?_
  refine v_seq ?_
  refine v_reg ?_
  refine sr 0 (.t ⟨false, [.vp 0 0]⟩) (.var [.d (dS (a.Q.Name)), .d (dI (a.Q.Typ)), .d (dI (a.Kind)), .d (.sl 6 (a.L.map Record.cells)), .d (dI (a.Rank)), .d (dI (a.Until))]) (zbx rfl (e rfl rfl) rfl rfl rfl) rfl rfl ?_
  refine sr 1 (.t ⟨false, [.vp 1 0]⟩) (.var [.d (dS (⟨#[]⟩)), .d (dI (0)), .d (dI (0)), .nl 6, .d (dI (0)), .d (dI (0))]) (zal tabOk rfl rfl rfl rfl) rfl rfl ?_
  refine s_end ?_
  refine v_seq ?_
  refine v_reg ?_
  refine sr 2 (.t ⟨false, [.vp 2 0]⟩) (.var [.d (dS (⟨#[]⟩)), .d (dI (0)), .d (dI (0)), .nl 6, .d (dI (0)), .d (dI (0))]) (zal tabOk rfl rfl rfl rfl) rfl rfl ?_
  refine s_end ?_
  refine v_seq ?_
  refine v_reg ?_
  refine sy (.t ⟨false, [.vp 0 0]⟩) (zfa tabOk rfl rfl rfl (e rfl rfl) rfl rfl) rfl rfl ?_
  refine sy (.t ⟨true, [.d (dS (a.Q.Name)), .d (dI (a.Q.Typ))]⟩) (zlv tabOk rfl (e rfl rfl) rfl rfl rfl) rfl rfl ?_
  refine sd (.t ⟨true, [.d (dS (a.Q.Name)), .d (dI (a.Q.Typ))]⟩) (zcall 3 (.t ⟨true, [.d (dS (a.Q.Name)), .d (dI (a.Q.Typ))]⟩) [] rfl (tr_toQuest a.Q ha.Q) (ar (e rfl rfl) (.d (.d .nil)) .nil) rfl rfl rfl) rfl rfl rfl rfl ?_
  refine sy (.t ⟨false, [.vp 2 0]⟩) (zfa tabOk rfl rfl rfl (e rfl rfl) rfl rfl) rfl rfl ?_
  refine sw 2 (.var [.d (dS (a.Q.Name)), .d (dI (a.Q.Typ)), .d (dI (0)), .nl 6, .d (dI (0)), .d (dI (0))]) (zst tabOk rfl (e rfl rfl) rfl (e rfl rfl) rfl rfl rfl) rfl rfl ?_
  refine s_end ?_
  refine v_seq ?_
  refine v_reg ?_
  refine sy (.t ⟨false, [.vp 0 2]⟩) (zfa tabOk rfl rfl rfl (e rfl rfl) rfl rfl) rfl rfl ?_
  refine sy (.t ⟨false, [.d (dI (a.Kind))]⟩) (zlv tabOk rfl (e rfl rfl) rfl rfl rfl) rfl rfl ?_
  refine sy (.t ⟨false, [.vp 2 2]⟩) (zfa tabOk rfl rfl rfl (e rfl rfl) rfl rfl) rfl rfl ?_
  refine sw 2 (.var [.d (dS (a.Q.Name)), .d (dI (a.Q.Typ)), .d (dI (a.Kind)), .nl 6, .d (dI (0)), .d (dI (0))]) (zst tabOk rfl (e rfl rfl) rfl (e rfl rfl) rfl rfl rfl) rfl rfl ?_
  refine s_end ?_
  refine v_seq ?_
  refine v_reg ?_
  refine sy (.t ⟨false, [.vp 0 3]⟩) (zfa tabOk rfl rfl rfl (e rfl rfl) rfl rfl) rfl rfl ?_
  refine sy (.t ⟨false, [.d (.sl 6 (a.L.map Record.cells))]⟩) (zlv tabOk rfl (e rfl rfl) rfl rfl rfl) rfl rfl ?_
  refine sd (.t ⟨false, [.sr 3 1 0 ((a.L.map Record.cells).length) ((a.L.map Record.cells).length)]⟩) (zcall 3 (.t ⟨false, [.sr 3 1 0 ((a.L.map Record.cells).length) ((a.L.map Record.cells).length)]⟩) [(3, .row 6 (a.L.map Record.cells) true 1 0)] rfl (tr_toRecordS a.L ha.L) (ar (e rfl rfl) (.d .nil) .nil) rfl rfl rfl) rfl rfl rfl rfl ?_
  refine sy (.t ⟨false, [.vp 2 3]⟩) (zfa tabOk rfl rfl rfl (e rfl rfl) rfl rfl) rfl rfl ?_
  refine sw 2 (.var [.d (dS (a.Q.Name)), .d (dI (a.Q.Typ)), .d (dI (a.Kind)), .sr 3 1 0 ((a.L.map Record.cells).length) ((a.L.map Record.cells).length), .d (dI (0)), .d (dI (0))]) (zst tabOk rfl (e rfl rfl) rfl (e rfl rfl) rfl rfl rfl) rfl rfl ?_
  refine s_end ?_
  refine v_seq ?_
  refine v_reg ?_
  refine sy (.t ⟨false, [.vp 0 4]⟩) (zfa tabOk rfl rfl rfl (e rfl rfl) rfl rfl) rfl rfl ?_
  refine sy (.t ⟨false, [.d (dI (a.Rank))]⟩) (zlv tabOk rfl (e rfl rfl) rfl rfl rfl) rfl rfl ?_
  refine sy (.t ⟨false, [.vp 2 4]⟩) (zfa tabOk rfl rfl rfl (e rfl rfl) rfl rfl) rfl rfl ?_
  refine sw 2 (.var [.d (dS (a.Q.Name)), .d (dI (a.Q.Typ)), .d (dI (a.Kind)), .sr 3 1 0 ((a.L.map Record.cells).length) ((a.L.map Record.cells).length), .d (dI (a.Rank)), .d (dI (0))]) (zst tabOk rfl (e rfl rfl) rfl (e rfl rfl) rfl rfl rfl) rfl rfl ?_
  refine s_end ?_
  refine v_seq ?_
  refine v_reg ?_
  refine sy (.t ⟨false, [.vp 0 5]⟩) (zfa tabOk rfl rfl rfl (e rfl rfl) rfl rfl) rfl rfl ?_
  refine sy (.t ⟨false, [.d (dI (a.Until))]⟩) (zlv tabOk rfl (e rfl rfl) rfl rfl rfl) rfl rfl ?_
  refine sy (.t ⟨false, [.vp 2 5]⟩) (zfa tabOk rfl rfl rfl (e rfl rfl) rfl rfl) rfl rfl ?_
  refine sw 2 (.var [.d (dS (a.Q.Name)), .d (dI (a.Q.Typ)), .d (dI (a.Kind)), .sr 3 1 0 ((a.L.map Record.cells).length) ((a.L.map Record.cells).length), .d (dI (a.Rank)), .d (dI (a.Until))]) (zst tabOk rfl (e rfl rfl) rfl (e rfl rfl) rfl rfl rfl) rfl rfl ?_
  refine s_end ?_
  refine v_seq ?_
  refine v_reg ?_
  refine sy (.t ⟨true, [.d (dS (a.Q.Name)), .d (dI (a.Q.Typ)), .d (dI (a.Kind)), .sr 3 1 0 ((a.L.map Record.cells).length) ((a.L.map Record.cells).length), .d (dI (a.Rank)), .d (dI (a.Until))]⟩) (zlv tabOk rfl (e rfl rfl) rfl rfl rfl) rfl rfl ?_
  refine sw 1 (.var [.d (dS (a.Q.Name)), .d (dI (a.Q.Typ)), .d (dI (a.Kind)), .sr 3 1 0 ((a.L.map Record.cells).length) ((a.L.map Record.cells).length), .d (dI (a.Rank)), .d (dI (a.Until))]) (zst tabOk rfl (e rfl rfl) rfl (e rfl rfl) rfl rfl rfl) rfl rfl ?_
  refine s_end ?_
  refine v_ret ?_
  exact post_ret (rv (.cell (eg rfl rfl) rfl rfl (.inl rfl) rfl) rfl (.lf (.lf (.lf (.sr rfl le_all take_all (.lf (.lf .nil)))))) rfl .nil) (.ro .nil) rfl
set_option maxRecDepth 20000 in
theorem tr_toEntryS (xs : List Entry) (hx : fitL Entry.Fit xs) : Tr Try.prog 87 [.ro ⟨false, [.sl 6 (xs.map Entry.cells)]⟩] [⟨false, [.sl 6 (xs.map Entry.cells)]⟩] := by
  refine tr_go tabOk Try.func87 rfl rfl rfl rfl rfl (ov := [(0, .t ⟨false, [.d (.sl 6 (xs.map Entry.cells))]⟩)]) (hv := []) rfl rfl ?_
  refine v_seq ?_
  refine v_reg ?_
  refine sy _ (zas rfl (en 6)) rfl rfl ?_
  refine s_end ?_
  refine v_seq ?_
  refine v_reg ?_
  refine sy _ (zmv rfl (e rfl rfl)) rfl rfl ?_
  refine sy (.t ⟨false, [.d (dI ((xs.map Entry.cells).length : Int))]⟩) (zln tabOk rfl rfl (e rfl rfl) .d) rfl rfl ?_
  refine sr 0 (.t ⟨false, [.sr 0 1 0 ((xs.map Entry.cells).length) ((xs.map Entry.cells).length)]⟩) (.row 6 (List.replicate ((xs.map Entry.cells).length) [dS (⟨#[]⟩), dI (0), dI (0), .sl 6 ([]), dI (0), dI (0)]) true 1 0) (zmk tabOk rfl rfl rfl (e rfl rfl) (e rfl rfl) (Nat.le_refl _) (mkok hx.1 rfl) rfl rfl) rfl rfl ?_
  refine sy _ (zas rfl (e rfl rfl)) rfl rfl ?_
  refine s_end ?_
  refine v_seq ?_
  refine v_seq ?_
  refine v_reg ?_
  refine sy _ (zas rfl (ec rfl)) rfl rfl ?_
  refine s_end ?_
  refine v_block ?_
  have hB := hx.1
  refine v_lp (fun (i : Nat) => [(0, .t ⟨false, [.d (.sl 6 (xs.map Entry.cells))]⟩), (3, .t ⟨false, [.sr 0 1 0 ((xs.map Entry.cells).length) ((xs.map Entry.cells).length)]⟩), (4, .t ⟨false, [.d (dI (i : Int))]⟩)]) (fun i => [(0, .row 6 (fill Entry.cells xs [dS (⟨#[]⟩), dI (0), dI (0), .sl 6 ([]), dI (0), dI (0)] i) true 1 i)]) (fun i => i ≤ xs.length) (fun i => xs.length - i) 0 (Nat.zero_le _) ⟨rfl, rfl, rfl, trivial⟩ ⟨congrArg (fun l => VO.row 6 l true 1 0) fill0, trivial⟩ rfl (fun i hi => ?_)
  refine v_seq ?_
  refine v_seq ?_
  refine v_reg ?_
  refine sy _ (zmv rfl (e rfl rfl)) rfl rfl ?_
  refine sy _ (zmv rfl (e rfl rfl)) rfl rfl ?_
  refine sy (.t ⟨false, [.d (dI ((xs.map Entry.cells).length : Int))]⟩) (zln tabOk rfl rfl (e rfl rfl) .d) rfl rfl ?_
  refine sy (.t ⟨false, [.d (dB (decide (((i : Int)) < (((xs.map Entry.cells).length : Int)))))]⟩) (y_bin rfl (e rfl rfl) (e rfl rfl) (fun _ => b_lss) rfl) rfl rfl ?_
  refine s_end ?_
  refine v_cond (e rfl rfl) (fun hb1 => ?_) fun hb1 => ?_
  · have hlt : i < xs.length := by have := hb1; simp at this; omega
    obtain ⟨x, hxi⟩ := some_of_lt hlt
    refine v_skip ?_
    refine v_seq ?_
    refine v_block ?_
    refine v_reg ?_
    refine sy _ (zmv rfl (e rfl rfl)) rfl rfl ?_
    refine sy _ (zmv rfl (e rfl rfl)) rfl rfl ?_
    refine sy _ (zmv rfl (e rfl rfl)) rfl rfl ?_
    refine sy _ (zmv rfl (e rfl rfl)) rfl rfl ?_
    refine sy (.t ⟨false, [.fe 6 (xs.map Entry.cells) i 0]⟩) (zix tabOk rfl rfl rfl (e rfl rfl) (e rfl rfl) (ltm_of_some hxi)) rfl rfl ?_
    refine sy (.t ⟨true, [.d (dS (x.Q.Name)), .d (dI (x.Q.Typ)), .d (dI (x.Kind)), .d (.sl 6 (x.L.map Record.cells)), .d (dI (x.Rank)), .d (dI (x.Until))]⟩) (zle tabOk rfl (e rfl rfl) (getm hxi) rfl rfl) rfl rfl ?_
    refine sd (.t ⟨true, [.d (dS (x.Q.Name)), .d (dI (x.Q.Typ)), .d (dI (x.Kind)), .sr 1 1 0 ((x.L.map Record.cells).length) ((x.L.map Record.cells).length), .d (dI (x.Rank)), .d (dI (x.Until))]⟩) (zcall 1 (.t ⟨true, [.d (dS (x.Q.Name)), .d (dI (x.Q.Typ)), .d (dI (x.Kind)), .sr 1 1 0 ((x.L.map Record.cells).length) ((x.L.map Record.cells).length), .d (dI (x.Rank)), .d (dI (x.Until))]⟩) [(1, .row 6 (x.L.map Record.cells) true 1 0)] rfl (tr_toEntry x ((hx.2 _ (List.mem_of_getElem? hxi)))) (ar (e rfl rfl) (.d (.d (.d (.d (.d (.d .nil)))))) .nil) rfl rfl rfl) rfl rfl rfl rfl ?_
    refine sy (.t ⟨false, [.ep 0 1 i 0]⟩) (zis tabOk rfl rfl rfl (e rfl rfl) rfl (e rfl rfl) (ltm_of_some hxi) (Nat.zero_add _)) rfl rfl ?_
    refine swk 0 (.row 6 (fill Entry.cells xs [dS (⟨#[]⟩), dI (0), dI (0), .sl 6 ([]), dI (0), dI (0)] (i + 1)) true 1 (i + 1)) (zsg tabOk rfl (e rfl rfl) rfl (fill_get hxi) (e rfl rfl) rfl (.lf (.lf (.lf (.sr rfl le_all take_all (.lf (.lf .nil)))))) rfl rfl (fill_set (f := Entry.cells) hxi)) rfl rfl ?_
    refine s_end ?_
    refine blk_norm ?_
    refine v_reg ?_
    refine sy _ (zmv rfl (e rfl rfl)) rfl rfl ?_
    refine sy (.t ⟨false, [.d (dI ((i : Int) + 1))]⟩) (y_bin rfl (e rfl rfl) (ec rfl) (fun _ => b_addn (by omega) (by omega)) rfl) rfl rfl ?_
    refine sy _ (zas rfl (e rfl rfl)) rfl rfl ?_
    refine s_end ?_
    exact lp_next (i + 1) hlt (by omega) ⟨rfl, rfl, rfl, trivial⟩ ⟨rfl, trivial⟩ rfl
  have hend : i = xs.length := by have := hb1; simp at this; omega
  refine v_exit ?_
  refine then_exit ?_
  refine loop_exit ?_
  refine blk_hit ?_
  refine v_seq ?_
  refine v_reg ?_
  refine sy _ (zmv rfl (e rfl rfl)) rfl rfl ?_
  refine sy _ (zas rfl (e rfl rfl)) rfl rfl ?_
  refine s_end ?_
  refine v_ret ?_
  exact post_ret (rv (.tmp (eg rfl rfl)) rfl (.sr rfl (fill_le hend) (fill_end hend) .nil) rfl .nil) (.ro .nil) rfl
set_option maxRecDepth 20000 in
theorem tr_toCache (a : Cache) (ha : a.Fit) : Tr Try.prog 59 [.ro ⟨true, [dI (a.Cap), .sl 6 (a.L.map Entry.cells)]⟩] [⟨true, [dI (a.Cap), .sl 6 (a.L.map Entry.cells)]⟩] := by
  refine tr_go tabOk Try.func59 rfl rfl rfl rfl rfl (ov := [(0, .t ⟨true, [.d (dI (a.Cap)), .d (.sl 6 (a.L.map Entry.cells))]⟩)]) (hv := []) rfl rfl ?_
  refine v_seq ?_
  refine v_reg ?_
  refine sr 0 (.t ⟨false, [.vp 0 0]⟩) (.var [.d (dI (a.Cap)), .d (.sl 6 (a.L.map Entry.cells))]) (zbx rfl (e rfl rfl) rfl rfl rfl) rfl rfl ?_
  refine sr 1 (.t ⟨false, [.vp 1 0]⟩) (.var [.d (dI (0)), .nl 6]) (zal tabOk rfl rfl rfl rfl) rfl rfl ?_
  refine s_end ?_
  refine v_seq ?_
  refine v_reg ?_
  refine sr 2 (.t ⟨false, [.vp 2 0]⟩) (.var [.d (dI (0)), .nl 6]) (zal tabOk rfl rfl rfl rfl) rfl rfl ?_
  refine s_end ?_
  refine v_seq ?_
  refine v_reg ?_
  refine sy (.t ⟨false, [.vp 0 0]⟩) (zfa tabOk rfl rfl rfl (e rfl rfl) rfl rfl) rfl rfl ?_
  refine sy (.t ⟨false, [.d (dI (a.Cap))]⟩) (zlv tabOk rfl (e rfl rfl) rfl rfl rfl) rfl rfl ?_
  refine sy (.t ⟨false, [.vp 2 0]⟩) (zfa tabOk rfl rfl rfl (e rfl rfl) rfl rfl) rfl rfl ?_
  refine sw 2 (.var [.d (dI (a.Cap)), .nl 6]) (zst tabOk rfl (e rfl rfl) rfl (e rfl rfl) rfl rfl rfl) rfl rfl ?_
  refine s_end ?_
  refine v_seq ?_
  refine v_reg ?_
  refine sy (.t ⟨false, [.vp 0 1]⟩) (zfa tabOk rfl rfl rfl (e rfl rfl) rfl rfl) rfl rfl ?_
  refine sy (.t ⟨false, [.d (.sl 6 (a.L.map Entry.cells))]⟩) (zlv tabOk rfl (e rfl rfl) rfl rfl rfl) rfl rfl ?_
  refine sd (.t ⟨false, [.sr 3 1 0 ((a.L.map Entry.cells).length) ((a.L.map Entry.cells).length)]⟩) (zcall 3 (.t ⟨false, [.sr 3 1 0 ((a.L.map Entry.cells).length) ((a.L.map Entry.cells).length)]⟩) [(3, .row 6 (a.L.map Entry.cells) true 1 0)] rfl (tr_toEntryS a.L ha.L) (ar (e rfl rfl) (.d .nil) .nil) rfl rfl rfl) rfl rfl rfl rfl ?_
  refine sy (.t ⟨false, [.vp 2 1]⟩) (zfa tabOk rfl rfl rfl (e rfl rfl) rfl rfl) rfl rfl ?_
  refine sw 2 (.var [.d (dI (a.Cap)), .sr 3 1 0 ((a.L.map Entry.cells).length) ((a.L.map Entry.cells).length)]) (zst tabOk rfl (e rfl rfl) rfl (e rfl rfl) rfl rfl rfl) rfl rfl ?_
  refine s_end ?_
  refine v_seq ?_
  refine v_reg ?_
  refine sy (.t ⟨true, [.d (dI (a.Cap)), .sr 3 1 0 ((a.L.map Entry.cells).length) ((a.L.map Entry.cells).length)]⟩) (zlv tabOk rfl (e rfl rfl) rfl rfl rfl) rfl rfl ?_
  refine sw 1 (.var [.d (dI (a.Cap)), .sr 3 1 0 ((a.L.map Entry.cells).length) ((a.L.map Entry.cells).length)]) (zst tabOk rfl (e rfl rfl) rfl (e rfl rfl) rfl rfl rfl) rfl rfl ?_
  refine s_end ?_
  refine v_ret ?_
  exact post_ret (rv (.cell (eg rfl rfl) rfl rfl (.inl rfl) rfl) rfl (.lf (.sr rfl le_all take_all .nil)) rfl .nil) (.ro .nil) rfl
set_option maxRecDepth 20000 in
theorem tr_toByteS (xs : List Int) (hx : fitL fitU xs) : Tr Try.prog 98 [.ro ⟨false, [.sl 1 (xs.map encY)]⟩] [⟨false, [.sl 1 (xs.map encY)]⟩] := by
  refine tr_go tabOk Try.func98 rfl rfl rfl rfl rfl (ov := [(0, .t ⟨false, [.d (.sl 1 (xs.map encY))]⟩)]) (hv := []) rfl rfl ?_
  refine v_seq ?_
  refine v_reg ?_
  refine sy _ (zas rfl (en 1)) rfl rfl ?_
  refine s_end ?_
  refine v_seq ?_
  refine v_reg ?_
  refine sy _ (zmv rfl (e rfl rfl)) rfl rfl ?_
  refine sy (.t ⟨false, [.d (dI ((xs.map encY).length : Int))]⟩) (zln tabOk rfl rfl (e rfl rfl) .d) rfl rfl ?_
  refine sr 0 (.t ⟨false, [.sr 0 1 0 ((xs.map encY).length) ((xs.map encY).length)]⟩) (.row 1 (List.replicate ((xs.map encY).length) [.lf (.int .u8 (0))]) true 1 0) (zmk tabOk rfl rfl rfl (e rfl rfl) (e rfl rfl) (Nat.le_refl _) (mkok hx.1 rfl) rfl rfl) rfl rfl ?_
  refine sy _ (zas rfl (e rfl rfl)) rfl rfl ?_
  refine s_end ?_
  refine v_seq ?_
  refine v_seq ?_
  refine v_reg ?_
  refine sy _ (zas rfl (ec rfl)) rfl rfl ?_
  refine s_end ?_
  refine v_block ?_
  have hB := hx.1
  refine v_lp (fun (i : Nat) => [(0, .t ⟨false, [.d (.sl 1 (xs.map encY))]⟩), (3, .t ⟨false, [.sr 0 1 0 ((xs.map encY).length) ((xs.map encY).length)]⟩), (4, .t ⟨false, [.d (dI (i : Int))]⟩)]) (fun i => [(0, .row 1 (fill encY xs [.lf (.int .u8 (0))] i) true 1 i)]) (fun i => i ≤ xs.length) (fun i => xs.length - i) 0 (Nat.zero_le _) ⟨rfl, rfl, rfl, trivial⟩ ⟨congrArg (fun l => VO.row 1 l true 1 0) fill0, trivial⟩ rfl (fun i hi => ?_)
  refine v_seq ?_
  refine v_seq ?_
  refine v_reg ?_
  refine sy _ (zmv rfl (e rfl rfl)) rfl rfl ?_
  refine sy _ (zmv rfl (e rfl rfl)) rfl rfl ?_
  refine sy (.t ⟨false, [.d (dI ((xs.map encY).length : Int))]⟩) (zln tabOk rfl rfl (e rfl rfl) .d) rfl rfl ?_
  refine sy (.t ⟨false, [.d (dB (decide (((i : Int)) < (((xs.map encY).length : Int)))))]⟩) (y_bin rfl (e rfl rfl) (e rfl rfl) (fun _ => b_lss) rfl) rfl rfl ?_
  refine s_end ?_
  refine v_cond (e rfl rfl) (fun hb1 => ?_) fun hb1 => ?_
  · have hlt : i < xs.length := by have := hb1; simp at this; omega
    obtain ⟨x, hxi⟩ := some_of_lt hlt
    refine v_skip ?_
    refine v_seq ?_
    refine v_block ?_
    refine v_reg ?_
    refine sy _ (zmv rfl (e rfl rfl)) rfl rfl ?_
    refine sy _ (zmv rfl (e rfl rfl)) rfl rfl ?_
    refine sy _ (zmv rfl (e rfl rfl)) rfl rfl ?_
    refine sy _ (zmv rfl (e rfl rfl)) rfl rfl ?_
    refine sy (.t ⟨false, [.fe 1 (xs.map encY) i 0]⟩) (zix tabOk rfl rfl rfl (e rfl rfl) (e rfl rfl) (ltm_of_some hxi)) rfl rfl ?_
    refine sy (.t ⟨false, [.d (.lf (.int .u8 (x)))]⟩) (zle tabOk rfl (e rfl rfl) (getm hxi) rfl rfl) rfl rfl ?_
    refine sy (.t ⟨false, [.ep 0 1 i 0]⟩) (zis tabOk rfl rfl rfl (e rfl rfl) rfl (e rfl rfl) (ltm_of_some hxi) (Nat.zero_add _)) rfl rfl ?_
    refine sw 0 (.row 1 (fill encY xs [.lf (.int .u8 (0))] (i + 1)) true 1 (i + 1)) (zsr tabOk rfl (e rfl rfl) rfl (fill_get hxi) (e rfl rfl) rfl (.lf .nil) rfl (.inl Nat.one_pos) (fill_set (f := encY) hxi)) rfl rfl ?_
    refine s_end ?_
    refine blk_norm ?_
    refine v_reg ?_
    refine sy _ (zmv rfl (e rfl rfl)) rfl rfl ?_
    refine sy (.t ⟨false, [.d (dI ((i : Int) + 1))]⟩) (y_bin rfl (e rfl rfl) (ec rfl) (fun _ => b_addn (by omega) (by omega)) rfl) rfl rfl ?_
    refine sy _ (zas rfl (e rfl rfl)) rfl rfl ?_
    refine s_end ?_
    exact lp_next (i + 1) hlt (by omega) ⟨rfl, rfl, rfl, trivial⟩ ⟨rfl, trivial⟩ rfl
  have hend : i = xs.length := by have := hb1; simp at this; omega
  refine v_exit ?_
  refine then_exit ?_
  refine loop_exit ?_
  refine blk_hit ?_
  refine v_seq ?_
  refine v_reg ?_
  refine sy _ (zmv rfl (e rfl rfl)) rfl rfl ?_
  refine sy _ (zas rfl (e rfl rfl)) rfl rfl ?_
  refine s_end ?_
  refine v_ret ?_
  exact post_ret (rv (.tmp (eg rfl rfl)) rfl (.sr rfl (fill_le hend) (fill_end hend) .nil) rfl .nil) (.ro .nil) rfl
set_option maxRecDepth 20000 in
theorem tr_toPacket (a : Packet) (ha : a.Fit) : Tr Try.prog 89 [.ro ⟨true, [dI (a.Addr), .sl 1 (a.B.map encY)]⟩] [⟨true, [dI (a.Addr), .sl 1 (a.B.map encY)]⟩] := by
  refine tr_go tabOk Try.func89 rfl rfl rfl rfl rfl (ov := [(0, .t ⟨true, [.d (dI (a.Addr)), .d (.sl 1 (a.B.map encY))]⟩)]) (hv := []) rfl rfl ?_
  refine v_seq ?_
  refine v_reg ?_
  refine sr 0 (.t ⟨false, [.vp 0 0]⟩) (.var [.d (dI (a.Addr)), .d (.sl 1 (a.B.map encY))]) (zbx rfl (e rfl rfl) rfl rfl rfl) rfl rfl ?_
  refine sr 1 (.t ⟨false, [.vp 1 0]⟩) (.var [.d (dI (0)), .nl 1]) (zal tabOk rfl rfl rfl rfl) rfl rfl ?_
  refine s_end ?_
  refine v_seq ?_
  refine v_reg ?_
  refine sr 2 (.t ⟨false, [.vp 2 0]⟩) (.var [.d (dI (0)), .nl 1]) (zal tabOk rfl rfl rfl rfl) rfl rfl ?_
  refine s_end ?_
  refine v_seq ?_
  refine v_reg ?_
  refine sy (.t ⟨false, [.vp 0 0]⟩) (zfa tabOk rfl rfl rfl (e rfl rfl) rfl rfl) rfl rfl ?_
  refine sy (.t ⟨false, [.d (dI (a.Addr))]⟩) (zlv tabOk rfl (e rfl rfl) rfl rfl rfl) rfl rfl ?_
  refine sy (.t ⟨false, [.vp 2 0]⟩) (zfa tabOk rfl rfl rfl (e rfl rfl) rfl rfl) rfl rfl ?_
  refine sw 2 (.var [.d (dI (a.Addr)), .nl 1]) (zst tabOk rfl (e rfl rfl) rfl (e rfl rfl) rfl rfl rfl) rfl rfl ?_
  refine s_end ?_
  refine v_seq ?_
  refine v_reg ?_
  refine sy (.t ⟨false, [.vp 0 1]⟩) (zfa tabOk rfl rfl rfl (e rfl rfl) rfl rfl) rfl rfl ?_
  refine sy (.t ⟨false, [.d (.sl 1 (a.B.map encY))]⟩) (zlv tabOk rfl (e rfl rfl) rfl rfl rfl) rfl rfl ?_
  refine sd (.t ⟨false, [.sr 3 1 0 ((a.B.map encY).length) ((a.B.map encY).length)]⟩) (zcall 3 (.t ⟨false, [.sr 3 1 0 ((a.B.map encY).length) ((a.B.map encY).length)]⟩) [(3, .row 1 (a.B.map encY) true 1 0)] rfl (tr_toByteS a.B ha.B) (ar (e rfl rfl) (.d .nil) .nil) rfl rfl rfl) rfl rfl rfl rfl ?_
  refine sy (.t ⟨false, [.vp 2 1]⟩) (zfa tabOk rfl rfl rfl (e rfl rfl) rfl rfl) rfl rfl ?_
  refine sw 2 (.var [.d (dI (a.Addr)), .sr 3 1 0 ((a.B.map encY).length) ((a.B.map encY).length)]) (zst tabOk rfl (e rfl rfl) rfl (e rfl rfl) rfl rfl rfl) rfl rfl ?_
  refine s_end ?_
  refine v_seq ?_
  refine v_reg ?_
  refine sy (.t ⟨true, [.d (dI (a.Addr)), .sr 3 1 0 ((a.B.map encY).length) ((a.B.map encY).length)]⟩) (zlv tabOk rfl (e rfl rfl) rfl rfl rfl) rfl rfl ?_
  refine sw 1 (.var [.d (dI (a.Addr)), .sr 3 1 0 ((a.B.map encY).length) ((a.B.map encY).length)]) (zst tabOk rfl (e rfl rfl) rfl (e rfl rfl) rfl rfl rfl) rfl rfl ?_
  refine s_end ?_
  refine v_ret ?_
  exact post_ret (rv (.cell (eg rfl rfl) rfl rfl (.inl rfl) rfl) rfl (.lf (.sr rfl le_all take_all .nil)) rfl .nil) (.ro .nil) rfl
set_option maxRecDepth 20000 in
theorem tr_toPacketS (xs : List Packet) (hx : fitL Packet.Fit xs) : Tr Try.prog 62 [.ro ⟨false, [.sl 2 (xs.map Packet.cells)]⟩] [⟨false, [.sl 2 (xs.map Packet.cells)]⟩] := by
  refine tr_go tabOk Try.func62 rfl rfl rfl rfl rfl (ov := [(0, .t ⟨false, [.d (.sl 2 (xs.map Packet.cells))]⟩)]) (hv := []) rfl rfl ?_
  refine v_seq ?_
  refine v_reg ?_
  refine sy _ (zas rfl (en 2)) rfl rfl ?_
  refine s_end ?_
  refine v_seq ?_
  refine v_reg ?_
  refine sy _ (zmv rfl (e rfl rfl)) rfl rfl ?_
  refine sy (.t ⟨false, [.d (dI ((xs.map Packet.cells).length : Int))]⟩) (zln tabOk rfl rfl (e rfl rfl) .d) rfl rfl ?_
  refine sr 0 (.t ⟨false, [.sr 0 1 0 ((xs.map Packet.cells).length) ((xs.map Packet.cells).length)]⟩) (.row 2 (List.replicate ((xs.map Packet.cells).length) [dI (0), .sl 1 ([])]) true 1 0) (zmk tabOk rfl rfl rfl (e rfl rfl) (e rfl rfl) (Nat.le_refl _) (mkok hx.1 rfl) rfl rfl) rfl rfl ?_
  refine sy _ (zas rfl (e rfl rfl)) rfl rfl ?_
  refine s_end ?_
  refine v_seq ?_
  refine v_seq ?_
  refine v_reg ?_
  refine sy _ (zas rfl (ec rfl)) rfl rfl ?_
  refine s_end ?_
  refine v_block ?_
  have hB := hx.1
  refine v_lp (fun (i : Nat) => [(0, .t ⟨false, [.d (.sl 2 (xs.map Packet.cells))]⟩), (3, .t ⟨false, [.sr 0 1 0 ((xs.map Packet.cells).length) ((xs.map Packet.cells).length)]⟩), (4, .t ⟨false, [.d (dI (i : Int))]⟩)]) (fun i => [(0, .row 2 (fill Packet.cells xs [dI (0), .sl 1 ([])] i) true 1 i)]) (fun i => i ≤ xs.length) (fun i => xs.length - i) 0 (Nat.zero_le _) ⟨rfl, rfl, rfl, trivial⟩ ⟨congrArg (fun l => VO.row 2 l true 1 0) fill0, trivial⟩ rfl (fun i hi => ?_)
  refine v_seq ?_
  refine v_seq ?_
  refine v_reg ?_
  refine sy _ (zmv rfl (e rfl rfl)) rfl rfl ?_
  refine sy _ (zmv rfl (e rfl rfl)) rfl rfl ?_
  refine sy (.t ⟨false, [.d (dI ((xs.map Packet.cells).length : Int))]⟩) (zln tabOk rfl rfl (e rfl rfl) .d) rfl rfl ?_
  refine sy (.t ⟨false, [.d (dB (decide (((i : Int)) < (((xs.map Packet.cells).length : Int)))))]⟩) (y_bin rfl (e rfl rfl) (e rfl rfl) (fun _ => b_lss) rfl) rfl rfl ?_
  refine s_end ?_
  refine v_cond (e rfl rfl) (fun hb1 => ?_) fun hb1 => ?_
  · have hlt : i < xs.length := by have := hb1; simp at this; omega
    obtain ⟨x, hxi⟩ := some_of_lt hlt
    refine v_skip ?_
    refine v_seq ?_
    refine v_block ?_
    refine v_reg ?_
    refine sy _ (zmv rfl (e rfl rfl)) rfl rfl ?_
    refine sy _ (zmv rfl (e rfl rfl)) rfl rfl ?_
    refine sy _ (zmv rfl (e rfl rfl)) rfl rfl ?_
    refine sy _ (zmv rfl (e rfl rfl)) rfl rfl ?_
    refine sy (.t ⟨false, [.fe 2 (xs.map Packet.cells) i 0]⟩) (zix tabOk rfl rfl rfl (e rfl rfl) (e rfl rfl) (ltm_of_some hxi)) rfl rfl ?_
    refine sy (.t ⟨true, [.d (dI (x.Addr)), .d (.sl 1 (x.B.map encY))]⟩) (zle tabOk rfl (e rfl rfl) (getm hxi) rfl rfl) rfl rfl ?_
    refine sd (.t ⟨true, [.d (dI (x.Addr)), .sr 1 1 0 ((x.B.map encY).length) ((x.B.map encY).length)]⟩) (zcall 1 (.t ⟨true, [.d (dI (x.Addr)), .sr 1 1 0 ((x.B.map encY).length) ((x.B.map encY).length)]⟩) [(1, .row 1 (x.B.map encY) true 1 0)] rfl (tr_toPacket x ((hx.2 _ (List.mem_of_getElem? hxi)))) (ar (e rfl rfl) (.d (.d .nil)) .nil) rfl rfl rfl) rfl rfl rfl rfl ?_
    refine sy (.t ⟨false, [.ep 0 1 i 0]⟩) (zis tabOk rfl rfl rfl (e rfl rfl) rfl (e rfl rfl) (ltm_of_some hxi) (Nat.zero_add _)) rfl rfl ?_
    refine swk 0 (.row 2 (fill Packet.cells xs [dI (0), .sl 1 ([])] (i + 1)) true 1 (i + 1)) (zsg tabOk rfl (e rfl rfl) rfl (fill_get hxi) (e rfl rfl) rfl (.lf (.sr rfl le_all take_all .nil)) rfl rfl (fill_set (f := Packet.cells) hxi)) rfl rfl ?_
    refine s_end ?_
    refine blk_norm ?_
    refine v_reg ?_
    refine sy _ (zmv rfl (e rfl rfl)) rfl rfl ?_
    refine sy (.t ⟨false, [.d (dI ((i : Int) + 1))]⟩) (y_bin rfl (e rfl rfl) (ec rfl) (fun _ => b_addn (by omega) (by omega)) rfl) rfl rfl ?_
    refine sy _ (zas rfl (e rfl rfl)) rfl rfl ?_
    refine s_end ?_
    exact lp_next (i + 1) hlt (by omega) ⟨rfl, rfl, rfl, trivial⟩ ⟨rfl, trivial⟩ rfl
  have hend : i = xs.length := by have := hb1; simp at this; omega
  refine v_exit ?_
  refine then_exit ?_
  refine loop_exit ?_
  refine blk_hit ?_
  refine v_seq ?_
  refine v_reg ?_
  refine sy _ (zmv rfl (e rfl rfl)) rfl rfl ?_
  refine sy _ (zas rfl (e rfl rfl)) rfl rfl ?_
  refine s_end ?_
  refine v_ret ?_
  exact post_ret (rv (.tmp (eg rfl rfl)) rfl (.sr rfl (fill_le hend) (fill_end hend) .nil) rfl .nil) (.ro .nil) rfl
set_option maxRecDepth 20000 in
theorem tr_toWorld (a : World) (ha : a.Fit) : Tr Try.prog 23 [.ro ⟨true, [dI (a.C.Quota), dI (a.C.Depth), dI (a.C.Chain), dI (a.C.Glue), dI (a.C.Tries), dI (a.C.Addrs), dI (a.C.Cap), .sl 1 (a.C.Roots.map encI), dI (a.Now), dI (a.K.Cap), .sl 6 (a.K.L.map Entry.cells), .sl 3 (a.Bad.map Lame.cells), .sl 7 (a.Jobs.map Job.cells), .sl 2 (a.Outs.map Packet.cells), .sl 8 (a.Reps.map Answer.cells), dI (a.Next)]⟩] [⟨true, [dI (a.C.Quota), dI (a.C.Depth), dI (a.C.Chain), dI (a.C.Glue), dI (a.C.Tries), dI (a.C.Addrs), dI (a.C.Cap), .sl 1 (a.C.Roots.map encI), dI (a.Now), dI (a.K.Cap), .sl 6 (a.K.L.map Entry.cells), .sl 3 (a.Bad.map Lame.cells), .sl 7 (a.Jobs.map Job.cells), .sl 2 (a.Outs.map Packet.cells), .sl 8 (a.Reps.map Answer.cells), dI (a.Next)]⟩] := by
  refine tr_go tabOk Try.func23 rfl rfl rfl rfl rfl (ov := [(0, .t ⟨true, [.d (dI (a.C.Quota)), .d (dI (a.C.Depth)), .d (dI (a.C.Chain)), .d (dI (a.C.Glue)), .d (dI (a.C.Tries)), .d (dI (a.C.Addrs)), .d (dI (a.C.Cap)), .d (.sl 1 (a.C.Roots.map encI)), .d (dI (a.Now)), .d (dI (a.K.Cap)), .d (.sl 6 (a.K.L.map Entry.cells)), .d (.sl 3 (a.Bad.map Lame.cells)), .d (.sl 7 (a.Jobs.map Job.cells)), .d (.sl 2 (a.Outs.map Packet.cells)), .d (.sl 8 (a.Reps.map Answer.cells)), .d (dI (a.Next))]⟩)]) (hv := []) rfl rfl ?_
  refine v_seq ?_
  refine v_reg ?_
  refine sr 0 (.t ⟨false, [.vp 0 0]⟩) (.var [.d (dI (a.C.Quota)), .d (dI (a.C.Depth)), .d (dI (a.C.Chain)), .d (dI (a.C.Glue)), .d (dI (a.C.Tries)), .d (dI (a.C.Addrs)), .d (dI (a.C.Cap)), .d (.sl 1 (a.C.Roots.map encI)), .d (dI (a.Now)), .d (dI (a.K.Cap)), .d (.sl 6 (a.K.L.map Entry.cells)), .d (.sl 3 (a.Bad.map Lame.cells)), .d (.sl 7 (a.Jobs.map Job.cells)), .d (.sl 2 (a.Outs.map Packet.cells)), .d (.sl 8 (a.Reps.map Answer.cells)), .d (dI (a.Next))]) (zbx rfl (e rfl rfl) rfl rfl rfl) rfl rfl ?_
  refine sr 1 (.t ⟨false, [.vp 1 0]⟩) (.var [.d (dI (0)), .d (dI (0)), .d (dI (0)), .d (dI (0)), .d (dI (0)), .d (dI (0)), .d (dI (0)), .nl 1, .d (dI (0)), .d (dI (0)), .nl 6, .nl 3, .nl 7, .nl 2, .nl 8, .d (dI (0))]) (zal tabOk rfl rfl rfl rfl) rfl rfl ?_
  refine s_end ?_
  refine v_seq ?_
  refine v_reg ?_
  refine sr 2 (.t ⟨false, [.vp 2 0]⟩) (.var [.d (dI (0)), .d (dI (0)), .d (dI (0)), .d (dI (0)), .d (dI (0)), .d (dI (0)), .d (dI (0)), .nl 1, .d (dI (0)), .d (dI (0)), .nl 6, .nl 3, .nl 7, .nl 2, .nl 8, .d (dI (0))]) (zal tabOk rfl rfl rfl rfl) rfl rfl ?_
  refine s_end ?_
  refine v_seq ?_
  refine v_reg ?_
  refine sy (.t ⟨false, [.vp 0 0]⟩) (zfa tabOk rfl rfl rfl (e rfl rfl) rfl rfl) rfl rfl ?_
  refine sy (.t ⟨true, [.d (dI (a.C.Quota)), .d (dI (a.C.Depth)), .d (dI (a.C.Chain)), .d (dI (a.C.Glue)), .d (dI (a.C.Tries)), .d (dI (a.C.Addrs)), .d (dI (a.C.Cap)), .d (.sl 1 (a.C.Roots.map encI))]⟩) (zlv tabOk rfl (e rfl rfl) rfl rfl rfl) rfl rfl ?_
  refine sd (.t ⟨true, [.d (dI (a.C.Quota)), .d (dI (a.C.Depth)), .d (dI (a.C.Chain)), .d (dI (a.C.Glue)), .d (dI (a.C.Tries)), .d (dI (a.C.Addrs)), .d (dI (a.C.Cap)), .sr 3 1 0 ((a.C.Roots.map encI).length) ((a.C.Roots.map encI).length)]⟩) (zcall 3 (.t ⟨true, [.d (dI (a.C.Quota)), .d (dI (a.C.Depth)), .d (dI (a.C.Chain)), .d (dI (a.C.Glue)), .d (dI (a.C.Tries)), .d (dI (a.C.Addrs)), .d (dI (a.C.Cap)), .sr 3 1 0 ((a.C.Roots.map encI).length) ((a.C.Roots.map encI).length)]⟩) [(3, .row 1 (a.C.Roots.map encI) true 1 0)] rfl (tr_toConf a.C ha.C) (ar (e rfl rfl) (.d (.d (.d (.d (.d (.d (.d (.d .nil)))))))) .nil) rfl rfl rfl) rfl rfl rfl rfl ?_
  refine sy (.t ⟨false, [.vp 2 0]⟩) (zfa tabOk rfl rfl rfl (e rfl rfl) rfl rfl) rfl rfl ?_
  refine sw 2 (.var [.d (dI (a.C.Quota)), .d (dI (a.C.Depth)), .d (dI (a.C.Chain)), .d (dI (a.C.Glue)), .d (dI (a.C.Tries)), .d (dI (a.C.Addrs)), .d (dI (a.C.Cap)), .sr 3 1 0 ((a.C.Roots.map encI).length) ((a.C.Roots.map encI).length), .d (dI (0)), .d (dI (0)), .nl 6, .nl 3, .nl 7, .nl 2, .nl 8, .d (dI (0))]) (zst tabOk rfl (e rfl rfl) rfl (e rfl rfl) rfl rfl rfl) rfl rfl ?_
  refine s_end ?_
  refine v_seq ?_
  refine v_reg ?_
  refine sy (.t ⟨false, [.vp 0 8]⟩) (zfa tabOk rfl rfl rfl (e rfl rfl) rfl rfl) rfl rfl ?_
  refine sy (.t ⟨false, [.d (dI (a.Now))]⟩) (zlv tabOk rfl (e rfl rfl) rfl rfl rfl) rfl rfl ?_
  refine sy (.t ⟨false, [.vp 2 8]⟩) (zfa tabOk rfl rfl rfl (e rfl rfl) rfl rfl) rfl rfl ?_
  refine sw 2 (.var [.d (dI (a.C.Quota)), .d (dI (a.C.Depth)), .d (dI (a.C.Chain)), .d (dI (a.C.Glue)), .d (dI (a.C.Tries)), .d (dI (a.C.Addrs)), .d (dI (a.C.Cap)), .sr 3 1 0 ((a.C.Roots.map encI).length) ((a.C.Roots.map encI).length), .d (dI (a.Now)), .d (dI (0)), .nl 6, .nl 3, .nl 7, .nl 2, .nl 8, .d (dI (0))]) (zst tabOk rfl (e rfl rfl) rfl (e rfl rfl) rfl rfl rfl) rfl rfl ?_
  refine s_end ?_
  refine v_seq ?_
  refine v_reg ?_
  refine sy (.t ⟨false, [.vp 0 9]⟩) (zfa tabOk rfl rfl rfl (e rfl rfl) rfl rfl) rfl rfl ?_
  refine sy (.t ⟨true, [.d (dI (a.K.Cap)), .d (.sl 6 (a.K.L.map Entry.cells))]⟩) (zlv tabOk rfl (e rfl rfl) rfl rfl rfl) rfl rfl ?_
  refine sd (.t ⟨true, [.d (dI (a.K.Cap)), .sr 4 1 0 ((a.K.L.map Entry.cells).length) ((a.K.L.map Entry.cells).length)]⟩) (zcall 4 (.t ⟨true, [.d (dI (a.K.Cap)), .sr 4 1 0 ((a.K.L.map Entry.cells).length) ((a.K.L.map Entry.cells).length)]⟩) [(4, .row 6 (a.K.L.map Entry.cells) true 1 0)] rfl (tr_toCache a.K ha.K) (ar (e rfl rfl) (.d (.d .nil)) .nil) rfl rfl rfl) rfl rfl rfl rfl ?_
  refine sy (.t ⟨false, [.vp 2 9]⟩) (zfa tabOk rfl rfl rfl (e rfl rfl) rfl rfl) rfl rfl ?_
  refine sw 2 (.var [.d (dI (a.C.Quota)), .d (dI (a.C.Depth)), .d (dI (a.C.Chain)), .d (dI (a.C.Glue)), .d (dI (a.C.Tries)), .d (dI (a.C.Addrs)), .d (dI (a.C.Cap)), .sr 3 1 0 ((a.C.Roots.map encI).length) ((a.C.Roots.map encI).length), .d (dI (a.Now)), .d (dI (a.K.Cap)), .sr 4 1 0 ((a.K.L.map Entry.cells).length) ((a.K.L.map Entry.cells).length), .nl 3, .nl 7, .nl 2, .nl 8, .d (dI (0))]) (zst tabOk rfl (e rfl rfl) rfl (e rfl rfl) rfl rfl rfl) rfl rfl ?_
  refine s_end ?_
  refine v_seq ?_
  refine v_reg ?_
  refine sy (.t ⟨false, [.vp 0 11]⟩) (zfa tabOk rfl rfl rfl (e rfl rfl) rfl rfl) rfl rfl ?_
  refine sy (.t ⟨false, [.d (.sl 3 (a.Bad.map Lame.cells))]⟩) (zlv tabOk rfl (e rfl rfl) rfl rfl rfl) rfl rfl ?_
  refine sd (.t ⟨false, [.sr 5 1 0 ((a.Bad.map Lame.cells).length) ((a.Bad.map Lame.cells).length)]⟩) (zcall 5 (.t ⟨false, [.sr 5 1 0 ((a.Bad.map Lame.cells).length) ((a.Bad.map Lame.cells).length)]⟩) [(5, .row 3 (a.Bad.map Lame.cells) true 1 0)] rfl (tr_toLameS a.Bad ha.Bad) (ar (e rfl rfl) (.d .nil) .nil) rfl rfl rfl) rfl rfl rfl rfl ?_
  refine sy (.t ⟨false, [.vp 2 11]⟩) (zfa tabOk rfl rfl rfl (e rfl rfl) rfl rfl) rfl rfl ?_
  refine sw 2 (.var [.d (dI (a.C.Quota)), .d (dI (a.C.Depth)), .d (dI (a.C.Chain)), .d (dI (a.C.Glue)), .d (dI (a.C.Tries)), .d (dI (a.C.Addrs)), .d (dI (a.C.Cap)), .sr 3 1 0 ((a.C.Roots.map encI).length) ((a.C.Roots.map encI).length), .d (dI (a.Now)), .d (dI (a.K.Cap)), .sr 4 1 0 ((a.K.L.map Entry.cells).length) ((a.K.L.map Entry.cells).length), .sr 5 1 0 ((a.Bad.map Lame.cells).length) ((a.Bad.map Lame.cells).length), .nl 7, .nl 2, .nl 8, .d (dI (0))]) (zst tabOk rfl (e rfl rfl) rfl (e rfl rfl) rfl rfl rfl) rfl rfl ?_
  refine s_end ?_
  refine v_seq ?_
  refine v_reg ?_
  refine sy (.t ⟨false, [.vp 0 12]⟩) (zfa tabOk rfl rfl rfl (e rfl rfl) rfl rfl) rfl rfl ?_
  refine sy (.t ⟨false, [.d (.sl 7 (a.Jobs.map Job.cells))]⟩) (zlv tabOk rfl (e rfl rfl) rfl rfl rfl) rfl rfl ?_
  refine sd (.t ⟨false, [.sr 6 1 0 ((a.Jobs.map Job.cells).length) ((a.Jobs.map Job.cells).length)]⟩) (zcall 6 (.t ⟨false, [.sr 6 1 0 ((a.Jobs.map Job.cells).length) ((a.Jobs.map Job.cells).length)]⟩) [(6, .row 7 (a.Jobs.map Job.cells) true 1 0)] rfl (tr_toJobS a.Jobs ha.Jobs) (ar (e rfl rfl) (.d .nil) .nil) rfl rfl rfl) rfl rfl rfl rfl ?_
  refine sy (.t ⟨false, [.vp 2 12]⟩) (zfa tabOk rfl rfl rfl (e rfl rfl) rfl rfl) rfl rfl ?_
  refine sw 2 (.var [.d (dI (a.C.Quota)), .d (dI (a.C.Depth)), .d (dI (a.C.Chain)), .d (dI (a.C.Glue)), .d (dI (a.C.Tries)), .d (dI (a.C.Addrs)), .d (dI (a.C.Cap)), .sr 3 1 0 ((a.C.Roots.map encI).length) ((a.C.Roots.map encI).length), .d (dI (a.Now)), .d (dI (a.K.Cap)), .sr 4 1 0 ((a.K.L.map Entry.cells).length) ((a.K.L.map Entry.cells).length), .sr 5 1 0 ((a.Bad.map Lame.cells).length) ((a.Bad.map Lame.cells).length), .sr 6 1 0 ((a.Jobs.map Job.cells).length) ((a.Jobs.map Job.cells).length), .nl 2, .nl 8, .d (dI (0))]) (zst tabOk rfl (e rfl rfl) rfl (e rfl rfl) rfl rfl rfl) rfl rfl ?_
  refine s_end ?_
  refine v_seq ?_
  refine v_reg ?_
  refine sy (.t ⟨false, [.vp 0 13]⟩) (zfa tabOk rfl rfl rfl (e rfl rfl) rfl rfl) rfl rfl ?_
  refine sy (.t ⟨false, [.d (.sl 2 (a.Outs.map Packet.cells))]⟩) (zlv tabOk rfl (e rfl rfl) rfl rfl rfl) rfl rfl ?_
  refine sd (.t ⟨false, [.sr 7 1 0 ((a.Outs.map Packet.cells).length) ((a.Outs.map Packet.cells).length)]⟩) (zcall 7 (.t ⟨false, [.sr 7 1 0 ((a.Outs.map Packet.cells).length) ((a.Outs.map Packet.cells).length)]⟩) [(7, .row 2 (a.Outs.map Packet.cells) true 1 0)] rfl (tr_toPacketS a.Outs ha.Outs) (ar (e rfl rfl) (.d .nil) .nil) rfl rfl rfl) rfl rfl rfl rfl ?_
  refine sy (.t ⟨false, [.vp 2 13]⟩) (zfa tabOk rfl rfl rfl (e rfl rfl) rfl rfl) rfl rfl ?_
  refine sw 2 (.var [.d (dI (a.C.Quota)), .d (dI (a.C.Depth)), .d (dI (a.C.Chain)), .d (dI (a.C.Glue)), .d (dI (a.C.Tries)), .d (dI (a.C.Addrs)), .d (dI (a.C.Cap)), .sr 3 1 0 ((a.C.Roots.map encI).length) ((a.C.Roots.map encI).length), .d (dI (a.Now)), .d (dI (a.K.Cap)), .sr 4 1 0 ((a.K.L.map Entry.cells).length) ((a.K.L.map Entry.cells).length), .sr 5 1 0 ((a.Bad.map Lame.cells).length) ((a.Bad.map Lame.cells).length), .sr 6 1 0 ((a.Jobs.map Job.cells).length) ((a.Jobs.map Job.cells).length), .sr 7 1 0 ((a.Outs.map Packet.cells).length) ((a.Outs.map Packet.cells).length), .nl 8, .d (dI (0))]) (zst tabOk rfl (e rfl rfl) rfl (e rfl rfl) rfl rfl rfl) rfl rfl ?_
  refine s_end ?_
  refine v_seq ?_
  refine v_reg ?_
  refine sy (.t ⟨false, [.vp 0 14]⟩) (zfa tabOk rfl rfl rfl (e rfl rfl) rfl rfl) rfl rfl ?_
  refine sy (.t ⟨false, [.d (.sl 8 (a.Reps.map Answer.cells))]⟩) (zlv tabOk rfl (e rfl rfl) rfl rfl rfl) rfl rfl ?_
  refine sd (.t ⟨false, [.sr 8 1 0 ((a.Reps.map Answer.cells).length) ((a.Reps.map Answer.cells).length)]⟩) (zcall 8 (.t ⟨false, [.sr 8 1 0 ((a.Reps.map Answer.cells).length) ((a.Reps.map Answer.cells).length)]⟩) [(8, .row 8 (a.Reps.map Answer.cells) true 1 0)] rfl (tr_toAnswerS a.Reps ha.Reps) (ar (e rfl rfl) (.d .nil) .nil) rfl rfl rfl) rfl rfl rfl rfl ?_
  refine sy (.t ⟨false, [.vp 2 14]⟩) (zfa tabOk rfl rfl rfl (e rfl rfl) rfl rfl) rfl rfl ?_
  refine sw 2 (.var [.d (dI (a.C.Quota)), .d (dI (a.C.Depth)), .d (dI (a.C.Chain)), .d (dI (a.C.Glue)), .d (dI (a.C.Tries)), .d (dI (a.C.Addrs)), .d (dI (a.C.Cap)), .sr 3 1 0 ((a.C.Roots.map encI).length) ((a.C.Roots.map encI).length), .d (dI (a.Now)), .d (dI (a.K.Cap)), .sr 4 1 0 ((a.K.L.map Entry.cells).length) ((a.K.L.map Entry.cells).length), .sr 5 1 0 ((a.Bad.map Lame.cells).length) ((a.Bad.map Lame.cells).length), .sr 6 1 0 ((a.Jobs.map Job.cells).length) ((a.Jobs.map Job.cells).length), .sr 7 1 0 ((a.Outs.map Packet.cells).length) ((a.Outs.map Packet.cells).length), .sr 8 1 0 ((a.Reps.map Answer.cells).length) ((a.Reps.map Answer.cells).length), .d (dI (0))]) (zst tabOk rfl (e rfl rfl) rfl (e rfl rfl) rfl rfl rfl) rfl rfl ?_
  refine s_end ?_
  refine v_seq ?_
  refine v_reg ?_
  refine sy (.t ⟨false, [.vp 0 15]⟩) (zfa tabOk rfl rfl rfl (e rfl rfl) rfl rfl) rfl rfl ?_
  refine sy (.t ⟨false, [.d (dI (a.Next))]⟩) (zlv tabOk rfl (e rfl rfl) rfl rfl rfl) rfl rfl ?_
  refine sy (.t ⟨false, [.vp 2 15]⟩) (zfa tabOk rfl rfl rfl (e rfl rfl) rfl rfl) rfl rfl ?_
  refine sw 2 (.var [.d (dI (a.C.Quota)), .d (dI (a.C.Depth)), .d (dI (a.C.Chain)), .d (dI (a.C.Glue)), .d (dI (a.C.Tries)), .d (dI (a.C.Addrs)), .d (dI (a.C.Cap)), .sr 3 1 0 ((a.C.Roots.map encI).length) ((a.C.Roots.map encI).length), .d (dI (a.Now)), .d (dI (a.K.Cap)), .sr 4 1 0 ((a.K.L.map Entry.cells).length) ((a.K.L.map Entry.cells).length), .sr 5 1 0 ((a.Bad.map Lame.cells).length) ((a.Bad.map Lame.cells).length), .sr 6 1 0 ((a.Jobs.map Job.cells).length) ((a.Jobs.map Job.cells).length), .sr 7 1 0 ((a.Outs.map Packet.cells).length) ((a.Outs.map Packet.cells).length), .sr 8 1 0 ((a.Reps.map Answer.cells).length) ((a.Reps.map Answer.cells).length), .d (dI (a.Next))]) (zst tabOk rfl (e rfl rfl) rfl (e rfl rfl) rfl rfl rfl) rfl rfl ?_
  refine s_end ?_
  refine v_seq ?_
  refine v_reg ?_
  refine sy (.t ⟨true, [.d (dI (a.C.Quota)), .d (dI (a.C.Depth)), .d (dI (a.C.Chain)), .d (dI (a.C.Glue)), .d (dI (a.C.Tries)), .d (dI (a.C.Addrs)), .d (dI (a.C.Cap)), .sr 3 1 0 ((a.C.Roots.map encI).length) ((a.C.Roots.map encI).length), .d (dI (a.Now)), .d (dI (a.K.Cap)), .sr 4 1 0 ((a.K.L.map Entry.cells).length) ((a.K.L.map Entry.cells).length), .sr 5 1 0 ((a.Bad.map Lame.cells).length) ((a.Bad.map Lame.cells).length), .sr 6 1 0 ((a.Jobs.map Job.cells).length) ((a.Jobs.map Job.cells).length), .sr 7 1 0 ((a.Outs.map Packet.cells).length) ((a.Outs.map Packet.cells).length), .sr 8 1 0 ((a.Reps.map Answer.cells).length) ((a.Reps.map Answer.cells).length), .d (dI (a.Next))]⟩) (zlv tabOk rfl (e rfl rfl) rfl rfl rfl) rfl rfl ?_
  refine sw 1 (.var [.d (dI (a.C.Quota)), .d (dI (a.C.Depth)), .d (dI (a.C.Chain)), .d (dI (a.C.Glue)), .d (dI (a.C.Tries)), .d (dI (a.C.Addrs)), .d (dI (a.C.Cap)), .sr 3 1 0 ((a.C.Roots.map encI).length) ((a.C.Roots.map encI).length), .d (dI (a.Now)), .d (dI (a.K.Cap)), .sr 4 1 0 ((a.K.L.map Entry.cells).length) ((a.K.L.map Entry.cells).length), .sr 5 1 0 ((a.Bad.map Lame.cells).length) ((a.Bad.map Lame.cells).length), .sr 6 1 0 ((a.Jobs.map Job.cells).length) ((a.Jobs.map Job.cells).length), .sr 7 1 0 ((a.Outs.map Packet.cells).length) ((a.Outs.map Packet.cells).length), .sr 8 1 0 ((a.Reps.map Answer.cells).length) ((a.Reps.map Answer.cells).length), .d (dI (a.Next))]) (zst tabOk rfl (e rfl rfl) rfl (e rfl rfl) rfl rfl rfl) rfl rfl ?_
  refine s_end ?_
  refine v_ret ?_
  exact post_ret (rv (.cell (eg rfl rfl) rfl rfl (.inl rfl) rfl) rfl (.lf (.lf (.lf (.lf (.lf (.lf (.lf (.sr rfl le_all take_all (.lf (.lf (.sr rfl le_all take_all (.sr rfl le_all take_all (.sr rfl le_all take_all (.sr rfl le_all take_all (.sr rfl le_all take_all (.lf .nil)))))))))))))))) rfl .nil) (.ro .nil) rfl
end Go.Proofs.Ytkcpbahcnlhmjaa.V
