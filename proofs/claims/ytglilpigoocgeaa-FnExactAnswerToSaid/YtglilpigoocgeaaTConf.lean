/-
  The families of laws of Conf.
-/
import Derived.Test.YtglilpigoocgeaaTIntS
import Derived.Test.YtglilpigoocgeaaN
import Derived.Test.YtglilpigoocgeaaC
import Derived.Test.YtglilpigoocgeaaM
namespace Go.Proofs.Ytglilpigoocgeaa.V
open Go
set_option linter.unusedVariables false
set_option linter.unusedSimpArgs false
set_option maxRecDepth 20000 in
theorem tr_szConf (a : Conf) (hb : a.Bnd) (left : Int) (h0 : 0 ≤ left) (hl : left ≤ 1048576) : TrX Try.prog 6 [.ro ⟨true, [dI (a.Quota), dI (a.Depth), dI (a.Chain), dI (a.Glue), dI (a.Tries), dI (a.Addrs), dI (a.Cap), .sl 1 (a.Roots.map encI)]⟩, .ro (one (dI left))] (resI fun r => 0 ≤ r → r + (a.wt : Int) ≤ left ∧ a.Fit) := by
  refine trX_go tabOk Try.func6 rfl rfl rfl rfl rfl (ov := [(0, .t ⟨true, [.d (dI (a.Quota)), .d (dI (a.Depth)), .d (dI (a.Chain)), .d (dI (a.Glue)), .d (dI (a.Tries)), .d (dI (a.Addrs)), .d (dI (a.Cap)), .d (.sl 1 (a.Roots.map encI))]⟩), (1, .t ⟨false, [.d (dI (left))]⟩)]) (hv := []) rfl rfl ?_
  refine v_seq ?_
  refine v_reg ?_
  refine sr 0 (.t ⟨false, [.vp 0 0]⟩) (.var [.d (dI (a.Quota)), .d (dI (a.Depth)), .d (dI (a.Chain)), .d (dI (a.Glue)), .d (dI (a.Tries)), .d (dI (a.Addrs)), .d (dI (a.Cap)), .d (.sl 1 (a.Roots.map encI))]) (zbx rfl (e rfl rfl) rfl rfl rfl) rfl rfl ?_
  refine sy _ (zas rfl (ec rfl)) rfl rfl ?_
  refine s_end ?_
  refine v_seq ?_
  refine v_reg ?_
  refine sy (.t ⟨false, [.vp 0 7]⟩) (zfa tabOk rfl rfl rfl (e rfl rfl) rfl rfl) rfl rfl ?_
  refine sy (.t ⟨false, [.d (.sl 1 (a.Roots.map encI))]⟩) (zlv tabOk rfl (e rfl rfl) rfl rfl rfl) rfl rfl ?_
  refine sy _ (zmv rfl (e rfl rfl)) rfl rfl ?_
  refine sxI (zcallX rfl (tr_szIntS a.Roots hb.Roots left (by omega) (by omega)) (ar (e rfl rfl) (.d .nil) (ar (e rfl rfl) (.d .nil) .nil))) rfl rfl (fun r1 hr1 => ?_)
  refine sy _ (zas rfl (e rfl rfl)) rfl rfl ?_
  refine s_end ?_
  refine v_seq ?_
  refine v_seq ?_
  refine v_reg ?_
  refine sy _ (zmv rfl (e rfl rfl)) rfl rfl ?_
  refine sy (.t ⟨false, [.d (dB (decide ((r1) < (0))))]⟩) (y_bin rfl (e rfl rfl) (ec rfl) (fun _ => b_lss) rfl) rfl rfl ?_
  refine s_end ?_
  refine v_cond (e rfl rfl) (fun hb2 => ?_) fun hb2 => ?_
  · refine v_seq ?_
    refine v_reg ?_
    refine sy _ (zas rfl (ec rfl)) rfl rfl ?_
    refine s_end ?_
    refine v_ret ?_
    exact post_retX [one (dI (-1))] ⟨-1, fun h => by omega, rfl⟩ (rv (.tmp (eg rfl rfl)) rfl (.lf .nil) rfl .nil) (.ro (.ro .nil)) rfl
  have p3 : 0 ≤ r1 := by have := hb2; simp at this; omega
  have p3q := hr1 p3
  have := p3q.1
  refine v_skip ?_
  refine v_seq ?_
  refine v_reg ?_
  refine sy _ (zmv rfl (e rfl rfl)) rfl rfl ?_
  refine sy _ (zas rfl (e rfl rfl)) rfl rfl ?_
  refine s_end ?_
  refine v_ret ?_
  have := p3q.1
  exact post_retX [one (dI (r1))] ⟨r1, fun h => ⟨by simp only [Conf.wt]; omega, ⟨p3q.2⟩⟩, rfl⟩ (rv (.tmp (eg rfl rfl)) rfl (.lf .nil) rfl .nil) (.ro (.ro .nil)) rfl
set_option maxRecDepth 20000 in
theorem tr_toConf (a : Conf) (ha : a.Fit) : Tr Try.prog 8 [.ro ⟨true, [dI (a.Quota), dI (a.Depth), dI (a.Chain), dI (a.Glue), dI (a.Tries), dI (a.Addrs), dI (a.Cap), .sl 1 (a.Roots.map encI)]⟩] [⟨true, [dI (a.Quota), dI (a.Depth), dI (a.Chain), dI (a.Glue), dI (a.Tries), dI (a.Addrs), dI (a.Cap), .sl 1 (a.Roots.map encI)]⟩] := by
  refine tr_go tabOk Try.func8 rfl rfl rfl rfl rfl (ov := [(0, .t ⟨true, [.d (dI (a.Quota)), .d (dI (a.Depth)), .d (dI (a.Chain)), .d (dI (a.Glue)), .d (dI (a.Tries)), .d (dI (a.Addrs)), .d (dI (a.Cap)), .d (.sl 1 (a.Roots.map encI))]⟩)]) (hv := []) rfl rfl ?_
  refine v_seq ?_
  refine v_reg ?_
  refine sr 0 (.t ⟨false, [.vp 0 0]⟩) (.var [.d (dI (a.Quota)), .d (dI (a.Depth)), .d (dI (a.Chain)), .d (dI (a.Glue)), .d (dI (a.Tries)), .d (dI (a.Addrs)), .d (dI (a.Cap)), .d (.sl 1 (a.Roots.map encI))]) (zbx rfl (e rfl rfl) rfl rfl rfl) rfl rfl ?_
  refine sr 1 (.t ⟨false, [.vp 1 0]⟩) (.var [.d (dI (0)), .d (dI (0)), .d (dI (0)), .d (dI (0)), .d (dI (0)), .d (dI (0)), .d (dI (0)), .nl 1]) (zal tabOk rfl rfl rfl rfl) rfl rfl ?_
  refine s_end ?_
  refine v_seq ?_
  refine v_reg ?_
  refine sr 2 (.t ⟨false, [.vp 2 0]⟩) (.var [.d (dI (0)), .d (dI (0)), .d (dI (0)), .d (dI (0)), .d (dI (0)), .d (dI (0)), .d (dI (0)), .nl 1]) (zal tabOk rfl rfl rfl rfl) rfl rfl ?_
  refine s_end ?_
  refine v_seq ?_
  refine v_reg ?_
  refine sy (.t ⟨false, [.vp 0 0]⟩) (zfa tabOk rfl rfl rfl (e rfl rfl) rfl rfl) rfl rfl ?_
  refine sy (.t ⟨false, [.d (dI (a.Quota))]⟩) (zlv tabOk rfl (e rfl rfl) rfl rfl rfl) rfl rfl ?_
  refine sy (.t ⟨false, [.vp 2 0]⟩) (zfa tabOk rfl rfl rfl (e rfl rfl) rfl rfl) rfl rfl ?_
  refine sw 2 (.var [.d (dI (a.Quota)), .d (dI (0)), .d (dI (0)), .d (dI (0)), .d (dI (0)), .d (dI (0)), .d (dI (0)), .nl 1]) (zst tabOk rfl (e rfl rfl) rfl (e rfl rfl) rfl rfl rfl) rfl rfl ?_
  refine s_end ?_
  refine v_seq ?_
  refine v_reg ?_
  refine sy (.t ⟨false, [.vp 0 1]⟩) (zfa tabOk rfl rfl rfl (e rfl rfl) rfl rfl) rfl rfl ?_
  refine sy (.t ⟨false, [.d (dI (a.Depth))]⟩) (zlv tabOk rfl (e rfl rfl) rfl rfl rfl) rfl rfl ?_
  refine sy (.t ⟨false, [.vp 2 1]⟩) (zfa tabOk rfl rfl rfl (e rfl rfl) rfl rfl) rfl rfl ?_
  refine sw 2 (.var [.d (dI (a.Quota)), .d (dI (a.Depth)), .d (dI (0)), .d (dI (0)), .d (dI (0)), .d (dI (0)), .d (dI (0)), .nl 1]) (zst tabOk rfl (e rfl rfl) rfl (e rfl rfl) rfl rfl rfl) rfl rfl ?_
  refine s_end ?_
  refine v_seq ?_
  refine v_reg ?_
  refine sy (.t ⟨false, [.vp 0 2]⟩) (zfa tabOk rfl rfl rfl (e rfl rfl) rfl rfl) rfl rfl ?_
  refine sy (.t ⟨false, [.d (dI (a.Chain))]⟩) (zlv tabOk rfl (e rfl rfl) rfl rfl rfl) rfl rfl ?_
  refine sy (.t ⟨false, [.vp 2 2]⟩) (zfa tabOk rfl rfl rfl (e rfl rfl) rfl rfl) rfl rfl ?_
  refine sw 2 (.var [.d (dI (a.Quota)), .d (dI (a.Depth)), .d (dI (a.Chain)), .d (dI (0)), .d (dI (0)), .d (dI (0)), .d (dI (0)), .nl 1]) (zst tabOk rfl (e rfl rfl) rfl (e rfl rfl) rfl rfl rfl) rfl rfl ?_
  refine s_end ?_
  refine v_seq ?_
  refine v_reg ?_
  refine sy (.t ⟨false, [.vp 0 3]⟩) (zfa tabOk rfl rfl rfl (e rfl rfl) rfl rfl) rfl rfl ?_
  refine sy (.t ⟨false, [.d (dI (a.Glue))]⟩) (zlv tabOk rfl (e rfl rfl) rfl rfl rfl) rfl rfl ?_
  refine sy (.t ⟨false, [.vp 2 3]⟩) (zfa tabOk rfl rfl rfl (e rfl rfl) rfl rfl) rfl rfl ?_
  refine sw 2 (.var [.d (dI (a.Quota)), .d (dI (a.Depth)), .d (dI (a.Chain)), .d (dI (a.Glue)), .d (dI (0)), .d (dI (0)), .d (dI (0)), .nl 1]) (zst tabOk rfl (e rfl rfl) rfl (e rfl rfl) rfl rfl rfl) rfl rfl ?_
  refine s_end ?_
  refine v_seq ?_
  refine v_reg ?_
  refine sy (.t ⟨false, [.vp 0 4]⟩) (zfa tabOk rfl rfl rfl (e rfl rfl) rfl rfl) rfl rfl ?_
  refine sy (.t ⟨false, [.d (dI (a.Tries))]⟩) (zlv tabOk rfl (e rfl rfl) rfl rfl rfl) rfl rfl ?_
  refine sy (.t ⟨false, [.vp 2 4]⟩) (zfa tabOk rfl rfl rfl (e rfl rfl) rfl rfl) rfl rfl ?_
  refine sw 2 (.var [.d (dI (a.Quota)), .d (dI (a.Depth)), .d (dI (a.Chain)), .d (dI (a.Glue)), .d (dI (a.Tries)), .d (dI (0)), .d (dI (0)), .nl 1]) (zst tabOk rfl (e rfl rfl) rfl (e rfl rfl) rfl rfl rfl) rfl rfl ?_
  refine s_end ?_
  refine v_seq ?_
  refine v_reg ?_
  refine sy (.t ⟨false, [.vp 0 5]⟩) (zfa tabOk rfl rfl rfl (e rfl rfl) rfl rfl) rfl rfl ?_
  refine sy (.t ⟨false, [.d (dI (a.Addrs))]⟩) (zlv tabOk rfl (e rfl rfl) rfl rfl rfl) rfl rfl ?_
  refine sy (.t ⟨false, [.vp 2 5]⟩) (zfa tabOk rfl rfl rfl (e rfl rfl) rfl rfl) rfl rfl ?_
  refine sw 2 (.var [.d (dI (a.Quota)), .d (dI (a.Depth)), .d (dI (a.Chain)), .d (dI (a.Glue)), .d (dI (a.Tries)), .d (dI (a.Addrs)), .d (dI (0)), .nl 1]) (zst tabOk rfl (e rfl rfl) rfl (e rfl rfl) rfl rfl rfl) rfl rfl ?_
  refine s_end ?_
  refine v_seq ?_
  refine v_reg ?_
  refine sy (.t ⟨false, [.vp 0 6]⟩) (zfa tabOk rfl rfl rfl (e rfl rfl) rfl rfl) rfl rfl ?_
  refine sy (.t ⟨false, [.d (dI (a.Cap))]⟩) (zlv tabOk rfl (e rfl rfl) rfl rfl rfl) rfl rfl ?_
  refine sy (.t ⟨false, [.vp 2 6]⟩) (zfa tabOk rfl rfl rfl (e rfl rfl) rfl rfl) rfl rfl ?_
  refine sw 2 (.var [.d (dI (a.Quota)), .d (dI (a.Depth)), .d (dI (a.Chain)), .d (dI (a.Glue)), .d (dI (a.Tries)), .d (dI (a.Addrs)), .d (dI (a.Cap)), .nl 1]) (zst tabOk rfl (e rfl rfl) rfl (e rfl rfl) rfl rfl rfl) rfl rfl ?_
  refine s_end ?_
  refine v_seq ?_
  refine v_reg ?_
  refine sy (.t ⟨false, [.vp 0 7]⟩) (zfa tabOk rfl rfl rfl (e rfl rfl) rfl rfl) rfl rfl ?_
  refine sy (.t ⟨false, [.d (.sl 1 (a.Roots.map encI))]⟩) (zlv tabOk rfl (e rfl rfl) rfl rfl rfl) rfl rfl ?_
  refine sd (.t ⟨false, [.sr 3 1 0 ((a.Roots.map encI).length) ((a.Roots.map encI).length)]⟩) (zcall 3 (.t ⟨false, [.sr 3 1 0 ((a.Roots.map encI).length) ((a.Roots.map encI).length)]⟩) [(3, .row 1 (a.Roots.map encI) true 1 0)] rfl (tr_toIntS a.Roots ha.Roots) (ar (e rfl rfl) (.d .nil) .nil) rfl rfl rfl) rfl rfl rfl rfl ?_
  refine sy (.t ⟨false, [.vp 2 7]⟩) (zfa tabOk rfl rfl rfl (e rfl rfl) rfl rfl) rfl rfl ?_
  refine sw 2 (.var [.d (dI (a.Quota)), .d (dI (a.Depth)), .d (dI (a.Chain)), .d (dI (a.Glue)), .d (dI (a.Tries)), .d (dI (a.Addrs)), .d (dI (a.Cap)), .sr 3 1 0 ((a.Roots.map encI).length) ((a.Roots.map encI).length)]) (zst tabOk rfl (e rfl rfl) rfl (e rfl rfl) rfl rfl rfl) rfl rfl ?_
  refine s_end ?_
  refine v_seq ?_
  refine v_reg ?_
  refine sy (.t ⟨true, [.d (dI (a.Quota)), .d (dI (a.Depth)), .d (dI (a.Chain)), .d (dI (a.Glue)), .d (dI (a.Tries)), .d (dI (a.Addrs)), .d (dI (a.Cap)), .sr 3 1 0 ((a.Roots.map encI).length) ((a.Roots.map encI).length)]⟩) (zlv tabOk rfl (e rfl rfl) rfl rfl rfl) rfl rfl ?_
  refine sw 1 (.var [.d (dI (a.Quota)), .d (dI (a.Depth)), .d (dI (a.Chain)), .d (dI (a.Glue)), .d (dI (a.Tries)), .d (dI (a.Addrs)), .d (dI (a.Cap)), .sr 3 1 0 ((a.Roots.map encI).length) ((a.Roots.map encI).length)]) (zst tabOk rfl (e rfl rfl) rfl (e rfl rfl) rfl rfl rfl) rfl rfl ?_
  refine s_end ?_
  refine v_ret ?_
  exact post_ret (rv (.cell (eg rfl rfl) rfl rfl (.inl rfl) rfl) rfl (.lf (.lf (.lf (.lf (.lf (.lf (.lf (.sr rfl le_all take_all .nil)))))))) rfl .nil) (.ro .nil) rfl
set_option maxRecDepth 20000 in
theorem tr_eqConf (a b : Conf) (ha : a.Fit) (hb0 : b.Fit) : Tr Try.prog 11 [.ro ⟨true, [dI (a.Quota), dI (a.Depth), dI (a.Chain), dI (a.Glue), dI (a.Tries), dI (a.Addrs), dI (a.Cap), .sl 1 (a.Roots.map encI)]⟩, .ro ⟨true, [dI (b.Quota), dI (b.Depth), dI (b.Chain), dI (b.Glue), dI (b.Tries), dI (b.Addrs), dI (b.Cap), .sl 1 (b.Roots.map encI)]⟩] [one (dB (decide (a = b)))] := by
  refine tr_go tabOk Try.func11 rfl rfl rfl rfl rfl (ov := [(0, .t ⟨true, [.d (dI (a.Quota)), .d (dI (a.Depth)), .d (dI (a.Chain)), .d (dI (a.Glue)), .d (dI (a.Tries)), .d (dI (a.Addrs)), .d (dI (a.Cap)), .d (.sl 1 (a.Roots.map encI))]⟩), (1, .t ⟨true, [.d (dI (b.Quota)), .d (dI (b.Depth)), .d (dI (b.Chain)), .d (dI (b.Glue)), .d (dI (b.Tries)), .d (dI (b.Addrs)), .d (dI (b.Cap)), .d (.sl 1 (b.Roots.map encI))]⟩)]) (hv := []) rfl rfl ?_
  refine v_seq ?_
  refine v_reg ?_
  refine sr 0 (.t ⟨false, [.vp 0 0]⟩) (.var [.d (dI (a.Quota)), .d (dI (a.Depth)), .d (dI (a.Chain)), .d (dI (a.Glue)), .d (dI (a.Tries)), .d (dI (a.Addrs)), .d (dI (a.Cap)), .d (.sl 1 (a.Roots.map encI))]) (zbx rfl (e rfl rfl) rfl rfl rfl) rfl rfl ?_
  refine sr 1 (.t ⟨false, [.vp 1 0]⟩) (.var [.d (dI (b.Quota)), .d (dI (b.Depth)), .d (dI (b.Chain)), .d (dI (b.Glue)), .d (dI (b.Tries)), .d (dI (b.Addrs)), .d (dI (b.Cap)), .d (.sl 1 (b.Roots.map encI))]) (zbx rfl (e rfl rfl) rfl rfl rfl) rfl rfl ?_
  refine sy _ (zas rfl (ec rfl)) rfl rfl ?_
  refine s_end ?_
  refine v_seq ?_
  refine v_seq ?_
  refine v_reg ?_
  refine sy (.t ⟨false, [.vp 0 0]⟩) (zfa tabOk rfl rfl rfl (e rfl rfl) rfl rfl) rfl rfl ?_
  refine sy (.t ⟨false, [.d (dI (a.Quota))]⟩) (zlv tabOk rfl (e rfl rfl) rfl rfl rfl) rfl rfl ?_
  refine sy (.t ⟨false, [.vp 1 0]⟩) (zfa tabOk rfl rfl rfl (e rfl rfl) rfl rfl) rfl rfl ?_
  refine sy (.t ⟨false, [.d (dI (b.Quota))]⟩) (zlv tabOk rfl (e rfl rfl) rfl rfl rfl) rfl rfl ?_
  refine sy (.t ⟨false, [.d (dB (decide ((a.Quota) ≠ (b.Quota))))]⟩) (y_bin rfl (e rfl rfl) (e rfl rfl) (fun _ => b_neq) rfl) rfl rfl ?_
  refine s_end ?_
  refine v_cond (e rfl rfl) (fun hb1 => ?_) fun hb1 => ?_
  · refine v_seq ?_
    refine v_reg ?_
    refine sy _ (zas rfl (ec rfl)) rfl rfl ?_
    refine s_end ?_
    refine v_ret ?_
    have hr : decide (a = b) = false := by cases a; cases b; simp_all
    rw [hr]
    exact post_ret (rv (.tmp (eg rfl rfl)) rfl (.lf .nil) rfl .nil) (.ro (.ro .nil)) rfl
  refine v_skip ?_
  refine v_seq ?_
  refine v_seq ?_
  refine v_reg ?_
  refine sy (.t ⟨false, [.vp 0 1]⟩) (zfa tabOk rfl rfl rfl (e rfl rfl) rfl rfl) rfl rfl ?_
  refine sy (.t ⟨false, [.d (dI (a.Depth))]⟩) (zlv tabOk rfl (e rfl rfl) rfl rfl rfl) rfl rfl ?_
  refine sy (.t ⟨false, [.vp 1 1]⟩) (zfa tabOk rfl rfl rfl (e rfl rfl) rfl rfl) rfl rfl ?_
  refine sy (.t ⟨false, [.d (dI (b.Depth))]⟩) (zlv tabOk rfl (e rfl rfl) rfl rfl rfl) rfl rfl ?_
  refine sy (.t ⟨false, [.d (dB (decide ((a.Depth) ≠ (b.Depth))))]⟩) (y_bin rfl (e rfl rfl) (e rfl rfl) (fun _ => b_neq) rfl) rfl rfl ?_
  refine s_end ?_
  refine v_cond (e rfl rfl) (fun hb2 => ?_) fun hb2 => ?_
  · refine v_seq ?_
    refine v_reg ?_
    refine sy _ (zas rfl (ec rfl)) rfl rfl ?_
    refine s_end ?_
    refine v_ret ?_
    have hr : decide (a = b) = false := by cases a; cases b; simp_all
    rw [hr]
    exact post_ret (rv (.tmp (eg rfl rfl)) rfl (.lf .nil) rfl .nil) (.ro (.ro .nil)) rfl
  refine v_skip ?_
  refine v_seq ?_
  refine v_seq ?_
  refine v_reg ?_
  refine sy (.t ⟨false, [.vp 0 2]⟩) (zfa tabOk rfl rfl rfl (e rfl rfl) rfl rfl) rfl rfl ?_
  refine sy (.t ⟨false, [.d (dI (a.Chain))]⟩) (zlv tabOk rfl (e rfl rfl) rfl rfl rfl) rfl rfl ?_
  refine sy (.t ⟨false, [.vp 1 2]⟩) (zfa tabOk rfl rfl rfl (e rfl rfl) rfl rfl) rfl rfl ?_
  refine sy (.t ⟨false, [.d (dI (b.Chain))]⟩) (zlv tabOk rfl (e rfl rfl) rfl rfl rfl) rfl rfl ?_
  refine sy (.t ⟨false, [.d (dB (decide ((a.Chain) ≠ (b.Chain))))]⟩) (y_bin rfl (e rfl rfl) (e rfl rfl) (fun _ => b_neq) rfl) rfl rfl ?_
  refine s_end ?_
  refine v_cond (e rfl rfl) (fun hb3 => ?_) fun hb3 => ?_
  · refine v_seq ?_
    refine v_reg ?_
    refine sy _ (zas rfl (ec rfl)) rfl rfl ?_
    refine s_end ?_
    refine v_ret ?_
    have hr : decide (a = b) = false := by cases a; cases b; simp_all
    rw [hr]
    exact post_ret (rv (.tmp (eg rfl rfl)) rfl (.lf .nil) rfl .nil) (.ro (.ro .nil)) rfl
  refine v_skip ?_
  refine v_seq ?_
  refine v_seq ?_
  refine v_reg ?_
  refine sy (.t ⟨false, [.vp 0 3]⟩) (zfa tabOk rfl rfl rfl (e rfl rfl) rfl rfl) rfl rfl ?_
  refine sy (.t ⟨false, [.d (dI (a.Glue))]⟩) (zlv tabOk rfl (e rfl rfl) rfl rfl rfl) rfl rfl ?_
  refine sy (.t ⟨false, [.vp 1 3]⟩) (zfa tabOk rfl rfl rfl (e rfl rfl) rfl rfl) rfl rfl ?_
  refine sy (.t ⟨false, [.d (dI (b.Glue))]⟩) (zlv tabOk rfl (e rfl rfl) rfl rfl rfl) rfl rfl ?_
  refine sy (.t ⟨false, [.d (dB (decide ((a.Glue) ≠ (b.Glue))))]⟩) (y_bin rfl (e rfl rfl) (e rfl rfl) (fun _ => b_neq) rfl) rfl rfl ?_
  refine s_end ?_
  refine v_cond (e rfl rfl) (fun hb4 => ?_) fun hb4 => ?_
  · refine v_seq ?_
    refine v_reg ?_
    refine sy _ (zas rfl (ec rfl)) rfl rfl ?_
    refine s_end ?_
    refine v_ret ?_
    have hr : decide (a = b) = false := by cases a; cases b; simp_all
    rw [hr]
    exact post_ret (rv (.tmp (eg rfl rfl)) rfl (.lf .nil) rfl .nil) (.ro (.ro .nil)) rfl
  refine v_skip ?_
  refine v_seq ?_
  refine v_seq ?_
  refine v_reg ?_
  refine sy (.t ⟨false, [.vp 0 4]⟩) (zfa tabOk rfl rfl rfl (e rfl rfl) rfl rfl) rfl rfl ?_
  refine sy (.t ⟨false, [.d (dI (a.Tries))]⟩) (zlv tabOk rfl (e rfl rfl) rfl rfl rfl) rfl rfl ?_
  refine sy (.t ⟨false, [.vp 1 4]⟩) (zfa tabOk rfl rfl rfl (e rfl rfl) rfl rfl) rfl rfl ?_
  refine sy (.t ⟨false, [.d (dI (b.Tries))]⟩) (zlv tabOk rfl (e rfl rfl) rfl rfl rfl) rfl rfl ?_
  refine sy (.t ⟨false, [.d (dB (decide ((a.Tries) ≠ (b.Tries))))]⟩) (y_bin rfl (e rfl rfl) (e rfl rfl) (fun _ => b_neq) rfl) rfl rfl ?_
  refine s_end ?_
  refine v_cond (e rfl rfl) (fun hb5 => ?_) fun hb5 => ?_
  · refine v_seq ?_
    refine v_reg ?_
    refine sy _ (zas rfl (ec rfl)) rfl rfl ?_
    refine s_end ?_
    refine v_ret ?_
    have hr : decide (a = b) = false := by cases a; cases b; simp_all
    rw [hr]
    exact post_ret (rv (.tmp (eg rfl rfl)) rfl (.lf .nil) rfl .nil) (.ro (.ro .nil)) rfl
  refine v_skip ?_
  refine v_seq ?_
  refine v_seq ?_
  refine v_reg ?_
  refine sy (.t ⟨false, [.vp 0 5]⟩) (zfa tabOk rfl rfl rfl (e rfl rfl) rfl rfl) rfl rfl ?_
  refine sy (.t ⟨false, [.d (dI (a.Addrs))]⟩) (zlv tabOk rfl (e rfl rfl) rfl rfl rfl) rfl rfl ?_
  refine sy (.t ⟨false, [.vp 1 5]⟩) (zfa tabOk rfl rfl rfl (e rfl rfl) rfl rfl) rfl rfl ?_
  refine sy (.t ⟨false, [.d (dI (b.Addrs))]⟩) (zlv tabOk rfl (e rfl rfl) rfl rfl rfl) rfl rfl ?_
  refine sy (.t ⟨false, [.d (dB (decide ((a.Addrs) ≠ (b.Addrs))))]⟩) (y_bin rfl (e rfl rfl) (e rfl rfl) (fun _ => b_neq) rfl) rfl rfl ?_
  refine s_end ?_
  refine v_cond (e rfl rfl) (fun hb6 => ?_) fun hb6 => ?_
  · refine v_seq ?_
    refine v_reg ?_
    refine sy _ (zas rfl (ec rfl)) rfl rfl ?_
    refine s_end ?_
    refine v_ret ?_
    have hr : decide (a = b) = false := by cases a; cases b; simp_all
    rw [hr]
    exact post_ret (rv (.tmp (eg rfl rfl)) rfl (.lf .nil) rfl .nil) (.ro (.ro .nil)) rfl
  refine v_skip ?_
  refine v_seq ?_
  refine v_seq ?_
  refine v_reg ?_
  refine sy (.t ⟨false, [.vp 0 6]⟩) (zfa tabOk rfl rfl rfl (e rfl rfl) rfl rfl) rfl rfl ?_
  refine sy (.t ⟨false, [.d (dI (a.Cap))]⟩) (zlv tabOk rfl (e rfl rfl) rfl rfl rfl) rfl rfl ?_
  refine sy (.t ⟨false, [.vp 1 6]⟩) (zfa tabOk rfl rfl rfl (e rfl rfl) rfl rfl) rfl rfl ?_
  refine sy (.t ⟨false, [.d (dI (b.Cap))]⟩) (zlv tabOk rfl (e rfl rfl) rfl rfl rfl) rfl rfl ?_
  refine sy (.t ⟨false, [.d (dB (decide ((a.Cap) ≠ (b.Cap))))]⟩) (y_bin rfl (e rfl rfl) (e rfl rfl) (fun _ => b_neq) rfl) rfl rfl ?_
  refine s_end ?_
  refine v_cond (e rfl rfl) (fun hb7 => ?_) fun hb7 => ?_
  · refine v_seq ?_
    refine v_reg ?_
    refine sy _ (zas rfl (ec rfl)) rfl rfl ?_
    refine s_end ?_
    refine v_ret ?_
    have hr : decide (a = b) = false := by cases a; cases b; simp_all
    rw [hr]
    exact post_ret (rv (.tmp (eg rfl rfl)) rfl (.lf .nil) rfl .nil) (.ro (.ro .nil)) rfl
  refine v_skip ?_
  refine v_seq ?_
  refine v_seq ?_
  refine v_reg ?_
  refine sy (.t ⟨false, [.vp 0 7]⟩) (zfa tabOk rfl rfl rfl (e rfl rfl) rfl rfl) rfl rfl ?_
  refine sy (.t ⟨false, [.d (.sl 1 (a.Roots.map encI))]⟩) (zlv tabOk rfl (e rfl rfl) rfl rfl rfl) rfl rfl ?_
  refine sy (.t ⟨false, [.vp 1 7]⟩) (zfa tabOk rfl rfl rfl (e rfl rfl) rfl rfl) rfl rfl ?_
  refine sy (.t ⟨false, [.d (.sl 1 (b.Roots.map encI))]⟩) (zlv tabOk rfl (e rfl rfl) rfl rfl rfl) rfl rfl ?_
  refine sd (.t ⟨false, [.d (dB (decide (a.Roots = b.Roots)))]⟩) (zcall 2 (.t ⟨false, [.d (dB (decide (a.Roots = b.Roots)))]⟩) [] rfl (tr_eqIntS a.Roots b.Roots ha.Roots hb0.Roots) (ar (e rfl rfl) (.d .nil) (ar (e rfl rfl) (.d .nil) .nil)) rfl rfl rfl) rfl rfl rfl rfl ?_
  refine sy (.t ⟨false, [.d (dB (!(decide (a.Roots = b.Roots))))]⟩) (y_un rfl (e rfl rfl) (fun _ => u_not) rfl) rfl rfl ?_
  refine s_end ?_
  refine v_cond (e rfl rfl) (fun hb8 => ?_) fun hb8 => ?_
  · refine v_seq ?_
    refine v_reg ?_
    refine sy _ (zas rfl (ec rfl)) rfl rfl ?_
    refine s_end ?_
    refine v_ret ?_
    have hr : decide (a = b) = false := by cases a; cases b; simp_all
    rw [hr]
    exact post_ret (rv (.tmp (eg rfl rfl)) rfl (.lf .nil) rfl .nil) (.ro (.ro .nil)) rfl
  refine v_skip ?_
  refine v_seq ?_
  refine v_reg ?_
  refine sy _ (zas rfl (ec rfl)) rfl rfl ?_
  refine s_end ?_
  refine v_ret ?_
  have hr : decide (a = b) = true := by cases a; cases b; simp_all
  rw [hr]
  exact post_ret (rv (.tmp (eg rfl rfl)) rfl (.lf .nil) rfl .nil) (.ro (.ro .nil)) rfl
set_option maxRecDepth 20000 in
theorem tr_markConf (a : Conf) (ha : a.Fit) (k : Int) (hk : k < 9223372036854775808) : Tr Try.prog 12 [.mu ⟨true, [dI (a.Quota), dI (a.Depth), dI (a.Chain), dI (a.Glue), dI (a.Tries), dI (a.Addrs), dI (a.Cap), .sl 1 (a.Roots.map encI)]⟩ ⟨true, [dI (((mkvConf a k).1).Quota), dI (((mkvConf a k).1).Depth), dI (((mkvConf a k).1).Chain), dI (((mkvConf a k).1).Glue), dI (((mkvConf a k).1).Tries), dI (((mkvConf a k).1).Addrs), dI (((mkvConf a k).1).Cap), .sl 1 ((((mkvConf a k).1).Roots).map encI)]⟩, .ro (one (dI k))] [one (dI (mkvConf a k).2)] := by
  refine tr_go tabOk Try.func12 rfl rfl rfl rfl rfl (ov := [(0, .t ⟨true, [.d (dI (a.Quota)), .d (dI (a.Depth)), .d (dI (a.Chain)), .d (dI (a.Glue)), .d (dI (a.Tries)), .d (dI (a.Addrs)), .d (dI (a.Cap)), .sr 0 0 0 ((a.Roots.map encI).length) ((a.Roots.map encI).length)]⟩), (1, .t ⟨false, [.d (dI (k))]⟩)]) (hv := [(0, .row 1 (a.Roots.map encI) true 0 0)]) rfl rfl ?_
  refine v_seq ?_
  refine v_reg ?_
  refine sr 1 (.t ⟨false, [.vp 1 0]⟩) (.var [.d (dI (a.Quota)), .d (dI (a.Depth)), .d (dI (a.Chain)), .d (dI (a.Glue)), .d (dI (a.Tries)), .d (dI (a.Addrs)), .d (dI (a.Cap)), .sr 0 0 0 ((a.Roots.map encI).length) ((a.Roots.map encI).length)]) (zbx rfl (e rfl rfl) rfl rfl rfl) rfl rfl ?_
  refine sy _ (zas rfl (ec rfl)) rfl rfl ?_
  refine s_end ?_
  refine v_seq ?_
  refine v_reg ?_
  refine sy (.t ⟨false, [.vp 1 7]⟩) (zfa tabOk rfl rfl rfl (e rfl rfl) rfl rfl) rfl rfl ?_
  refine sy (.t ⟨false, [.sr 0 0 0 ((a.Roots.map encI).length) ((a.Roots.map encI).length)]⟩) (zlv tabOk rfl (e rfl rfl) rfl rfl rfl) rfl rfl ?_
  refine sy _ (zmv rfl (e rfl rfl)) rfl rfl ?_
  refine sd (.t ⟨false, [.d (dI ((mkL mkI a.Roots k).2))]⟩) (zcall 2 (sc (dI (mkL mkI a.Roots k).2)) [(0, .row 1 (((mkL mkI a.Roots k).1).map encI) true 0 1)] rfl (tr_markIntS a.Roots ha.Roots k hk) (am (e rfl rfl) (.sr rfl rfl (by simp [mkL_len]) .nil) (ar (e rfl rfl) (.d .nil) .nil)) rfl rfl rfl) rfl rfl rfl rfl ?_
  have hl1 : (mkL mkI a.Roots k).2 < 9223372036854775808 := mkL_lt mkI_lt hk
  refine sy _ (zas rfl (e rfl rfl)) rfl rfl ?_
  refine s_end ?_
  refine v_seq ?_
  refine v_reg ?_
  refine sy _ (zmv rfl (e rfl rfl)) rfl rfl ?_
  refine sy _ (zas rfl (e rfl rfl)) rfl rfl ?_
  refine s_end ?_
  refine v_ret ?_
  exact post_ret (rv (.tmp (eg rfl rfl)) rfl (.lf .nil) rfl .nil) (.mu rfl (.lf (.lf (.lf (.lf (.lf (.lf (.lf (.sl rfl (by simp [mkvConf, mkL_len]) .nil)))))))) (.ro .nil)) rfl
set_option maxRecDepth 20000 in
theorem tr_heldConf (a b : Conf) (ha : a.Fit) (k : Int) (h0 : 0 ≤ k) (h1 : k + 16 * (a.wt : Int) < 4611686018427387904) (hb : b = (mkvConf a k).1) : Tr Try.prog 44 [.ro ⟨true, [dI (b.Quota), dI (b.Depth), dI (b.Chain), dI (b.Glue), dI (b.Tries), dI (b.Addrs), dI (b.Cap), .sl 1 (b.Roots.map encI)]⟩, .ro (one (dI k))] [one (dI (mkvConf a k).2)] := by
  simp only [Conf.wt] at h1
  refine tr_go tabOk Try.func44 rfl rfl rfl rfl rfl (ov := [(0, .t ⟨true, [.d (dI (b.Quota)), .d (dI (b.Depth)), .d (dI (b.Chain)), .d (dI (b.Glue)), .d (dI (b.Tries)), .d (dI (b.Addrs)), .d (dI (b.Cap)), .d (.sl 1 (b.Roots.map encI))]⟩), (1, .t ⟨false, [.d (dI (k))]⟩)]) (hv := []) rfl rfl ?_
  refine v_seq ?_
  refine v_reg ?_
  refine sr 0 (.t ⟨false, [.vp 0 0]⟩) (.var [.d (dI (b.Quota)), .d (dI (b.Depth)), .d (dI (b.Chain)), .d (dI (b.Glue)), .d (dI (b.Tries)), .d (dI (b.Addrs)), .d (dI (b.Cap)), .d (.sl 1 (b.Roots.map encI))]) (zbx rfl (e rfl rfl) rfl rfl rfl) rfl rfl ?_
  refine sy _ (zas rfl (ec rfl)) rfl rfl ?_
  refine s_end ?_
  refine v_seq ?_
  refine v_reg ?_
  refine sy (.t ⟨false, [.vp 0 7]⟩) (zfa tabOk rfl rfl rfl (e rfl rfl) rfl rfl) rfl rfl ?_
  refine sy (.t ⟨false, [.d (.sl 1 (b.Roots.map encI))]⟩) (zlv tabOk rfl (e rfl rfl) rfl rfl rfl) rfl rfl ?_
  refine sy _ (zmv rfl (e rfl rfl)) rfl rfl ?_
  have hq1 : b.Roots = (mkL mkI a.Roots k).1 := by rw [hb]; rfl
  have hc1 := mkL_ge mkI_ok (xs := a.Roots) (k := k) (by omega) (by omega)
  refine sd (.t ⟨false, [.d (dI ((mkL mkI a.Roots k).2))]⟩) (zcall 1 (sc (dI (mkL mkI a.Roots k).2)) [] rfl (tr_heldIntS a.Roots b.Roots ha.Roots k (by omega) (by omega) hq1) (ar (e rfl rfl) (.d .nil) (ar (e rfl rfl) (.d .nil) .nil)) rfl rfl rfl) rfl rfl rfl rfl ?_
  refine sy _ (zas rfl (e rfl rfl)) rfl rfl ?_
  refine s_end ?_
  refine v_seq ?_
  refine v_seq ?_
  refine v_reg ?_
  refine sy _ (zmv rfl (e rfl rfl)) rfl rfl ?_
  refine sy (.t ⟨false, [.d (dB (decide (((mkL mkI a.Roots k).2) < (0))))]⟩) (y_bin rfl (e rfl rfl) (ec rfl) (fun _ => b_lss) rfl) rfl rfl ?_
  refine s_end ?_
  refine v_cond (e rfl rfl) (fun hb1 => ?_) fun hb1 => ?_
  · exact absurd hb1 (by simp; omega)
  refine v_skip ?_
  refine v_seq ?_
  refine v_reg ?_
  refine sy _ (zmv rfl (e rfl rfl)) rfl rfl ?_
  refine sy _ (zas rfl (e rfl rfl)) rfl rfl ?_
  refine s_end ?_
  refine v_ret ?_
  exact post_ret (rv (.tmp (eg rfl rfl)) rfl (.lf .nil) rfl .nil) (.ro (.ro .nil)) rfl
end Go.Proofs.Ytglilpigoocgeaa.V
