/-
  The families of laws of Lame.
-/
import Derived.Test.YtglilpigoocgeaaN
import Derived.Test.YtglilpigoocgeaaC
namespace Go.Proofs.Ytglilpigoocgeaa.V
open Go
set_option linter.unusedVariables false
set_option linter.unusedSimpArgs false
set_option maxRecDepth 20000 in
theorem tr_szLame (a : Lame) (hb : a.Bnd) (left : Int) (h0 : 0 ≤ left) (hl : left ≤ 1048576) : TrX Try.prog 86 [.ro ⟨true, [dI (a.Addr), dS (a.Apex), dI (a.Until)]⟩, .ro (one (dI left))] (resI fun r => 0 ≤ r → r + (a.wt : Int) ≤ left ∧ a.Fit) := by
  have := hb.Apex; simp only [bndS] at this
  refine trX_go tabOk Try.func86 rfl rfl rfl rfl rfl (ov := [(0, .t ⟨true, [.d (dI (a.Addr)), .d (dS (a.Apex)), .d (dI (a.Until))]⟩), (1, .t ⟨false, [.d (dI (left))]⟩)]) (hv := []) rfl rfl ?_
  refine v_seq ?_
  refine v_reg ?_
  refine sr 0 (.t ⟨false, [.vp 0 0]⟩) (.var [.d (dI (a.Addr)), .d (dS (a.Apex)), .d (dI (a.Until))]) (zbx rfl (e rfl rfl) rfl rfl rfl) rfl rfl ?_
  refine sy _ (zas rfl (ec rfl)) rfl rfl ?_
  refine s_end ?_
  refine v_seq ?_
  refine v_reg ?_
  refine sy _ (zmv rfl (e rfl rfl)) rfl rfl ?_
  refine sy (.t ⟨false, [.vp 0 1]⟩) (zfa tabOk rfl rfl rfl (e rfl rfl) rfl rfl) rfl rfl ?_
  refine sy (.t ⟨false, [.d (dS (a.Apex))]⟩) (zlv tabOk rfl (e rfl rfl) rfl rfl rfl) rfl rfl ?_
  refine sy (.t ⟨false, [.d (dI (a.Apex.size : Int))]⟩) (zls tabOk rfl rfl (e rfl rfl)) rfl rfl ?_
  refine sy (.t ⟨false, [.d (dI (left - (a.Apex.size : Int)))]⟩) (y_bin rfl (e rfl rfl) (e rfl rfl) (fun _ => b_subn (by omega) (by omega)) rfl) rfl rfl ?_
  refine sy _ (zas rfl (e rfl rfl)) rfl rfl ?_
  refine s_end ?_
  refine v_seq ?_
  refine v_seq ?_
  refine v_reg ?_
  refine sy _ (zmv rfl (e rfl rfl)) rfl rfl ?_
  refine sy (.t ⟨false, [.d (dB (decide ((left - (a.Apex.size : Int)) < (0))))]⟩) (y_bin rfl (e rfl rfl) (ec rfl) (fun _ => b_lss) rfl) rfl rfl ?_
  refine s_end ?_
  refine v_cond (e rfl rfl) (fun hb1 => ?_) fun hb1 => ?_
  · refine v_seq ?_
    refine v_reg ?_
    refine sy _ (zas rfl (ec rfl)) rfl rfl ?_
    refine s_end ?_
    refine v_ret ?_
    exact post_retX [one (dI (-1))] ⟨-1, fun h => by omega, rfl⟩ (rv (.tmp (eg rfl rfl)) rfl (.lf .nil) rfl .nil) (.ro (.ro .nil)) rfl
  have p2 : 0 ≤ left - (a.Apex.size : Int) := by have := hb1; simp at this; omega
  refine v_skip ?_
  refine v_seq ?_
  refine v_reg ?_
  refine sy _ (zmv rfl (e rfl rfl)) rfl rfl ?_
  refine sy _ (zas rfl (e rfl rfl)) rfl rfl ?_
  refine s_end ?_
  refine v_ret ?_
  exact post_retX [one (dI (left - (a.Apex.size : Int)))] ⟨left - (a.Apex.size : Int), fun h => ⟨by simp only [Lame.wt]; omega, ⟨by simp only [fitS]; omega⟩⟩, rfl⟩ (rv (.tmp (eg rfl rfl)) rfl (.lf .nil) rfl .nil) (.ro (.ro .nil)) rfl
set_option maxRecDepth 20000 in
theorem tr_toLame (a : Lame) (ha : a.Fit) : Tr Try.prog 92 [.ro ⟨true, [dI (a.Addr), dS (a.Apex), dI (a.Until)]⟩] [⟨true, [dI (a.Addr), dS (a.Apex), dI (a.Until)]⟩] := by
  refine tr_go tabOk Try.func92 rfl rfl rfl rfl rfl (ov := [(0, .t ⟨true, [.d (dI (a.Addr)), .d (dS (a.Apex)), .d (dI (a.Until))]⟩)]) (hv := []) rfl rfl ?_
  refine v_seq ?_
  refine v_reg ?_
  refine sr 0 (.t ⟨false, [.vp 0 0]⟩) (.var [.d (dI (a.Addr)), .d (dS (a.Apex)), .d (dI (a.Until))]) (zbx rfl (e rfl rfl) rfl rfl rfl) rfl rfl ?_
  refine sr 1 (.t ⟨false, [.vp 1 0]⟩) (.var [.d (dI (0)), .d (dS (⟨#[]⟩)), .d (dI (0))]) (zal tabOk rfl rfl rfl rfl) rfl rfl ?_
  refine s_end ?_
  refine v_seq ?_
  refine v_reg ?_
  refine sr 2 (.t ⟨false, [.vp 2 0]⟩) (.var [.d (dI (0)), .d (dS (⟨#[]⟩)), .d (dI (0))]) (zal tabOk rfl rfl rfl rfl) rfl rfl ?_
  refine s_end ?_
  refine v_seq ?_
  refine v_reg ?_
  refine sy (.t ⟨false, [.vp 0 0]⟩) (zfa tabOk rfl rfl rfl (e rfl rfl) rfl rfl) rfl rfl ?_
  refine sy (.t ⟨false, [.d (dI (a.Addr))]⟩) (zlv tabOk rfl (e rfl rfl) rfl rfl rfl) rfl rfl ?_
  refine sy (.t ⟨false, [.vp 2 0]⟩) (zfa tabOk rfl rfl rfl (e rfl rfl) rfl rfl) rfl rfl ?_
  refine sw 2 (.var [.d (dI (a.Addr)), .d (dS (⟨#[]⟩)), .d (dI (0))]) (zst tabOk rfl (e rfl rfl) rfl (e rfl rfl) rfl rfl rfl) rfl rfl ?_
  refine s_end ?_
  refine v_seq ?_
  refine v_reg ?_
  refine sy (.t ⟨false, [.vp 0 1]⟩) (zfa tabOk rfl rfl rfl (e rfl rfl) rfl rfl) rfl rfl ?_
  refine sy (.t ⟨false, [.d (dS (a.Apex))]⟩) (zlv tabOk rfl (e rfl rfl) rfl rfl rfl) rfl rfl ?_
  refine sy (.t ⟨false, [.vp 2 1]⟩) (zfa tabOk rfl rfl rfl (e rfl rfl) rfl rfl) rfl rfl ?_
  refine sw 2 (.var [.d (dI (a.Addr)), .d (dS (a.Apex)), .d (dI (0))]) (zst tabOk rfl (e rfl rfl) rfl (e rfl rfl) rfl rfl rfl) rfl rfl ?_
  refine s_end ?_
  refine v_seq ?_
  refine v_reg ?_
  refine sy (.t ⟨false, [.vp 0 2]⟩) (zfa tabOk rfl rfl rfl (e rfl rfl) rfl rfl) rfl rfl ?_
  refine sy (.t ⟨false, [.d (dI (a.Until))]⟩) (zlv tabOk rfl (e rfl rfl) rfl rfl rfl) rfl rfl ?_
  refine sy (.t ⟨false, [.vp 2 2]⟩) (zfa tabOk rfl rfl rfl (e rfl rfl) rfl rfl) rfl rfl ?_
  refine sw 2 (.var [.d (dI (a.Addr)), .d (dS (a.Apex)), .d (dI (a.Until))]) (zst tabOk rfl (e rfl rfl) rfl (e rfl rfl) rfl rfl rfl) rfl rfl ?_
  refine s_end ?_
  refine v_seq ?_
  refine v_reg ?_
  refine sy (.t ⟨true, [.d (dI (a.Addr)), .d (dS (a.Apex)), .d (dI (a.Until))]⟩) (zlv tabOk rfl (e rfl rfl) rfl rfl rfl) rfl rfl ?_
  refine sw 1 (.var [.d (dI (a.Addr)), .d (dS (a.Apex)), .d (dI (a.Until))]) (zst tabOk rfl (e rfl rfl) rfl (e rfl rfl) rfl rfl rfl) rfl rfl ?_
  refine s_end ?_
  refine v_ret ?_
  exact post_ret (rv (.cell (eg rfl rfl) rfl rfl (.inl rfl) rfl) rfl (.lf (.lf (.lf .nil))) rfl .nil) (.ro .nil) rfl
set_option maxRecDepth 20000 in
theorem tr_eqLame (a b : Lame) (ha : a.Fit) (hb0 : b.Fit) : Tr Try.prog 75 [.ro ⟨true, [dI (a.Addr), dS (a.Apex), dI (a.Until)]⟩, .ro ⟨true, [dI (b.Addr), dS (b.Apex), dI (b.Until)]⟩] [one (dB (decide (a = b)))] := by
  refine tr_go tabOk Try.func75 rfl rfl rfl rfl rfl (ov := [(0, .t ⟨true, [.d (dI (a.Addr)), .d (dS (a.Apex)), .d (dI (a.Until))]⟩), (1, .t ⟨true, [.d (dI (b.Addr)), .d (dS (b.Apex)), .d (dI (b.Until))]⟩)]) (hv := []) rfl rfl ?_
  refine v_seq ?_
  refine v_reg ?_
  refine sr 0 (.t ⟨false, [.vp 0 0]⟩) (.var [.d (dI (a.Addr)), .d (dS (a.Apex)), .d (dI (a.Until))]) (zbx rfl (e rfl rfl) rfl rfl rfl) rfl rfl ?_
  refine sr 1 (.t ⟨false, [.vp 1 0]⟩) (.var [.d (dI (b.Addr)), .d (dS (b.Apex)), .d (dI (b.Until))]) (zbx rfl (e rfl rfl) rfl rfl rfl) rfl rfl ?_
  refine sy _ (zas rfl (ec rfl)) rfl rfl ?_
  refine s_end ?_
  refine v_seq ?_
  refine v_seq ?_
  refine v_reg ?_
  refine sy (.t ⟨false, [.vp 0 0]⟩) (zfa tabOk rfl rfl rfl (e rfl rfl) rfl rfl) rfl rfl ?_
  refine sy (.t ⟨false, [.d (dI (a.Addr))]⟩) (zlv tabOk rfl (e rfl rfl) rfl rfl rfl) rfl rfl ?_
  refine sy (.t ⟨false, [.vp 1 0]⟩) (zfa tabOk rfl rfl rfl (e rfl rfl) rfl rfl) rfl rfl ?_
  refine sy (.t ⟨false, [.d (dI (b.Addr))]⟩) (zlv tabOk rfl (e rfl rfl) rfl rfl rfl) rfl rfl ?_
  refine sy (.t ⟨false, [.d (dB (decide ((a.Addr) ≠ (b.Addr))))]⟩) (y_bin rfl (e rfl rfl) (e rfl rfl) (fun _ => b_neq) rfl) rfl rfl ?_
  refine s_end ?_
  refine v_cond (e rfl rfl) (fun hb1 => ?_) fun hb1 => ?_
  · refine v_seq ?_
    refine v_reg ?_
    refine sy _ (zas rfl (ec rfl)) rfl rfl ?_
    refine s_end ?_
    refine v_ret ?_
    have hr : decide (a = b) = false := by cases a; cases b; simp_all
    rw [hr]
    exact post_ret (rv (.tmp (eg rfl rfl)) rfl (.lf .nil) rfl .nil) (.ro (.ro .nil)) rfl
  refine v_skip ?_
  refine v_seq ?_
  refine v_seq ?_
  refine v_reg ?_
  refine sy (.t ⟨false, [.vp 0 1]⟩) (zfa tabOk rfl rfl rfl (e rfl rfl) rfl rfl) rfl rfl ?_
  refine sy (.t ⟨false, [.d (dS (a.Apex))]⟩) (zlv tabOk rfl (e rfl rfl) rfl rfl rfl) rfl rfl ?_
  refine sy (.t ⟨false, [.vp 1 1]⟩) (zfa tabOk rfl rfl rfl (e rfl rfl) rfl rfl) rfl rfl ?_
  refine sy (.t ⟨false, [.d (dS (b.Apex))]⟩) (zlv tabOk rfl (e rfl rfl) rfl rfl rfl) rfl rfl ?_
  refine sy (.t ⟨false, [.d (dB (decide ((a.Apex) ≠ (b.Apex))))]⟩) (y_bin rfl (e rfl rfl) (e rfl rfl) (fun _ => b_sneq) rfl) rfl rfl ?_
  refine s_end ?_
  refine v_cond (e rfl rfl) (fun hb2 => ?_) fun hb2 => ?_
  · refine v_seq ?_
    refine v_reg ?_
    refine sy _ (zas rfl (ec rfl)) rfl rfl ?_
    refine s_end ?_
    refine v_ret ?_
    have hr : decide (a = b) = false := by cases a; cases b; simp_all
    rw [hr]
    exact post_ret (rv (.tmp (eg rfl rfl)) rfl (.lf .nil) rfl .nil) (.ro (.ro .nil)) rfl
  refine v_skip ?_
  refine v_seq ?_
  refine v_seq ?_
  refine v_reg ?_
  refine sy (.t ⟨false, [.vp 0 2]⟩) (zfa tabOk rfl rfl rfl (e rfl rfl) rfl rfl) rfl rfl ?_
  refine sy (.t ⟨false, [.d (dI (a.Until))]⟩) (zlv tabOk rfl (e rfl rfl) rfl rfl rfl) rfl rfl ?_
  refine sy (.t ⟨false, [.vp 1 2]⟩) (zfa tabOk rfl rfl rfl (e rfl rfl) rfl rfl) rfl rfl ?_
  refine sy (.t ⟨false, [.d (dI (b.Until))]⟩) (zlv tabOk rfl (e rfl rfl) rfl rfl rfl) rfl rfl ?_
  refine sy (.t ⟨false, [.d (dB (decide ((a.Until) ≠ (b.Until))))]⟩) (y_bin rfl (e rfl rfl) (e rfl rfl) (fun _ => b_neq) rfl) rfl rfl ?_
  refine s_end ?_
  refine v_cond (e rfl rfl) (fun hb3 => ?_) fun hb3 => ?_
  · refine v_seq ?_
    refine v_reg ?_
    refine sy _ (zas rfl (ec rfl)) rfl rfl ?_
    refine s_end ?_
    refine v_ret ?_
    have hr : decide (a = b) = false := by cases a; cases b; simp_all
    rw [hr]
    exact post_ret (rv (.tmp (eg rfl rfl)) rfl (.lf .nil) rfl .nil) (.ro (.ro .nil)) rfl
  refine v_skip ?_
  refine v_seq ?_
  refine v_reg ?_
  refine sy _ (zas rfl (ec rfl)) rfl rfl ?_
  refine s_end ?_
  refine v_ret ?_
  have hr : decide (a = b) = true := by cases a; cases b; simp_all
  rw [hr]
  exact post_ret (rv (.tmp (eg rfl rfl)) rfl (.lf .nil) rfl .nil) (.ro (.ro .nil)) rfl
end Go.Proofs.Ytglilpigoocgeaa.V
