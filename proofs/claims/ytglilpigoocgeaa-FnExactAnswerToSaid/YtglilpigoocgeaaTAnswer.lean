/-
  The families of laws of Answer.
-/
import Derived.Test.YtglilpigoocgeaaTQuest
import Derived.Test.YtglilpigoocgeaaTRecordS
import Derived.Test.YtglilpigoocgeaaN
import Derived.Test.YtglilpigoocgeaaC
import Derived.Test.YtglilpigoocgeaaM
namespace Go.Proofs.Ytglilpigoocgeaa.V
open Go
set_option linter.unusedVariables false
set_option linter.unusedSimpArgs false
set_option maxRecDepth 20000 in
theorem tr_szAnswer (a : Answer) (hb : a.Bnd) (left : Int) (h0 : 0 ≤ left) (hl : left ≤ 1048576) : TrX Try.prog 89 [.ro ⟨true, [dI (a.No), dI (a.Client), dI (a.Code), dS (a.Q.Name), dI (a.Q.Typ), .sl 6 (a.Links.map Record.cells), .sl 6 (a.L.map Record.cells), dI (a.Sent)]⟩, .ro (one (dI left))] (resI fun r => 0 ≤ r → r + (a.wt : Int) ≤ left ∧ a.Fit) := by
  refine trX_go tabOk Try.func89 rfl rfl rfl rfl rfl (ov := [(0, .t ⟨true, [.d (dI (a.No)), .d (dI (a.Client)), .d (dI (a.Code)), .d (dS (a.Q.Name)), .d (dI (a.Q.Typ)), .d (.sl 6 (a.Links.map Record.cells)), .d (.sl 6 (a.L.map Record.cells)), .d (dI (a.Sent))]⟩), (1, .t ⟨false, [.d (dI (left))]⟩)]) (hv := []) rfl rfl ?_
  refine v_seq ?_
  refine v_reg ?_
  refine sr 0 (.t ⟨false, [.vp 0 0]⟩) (.var [.d (dI (a.No)), .d (dI (a.Client)), .d (dI (a.Code)), .d (dS (a.Q.Name)), .d (dI (a.Q.Typ)), .d (.sl 6 (a.Links.map Record.cells)), .d (.sl 6 (a.L.map Record.cells)), .d (dI (a.Sent))]) (zbx rfl (e rfl rfl) rfl rfl rfl) rfl rfl ?_
  refine sy _ (zas rfl (ec rfl)) rfl rfl ?_
  refine s_end ?_
  refine v_seq ?_
  refine v_reg ?_
  refine sy (.t ⟨false, [.vp 0 3]⟩) (zfa tabOk rfl rfl rfl (e rfl rfl) rfl rfl) rfl rfl ?_
  refine sy (.t ⟨true, [.d (dS (a.Q.Name)), .d (dI (a.Q.Typ))]⟩) (zlv tabOk rfl (e rfl rfl) rfl rfl rfl) rfl rfl ?_
  refine sy _ (zmv rfl (e rfl rfl)) rfl rfl ?_
  refine sxI (zcallX rfl (tr_szQuest a.Q hb.Q left (by omega) (by omega)) (ar (e rfl rfl) (.d (.d .nil)) (ar (e rfl rfl) (.d .nil) .nil))) rfl rfl (fun r1 hr1 => ?_)
  refine sy _ (zas rfl (e rfl rfl)) rfl rfl ?_
  refine s_end ?_
  refine v_seq ?_
  refine v_seq ?_
  refine v_reg ?_
  refine sy _ (zmv rfl (e rfl rfl)) rfl rfl ?_
  refine sy (.t ⟨false, [.d (dB (decide ((r1) < (0))))]⟩) (y_bin rfl (e rfl rfl) (ec rfl) (fun _ => b_lss) rfl) rfl rfl ?_
  refine s_end ?_
  refine v_cond (e rfl rfl) (fun hb2 => ?_) fun hb2 => ?_
  · refine v_seq ?_
    refine v_reg ?_
    refine sy _ (zas rfl (ec rfl)) rfl rfl ?_
    refine s_end ?_
    refine v_ret ?_
    exact post_retX [one (dI (-1))] ⟨-1, fun h => by omega, rfl⟩ (rv (.tmp (eg rfl rfl)) rfl (.lf .nil) rfl .nil) (.ro (.ro .nil)) rfl
  have p3 : 0 ≤ r1 := by have := hb2; simp at this; omega
  have p3q := hr1 p3
  have := p3q.1
  refine v_skip ?_
  refine v_seq ?_
  refine v_reg ?_
  refine sy (.t ⟨false, [.vp 0 5]⟩) (zfa tabOk rfl rfl rfl (e rfl rfl) rfl rfl) rfl rfl ?_
  refine sy (.t ⟨false, [.d (.sl 6 (a.Links.map Record.cells))]⟩) (zlv tabOk rfl (e rfl rfl) rfl rfl rfl) rfl rfl ?_
  refine sy _ (zmv rfl (e rfl rfl)) rfl rfl ?_
  refine sxI (zcallX rfl (tr_szRecordS a.Links hb.Links r1 (by omega) (by omega)) (ar (e rfl rfl) (.d .nil) (ar (e rfl rfl) (.d .nil) .nil))) rfl rfl (fun r4 hr4 => ?_)
  refine sy _ (zas rfl (e rfl rfl)) rfl rfl ?_
  refine s_end ?_
  refine v_seq ?_
  refine v_seq ?_
  refine v_reg ?_
  refine sy _ (zmv rfl (e rfl rfl)) rfl rfl ?_
  refine sy (.t ⟨false, [.d (dB (decide ((r4) < (0))))]⟩) (y_bin rfl (e rfl rfl) (ec rfl) (fun _ => b_lss) rfl) rfl rfl ?_
  refine s_end ?_
  refine v_cond (e rfl rfl) (fun hb5 => ?_) fun hb5 => ?_
  · refine v_seq ?_
    refine v_reg ?_
    refine sy _ (zas rfl (ec rfl)) rfl rfl ?_
    refine s_end ?_
    refine v_ret ?_
    exact post_retX [one (dI (-1))] ⟨-1, fun h => by omega, rfl⟩ (rv (.tmp (eg rfl rfl)) rfl (.lf .nil) rfl .nil) (.ro (.ro .nil)) rfl
  have p6 : 0 ≤ r4 := by have := hb5; simp at this; omega
  have p6q := hr4 p6
  have := p6q.1
  refine v_skip ?_
  refine v_seq ?_
  refine v_reg ?_
  refine sy (.t ⟨false, [.vp 0 6]⟩) (zfa tabOk rfl rfl rfl (e rfl rfl) rfl rfl) rfl rfl ?_
  refine sy (.t ⟨false, [.d (.sl 6 (a.L.map Record.cells))]⟩) (zlv tabOk rfl (e rfl rfl) rfl rfl rfl) rfl rfl ?_
  refine sy _ (zmv rfl (e rfl rfl)) rfl rfl ?_
  refine sxI (zcallX rfl (tr_szRecordS a.L hb.L r4 (by omega) (by omega)) (ar (e rfl rfl) (.d .nil) (ar (e rfl rfl) (.d .nil) .nil))) rfl rfl (fun r7 hr7 => ?_)
  refine sy _ (zas rfl (e rfl rfl)) rfl rfl ?_
  refine s_end ?_
  refine v_seq ?_
  refine v_seq ?_
  refine v_reg ?_
  refine sy _ (zmv rfl (e rfl rfl)) rfl rfl ?_
  refine sy (.t ⟨false, [.d (dB (decide ((r7) < (0))))]⟩) (y_bin rfl (e rfl rfl) (ec rfl) (fun _ => b_lss) rfl) rfl rfl ?_
  refine s_end ?_
  refine v_cond (e rfl rfl) (fun hb8 => ?_) fun hb8 => ?_
  · refine v_seq ?_
    refine v_reg ?_
    refine sy _ (zas rfl (ec rfl)) rfl rfl ?_
    refine s_end ?_
    refine v_ret ?_
    exact post_retX [one (dI (-1))] ⟨-1, fun h => by omega, rfl⟩ (rv (.tmp (eg rfl rfl)) rfl (.lf .nil) rfl .nil) (.ro (.ro .nil)) rfl
  have p9 : 0 ≤ r7 := by have := hb8; simp at this; omega
  have p9q := hr7 p9
  have := p9q.1
  refine v_skip ?_
  refine v_seq ?_
  refine v_reg ?_
  refine sy _ (zmv rfl (e rfl rfl)) rfl rfl ?_
  refine sy _ (zas rfl (e rfl rfl)) rfl rfl ?_
  refine s_end ?_
  refine v_ret ?_
  have := p3q.1
  have := p6q.1
  have := p9q.1
  exact post_retX [one (dI (r7))] ⟨r7, fun h => ⟨by simp only [Answer.wt]; omega, ⟨p3q.2, p6q.2, p9q.2⟩⟩, rfl⟩ (rv (.tmp (eg rfl rfl)) rfl (.lf .nil) rfl .nil) (.ro (.ro .nil)) rfl
set_option maxRecDepth 20000 in
theorem tr_toAnswer (a : Answer) (ha : a.Fit) : Tr Try.prog 95 [.ro ⟨true, [dI (a.No), dI (a.Client), dI (a.Code), dS (a.Q.Name), dI (a.Q.Typ), .sl 6 (a.Links.map Record.cells), .sl 6 (a.L.map Record.cells), dI (a.Sent)]⟩] [⟨true, [dI (a.No), dI (a.Client), dI (a.Code), dS (a.Q.Name), dI (a.Q.Typ), .sl 6 (a.Links.map Record.cells), .sl 6 (a.L.map Record.cells), dI (a.Sent)]⟩] := by
  refine tr_go tabOk Try.func95 rfl rfl rfl rfl rfl (ov := [(0, .t ⟨true, [.d (dI (a.No)), .d (dI (a.Client)), .d (dI (a.Code)), .d (dS (a.Q.Name)), .d (dI (a.Q.Typ)), .d (.sl 6 (a.Links.map Record.cells)), .d (.sl 6 (a.L.map Record.cells)), .d (dI (a.Sent))]⟩)]) (hv := []) rfl rfl ?_
  refine v_seq ?_
  refine v_reg ?_
  refine sr 0 (.t ⟨false, [.vp 0 0]⟩) (.var [.d (dI (a.No)), .d (dI (a.Client)), .d (dI (a.Code)), .d (dS (a.Q.Name)), .d (dI (a.Q.Typ)), .d (.sl 6 (a.Links.map Record.cells)), .d (.sl 6 (a.L.map Record.cells)), .d (dI (a.Sent))]) (zbx rfl (e rfl rfl) rfl rfl rfl) rfl rfl ?_
  refine sr 1 (.t ⟨false, [.vp 1 0]⟩) (.var [.d (dI (0)), .d (dI (0)), .d (dI (0)), .d (dS (⟨#[]⟩)), .d (dI (0)), .nl 6, .nl 6, .d (dI (0))]) (zal tabOk rfl rfl rfl rfl) rfl rfl ?_
  refine s_end ?_
  refine v_seq ?_
  refine v_reg ?_
  refine sr 2 (.t ⟨false, [.vp 2 0]⟩) (.var [.d (dI (0)), .d (dI (0)), .d (dI (0)), .d (dS (⟨#[]⟩)), .d (dI (0)), .nl 6, .nl 6, .d (dI (0))]) (zal tabOk rfl rfl rfl rfl) rfl rfl ?_
  refine s_end ?_
  refine v_seq ?_
  refine v_reg ?_
  refine sy (.t ⟨false, [.vp 0 0]⟩) (zfa tabOk rfl rfl rfl (e rfl rfl) rfl rfl) rfl rfl ?_
  refine sy (.t ⟨false, [.d (dI (a.No))]⟩) (zlv tabOk rfl (e rfl rfl) rfl rfl rfl) rfl rfl ?_
  refine sy (.t ⟨false, [.vp 2 0]⟩) (zfa tabOk rfl rfl rfl (e rfl rfl) rfl rfl) rfl rfl ?_
  refine sw 2 (.var [.d (dI (a.No)), .d (dI (0)), .d (dI (0)), .d (dS (⟨#[]⟩)), .d (dI (0)), .nl 6, .nl 6, .d (dI (0))]) (zst tabOk rfl (e rfl rfl) rfl (e rfl rfl) rfl rfl rfl) rfl rfl ?_
  refine s_end ?_
  refine v_seq ?_
  refine v_reg ?_
  refine sy (.t ⟨false, [.vp 0 1]⟩) (zfa tabOk rfl rfl rfl (e rfl rfl) rfl rfl) rfl rfl ?_
  refine sy (.t ⟨false, [.d (dI (a.Client))]⟩) (zlv tabOk rfl (e rfl rfl) rfl rfl rfl) rfl rfl ?_
  refine sy (.t ⟨false, [.vp 2 1]⟩) (zfa tabOk rfl rfl rfl (e rfl rfl) rfl rfl) rfl rfl ?_
  refine sw 2 (.var [.d (dI (a.No)), .d (dI (a.Client)), .d (dI (0)), .d (dS (⟨#[]⟩)), .d (dI (0)), .nl 6, .nl 6, .d (dI (0))]) (zst tabOk rfl (e rfl rfl) rfl (e rfl rfl) rfl rfl rfl) rfl rfl ?_
  refine s_end ?_
  refine v_seq ?_
  refine v_reg ?_
  refine sy (.t ⟨false, [.vp 0 2]⟩) (zfa tabOk rfl rfl rfl (e rfl rfl) rfl rfl) rfl rfl ?_
  refine sy (.t ⟨false, [.d (dI (a.Code))]⟩) (zlv tabOk rfl (e rfl rfl) rfl rfl rfl) rfl rfl ?_
  refine sy (.t ⟨false, [.vp 2 2]⟩) (zfa tabOk rfl rfl rfl (e rfl rfl) rfl rfl) rfl rfl ?_
  refine sw 2 (.var [.d (dI (a.No)), .d (dI (a.Client)), .d (dI (a.Code)), .d (dS (⟨#[]⟩)), .d (dI (0)), .nl 6, .nl 6, .d (dI (0))]) (zst tabOk rfl (e rfl rfl) rfl (e rfl rfl) rfl rfl rfl) rfl rfl ?_
  refine s_end ?_
  refine v_seq ?_
  refine v_reg ?_
  refine sy (.t ⟨false, [.vp 0 3]⟩) (zfa tabOk rfl rfl rfl (e rfl rfl) rfl rfl) rfl rfl ?_
  refine sy (.t ⟨true, [.d (dS (a.Q.Name)), .d (dI (a.Q.Typ))]⟩) (zlv tabOk rfl (e rfl rfl) rfl rfl rfl) rfl rfl ?_
  refine sd (.t ⟨true, [.d (dS (a.Q.Name)), .d (dI (a.Q.Typ))]⟩) (zcall 3 (.t ⟨true, [.d (dS (a.Q.Name)), .d (dI (a.Q.Typ))]⟩) [] rfl (tr_toQuest a.Q ha.Q) (ar (e rfl rfl) (.d (.d .nil)) .nil) rfl rfl rfl) rfl rfl rfl rfl ?_
  refine sy (.t ⟨false, [.vp 2 3]⟩) (zfa tabOk rfl rfl rfl (e rfl rfl) rfl rfl) rfl rfl ?_
  refine sw 2 (.var [.d (dI (a.No)), .d (dI (a.Client)), .d (dI (a.Code)), .d (dS (a.Q.Name)), .d (dI (a.Q.Typ)), .nl 6, .nl 6, .d (dI (0))]) (zst tabOk rfl (e rfl rfl) rfl (e rfl rfl) rfl rfl rfl) rfl rfl ?_
  refine s_end ?_
  refine v_seq ?_
  refine v_reg ?_
  refine sy (.t ⟨false, [.vp 0 5]⟩) (zfa tabOk rfl rfl rfl (e rfl rfl) rfl rfl) rfl rfl ?_
  refine sy (.t ⟨false, [.d (.sl 6 (a.Links.map Record.cells))]⟩) (zlv tabOk rfl (e rfl rfl) rfl rfl rfl) rfl rfl ?_
  refine sd (.t ⟨false, [.sr 3 1 0 ((a.Links.map Record.cells).length) ((a.Links.map Record.cells).length)]⟩) (zcall 3 (.t ⟨false, [.sr 3 1 0 ((a.Links.map Record.cells).length) ((a.Links.map Record.cells).length)]⟩) [(3, .row 6 (a.Links.map Record.cells) true 1 0)] rfl (tr_toRecordS a.Links ha.Links) (ar (e rfl rfl) (.d .nil) .nil) rfl rfl rfl) rfl rfl rfl rfl ?_
  refine sy (.t ⟨false, [.vp 2 5]⟩) (zfa tabOk rfl rfl rfl (e rfl rfl) rfl rfl) rfl rfl ?_
  refine sw 2 (.var [.d (dI (a.No)), .d (dI (a.Client)), .d (dI (a.Code)), .d (dS (a.Q.Name)), .d (dI (a.Q.Typ)), .sr 3 1 0 ((a.Links.map Record.cells).length) ((a.Links.map Record.cells).length), .nl 6, .d (dI (0))]) (zst tabOk rfl (e rfl rfl) rfl (e rfl rfl) rfl rfl rfl) rfl rfl ?_
  refine s_end ?_
  refine v_seq ?_
  refine v_reg ?_
  refine sy (.t ⟨false, [.vp 0 6]⟩) (zfa tabOk rfl rfl rfl (e rfl rfl) rfl rfl) rfl rfl ?_
  refine sy (.t ⟨false, [.d (.sl 6 (a.L.map Record.cells))]⟩) (zlv tabOk rfl (e rfl rfl) rfl rfl rfl) rfl rfl ?_
  refine sd (.t ⟨false, [.sr 4 1 0 ((a.L.map Record.cells).length) ((a.L.map Record.cells).length)]⟩) (zcall 4 (.t ⟨false, [.sr 4 1 0 ((a.L.map Record.cells).length) ((a.L.map Record.cells).length)]⟩) [(4, .row 6 (a.L.map Record.cells) true 1 0)] rfl (tr_toRecordS a.L ha.L) (ar (e rfl rfl) (.d .nil) .nil) rfl rfl rfl) rfl rfl rfl rfl ?_
  refine sy (.t ⟨false, [.vp 2 6]⟩) (zfa tabOk rfl rfl rfl (e rfl rfl) rfl rfl) rfl rfl ?_
  refine sw 2 (.var [.d (dI (a.No)), .d (dI (a.Client)), .d (dI (a.Code)), .d (dS (a.Q.Name)), .d (dI (a.Q.Typ)), .sr 3 1 0 ((a.Links.map Record.cells).length) ((a.Links.map Record.cells).length), .sr 4 1 0 ((a.L.map Record.cells).length) ((a.L.map Record.cells).length), .d (dI (0))]) (zst tabOk rfl (e rfl rfl) rfl (e rfl rfl) rfl rfl rfl) rfl rfl ?_
  refine s_end ?_
  refine v_seq ?_
  refine v_reg ?_
  refine sy (.t ⟨false, [.vp 0 7]⟩) (zfa tabOk rfl rfl rfl (e rfl rfl) rfl rfl) rfl rfl ?_
  refine sy (.t ⟨false, [.d (dI (a.Sent))]⟩) (zlv tabOk rfl (e rfl rfl) rfl rfl rfl) rfl rfl ?_
  refine sy (.t ⟨false, [.vp 2 7]⟩) (zfa tabOk rfl rfl rfl (e rfl rfl) rfl rfl) rfl rfl ?_
  refine sw 2 (.var [.d (dI (a.No)), .d (dI (a.Client)), .d (dI (a.Code)), .d (dS (a.Q.Name)), .d (dI (a.Q.Typ)), .sr 3 1 0 ((a.Links.map Record.cells).length) ((a.Links.map Record.cells).length), .sr 4 1 0 ((a.L.map Record.cells).length) ((a.L.map Record.cells).length), .d (dI (a.Sent))]) (zst tabOk rfl (e rfl rfl) rfl (e rfl rfl) rfl rfl rfl) rfl rfl ?_
  refine s_end ?_
  refine v_seq ?_
  refine v_reg ?_
  refine sy (.t ⟨true, [.d (dI (a.No)), .d (dI (a.Client)), .d (dI (a.Code)), .d (dS (a.Q.Name)), .d (dI (a.Q.Typ)), .sr 3 1 0 ((a.Links.map Record.cells).length) ((a.Links.map Record.cells).length), .sr 4 1 0 ((a.L.map Record.cells).length) ((a.L.map Record.cells).length), .d (dI (a.Sent))]⟩) (zlv tabOk rfl (e rfl rfl) rfl rfl rfl) rfl rfl ?_
  refine sw 1 (.var [.d (dI (a.No)), .d (dI (a.Client)), .d (dI (a.Code)), .d (dS (a.Q.Name)), .d (dI (a.Q.Typ)), .sr 3 1 0 ((a.Links.map Record.cells).length) ((a.Links.map Record.cells).length), .sr 4 1 0 ((a.L.map Record.cells).length) ((a.L.map Record.cells).length), .d (dI (a.Sent))]) (zst tabOk rfl (e rfl rfl) rfl (e rfl rfl) rfl rfl rfl) rfl rfl ?_
  refine s_end ?_
  refine v_ret ?_
  exact post_ret (rv (.cell (eg rfl rfl) rfl rfl (.inl rfl) rfl) rfl (.lf (.lf (.lf (.lf (.lf (.sr rfl le_all take_all (.sr rfl le_all take_all (.lf .nil)))))))) rfl .nil) (.ro .nil) rfl
set_option maxRecDepth 20000 in
theorem tr_eqAnswer (a b : Answer) (ha : a.Fit) (hb0 : b.Fit) : Tr Try.prog 24 [.ro ⟨true, [dI (a.No), dI (a.Client), dI (a.Code), dS (a.Q.Name), dI (a.Q.Typ), .sl 6 (a.Links.map Record.cells), .sl 6 (a.L.map Record.cells), dI (a.Sent)]⟩, .ro ⟨true, [dI (b.No), dI (b.Client), dI (b.Code), dS (b.Q.Name), dI (b.Q.Typ), .sl 6 (b.Links.map Record.cells), .sl 6 (b.L.map Record.cells), dI (b.Sent)]⟩] [one (dB (decide (a = b)))] := by
  refine tr_go tabOk Try.func24 rfl rfl rfl rfl rfl (ov := [(0, .t ⟨true, [.d (dI (a.No)), .d (dI (a.Client)), .d (dI (a.Code)), .d (dS (a.Q.Name)), .d (dI (a.Q.Typ)), .d (.sl 6 (a.Links.map Record.cells)), .d (.sl 6 (a.L.map Record.cells)), .d (dI (a.Sent))]⟩), (1, .t ⟨true, [.d (dI (b.No)), .d (dI (b.Client)), .d (dI (b.Code)), .d (dS (b.Q.Name)), .d (dI (b.Q.Typ)), .d (.sl 6 (b.Links.map Record.cells)), .d (.sl 6 (b.L.map Record.cells)), .d (dI (b.Sent))]⟩)]) (hv := []) rfl rfl ?_
  refine v_seq ?_
  refine v_reg ?_
  refine sr 0 (.t ⟨false, [.vp 0 0]⟩) (.var [.d (dI (a.No)), .d (dI (a.Client)), .d (dI (a.Code)), .d (dS (a.Q.Name)), .d (dI (a.Q.Typ)), .d (.sl 6 (a.Links.map Record.cells)), .d (.sl 6 (a.L.map Record.cells)), .d (dI (a.Sent))]) (zbx rfl (e rfl rfl) rfl rfl rfl) rfl rfl ?_
  refine sr 1 (.t ⟨false, [.vp 1 0]⟩) (.var [.d (dI (b.No)), .d (dI (b.Client)), .d (dI (b.Code)), .d (dS (b.Q.Name)), .d (dI (b.Q.Typ)), .d (.sl 6 (b.Links.map Record.cells)), .d (.sl 6 (b.L.map Record.cells)), .d (dI (b.Sent))]) (zbx rfl (e rfl rfl) rfl rfl rfl) rfl rfl ?_
  refine sy _ (zas rfl (ec rfl)) rfl rfl ?_
  refine s_end ?_
  refine v_seq ?_
  refine v_seq ?_
  refine v_reg ?_
  refine sy (.t ⟨false, [.vp 0 0]⟩) (zfa tabOk rfl rfl rfl (e rfl rfl) rfl rfl) rfl rfl ?_
  refine sy (.t ⟨false, [.d (dI (a.No))]⟩) (zlv tabOk rfl (e rfl rfl) rfl rfl rfl) rfl rfl ?_
  refine sy (.t ⟨false, [.vp 1 0]⟩) (zfa tabOk rfl rfl rfl (e rfl rfl) rfl rfl) rfl rfl ?_
  refine sy (.t ⟨false, [.d (dI (b.No))]⟩) (zlv tabOk rfl (e rfl rfl) rfl rfl rfl) rfl rfl ?_
  refine sy (.t ⟨false, [.d (dB (decide ((a.No) ≠ (b.No))))]⟩) (y_bin rfl (e rfl rfl) (e rfl rfl) (fun _ => b_neq) rfl) rfl rfl ?_
  refine s_end ?_
  refine v_cond (e rfl rfl) (fun hb1 => ?_) fun hb1 => ?_
  · refine v_seq ?_
    refine v_reg ?_
    refine sy _ (zas rfl (ec rfl)) rfl rfl ?_
    refine s_end ?_
    refine v_ret ?_
    have hr : decide (a = b) = false := by cases a; cases b; simp_all
    rw [hr]
    exact post_ret (rv (.tmp (eg rfl rfl)) rfl (.lf .nil) rfl .nil) (.ro (.ro .nil)) rfl
  refine v_skip ?_
  refine v_seq ?_
  refine v_seq ?_
  refine v_reg ?_
  refine sy (.t ⟨false, [.vp 0 1]⟩) (zfa tabOk rfl rfl rfl (e rfl rfl) rfl rfl) rfl rfl ?_
  refine sy (.t ⟨false, [.d (dI (a.Client))]⟩) (zlv tabOk rfl (e rfl rfl) rfl rfl rfl) rfl rfl ?_
  refine sy (.t ⟨false, [.vp 1 1]⟩) (zfa tabOk rfl rfl rfl (e rfl rfl) rfl rfl) rfl rfl ?_
  refine sy (.t ⟨false, [.d (dI (b.Client))]⟩) (zlv tabOk rfl (e rfl rfl) rfl rfl rfl) rfl rfl ?_
  refine sy (.t ⟨false, [.d (dB (decide ((a.Client) ≠ (b.Client))))]⟩) (y_bin rfl (e rfl rfl) (e rfl rfl) (fun _ => b_neq) rfl) rfl rfl ?_
  refine s_end ?_
  refine v_cond (e rfl rfl) (fun hb2 => ?_) fun hb2 => ?_
  · refine v_seq ?_
    refine v_reg ?_
    refine sy _ (zas rfl (ec rfl)) rfl rfl ?_
    refine s_end ?_
    refine v_ret ?_
    have hr : decide (a = b) = false := by cases a; cases b; simp_all
    rw [hr]
    exact post_ret (rv (.tmp (eg rfl rfl)) rfl (.lf .nil) rfl .nil) (.ro (.ro .nil)) rfl
  refine v_skip ?_
  refine v_seq ?_
  refine v_seq ?_
  refine v_reg ?_
  refine sy (.t ⟨false, [.vp 0 2]⟩) (zfa tabOk rfl rfl rfl (e rfl rfl) rfl rfl) rfl rfl ?_
  refine sy (.t ⟨false, [.d (dI (a.Code))]⟩) (zlv tabOk rfl (e rfl rfl) rfl rfl rfl) rfl rfl ?_
  refine sy (.t ⟨false, [.vp 1 2]⟩) (zfa tabOk rfl rfl rfl (e rfl rfl) rfl rfl) rfl rfl ?_
  refine sy (.t ⟨false, [.d (dI (b.Code))]⟩) (zlv tabOk rfl (e rfl rfl) rfl rfl rfl) rfl rfl ?_
  refine sy (.t ⟨false, [.d (dB (decide ((a.Code) ≠ (b.Code))))]⟩) (y_bin rfl (e rfl rfl) (e rfl rfl) (fun _ => b_neq) rfl) rfl rfl ?_
  refine s_end ?_
  refine v_cond (e rfl rfl) (fun hb3 => ?_) fun hb3 => ?_
  · refine v_seq ?_
    refine v_reg ?_
    refine sy _ (zas rfl (ec rfl)) rfl rfl ?_
    refine s_end ?_
    refine v_ret ?_
    have hr : decide (a = b) = false := by cases a; cases b; simp_all
    rw [hr]
    exact post_ret (rv (.tmp (eg rfl rfl)) rfl (.lf .nil) rfl .nil) (.ro (.ro .nil)) rfl
  refine v_skip ?_
  refine v_seq ?_
  refine v_seq ?_
  refine v_reg ?_
  refine sy (.t ⟨false, [.vp 0 3]⟩) (zfa tabOk rfl rfl rfl (e rfl rfl) rfl rfl) rfl rfl ?_
  refine sy (.t ⟨true, [.d (dS (a.Q.Name)), .d (dI (a.Q.Typ))]⟩) (zlv tabOk rfl (e rfl rfl) rfl rfl rfl) rfl rfl ?_
  refine sy (.t ⟨false, [.vp 1 3]⟩) (zfa tabOk rfl rfl rfl (e rfl rfl) rfl rfl) rfl rfl ?_
  refine sy (.t ⟨true, [.d (dS (b.Q.Name)), .d (dI (b.Q.Typ))]⟩) (zlv tabOk rfl (e rfl rfl) rfl rfl rfl) rfl rfl ?_
  refine sd (.t ⟨false, [.d (dB (decide (a.Q = b.Q)))]⟩) (zcall 2 (.t ⟨false, [.d (dB (decide (a.Q = b.Q)))]⟩) [] rfl (tr_eqQuest a.Q b.Q ha.Q hb0.Q) (ar (e rfl rfl) (.d (.d .nil)) (ar (e rfl rfl) (.d (.d .nil)) .nil)) rfl rfl rfl) rfl rfl rfl rfl ?_
  refine sy (.t ⟨false, [.d (dB (!(decide (a.Q = b.Q))))]⟩) (y_un rfl (e rfl rfl) (fun _ => u_not) rfl) rfl rfl ?_
  refine s_end ?_
  refine v_cond (e rfl rfl) (fun hb4 => ?_) fun hb4 => ?_
  · refine v_seq ?_
    refine v_reg ?_
    refine sy _ (zas rfl (ec rfl)) rfl rfl ?_
    refine s_end ?_
    refine v_ret ?_
    have hr : decide (a = b) = false := by cases a; cases b; simp_all
    rw [hr]
    exact post_ret (rv (.tmp (eg rfl rfl)) rfl (.lf .nil) rfl .nil) (.ro (.ro .nil)) rfl
  refine v_skip ?_
  refine v_seq ?_
  refine v_seq ?_
  refine v_reg ?_
  refine sy (.t ⟨false, [.vp 0 5]⟩) (zfa tabOk rfl rfl rfl (e rfl rfl) rfl rfl) rfl rfl ?_
  refine sy (.t ⟨false, [.d (.sl 6 (a.Links.map Record.cells))]⟩) (zlv tabOk rfl (e rfl rfl) rfl rfl rfl) rfl rfl ?_
  refine sy (.t ⟨false, [.vp 1 5]⟩) (zfa tabOk rfl rfl rfl (e rfl rfl) rfl rfl) rfl rfl ?_
  refine sy (.t ⟨false, [.d (.sl 6 (b.Links.map Record.cells))]⟩) (zlv tabOk rfl (e rfl rfl) rfl rfl rfl) rfl rfl ?_
  refine sd (.t ⟨false, [.d (dB (decide (a.Links = b.Links)))]⟩) (zcall 2 (.t ⟨false, [.d (dB (decide (a.Links = b.Links)))]⟩) [] rfl (tr_eqRecordS a.Links b.Links ha.Links hb0.Links) (ar (e rfl rfl) (.d .nil) (ar (e rfl rfl) (.d .nil) .nil)) rfl rfl rfl) rfl rfl rfl rfl ?_
  refine sy (.t ⟨false, [.d (dB (!(decide (a.Links = b.Links))))]⟩) (y_un rfl (e rfl rfl) (fun _ => u_not) rfl) rfl rfl ?_
  refine s_end ?_
  refine v_cond (e rfl rfl) (fun hb5 => ?_) fun hb5 => ?_
  · refine v_seq ?_
    refine v_reg ?_
    refine sy _ (zas rfl (ec rfl)) rfl rfl ?_
    refine s_end ?_
    refine v_ret ?_
    have hr : decide (a = b) = false := by cases a; cases b; simp_all
    rw [hr]
    exact post_ret (rv (.tmp (eg rfl rfl)) rfl (.lf .nil) rfl .nil) (.ro (.ro .nil)) rfl
  refine v_skip ?_
  refine v_seq ?_
  refine v_seq ?_
  refine v_reg ?_
  refine sy (.t ⟨false, [.vp 0 6]⟩) (zfa tabOk rfl rfl rfl (e rfl rfl) rfl rfl) rfl rfl ?_
  refine sy (.t ⟨false, [.d (.sl 6 (a.L.map Record.cells))]⟩) (zlv tabOk rfl (e rfl rfl) rfl rfl rfl) rfl rfl ?_
  refine sy (.t ⟨false, [.vp 1 6]⟩) (zfa tabOk rfl rfl rfl (e rfl rfl) rfl rfl) rfl rfl ?_
  refine sy (.t ⟨false, [.d (.sl 6 (b.L.map Record.cells))]⟩) (zlv tabOk rfl (e rfl rfl) rfl rfl rfl) rfl rfl ?_
  refine sd (.t ⟨false, [.d (dB (decide (a.L = b.L)))]⟩) (zcall 2 (.t ⟨false, [.d (dB (decide (a.L = b.L)))]⟩) [] rfl (tr_eqRecordS a.L b.L ha.L hb0.L) (ar (e rfl rfl) (.d .nil) (ar (e rfl rfl) (.d .nil) .nil)) rfl rfl rfl) rfl rfl rfl rfl ?_
  refine sy (.t ⟨false, [.d (dB (!(decide (a.L = b.L))))]⟩) (y_un rfl (e rfl rfl) (fun _ => u_not) rfl) rfl rfl ?_
  refine s_end ?_
  refine v_cond (e rfl rfl) (fun hb6 => ?_) fun hb6 => ?_
  · refine v_seq ?_
    refine v_reg ?_
    refine sy _ (zas rfl (ec rfl)) rfl rfl ?_
    refine s_end ?_
    refine v_ret ?_
    have hr : decide (a = b) = false := by cases a; cases b; simp_all
    rw [hr]
    exact post_ret (rv (.tmp (eg rfl rfl)) rfl (.lf .nil) rfl .nil) (.ro (.ro .nil)) rfl
  refine v_skip ?_
  refine v_seq ?_
  refine v_seq ?_
  refine v_reg ?_
  refine sy (.t ⟨false, [.vp 0 7]⟩) (zfa tabOk rfl rfl rfl (e rfl rfl) rfl rfl) rfl rfl ?_
  refine sy (.t ⟨false, [.d (dI (a.Sent))]⟩) (zlv tabOk rfl (e rfl rfl) rfl rfl rfl) rfl rfl ?_
  refine sy (.t ⟨false, [.vp 1 7]⟩) (zfa tabOk rfl rfl rfl (e rfl rfl) rfl rfl) rfl rfl ?_
  refine sy (.t ⟨false, [.d (dI (b.Sent))]⟩) (zlv tabOk rfl (e rfl rfl) rfl rfl rfl) rfl rfl ?_
  refine sy (.t ⟨false, [.d (dB (decide ((a.Sent) ≠ (b.Sent))))]⟩) (y_bin rfl (e rfl rfl) (e rfl rfl) (fun _ => b_neq) rfl) rfl rfl ?_
  refine s_end ?_
  refine v_cond (e rfl rfl) (fun hb7 => ?_) fun hb7 => ?_
  · refine v_seq ?_
    refine v_reg ?_
    refine sy _ (zas rfl (ec rfl)) rfl rfl ?_
    refine s_end ?_
    refine v_ret ?_
    have hr : decide (a = b) = false := by cases a; cases b; simp_all
    rw [hr]
    exact post_ret (rv (.tmp (eg rfl rfl)) rfl (.lf .nil) rfl .nil) (.ro (.ro .nil)) rfl
  refine v_skip ?_
  refine v_seq ?_
  refine v_reg ?_
  refine sy _ (zas rfl (ec rfl)) rfl rfl ?_
  refine s_end ?_
  refine v_ret ?_
  have hr : decide (a = b) = true := by cases a; cases b; simp_all
  rw [hr]
  exact post_ret (rv (.tmp (eg rfl rfl)) rfl (.lf .nil) rfl .nil) (.ro (.ro .nil)) rfl
set_option maxRecDepth 20000 in
theorem tr_markAnswer (a : Answer) (ha : a.Fit) (k : Int) (hk : k < 9223372036854775808) : Tr Try.prog 25 [.mu ⟨true, [dI (a.No), dI (a.Client), dI (a.Code), dS (a.Q.Name), dI (a.Q.Typ), .sl 6 (a.Links.map Record.cells), .sl 6 (a.L.map Record.cells), dI (a.Sent)]⟩ ⟨true, [dI (((mkvAnswer a k).1).No), dI (((mkvAnswer a k).1).Client), dI (((mkvAnswer a k).1).Code), dS ((((mkvAnswer a k).1).Q).Name), dI ((((mkvAnswer a k).1).Q).Typ), .sl 6 ((((mkvAnswer a k).1).Links).map Record.cells), .sl 6 ((((mkvAnswer a k).1).L).map Record.cells), dI (((mkvAnswer a k).1).Sent)]⟩, .ro (one (dI k))] [one (dI (mkvAnswer a k).2)] := by
  refine tr_go tabOk Try.func25 rfl rfl rfl rfl rfl (ov := [(0, .t ⟨true, [.d (dI (a.No)), .d (dI (a.Client)), .d (dI (a.Code)), .d (dS (a.Q.Name)), .d (dI (a.Q.Typ)), .sr 0 0 0 ((a.Links.map Record.cells).length) ((a.Links.map Record.cells).length), .sr 1 0 0 ((a.L.map Record.cells).length) ((a.L.map Record.cells).length), .d (dI (a.Sent))]⟩), (1, .t ⟨false, [.d (dI (k))]⟩)]) (hv := [(0, .row 6 (a.Links.map Record.cells) true 0 0), (1, .row 6 (a.L.map Record.cells) true 0 0)]) rfl rfl ?_
  refine v_seq ?_
  refine v_reg ?_
  refine sr 2 (.t ⟨false, [.vp 2 0]⟩) (.var [.d (dI (a.No)), .d (dI (a.Client)), .d (dI (a.Code)), .d (dS (a.Q.Name)), .d (dI (a.Q.Typ)), .sr 0 0 0 ((a.Links.map Record.cells).length) ((a.Links.map Record.cells).length), .sr 1 0 0 ((a.L.map Record.cells).length) ((a.L.map Record.cells).length), .d (dI (a.Sent))]) (zbx rfl (e rfl rfl) rfl rfl rfl) rfl rfl ?_
  refine sy _ (zas rfl (ec rfl)) rfl rfl ?_
  refine s_end ?_
  refine v_seq ?_
  refine v_reg ?_
  refine sy (.t ⟨false, [.vp 2 5]⟩) (zfa tabOk rfl rfl rfl (e rfl rfl) rfl rfl) rfl rfl ?_
  refine sy (.t ⟨false, [.sr 0 0 0 ((a.Links.map Record.cells).length) ((a.Links.map Record.cells).length)]⟩) (zlv tabOk rfl (e rfl rfl) rfl rfl rfl) rfl rfl ?_
  refine sy _ (zmv rfl (e rfl rfl)) rfl rfl ?_
  refine sd (.t ⟨false, [.d (dI ((mkL mkRecord a.Links k).2))]⟩) (zcall 3 (sc (dI (mkL mkRecord a.Links k).2)) [(0, .row 6 (((mkL mkRecord a.Links k).1).map Record.cells) true 0 1)] rfl (tr_markRecordS a.Links ha.Links k hk) (am (e rfl rfl) (.sr rfl rfl (by simp [mkL_len]) .nil) (ar (e rfl rfl) (.d .nil) .nil)) rfl rfl rfl) rfl rfl rfl rfl ?_
  have hl1 : (mkL mkRecord a.Links k).2 < 9223372036854775808 := mkL_lt mkRecord_lt hk
  refine sy _ (zas rfl (e rfl rfl)) rfl rfl ?_
  refine s_end ?_
  refine v_seq ?_
  refine v_reg ?_
  refine sy (.t ⟨false, [.vp 2 6]⟩) (zfa tabOk rfl rfl rfl (e rfl rfl) rfl rfl) rfl rfl ?_
  refine sy (.t ⟨false, [.sr 1 0 0 ((a.L.map Record.cells).length) ((a.L.map Record.cells).length)]⟩) (zlv tabOk rfl (e rfl rfl) rfl rfl rfl) rfl rfl ?_
  refine sy _ (zmv rfl (e rfl rfl)) rfl rfl ?_
  refine sd (.t ⟨false, [.d (dI ((mkL mkRecord a.L ((mkL mkRecord a.Links k).2)).2))]⟩) (zcall 3 (sc (dI (mkL mkRecord a.L ((mkL mkRecord a.Links k).2)).2)) [(1, .row 6 (((mkL mkRecord a.L ((mkL mkRecord a.Links k).2)).1).map Record.cells) true 0 1)] rfl (tr_markRecordS a.L ha.L ((mkL mkRecord a.Links k).2) hl1) (am (e rfl rfl) (.sr rfl rfl (by simp [mkL_len]) .nil) (ar (e rfl rfl) (.d .nil) .nil)) rfl rfl rfl) rfl rfl rfl rfl ?_
  have hl2 : (mkL mkRecord a.L ((mkL mkRecord a.Links k).2)).2 < 9223372036854775808 := mkL_lt mkRecord_lt hl1
  refine sy _ (zas rfl (e rfl rfl)) rfl rfl ?_
  refine s_end ?_
  refine v_seq ?_
  refine v_reg ?_
  refine sy _ (zmv rfl (e rfl rfl)) rfl rfl ?_
  refine sy _ (zas rfl (e rfl rfl)) rfl rfl ?_
  refine s_end ?_
  refine v_ret ?_
  exact post_ret (rv (.tmp (eg rfl rfl)) rfl (.lf .nil) rfl .nil) (.mu rfl (.lf (.lf (.lf (.lf (.lf (.sl rfl (by simp [mkvAnswer, mkL_len]) (.sl rfl (by simp [mkvAnswer, mkL_len]) (.lf .nil)))))))) (.ro .nil)) rfl
set_option maxRecDepth 20000 in
theorem tr_heldAnswer (a b : Answer) (ha : a.Fit) (k : Int) (h0 : 0 ≤ k) (h1 : k + 16 * (a.wt : Int) < 4611686018427387904) (hb : b = (mkvAnswer a k).1) : Tr Try.prog 26 [.ro ⟨true, [dI (b.No), dI (b.Client), dI (b.Code), dS (b.Q.Name), dI (b.Q.Typ), .sl 6 (b.Links.map Record.cells), .sl 6 (b.L.map Record.cells), dI (b.Sent)]⟩, .ro (one (dI k))] [one (dI (mkvAnswer a k).2)] := by
  simp only [Answer.wt, Quest.wt] at h1
  refine tr_go tabOk Try.func26 rfl rfl rfl rfl rfl (ov := [(0, .t ⟨true, [.d (dI (b.No)), .d (dI (b.Client)), .d (dI (b.Code)), .d (dS (b.Q.Name)), .d (dI (b.Q.Typ)), .d (.sl 6 (b.Links.map Record.cells)), .d (.sl 6 (b.L.map Record.cells)), .d (dI (b.Sent))]⟩), (1, .t ⟨false, [.d (dI (k))]⟩)]) (hv := []) rfl rfl ?_
  refine v_seq ?_
  refine v_reg ?_
  refine sr 0 (.t ⟨false, [.vp 0 0]⟩) (.var [.d (dI (b.No)), .d (dI (b.Client)), .d (dI (b.Code)), .d (dS (b.Q.Name)), .d (dI (b.Q.Typ)), .d (.sl 6 (b.Links.map Record.cells)), .d (.sl 6 (b.L.map Record.cells)), .d (dI (b.Sent))]) (zbx rfl (e rfl rfl) rfl rfl rfl) rfl rfl ?_
  refine sy _ (zas rfl (ec rfl)) rfl rfl ?_
  refine s_end ?_
  refine v_seq ?_
  refine v_reg ?_
  refine sy (.t ⟨false, [.vp 0 5]⟩) (zfa tabOk rfl rfl rfl (e rfl rfl) rfl rfl) rfl rfl ?_
  refine sy (.t ⟨false, [.d (.sl 6 (b.Links.map Record.cells))]⟩) (zlv tabOk rfl (e rfl rfl) rfl rfl rfl) rfl rfl ?_
  refine sy _ (zmv rfl (e rfl rfl)) rfl rfl ?_
  have hq1 : b.Links = (mkL mkRecord a.Links k).1 := by rw [hb]; rfl
  have hc1 := mkL_ge mkRecord_ok (xs := a.Links) (k := k) (by omega) (by omega)
  refine sd (.t ⟨false, [.d (dI ((mkL mkRecord a.Links k).2))]⟩) (zcall 1 (sc (dI (mkL mkRecord a.Links k).2)) [] rfl (tr_heldRecordS a.Links b.Links ha.Links k (by omega) (by omega) hq1) (ar (e rfl rfl) (.d .nil) (ar (e rfl rfl) (.d .nil) .nil)) rfl rfl rfl) rfl rfl rfl rfl ?_
  refine sy _ (zas rfl (e rfl rfl)) rfl rfl ?_
  refine s_end ?_
  refine v_seq ?_
  refine v_seq ?_
  refine v_reg ?_
  refine sy _ (zmv rfl (e rfl rfl)) rfl rfl ?_
  refine sy (.t ⟨false, [.d (dB (decide (((mkL mkRecord a.Links k).2) < (0))))]⟩) (y_bin rfl (e rfl rfl) (ec rfl) (fun _ => b_lss) rfl) rfl rfl ?_
  refine s_end ?_
  refine v_cond (e rfl rfl) (fun hb1 => ?_) fun hb1 => ?_
  · exact absurd hb1 (by simp; omega)
  refine v_skip ?_
  refine v_seq ?_
  refine v_reg ?_
  refine sy (.t ⟨false, [.vp 0 6]⟩) (zfa tabOk rfl rfl rfl (e rfl rfl) rfl rfl) rfl rfl ?_
  refine sy (.t ⟨false, [.d (.sl 6 (b.L.map Record.cells))]⟩) (zlv tabOk rfl (e rfl rfl) rfl rfl rfl) rfl rfl ?_
  refine sy _ (zmv rfl (e rfl rfl)) rfl rfl ?_
  have hq2 : b.L = (mkL mkRecord a.L ((mkL mkRecord a.Links k).2)).1 := by rw [hb]; rfl
  have hc2 := mkL_ge mkRecord_ok (xs := a.L) (k := (mkL mkRecord a.Links k).2) (by omega) (by omega)
  refine sd (.t ⟨false, [.d (dI ((mkL mkRecord a.L ((mkL mkRecord a.Links k).2)).2))]⟩) (zcall 1 (sc (dI (mkL mkRecord a.L ((mkL mkRecord a.Links k).2)).2)) [] rfl (tr_heldRecordS a.L b.L ha.L ((mkL mkRecord a.Links k).2) (by omega) (by omega) hq2) (ar (e rfl rfl) (.d .nil) (ar (e rfl rfl) (.d .nil) .nil)) rfl rfl rfl) rfl rfl rfl rfl ?_
  refine sy _ (zas rfl (e rfl rfl)) rfl rfl ?_
  refine s_end ?_
  refine v_seq ?_
  refine v_seq ?_
  refine v_reg ?_
  refine sy _ (zmv rfl (e rfl rfl)) rfl rfl ?_
  refine sy (.t ⟨false, [.d (dB (decide (((mkL mkRecord a.L ((mkL mkRecord a.Links k).2)).2) < (0))))]⟩) (y_bin rfl (e rfl rfl) (ec rfl) (fun _ => b_lss) rfl) rfl rfl ?_
  refine s_end ?_
  refine v_cond (e rfl rfl) (fun hb2 => ?_) fun hb2 => ?_
  · exact absurd hb2 (by simp; omega)
  refine v_skip ?_
  refine v_seq ?_
  refine v_reg ?_
  refine sy _ (zmv rfl (e rfl rfl)) rfl rfl ?_
  refine sy _ (zas rfl (e rfl rfl)) rfl rfl ?_
  refine s_end ?_
  refine v_ret ?_
  exact post_ret (rv (.tmp (eg rfl rfl)) rfl (.lf .nil) rfl .nil) (.ro (.ro .nil)) rfl
end Go.Proofs.Ytglilpigoocgeaa.V
