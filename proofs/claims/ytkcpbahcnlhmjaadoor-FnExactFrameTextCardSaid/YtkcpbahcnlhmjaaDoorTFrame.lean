/-
  The families of laws of Frame.
-/
import Derived.Test.YtkcpbahcnlhmjaaDoorTIntS
import Derived.Test.YtkcpbahcnlhmjaaDoorTQuest
import Derived.Test.YtkcpbahcnlhmjaaDoorTRecordS
import Derived.Test.YtkcpbahcnlhmjaaDoorTStringS
import Derived.Test.YtkcpbahcnlhmjaaDoorN
import Derived.Test.YtkcpbahcnlhmjaaDoorC
import Derived.Test.YtkcpbahcnlhmjaaDoorTExch
namespace Go.Proofs.YtkcpbahcnlhmjaaDoor.V
open Go
set_option linter.unusedVariables false
set_option linter.unusedSimpArgs false
set_option maxRecDepth 20000 in
theorem tr_szFrame (a : Frame) (hb : a.Bnd) (left : Int) (h0 : 0 ≤ left) (hl : left ≤ 1048576) : TrX Tryd.prog 7 [.ro ⟨true, [dS (a.Ask.Name), dI (a.Ask.Typ), dS (a.Q.Name), dI (a.Q.Typ), .sl 6 (a.Links.map Record.cells), dS (a.Apex), .sl 1 (a.Servers.map encI), .sl 1 (a.Need.map encS), dI (a.Down), dI (a.Left), dI (a.Pc), dI (a.X.Id), dI (a.X.Addr), dI (a.X.Try), dI (a.X.Due)]⟩, .ro (one (dI left))] (resI fun r => 0 ≤ r → r + (a.wt : Int) ≤ left ∧ a.Fit) := by
  have := hb.Apex; simp only [bndS] at this
  refine trX_go tabOk Tryd.func7 rfl rfl rfl rfl rfl (ov := [(0, .t ⟨true, [.d (dS (a.Ask.Name)), .d (dI (a.Ask.Typ)), .d (dS (a.Q.Name)), .d (dI (a.Q.Typ)), .d (.sl 6 (a.Links.map Record.cells)), .d (dS (a.Apex)), .d (.sl 1 (a.Servers.map encI)), .d (.sl 1 (a.Need.map encS)), .d (dI (a.Down)), .d (dI (a.Left)), .d (dI (a.Pc)), .d (dI (a.X.Id)), .d (dI (a.X.Addr)), .d (dI (a.X.Try)), .d (dI (a.X.Due))]⟩), (1, .t ⟨false, [.d (dI (left))]⟩)]) (hv := []) rfl rfl ?_
  refine v_seq ?_
  refine v_reg ?_
  refine sr 0 (.t ⟨false, [.vp 0 0]⟩) (.var [.d (dS (a.Ask.Name)), .d (dI (a.Ask.Typ)), .d (dS (a.Q.Name)), .d (dI (a.Q.Typ)), .d (.sl 6 (a.Links.map Record.cells)), .d (dS (a.Apex)), .d (.sl 1 (a.Servers.map encI)), .d (.sl 1 (a.Need.map encS)), .d (dI (a.Down)), .d (dI (a.Left)), .d (dI (a.Pc)), .d (dI (a.X.Id)), .d (dI (a.X.Addr)), .d (dI (a.X.Try)), .d (dI (a.X.Due))]) (zbx rfl (e rfl rfl) rfl rfl rfl) rfl rfl ?_
  refine sy _ (zas rfl (ec rfl)) rfl rfl ?_
  refine s_end ?_
  refine v_seq ?_
  refine v_reg ?_
  refine sy (.t ⟨false, [.vp 0 0]⟩) (zfa tabOk rfl rfl rfl (e rfl rfl) rfl rfl) rfl rfl ?_
  refine sy (.t ⟨true, [.d (dS (a.Ask.Name)), .d (dI (a.Ask.Typ))]⟩) (zlv tabOk rfl (e rfl rfl) rfl rfl rfl) rfl rfl ?_
  refine sy _ (zmv rfl (e rfl rfl)) rfl rfl ?_
  refine sxI (zcallX rfl (tr_szQuest a.Ask hb.Ask left (by omega) (by omega)) (ar (e rfl rfl) (.d (.d .nil)) (ar (e rfl rfl) (.d .nil) .nil))) rfl rfl (fun r1 hr1 => ?_)
  refine sy _ (zas rfl (e rfl rfl)) rfl rfl ?_
  refine s_end ?_
  refine v_seq ?_
  refine v_seq ?_
  refine v_reg ?_
  refine sy _ (zmv rfl (e rfl rfl)) rfl rfl ?_
  refine sy (.t ⟨false, [.d (dB (decide ((r1) < (0))))]⟩) (y_bin rfl (e rfl rfl) (ec rfl) (fun _ => b_lss) rfl) rfl rfl ?_
  refine s_end ?_
  refine v_cond (e rfl rfl) (fun hb2 => ?_) fun hb2 => ?_
  · refine v_seq ?_
    refine v_reg ?_
    refine sy _ (zas rfl (ec rfl)) rfl rfl ?_
    refine s_end ?_
    refine v_ret ?_
    exact post_retX [one (dI (-1))] ⟨-1, fun h => by omega, rfl⟩ (rv (.tmp (eg rfl rfl)) rfl (.lf .nil) rfl .nil) (.ro (.ro .nil)) rfl
  have p3 : 0 ≤ r1 := by have := hb2; simp at this; omega
  have p3q := hr1 p3
  have := p3q.1
  refine v_skip ?_
  refine v_seq ?_
  refine v_reg ?_
  refine sy (.t ⟨false, [.vp 0 2]⟩) (zfa tabOk rfl rfl rfl (e rfl rfl) rfl rfl) rfl rfl ?_
  refine sy (.t ⟨true, [.d (dS (a.Q.Name)), .d (dI (a.Q.Typ))]⟩) (zlv tabOk rfl (e rfl rfl) rfl rfl rfl) rfl rfl ?_
  refine sy _ (zmv rfl (e rfl rfl)) rfl rfl ?_
  refine sxI (zcallX rfl (tr_szQuest a.Q hb.Q r1 (by omega) (by omega)) (ar (e rfl rfl) (.d (.d .nil)) (ar (e rfl rfl) (.d .nil) .nil))) rfl rfl (fun r4 hr4 => ?_)
  refine sy _ (zas rfl (e rfl rfl)) rfl rfl ?_
  refine s_end ?_
  refine v_seq ?_
  refine v_seq ?_
  refine v_reg ?_
  refine sy _ (zmv rfl (e rfl rfl)) rfl rfl ?_
  refine sy (.t ⟨false, [.d (dB (decide ((r4) < (0))))]⟩) (y_bin rfl (e rfl rfl) (ec rfl) (fun _ => b_lss) rfl) rfl rfl ?_
  refine s_end ?_
  refine v_cond (e rfl rfl) (fun hb5 => ?_) fun hb5 => ?_
  · refine v_seq ?_
    refine v_reg ?_
    refine sy _ (zas rfl (ec rfl)) rfl rfl ?_
    refine s_end ?_
    refine v_ret ?_
    exact post_retX [one (dI (-1))] ⟨-1, fun h => by omega, rfl⟩ (rv (.tmp (eg rfl rfl)) rfl (.lf .nil) rfl .nil) (.ro (.ro .nil)) rfl
  have p6 : 0 ≤ r4 := by have := hb5; simp at this; omega
  have p6q := hr4 p6
  have := p6q.1
  refine v_skip ?_
  refine v_seq ?_
  refine v_reg ?_
  refine sy (.t ⟨false, [.vp 0 4]⟩) (zfa tabOk rfl rfl rfl (e rfl rfl) rfl rfl) rfl rfl ?_
  refine sy (.t ⟨false, [.d (.sl 6 (a.Links.map Record.cells))]⟩) (zlv tabOk rfl (e rfl rfl) rfl rfl rfl) rfl rfl ?_
  refine sy _ (zmv rfl (e rfl rfl)) rfl rfl ?_
  refine sxI (zcallX rfl (tr_szRecordS a.Links hb.Links r4 (by omega) (by omega)) (ar (e rfl rfl) (.d .nil) (ar (e rfl rfl) (.d .nil) .nil))) rfl rfl (fun r7 hr7 => ?_)
  refine sy _ (zas rfl (e rfl rfl)) rfl rfl ?_
  refine s_end ?_
  refine v_seq ?_
  refine v_seq ?_
  refine v_reg ?_
  refine sy _ (zmv rfl (e rfl rfl)) rfl rfl ?_
  refine sy (.t ⟨false, [.d (dB (decide ((r7) < (0))))]⟩) (y_bin rfl (e rfl rfl) (ec rfl) (fun _ => b_lss) rfl) rfl rfl ?_
  refine s_end ?_
  refine v_cond (e rfl rfl) (fun hb8 => ?_) fun hb8 => ?_
  · refine v_seq ?_
    refine v_reg ?_
    refine sy _ (zas rfl (ec rfl)) rfl rfl ?_
    refine s_end ?_
    refine v_ret ?_
    exact post_retX [one (dI (-1))] ⟨-1, fun h => by omega, rfl⟩ (rv (.tmp (eg rfl rfl)) rfl (.lf .nil) rfl .nil) (.ro (.ro .nil)) rfl
  have p9 : 0 ≤ r7 := by have := hb8; simp at this; omega
  have p9q := hr7 p9
  have := p9q.1
  refine v_skip ?_
  refine v_seq ?_
  refine v_reg ?_
  refine sy _ (zmv rfl (e rfl rfl)) rfl rfl ?_
  refine sy (.t ⟨false, [.vp 0 5]⟩) (zfa tabOk rfl rfl rfl (e rfl rfl) rfl rfl) rfl rfl ?_
  refine sy (.t ⟨false, [.d (dS (a.Apex))]⟩) (zlv tabOk rfl (e rfl rfl) rfl rfl rfl) rfl rfl ?_
  refine sy (.t ⟨false, [.d (dI (a.Apex.size : Int))]⟩) (zls tabOk rfl rfl (e rfl rfl)) rfl rfl ?_
  refine sy (.t ⟨false, [.d (dI (r7 - (a.Apex.size : Int)))]⟩) (y_bin rfl (e rfl rfl) (e rfl rfl) (fun _ => b_subn (by omega) (by omega)) rfl) rfl rfl ?_
  refine sy _ (zas rfl (e rfl rfl)) rfl rfl ?_
  refine s_end ?_
  refine v_seq ?_
  refine v_seq ?_
  refine v_reg ?_
  refine sy _ (zmv rfl (e rfl rfl)) rfl rfl ?_
  refine sy (.t ⟨false, [.d (dB (decide ((r7 - (a.Apex.size : Int)) < (0))))]⟩) (y_bin rfl (e rfl rfl) (ec rfl) (fun _ => b_lss) rfl) rfl rfl ?_
  refine s_end ?_
  refine v_cond (e rfl rfl) (fun hb10 => ?_) fun hb10 => ?_
  · refine v_seq ?_
    refine v_reg ?_
    refine sy _ (zas rfl (ec rfl)) rfl rfl ?_
    refine s_end ?_
    refine v_ret ?_
    exact post_retX [one (dI (-1))] ⟨-1, fun h => by omega, rfl⟩ (rv (.tmp (eg rfl rfl)) rfl (.lf .nil) rfl .nil) (.ro (.ro .nil)) rfl
  have p11 : 0 ≤ r7 - (a.Apex.size : Int) := by have := hb10; simp at this; omega
  refine v_skip ?_
  refine v_seq ?_
  refine v_reg ?_
  refine sy (.t ⟨false, [.vp 0 6]⟩) (zfa tabOk rfl rfl rfl (e rfl rfl) rfl rfl) rfl rfl ?_
  refine sy (.t ⟨false, [.d (.sl 1 (a.Servers.map encI))]⟩) (zlv tabOk rfl (e rfl rfl) rfl rfl rfl) rfl rfl ?_
  refine sy _ (zmv rfl (e rfl rfl)) rfl rfl ?_
  refine sxI (zcallX rfl (tr_szIntS a.Servers hb.Servers (r7 - (a.Apex.size : Int)) (by omega) (by omega)) (ar (e rfl rfl) (.d .nil) (ar (e rfl rfl) (.d .nil) .nil))) rfl rfl (fun r12 hr12 => ?_)
  refine sy _ (zas rfl (e rfl rfl)) rfl rfl ?_
  refine s_end ?_
  refine v_seq ?_
  refine v_seq ?_
  refine v_reg ?_
  refine sy _ (zmv rfl (e rfl rfl)) rfl rfl ?_
  refine sy (.t ⟨false, [.d (dB (decide ((r12) < (0))))]⟩) (y_bin rfl (e rfl rfl) (ec rfl) (fun _ => b_lss) rfl) rfl rfl ?_
  refine s_end ?_
  refine v_cond (e rfl rfl) (fun hb13 => ?_) fun hb13 => ?_
  · refine v_seq ?_
    refine v_reg ?_
    refine sy _ (zas rfl (ec rfl)) rfl rfl ?_
    refine s_end ?_
    refine v_ret ?_
    exact post_retX [one (dI (-1))] ⟨-1, fun h => by omega, rfl⟩ (rv (.tmp (eg rfl rfl)) rfl (.lf .nil) rfl .nil) (.ro (.ro .nil)) rfl
  have p14 : 0 ≤ r12 := by have := hb13; simp at this; omega
  have p14q := hr12 p14
  have := p14q.1
  refine v_skip ?_
  refine v_seq ?_
  refine v_reg ?_
  refine sy (.t ⟨false, [.vp 0 7]⟩) (zfa tabOk rfl rfl rfl (e rfl rfl) rfl rfl) rfl rfl ?_
  refine sy (.t ⟨false, [.d (.sl 1 (a.Need.map encS))]⟩) (zlv tabOk rfl (e rfl rfl) rfl rfl rfl) rfl rfl ?_
  refine sy _ (zmv rfl (e rfl rfl)) rfl rfl ?_
  refine sxI (zcallX rfl (tr_szStringS a.Need hb.Need r12 (by omega) (by omega)) (ar (e rfl rfl) (.d .nil) (ar (e rfl rfl) (.d .nil) .nil))) rfl rfl (fun r15 hr15 => ?_)
  refine sy _ (zas rfl (e rfl rfl)) rfl rfl ?_
  refine s_end ?_
  refine v_seq ?_
  refine v_seq ?_
  refine v_reg ?_
  refine sy _ (zmv rfl (e rfl rfl)) rfl rfl ?_
  refine sy (.t ⟨false, [.d (dB (decide ((r15) < (0))))]⟩) (y_bin rfl (e rfl rfl) (ec rfl) (fun _ => b_lss) rfl) rfl rfl ?_
  refine s_end ?_
  refine v_cond (e rfl rfl) (fun hb16 => ?_) fun hb16 => ?_
  · refine v_seq ?_
    refine v_reg ?_
    refine sy _ (zas rfl (ec rfl)) rfl rfl ?_
    refine s_end ?_
    refine v_ret ?_
    exact post_retX [one (dI (-1))] ⟨-1, fun h => by omega, rfl⟩ (rv (.tmp (eg rfl rfl)) rfl (.lf .nil) rfl .nil) (.ro (.ro .nil)) rfl
  have p17 : 0 ≤ r15 := by have := hb16; simp at this; omega
  have p17q := hr15 p17
  have := p17q.1
  refine v_skip ?_
  refine v_seq ?_
  refine v_reg ?_
  refine sy _ (zmv rfl (e rfl rfl)) rfl rfl ?_
  refine sy _ (zas rfl (e rfl rfl)) rfl rfl ?_
  refine s_end ?_
  refine v_ret ?_
  have := p3q.1
  have := p6q.1
  have := p9q.1
  have := p14q.1
  have := p17q.1
  exact post_retX [one (dI (r15))] ⟨r15, fun h => ⟨by simp only [Frame.wt, Exch.wt]; omega, ⟨p3q.2, p6q.2, p9q.2, by simp only [fitS]; omega, p14q.2, p17q.2, ⟨⟩⟩⟩, rfl⟩ (rv (.tmp (eg rfl rfl)) rfl (.lf .nil) rfl .nil) (.ro (.ro .nil)) rfl
set_option maxRecDepth 20000 in
theorem tr_toFrame (a : Frame) (ha : a.Fit) : Tr Tryd.prog 9 [.ro ⟨true, [dS (a.Ask.Name), dI (a.Ask.Typ), dS (a.Q.Name), dI (a.Q.Typ), .sl 6 (a.Links.map Record.cells), dS (a.Apex), .sl 1 (a.Servers.map encI), .sl 1 (a.Need.map encS), dI (a.Down), dI (a.Left), dI (a.Pc), dI (a.X.Id), dI (a.X.Addr), dI (a.X.Try), dI (a.X.Due)]⟩] [⟨true, [dS (a.Ask.Name), dI (a.Ask.Typ), dS (a.Q.Name), dI (a.Q.Typ), .sl 6 (a.Links.map Record.cells), dS (a.Apex), .sl 1 (a.Servers.map encI), .sl 1 (a.Need.map encS), dI (a.Down), dI (a.Left), dI (a.Pc), dI (a.X.Id), dI (a.X.Addr), dI (a.X.Try), dI (a.X.Due)]⟩] := by
  refine tr_go tabOk Tryd.func9 rfl rfl rfl rfl rfl (ov := [(0, .t ⟨true, [.d (dS (a.Ask.Name)), .d (dI (a.Ask.Typ)), .d (dS (a.Q.Name)), .d (dI (a.Q.Typ)), .d (.sl 6 (a.Links.map Record.cells)), .d (dS (a.Apex)), .d (.sl 1 (a.Servers.map encI)), .d (.sl 1 (a.Need.map encS)), .d (dI (a.Down)), .d (dI (a.Left)), .d (dI (a.Pc)), .d (dI (a.X.Id)), .d (dI (a.X.Addr)), .d (dI (a.X.Try)), .d (dI (a.X.Due))]⟩)]) (hv := []) rfl rfl ?_
  refine v_seq ?_
  refine v_reg ?_
  refine sr 0 (.t ⟨false, [.vp 0 0]⟩) (.var [.d (dS (a.Ask.Name)), .d (dI (a.Ask.Typ)), .d (dS (a.Q.Name)), .d (dI (a.Q.Typ)), .d (.sl 6 (a.Links.map Record.cells)), .d (dS (a.Apex)), .d (.sl 1 (a.Servers.map encI)), .d (.sl 1 (a.Need.map encS)), .d (dI (a.Down)), .d (dI (a.Left)), .d (dI (a.Pc)), .d (dI (a.X.Id)), .d (dI (a.X.Addr)), .d (dI (a.X.Try)), .d (dI (a.X.Due))]) (zbx rfl (e rfl rfl) rfl rfl rfl) rfl rfl ?_
  refine sr 1 (.t ⟨false, [.vp 1 0]⟩) (.var [.d (dS (⟨#[]⟩)), .d (dI (0)), .d (dS (⟨#[]⟩)), .d (dI (0)), .nl 6, .d (dS (⟨#[]⟩)), .nl 1, .nl 1, .d (dI (0)), .d (dI (0)), .d (dI (0)), .d (dI (0)), .d (dI (0)), .d (dI (0)), .d (dI (0))]) (zal tabOk rfl rfl rfl rfl) rfl rfl ?_
  refine s_end ?_
  refine v_seq ?_
  refine v_reg ?_
  refine sr 2 (.t ⟨false, [.vp 2 0]⟩) (.var [.d (dS (⟨#[]⟩)), .d (dI (0)), .d (dS (⟨#[]⟩)), .d (dI (0)), .nl 6, .d (dS (⟨#[]⟩)), .nl 1, .nl 1, .d (dI (0)), .d (dI (0)), .d (dI (0)), .d (dI (0)), .d (dI (0)), .d (dI (0)), .d (dI (0))]) (zal tabOk rfl rfl rfl rfl) rfl rfl ?_
  refine s_end ?_
  refine v_seq ?_
  refine v_reg ?_
  refine sy (.t ⟨false, [.vp 0 0]⟩) (zfa tabOk rfl rfl rfl (e rfl rfl) rfl rfl) rfl rfl ?_
  refine sy (.t ⟨true, [.d (dS (a.Ask.Name)), .d (dI (a.Ask.Typ))]⟩) (zlv tabOk rfl (e rfl rfl) rfl rfl rfl) rfl rfl ?_
  refine sd (.t ⟨true, [.d (dS (a.Ask.Name)), .d (dI (a.Ask.Typ))]⟩) (zcall 3 (.t ⟨true, [.d (dS (a.Ask.Name)), .d (dI (a.Ask.Typ))]⟩) [] rfl (tr_toQuest a.Ask ha.Ask) (ar (e rfl rfl) (.d (.d .nil)) .nil) rfl rfl rfl) rfl rfl rfl rfl ?_
  refine sy (.t ⟨false, [.vp 2 0]⟩) (zfa tabOk rfl rfl rfl (e rfl rfl) rfl rfl) rfl rfl ?_
  refine sw 2 (.var [.d (dS (a.Ask.Name)), .d (dI (a.Ask.Typ)), .d (dS (⟨#[]⟩)), .d (dI (0)), .nl 6, .d (dS (⟨#[]⟩)), .nl 1, .nl 1, .d (dI (0)), .d (dI (0)), .d (dI (0)), .d (dI (0)), .d (dI (0)), .d (dI (0)), .d (dI (0))]) (zst tabOk rfl (e rfl rfl) rfl (e rfl rfl) rfl rfl rfl) rfl rfl ?_
  refine s_end ?_
  refine v_seq ?_
  refine v_reg ?_
  refine sy (.t ⟨false, [.vp 0 2]⟩) (zfa tabOk rfl rfl rfl (e rfl rfl) rfl rfl) rfl rfl ?_
  refine sy (.t ⟨true, [.d (dS (a.Q.Name)), .d (dI (a.Q.Typ))]⟩) (zlv tabOk rfl (e rfl rfl) rfl rfl rfl) rfl rfl ?_
  refine sd (.t ⟨true, [.d (dS (a.Q.Name)), .d (dI (a.Q.Typ))]⟩) (zcall 3 (.t ⟨true, [.d (dS (a.Q.Name)), .d (dI (a.Q.Typ))]⟩) [] rfl (tr_toQuest a.Q ha.Q) (ar (e rfl rfl) (.d (.d .nil)) .nil) rfl rfl rfl) rfl rfl rfl rfl ?_
  refine sy (.t ⟨false, [.vp 2 2]⟩) (zfa tabOk rfl rfl rfl (e rfl rfl) rfl rfl) rfl rfl ?_
  refine sw 2 (.var [.d (dS (a.Ask.Name)), .d (dI (a.Ask.Typ)), .d (dS (a.Q.Name)), .d (dI (a.Q.Typ)), .nl 6, .d (dS (⟨#[]⟩)), .nl 1, .nl 1, .d (dI (0)), .d (dI (0)), .d (dI (0)), .d (dI (0)), .d (dI (0)), .d (dI (0)), .d (dI (0))]) (zst tabOk rfl (e rfl rfl) rfl (e rfl rfl) rfl rfl rfl) rfl rfl ?_
  refine s_end ?_
  refine v_seq ?_
  refine v_reg ?_
  refine sy (.t ⟨false, [.vp 0 4]⟩) (zfa tabOk rfl rfl rfl (e rfl rfl) rfl rfl) rfl rfl ?_
  refine sy (.t ⟨false, [.d (.sl 6 (a.Links.map Record.cells))]⟩) (zlv tabOk rfl (e rfl rfl) rfl rfl rfl) rfl rfl ?_
  refine sd (.t ⟨false, [.sr 3 1 0 ((a.Links.map Record.cells).length) ((a.Links.map Record.cells).length)]⟩) (zcall 3 (.t ⟨false, [.sr 3 1 0 ((a.Links.map Record.cells).length) ((a.Links.map Record.cells).length)]⟩) [(3, .row 6 (a.Links.map Record.cells) true 1 0)] rfl (tr_toRecordS a.Links ha.Links) (ar (e rfl rfl) (.d .nil) .nil) rfl rfl rfl) rfl rfl rfl rfl ?_
  refine sy (.t ⟨false, [.vp 2 4]⟩) (zfa tabOk rfl rfl rfl (e rfl rfl) rfl rfl) rfl rfl ?_
  refine sw 2 (.var [.d (dS (a.Ask.Name)), .d (dI (a.Ask.Typ)), .d (dS (a.Q.Name)), .d (dI (a.Q.Typ)), .sr 3 1 0 ((a.Links.map Record.cells).length) ((a.Links.map Record.cells).length), .d (dS (⟨#[]⟩)), .nl 1, .nl 1, .d (dI (0)), .d (dI (0)), .d (dI (0)), .d (dI (0)), .d (dI (0)), .d (dI (0)), .d (dI (0))]) (zst tabOk rfl (e rfl rfl) rfl (e rfl rfl) rfl rfl rfl) rfl rfl ?_
  refine s_end ?_
  refine v_seq ?_
  refine v_reg ?_
  refine sy (.t ⟨false, [.vp 0 5]⟩) (zfa tabOk rfl rfl rfl (e rfl rfl) rfl rfl) rfl rfl ?_
  refine sy (.t ⟨false, [.d (dS (a.Apex))]⟩) (zlv tabOk rfl (e rfl rfl) rfl rfl rfl) rfl rfl ?_
  refine sy (.t ⟨false, [.vp 2 5]⟩) (zfa tabOk rfl rfl rfl (e rfl rfl) rfl rfl) rfl rfl ?_
  refine sw 2 (.var [.d (dS (a.Ask.Name)), .d (dI (a.Ask.Typ)), .d (dS (a.Q.Name)), .d (dI (a.Q.Typ)), .sr 3 1 0 ((a.Links.map Record.cells).length) ((a.Links.map Record.cells).length), .d (dS (a.Apex)), .nl 1, .nl 1, .d (dI (0)), .d (dI (0)), .d (dI (0)), .d (dI (0)), .d (dI (0)), .d (dI (0)), .d (dI (0))]) (zst tabOk rfl (e rfl rfl) rfl (e rfl rfl) rfl rfl rfl) rfl rfl ?_
  refine s_end ?_
  refine v_seq ?_
  refine v_reg ?_
  refine sy (.t ⟨false, [.vp 0 6]⟩) (zfa tabOk rfl rfl rfl (e rfl rfl) rfl rfl) rfl rfl ?_
  refine sy (.t ⟨false, [.d (.sl 1 (a.Servers.map encI))]⟩) (zlv tabOk rfl (e rfl rfl) rfl rfl rfl) rfl rfl ?_
  refine sd (.t ⟨false, [.sr 4 1 0 ((a.Servers.map encI).length) ((a.Servers.map encI).length)]⟩) (zcall 4 (.t ⟨false, [.sr 4 1 0 ((a.Servers.map encI).length) ((a.Servers.map encI).length)]⟩) [(4, .row 1 (a.Servers.map encI) true 1 0)] rfl (tr_toIntS a.Servers ha.Servers) (ar (e rfl rfl) (.d .nil) .nil) rfl rfl rfl) rfl rfl rfl rfl ?_
  refine sy (.t ⟨false, [.vp 2 6]⟩) (zfa tabOk rfl rfl rfl (e rfl rfl) rfl rfl) rfl rfl ?_
  refine sw 2 (.var [.d (dS (a.Ask.Name)), .d (dI (a.Ask.Typ)), .d (dS (a.Q.Name)), .d (dI (a.Q.Typ)), .sr 3 1 0 ((a.Links.map Record.cells).length) ((a.Links.map Record.cells).length), .d (dS (a.Apex)), .sr 4 1 0 ((a.Servers.map encI).length) ((a.Servers.map encI).length), .nl 1, .d (dI (0)), .d (dI (0)), .d (dI (0)), .d (dI (0)), .d (dI (0)), .d (dI (0)), .d (dI (0))]) (zst tabOk rfl (e rfl rfl) rfl (e rfl rfl) rfl rfl rfl) rfl rfl ?_
  refine s_end ?_
  refine v_seq ?_
  refine v_reg ?_
  refine sy (.t ⟨false, [.vp 0 7]⟩) (zfa tabOk rfl rfl rfl (e rfl rfl) rfl rfl) rfl rfl ?_
  refine sy (.t ⟨false, [.d (.sl 1 (a.Need.map encS))]⟩) (zlv tabOk rfl (e rfl rfl) rfl rfl rfl) rfl rfl ?_
  refine sd (.t ⟨false, [.sr 5 1 0 ((a.Need.map encS).length) ((a.Need.map encS).length)]⟩) (zcall 5 (.t ⟨false, [.sr 5 1 0 ((a.Need.map encS).length) ((a.Need.map encS).length)]⟩) [(5, .row 1 (a.Need.map encS) true 1 0)] rfl (tr_toStringS a.Need ha.Need) (ar (e rfl rfl) (.d .nil) .nil) rfl rfl rfl) rfl rfl rfl rfl ?_
  refine sy (.t ⟨false, [.vp 2 7]⟩) (zfa tabOk rfl rfl rfl (e rfl rfl) rfl rfl) rfl rfl ?_
  refine sw 2 (.var [.d (dS (a.Ask.Name)), .d (dI (a.Ask.Typ)), .d (dS (a.Q.Name)), .d (dI (a.Q.Typ)), .sr 3 1 0 ((a.Links.map Record.cells).length) ((a.Links.map Record.cells).length), .d (dS (a.Apex)), .sr 4 1 0 ((a.Servers.map encI).length) ((a.Servers.map encI).length), .sr 5 1 0 ((a.Need.map encS).length) ((a.Need.map encS).length), .d (dI (0)), .d (dI (0)), .d (dI (0)), .d (dI (0)), .d (dI (0)), .d (dI (0)), .d (dI (0))]) (zst tabOk rfl (e rfl rfl) rfl (e rfl rfl) rfl rfl rfl) rfl rfl ?_
  refine s_end ?_
  refine v_seq ?_
  refine v_reg ?_
  refine sy (.t ⟨false, [.vp 0 8]⟩) (zfa tabOk rfl rfl rfl (e rfl rfl) rfl rfl) rfl rfl ?_
  refine sy (.t ⟨false, [.d (dI (a.Down))]⟩) (zlv tabOk rfl (e rfl rfl) rfl rfl rfl) rfl rfl ?_
  refine sy (.t ⟨false, [.vp 2 8]⟩) (zfa tabOk rfl rfl rfl (e rfl rfl) rfl rfl) rfl rfl ?_
  refine sw 2 (.var [.d (dS (a.Ask.Name)), .d (dI (a.Ask.Typ)), .d (dS (a.Q.Name)), .d (dI (a.Q.Typ)), .sr 3 1 0 ((a.Links.map Record.cells).length) ((a.Links.map Record.cells).length), .d (dS (a.Apex)), .sr 4 1 0 ((a.Servers.map encI).length) ((a.Servers.map encI).length), .sr 5 1 0 ((a.Need.map encS).length) ((a.Need.map encS).length), .d (dI (a.Down)), .d (dI (0)), .d (dI (0)), .d (dI (0)), .d (dI (0)), .d (dI (0)), .d (dI (0))]) (zst tabOk rfl (e rfl rfl) rfl (e rfl rfl) rfl rfl rfl) rfl rfl ?_
  refine s_end ?_
  refine v_seq ?_
  refine v_reg ?_
  refine sy (.t ⟨false, [.vp 0 9]⟩) (zfa tabOk rfl rfl rfl (e rfl rfl) rfl rfl) rfl rfl ?_
  refine sy (.t ⟨false, [.d (dI (a.Left))]⟩) (zlv tabOk rfl (e rfl rfl) rfl rfl rfl) rfl rfl ?_
  refine sy (.t ⟨false, [.vp 2 9]⟩) (zfa tabOk rfl rfl rfl (e rfl rfl) rfl rfl) rfl rfl ?_
  refine sw 2 (.var [.d (dS (a.Ask.Name)), .d (dI (a.Ask.Typ)), .d (dS (a.Q.Name)), .d (dI (a.Q.Typ)), .sr 3 1 0 ((a.Links.map Record.cells).length) ((a.Links.map Record.cells).length), .d (dS (a.Apex)), .sr 4 1 0 ((a.Servers.map encI).length) ((a.Servers.map encI).length), .sr 5 1 0 ((a.Need.map encS).length) ((a.Need.map encS).length), .d (dI (a.Down)), .d (dI (a.Left)), .d (dI (0)), .d (dI (0)), .d (dI (0)), .d (dI (0)), .d (dI (0))]) (zst tabOk rfl (e rfl rfl) rfl (e rfl rfl) rfl rfl rfl) rfl rfl ?_
  refine s_end ?_
  refine v_seq ?_
  refine v_reg ?_
  refine sy (.t ⟨false, [.vp 0 10]⟩) (zfa tabOk rfl rfl rfl (e rfl rfl) rfl rfl) rfl rfl ?_
  refine sy (.t ⟨false, [.d (dI (a.Pc))]⟩) (zlv tabOk rfl (e rfl rfl) rfl rfl rfl) rfl rfl ?_
  refine sy (.t ⟨false, [.vp 2 10]⟩) (zfa tabOk rfl rfl rfl (e rfl rfl) rfl rfl) rfl rfl ?_
  refine sw 2 (.var [.d (dS (a.Ask.Name)), .d (dI (a.Ask.Typ)), .d (dS (a.Q.Name)), .d (dI (a.Q.Typ)), .sr 3 1 0 ((a.Links.map Record.cells).length) ((a.Links.map Record.cells).length), .d (dS (a.Apex)), .sr 4 1 0 ((a.Servers.map encI).length) ((a.Servers.map encI).length), .sr 5 1 0 ((a.Need.map encS).length) ((a.Need.map encS).length), .d (dI (a.Down)), .d (dI (a.Left)), .d (dI (a.Pc)), .d (dI (0)), .d (dI (0)), .d (dI (0)), .d (dI (0))]) (zst tabOk rfl (e rfl rfl) rfl (e rfl rfl) rfl rfl rfl) rfl rfl ?_
  refine s_end ?_
  refine v_seq ?_
  refine v_reg ?_
  refine sy (.t ⟨false, [.vp 0 11]⟩) (zfa tabOk rfl rfl rfl (e rfl rfl) rfl rfl) rfl rfl ?_
  refine sy (.t ⟨true, [.d (dI (a.X.Id)), .d (dI (a.X.Addr)), .d (dI (a.X.Try)), .d (dI (a.X.Due))]⟩) (zlv tabOk rfl (e rfl rfl) rfl rfl rfl) rfl rfl ?_
  refine sd (.t ⟨true, [.d (dI (a.X.Id)), .d (dI (a.X.Addr)), .d (dI (a.X.Try)), .d (dI (a.X.Due))]⟩) (zcall 6 (.t ⟨true, [.d (dI (a.X.Id)), .d (dI (a.X.Addr)), .d (dI (a.X.Try)), .d (dI (a.X.Due))]⟩) [] rfl (tr_toExch a.X ha.X) (ar (e rfl rfl) (.d (.d (.d (.d .nil)))) .nil) rfl rfl rfl) rfl rfl rfl rfl ?_
  refine sy (.t ⟨false, [.vp 2 11]⟩) (zfa tabOk rfl rfl rfl (e rfl rfl) rfl rfl) rfl rfl ?_
  refine sw 2 (.var [.d (dS (a.Ask.Name)), .d (dI (a.Ask.Typ)), .d (dS (a.Q.Name)), .d (dI (a.Q.Typ)), .sr 3 1 0 ((a.Links.map Record.cells).length) ((a.Links.map Record.cells).length), .d (dS (a.Apex)), .sr 4 1 0 ((a.Servers.map encI).length) ((a.Servers.map encI).length), .sr 5 1 0 ((a.Need.map encS).length) ((a.Need.map encS).length), .d (dI (a.Down)), .d (dI (a.Left)), .d (dI (a.Pc)), .d (dI (a.X.Id)), .d (dI (a.X.Addr)), .d (dI (a.X.Try)), .d (dI (a.X.Due))]) (zst tabOk rfl (e rfl rfl) rfl (e rfl rfl) rfl rfl rfl) rfl rfl ?_
  refine s_end ?_
  refine v_seq ?_
  refine v_reg ?_
  refine sy (.t ⟨true, [.d (dS (a.Ask.Name)), .d (dI (a.Ask.Typ)), .d (dS (a.Q.Name)), .d (dI (a.Q.Typ)), .sr 3 1 0 ((a.Links.map Record.cells).length) ((a.Links.map Record.cells).length), .d (dS (a.Apex)), .sr 4 1 0 ((a.Servers.map encI).length) ((a.Servers.map encI).length), .sr 5 1 0 ((a.Need.map encS).length) ((a.Need.map encS).length), .d (dI (a.Down)), .d (dI (a.Left)), .d (dI (a.Pc)), .d (dI (a.X.Id)), .d (dI (a.X.Addr)), .d (dI (a.X.Try)), .d (dI (a.X.Due))]⟩) (zlv tabOk rfl (e rfl rfl) rfl rfl rfl) rfl rfl ?_
  refine sw 1 (.var [.d (dS (a.Ask.Name)), .d (dI (a.Ask.Typ)), .d (dS (a.Q.Name)), .d (dI (a.Q.Typ)), .sr 3 1 0 ((a.Links.map Record.cells).length) ((a.Links.map Record.cells).length), .d (dS (a.Apex)), .sr 4 1 0 ((a.Servers.map encI).length) ((a.Servers.map encI).length), .sr 5 1 0 ((a.Need.map encS).length) ((a.Need.map encS).length), .d (dI (a.Down)), .d (dI (a.Left)), .d (dI (a.Pc)), .d (dI (a.X.Id)), .d (dI (a.X.Addr)), .d (dI (a.X.Try)), .d (dI (a.X.Due))]) (zst tabOk rfl (e rfl rfl) rfl (e rfl rfl) rfl rfl rfl) rfl rfl ?_
  refine s_end ?_
  refine v_ret ?_
  exact post_ret (rv (.cell (eg rfl rfl) rfl rfl (.inl rfl) rfl) rfl (.lf (.lf (.lf (.lf (.sr rfl le_all take_all (.lf (.sr rfl le_all take_all (.sr rfl le_all take_all (.lf (.lf (.lf (.lf (.lf (.lf (.lf .nil))))))))))))))) rfl .nil) (.ro .nil) rfl
set_option maxRecDepth 20000 in
theorem tr_eqFrame (a b : Frame) (ha : a.Fit) (hb0 : b.Fit) : Tr Tryd.prog 11 [.ro ⟨true, [dS (a.Ask.Name), dI (a.Ask.Typ), dS (a.Q.Name), dI (a.Q.Typ), .sl 6 (a.Links.map Record.cells), dS (a.Apex), .sl 1 (a.Servers.map encI), .sl 1 (a.Need.map encS), dI (a.Down), dI (a.Left), dI (a.Pc), dI (a.X.Id), dI (a.X.Addr), dI (a.X.Try), dI (a.X.Due)]⟩, .ro ⟨true, [dS (b.Ask.Name), dI (b.Ask.Typ), dS (b.Q.Name), dI (b.Q.Typ), .sl 6 (b.Links.map Record.cells), dS (b.Apex), .sl 1 (b.Servers.map encI), .sl 1 (b.Need.map encS), dI (b.Down), dI (b.Left), dI (b.Pc), dI (b.X.Id), dI (b.X.Addr), dI (b.X.Try), dI (b.X.Due)]⟩] [one (dB (decide (a = b)))] := by
  refine tr_go tabOk Tryd.func11 rfl rfl rfl rfl rfl (ov := [(0, .t ⟨true, [.d (dS (a.Ask.Name)), .d (dI (a.Ask.Typ)), .d (dS (a.Q.Name)), .d (dI (a.Q.Typ)), .d (.sl 6 (a.Links.map Record.cells)), .d (dS (a.Apex)), .d (.sl 1 (a.Servers.map encI)), .d (.sl 1 (a.Need.map encS)), .d (dI (a.Down)), .d (dI (a.Left)), .d (dI (a.Pc)), .d (dI (a.X.Id)), .d (dI (a.X.Addr)), .d (dI (a.X.Try)), .d (dI (a.X.Due))]⟩), (1, .t ⟨true, [.d (dS (b.Ask.Name)), .d (dI (b.Ask.Typ)), .d (dS (b.Q.Name)), .d (dI (b.Q.Typ)), .d (.sl 6 (b.Links.map Record.cells)), .d (dS (b.Apex)), .d (.sl 1 (b.Servers.map encI)), .d (.sl 1 (b.Need.map encS)), .d (dI (b.Down)), .d (dI (b.Left)), .d (dI (b.Pc)), .d (dI (b.X.Id)), .d (dI (b.X.Addr)), .d (dI (b.X.Try)), .d (dI (b.X.Due))]⟩)]) (hv := []) rfl rfl ?_
  refine v_seq ?_
  refine v_reg ?_
  refine sr 0 (.t ⟨false, [.vp 0 0]⟩) (.var [.d (dS (a.Ask.Name)), .d (dI (a.Ask.Typ)), .d (dS (a.Q.Name)), .d (dI (a.Q.Typ)), .d (.sl 6 (a.Links.map Record.cells)), .d (dS (a.Apex)), .d (.sl 1 (a.Servers.map encI)), .d (.sl 1 (a.Need.map encS)), .d (dI (a.Down)), .d (dI (a.Left)), .d (dI (a.Pc)), .d (dI (a.X.Id)), .d (dI (a.X.Addr)), .d (dI (a.X.Try)), .d (dI (a.X.Due))]) (zbx rfl (e rfl rfl) rfl rfl rfl) rfl rfl ?_
  refine sr 1 (.t ⟨false, [.vp 1 0]⟩) (.var [.d (dS (b.Ask.Name)), .d (dI (b.Ask.Typ)), .d (dS (b.Q.Name)), .d (dI (b.Q.Typ)), .d (.sl 6 (b.Links.map Record.cells)), .d (dS (b.Apex)), .d (.sl 1 (b.Servers.map encI)), .d (.sl 1 (b.Need.map encS)), .d (dI (b.Down)), .d (dI (b.Left)), .d (dI (b.Pc)), .d (dI (b.X.Id)), .d (dI (b.X.Addr)), .d (dI (b.X.Try)), .d (dI (b.X.Due))]) (zbx rfl (e rfl rfl) rfl rfl rfl) rfl rfl ?_
  refine sy _ (zas rfl (ec rfl)) rfl rfl ?_
  refine s_end ?_
  refine v_seq ?_
  refine v_seq ?_
  refine v_reg ?_
  refine sy (.t ⟨false, [.vp 0 0]⟩) (zfa tabOk rfl rfl rfl (e rfl rfl) rfl rfl) rfl rfl ?_
  refine sy (.t ⟨true, [.d (dS (a.Ask.Name)), .d (dI (a.Ask.Typ))]⟩) (zlv tabOk rfl (e rfl rfl) rfl rfl rfl) rfl rfl ?_
  refine sy (.t ⟨false, [.vp 1 0]⟩) (zfa tabOk rfl rfl rfl (e rfl rfl) rfl rfl) rfl rfl ?_
  refine sy (.t ⟨true, [.d (dS (b.Ask.Name)), .d (dI (b.Ask.Typ))]⟩) (zlv tabOk rfl (e rfl rfl) rfl rfl rfl) rfl rfl ?_
  refine sd (.t ⟨false, [.d (dB (decide (a.Ask = b.Ask)))]⟩) (zcall 2 (.t ⟨false, [.d (dB (decide (a.Ask = b.Ask)))]⟩) [] rfl (tr_eqQuest a.Ask b.Ask ha.Ask hb0.Ask) (ar (e rfl rfl) (.d (.d .nil)) (ar (e rfl rfl) (.d (.d .nil)) .nil)) rfl rfl rfl) rfl rfl rfl rfl ?_
  refine sy (.t ⟨false, [.d (dB (!(decide (a.Ask = b.Ask))))]⟩) (y_un rfl (e rfl rfl) (fun _ => u_not) rfl) rfl rfl ?_
  refine s_end ?_
  refine v_cond (e rfl rfl) (fun hb1 => ?_) fun hb1 => ?_
  · refine v_seq ?_
    refine v_reg ?_
    refine sy _ (zas rfl (ec rfl)) rfl rfl ?_
    refine s_end ?_
    refine v_ret ?_
    have hr : decide (a = b) = false := by cases a; cases b; simp_all
    rw [hr]
    exact post_ret (rv (.tmp (eg rfl rfl)) rfl (.lf .nil) rfl .nil) (.ro (.ro .nil)) rfl
  refine v_skip ?_
  refine v_seq ?_
  refine v_seq ?_
  refine v_reg ?_
  refine sy (.t ⟨false, [.vp 0 2]⟩) (zfa tabOk rfl rfl rfl (e rfl rfl) rfl rfl) rfl rfl ?_
  refine sy (.t ⟨true, [.d (dS (a.Q.Name)), .d (dI (a.Q.Typ))]⟩) (zlv tabOk rfl (e rfl rfl) rfl rfl rfl) rfl rfl ?_
  refine sy (.t ⟨false, [.vp 1 2]⟩) (zfa tabOk rfl rfl rfl (e rfl rfl) rfl rfl) rfl rfl ?_
  refine sy (.t ⟨true, [.d (dS (b.Q.Name)), .d (dI (b.Q.Typ))]⟩) (zlv tabOk rfl (e rfl rfl) rfl rfl rfl) rfl rfl ?_
  refine sd (.t ⟨false, [.d (dB (decide (a.Q = b.Q)))]⟩) (zcall 2 (.t ⟨false, [.d (dB (decide (a.Q = b.Q)))]⟩) [] rfl (tr_eqQuest a.Q b.Q ha.Q hb0.Q) (ar (e rfl rfl) (.d (.d .nil)) (ar (e rfl rfl) (.d (.d .nil)) .nil)) rfl rfl rfl) rfl rfl rfl rfl ?_
  refine sy (.t ⟨false, [.d (dB (!(decide (a.Q = b.Q))))]⟩) (y_un rfl (e rfl rfl) (fun _ => u_not) rfl) rfl rfl ?_
  refine s_end ?_
  refine v_cond (e rfl rfl) (fun hb2 => ?_) fun hb2 => ?_
  · refine v_seq ?_
    refine v_reg ?_
    refine sy _ (zas rfl (ec rfl)) rfl rfl ?_
    refine s_end ?_
    refine v_ret ?_
    have hr : decide (a = b) = false := by cases a; cases b; simp_all
    rw [hr]
    exact post_ret (rv (.tmp (eg rfl rfl)) rfl (.lf .nil) rfl .nil) (.ro (.ro .nil)) rfl
  refine v_skip ?_
  refine v_seq ?_
  refine v_seq ?_
  refine v_reg ?_
  refine sy (.t ⟨false, [.vp 0 4]⟩) (zfa tabOk rfl rfl rfl (e rfl rfl) rfl rfl) rfl rfl ?_
  refine sy (.t ⟨false, [.d (.sl 6 (a.Links.map Record.cells))]⟩) (zlv tabOk rfl (e rfl rfl) rfl rfl rfl) rfl rfl ?_
  refine sy (.t ⟨false, [.vp 1 4]⟩) (zfa tabOk rfl rfl rfl (e rfl rfl) rfl rfl) rfl rfl ?_
  refine sy (.t ⟨false, [.d (.sl 6 (b.Links.map Record.cells))]⟩) (zlv tabOk rfl (e rfl rfl) rfl rfl rfl) rfl rfl ?_
  refine sd (.t ⟨false, [.d (dB (decide (a.Links = b.Links)))]⟩) (zcall 2 (.t ⟨false, [.d (dB (decide (a.Links = b.Links)))]⟩) [] rfl (tr_eqRecordS a.Links b.Links ha.Links hb0.Links) (ar (e rfl rfl) (.d .nil) (ar (e rfl rfl) (.d .nil) .nil)) rfl rfl rfl) rfl rfl rfl rfl ?_
  refine sy (.t ⟨false, [.d (dB (!(decide (a.Links = b.Links))))]⟩) (y_un rfl (e rfl rfl) (fun _ => u_not) rfl) rfl rfl ?_
  refine s_end ?_
  refine v_cond (e rfl rfl) (fun hb3 => ?_) fun hb3 => ?_
  · refine v_seq ?_
    refine v_reg ?_
    refine sy _ (zas rfl (ec rfl)) rfl rfl ?_
    refine s_end ?_
    refine v_ret ?_
    have hr : decide (a = b) = false := by cases a; cases b; simp_all
    rw [hr]
    exact post_ret (rv (.tmp (eg rfl rfl)) rfl (.lf .nil) rfl .nil) (.ro (.ro .nil)) rfl
  refine v_skip ?_
  refine v_seq ?_
  refine v_seq ?_
  refine v_reg ?_
  refine sy (.t ⟨false, [.vp 0 5]⟩) (zfa tabOk rfl rfl rfl (e rfl rfl) rfl rfl) rfl rfl ?_
  refine sy (.t ⟨false, [.d (dS (a.Apex))]⟩) (zlv tabOk rfl (e rfl rfl) rfl rfl rfl) rfl rfl ?_
  refine sy (.t ⟨false, [.vp 1 5]⟩) (zfa tabOk rfl rfl rfl (e rfl rfl) rfl rfl) rfl rfl ?_
  refine sy (.t ⟨false, [.d (dS (b.Apex))]⟩) (zlv tabOk rfl (e rfl rfl) rfl rfl rfl) rfl rfl ?_
  refine sy (.t ⟨false, [.d (dB (decide ((a.Apex) ≠ (b.Apex))))]⟩) (y_bin rfl (e rfl rfl) (e rfl rfl) (fun _ => b_sneq) rfl) rfl rfl ?_
  refine s_end ?_
  refine v_cond (e rfl rfl) (fun hb4 => ?_) fun hb4 => ?_
  · refine v_seq ?_
    refine v_reg ?_
    refine sy _ (zas rfl (ec rfl)) rfl rfl ?_
    refine s_end ?_
    refine v_ret ?_
    have hr : decide (a = b) = false := by cases a; cases b; simp_all
    rw [hr]
    exact post_ret (rv (.tmp (eg rfl rfl)) rfl (.lf .nil) rfl .nil) (.ro (.ro .nil)) rfl
  refine v_skip ?_
  refine v_seq ?_
  refine v_seq ?_
  refine v_reg ?_
  refine sy (.t ⟨false, [.vp 0 6]⟩) (zfa tabOk rfl rfl rfl (e rfl rfl) rfl rfl) rfl rfl ?_
  refine sy (.t ⟨false, [.d (.sl 1 (a.Servers.map encI))]⟩) (zlv tabOk rfl (e rfl rfl) rfl rfl rfl) rfl rfl ?_
  refine sy (.t ⟨false, [.vp 1 6]⟩) (zfa tabOk rfl rfl rfl (e rfl rfl) rfl rfl) rfl rfl ?_
  refine sy (.t ⟨false, [.d (.sl 1 (b.Servers.map encI))]⟩) (zlv tabOk rfl (e rfl rfl) rfl rfl rfl) rfl rfl ?_
  refine sd (.t ⟨false, [.d (dB (decide (a.Servers = b.Servers)))]⟩) (zcall 2 (.t ⟨false, [.d (dB (decide (a.Servers = b.Servers)))]⟩) [] rfl (tr_eqIntS a.Servers b.Servers ha.Servers hb0.Servers) (ar (e rfl rfl) (.d .nil) (ar (e rfl rfl) (.d .nil) .nil)) rfl rfl rfl) rfl rfl rfl rfl ?_
  refine sy (.t ⟨false, [.d (dB (!(decide (a.Servers = b.Servers))))]⟩) (y_un rfl (e rfl rfl) (fun _ => u_not) rfl) rfl rfl ?_
  refine s_end ?_
  refine v_cond (e rfl rfl) (fun hb5 => ?_) fun hb5 => ?_
  · refine v_seq ?_
    refine v_reg ?_
    refine sy _ (zas rfl (ec rfl)) rfl rfl ?_
    refine s_end ?_
    refine v_ret ?_
    have hr : decide (a = b) = false := by cases a; cases b; simp_all
    rw [hr]
    exact post_ret (rv (.tmp (eg rfl rfl)) rfl (.lf .nil) rfl .nil) (.ro (.ro .nil)) rfl
  refine v_skip ?_
  refine v_seq ?_
  refine v_seq ?_
  refine v_reg ?_
  refine sy (.t ⟨false, [.vp 0 7]⟩) (zfa tabOk rfl rfl rfl (e rfl rfl) rfl rfl) rfl rfl ?_
  refine sy (.t ⟨false, [.d (.sl 1 (a.Need.map encS))]⟩) (zlv tabOk rfl (e rfl rfl) rfl rfl rfl) rfl rfl ?_
  refine sy (.t ⟨false, [.vp 1 7]⟩) (zfa tabOk rfl rfl rfl (e rfl rfl) rfl rfl) rfl rfl ?_
  refine sy (.t ⟨false, [.d (.sl 1 (b.Need.map encS))]⟩) (zlv tabOk rfl (e rfl rfl) rfl rfl rfl) rfl rfl ?_
  refine sd (.t ⟨false, [.d (dB (decide (a.Need = b.Need)))]⟩) (zcall 2 (.t ⟨false, [.d (dB (decide (a.Need = b.Need)))]⟩) [] rfl (tr_eqStringS a.Need b.Need ha.Need hb0.Need) (ar (e rfl rfl) (.d .nil) (ar (e rfl rfl) (.d .nil) .nil)) rfl rfl rfl) rfl rfl rfl rfl ?_
  refine sy (.t ⟨false, [.d (dB (!(decide (a.Need = b.Need))))]⟩) (y_un rfl (e rfl rfl) (fun _ => u_not) rfl) rfl rfl ?_
  refine s_end ?_
  refine v_cond (e rfl rfl) (fun hb6 => ?_) fun hb6 => ?_
  · refine v_seq ?_
    refine v_reg ?_
    refine sy _ (zas rfl (ec rfl)) rfl rfl ?_
    refine s_end ?_
    refine v_ret ?_
    have hr : decide (a = b) = false := by cases a; cases b; simp_all
    rw [hr]
    exact post_ret (rv (.tmp (eg rfl rfl)) rfl (.lf .nil) rfl .nil) (.ro (.ro .nil)) rfl
  refine v_skip ?_
  refine v_seq ?_
  refine v_seq ?_
  refine v_reg ?_
  refine sy (.t ⟨false, [.vp 0 8]⟩) (zfa tabOk rfl rfl rfl (e rfl rfl) rfl rfl) rfl rfl ?_
  refine sy (.t ⟨false, [.d (dI (a.Down))]⟩) (zlv tabOk rfl (e rfl rfl) rfl rfl rfl) rfl rfl ?_
  refine sy (.t ⟨false, [.vp 1 8]⟩) (zfa tabOk rfl rfl rfl (e rfl rfl) rfl rfl) rfl rfl ?_
  refine sy (.t ⟨false, [.d (dI (b.Down))]⟩) (zlv tabOk rfl (e rfl rfl) rfl rfl rfl) rfl rfl ?_
  refine sy (.t ⟨false, [.d (dB (decide ((a.Down) ≠ (b.Down))))]⟩) (y_bin rfl (e rfl rfl) (e rfl rfl) (fun _ => b_neq) rfl) rfl rfl ?_
  refine s_end ?_
  refine v_cond (e rfl rfl) (fun hb7 => ?_) fun hb7 => ?_
  · refine v_seq ?_
    refine v_reg ?_
    refine sy _ (zas rfl (ec rfl)) rfl rfl ?_
    refine s_end ?_
    refine v_ret ?_
    have hr : decide (a = b) = false := by cases a; cases b; simp_all
    rw [hr]
    exact post_ret (rv (.tmp (eg rfl rfl)) rfl (.lf .nil) rfl .nil) (.ro (.ro .nil)) rfl
  refine v_skip ?_
  refine v_seq ?_
  refine v_seq ?_
  refine v_reg ?_
  refine sy (.t ⟨false, [.vp 0 9]⟩) (zfa tabOk rfl rfl rfl (e rfl rfl) rfl rfl) rfl rfl ?_
  refine sy (.t ⟨false, [.d (dI (a.Left))]⟩) (zlv tabOk rfl (e rfl rfl) rfl rfl rfl) rfl rfl ?_
  refine sy (.t ⟨false, [.vp 1 9]⟩) (zfa tabOk rfl rfl rfl (e rfl rfl) rfl rfl) rfl rfl ?_
  refine sy (.t ⟨false, [.d (dI (b.Left))]⟩) (zlv tabOk rfl (e rfl rfl) rfl rfl rfl) rfl rfl ?_
  refine sy (.t ⟨false, [.d (dB (decide ((a.Left) ≠ (b.Left))))]⟩) (y_bin rfl (e rfl rfl) (e rfl rfl) (fun _ => b_neq) rfl) rfl rfl ?_
  refine s_end ?_
  refine v_cond (e rfl rfl) (fun hb8 => ?_) fun hb8 => ?_
  · refine v_seq ?_
    refine v_reg ?_
    refine sy _ (zas rfl (ec rfl)) rfl rfl ?_
    refine s_end ?_
    refine v_ret ?_
    have hr : decide (a = b) = false := by cases a; cases b; simp_all
    rw [hr]
    exact post_ret (rv (.tmp (eg rfl rfl)) rfl (.lf .nil) rfl .nil) (.ro (.ro .nil)) rfl
  refine v_skip ?_
  refine v_seq ?_
  refine v_seq ?_
  refine v_reg ?_
  refine sy (.t ⟨false, [.vp 0 10]⟩) (zfa tabOk rfl rfl rfl (e rfl rfl) rfl rfl) rfl rfl ?_
  refine sy (.t ⟨false, [.d (dI (a.Pc))]⟩) (zlv tabOk rfl (e rfl rfl) rfl rfl rfl) rfl rfl ?_
  refine sy (.t ⟨false, [.vp 1 10]⟩) (zfa tabOk rfl rfl rfl (e rfl rfl) rfl rfl) rfl rfl ?_
  refine sy (.t ⟨false, [.d (dI (b.Pc))]⟩) (zlv tabOk rfl (e rfl rfl) rfl rfl rfl) rfl rfl ?_
  refine sy (.t ⟨false, [.d (dB (decide ((a.Pc) ≠ (b.Pc))))]⟩) (y_bin rfl (e rfl rfl) (e rfl rfl) (fun _ => b_neq) rfl) rfl rfl ?_
  refine s_end ?_
  refine v_cond (e rfl rfl) (fun hb9 => ?_) fun hb9 => ?_
  · refine v_seq ?_
    refine v_reg ?_
    refine sy _ (zas rfl (ec rfl)) rfl rfl ?_
    refine s_end ?_
    refine v_ret ?_
    have hr : decide (a = b) = false := by cases a; cases b; simp_all
    rw [hr]
    exact post_ret (rv (.tmp (eg rfl rfl)) rfl (.lf .nil) rfl .nil) (.ro (.ro .nil)) rfl
  refine v_skip ?_
  refine v_seq ?_
  refine v_seq ?_
  refine v_reg ?_
  refine sy (.t ⟨false, [.vp 0 11]⟩) (zfa tabOk rfl rfl rfl (e rfl rfl) rfl rfl) rfl rfl ?_
  refine sy (.t ⟨true, [.d (dI (a.X.Id)), .d (dI (a.X.Addr)), .d (dI (a.X.Try)), .d (dI (a.X.Due))]⟩) (zlv tabOk rfl (e rfl rfl) rfl rfl rfl) rfl rfl ?_
  refine sy (.t ⟨false, [.vp 1 11]⟩) (zfa tabOk rfl rfl rfl (e rfl rfl) rfl rfl) rfl rfl ?_
  refine sy (.t ⟨true, [.d (dI (b.X.Id)), .d (dI (b.X.Addr)), .d (dI (b.X.Try)), .d (dI (b.X.Due))]⟩) (zlv tabOk rfl (e rfl rfl) rfl rfl rfl) rfl rfl ?_
  refine sd (.t ⟨false, [.d (dB (decide (a.X = b.X)))]⟩) (zcall 2 (.t ⟨false, [.d (dB (decide (a.X = b.X)))]⟩) [] rfl (tr_eqExch a.X b.X ha.X hb0.X) (ar (e rfl rfl) (.d (.d (.d (.d .nil)))) (ar (e rfl rfl) (.d (.d (.d (.d .nil)))) .nil)) rfl rfl rfl) rfl rfl rfl rfl ?_
  refine sy (.t ⟨false, [.d (dB (!(decide (a.X = b.X))))]⟩) (y_un rfl (e rfl rfl) (fun _ => u_not) rfl) rfl rfl ?_
  refine s_end ?_
  refine v_cond (e rfl rfl) (fun hb10 => ?_) fun hb10 => ?_
  · refine v_seq ?_
    refine v_reg ?_
    refine sy _ (zas rfl (ec rfl)) rfl rfl ?_
    refine s_end ?_
    refine v_ret ?_
    have hr : decide (a = b) = false := by cases a; cases b; simp_all
    rw [hr]
    exact post_ret (rv (.tmp (eg rfl rfl)) rfl (.lf .nil) rfl .nil) (.ro (.ro .nil)) rfl
  refine v_skip ?_
  refine v_seq ?_
  refine v_reg ?_
  refine sy _ (zas rfl (ec rfl)) rfl rfl ?_
  refine s_end ?_
  refine v_ret ?_
  have hr : decide (a = b) = true := by cases a; cases b; simp_all
  rw [hr]
  exact post_ret (rv (.tmp (eg rfl rfl)) rfl (.lf .nil) rfl .nil) (.ro (.ro .nil)) rfl
end Go.Proofs.YtkcpbahcnlhmjaaDoor.V
