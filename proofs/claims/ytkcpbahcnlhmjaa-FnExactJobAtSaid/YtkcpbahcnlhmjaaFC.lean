/-
  Jobs: push, set the top, find.
-/
import Derived.Test.YtkcpbahcnlhmjaaFB
import Derived.Test.YtkcpbahcnlhmjaaN
import Derived.Test.YtkcpbahcnlhmjaaFA
namespace Go.Proofs.Ytkcpbahcnlhmjaa.V
open Go
set_option linter.unusedVariables false
set_option linter.unusedSimpArgs false
def n_spec_Push (a0 : Job) (a1 : Quest) : Job := cond (decide ((0) < (((a0.Stack).length : Int)))) (atL (a0.Stack) ((((a0.Stack).length : Int) - 1).toNat) (fun x1 => (⟨a0.No, a0.Client, a0.Ask, a0.Sent, w64 (a0.Fetched + 1), (a0.Stack).set ((((a0.Stack).length : Int) - 1).toNat) ((⟨x1.Ask, x1.Q, x1.Links, x1.Apex, x1.Servers, x1.Need, x1.Down, x1.Left, 5, x1.X⟩ : Frame)) ++ ([⟨a1, a1, [], ⟨#[]⟩, [], [], 0, 0, 1, ⟨0, 0, 0, 0⟩⟩] : List Frame)⟩ : Job))) ((⟨a0.No, a0.Client, a0.Ask, a0.Sent, w64 (a0.Fetched + 1), a0.Stack ++ ([⟨a1, a1, [], ⟨#[]⟩, [], [], 0, 0, 1, ⟨0, 0, 0, 0⟩⟩] : List Frame)⟩ : Job))
set_option maxRecDepth 20000 in
theorem tr_n_spec_Push (a0 : Job) (a1 : Quest) (h0 : Job.Fit a0) (h1 : Quest.Fit a1) : Tr Try.prog 8 [.ro ⟨true, [dI (a0.No), dI (a0.Client), dS (a0.Ask.Name), dI (a0.Ask.Typ), dI (a0.Sent), dI (a0.Fetched), .sl 15 (a0.Stack.map Frame.cells)]⟩, .ro ⟨true, [dS (a1.Name), dI (a1.Typ)]⟩] [⟨true, [dI (((n_spec_Push a0 a1)).No), dI (((n_spec_Push a0 a1)).Client), dS ((((n_spec_Push a0 a1)).Ask).Name), dI ((((n_spec_Push a0 a1)).Ask).Typ), dI (((n_spec_Push a0 a1)).Sent), dI (((n_spec_Push a0 a1)).Fetched), .sl 15 ((((n_spec_Push a0 a1)).Stack).map Frame.cells)]⟩] := by
  obtain ⟨r, hr⟩ : ∃ r, n_spec_Push a0 a1 = r := ⟨_, rfl⟩
  rw [hr]
  rw [n_spec_Push] at hr
  refine tr_go tabOk Try.func8 rfl rfl rfl rfl rfl (ov := [(0, .t ⟨true, [.d (dI (a0.No)), .d (dI (a0.Client)), .d (dS (a0.Ask.Name)), .d (dI (a0.Ask.Typ)), .d (dI (a0.Sent)), .d (dI (a0.Fetched)), .d (.sl 15 (a0.Stack.map Frame.cells))]⟩), (1, .t ⟨true, [.d (dS (a1.Name)), .d (dI (a1.Typ))]⟩)]) (hv := []) rfl rfl ?_
  refine v_seq ?_
  refine v_reg ?_
  refine sr 0 (.t ⟨false, [.vp 0 0]⟩) (.var [.d (dI (a0.No)), .d (dI (a0.Client)), .d (dS (a0.Ask.Name)), .d (dI (a0.Ask.Typ)), .d (dI (a0.Sent)), .d (dI (a0.Fetched)), .d (.sl 15 (a0.Stack.map Frame.cells))]) (zbx rfl (e rfl rfl) rfl rfl rfl) rfl rfl ?_
  refine sr 1 (.t ⟨false, [.vp 1 0]⟩) (.var [.d (dS (a1.Name)), .d (dI (a1.Typ))]) (zbx rfl (e rfl rfl) rfl rfl rfl) rfl rfl ?_
  refine sr 2 (.t ⟨false, [.vp 2 0]⟩) (.var [.d (dI (0)), .d (dI (0)), .d (dS (⟨#[]⟩)), .d (dI (0)), .d (dI (0)), .d (dI (0)), .nl 15]) (zal tabOk rfl rfl rfl rfl) rfl rfl ?_
  refine s_end ?_
  refine v_seq ?_
  refine v_reg ?_
  refine sy (.t ⟨true, [.d (dI (a0.No)), .d (dI (a0.Client)), .d (dS (a0.Ask.Name)), .d (dI (a0.Ask.Typ)), .d (dI (a0.Sent)), .d (dI (a0.Fetched)), .d (.sl 15 (a0.Stack.map Frame.cells))]⟩) (zlv tabOk rfl (e rfl rfl) rfl rfl rfl) rfl rfl ?_
  refine sd (.t ⟨true, [.d (dI (a0.No)), .d (dI (a0.Client)), .d (dS (a0.Ask.Name)), .d (dI (a0.Ask.Typ)), .d (dI (a0.Sent)), .d (dI (a0.Fetched)), .sr 3 1 0 ((a0.Stack.map Frame.cells).length) ((a0.Stack.map Frame.cells).length)]⟩) (zcall 3 (.t ⟨true, [.d (dI (a0.No)), .d (dI (a0.Client)), .d (dS (a0.Ask.Name)), .d (dI (a0.Ask.Typ)), .d (dI (a0.Sent)), .d (dI (a0.Fetched)), .sr 3 1 0 ((a0.Stack.map Frame.cells).length) ((a0.Stack.map Frame.cells).length)]⟩) [(3, .row 15 (a0.Stack.map Frame.cells) true 1 0)] rfl (tr2_n_spec_l22Copy a0 h0) (ar (e rfl rfl) (.d (.d (.d (.d (.d (.d (.d .nil))))))) .nil) rfl rfl rfl) rfl rfl rfl rfl ?_
  refine sr 4 (.t ⟨false, [.vp 4 0]⟩) (.var [.d (dI (0)), .d (dI (0)), .d (dS (⟨#[]⟩)), .d (dI (0)), .d (dI (0)), .d (dI (0)), .nl 15]) (zal tabOk rfl rfl rfl rfl) rfl rfl ?_
  refine sw 4 (.var [.d (dI (a0.No)), .d (dI (a0.Client)), .d (dS (a0.Ask.Name)), .d (dI (a0.Ask.Typ)), .d (dI (a0.Sent)), .d (dI (a0.Fetched)), .sr 3 1 0 ((a0.Stack.map Frame.cells).length) ((a0.Stack.map Frame.cells).length)]) (zst tabOk rfl (e rfl rfl) rfl (e rfl rfl) rfl rfl rfl) rfl rfl ?_
  refine s_end ?_
  refine v_seq ?_
  refine v_reg ?_
  refine sy (.t ⟨false, [.vp 4 6]⟩) (zfa tabOk rfl rfl rfl (e rfl rfl) rfl rfl) rfl rfl ?_
  refine sy (.t ⟨false, [.sr 3 1 0 ((a0.Stack.map Frame.cells).length) ((a0.Stack.map Frame.cells).length)]⟩) (zlv tabOk rfl (e rfl rfl) rfl rfl rfl) rfl rfl ?_
  have hB1 := (h0.Stack).1
  refine sy (.t ⟨false, [.d (dI ((a0.Stack).length : Int))]⟩) (zlm tabOk rfl rfl (e rfl rfl) (.sr (dp := 0) rfl)) rfl rfl ?_
  refine sy _ (zas rfl (e rfl rfl)) rfl rfl ?_
  refine s_end ?_
  refine v_seq ?_
  refine v_seq ?_
  refine v_reg ?_
  refine sy _ (zmv rfl (e rfl rfl)) rfl rfl ?_
  refine sy (.t ⟨false, [.d (dB (decide ((0) < (((a0.Stack).length : Int)))))]⟩) (y_bin rfl (e rfl rfl) (ec rfl) (fun _ => b_gtr) rfl) rfl rfl ?_
  refine s_end ?_
  refine v_cond (e rfl rfl) (fun hb1 => ?_) fun hb1 => ?_
  · replace hr := bf_t hb1 hr
    have hb1p := dec_t hb1
    refine v_reg ?_
    refine sy (.t ⟨false, [.vp 4 6]⟩) (zfa tabOk rfl rfl rfl (e rfl rfl) rfl rfl) rfl rfl ?_
    refine sy (.t ⟨false, [.sr 3 1 0 ((a0.Stack.map Frame.cells).length) ((a0.Stack.map Frame.cells).length)]⟩) (zlv tabOk rfl (e rfl rfl) rfl rfl rfl) rfl rfl ?_
    refine sy _ (zmv rfl (e rfl rfl)) rfl rfl ?_
    refine sy (.t ⟨false, [.d (dI (((a0.Stack).length : Int) - 1))]⟩) (y_bin rfl (e rfl rfl) (ec rfl) (fun _ => b_subn (by omega) (by omega)) rfl) rfl rfl ?_
    obtain ⟨x1, hx1⟩ : ∃ x, (a0.Stack)[(((a0.Stack).length : Int) - 1).toNat]? = some x := some_of_lt (by omega)
    replace hr := at_step hx1 hr
    have hfx1 := h0.Stack.2 _ (List.mem_of_getElem? hx1)
    refine sy (.t ⟨false, [.ep 3 1 ((((a0.Stack).length : Int) - 1).toNat) 0]⟩) (zisI tabOk rfl rfl rfl (e rfl rfl) rfl (e rfl rfl) (by omega) (ltm_of_some hx1) (Nat.zero_add _)) rfl rfl ?_
    refine sy (.t ⟨false, [.ep 3 1 ((((a0.Stack).length : Int) - 1).toNat) 10]⟩) (zfa tabOk rfl rfl rfl (e rfl rfl) rfl rfl) rfl rfl ?_
    refine sw 3 (.row 15 (((a0.Stack).set ((((a0.Stack).length : Int) - 1).toNat) ((⟨x1.Ask, x1.Q, x1.Links, x1.Apex, x1.Servers, x1.Need, x1.Down, x1.Left, 5, x1.X⟩ : Frame))).map Frame.cells) true 1 0) (zsr0 tabOk rfl (e rfl rfl) rfl (getm hx1) (ec rfl) rfl (.lf .nil) rfl rfl (map_set rfl)) rfl rfl ?_
    refine s_end ?_
    refine v_seq ?_
    refine v_drw [⟨.t ⟨false, [.vp 4 6]⟩, [], [5], []⟩, ⟨.t ⟨false, [.sr 3 1 0 ((a0.Stack.map Frame.cells).length) ((a0.Stack.map Frame.cells).length)]⟩, [], [20], [4]⟩, ⟨.t ⟨true, [.d (dS (a1.Name)), .d (dI (a1.Typ))]⟩, [], [3], [1]⟩, ⟨.t ⟨true, [.d (dS (a1.Name)), .d (dI (a1.Typ)), .d (dS (a1.Name)), .d (dI (a1.Typ)), .d (.lf (.slice none 0 0)), .d (dS (⟨#[]⟩)), .d (.lf (.slice none 0 0)), .d (.lf (.slice none 0 0)), .d (dI (0)), .d (dI (0)), .d (dI (1)), .d (dI (0)), .d (dI (0)), .d (dI (0)), .d (dI (0))]⟩, [], [22], []⟩, ⟨.t ⟨false, [.sr 5 1 0 ((([⟨a1, a1, [], ⟨#[]⟩, [], [], 0, 0, 1, ⟨0, 0, 0, 0⟩⟩] : List Frame).map Frame.cells).length) ((([⟨a1, a1, [], ⟨#[]⟩, [], [], 0, 0, 1, ⟨0, 0, 0, 0⟩⟩] : List Frame).map Frame.cells).length)]⟩, [(5, .row 15 (([⟨a1, a1, [], ⟨#[]⟩, [], [], 0, 0, 1, ⟨0, 0, 0, 0⟩⟩] : List Frame).map Frame.cells) true 1 0)], [23], []⟩] mixed rfl rfl rfl rfl ⟨fun t h A => dy (zfa tabOk rfl rfl rfl (A.e rfl rfl rfl) rfl rfl), fun t h A => dy (zlv tabOk rfl (A.e rfl rfl rfl) (A.h rfl rfl) rfl rfl), fun t h A => dy (zlv tabOk rfl (A.e rfl rfl rfl) (A.h rfl rfl) rfl rfl), fun t h A => zcallA 5 (.t ⟨true, [.d (dS (a1.Name)), .d (dI (a1.Typ)), .d (dS (a1.Name)), .d (dI (a1.Typ)), .d (.lf (.slice none 0 0)), .d (dS (⟨#[]⟩)), .d (.lf (.slice none 0 0)), .d (.lf (.slice none 0 0)), .d (dI (0)), .d (dI (0)), .d (dI (1)), .d (dI (0)), .d (dI (0)), .d (dI (0)), .d (dI (0))]⟩) [] rfl (tr_n_spec_FrameNew a1 h1) (ar (A.e rfl rfl rfl) (.d (.d .nil)) .nil) rfl (free0 rfl) rfl rfl, fun t h A => dk (zbu tabOk rfl rfl rfl rfl (pd0 (A.e rfl rfl rfl) rfl (.lf (.lf (.lf (.lf (.nild (.lf (.nild (.nild (.lf (.lf (.lf (.lf (.lf (.lf (.lf .nil))))))))))))))) rfl .nil) rfl (A.g rfl)), trivial⟩ ?_
    refine sak 3 (.t ⟨false, [.sr 3 (1 + 1) 0 ((((a0.Stack).set ((((a0.Stack).length : Int) - 1).toNat) ((⟨x1.Ask, x1.Q, x1.Links, x1.Apex, x1.Servers, x1.Need, x1.Down, x1.Left, 5, x1.X⟩ : Frame)) ++ ([⟨a1, a1, [], ⟨#[]⟩, [], [], 0, 0, 1, ⟨0, 0, 0, 0⟩⟩] : List Frame)).map Frame.cells).length) ((((a0.Stack).set ((((a0.Stack).length : Int) - 1).toNat) ((⟨x1.Ask, x1.Q, x1.Links, x1.Apex, x1.Servers, x1.Need, x1.Down, x1.Left, 5, x1.X⟩ : Frame)) ++ ([⟨a1, a1, [], ⟨#[]⟩, [], [], 0, 0, 1, ⟨0, 0, 0, 0⟩⟩] : List Frame)).map Frame.cells).length)]⟩) (.row 15 (((a0.Stack).set ((((a0.Stack).length : Int) - 1).toNat) ((⟨x1.Ask, x1.Q, x1.Links, x1.Apex, x1.Servers, x1.Need, x1.Down, x1.Left, 5, x1.X⟩ : Frame)) ++ ([⟨a1, a1, [], ⟨#[]⟩, [], [], 0, 0, 1, ⟨0, 0, 0, 0⟩⟩] : List Frame)).map Frame.cells) true (1 + 1) (0 + 1)) (zapk tabOk rfl rfl rfl rfl (e rfl rfl) rfl (by simp) (e rfl rfl) (.take rfl le_all take_all) rfl (ap_big (by simp only [List.length_map, List.length_cons, List.length_nil]; omega) rfl) map_app (by simp)) rfl rfl ?_
    refine sy (.t ⟨false, [.vp 4 6]⟩) (zfa tabOk rfl rfl rfl (e rfl rfl) rfl rfl) rfl rfl ?_
    refine sw 4 (.var [.d (dI (a0.No)), .d (dI (a0.Client)), .d (dS (a0.Ask.Name)), .d (dI (a0.Ask.Typ)), .d (dI (a0.Sent)), .d (dI (a0.Fetched)), .sr 3 (1 + 1) 0 ((((a0.Stack).set ((((a0.Stack).length : Int) - 1).toNat) ((⟨x1.Ask, x1.Q, x1.Links, x1.Apex, x1.Servers, x1.Need, x1.Down, x1.Left, 5, x1.X⟩ : Frame)) ++ ([⟨a1, a1, [], ⟨#[]⟩, [], [], 0, 0, 1, ⟨0, 0, 0, 0⟩⟩] : List Frame)).map Frame.cells).length) ((((a0.Stack).set ((((a0.Stack).length : Int) - 1).toNat) ((⟨x1.Ask, x1.Q, x1.Links, x1.Apex, x1.Servers, x1.Need, x1.Down, x1.Left, 5, x1.X⟩ : Frame)) ++ ([⟨a1, a1, [], ⟨#[]⟩, [], [], 0, 0, 1, ⟨0, 0, 0, 0⟩⟩] : List Frame)).map Frame.cells).length)]) (zst tabOk rfl (e rfl rfl) rfl (e rfl rfl) rfl rfl rfl) rfl rfl ?_
    refine s_end ?_
    refine v_seq ?_
    refine v_reg ?_
    refine sy (.t ⟨false, [.vp 0 5]⟩) (zfa tabOk rfl rfl rfl (e rfl rfl) rfl rfl) rfl rfl ?_
    refine sy (.t ⟨false, [.d (dI (a0.Fetched))]⟩) (zlv tabOk rfl (e rfl rfl) rfl rfl rfl) rfl rfl ?_
    refine sy (.t ⟨false, [.d (dI (w64 (a0.Fetched + 1)))]⟩) (y_bin rfl (e rfl rfl) (ec rfl) (fun _ => b_w) rfl) rfl rfl ?_
    refine sy (.t ⟨false, [.vp 4 5]⟩) (zfa tabOk rfl rfl rfl (e rfl rfl) rfl rfl) rfl rfl ?_
    refine sw 4 (.var [.d (dI (a0.No)), .d (dI (a0.Client)), .d (dS (a0.Ask.Name)), .d (dI (a0.Ask.Typ)), .d (dI (a0.Sent)), .d (dI (w64 (a0.Fetched + 1))), .sr 3 (1 + 1) 0 ((((a0.Stack).set ((((a0.Stack).length : Int) - 1).toNat) ((⟨x1.Ask, x1.Q, x1.Links, x1.Apex, x1.Servers, x1.Need, x1.Down, x1.Left, 5, x1.X⟩ : Frame)) ++ ([⟨a1, a1, [], ⟨#[]⟩, [], [], 0, 0, 1, ⟨0, 0, 0, 0⟩⟩] : List Frame)).map Frame.cells).length) ((((a0.Stack).set ((((a0.Stack).length : Int) - 1).toNat) ((⟨x1.Ask, x1.Q, x1.Links, x1.Apex, x1.Servers, x1.Need, x1.Down, x1.Left, 5, x1.X⟩ : Frame)) ++ ([⟨a1, a1, [], ⟨#[]⟩, [], [], 0, 0, 1, ⟨0, 0, 0, 0⟩⟩] : List Frame)).map Frame.cells).length)]) (zst tabOk rfl (e rfl rfl) rfl (e rfl rfl) rfl rfl rfl) rfl rfl ?_
    refine s_end ?_
    refine v_seq ?_
    refine v_reg ?_
    refine sy (.t ⟨true, [.d (dI (a0.No)), .d (dI (a0.Client)), .d (dS (a0.Ask.Name)), .d (dI (a0.Ask.Typ)), .d (dI (a0.Sent)), .d (dI (w64 (a0.Fetched + 1))), .sr 3 (1 + 1) 0 ((((a0.Stack).set ((((a0.Stack).length : Int) - 1).toNat) ((⟨x1.Ask, x1.Q, x1.Links, x1.Apex, x1.Servers, x1.Need, x1.Down, x1.Left, 5, x1.X⟩ : Frame)) ++ ([⟨a1, a1, [], ⟨#[]⟩, [], [], 0, 0, 1, ⟨0, 0, 0, 0⟩⟩] : List Frame)).map Frame.cells).length) ((((a0.Stack).set ((((a0.Stack).length : Int) - 1).toNat) ((⟨x1.Ask, x1.Q, x1.Links, x1.Apex, x1.Servers, x1.Need, x1.Down, x1.Left, 5, x1.X⟩ : Frame)) ++ ([⟨a1, a1, [], ⟨#[]⟩, [], [], 0, 0, 1, ⟨0, 0, 0, 0⟩⟩] : List Frame)).map Frame.cells).length)]⟩) (zlv tabOk rfl (e rfl rfl) rfl rfl rfl) rfl rfl ?_
    refine sw 2 (.var [.d (dI (a0.No)), .d (dI (a0.Client)), .d (dS (a0.Ask.Name)), .d (dI (a0.Ask.Typ)), .d (dI (a0.Sent)), .d (dI (w64 (a0.Fetched + 1))), .sr 3 (1 + 1) 0 ((((a0.Stack).set ((((a0.Stack).length : Int) - 1).toNat) ((⟨x1.Ask, x1.Q, x1.Links, x1.Apex, x1.Servers, x1.Need, x1.Down, x1.Left, 5, x1.X⟩ : Frame)) ++ ([⟨a1, a1, [], ⟨#[]⟩, [], [], 0, 0, 1, ⟨0, 0, 0, 0⟩⟩] : List Frame)).map Frame.cells).length) ((((a0.Stack).set ((((a0.Stack).length : Int) - 1).toNat) ((⟨x1.Ask, x1.Q, x1.Links, x1.Apex, x1.Servers, x1.Need, x1.Down, x1.Left, 5, x1.X⟩ : Frame)) ++ ([⟨a1, a1, [], ⟨#[]⟩, [], [], 0, 0, 1, ⟨0, 0, 0, 0⟩⟩] : List Frame)).map Frame.cells).length)]) (zst tabOk rfl (e rfl rfl) rfl (e rfl rfl) rfl rfl rfl) rfl rfl ?_
    refine s_end ?_
    refine v_ret ?_
    subst hr
    exact post_ret (rv (.cell (eg rfl rfl) rfl rfl (.inl rfl) rfl) rfl (.lf (.lf (.lf (.lf (.lf (.lf (.sr rfl le_all take_all .nil))))))) rfl .nil) (.ro (.ro .nil)) rfl
  replace hr := bf_f hb1 hr
  have hb1p := dec_f hb1
  refine v_skip ?_
  refine v_seq ?_
  refine v_drw [⟨.t ⟨false, [.vp 4 6]⟩, [], [5], []⟩, ⟨.t ⟨false, [.sr 3 1 0 ((a0.Stack.map Frame.cells).length) ((a0.Stack.map Frame.cells).length)]⟩, [], [20], [4]⟩, ⟨.t ⟨true, [.d (dS (a1.Name)), .d (dI (a1.Typ))]⟩, [], [3], [1]⟩, ⟨.t ⟨true, [.d (dS (a1.Name)), .d (dI (a1.Typ)), .d (dS (a1.Name)), .d (dI (a1.Typ)), .d (.lf (.slice none 0 0)), .d (dS (⟨#[]⟩)), .d (.lf (.slice none 0 0)), .d (.lf (.slice none 0 0)), .d (dI (0)), .d (dI (0)), .d (dI (1)), .d (dI (0)), .d (dI (0)), .d (dI (0)), .d (dI (0))]⟩, [], [22], []⟩, ⟨.t ⟨false, [.sr 6 1 0 ((([⟨a1, a1, [], ⟨#[]⟩, [], [], 0, 0, 1, ⟨0, 0, 0, 0⟩⟩] : List Frame).map Frame.cells).length) ((([⟨a1, a1, [], ⟨#[]⟩, [], [], 0, 0, 1, ⟨0, 0, 0, 0⟩⟩] : List Frame).map Frame.cells).length)]⟩, [(6, .row 15 (([⟨a1, a1, [], ⟨#[]⟩, [], [], 0, 0, 1, ⟨0, 0, 0, 0⟩⟩] : List Frame).map Frame.cells) true 1 0)], [23], []⟩] mixed rfl rfl rfl rfl ⟨fun t h A => dy (zfa tabOk rfl rfl rfl (A.e rfl rfl rfl) rfl rfl), fun t h A => dy (zlv tabOk rfl (A.e rfl rfl rfl) (A.h rfl rfl) rfl rfl), fun t h A => dy (zlv tabOk rfl (A.e rfl rfl rfl) (A.h rfl rfl) rfl rfl), fun t h A => zcallA 6 (.t ⟨true, [.d (dS (a1.Name)), .d (dI (a1.Typ)), .d (dS (a1.Name)), .d (dI (a1.Typ)), .d (.lf (.slice none 0 0)), .d (dS (⟨#[]⟩)), .d (.lf (.slice none 0 0)), .d (.lf (.slice none 0 0)), .d (dI (0)), .d (dI (0)), .d (dI (1)), .d (dI (0)), .d (dI (0)), .d (dI (0)), .d (dI (0))]⟩) [] rfl (tr_n_spec_FrameNew a1 h1) (ar (A.e rfl rfl rfl) (.d (.d .nil)) .nil) rfl (free0 rfl) rfl rfl, fun t h A => dk (zbu tabOk rfl rfl rfl rfl (pd0 (A.e rfl rfl rfl) rfl (.lf (.lf (.lf (.lf (.nild (.lf (.nild (.nild (.lf (.lf (.lf (.lf (.lf (.lf (.lf .nil))))))))))))))) rfl .nil) rfl (A.g rfl)), trivial⟩ ?_
  refine sak 3 (.t ⟨false, [.sr 3 (1 + 1) 0 (((a0.Stack ++ ([⟨a1, a1, [], ⟨#[]⟩, [], [], 0, 0, 1, ⟨0, 0, 0, 0⟩⟩] : List Frame)).map Frame.cells).length) (((a0.Stack ++ ([⟨a1, a1, [], ⟨#[]⟩, [], [], 0, 0, 1, ⟨0, 0, 0, 0⟩⟩] : List Frame)).map Frame.cells).length)]⟩) (.row 15 ((a0.Stack ++ ([⟨a1, a1, [], ⟨#[]⟩, [], [], 0, 0, 1, ⟨0, 0, 0, 0⟩⟩] : List Frame)).map Frame.cells) true (1 + 1) (0 + 1)) (zapk tabOk rfl rfl rfl rfl (e rfl rfl) rfl rfl (e rfl rfl) (.take rfl le_all take_all) rfl (ap_big (by simp only [List.length_map, List.length_cons, List.length_nil]; omega) rfl) map_app len_app) rfl rfl ?_
  refine sy (.t ⟨false, [.vp 4 6]⟩) (zfa tabOk rfl rfl rfl (e rfl rfl) rfl rfl) rfl rfl ?_
  refine sw 4 (.var [.d (dI (a0.No)), .d (dI (a0.Client)), .d (dS (a0.Ask.Name)), .d (dI (a0.Ask.Typ)), .d (dI (a0.Sent)), .d (dI (a0.Fetched)), .sr 3 (1 + 1) 0 (((a0.Stack ++ ([⟨a1, a1, [], ⟨#[]⟩, [], [], 0, 0, 1, ⟨0, 0, 0, 0⟩⟩] : List Frame)).map Frame.cells).length) (((a0.Stack ++ ([⟨a1, a1, [], ⟨#[]⟩, [], [], 0, 0, 1, ⟨0, 0, 0, 0⟩⟩] : List Frame)).map Frame.cells).length)]) (zst tabOk rfl (e rfl rfl) rfl (e rfl rfl) rfl rfl rfl) rfl rfl ?_
  refine s_end ?_
  refine v_seq ?_
  refine v_reg ?_
  refine sy (.t ⟨false, [.vp 0 5]⟩) (zfa tabOk rfl rfl rfl (e rfl rfl) rfl rfl) rfl rfl ?_
  refine sy (.t ⟨false, [.d (dI (a0.Fetched))]⟩) (zlv tabOk rfl (e rfl rfl) rfl rfl rfl) rfl rfl ?_
  refine sy (.t ⟨false, [.d (dI (w64 (a0.Fetched + 1)))]⟩) (y_bin rfl (e rfl rfl) (ec rfl) (fun _ => b_w) rfl) rfl rfl ?_
  refine sy (.t ⟨false, [.vp 4 5]⟩) (zfa tabOk rfl rfl rfl (e rfl rfl) rfl rfl) rfl rfl ?_
  refine sw 4 (.var [.d (dI (a0.No)), .d (dI (a0.Client)), .d (dS (a0.Ask.Name)), .d (dI (a0.Ask.Typ)), .d (dI (a0.Sent)), .d (dI (w64 (a0.Fetched + 1))), .sr 3 (1 + 1) 0 (((a0.Stack ++ ([⟨a1, a1, [], ⟨#[]⟩, [], [], 0, 0, 1, ⟨0, 0, 0, 0⟩⟩] : List Frame)).map Frame.cells).length) (((a0.Stack ++ ([⟨a1, a1, [], ⟨#[]⟩, [], [], 0, 0, 1, ⟨0, 0, 0, 0⟩⟩] : List Frame)).map Frame.cells).length)]) (zst tabOk rfl (e rfl rfl) rfl (e rfl rfl) rfl rfl rfl) rfl rfl ?_
  refine s_end ?_
  refine v_seq ?_
  refine v_reg ?_
  refine sy (.t ⟨true, [.d (dI (a0.No)), .d (dI (a0.Client)), .d (dS (a0.Ask.Name)), .d (dI (a0.Ask.Typ)), .d (dI (a0.Sent)), .d (dI (w64 (a0.Fetched + 1))), .sr 3 (1 + 1) 0 (((a0.Stack ++ ([⟨a1, a1, [], ⟨#[]⟩, [], [], 0, 0, 1, ⟨0, 0, 0, 0⟩⟩] : List Frame)).map Frame.cells).length) (((a0.Stack ++ ([⟨a1, a1, [], ⟨#[]⟩, [], [], 0, 0, 1, ⟨0, 0, 0, 0⟩⟩] : List Frame)).map Frame.cells).length)]⟩) (zlv tabOk rfl (e rfl rfl) rfl rfl rfl) rfl rfl ?_
  refine sw 2 (.var [.d (dI (a0.No)), .d (dI (a0.Client)), .d (dS (a0.Ask.Name)), .d (dI (a0.Ask.Typ)), .d (dI (a0.Sent)), .d (dI (w64 (a0.Fetched + 1))), .sr 3 (1 + 1) 0 (((a0.Stack ++ ([⟨a1, a1, [], ⟨#[]⟩, [], [], 0, 0, 1, ⟨0, 0, 0, 0⟩⟩] : List Frame)).map Frame.cells).length) (((a0.Stack ++ ([⟨a1, a1, [], ⟨#[]⟩, [], [], 0, 0, 1, ⟨0, 0, 0, 0⟩⟩] : List Frame)).map Frame.cells).length)]) (zst tabOk rfl (e rfl rfl) rfl (e rfl rfl) rfl rfl rfl) rfl rfl ?_
  refine s_end ?_
  refine v_ret ?_
  subst hr
  exact post_ret (rv (.cell (eg rfl rfl) rfl rfl (.inl rfl) rfl) rfl (.lf (.lf (.lf (.lf (.lf (.lf (.sr rfl le_all take_all .nil))))))) rfl .nil) (.ro (.ro .nil)) rfl
def n_impl_Push (a0 : Job) (a1 : Quest) : Job := cond (decide ((0) < (((a0.Stack).length : Int)))) (atL (a0.Stack) ((((a0.Stack).length : Int) - 1).toNat) (fun x1 => (⟨a0.No, a0.Client, a0.Ask, a0.Sent, w64 (a0.Fetched + 1), (a0.Stack).set ((((a0.Stack).length : Int) - 1).toNat) ((⟨x1.Ask, x1.Q, x1.Links, x1.Apex, x1.Servers, x1.Need, x1.Down, x1.Left, 5, x1.X⟩ : Frame)) ++ ([⟨a1, a1, [], ⟨#[]⟩, [], [], 0, 0, 1, ⟨0, 0, 0, 0⟩⟩] : List Frame)⟩ : Job))) ((⟨a0.No, a0.Client, a0.Ask, a0.Sent, w64 (a0.Fetched + 1), a0.Stack ++ ([⟨a1, a1, [], ⟨#[]⟩, [], [], 0, 0, 1, ⟨0, 0, 0, 0⟩⟩] : List Frame)⟩ : Job))
set_option maxRecDepth 20000 in
theorem tr_n_impl_Push (a0 : Job) (a1 : Quest) (h0 : Job.Fit a0) (h1 : Quest.Fit a1) : Tr Try.prog 11 [.ro ⟨true, [dI (a0.No), dI (a0.Client), dS (a0.Ask.Name), dI (a0.Ask.Typ), dI (a0.Sent), dI (a0.Fetched), .sl 15 (a0.Stack.map Frame.cells)]⟩, .ro ⟨true, [dS (a1.Name), dI (a1.Typ)]⟩] [⟨true, [dI (((n_impl_Push a0 a1)).No), dI (((n_impl_Push a0 a1)).Client), dS ((((n_impl_Push a0 a1)).Ask).Name), dI ((((n_impl_Push a0 a1)).Ask).Typ), dI (((n_impl_Push a0 a1)).Sent), dI (((n_impl_Push a0 a1)).Fetched), .sl 15 ((((n_impl_Push a0 a1)).Stack).map Frame.cells)]⟩] := by
  obtain ⟨r, hr⟩ : ∃ r, n_impl_Push a0 a1 = r := ⟨_, rfl⟩
  rw [hr]
  rw [n_impl_Push] at hr
  refine tr_go tabOk Try.func11 rfl rfl rfl rfl rfl (ov := [(0, .t ⟨true, [.d (dI (a0.No)), .d (dI (a0.Client)), .d (dS (a0.Ask.Name)), .d (dI (a0.Ask.Typ)), .d (dI (a0.Sent)), .d (dI (a0.Fetched)), .d (.sl 15 (a0.Stack.map Frame.cells))]⟩), (1, .t ⟨true, [.d (dS (a1.Name)), .d (dI (a1.Typ))]⟩)]) (hv := []) rfl rfl ?_
  refine v_seq ?_
  refine v_reg ?_
  refine sr 0 (.t ⟨false, [.vp 0 0]⟩) (.var [.d (dI (a0.No)), .d (dI (a0.Client)), .d (dS (a0.Ask.Name)), .d (dI (a0.Ask.Typ)), .d (dI (a0.Sent)), .d (dI (a0.Fetched)), .d (.sl 15 (a0.Stack.map Frame.cells))]) (zbx rfl (e rfl rfl) rfl rfl rfl) rfl rfl ?_
  refine sr 1 (.t ⟨false, [.vp 1 0]⟩) (.var [.d (dS (a1.Name)), .d (dI (a1.Typ))]) (zbx rfl (e rfl rfl) rfl rfl rfl) rfl rfl ?_
  refine sr 2 (.t ⟨false, [.vp 2 0]⟩) (.var [.d (dI (0)), .d (dI (0)), .d (dS (⟨#[]⟩)), .d (dI (0)), .d (dI (0)), .d (dI (0)), .nl 15]) (zal tabOk rfl rfl rfl rfl) rfl rfl ?_
  refine s_end ?_
  refine v_seq ?_
  refine v_reg ?_
  refine sy (.t ⟨true, [.d (dI (a0.No)), .d (dI (a0.Client)), .d (dS (a0.Ask.Name)), .d (dI (a0.Ask.Typ)), .d (dI (a0.Sent)), .d (dI (a0.Fetched)), .d (.sl 15 (a0.Stack.map Frame.cells))]⟩) (zlv tabOk rfl (e rfl rfl) rfl rfl rfl) rfl rfl ?_
  refine sd (.t ⟨true, [.d (dI (a0.No)), .d (dI (a0.Client)), .d (dS (a0.Ask.Name)), .d (dI (a0.Ask.Typ)), .d (dI (a0.Sent)), .d (dI (a0.Fetched)), .sr 3 1 0 ((a0.Stack.map Frame.cells).length) ((a0.Stack.map Frame.cells).length)]⟩) (zcall 3 (.t ⟨true, [.d (dI (a0.No)), .d (dI (a0.Client)), .d (dS (a0.Ask.Name)), .d (dI (a0.Ask.Typ)), .d (dI (a0.Sent)), .d (dI (a0.Fetched)), .sr 3 1 0 ((a0.Stack.map Frame.cells).length) ((a0.Stack.map Frame.cells).length)]⟩) [(3, .row 15 (a0.Stack.map Frame.cells) true 1 0)] rfl (tr2_n_impl_copyJob a0 h0) (ar (e rfl rfl) (.d (.d (.d (.d (.d (.d (.d .nil))))))) .nil) rfl rfl rfl) rfl rfl rfl rfl ?_
  refine sw 0 (.var [.d (dI (a0.No)), .d (dI (a0.Client)), .d (dS (a0.Ask.Name)), .d (dI (a0.Ask.Typ)), .d (dI (a0.Sent)), .d (dI (a0.Fetched)), .sr 3 1 0 ((a0.Stack.map Frame.cells).length) ((a0.Stack.map Frame.cells).length)]) (zst tabOk rfl (e rfl rfl) rfl (e rfl rfl) rfl rfl rfl) rfl rfl ?_
  refine s_end ?_
  refine v_seq ?_
  refine v_seq ?_
  refine v_reg ?_
  refine sy (.t ⟨false, [.vp 0 6]⟩) (zfa tabOk rfl rfl rfl (e rfl rfl) rfl rfl) rfl rfl ?_
  refine sy (.t ⟨false, [.sr 3 1 0 ((a0.Stack.map Frame.cells).length) ((a0.Stack.map Frame.cells).length)]⟩) (zlv tabOk rfl (e rfl rfl) rfl rfl rfl) rfl rfl ?_
  have hB1 := (h0.Stack).1
  refine sy (.t ⟨false, [.d (dI ((a0.Stack).length : Int))]⟩) (zlm tabOk rfl rfl (e rfl rfl) (.sr (dp := 0) rfl)) rfl rfl ?_
  refine sy _ (zas rfl (e rfl rfl)) rfl rfl ?_
  refine s_end ?_
  refine v_seq ?_
  refine v_reg ?_
  refine sy _ (zmv rfl (e rfl rfl)) rfl rfl ?_
  refine sy (.t ⟨false, [.d (dB (decide ((0) < (((a0.Stack).length : Int)))))]⟩) (y_bin rfl (e rfl rfl) (ec rfl) (fun _ => b_gtr) rfl) rfl rfl ?_
  refine s_end ?_
  refine v_cond (e rfl rfl) (fun hb1 => ?_) fun hb1 => ?_
  · replace hr := bf_t hb1 hr
    have hb1p := dec_t hb1
    refine v_reg ?_
    refine sy (.t ⟨false, [.vp 0 6]⟩) (zfa tabOk rfl rfl rfl (e rfl rfl) rfl rfl) rfl rfl ?_
    refine sy (.t ⟨false, [.sr 3 1 0 ((a0.Stack.map Frame.cells).length) ((a0.Stack.map Frame.cells).length)]⟩) (zlv tabOk rfl (e rfl rfl) rfl rfl rfl) rfl rfl ?_
    refine sy _ (zmv rfl (e rfl rfl)) rfl rfl ?_
    refine sy (.t ⟨false, [.d (dI (((a0.Stack).length : Int) - 1))]⟩) (y_bin rfl (e rfl rfl) (ec rfl) (fun _ => b_subn (by omega) (by omega)) rfl) rfl rfl ?_
    obtain ⟨x1, hx1⟩ : ∃ x, (a0.Stack)[(((a0.Stack).length : Int) - 1).toNat]? = some x := some_of_lt (by omega)
    replace hr := at_step hx1 hr
    have hfx1 := h0.Stack.2 _ (List.mem_of_getElem? hx1)
    refine sy (.t ⟨false, [.ep 3 1 ((((a0.Stack).length : Int) - 1).toNat) 0]⟩) (zisI tabOk rfl rfl rfl (e rfl rfl) rfl (e rfl rfl) (by omega) (ltm_of_some hx1) (Nat.zero_add _)) rfl rfl ?_
    refine sy (.t ⟨false, [.ep 3 1 ((((a0.Stack).length : Int) - 1).toNat) 10]⟩) (zfa tabOk rfl rfl rfl (e rfl rfl) rfl rfl) rfl rfl ?_
    refine sw 3 (.row 15 (((a0.Stack).set ((((a0.Stack).length : Int) - 1).toNat) ((⟨x1.Ask, x1.Q, x1.Links, x1.Apex, x1.Servers, x1.Need, x1.Down, x1.Left, 5, x1.X⟩ : Frame))).map Frame.cells) true 1 0) (zsr0 tabOk rfl (e rfl rfl) rfl (getm hx1) (ec rfl) rfl (.lf .nil) rfl rfl (map_set rfl)) rfl rfl ?_
    refine s_end ?_
    refine v_seq ?_
    refine v_drw [⟨.t ⟨false, [.vp 0 6]⟩, [], [2], []⟩, ⟨.t ⟨false, [.sr 3 1 0 ((a0.Stack.map Frame.cells).length) ((a0.Stack.map Frame.cells).length)]⟩, [], [19], [0]⟩, ⟨.t ⟨true, [.d (dS (a1.Name)), .d (dI (a1.Typ))]⟩, [], [3], [1]⟩, ⟨.t ⟨true, [.d (dS (a1.Name)), .d (dI (a1.Typ)), .d (dS (a1.Name)), .d (dI (a1.Typ)), .d (.lf (.slice none 0 0)), .d (dS (⟨#[]⟩)), .d (.lf (.slice none 0 0)), .d (.lf (.slice none 0 0)), .d (dI (0)), .d (dI (0)), .d (dI (1)), .d (dI (0)), .d (dI (0)), .d (dI (0)), .d (dI (0))]⟩, [], [21], []⟩, ⟨.t ⟨false, [.sr 4 1 0 ((([⟨a1, a1, [], ⟨#[]⟩, [], [], 0, 0, 1, ⟨0, 0, 0, 0⟩⟩] : List Frame).map Frame.cells).length) ((([⟨a1, a1, [], ⟨#[]⟩, [], [], 0, 0, 1, ⟨0, 0, 0, 0⟩⟩] : List Frame).map Frame.cells).length)]⟩, [(4, .row 15 (([⟨a1, a1, [], ⟨#[]⟩, [], [], 0, 0, 1, ⟨0, 0, 0, 0⟩⟩] : List Frame).map Frame.cells) true 1 0)], [22], []⟩] mixed rfl rfl rfl rfl ⟨fun t h A => dy (zfa tabOk rfl rfl rfl (A.e rfl rfl rfl) rfl rfl), fun t h A => dy (zlv tabOk rfl (A.e rfl rfl rfl) (A.h rfl rfl) rfl rfl), fun t h A => dy (zlv tabOk rfl (A.e rfl rfl rfl) (A.h rfl rfl) rfl rfl), fun t h A => zcallA 4 (.t ⟨true, [.d (dS (a1.Name)), .d (dI (a1.Typ)), .d (dS (a1.Name)), .d (dI (a1.Typ)), .d (.lf (.slice none 0 0)), .d (dS (⟨#[]⟩)), .d (.lf (.slice none 0 0)), .d (.lf (.slice none 0 0)), .d (dI (0)), .d (dI (0)), .d (dI (1)), .d (dI (0)), .d (dI (0)), .d (dI (0)), .d (dI (0))]⟩) [] rfl (tr_n_impl_FrameNew a1 h1) (ar (A.e rfl rfl rfl) (.d (.d .nil)) .nil) rfl (free0 rfl) rfl rfl, fun t h A => dk (zbu tabOk rfl rfl rfl rfl (pd0 (A.e rfl rfl rfl) rfl (.lf (.lf (.lf (.lf (.nild (.lf (.nild (.nild (.lf (.lf (.lf (.lf (.lf (.lf (.lf .nil))))))))))))))) rfl .nil) rfl (A.g rfl)), trivial⟩ ?_
    refine sak 3 (.t ⟨false, [.sr 3 (1 + 1) 0 ((((a0.Stack).set ((((a0.Stack).length : Int) - 1).toNat) ((⟨x1.Ask, x1.Q, x1.Links, x1.Apex, x1.Servers, x1.Need, x1.Down, x1.Left, 5, x1.X⟩ : Frame)) ++ ([⟨a1, a1, [], ⟨#[]⟩, [], [], 0, 0, 1, ⟨0, 0, 0, 0⟩⟩] : List Frame)).map Frame.cells).length) ((((a0.Stack).set ((((a0.Stack).length : Int) - 1).toNat) ((⟨x1.Ask, x1.Q, x1.Links, x1.Apex, x1.Servers, x1.Need, x1.Down, x1.Left, 5, x1.X⟩ : Frame)) ++ ([⟨a1, a1, [], ⟨#[]⟩, [], [], 0, 0, 1, ⟨0, 0, 0, 0⟩⟩] : List Frame)).map Frame.cells).length)]⟩) (.row 15 (((a0.Stack).set ((((a0.Stack).length : Int) - 1).toNat) ((⟨x1.Ask, x1.Q, x1.Links, x1.Apex, x1.Servers, x1.Need, x1.Down, x1.Left, 5, x1.X⟩ : Frame)) ++ ([⟨a1, a1, [], ⟨#[]⟩, [], [], 0, 0, 1, ⟨0, 0, 0, 0⟩⟩] : List Frame)).map Frame.cells) true (1 + 1) (0 + 1)) (zapk tabOk rfl rfl rfl rfl (e rfl rfl) rfl (by simp) (e rfl rfl) (.take rfl le_all take_all) rfl (ap_big (by simp only [List.length_map, List.length_cons, List.length_nil]; omega) rfl) map_app (by simp)) rfl rfl ?_
    refine sy (.t ⟨false, [.vp 0 6]⟩) (zfa tabOk rfl rfl rfl (e rfl rfl) rfl rfl) rfl rfl ?_
    refine sw 0 (.var [.d (dI (a0.No)), .d (dI (a0.Client)), .d (dS (a0.Ask.Name)), .d (dI (a0.Ask.Typ)), .d (dI (a0.Sent)), .d (dI (a0.Fetched)), .sr 3 (1 + 1) 0 ((((a0.Stack).set ((((a0.Stack).length : Int) - 1).toNat) ((⟨x1.Ask, x1.Q, x1.Links, x1.Apex, x1.Servers, x1.Need, x1.Down, x1.Left, 5, x1.X⟩ : Frame)) ++ ([⟨a1, a1, [], ⟨#[]⟩, [], [], 0, 0, 1, ⟨0, 0, 0, 0⟩⟩] : List Frame)).map Frame.cells).length) ((((a0.Stack).set ((((a0.Stack).length : Int) - 1).toNat) ((⟨x1.Ask, x1.Q, x1.Links, x1.Apex, x1.Servers, x1.Need, x1.Down, x1.Left, 5, x1.X⟩ : Frame)) ++ ([⟨a1, a1, [], ⟨#[]⟩, [], [], 0, 0, 1, ⟨0, 0, 0, 0⟩⟩] : List Frame)).map Frame.cells).length)]) (zst tabOk rfl (e rfl rfl) rfl (e rfl rfl) rfl rfl rfl) rfl rfl ?_
    refine s_end ?_
    refine v_seq ?_
    refine v_reg ?_
    refine sy (.t ⟨false, [.vp 0 5]⟩) (zfa tabOk rfl rfl rfl (e rfl rfl) rfl rfl) rfl rfl ?_
    refine sy (.t ⟨false, [.d (dI (a0.Fetched))]⟩) (zlv tabOk rfl (e rfl rfl) rfl rfl rfl) rfl rfl ?_
    refine sy (.t ⟨false, [.d (dI (w64 (a0.Fetched + 1)))]⟩) (y_bin rfl (e rfl rfl) (ec rfl) (fun _ => b_w) rfl) rfl rfl ?_
    refine sy (.t ⟨false, [.vp 0 5]⟩) (zfa tabOk rfl rfl rfl (e rfl rfl) rfl rfl) rfl rfl ?_
    refine sw 0 (.var [.d (dI (a0.No)), .d (dI (a0.Client)), .d (dS (a0.Ask.Name)), .d (dI (a0.Ask.Typ)), .d (dI (a0.Sent)), .d (dI (w64 (a0.Fetched + 1))), .sr 3 (1 + 1) 0 ((((a0.Stack).set ((((a0.Stack).length : Int) - 1).toNat) ((⟨x1.Ask, x1.Q, x1.Links, x1.Apex, x1.Servers, x1.Need, x1.Down, x1.Left, 5, x1.X⟩ : Frame)) ++ ([⟨a1, a1, [], ⟨#[]⟩, [], [], 0, 0, 1, ⟨0, 0, 0, 0⟩⟩] : List Frame)).map Frame.cells).length) ((((a0.Stack).set ((((a0.Stack).length : Int) - 1).toNat) ((⟨x1.Ask, x1.Q, x1.Links, x1.Apex, x1.Servers, x1.Need, x1.Down, x1.Left, 5, x1.X⟩ : Frame)) ++ ([⟨a1, a1, [], ⟨#[]⟩, [], [], 0, 0, 1, ⟨0, 0, 0, 0⟩⟩] : List Frame)).map Frame.cells).length)]) (zst tabOk rfl (e rfl rfl) rfl (e rfl rfl) rfl rfl rfl) rfl rfl ?_
    refine s_end ?_
    refine v_seq ?_
    refine v_reg ?_
    refine sy (.t ⟨true, [.d (dI (a0.No)), .d (dI (a0.Client)), .d (dS (a0.Ask.Name)), .d (dI (a0.Ask.Typ)), .d (dI (a0.Sent)), .d (dI (w64 (a0.Fetched + 1))), .sr 3 (1 + 1) 0 ((((a0.Stack).set ((((a0.Stack).length : Int) - 1).toNat) ((⟨x1.Ask, x1.Q, x1.Links, x1.Apex, x1.Servers, x1.Need, x1.Down, x1.Left, 5, x1.X⟩ : Frame)) ++ ([⟨a1, a1, [], ⟨#[]⟩, [], [], 0, 0, 1, ⟨0, 0, 0, 0⟩⟩] : List Frame)).map Frame.cells).length) ((((a0.Stack).set ((((a0.Stack).length : Int) - 1).toNat) ((⟨x1.Ask, x1.Q, x1.Links, x1.Apex, x1.Servers, x1.Need, x1.Down, x1.Left, 5, x1.X⟩ : Frame)) ++ ([⟨a1, a1, [], ⟨#[]⟩, [], [], 0, 0, 1, ⟨0, 0, 0, 0⟩⟩] : List Frame)).map Frame.cells).length)]⟩) (zlv tabOk rfl (e rfl rfl) rfl rfl rfl) rfl rfl ?_
    refine sw 2 (.var [.d (dI (a0.No)), .d (dI (a0.Client)), .d (dS (a0.Ask.Name)), .d (dI (a0.Ask.Typ)), .d (dI (a0.Sent)), .d (dI (w64 (a0.Fetched + 1))), .sr 3 (1 + 1) 0 ((((a0.Stack).set ((((a0.Stack).length : Int) - 1).toNat) ((⟨x1.Ask, x1.Q, x1.Links, x1.Apex, x1.Servers, x1.Need, x1.Down, x1.Left, 5, x1.X⟩ : Frame)) ++ ([⟨a1, a1, [], ⟨#[]⟩, [], [], 0, 0, 1, ⟨0, 0, 0, 0⟩⟩] : List Frame)).map Frame.cells).length) ((((a0.Stack).set ((((a0.Stack).length : Int) - 1).toNat) ((⟨x1.Ask, x1.Q, x1.Links, x1.Apex, x1.Servers, x1.Need, x1.Down, x1.Left, 5, x1.X⟩ : Frame)) ++ ([⟨a1, a1, [], ⟨#[]⟩, [], [], 0, 0, 1, ⟨0, 0, 0, 0⟩⟩] : List Frame)).map Frame.cells).length)]) (zst tabOk rfl (e rfl rfl) rfl (e rfl rfl) rfl rfl rfl) rfl rfl ?_
    refine s_end ?_
    refine v_ret ?_
    subst hr
    exact post_ret (rv (.cell (eg rfl rfl) rfl rfl (.inl rfl) rfl) rfl (.lf (.lf (.lf (.lf (.lf (.lf (.sr rfl le_all take_all .nil))))))) rfl .nil) (.ro (.ro .nil)) rfl
  replace hr := bf_f hb1 hr
  have hb1p := dec_f hb1
  refine v_skip ?_
  refine v_seq ?_
  refine v_drw [⟨.t ⟨false, [.vp 0 6]⟩, [], [2], []⟩, ⟨.t ⟨false, [.sr 3 1 0 ((a0.Stack.map Frame.cells).length) ((a0.Stack.map Frame.cells).length)]⟩, [], [19], [0]⟩, ⟨.t ⟨true, [.d (dS (a1.Name)), .d (dI (a1.Typ))]⟩, [], [3], [1]⟩, ⟨.t ⟨true, [.d (dS (a1.Name)), .d (dI (a1.Typ)), .d (dS (a1.Name)), .d (dI (a1.Typ)), .d (.lf (.slice none 0 0)), .d (dS (⟨#[]⟩)), .d (.lf (.slice none 0 0)), .d (.lf (.slice none 0 0)), .d (dI (0)), .d (dI (0)), .d (dI (1)), .d (dI (0)), .d (dI (0)), .d (dI (0)), .d (dI (0))]⟩, [], [21], []⟩, ⟨.t ⟨false, [.sr 5 1 0 ((([⟨a1, a1, [], ⟨#[]⟩, [], [], 0, 0, 1, ⟨0, 0, 0, 0⟩⟩] : List Frame).map Frame.cells).length) ((([⟨a1, a1, [], ⟨#[]⟩, [], [], 0, 0, 1, ⟨0, 0, 0, 0⟩⟩] : List Frame).map Frame.cells).length)]⟩, [(5, .row 15 (([⟨a1, a1, [], ⟨#[]⟩, [], [], 0, 0, 1, ⟨0, 0, 0, 0⟩⟩] : List Frame).map Frame.cells) true 1 0)], [22], []⟩] mixed rfl rfl rfl rfl ⟨fun t h A => dy (zfa tabOk rfl rfl rfl (A.e rfl rfl rfl) rfl rfl), fun t h A => dy (zlv tabOk rfl (A.e rfl rfl rfl) (A.h rfl rfl) rfl rfl), fun t h A => dy (zlv tabOk rfl (A.e rfl rfl rfl) (A.h rfl rfl) rfl rfl), fun t h A => zcallA 5 (.t ⟨true, [.d (dS (a1.Name)), .d (dI (a1.Typ)), .d (dS (a1.Name)), .d (dI (a1.Typ)), .d (.lf (.slice none 0 0)), .d (dS (⟨#[]⟩)), .d (.lf (.slice none 0 0)), .d (.lf (.slice none 0 0)), .d (dI (0)), .d (dI (0)), .d (dI (1)), .d (dI (0)), .d (dI (0)), .d (dI (0)), .d (dI (0))]⟩) [] rfl (tr_n_impl_FrameNew a1 h1) (ar (A.e rfl rfl rfl) (.d (.d .nil)) .nil) rfl (free0 rfl) rfl rfl, fun t h A => dk (zbu tabOk rfl rfl rfl rfl (pd0 (A.e rfl rfl rfl) rfl (.lf (.lf (.lf (.lf (.nild (.lf (.nild (.nild (.lf (.lf (.lf (.lf (.lf (.lf (.lf .nil))))))))))))))) rfl .nil) rfl (A.g rfl)), trivial⟩ ?_
  refine sak 3 (.t ⟨false, [.sr 3 (1 + 1) 0 (((a0.Stack ++ ([⟨a1, a1, [], ⟨#[]⟩, [], [], 0, 0, 1, ⟨0, 0, 0, 0⟩⟩] : List Frame)).map Frame.cells).length) (((a0.Stack ++ ([⟨a1, a1, [], ⟨#[]⟩, [], [], 0, 0, 1, ⟨0, 0, 0, 0⟩⟩] : List Frame)).map Frame.cells).length)]⟩) (.row 15 ((a0.Stack ++ ([⟨a1, a1, [], ⟨#[]⟩, [], [], 0, 0, 1, ⟨0, 0, 0, 0⟩⟩] : List Frame)).map Frame.cells) true (1 + 1) (0 + 1)) (zapk tabOk rfl rfl rfl rfl (e rfl rfl) rfl rfl (e rfl rfl) (.take rfl le_all take_all) rfl (ap_big (by simp only [List.length_map, List.length_cons, List.length_nil]; omega) rfl) map_app len_app) rfl rfl ?_
  refine sy (.t ⟨false, [.vp 0 6]⟩) (zfa tabOk rfl rfl rfl (e rfl rfl) rfl rfl) rfl rfl ?_
  refine sw 0 (.var [.d (dI (a0.No)), .d (dI (a0.Client)), .d (dS (a0.Ask.Name)), .d (dI (a0.Ask.Typ)), .d (dI (a0.Sent)), .d (dI (a0.Fetched)), .sr 3 (1 + 1) 0 (((a0.Stack ++ ([⟨a1, a1, [], ⟨#[]⟩, [], [], 0, 0, 1, ⟨0, 0, 0, 0⟩⟩] : List Frame)).map Frame.cells).length) (((a0.Stack ++ ([⟨a1, a1, [], ⟨#[]⟩, [], [], 0, 0, 1, ⟨0, 0, 0, 0⟩⟩] : List Frame)).map Frame.cells).length)]) (zst tabOk rfl (e rfl rfl) rfl (e rfl rfl) rfl rfl rfl) rfl rfl ?_
  refine s_end ?_
  refine v_seq ?_
  refine v_reg ?_
  refine sy (.t ⟨false, [.vp 0 5]⟩) (zfa tabOk rfl rfl rfl (e rfl rfl) rfl rfl) rfl rfl ?_
  refine sy (.t ⟨false, [.d (dI (a0.Fetched))]⟩) (zlv tabOk rfl (e rfl rfl) rfl rfl rfl) rfl rfl ?_
  refine sy (.t ⟨false, [.d (dI (w64 (a0.Fetched + 1)))]⟩) (y_bin rfl (e rfl rfl) (ec rfl) (fun _ => b_w) rfl) rfl rfl ?_
  refine sy (.t ⟨false, [.vp 0 5]⟩) (zfa tabOk rfl rfl rfl (e rfl rfl) rfl rfl) rfl rfl ?_
  refine sw 0 (.var [.d (dI (a0.No)), .d (dI (a0.Client)), .d (dS (a0.Ask.Name)), .d (dI (a0.Ask.Typ)), .d (dI (a0.Sent)), .d (dI (w64 (a0.Fetched + 1))), .sr 3 (1 + 1) 0 (((a0.Stack ++ ([⟨a1, a1, [], ⟨#[]⟩, [], [], 0, 0, 1, ⟨0, 0, 0, 0⟩⟩] : List Frame)).map Frame.cells).length) (((a0.Stack ++ ([⟨a1, a1, [], ⟨#[]⟩, [], [], 0, 0, 1, ⟨0, 0, 0, 0⟩⟩] : List Frame)).map Frame.cells).length)]) (zst tabOk rfl (e rfl rfl) rfl (e rfl rfl) rfl rfl rfl) rfl rfl ?_
  refine s_end ?_
  refine v_seq ?_
  refine v_reg ?_
  refine sy (.t ⟨true, [.d (dI (a0.No)), .d (dI (a0.Client)), .d (dS (a0.Ask.Name)), .d (dI (a0.Ask.Typ)), .d (dI (a0.Sent)), .d (dI (w64 (a0.Fetched + 1))), .sr 3 (1 + 1) 0 (((a0.Stack ++ ([⟨a1, a1, [], ⟨#[]⟩, [], [], 0, 0, 1, ⟨0, 0, 0, 0⟩⟩] : List Frame)).map Frame.cells).length) (((a0.Stack ++ ([⟨a1, a1, [], ⟨#[]⟩, [], [], 0, 0, 1, ⟨0, 0, 0, 0⟩⟩] : List Frame)).map Frame.cells).length)]⟩) (zlv tabOk rfl (e rfl rfl) rfl rfl rfl) rfl rfl ?_
  refine sw 2 (.var [.d (dI (a0.No)), .d (dI (a0.Client)), .d (dS (a0.Ask.Name)), .d (dI (a0.Ask.Typ)), .d (dI (a0.Sent)), .d (dI (w64 (a0.Fetched + 1))), .sr 3 (1 + 1) 0 (((a0.Stack ++ ([⟨a1, a1, [], ⟨#[]⟩, [], [], 0, 0, 1, ⟨0, 0, 0, 0⟩⟩] : List Frame)).map Frame.cells).length) (((a0.Stack ++ ([⟨a1, a1, [], ⟨#[]⟩, [], [], 0, 0, 1, ⟨0, 0, 0, 0⟩⟩] : List Frame)).map Frame.cells).length)]) (zst tabOk rfl (e rfl rfl) rfl (e rfl rfl) rfl rfl rfl) rfl rfl ?_
  refine s_end ?_
  refine v_ret ?_
  subst hr
  exact post_ret (rv (.cell (eg rfl rfl) rfl rfl (.inl rfl) rfl) rfl (.lf (.lf (.lf (.lf (.lf (.lf (.sr rfl le_all take_all .nil))))))) rfl .nil) (.ro (.ro .nil)) rfl
def n_spec_SetTop (a0 : Job) (a1 : Frame) : Job := cond (decide ((0) < (((a0.Stack).length : Int)))) (atL (a0.Stack) ((((a0.Stack).length : Int) - 1).toNat) (fun x1 => (⟨a0.No, a0.Client, a0.Ask, a0.Sent, a0.Fetched, (a0.Stack).set ((((a0.Stack).length : Int) - 1).toNat) a1⟩ : Job))) (a0)
set_option maxRecDepth 20000 in
theorem tr_n_spec_SetTop (a0 : Job) (a1 : Frame) (h0 : Job.Fit a0) (h1 : Frame.Fit a1) : Tr Try.prog 16 [.ro ⟨true, [dI (a0.No), dI (a0.Client), dS (a0.Ask.Name), dI (a0.Ask.Typ), dI (a0.Sent), dI (a0.Fetched), .sl 15 (a0.Stack.map Frame.cells)]⟩, .ro ⟨true, [dS (a1.Ask.Name), dI (a1.Ask.Typ), dS (a1.Q.Name), dI (a1.Q.Typ), .sl 6 (a1.Links.map Record.cells), dS (a1.Apex), .sl 1 (a1.Servers.map encI), .sl 1 (a1.Need.map encS), dI (a1.Down), dI (a1.Left), dI (a1.Pc), dI (a1.X.Id), dI (a1.X.Addr), dI (a1.X.Try), dI (a1.X.Due)]⟩] [⟨true, [dI (((n_spec_SetTop a0 a1)).No), dI (((n_spec_SetTop a0 a1)).Client), dS ((((n_spec_SetTop a0 a1)).Ask).Name), dI ((((n_spec_SetTop a0 a1)).Ask).Typ), dI (((n_spec_SetTop a0 a1)).Sent), dI (((n_spec_SetTop a0 a1)).Fetched), .sl 15 ((((n_spec_SetTop a0 a1)).Stack).map Frame.cells)]⟩] := by
  obtain ⟨r, hr⟩ : ∃ r, n_spec_SetTop a0 a1 = r := ⟨_, rfl⟩
  rw [hr]
  rw [n_spec_SetTop] at hr
  refine tr_go tabOk Try.func16 rfl rfl rfl rfl rfl (ov := [(0, .t ⟨true, [.d (dI (a0.No)), .d (dI (a0.Client)), .d (dS (a0.Ask.Name)), .d (dI (a0.Ask.Typ)), .d (dI (a0.Sent)), .d (dI (a0.Fetched)), .d (.sl 15 (a0.Stack.map Frame.cells))]⟩), (1, .t ⟨true, [.d (dS (a1.Ask.Name)), .d (dI (a1.Ask.Typ)), .d (dS (a1.Q.Name)), .d (dI (a1.Q.Typ)), .d (.sl 6 (a1.Links.map Record.cells)), .d (dS (a1.Apex)), .d (.sl 1 (a1.Servers.map encI)), .d (.sl 1 (a1.Need.map encS)), .d (dI (a1.Down)), .d (dI (a1.Left)), .d (dI (a1.Pc)), .d (dI (a1.X.Id)), .d (dI (a1.X.Addr)), .d (dI (a1.X.Try)), .d (dI (a1.X.Due))]⟩)]) (hv := []) rfl rfl ?_
  refine v_seq ?_
  refine v_reg ?_
  refine sr 0 (.t ⟨false, [.vp 0 0]⟩) (.var [.d (dI (a0.No)), .d (dI (a0.Client)), .d (dS (a0.Ask.Name)), .d (dI (a0.Ask.Typ)), .d (dI (a0.Sent)), .d (dI (a0.Fetched)), .d (.sl 15 (a0.Stack.map Frame.cells))]) (zbx rfl (e rfl rfl) rfl rfl rfl) rfl rfl ?_
  refine sr 1 (.t ⟨false, [.vp 1 0]⟩) (.var [.d (dS (a1.Ask.Name)), .d (dI (a1.Ask.Typ)), .d (dS (a1.Q.Name)), .d (dI (a1.Q.Typ)), .d (.sl 6 (a1.Links.map Record.cells)), .d (dS (a1.Apex)), .d (.sl 1 (a1.Servers.map encI)), .d (.sl 1 (a1.Need.map encS)), .d (dI (a1.Down)), .d (dI (a1.Left)), .d (dI (a1.Pc)), .d (dI (a1.X.Id)), .d (dI (a1.X.Addr)), .d (dI (a1.X.Try)), .d (dI (a1.X.Due))]) (zbx rfl (e rfl rfl) rfl rfl rfl) rfl rfl ?_
  refine sr 2 (.t ⟨false, [.vp 2 0]⟩) (.var [.d (dI (0)), .d (dI (0)), .d (dS (⟨#[]⟩)), .d (dI (0)), .d (dI (0)), .d (dI (0)), .nl 15]) (zal tabOk rfl rfl rfl rfl) rfl rfl ?_
  refine s_end ?_
  refine v_seq ?_
  refine v_reg ?_
  refine sy (.t ⟨true, [.d (dI (a0.No)), .d (dI (a0.Client)), .d (dS (a0.Ask.Name)), .d (dI (a0.Ask.Typ)), .d (dI (a0.Sent)), .d (dI (a0.Fetched)), .d (.sl 15 (a0.Stack.map Frame.cells))]⟩) (zlv tabOk rfl (e rfl rfl) rfl rfl rfl) rfl rfl ?_
  refine sd (.t ⟨true, [.d (dI (a0.No)), .d (dI (a0.Client)), .d (dS (a0.Ask.Name)), .d (dI (a0.Ask.Typ)), .d (dI (a0.Sent)), .d (dI (a0.Fetched)), .sr 3 1 0 ((a0.Stack.map Frame.cells).length) ((a0.Stack.map Frame.cells).length)]⟩) (zcall 3 (.t ⟨true, [.d (dI (a0.No)), .d (dI (a0.Client)), .d (dS (a0.Ask.Name)), .d (dI (a0.Ask.Typ)), .d (dI (a0.Sent)), .d (dI (a0.Fetched)), .sr 3 1 0 ((a0.Stack.map Frame.cells).length) ((a0.Stack.map Frame.cells).length)]⟩) [(3, .row 15 (a0.Stack.map Frame.cells) true 1 0)] rfl (tr2_n_spec_l22Copy a0 h0) (ar (e rfl rfl) (.d (.d (.d (.d (.d (.d (.d .nil))))))) .nil) rfl rfl rfl) rfl rfl rfl rfl ?_
  refine sr 4 (.t ⟨false, [.vp 4 0]⟩) (.var [.d (dI (0)), .d (dI (0)), .d (dS (⟨#[]⟩)), .d (dI (0)), .d (dI (0)), .d (dI (0)), .nl 15]) (zal tabOk rfl rfl rfl rfl) rfl rfl ?_
  refine sw 4 (.var [.d (dI (a0.No)), .d (dI (a0.Client)), .d (dS (a0.Ask.Name)), .d (dI (a0.Ask.Typ)), .d (dI (a0.Sent)), .d (dI (a0.Fetched)), .sr 3 1 0 ((a0.Stack.map Frame.cells).length) ((a0.Stack.map Frame.cells).length)]) (zst tabOk rfl (e rfl rfl) rfl (e rfl rfl) rfl rfl rfl) rfl rfl ?_
  refine s_end ?_
  refine v_seq ?_
  refine v_reg ?_
  refine sy (.t ⟨false, [.vp 4 6]⟩) (zfa tabOk rfl rfl rfl (e rfl rfl) rfl rfl) rfl rfl ?_
  refine sy (.t ⟨false, [.sr 3 1 0 ((a0.Stack.map Frame.cells).length) ((a0.Stack.map Frame.cells).length)]⟩) (zlv tabOk rfl (e rfl rfl) rfl rfl rfl) rfl rfl ?_
  have hB1 := (h0.Stack).1
  refine sy (.t ⟨false, [.d (dI ((a0.Stack).length : Int))]⟩) (zlm tabOk rfl rfl (e rfl rfl) (.sr (dp := 0) rfl)) rfl rfl ?_
  refine sy _ (zas rfl (e rfl rfl)) rfl rfl ?_
  refine s_end ?_
  refine v_seq ?_
  refine v_seq ?_
  refine v_reg ?_
  refine sy _ (zmv rfl (e rfl rfl)) rfl rfl ?_
  refine sy (.t ⟨false, [.d (dB (decide ((0) < (((a0.Stack).length : Int)))))]⟩) (y_bin rfl (e rfl rfl) (ec rfl) (fun _ => b_gtr) rfl) rfl rfl ?_
  refine s_end ?_
  refine v_cond (e rfl rfl) (fun hb1 => ?_) fun hb1 => ?_
  · replace hr := bf_t hb1 hr
    have hb1p := dec_t hb1
    refine v_seq ?_
    refine v_reg ?_
    refine sy (.t ⟨true, [.d (dS (a1.Ask.Name)), .d (dI (a1.Ask.Typ)), .d (dS (a1.Q.Name)), .d (dI (a1.Q.Typ)), .d (.sl 6 (a1.Links.map Record.cells)), .d (dS (a1.Apex)), .d (.sl 1 (a1.Servers.map encI)), .d (.sl 1 (a1.Need.map encS)), .d (dI (a1.Down)), .d (dI (a1.Left)), .d (dI (a1.Pc)), .d (dI (a1.X.Id)), .d (dI (a1.X.Addr)), .d (dI (a1.X.Try)), .d (dI (a1.X.Due))]⟩) (zlv tabOk rfl (e rfl rfl) rfl rfl rfl) rfl rfl ?_
    refine sd (.t ⟨true, [.d (dS (a1.Ask.Name)), .d (dI (a1.Ask.Typ)), .d (dS (a1.Q.Name)), .d (dI (a1.Q.Typ)), .sr 5 1 0 ((a1.Links.map Record.cells).length) ((a1.Links.map Record.cells).length), .d (dS (a1.Apex)), .sr 6 1 0 ((a1.Servers.map encI).length) ((a1.Servers.map encI).length), .sr 7 1 0 ((a1.Need.map encS).length) ((a1.Need.map encS).length), .d (dI (a1.Down)), .d (dI (a1.Left)), .d (dI (a1.Pc)), .d (dI (a1.X.Id)), .d (dI (a1.X.Addr)), .d (dI (a1.X.Try)), .d (dI (a1.X.Due))]⟩) (zcall 5 (.t ⟨true, [.d (dS (a1.Ask.Name)), .d (dI (a1.Ask.Typ)), .d (dS (a1.Q.Name)), .d (dI (a1.Q.Typ)), .sr 5 1 0 ((a1.Links.map Record.cells).length) ((a1.Links.map Record.cells).length), .d (dS (a1.Apex)), .sr 6 1 0 ((a1.Servers.map encI).length) ((a1.Servers.map encI).length), .sr 7 1 0 ((a1.Need.map encS).length) ((a1.Need.map encS).length), .d (dI (a1.Down)), .d (dI (a1.Left)), .d (dI (a1.Pc)), .d (dI (a1.X.Id)), .d (dI (a1.X.Addr)), .d (dI (a1.X.Try)), .d (dI (a1.X.Due))]⟩) [(5, .row 6 (a1.Links.map Record.cells) true 1 0), (6, .row 1 (a1.Servers.map encI) true 1 0), (7, .row 1 (a1.Need.map encS) true 1 0)] rfl (tr_n_spec_l21Copy a1 h1) (ar (e rfl rfl) (.d (.d (.d (.d (.d (.d (.d (.d (.d (.d (.d (.d (.d (.d (.d .nil))))))))))))))) .nil) rfl rfl rfl) rfl rfl rfl rfl ?_
    refine sr 8 (.t ⟨false, [.vp 8 0]⟩) (.var [.d (dS (⟨#[]⟩)), .d (dI (0)), .d (dS (⟨#[]⟩)), .d (dI (0)), .nl 6, .d (dS (⟨#[]⟩)), .nl 1, .nl 1, .d (dI (0)), .d (dI (0)), .d (dI (0)), .d (dI (0)), .d (dI (0)), .d (dI (0)), .d (dI (0))]) (zal tabOk rfl rfl rfl rfl) rfl rfl ?_
    refine sw 8 (.var [.d (dS (a1.Ask.Name)), .d (dI (a1.Ask.Typ)), .d (dS (a1.Q.Name)), .d (dI (a1.Q.Typ)), .sr 5 1 0 ((a1.Links.map Record.cells).length) ((a1.Links.map Record.cells).length), .d (dS (a1.Apex)), .sr 6 1 0 ((a1.Servers.map encI).length) ((a1.Servers.map encI).length), .sr 7 1 0 ((a1.Need.map encS).length) ((a1.Need.map encS).length), .d (dI (a1.Down)), .d (dI (a1.Left)), .d (dI (a1.Pc)), .d (dI (a1.X.Id)), .d (dI (a1.X.Addr)), .d (dI (a1.X.Try)), .d (dI (a1.X.Due))]) (zst tabOk rfl (e rfl rfl) rfl (e rfl rfl) rfl rfl rfl) rfl rfl ?_
    refine s_end ?_
    refine v_reg ?_
    refine sy (.t ⟨false, [.vp 4 6]⟩) (zfa tabOk rfl rfl rfl (e rfl rfl) rfl rfl) rfl rfl ?_
    refine sy (.t ⟨false, [.sr 3 1 0 ((a0.Stack.map Frame.cells).length) ((a0.Stack.map Frame.cells).length)]⟩) (zlv tabOk rfl (e rfl rfl) rfl rfl rfl) rfl rfl ?_
    refine sy _ (zmv rfl (e rfl rfl)) rfl rfl ?_
    refine sy (.t ⟨false, [.d (dI (((a0.Stack).length : Int) - 1))]⟩) (y_bin rfl (e rfl rfl) (ec rfl) (fun _ => b_subn (by omega) (by omega)) rfl) rfl rfl ?_
    refine sy (.t ⟨true, [.d (dS (a1.Ask.Name)), .d (dI (a1.Ask.Typ)), .d (dS (a1.Q.Name)), .d (dI (a1.Q.Typ)), .sr 5 1 0 ((a1.Links.map Record.cells).length) ((a1.Links.map Record.cells).length), .d (dS (a1.Apex)), .sr 6 1 0 ((a1.Servers.map encI).length) ((a1.Servers.map encI).length), .sr 7 1 0 ((a1.Need.map encS).length) ((a1.Need.map encS).length), .d (dI (a1.Down)), .d (dI (a1.Left)), .d (dI (a1.Pc)), .d (dI (a1.X.Id)), .d (dI (a1.X.Addr)), .d (dI (a1.X.Try)), .d (dI (a1.X.Due))]⟩) (zlv tabOk rfl (e rfl rfl) rfl rfl rfl) rfl rfl ?_
    obtain ⟨x1, hx1⟩ : ∃ x, (a0.Stack)[(((a0.Stack).length : Int) - 1).toNat]? = some x := some_of_lt (by omega)
    replace hr := at_step hx1 hr
    have hfx1 := h0.Stack.2 _ (List.mem_of_getElem? hx1)
    refine sy (.t ⟨false, [.ep 3 1 ((((a0.Stack).length : Int) - 1).toNat) 0]⟩) (zisI tabOk rfl rfl rfl (e rfl rfl) rfl (e rfl rfl) (by omega) (ltm_of_some hx1) (Nat.zero_add _)) rfl rfl ?_
    refine swk 3 (.row 15 (((a0.Stack).set ((((a0.Stack).length : Int) - 1).toNat) a1).map Frame.cells) true 1 (0 + 1)) (zsg tabOk rfl (e rfl rfl) rfl (getm hx1) (e rfl rfl) rfl (.lf (.lf (.lf (.lf (.sr rfl le_all take_all (.lf (.sr rfl le_all take_all (.sr rfl le_all take_all (.lf (.lf (.lf (.lf (.lf (.lf (.lf .nil))))))))))))))) rfl rfl (map_set rfl)) rfl rfl ?_
    refine s_end ?_
    refine v_seq ?_
    refine v_reg ?_
    refine sy (.t ⟨true, [.d (dI (a0.No)), .d (dI (a0.Client)), .d (dS (a0.Ask.Name)), .d (dI (a0.Ask.Typ)), .d (dI (a0.Sent)), .d (dI (a0.Fetched)), .sr 3 1 0 ((a0.Stack.map Frame.cells).length) ((a0.Stack.map Frame.cells).length)]⟩) (zlv tabOk rfl (e rfl rfl) rfl rfl rfl) rfl rfl ?_
    refine sw 2 (.var [.d (dI (a0.No)), .d (dI (a0.Client)), .d (dS (a0.Ask.Name)), .d (dI (a0.Ask.Typ)), .d (dI (a0.Sent)), .d (dI (a0.Fetched)), .sr 3 1 0 ((a0.Stack.map Frame.cells).length) ((a0.Stack.map Frame.cells).length)]) (zst tabOk rfl (e rfl rfl) rfl (e rfl rfl) rfl rfl rfl) rfl rfl ?_
    refine s_end ?_
    refine v_ret ?_
    subst hr
    exact post_ret (rv (.cell (eg rfl rfl) rfl rfl (.inl rfl) rfl) rfl (.lf (.lf (.lf (.lf (.lf (.lf (.sr rfl (le_len (by simp)) (take_len (by simp)) .nil))))))) rfl .nil) (.ro (.ro .nil)) rfl
  replace hr := bf_f hb1 hr
  have hb1p := dec_f hb1
  refine v_skip ?_
  refine v_seq ?_
  refine v_reg ?_
  refine sy (.t ⟨true, [.d (dI (a0.No)), .d (dI (a0.Client)), .d (dS (a0.Ask.Name)), .d (dI (a0.Ask.Typ)), .d (dI (a0.Sent)), .d (dI (a0.Fetched)), .sr 3 1 0 ((a0.Stack.map Frame.cells).length) ((a0.Stack.map Frame.cells).length)]⟩) (zlv tabOk rfl (e rfl rfl) rfl rfl rfl) rfl rfl ?_
  refine sw 2 (.var [.d (dI (a0.No)), .d (dI (a0.Client)), .d (dS (a0.Ask.Name)), .d (dI (a0.Ask.Typ)), .d (dI (a0.Sent)), .d (dI (a0.Fetched)), .sr 3 1 0 ((a0.Stack.map Frame.cells).length) ((a0.Stack.map Frame.cells).length)]) (zst tabOk rfl (e rfl rfl) rfl (e rfl rfl) rfl rfl rfl) rfl rfl ?_
  refine s_end ?_
  refine v_ret ?_
  subst hr
  exact post_ret (rv (.cell (eg rfl rfl) rfl rfl (.inl rfl) rfl) rfl (.lf (.lf (.lf (.lf (.lf (.lf (.sr rfl le_all take_all .nil))))))) rfl .nil) (.ro (.ro .nil)) rfl
def n_impl_SetTop (a0 : Job) (a1 : Frame) : Job := cond (decide ((0) < (((a0.Stack).length : Int)))) (atL (a0.Stack) ((((a0.Stack).length : Int) - 1).toNat) (fun x1 => (⟨a0.No, a0.Client, a0.Ask, a0.Sent, a0.Fetched, (a0.Stack).set ((((a0.Stack).length : Int) - 1).toNat) a1⟩ : Job))) (a0)
set_option maxRecDepth 20000 in
theorem tr_n_impl_SetTop (a0 : Job) (a1 : Frame) (h0 : Job.Fit a0) (h1 : Frame.Fit a1) : Tr Try.prog 18 [.ro ⟨true, [dI (a0.No), dI (a0.Client), dS (a0.Ask.Name), dI (a0.Ask.Typ), dI (a0.Sent), dI (a0.Fetched), .sl 15 (a0.Stack.map Frame.cells)]⟩, .ro ⟨true, [dS (a1.Ask.Name), dI (a1.Ask.Typ), dS (a1.Q.Name), dI (a1.Q.Typ), .sl 6 (a1.Links.map Record.cells), dS (a1.Apex), .sl 1 (a1.Servers.map encI), .sl 1 (a1.Need.map encS), dI (a1.Down), dI (a1.Left), dI (a1.Pc), dI (a1.X.Id), dI (a1.X.Addr), dI (a1.X.Try), dI (a1.X.Due)]⟩] [⟨true, [dI (((n_impl_SetTop a0 a1)).No), dI (((n_impl_SetTop a0 a1)).Client), dS ((((n_impl_SetTop a0 a1)).Ask).Name), dI ((((n_impl_SetTop a0 a1)).Ask).Typ), dI (((n_impl_SetTop a0 a1)).Sent), dI (((n_impl_SetTop a0 a1)).Fetched), .sl 15 ((((n_impl_SetTop a0 a1)).Stack).map Frame.cells)]⟩] := by
  obtain ⟨r, hr⟩ : ∃ r, n_impl_SetTop a0 a1 = r := ⟨_, rfl⟩
  rw [hr]
  rw [n_impl_SetTop] at hr
  refine tr_go tabOk Try.func18 rfl rfl rfl rfl rfl (ov := [(0, .t ⟨true, [.d (dI (a0.No)), .d (dI (a0.Client)), .d (dS (a0.Ask.Name)), .d (dI (a0.Ask.Typ)), .d (dI (a0.Sent)), .d (dI (a0.Fetched)), .d (.sl 15 (a0.Stack.map Frame.cells))]⟩), (1, .t ⟨true, [.d (dS (a1.Ask.Name)), .d (dI (a1.Ask.Typ)), .d (dS (a1.Q.Name)), .d (dI (a1.Q.Typ)), .d (.sl 6 (a1.Links.map Record.cells)), .d (dS (a1.Apex)), .d (.sl 1 (a1.Servers.map encI)), .d (.sl 1 (a1.Need.map encS)), .d (dI (a1.Down)), .d (dI (a1.Left)), .d (dI (a1.Pc)), .d (dI (a1.X.Id)), .d (dI (a1.X.Addr)), .d (dI (a1.X.Try)), .d (dI (a1.X.Due))]⟩)]) (hv := []) rfl rfl ?_
  refine v_seq ?_
  refine v_reg ?_
  refine sr 0 (.t ⟨false, [.vp 0 0]⟩) (.var [.d (dI (a0.No)), .d (dI (a0.Client)), .d (dS (a0.Ask.Name)), .d (dI (a0.Ask.Typ)), .d (dI (a0.Sent)), .d (dI (a0.Fetched)), .d (.sl 15 (a0.Stack.map Frame.cells))]) (zbx rfl (e rfl rfl) rfl rfl rfl) rfl rfl ?_
  refine sr 1 (.t ⟨false, [.vp 1 0]⟩) (.var [.d (dS (a1.Ask.Name)), .d (dI (a1.Ask.Typ)), .d (dS (a1.Q.Name)), .d (dI (a1.Q.Typ)), .d (.sl 6 (a1.Links.map Record.cells)), .d (dS (a1.Apex)), .d (.sl 1 (a1.Servers.map encI)), .d (.sl 1 (a1.Need.map encS)), .d (dI (a1.Down)), .d (dI (a1.Left)), .d (dI (a1.Pc)), .d (dI (a1.X.Id)), .d (dI (a1.X.Addr)), .d (dI (a1.X.Try)), .d (dI (a1.X.Due))]) (zbx rfl (e rfl rfl) rfl rfl rfl) rfl rfl ?_
  refine sr 2 (.t ⟨false, [.vp 2 0]⟩) (.var [.d (dI (0)), .d (dI (0)), .d (dS (⟨#[]⟩)), .d (dI (0)), .d (dI (0)), .d (dI (0)), .nl 15]) (zal tabOk rfl rfl rfl rfl) rfl rfl ?_
  refine s_end ?_
  refine v_seq ?_
  refine v_reg ?_
  refine sy (.t ⟨true, [.d (dI (a0.No)), .d (dI (a0.Client)), .d (dS (a0.Ask.Name)), .d (dI (a0.Ask.Typ)), .d (dI (a0.Sent)), .d (dI (a0.Fetched)), .d (.sl 15 (a0.Stack.map Frame.cells))]⟩) (zlv tabOk rfl (e rfl rfl) rfl rfl rfl) rfl rfl ?_
  refine sd (.t ⟨true, [.d (dI (a0.No)), .d (dI (a0.Client)), .d (dS (a0.Ask.Name)), .d (dI (a0.Ask.Typ)), .d (dI (a0.Sent)), .d (dI (a0.Fetched)), .sr 3 1 0 ((a0.Stack.map Frame.cells).length) ((a0.Stack.map Frame.cells).length)]⟩) (zcall 3 (.t ⟨true, [.d (dI (a0.No)), .d (dI (a0.Client)), .d (dS (a0.Ask.Name)), .d (dI (a0.Ask.Typ)), .d (dI (a0.Sent)), .d (dI (a0.Fetched)), .sr 3 1 0 ((a0.Stack.map Frame.cells).length) ((a0.Stack.map Frame.cells).length)]⟩) [(3, .row 15 (a0.Stack.map Frame.cells) true 1 0)] rfl (tr2_n_impl_copyJob a0 h0) (ar (e rfl rfl) (.d (.d (.d (.d (.d (.d (.d .nil))))))) .nil) rfl rfl rfl) rfl rfl rfl rfl ?_
  refine sw 0 (.var [.d (dI (a0.No)), .d (dI (a0.Client)), .d (dS (a0.Ask.Name)), .d (dI (a0.Ask.Typ)), .d (dI (a0.Sent)), .d (dI (a0.Fetched)), .sr 3 1 0 ((a0.Stack.map Frame.cells).length) ((a0.Stack.map Frame.cells).length)]) (zst tabOk rfl (e rfl rfl) rfl (e rfl rfl) rfl rfl rfl) rfl rfl ?_
  refine s_end ?_
  refine v_seq ?_
  refine v_seq ?_
  refine v_reg ?_
  refine sy (.t ⟨false, [.vp 0 6]⟩) (zfa tabOk rfl rfl rfl (e rfl rfl) rfl rfl) rfl rfl ?_
  refine sy (.t ⟨false, [.sr 3 1 0 ((a0.Stack.map Frame.cells).length) ((a0.Stack.map Frame.cells).length)]⟩) (zlv tabOk rfl (e rfl rfl) rfl rfl rfl) rfl rfl ?_
  have hB1 := (h0.Stack).1
  refine sy (.t ⟨false, [.d (dI ((a0.Stack).length : Int))]⟩) (zlm tabOk rfl rfl (e rfl rfl) (.sr (dp := 0) rfl)) rfl rfl ?_
  refine sy _ (zas rfl (e rfl rfl)) rfl rfl ?_
  refine s_end ?_
  refine v_seq ?_
  refine v_reg ?_
  refine sy _ (zmv rfl (e rfl rfl)) rfl rfl ?_
  refine sy (.t ⟨false, [.d (dB (decide ((0) < (((a0.Stack).length : Int)))))]⟩) (y_bin rfl (e rfl rfl) (ec rfl) (fun _ => b_gtr) rfl) rfl rfl ?_
  refine s_end ?_
  refine v_cond (e rfl rfl) (fun hb1 => ?_) fun hb1 => ?_
  · replace hr := bf_t hb1 hr
    have hb1p := dec_t hb1
    obtain ⟨x1, hx1⟩ : ∃ x, (a0.Stack)[(((a0.Stack).length : Int) - 1).toNat]? = some x := some_of_lt (by omega)
    replace hr := at_step hx1 hr
    have hfx1 := h0.Stack.2 _ (List.mem_of_getElem? hx1)
    refine v_drw [⟨.t ⟨false, [.vp 0 6]⟩, [], [2], []⟩, ⟨.t ⟨false, [.sr 3 1 0 ((a0.Stack.map Frame.cells).length) ((a0.Stack.map Frame.cells).length)]⟩, [], [13], [0]⟩, ⟨.t ⟨false, [.d (dI ((a0.Stack).length : Int))]⟩, [], [5], []⟩, ⟨.t ⟨false, [.d (dI (((a0.Stack).length : Int) - 1))]⟩, [], [15], []⟩, ⟨.t ⟨true, [.d (dS (a1.Ask.Name)), .d (dI (a1.Ask.Typ)), .d (dS (a1.Q.Name)), .d (dI (a1.Q.Typ)), .d (.sl 6 (a1.Links.map Record.cells)), .d (dS (a1.Apex)), .d (.sl 1 (a1.Servers.map encI)), .d (.sl 1 (a1.Need.map encS)), .d (dI (a1.Down)), .d (dI (a1.Left)), .d (dI (a1.Pc)), .d (dI (a1.X.Id)), .d (dI (a1.X.Addr)), .d (dI (a1.X.Try)), .d (dI (a1.X.Due))]⟩, [], [3], [1]⟩, ⟨.t ⟨true, [.d (dS (a1.Ask.Name)), .d (dI (a1.Ask.Typ)), .d (dS (a1.Q.Name)), .d (dI (a1.Q.Typ)), .sr 4 1 0 ((a1.Links.map Record.cells).length) ((a1.Links.map Record.cells).length), .d (dS (a1.Apex)), .sr 5 1 0 ((a1.Servers.map encI).length) ((a1.Servers.map encI).length), .sr 6 1 0 ((a1.Need.map encS).length) ((a1.Need.map encS).length), .d (dI (a1.Down)), .d (dI (a1.Left)), .d (dI (a1.Pc)), .d (dI (a1.X.Id)), .d (dI (a1.X.Addr)), .d (dI (a1.X.Try)), .d (dI (a1.X.Due))]⟩, [(4, .row 6 (a1.Links.map Record.cells) true 1 0), (5, .row 1 (a1.Servers.map encI) true 1 0), (6, .row 1 (a1.Need.map encS) true 1 0)], [17], []⟩, ⟨.t ⟨false, [.ep 3 1 ((((a0.Stack).length : Int) - 1).toNat) 0]⟩, [], [14, 16], [3]⟩] mixed rfl rfl rfl rfl ⟨fun t h A => dy (zfa tabOk rfl rfl rfl (A.e rfl rfl rfl) rfl rfl), fun t h A => dy (zlv tabOk rfl (A.e rfl rfl rfl) (A.h rfl rfl) rfl rfl), fun t h A => dy (zmv rfl (A.e rfl rfl rfl)), fun t h A => dy (y_bin rfl (A.e rfl rfl rfl) (ec rfl) (fun _ => b_subn (by omega) (by omega)) rfl), fun t h A => dy (zlv tabOk rfl (A.e rfl rfl rfl) (A.h rfl rfl) rfl rfl), fun t h A => zcallA 4 (.t ⟨true, [.d (dS (a1.Ask.Name)), .d (dI (a1.Ask.Typ)), .d (dS (a1.Q.Name)), .d (dI (a1.Q.Typ)), .sr 4 1 0 ((a1.Links.map Record.cells).length) ((a1.Links.map Record.cells).length), .d (dS (a1.Apex)), .sr 5 1 0 ((a1.Servers.map encI).length) ((a1.Servers.map encI).length), .sr 6 1 0 ((a1.Need.map encS).length) ((a1.Need.map encS).length), .d (dI (a1.Down)), .d (dI (a1.Left)), .d (dI (a1.Pc)), .d (dI (a1.X.Id)), .d (dI (a1.X.Addr)), .d (dI (a1.X.Try)), .d (dI (a1.X.Due))]⟩) [(4, .row 6 (a1.Links.map Record.cells) true 1 0), (5, .row 1 (a1.Servers.map encI) true 1 0), (6, .row 1 (a1.Need.map encS) true 1 0)] rfl (tr_n_impl_copyFrame a1 h1) (ar (A.e rfl rfl rfl) (.d (.d (.d (.d (.d (.d (.d (.d (.d (.d (.d (.d (.d (.d (.d .nil))))))))))))))) .nil) rfl (A.free rfl) rfl rfl, fun t h A => dy (zisI tabOk rfl rfl rfl (A.e rfl rfl rfl) (A.h rfl rfl) (A.e rfl rfl rfl) (by omega) (ltm_of_some hx1) (Nat.zero_add _)), trivial⟩ ?_
    refine swk 3 (.row 15 (((a0.Stack).set ((((a0.Stack).length : Int) - 1).toNat) a1).map Frame.cells) true 1 (0 + 1)) (zsg tabOk rfl (e rfl rfl) rfl (getm hx1) (e rfl rfl) rfl (.lf (.lf (.lf (.lf (.sr rfl le_all take_all (.lf (.sr rfl le_all take_all (.sr rfl le_all take_all (.lf (.lf (.lf (.lf (.lf (.lf (.lf .nil))))))))))))))) rfl rfl (map_set rfl)) rfl rfl ?_
    refine s_end ?_
    refine v_seq ?_
    refine v_reg ?_
    refine sy (.t ⟨true, [.d (dI (a0.No)), .d (dI (a0.Client)), .d (dS (a0.Ask.Name)), .d (dI (a0.Ask.Typ)), .d (dI (a0.Sent)), .d (dI (a0.Fetched)), .sr 3 1 0 ((a0.Stack.map Frame.cells).length) ((a0.Stack.map Frame.cells).length)]⟩) (zlv tabOk rfl (e rfl rfl) rfl rfl rfl) rfl rfl ?_
    refine sw 2 (.var [.d (dI (a0.No)), .d (dI (a0.Client)), .d (dS (a0.Ask.Name)), .d (dI (a0.Ask.Typ)), .d (dI (a0.Sent)), .d (dI (a0.Fetched)), .sr 3 1 0 ((a0.Stack.map Frame.cells).length) ((a0.Stack.map Frame.cells).length)]) (zst tabOk rfl (e rfl rfl) rfl (e rfl rfl) rfl rfl rfl) rfl rfl ?_
    refine s_end ?_
    refine v_ret ?_
    subst hr
    exact post_ret (rv (.cell (eg rfl rfl) rfl rfl (.inl rfl) rfl) rfl (.lf (.lf (.lf (.lf (.lf (.lf (.sr rfl (le_len (by simp)) (take_len (by simp)) .nil))))))) rfl .nil) (.ro (.ro .nil)) rfl
  replace hr := bf_f hb1 hr
  have hb1p := dec_f hb1
  refine v_skip ?_
  refine v_seq ?_
  refine v_reg ?_
  refine sy (.t ⟨true, [.d (dI (a0.No)), .d (dI (a0.Client)), .d (dS (a0.Ask.Name)), .d (dI (a0.Ask.Typ)), .d (dI (a0.Sent)), .d (dI (a0.Fetched)), .sr 3 1 0 ((a0.Stack.map Frame.cells).length) ((a0.Stack.map Frame.cells).length)]⟩) (zlv tabOk rfl (e rfl rfl) rfl rfl rfl) rfl rfl ?_
  refine sw 2 (.var [.d (dI (a0.No)), .d (dI (a0.Client)), .d (dS (a0.Ask.Name)), .d (dI (a0.Ask.Typ)), .d (dI (a0.Sent)), .d (dI (a0.Fetched)), .sr 3 1 0 ((a0.Stack.map Frame.cells).length) ((a0.Stack.map Frame.cells).length)]) (zst tabOk rfl (e rfl rfl) rfl (e rfl rfl) rfl rfl rfl) rfl rfl ?_
  refine s_end ?_
  refine v_ret ?_
  subst hr
  exact post_ret (rv (.cell (eg rfl rfl) rfl rfl (.inl rfl) rfl) rfl (.lf (.lf (.lf (.lf (.lf (.lf (.sr rfl le_all take_all .nil))))))) rfl .nil) (.ro (.ro .nil)) rfl
theorem set_mem {α : Type} {xs : List α} {i : Nat} {y x : α} (h : x ∈ xs.set i y) : x ∈ xs ∨ x = y := by
  rcases List.mem_or_eq_of_mem_set h with h | h
  · exact .inl h
  · exact .inr h
theorem fit_push (a : Job) (q : Quest) (h : a.Fit) (hq : q.Fit) (hw : a.Stack.length ≤ 1048576) : (n_spec_Push a q).Fit := by
  have hnew : (⟨q, q, [], ⟨#[]⟩, [], [], 0, 0, 1, ⟨0, 0, 0, 0⟩⟩ : Frame).Fit := ⟨hq, hq, ⟨by simp, by simp⟩, by simp [fitS, ByteArray.size], ⟨by simp, by simp⟩, ⟨by simp, by simp⟩, ⟨⟩⟩
  unfold n_spec_Push
  cases hc : decide (0 < (a.Stack.length : Int)) with
  | false =>
    simp only [cond_false]
    refine ⟨h.Ask, by simp; omega, fun x hx => ?_⟩
    simp only [List.mem_append, List.mem_singleton] at hx
    rcases hx with hx | rfl
    · exact h.Stack.2 x hx
    · exact hnew
  | true =>
    have hp : 0 < (a.Stack.length : Int) := of_decide_eq_true hc
    obtain ⟨x, hx⟩ := some_of_lt (l := a.Stack) (i := ((a.Stack.length : Int) - 1).toNat) (by omega)
    have hxf := h.Stack.2 x (List.mem_of_getElem? hx)
    simp only [cond_true, atL, hx]
    refine ⟨h.Ask, by simp; omega, fun y hy => ?_⟩
    simp only [List.mem_append, List.mem_singleton] at hy
    rcases hy with hy | rfl
    · rcases set_mem hy with hy | rfl
      · exact h.Stack.2 y hy
      · exact ⟨hxf.Ask, hxf.Q, hxf.Links, hxf.Apex, hxf.Servers, hxf.Need, hxf.X⟩
    · exact hnew
theorem fit_set (a : Job) (f : Frame) (h : a.Fit) (hf : f.Fit) : (n_spec_SetTop a f).Fit := by
  unfold n_spec_SetTop
  cases hc : decide (0 < (a.Stack.length : Int)) with
  | false =>
    simp only [cond_false]
    exact ⟨h.Ask, h.Stack⟩
  | true =>
    have hp : 0 < (a.Stack.length : Int) := of_decide_eq_true hc
    obtain ⟨x, hx⟩ := some_of_lt (l := a.Stack) (i := ((a.Stack.length : Int) - 1).toNat) (by omega)
    simp only [cond_true, atL, hx]
    refine ⟨h.Ask, by simp; exact h.Stack.1, fun y hy => ?_⟩
    rcases set_mem hy with hy | rfl
    · exact h.Stack.2 y hy
    · exact hf
def n_impl_JobAt_c1 (a0 : Job) (c0 : Int) : Bool := decide ((a0.No) = (c0))
set_option maxRecDepth 20000 in
theorem tr_n_impl_JobAt_c1 (a0 : Job) (c0 : Int) (h0 : Job.Fit a0) : Tr Try.prog 65 [.ro ⟨true, [dI (a0.No), dI (a0.Client), dS (a0.Ask.Name), dI (a0.Ask.Typ), dI (a0.Sent), dI (a0.Fetched), .sl 15 (a0.Stack.map Frame.cells)]⟩, .ro (one (.pt [dI (c0)]))] [⟨false, [dB ((n_impl_JobAt_c1 a0 c0))]⟩] := by
  obtain ⟨r, hr⟩ : ∃ r, n_impl_JobAt_c1 a0 c0 = r := ⟨_, rfl⟩
  rw [hr]
  rw [n_impl_JobAt_c1] at hr
  refine tr_go tabOk Try.func65 rfl rfl rfl rfl rfl (ov := [(0, .t ⟨true, [.d (dI (a0.No)), .d (dI (a0.Client)), .d (dS (a0.Ask.Name)), .d (dI (a0.Ask.Typ)), .d (dI (a0.Sent)), .d (dI (a0.Fetched)), .d (.sl 15 (a0.Stack.map Frame.cells))]⟩), (1, .t ⟨false, [.d (.pt [dI (c0)])]⟩)]) (hv := []) rfl rfl ?_
  refine v_seq ?_
  refine v_reg ?_
  refine sr 0 (.t ⟨false, [.vp 0 0]⟩) (.var [.d (dI (a0.No)), .d (dI (a0.Client)), .d (dS (a0.Ask.Name)), .d (dI (a0.Ask.Typ)), .d (dI (a0.Sent)), .d (dI (a0.Fetched)), .d (.sl 15 (a0.Stack.map Frame.cells))]) (zbx rfl (e rfl rfl) rfl rfl rfl) rfl rfl ?_
  refine sy _ (zas rfl (ec rfl)) rfl rfl ?_
  refine s_end ?_
  refine v_seq ?_
  refine v_reg ?_
  refine sy (.t ⟨false, [.vp 0 0]⟩) (zfa tabOk rfl rfl rfl (e rfl rfl) rfl rfl) rfl rfl ?_
  refine sy (.t ⟨false, [.d (dI (a0.No))]⟩) (zlv tabOk rfl (e rfl rfl) rfl rfl rfl) rfl rfl ?_
  refine sy (.t ⟨false, [.d (dI (c0))]⟩) (zlp tabOk rfl (e rfl rfl) rfl rfl) rfl rfl ?_
  refine sy (.t ⟨false, [.d (dB (decide ((a0.No) = (c0))))]⟩) (y_bin rfl (e rfl rfl) (e rfl rfl) (fun _ => b_eql) rfl) rfl rfl ?_
  refine sy _ (zas rfl (e rfl rfl)) rfl rfl ?_
  refine s_end ?_
  refine v_ret ?_
  subst hr
  exact post_ret (rv (.tmp (eg rfl rfl)) rfl (.lf .nil) rfl .nil) (.ro (.ro .nil)) rfl
def n_impl_JobAt (a0 : World) (a1 : Int) : Int := n_slices_IndexFunc_Job a0.Jobs (fun x0 => n_impl_JobAt_c1 x0 a1)
set_option maxRecDepth 20000 in
theorem tr_n_impl_JobAt (a0 : World) (a1 : Int) (h0 : World.Fit a0) : Tr Try.prog 24 [.ro ⟨true, [dI (a0.C.Quota), dI (a0.C.Depth), dI (a0.C.Chain), dI (a0.C.Glue), dI (a0.C.Tries), dI (a0.C.Addrs), dI (a0.C.Cap), .sl 1 (a0.C.Roots.map encI), dI (a0.Now), dI (a0.K.Cap), .sl 6 (a0.K.L.map Entry.cells), .sl 3 (a0.Bad.map Lame.cells), .sl 7 (a0.Jobs.map Job.cells), .sl 2 (a0.Outs.map Packet.cells), .sl 8 (a0.Reps.map Answer.cells), dI (a0.Next)]⟩, .ro ⟨false, [dI (a1)]⟩] [⟨false, [dI ((n_impl_JobAt a0 a1))]⟩] := by
  obtain ⟨r, hr⟩ : ∃ r, n_impl_JobAt a0 a1 = r := ⟨_, rfl⟩
  rw [hr]
  rw [n_impl_JobAt] at hr
  refine tr_go tabOk Try.func24 rfl rfl rfl rfl rfl (ov := [(0, .t ⟨true, [.d (dI (a0.C.Quota)), .d (dI (a0.C.Depth)), .d (dI (a0.C.Chain)), .d (dI (a0.C.Glue)), .d (dI (a0.C.Tries)), .d (dI (a0.C.Addrs)), .d (dI (a0.C.Cap)), .d (.sl 1 (a0.C.Roots.map encI)), .d (dI (a0.Now)), .d (dI (a0.K.Cap)), .d (.sl 6 (a0.K.L.map Entry.cells)), .d (.sl 3 (a0.Bad.map Lame.cells)), .d (.sl 7 (a0.Jobs.map Job.cells)), .d (.sl 2 (a0.Outs.map Packet.cells)), .d (.sl 8 (a0.Reps.map Answer.cells)), .d (dI (a0.Next))]⟩), (1, .t ⟨false, [.d (dI (a1))]⟩)]) (hv := []) rfl rfl ?_
  refine v_seq ?_
  refine v_reg ?_
  refine sr 0 (.t ⟨false, [.vp 0 0]⟩) (.var [.d (dI (a0.C.Quota)), .d (dI (a0.C.Depth)), .d (dI (a0.C.Chain)), .d (dI (a0.C.Glue)), .d (dI (a0.C.Tries)), .d (dI (a0.C.Addrs)), .d (dI (a0.C.Cap)), .d (.sl 1 (a0.C.Roots.map encI)), .d (dI (a0.Now)), .d (dI (a0.K.Cap)), .d (.sl 6 (a0.K.L.map Entry.cells)), .d (.sl 3 (a0.Bad.map Lame.cells)), .d (.sl 7 (a0.Jobs.map Job.cells)), .d (.sl 2 (a0.Outs.map Packet.cells)), .d (.sl 8 (a0.Reps.map Answer.cells)), .d (dI (a0.Next))]) (zbx rfl (e rfl rfl) rfl rfl rfl) rfl rfl ?_
  refine sr 1 (.t ⟨false, [.vp 1 0]⟩) (.var [.d (dI (a1))]) (zbx rfl (e rfl rfl) rfl rfl rfl) rfl rfl ?_
  refine sy _ (zas rfl (ec rfl)) rfl rfl ?_
  refine s_end ?_
  refine v_seq ?_
  refine v_reg ?_
  refine sy (.t ⟨false, [.vp 0 12]⟩) (zfa tabOk rfl rfl rfl (e rfl rfl) rfl rfl) rfl rfl ?_
  refine sy (.t ⟨false, [.d (.sl 7 (a0.Jobs.map Job.cells))]⟩) (zlv tabOk rfl (e rfl rfl) rfl rfl rfl) rfl rfl ?_
  refine sy (.t ⟨false, [.cl 65 [1]]⟩) (zmf rfl (.cons (e rfl rfl) .nil)) rfl rfl ?_
  refine sd (.t ⟨false, [.d (dI (n_slices_IndexFunc_Job a0.Jobs (fun x0 => n_impl_JobAt_c1 x0 a1)))]⟩) (zcall 2 (.t ⟨false, [.d (dI (n_slices_IndexFunc_Job a0.Jobs (fun x0 => n_impl_JobAt_c1 x0 a1)))]⟩) [] rfl (tr_n_slices_IndexFunc_Job a0.Jobs 65 [.pt [dI (a1)]] (fun x0 => n_impl_JobAt_c1 x0 a1) h0.Jobs (fun x0 k0 => tr_n_impl_JobAt_c1 x0 a1 k0)) (ar (e rfl rfl) (.d .nil) (ar (e rfl rfl) (.cl (.vp rfl (.d .nil) .nil) .nil) .nil)) rfl rfl rfl) rfl rfl rfl rfl ?_
  refine sy _ (zas rfl (e rfl rfl)) rfl rfl ?_
  refine s_end ?_
  refine v_ret ?_
  subst hr
  exact post_ret (rv (.tmp (eg rfl rfl)) rfl (.lf .nil) rfl .nil) (.ro (.ro .nil)) rfl
def n_spec_JobAtL1 (a0 : World) (a1 : Int) : Nat → Nat → Int
  | 0, _ => default
  | n + 1, i => cond (decide (((i : Int)) < (((a0.Jobs).length : Int)))) (atL (a0.Jobs) (i) (fun x1 => cond (decide ((x1.No) = (a1))) ((i : Int)) (n_spec_JobAtL1 a0 a1 n (i + 1)))) (-1)
def n_spec_JobAt (a0 : World) (a1 : Int) : Int := n_spec_JobAtL1 a0 a1 ((a0.Jobs).length + 1) 0
set_option maxRecDepth 20000 in
theorem tr_n_spec_JobAt (a0 : World) (a1 : Int) (h0 : World.Fit a0) : Tr Try.prog 22 [.ro ⟨true, [dI (a0.C.Quota), dI (a0.C.Depth), dI (a0.C.Chain), dI (a0.C.Glue), dI (a0.C.Tries), dI (a0.C.Addrs), dI (a0.C.Cap), .sl 1 (a0.C.Roots.map encI), dI (a0.Now), dI (a0.K.Cap), .sl 6 (a0.K.L.map Entry.cells), .sl 3 (a0.Bad.map Lame.cells), .sl 7 (a0.Jobs.map Job.cells), .sl 2 (a0.Outs.map Packet.cells), .sl 8 (a0.Reps.map Answer.cells), dI (a0.Next)]⟩, .ro ⟨false, [dI (a1)]⟩] [⟨false, [dI ((n_spec_JobAt a0 a1))]⟩] := by
  obtain ⟨r, hr⟩ : ∃ r, n_spec_JobAt a0 a1 = r := ⟨_, rfl⟩
  rw [hr]
  rw [n_spec_JobAt] at hr
  refine tr_go tabOk Try.func22 rfl rfl rfl rfl rfl (ov := [(0, .t ⟨true, [.d (dI (a0.C.Quota)), .d (dI (a0.C.Depth)), .d (dI (a0.C.Chain)), .d (dI (a0.C.Glue)), .d (dI (a0.C.Tries)), .d (dI (a0.C.Addrs)), .d (dI (a0.C.Cap)), .d (.sl 1 (a0.C.Roots.map encI)), .d (dI (a0.Now)), .d (dI (a0.K.Cap)), .d (.sl 6 (a0.K.L.map Entry.cells)), .d (.sl 3 (a0.Bad.map Lame.cells)), .d (.sl 7 (a0.Jobs.map Job.cells)), .d (.sl 2 (a0.Outs.map Packet.cells)), .d (.sl 8 (a0.Reps.map Answer.cells)), .d (dI (a0.Next))]⟩), (1, .t ⟨false, [.d (dI (a1))]⟩)]) (hv := []) rfl rfl ?_
  refine v_seq ?_
  refine v_reg ?_
  refine sr 0 (.t ⟨false, [.vp 0 0]⟩) (.var [.d (dI (a0.C.Quota)), .d (dI (a0.C.Depth)), .d (dI (a0.C.Chain)), .d (dI (a0.C.Glue)), .d (dI (a0.C.Tries)), .d (dI (a0.C.Addrs)), .d (dI (a0.C.Cap)), .d (.sl 1 (a0.C.Roots.map encI)), .d (dI (a0.Now)), .d (dI (a0.K.Cap)), .d (.sl 6 (a0.K.L.map Entry.cells)), .d (.sl 3 (a0.Bad.map Lame.cells)), .d (.sl 7 (a0.Jobs.map Job.cells)), .d (.sl 2 (a0.Outs.map Packet.cells)), .d (.sl 8 (a0.Reps.map Answer.cells)), .d (dI (a0.Next))]) (zbx rfl (e rfl rfl) rfl rfl rfl) rfl rfl ?_
  refine sy _ (zas rfl (ec rfl)) rfl rfl ?_
  refine s_end ?_
  refine v_seq ?_
  refine v_seq ?_
  refine v_reg ?_
  refine sy _ (zas rfl (ec rfl)) rfl rfl ?_
  refine s_end ?_
  refine v_block ?_
  refine v_lp (fun (q : Nat × Nat) => [(1, .t ⟨false, [.d (dI (a1))]⟩), (2, .t ⟨false, [.vp 0 0]⟩), (5, .t ⟨false, [.d (dI (q.2 : Int))]⟩)]) (fun q => [(0, .var [.d (dI (a0.C.Quota)), .d (dI (a0.C.Depth)), .d (dI (a0.C.Chain)), .d (dI (a0.C.Glue)), .d (dI (a0.C.Tries)), .d (dI (a0.C.Addrs)), .d (dI (a0.C.Cap)), .d (.sl 1 (a0.C.Roots.map encI)), .d (dI (a0.Now)), .d (dI (a0.K.Cap)), .d (.sl 6 (a0.K.L.map Entry.cells)), .d (.sl 3 (a0.Bad.map Lame.cells)), .d (.sl 7 (a0.Jobs.map Job.cells)), .d (.sl 2 (a0.Outs.map Packet.cells)), .d (.sl 8 (a0.Reps.map Answer.cells)), .d (dI (a0.Next))])]) (fun q => n_spec_JobAtL1 a0 a1 q.1 q.2 = r ∧ q.2 ≤ (a0.Jobs).length ∧ q.2 + q.1 = (a0.Jobs).length + 1) (fun q => q.1) ((a0.Jobs).length + 1, (0 : Nat)) ⟨hr, by (try simp only [List.length_nil]); omega, by (try simp only [List.length_nil]); omega⟩ ⟨rfl, rfl, rfl, trivial⟩ ⟨rfl, trivial⟩ rfl (fun q hq => ?_)
  obtain ⟨n, i⟩ := q
  obtain ⟨hr, hi1x0, hi1x1⟩ := hq
  dsimp only at hr hi1x0 hi1x1
  show VWp _ _ _ (mk [(1, .t ⟨false, [.d (dI (a1))]⟩), (2, .t ⟨false, [.vp 0 0]⟩), (5, .t ⟨false, [.d (dI (i : Int))]⟩)] _ [(0, .var [.d (dI (a0.C.Quota)), .d (dI (a0.C.Depth)), .d (dI (a0.C.Chain)), .d (dI (a0.C.Glue)), .d (dI (a0.C.Tries)), .d (dI (a0.C.Addrs)), .d (dI (a0.C.Cap)), .d (.sl 1 (a0.C.Roots.map encI)), .d (dI (a0.Now)), .d (dI (a0.K.Cap)), .d (.sl 6 (a0.K.L.map Entry.cells)), .d (.sl 3 (a0.Bad.map Lame.cells)), .d (.sl 7 (a0.Jobs.map Job.cells)), .d (.sl 2 (a0.Outs.map Packet.cells)), .d (.sl 8 (a0.Reps.map Answer.cells)), .d (dI (a0.Next))])])
  rcases n with _ | n
  · exfalso; omega
  rw [n_spec_JobAtL1] at hr
  refine v_seq ?_
  refine v_seq ?_
  refine v_reg ?_
  refine sy _ (zmv rfl (e rfl rfl)) rfl rfl ?_
  refine sy (.t ⟨false, [.vp 0 12]⟩) (zfa tabOk rfl rfl rfl (e rfl rfl) rfl rfl) rfl rfl ?_
  refine sy (.t ⟨false, [.d (.sl 7 (a0.Jobs.map Job.cells))]⟩) (zlv tabOk rfl (e rfl rfl) rfl rfl rfl) rfl rfl ?_
  have hB1 := (h0.Jobs).1
  refine sy (.t ⟨false, [.d (dI ((a0.Jobs).length : Int))]⟩) (zlm tabOk rfl rfl (e rfl rfl) .d) rfl rfl ?_
  refine sy (.t ⟨false, [.d (dB (decide (((i : Int)) < (((a0.Jobs).length : Int)))))]⟩) (y_bin rfl (e rfl rfl) (e rfl rfl) (fun _ => b_lss) rfl) rfl rfl ?_
  refine s_end ?_
  refine v_cond (e rfl rfl) (fun hb1 => ?_) fun hb1 => ?_
  · replace hr := bf_t hb1 hr
    have hb1p := dec_t hb1
    refine v_skip ?_
    refine v_seq ?_
    refine v_block ?_
    refine v_seq ?_
    refine v_reg ?_
    refine sy (.t ⟨false, [.vp 0 12]⟩) (zfa tabOk rfl rfl rfl (e rfl rfl) rfl rfl) rfl rfl ?_
    refine sy (.t ⟨false, [.d (.sl 7 (a0.Jobs.map Job.cells))]⟩) (zlv tabOk rfl (e rfl rfl) rfl rfl rfl) rfl rfl ?_
    refine sy _ (zmv rfl (e rfl rfl)) rfl rfl ?_
    obtain ⟨x1, hx1⟩ : ∃ x, (a0.Jobs)[i]? = some x := some_of_lt (by omega)
    replace hr := at_step hx1 hr
    have hfx1 := h0.Jobs.2 _ (List.mem_of_getElem? hx1)
    refine sy (.t ⟨false, [.fe 7 (a0.Jobs.map Job.cells) i 0]⟩) (zix tabOk rfl rfl rfl (e rfl rfl) (e rfl rfl) (ltm_of_some hx1)) rfl rfl ?_
    refine sy (.t ⟨false, [.fe 7 (a0.Jobs.map Job.cells) i 0]⟩) (zfa tabOk rfl rfl rfl (e rfl rfl) rfl rfl) rfl rfl ?_
    refine sy (.t ⟨false, [.d (dI (x1.No))]⟩) (zle tabOk rfl (e rfl rfl) (getm hx1) rfl rfl) rfl rfl ?_
    refine sy _ (zmv rfl (e rfl rfl)) rfl rfl ?_
    refine sy (.t ⟨false, [.d (dB (decide ((x1.No) = (a1))))]⟩) (y_bin rfl (e rfl rfl) (e rfl rfl) (fun _ => b_eql) rfl) rfl rfl ?_
    refine s_end ?_
    refine v_cond (e rfl rfl) (fun hb2 => ?_) fun hb2 => ?_
    · replace hr := bf_t hb2 hr
      have hb2p := dec_t hb2
      refine v_seq ?_
      refine v_reg ?_
      refine sy _ (zmv rfl (e rfl rfl)) rfl rfl ?_
      refine sy _ (zas rfl (e rfl rfl)) rfl rfl ?_
      refine s_end ?_
      refine v_ret ?_
      subst hr
      exact post_ret (rv (.tmp (eg rfl rfl)) rfl (.lf .nil) rfl .nil) (.ro (.ro .nil)) rfl
    replace hr := bf_f hb2 hr
    have hb2p := dec_f hb2
    refine v_skip ?_
    refine blk_norm ?_
    refine v_reg ?_
    refine sy _ (zmv rfl (e rfl rfl)) rfl rfl ?_
    refine sy (.t ⟨false, [.d (dI (i + 1 : Int))]⟩) (y_bin rfl (e rfl rfl) (ec rfl) (fun _ => b_addn (by omega) (by omega)) rfl) rfl rfl ?_
    refine sy _ (zas rfl (e rfl rfl)) rfl rfl ?_
    refine s_end ?_
    exact lp_next (n, i + 1) ⟨hr, by (try simp only [List.length_append, List.length_cons, List.length_nil]); omega, by (try simp only [List.length_append, List.length_cons, List.length_nil]); omega⟩ (Nat.lt_succ_self _) ⟨rfl, rfl, rfl, trivial⟩ ⟨rfl, trivial⟩ rfl
  replace hr := bf_f hb1 hr
  have hb1p := dec_f hb1
  refine v_exit ?_
  refine then_exit ?_
  refine loop_exit ?_
  refine blk_hit ?_
  refine v_seq ?_
  refine v_reg ?_
  refine sy _ (zas rfl (ec rfl)) rfl rfl ?_
  refine s_end ?_
  refine v_ret ?_
  subst hr
  exact post_ret (rv (.tmp (eg rfl rfl)) rfl (.lf .nil) rfl .nil) (.ro (.ro .nil)) rfl
theorem law_JobAt (a : World) (k : Int) : n_impl_JobAt a k = n_spec_JobAt a k := by
  have h1 := loop_iter (xs := a.Jobs) (f := fun n (_ : Unit) i => n_slices_IndexFunc_JobL1 a.Jobs (fun x => n_impl_JobAt_c1 x k) n i) (step := fun x _ i c => cond (decide (x.No = k)) (i : Int) (c ())) (done := fun _ => -1) (fun n s i => rfl) (a.Jobs.length + 1) 0 () (Nat.zero_le _) (Nat.zero_add _)
  have h2 := loop_iter (xs := a.Jobs) (f := fun n (_ : Unit) i => n_spec_JobAtL1 a k n i) (step := fun x _ i c => cond (decide (x.No = k)) (i : Int) (c ())) (done := fun _ => -1) (fun n s i => rfl) (a.Jobs.length + 1) 0 () (Nat.zero_le _) (Nat.zero_add _)
  exact h1.trans h2.symm
theorem tr2_n_impl_JobAt (a0 : World) (a1 : Int) (h0 : World.Fit a0) : Tr Try.prog 24 [.ro ⟨true, [dI (a0.C.Quota), dI (a0.C.Depth), dI (a0.C.Chain), dI (a0.C.Glue), dI (a0.C.Tries), dI (a0.C.Addrs), dI (a0.C.Cap), .sl 1 (a0.C.Roots.map encI), dI (a0.Now), dI (a0.K.Cap), .sl 6 (a0.K.L.map Entry.cells), .sl 3 (a0.Bad.map Lame.cells), .sl 7 (a0.Jobs.map Job.cells), .sl 2 (a0.Outs.map Packet.cells), .sl 8 (a0.Reps.map Answer.cells), dI (a0.Next)]⟩, .ro ⟨false, [dI (a1)]⟩] [⟨false, [dI ((n_spec_JobAt a0 a1))]⟩] := by
  have := tr_n_impl_JobAt a0 a1 h0
  rwa [law_JobAt] at this
end Go.Proofs.Ytkcpbahcnlhmjaa.V
