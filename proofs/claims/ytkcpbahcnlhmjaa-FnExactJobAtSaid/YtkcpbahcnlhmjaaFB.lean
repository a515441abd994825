/-
  Frames and jobs: copies.
-/
import Derived.Test.YtkcpbahcnlhmjaaN
import Derived.Test.YtkcpbahcnlhmjaaFA
namespace Go.Proofs.Ytkcpbahcnlhmjaa.V
open Go
set_option linter.unusedVariables false
set_option linter.unusedSimpArgs false
def n_spec_l7Copy (a0 : List Record) : List Record := a0
set_option maxRecDepth 20000 in
theorem tr_n_spec_l7Copy (a0 : List Record) (h0 : fitL Record.Fit a0) : Tr Try.prog 77 [.ro ⟨false, [.sl 6 (a0.map Record.cells)]⟩] [⟨false, [.sl 6 (((n_spec_l7Copy a0)).map Record.cells)]⟩] := by
  obtain ⟨r, hr⟩ : ∃ r, n_spec_l7Copy a0 = r := ⟨_, rfl⟩
  rw [hr]
  rw [n_spec_l7Copy] at hr
  refine tr_go tabOk Try.func77 rfl rfl rfl rfl rfl (ov := [(0, .t ⟨false, [.d (.sl 6 (a0.map Record.cells))]⟩)]) (hv := []) rfl rfl ?_
  refine v_seq ?_
  refine v_reg ?_
  refine sy _ (zas rfl (en 6)) rfl rfl ?_
  refine s_end ?_
  refine v_seq ?_
  refine v_reg ?_
  refine sbk 0 (.t ⟨false, [.sr 0 1 0 ((([] : List Record).map Record.cells).length) ((([] : List Record).map Record.cells).length)]⟩) (.row 6 (([] : List Record).map Record.cells) true 1 0) (zbu tabOk rfl rfl rfl rfl .nil rfl rfl) rfl rfl ?_
  refine sy _ (zmv rfl (e rfl rfl)) rfl rfl ?_
  have hB2 := (h0).1
  refine sa 0 (.t ⟨false, [.sr 0 2 0 (((a0).map Record.cells).length) (((a0).map Record.cells).length)]⟩) (.row 6 ((a0).map Record.cells) true 2 1) (zap tabOk rfl rfl rfl rfl (e rfl rfl) rfl rfl (e rfl rfl) (.d (flat_Record _)) (ap_big (by simp only [List.length_map, List.length_cons, List.length_nil]; omega) rfl) rfl (by simp only [List.length_map, List.length_append, List.length_cons, List.length_nil]; omega)) rfl rfl ?_
  refine sy _ (zas rfl (e rfl rfl)) rfl rfl ?_
  refine s_end ?_
  refine v_ret ?_
  subst hr
  exact post_ret (rv (.tmp (eg rfl rfl)) rfl (.sr rfl le_all take_all .nil) rfl .nil) (.ro .nil) rfl
def n_spec_l21Copy (a0 : Frame) : Frame := a0
set_option maxRecDepth 20000 in
theorem tr_n_spec_l21Copy (a0 : Frame) (h0 : Frame.Fit a0) : Tr Try.prog 39 [.ro ⟨true, [dS (a0.Ask.Name), dI (a0.Ask.Typ), dS (a0.Q.Name), dI (a0.Q.Typ), .sl 6 (a0.Links.map Record.cells), dS (a0.Apex), .sl 1 (a0.Servers.map encI), .sl 1 (a0.Need.map encS), dI (a0.Down), dI (a0.Left), dI (a0.Pc), dI (a0.X.Id), dI (a0.X.Addr), dI (a0.X.Try), dI (a0.X.Due)]⟩] [⟨true, [dS ((((n_spec_l21Copy a0)).Ask).Name), dI ((((n_spec_l21Copy a0)).Ask).Typ), dS ((((n_spec_l21Copy a0)).Q).Name), dI ((((n_spec_l21Copy a0)).Q).Typ), .sl 6 ((((n_spec_l21Copy a0)).Links).map Record.cells), dS (((n_spec_l21Copy a0)).Apex), .sl 1 ((((n_spec_l21Copy a0)).Servers).map encI), .sl 1 ((((n_spec_l21Copy a0)).Need).map encS), dI (((n_spec_l21Copy a0)).Down), dI (((n_spec_l21Copy a0)).Left), dI (((n_spec_l21Copy a0)).Pc), dI ((((n_spec_l21Copy a0)).X).Id), dI ((((n_spec_l21Copy a0)).X).Addr), dI ((((n_spec_l21Copy a0)).X).Try), dI ((((n_spec_l21Copy a0)).X).Due)]⟩] := by
  obtain ⟨r, hr⟩ : ∃ r, n_spec_l21Copy a0 = r := ⟨_, rfl⟩
  rw [hr]
  rw [n_spec_l21Copy] at hr
  refine tr_go tabOk Try.func39 rfl rfl rfl rfl rfl (ov := [(0, .t ⟨true, [.d (dS (a0.Ask.Name)), .d (dI (a0.Ask.Typ)), .d (dS (a0.Q.Name)), .d (dI (a0.Q.Typ)), .d (.sl 6 (a0.Links.map Record.cells)), .d (dS (a0.Apex)), .d (.sl 1 (a0.Servers.map encI)), .d (.sl 1 (a0.Need.map encS)), .d (dI (a0.Down)), .d (dI (a0.Left)), .d (dI (a0.Pc)), .d (dI (a0.X.Id)), .d (dI (a0.X.Addr)), .d (dI (a0.X.Try)), .d (dI (a0.X.Due))]⟩)]) (hv := []) rfl rfl ?_
  refine v_seq ?_
  refine v_reg ?_
  refine sr 0 (.t ⟨false, [.vp 0 0]⟩) (.var [.d (dS (a0.Ask.Name)), .d (dI (a0.Ask.Typ)), .d (dS (a0.Q.Name)), .d (dI (a0.Q.Typ)), .d (.sl 6 (a0.Links.map Record.cells)), .d (dS (a0.Apex)), .d (.sl 1 (a0.Servers.map encI)), .d (.sl 1 (a0.Need.map encS)), .d (dI (a0.Down)), .d (dI (a0.Left)), .d (dI (a0.Pc)), .d (dI (a0.X.Id)), .d (dI (a0.X.Addr)), .d (dI (a0.X.Try)), .d (dI (a0.X.Due))]) (zbx rfl (e rfl rfl) rfl rfl rfl) rfl rfl ?_
  refine sr 1 (.t ⟨false, [.vp 1 0]⟩) (.var [.d (dS (⟨#[]⟩)), .d (dI (0)), .d (dS (⟨#[]⟩)), .d (dI (0)), .nl 6, .d (dS (⟨#[]⟩)), .nl 1, .nl 1, .d (dI (0)), .d (dI (0)), .d (dI (0)), .d (dI (0)), .d (dI (0)), .d (dI (0)), .d (dI (0))]) (zal tabOk rfl rfl rfl rfl) rfl rfl ?_
  refine s_end ?_
  refine v_seq ?_
  refine v_reg ?_
  refine sy (.t ⟨true, [.d (dS (a0.Ask.Name)), .d (dI (a0.Ask.Typ)), .d (dS (a0.Q.Name)), .d (dI (a0.Q.Typ)), .d (.sl 6 (a0.Links.map Record.cells)), .d (dS (a0.Apex)), .d (.sl 1 (a0.Servers.map encI)), .d (.sl 1 (a0.Need.map encS)), .d (dI (a0.Down)), .d (dI (a0.Left)), .d (dI (a0.Pc)), .d (dI (a0.X.Id)), .d (dI (a0.X.Addr)), .d (dI (a0.X.Try)), .d (dI (a0.X.Due))]⟩) (zlv tabOk rfl (e rfl rfl) rfl rfl rfl) rfl rfl ?_
  refine sr 2 (.t ⟨false, [.vp 2 0]⟩) (.var [.d (dS (⟨#[]⟩)), .d (dI (0)), .d (dS (⟨#[]⟩)), .d (dI (0)), .nl 6, .d (dS (⟨#[]⟩)), .nl 1, .nl 1, .d (dI (0)), .d (dI (0)), .d (dI (0)), .d (dI (0)), .d (dI (0)), .d (dI (0)), .d (dI (0))]) (zal tabOk rfl rfl rfl rfl) rfl rfl ?_
  refine sw 2 (.var [.d (dS (a0.Ask.Name)), .d (dI (a0.Ask.Typ)), .d (dS (a0.Q.Name)), .d (dI (a0.Q.Typ)), .d (.sl 6 (a0.Links.map Record.cells)), .d (dS (a0.Apex)), .d (.sl 1 (a0.Servers.map encI)), .d (.sl 1 (a0.Need.map encS)), .d (dI (a0.Down)), .d (dI (a0.Left)), .d (dI (a0.Pc)), .d (dI (a0.X.Id)), .d (dI (a0.X.Addr)), .d (dI (a0.X.Try)), .d (dI (a0.X.Due))]) (zst tabOk rfl (e rfl rfl) rfl (e rfl rfl) rfl rfl rfl) rfl rfl ?_
  refine s_end ?_
  refine v_seq ?_
  refine v_reg ?_
  refine sy (.t ⟨false, [.vp 0 4]⟩) (zfa tabOk rfl rfl rfl (e rfl rfl) rfl rfl) rfl rfl ?_
  refine sy (.t ⟨false, [.d (.sl 6 (a0.Links.map Record.cells))]⟩) (zlv tabOk rfl (e rfl rfl) rfl rfl rfl) rfl rfl ?_
  refine sd (.t ⟨false, [.sr 3 1 0 ((a0.Links.map Record.cells).length) ((a0.Links.map Record.cells).length)]⟩) (zcall 3 (.t ⟨false, [.sr 3 1 0 ((a0.Links.map Record.cells).length) ((a0.Links.map Record.cells).length)]⟩) [(3, .row 6 (a0.Links.map Record.cells) true 1 0)] rfl (tr_n_spec_l7Copy a0.Links h0.Links) (ar (e rfl rfl) (.d .nil) .nil) rfl rfl rfl) rfl rfl rfl rfl ?_
  refine sy (.t ⟨false, [.vp 2 4]⟩) (zfa tabOk rfl rfl rfl (e rfl rfl) rfl rfl) rfl rfl ?_
  refine sw 2 (.var [.d (dS (a0.Ask.Name)), .d (dI (a0.Ask.Typ)), .d (dS (a0.Q.Name)), .d (dI (a0.Q.Typ)), .sr 3 1 0 ((a0.Links.map Record.cells).length) ((a0.Links.map Record.cells).length), .d (dS (a0.Apex)), .d (.sl 1 (a0.Servers.map encI)), .d (.sl 1 (a0.Need.map encS)), .d (dI (a0.Down)), .d (dI (a0.Left)), .d (dI (a0.Pc)), .d (dI (a0.X.Id)), .d (dI (a0.X.Addr)), .d (dI (a0.X.Try)), .d (dI (a0.X.Due))]) (zst tabOk rfl (e rfl rfl) rfl (e rfl rfl) rfl rfl rfl) rfl rfl ?_
  refine s_end ?_
  refine v_seq ?_
  refine v_reg ?_
  refine sbk 4 (.t ⟨false, [.sr 4 1 0 ((([] : List Int).map encI).length) ((([] : List Int).map encI).length)]⟩) (.row 1 (([] : List Int).map encI) true 1 0) (zbu tabOk rfl rfl rfl rfl .nil rfl rfl) rfl rfl ?_
  refine sy (.t ⟨false, [.vp 0 6]⟩) (zfa tabOk rfl rfl rfl (e rfl rfl) rfl rfl) rfl rfl ?_
  refine sy (.t ⟨false, [.d (.sl 1 (a0.Servers.map encI))]⟩) (zlv tabOk rfl (e rfl rfl) rfl rfl rfl) rfl rfl ?_
  have hB2 := (h0.Servers).1
  refine sa 4 (.t ⟨false, [.sr 4 2 0 (((a0.Servers).map encI).length) (((a0.Servers).map encI).length)]⟩) (.row 1 ((a0.Servers).map encI) true 2 1) (zap tabOk rfl rfl rfl rfl (e rfl rfl) rfl rfl (e rfl rfl) (.d (flat_I _)) (ap_big (by simp only [List.length_map, List.length_cons, List.length_nil]; omega) rfl) rfl (by simp only [List.length_map, List.length_append, List.length_cons, List.length_nil]; omega)) rfl rfl ?_
  refine sy (.t ⟨false, [.vp 2 6]⟩) (zfa tabOk rfl rfl rfl (e rfl rfl) rfl rfl) rfl rfl ?_
  refine sw 2 (.var [.d (dS (a0.Ask.Name)), .d (dI (a0.Ask.Typ)), .d (dS (a0.Q.Name)), .d (dI (a0.Q.Typ)), .sr 3 1 0 ((a0.Links.map Record.cells).length) ((a0.Links.map Record.cells).length), .d (dS (a0.Apex)), .sr 4 2 0 (((a0.Servers).map encI).length) (((a0.Servers).map encI).length), .d (.sl 1 (a0.Need.map encS)), .d (dI (a0.Down)), .d (dI (a0.Left)), .d (dI (a0.Pc)), .d (dI (a0.X.Id)), .d (dI (a0.X.Addr)), .d (dI (a0.X.Try)), .d (dI (a0.X.Due))]) (zst tabOk rfl (e rfl rfl) rfl (e rfl rfl) rfl rfl rfl) rfl rfl ?_
  refine s_end ?_
  refine v_seq ?_
  refine v_reg ?_
  refine sbk 5 (.t ⟨false, [.sr 5 1 0 ((([] : List ByteArray).map encS).length) ((([] : List ByteArray).map encS).length)]⟩) (.row 1 (([] : List ByteArray).map encS) true 1 0) (zbu tabOk rfl rfl rfl rfl .nil rfl rfl) rfl rfl ?_
  refine sy (.t ⟨false, [.vp 0 7]⟩) (zfa tabOk rfl rfl rfl (e rfl rfl) rfl rfl) rfl rfl ?_
  refine sy (.t ⟨false, [.d (.sl 1 (a0.Need.map encS))]⟩) (zlv tabOk rfl (e rfl rfl) rfl rfl rfl) rfl rfl ?_
  have hB4 := (h0.Need).1
  refine sa 5 (.t ⟨false, [.sr 5 2 0 (((a0.Need).map encS).length) (((a0.Need).map encS).length)]⟩) (.row 1 ((a0.Need).map encS) true 2 1) (zap tabOk rfl rfl rfl rfl (e rfl rfl) rfl rfl (e rfl rfl) (.d (flat_S _)) (ap_big (by simp only [List.length_map, List.length_cons, List.length_nil]; omega) rfl) rfl (by simp only [List.length_map, List.length_append, List.length_cons, List.length_nil]; omega)) rfl rfl ?_
  refine sy (.t ⟨false, [.vp 2 7]⟩) (zfa tabOk rfl rfl rfl (e rfl rfl) rfl rfl) rfl rfl ?_
  refine sw 2 (.var [.d (dS (a0.Ask.Name)), .d (dI (a0.Ask.Typ)), .d (dS (a0.Q.Name)), .d (dI (a0.Q.Typ)), .sr 3 1 0 ((a0.Links.map Record.cells).length) ((a0.Links.map Record.cells).length), .d (dS (a0.Apex)), .sr 4 2 0 (((a0.Servers).map encI).length) (((a0.Servers).map encI).length), .sr 5 2 0 (((a0.Need).map encS).length) (((a0.Need).map encS).length), .d (dI (a0.Down)), .d (dI (a0.Left)), .d (dI (a0.Pc)), .d (dI (a0.X.Id)), .d (dI (a0.X.Addr)), .d (dI (a0.X.Try)), .d (dI (a0.X.Due))]) (zst tabOk rfl (e rfl rfl) rfl (e rfl rfl) rfl rfl rfl) rfl rfl ?_
  refine s_end ?_
  refine v_seq ?_
  refine v_reg ?_
  refine sy (.t ⟨true, [.d (dS (a0.Ask.Name)), .d (dI (a0.Ask.Typ)), .d (dS (a0.Q.Name)), .d (dI (a0.Q.Typ)), .sr 3 1 0 ((a0.Links.map Record.cells).length) ((a0.Links.map Record.cells).length), .d (dS (a0.Apex)), .sr 4 2 0 (((a0.Servers).map encI).length) (((a0.Servers).map encI).length), .sr 5 2 0 (((a0.Need).map encS).length) (((a0.Need).map encS).length), .d (dI (a0.Down)), .d (dI (a0.Left)), .d (dI (a0.Pc)), .d (dI (a0.X.Id)), .d (dI (a0.X.Addr)), .d (dI (a0.X.Try)), .d (dI (a0.X.Due))]⟩) (zlv tabOk rfl (e rfl rfl) rfl rfl rfl) rfl rfl ?_
  refine sw 1 (.var [.d (dS (a0.Ask.Name)), .d (dI (a0.Ask.Typ)), .d (dS (a0.Q.Name)), .d (dI (a0.Q.Typ)), .sr 3 1 0 ((a0.Links.map Record.cells).length) ((a0.Links.map Record.cells).length), .d (dS (a0.Apex)), .sr 4 2 0 (((a0.Servers).map encI).length) (((a0.Servers).map encI).length), .sr 5 2 0 (((a0.Need).map encS).length) (((a0.Need).map encS).length), .d (dI (a0.Down)), .d (dI (a0.Left)), .d (dI (a0.Pc)), .d (dI (a0.X.Id)), .d (dI (a0.X.Addr)), .d (dI (a0.X.Try)), .d (dI (a0.X.Due))]) (zst tabOk rfl (e rfl rfl) rfl (e rfl rfl) rfl rfl rfl) rfl rfl ?_
  refine s_end ?_
  refine v_ret ?_
  subst hr
  exact post_ret (rv (.cell (eg rfl rfl) rfl rfl (.inl rfl) rfl) rfl (.lf (.lf (.lf (.lf (.sr rfl le_all take_all (.lf (.sr rfl le_all take_all (.sr rfl le_all take_all (.lf (.lf (.lf (.lf (.lf (.lf (.lf .nil))))))))))))))) rfl .nil) (.ro .nil) rfl
def n_impl_copyFrame (a0 : Frame) : Frame := a0
set_option maxRecDepth 20000 in
theorem tr_n_impl_copyFrame (a0 : Frame) (h0 : Frame.Fit a0) : Tr Try.prog 44 [.ro ⟨true, [dS (a0.Ask.Name), dI (a0.Ask.Typ), dS (a0.Q.Name), dI (a0.Q.Typ), .sl 6 (a0.Links.map Record.cells), dS (a0.Apex), .sl 1 (a0.Servers.map encI), .sl 1 (a0.Need.map encS), dI (a0.Down), dI (a0.Left), dI (a0.Pc), dI (a0.X.Id), dI (a0.X.Addr), dI (a0.X.Try), dI (a0.X.Due)]⟩] [⟨true, [dS ((((n_impl_copyFrame a0)).Ask).Name), dI ((((n_impl_copyFrame a0)).Ask).Typ), dS ((((n_impl_copyFrame a0)).Q).Name), dI ((((n_impl_copyFrame a0)).Q).Typ), .sl 6 ((((n_impl_copyFrame a0)).Links).map Record.cells), dS (((n_impl_copyFrame a0)).Apex), .sl 1 ((((n_impl_copyFrame a0)).Servers).map encI), .sl 1 ((((n_impl_copyFrame a0)).Need).map encS), dI (((n_impl_copyFrame a0)).Down), dI (((n_impl_copyFrame a0)).Left), dI (((n_impl_copyFrame a0)).Pc), dI ((((n_impl_copyFrame a0)).X).Id), dI ((((n_impl_copyFrame a0)).X).Addr), dI ((((n_impl_copyFrame a0)).X).Try), dI ((((n_impl_copyFrame a0)).X).Due)]⟩] := by
  obtain ⟨r, hr⟩ : ∃ r, n_impl_copyFrame a0 = r := ⟨_, rfl⟩
  rw [hr]
  rw [n_impl_copyFrame] at hr
  refine tr_go tabOk Try.func44 rfl rfl rfl rfl rfl (ov := [(0, .t ⟨true, [.d (dS (a0.Ask.Name)), .d (dI (a0.Ask.Typ)), .d (dS (a0.Q.Name)), .d (dI (a0.Q.Typ)), .d (.sl 6 (a0.Links.map Record.cells)), .d (dS (a0.Apex)), .d (.sl 1 (a0.Servers.map encI)), .d (.sl 1 (a0.Need.map encS)), .d (dI (a0.Down)), .d (dI (a0.Left)), .d (dI (a0.Pc)), .d (dI (a0.X.Id)), .d (dI (a0.X.Addr)), .d (dI (a0.X.Try)), .d (dI (a0.X.Due))]⟩)]) (hv := []) rfl rfl ?_
  refine v_seq ?_
  refine v_reg ?_
  refine sr 0 (.t ⟨false, [.vp 0 0]⟩) (.var [.d (dS (a0.Ask.Name)), .d (dI (a0.Ask.Typ)), .d (dS (a0.Q.Name)), .d (dI (a0.Q.Typ)), .d (.sl 6 (a0.Links.map Record.cells)), .d (dS (a0.Apex)), .d (.sl 1 (a0.Servers.map encI)), .d (.sl 1 (a0.Need.map encS)), .d (dI (a0.Down)), .d (dI (a0.Left)), .d (dI (a0.Pc)), .d (dI (a0.X.Id)), .d (dI (a0.X.Addr)), .d (dI (a0.X.Try)), .d (dI (a0.X.Due))]) (zbx rfl (e rfl rfl) rfl rfl rfl) rfl rfl ?_
  refine sr 1 (.t ⟨false, [.vp 1 0]⟩) (.var [.d (dS (⟨#[]⟩)), .d (dI (0)), .d (dS (⟨#[]⟩)), .d (dI (0)), .nl 6, .d (dS (⟨#[]⟩)), .nl 1, .nl 1, .d (dI (0)), .d (dI (0)), .d (dI (0)), .d (dI (0)), .d (dI (0)), .d (dI (0)), .d (dI (0))]) (zal tabOk rfl rfl rfl rfl) rfl rfl ?_
  refine s_end ?_
  refine v_seq ?_
  refine v_reg ?_
  refine sy (.t ⟨false, [.vp 0 4]⟩) (zfa tabOk rfl rfl rfl (e rfl rfl) rfl rfl) rfl rfl ?_
  refine sy (.t ⟨false, [.d (.sl 6 (a0.Links.map Record.cells))]⟩) (zlv tabOk rfl (e rfl rfl) rfl rfl rfl) rfl rfl ?_
  refine sd (.t ⟨false, [.sr 2 1 0 ((a0.Links.map Record.cells).length) ((a0.Links.map Record.cells).length)]⟩) (zcall 2 (.t ⟨false, [.sr 2 1 0 ((a0.Links.map Record.cells).length) ((a0.Links.map Record.cells).length)]⟩) [(2, .row 6 (a0.Links.map Record.cells) true 1 0)] rfl (tr_clone_Record a0.Links (Nat.le_trans h0.Links.1 (by decide))) (ar (e rfl rfl) (.d .nil) .nil) rfl rfl rfl) rfl rfl rfl rfl ?_
  refine sy (.t ⟨false, [.vp 0 4]⟩) (zfa tabOk rfl rfl rfl (e rfl rfl) rfl rfl) rfl rfl ?_
  refine sw 0 (.var [.d (dS (a0.Ask.Name)), .d (dI (a0.Ask.Typ)), .d (dS (a0.Q.Name)), .d (dI (a0.Q.Typ)), .sr 2 1 0 ((a0.Links.map Record.cells).length) ((a0.Links.map Record.cells).length), .d (dS (a0.Apex)), .d (.sl 1 (a0.Servers.map encI)), .d (.sl 1 (a0.Need.map encS)), .d (dI (a0.Down)), .d (dI (a0.Left)), .d (dI (a0.Pc)), .d (dI (a0.X.Id)), .d (dI (a0.X.Addr)), .d (dI (a0.X.Try)), .d (dI (a0.X.Due))]) (zst tabOk rfl (e rfl rfl) rfl (e rfl rfl) rfl rfl rfl) rfl rfl ?_
  refine s_end ?_
  refine v_seq ?_
  refine v_reg ?_
  refine sy (.t ⟨false, [.vp 0 6]⟩) (zfa tabOk rfl rfl rfl (e rfl rfl) rfl rfl) rfl rfl ?_
  refine sy (.t ⟨false, [.d (.sl 1 (a0.Servers.map encI))]⟩) (zlv tabOk rfl (e rfl rfl) rfl rfl rfl) rfl rfl ?_
  refine sd (.t ⟨false, [.sr 3 1 0 ((a0.Servers.map encI).length) ((a0.Servers.map encI).length)]⟩) (zcall 3 (.t ⟨false, [.sr 3 1 0 ((a0.Servers.map encI).length) ((a0.Servers.map encI).length)]⟩) [(3, .row 1 (a0.Servers.map encI) true 1 0)] rfl (tr_clone_encI a0.Servers (Nat.le_trans h0.Servers.1 (by decide))) (ar (e rfl rfl) (.d .nil) .nil) rfl rfl rfl) rfl rfl rfl rfl ?_
  refine sy (.t ⟨false, [.vp 0 6]⟩) (zfa tabOk rfl rfl rfl (e rfl rfl) rfl rfl) rfl rfl ?_
  refine sw 0 (.var [.d (dS (a0.Ask.Name)), .d (dI (a0.Ask.Typ)), .d (dS (a0.Q.Name)), .d (dI (a0.Q.Typ)), .sr 2 1 0 ((a0.Links.map Record.cells).length) ((a0.Links.map Record.cells).length), .d (dS (a0.Apex)), .sr 3 1 0 ((a0.Servers.map encI).length) ((a0.Servers.map encI).length), .d (.sl 1 (a0.Need.map encS)), .d (dI (a0.Down)), .d (dI (a0.Left)), .d (dI (a0.Pc)), .d (dI (a0.X.Id)), .d (dI (a0.X.Addr)), .d (dI (a0.X.Try)), .d (dI (a0.X.Due))]) (zst tabOk rfl (e rfl rfl) rfl (e rfl rfl) rfl rfl rfl) rfl rfl ?_
  refine s_end ?_
  refine v_seq ?_
  refine v_reg ?_
  refine sy (.t ⟨false, [.vp 0 7]⟩) (zfa tabOk rfl rfl rfl (e rfl rfl) rfl rfl) rfl rfl ?_
  refine sy (.t ⟨false, [.d (.sl 1 (a0.Need.map encS))]⟩) (zlv tabOk rfl (e rfl rfl) rfl rfl rfl) rfl rfl ?_
  refine sd (.t ⟨false, [.sr 4 1 0 ((a0.Need.map encS).length) ((a0.Need.map encS).length)]⟩) (zcall 4 (.t ⟨false, [.sr 4 1 0 ((a0.Need.map encS).length) ((a0.Need.map encS).length)]⟩) [(4, .row 1 (a0.Need.map encS) true 1 0)] rfl (tr_clone_encS a0.Need (Nat.le_trans h0.Need.1 (by decide))) (ar (e rfl rfl) (.d .nil) .nil) rfl rfl rfl) rfl rfl rfl rfl ?_
  refine sy (.t ⟨false, [.vp 0 7]⟩) (zfa tabOk rfl rfl rfl (e rfl rfl) rfl rfl) rfl rfl ?_
  refine sw 0 (.var [.d (dS (a0.Ask.Name)), .d (dI (a0.Ask.Typ)), .d (dS (a0.Q.Name)), .d (dI (a0.Q.Typ)), .sr 2 1 0 ((a0.Links.map Record.cells).length) ((a0.Links.map Record.cells).length), .d (dS (a0.Apex)), .sr 3 1 0 ((a0.Servers.map encI).length) ((a0.Servers.map encI).length), .sr 4 1 0 ((a0.Need.map encS).length) ((a0.Need.map encS).length), .d (dI (a0.Down)), .d (dI (a0.Left)), .d (dI (a0.Pc)), .d (dI (a0.X.Id)), .d (dI (a0.X.Addr)), .d (dI (a0.X.Try)), .d (dI (a0.X.Due))]) (zst tabOk rfl (e rfl rfl) rfl (e rfl rfl) rfl rfl rfl) rfl rfl ?_
  refine s_end ?_
  refine v_seq ?_
  refine v_reg ?_
  refine sy (.t ⟨true, [.d (dS (a0.Ask.Name)), .d (dI (a0.Ask.Typ)), .d (dS (a0.Q.Name)), .d (dI (a0.Q.Typ)), .sr 2 1 0 ((a0.Links.map Record.cells).length) ((a0.Links.map Record.cells).length), .d (dS (a0.Apex)), .sr 3 1 0 ((a0.Servers.map encI).length) ((a0.Servers.map encI).length), .sr 4 1 0 ((a0.Need.map encS).length) ((a0.Need.map encS).length), .d (dI (a0.Down)), .d (dI (a0.Left)), .d (dI (a0.Pc)), .d (dI (a0.X.Id)), .d (dI (a0.X.Addr)), .d (dI (a0.X.Try)), .d (dI (a0.X.Due))]⟩) (zlv tabOk rfl (e rfl rfl) rfl rfl rfl) rfl rfl ?_
  refine sw 1 (.var [.d (dS (a0.Ask.Name)), .d (dI (a0.Ask.Typ)), .d (dS (a0.Q.Name)), .d (dI (a0.Q.Typ)), .sr 2 1 0 ((a0.Links.map Record.cells).length) ((a0.Links.map Record.cells).length), .d (dS (a0.Apex)), .sr 3 1 0 ((a0.Servers.map encI).length) ((a0.Servers.map encI).length), .sr 4 1 0 ((a0.Need.map encS).length) ((a0.Need.map encS).length), .d (dI (a0.Down)), .d (dI (a0.Left)), .d (dI (a0.Pc)), .d (dI (a0.X.Id)), .d (dI (a0.X.Addr)), .d (dI (a0.X.Try)), .d (dI (a0.X.Due))]) (zst tabOk rfl (e rfl rfl) rfl (e rfl rfl) rfl rfl rfl) rfl rfl ?_
  refine s_end ?_
  refine v_ret ?_
  subst hr
  exact post_ret (rv (.cell (eg rfl rfl) rfl rfl (.inl rfl) rfl) rfl (.lf (.lf (.lf (.lf (.sr rfl le_all take_all (.lf (.sr rfl le_all take_all (.sr rfl le_all take_all (.lf (.lf (.lf (.lf (.lf (.lf (.lf .nil))))))))))))))) rfl .nil) (.ro .nil) rfl
def n_spec_FrameNew (a0 : Quest) : Frame := (⟨a0, a0, [], ⟨#[]⟩, [], [], 0, 0, 1, ⟨0, 0, 0, 0⟩⟩ : Frame)
set_option maxRecDepth 20000 in
theorem tr_n_spec_FrameNew (a0 : Quest) (h0 : Quest.Fit a0) : Tr Try.prog 28 [.ro ⟨true, [dS (a0.Name), dI (a0.Typ)]⟩] [⟨true, [dS (a0.Name), dI (a0.Typ), dS (a0.Name), dI (a0.Typ), .lf (.slice none 0 0), dS (⟨#[]⟩), .lf (.slice none 0 0), .lf (.slice none 0 0), dI (0), dI (0), dI (1), dI (0), dI (0), dI (0), dI (0)]⟩] := by
  obtain ⟨r, hr⟩ : ∃ r, n_spec_FrameNew a0 = r := ⟨_, rfl⟩
  rw [n_spec_FrameNew] at hr
  refine tr_go tabOk Try.func28 rfl rfl rfl rfl rfl (ov := [(0, .t ⟨true, [.d (dS (a0.Name)), .d (dI (a0.Typ))]⟩)]) (hv := []) rfl rfl ?_
  refine v_seq ?_
  refine v_reg ?_
  refine sr 0 (.t ⟨false, [.vp 0 0]⟩) (.var [.d (dS (a0.Name)), .d (dI (a0.Typ))]) (zbx rfl (e rfl rfl) rfl rfl rfl) rfl rfl ?_
  refine sr 1 (.t ⟨false, [.vp 1 0]⟩) (.var [.d (dS (⟨#[]⟩)), .d (dI (0)), .d (dS (⟨#[]⟩)), .d (dI (0)), .nl 6, .d (dS (⟨#[]⟩)), .nl 1, .nl 1, .d (dI (0)), .d (dI (0)), .d (dI (0)), .d (dI (0)), .d (dI (0)), .d (dI (0)), .d (dI (0))]) (zal tabOk rfl rfl rfl rfl) rfl rfl ?_
  refine s_end ?_
  refine v_seq ?_
  refine v_reg ?_
  refine sy (.t ⟨true, [.d (dS (a0.Name)), .d (dI (a0.Typ))]⟩) (zlv tabOk rfl (e rfl rfl) rfl rfl rfl) rfl rfl ?_
  refine sy (.t ⟨true, [.d (dS (a0.Name)), .d (dI (a0.Typ))]⟩) (zlv tabOk rfl (e rfl rfl) rfl rfl rfl) rfl rfl ?_
  refine sy (.t ⟨true, [.d (dS (a0.Name)), .d (dI (a0.Typ)), .d (dS (a0.Name)), .d (dI (a0.Typ)), .nl 6, .d (dS (⟨#[]⟩)), .nl 1, .nl 1, .d (dI (0)), .d (dI (0)), .d (dI (1)), .d (dI (0)), .d (dI (0)), .d (dI (0)), .d (dI (0))]⟩) (zbd tabOk rfl rfl (pv rfl (e rfl rfl) rfl rfl (pv rfl (e rfl rfl) rfl rfl (pv rfl (ec rfl) rfl rfl .nil)))) rfl rfl ?_
  refine sw 1 (.var [.d (dS (a0.Name)), .d (dI (a0.Typ)), .d (dS (a0.Name)), .d (dI (a0.Typ)), .nl 6, .d (dS (⟨#[]⟩)), .nl 1, .nl 1, .d (dI (0)), .d (dI (0)), .d (dI (1)), .d (dI (0)), .d (dI (0)), .d (dI (0)), .d (dI (0))]) (zst tabOk rfl (e rfl rfl) rfl (e rfl rfl) rfl rfl rfl) rfl rfl ?_
  refine s_end ?_
  refine v_ret ?_
  subst hr
  exact post_ret (rv (.cell (eg rfl rfl) rfl rfl (.inl rfl) rfl) rfl (.lf (.lf (.lf (.lf (.nlx (.lf (.nlx (.nlx (.lf (.lf (.lf (.lf (.lf (.lf (.lf .nil))))))))))))))) rfl .nil) (.ro .nil) rfl
def n_impl_FrameNew (a0 : Quest) : Frame := (⟨a0, a0, [], ⟨#[]⟩, [], [], 0, 0, 1, ⟨0, 0, 0, 0⟩⟩ : Frame)
set_option maxRecDepth 20000 in
theorem tr_n_impl_FrameNew (a0 : Quest) (h0 : Quest.Fit a0) : Tr Try.prog 31 [.ro ⟨true, [dS (a0.Name), dI (a0.Typ)]⟩] [⟨true, [dS (a0.Name), dI (a0.Typ), dS (a0.Name), dI (a0.Typ), .lf (.slice none 0 0), dS (⟨#[]⟩), .lf (.slice none 0 0), .lf (.slice none 0 0), dI (0), dI (0), dI (1), dI (0), dI (0), dI (0), dI (0)]⟩] := by
  obtain ⟨r, hr⟩ : ∃ r, n_impl_FrameNew a0 = r := ⟨_, rfl⟩
  rw [n_impl_FrameNew] at hr
  refine tr_go tabOk Try.func31 rfl rfl rfl rfl rfl (ov := [(0, .t ⟨true, [.d (dS (a0.Name)), .d (dI (a0.Typ))]⟩)]) (hv := []) rfl rfl ?_
  refine v_seq ?_
  refine v_reg ?_
  refine sr 0 (.t ⟨false, [.vp 0 0]⟩) (.var [.d (dS (a0.Name)), .d (dI (a0.Typ))]) (zbx rfl (e rfl rfl) rfl rfl rfl) rfl rfl ?_
  refine sr 1 (.t ⟨false, [.vp 1 0]⟩) (.var [.d (dS (⟨#[]⟩)), .d (dI (0)), .d (dS (⟨#[]⟩)), .d (dI (0)), .nl 6, .d (dS (⟨#[]⟩)), .nl 1, .nl 1, .d (dI (0)), .d (dI (0)), .d (dI (0)), .d (dI (0)), .d (dI (0)), .d (dI (0)), .d (dI (0))]) (zal tabOk rfl rfl rfl rfl) rfl rfl ?_
  refine s_end ?_
  refine v_seq ?_
  refine v_reg ?_
  refine sy (.t ⟨true, [.d (dS (a0.Name)), .d (dI (a0.Typ))]⟩) (zlv tabOk rfl (e rfl rfl) rfl rfl rfl) rfl rfl ?_
  refine sy (.t ⟨true, [.d (dS (a0.Name)), .d (dI (a0.Typ))]⟩) (zlv tabOk rfl (e rfl rfl) rfl rfl rfl) rfl rfl ?_
  refine sy (.t ⟨true, [.d (dS (a0.Name)), .d (dI (a0.Typ)), .d (dS (a0.Name)), .d (dI (a0.Typ)), .nl 6, .d (dS (⟨#[]⟩)), .nl 1, .nl 1, .d (dI (0)), .d (dI (0)), .d (dI (1)), .d (dI (0)), .d (dI (0)), .d (dI (0)), .d (dI (0))]⟩) (zbd tabOk rfl rfl (pv rfl (e rfl rfl) rfl rfl (pv rfl (e rfl rfl) rfl rfl (pv rfl (ec rfl) rfl rfl .nil)))) rfl rfl ?_
  refine sw 1 (.var [.d (dS (a0.Name)), .d (dI (a0.Typ)), .d (dS (a0.Name)), .d (dI (a0.Typ)), .nl 6, .d (dS (⟨#[]⟩)), .nl 1, .nl 1, .d (dI (0)), .d (dI (0)), .d (dI (1)), .d (dI (0)), .d (dI (0)), .d (dI (0)), .d (dI (0))]) (zst tabOk rfl (e rfl rfl) rfl (e rfl rfl) rfl rfl rfl) rfl rfl ?_
  refine s_end ?_
  refine v_ret ?_
  subst hr
  exact post_ret (rv (.cell (eg rfl rfl) rfl rfl (.inl rfl) rfl) rfl (.lf (.lf (.lf (.lf (.nlx (.lf (.nlx (.nlx (.lf (.lf (.lf (.lf (.lf (.lf (.lf .nil))))))))))))))) rfl .nil) (.ro .nil) rfl
def n_spec_l22CopyL1 (a0 : Job) : Nat → (List Frame) → Nat → Job
  | 0, _, _ => default
  | n + 1, l3, i => cond (decide (((i : Int)) < (((a0.Stack).length : Int)))) (atL (a0.Stack) (i) (fun x1 => n_spec_l22CopyL1 a0 n (l3 ++ ([x1] : List Frame)) (i + 1))) ((⟨a0.No, a0.Client, a0.Ask, a0.Sent, a0.Fetched, l3⟩ : Job))
def n_spec_l22Copy (a0 : Job) : Job := n_spec_l22CopyL1 a0 ((a0.Stack).length + 1) (([] : List Frame)) 0
set_option maxRecDepth 20000 in
theorem tr_n_spec_l22Copy (a0 : Job) (h0 : Job.Fit a0) : Tr Try.prog 27 [.ro ⟨true, [dI (a0.No), dI (a0.Client), dS (a0.Ask.Name), dI (a0.Ask.Typ), dI (a0.Sent), dI (a0.Fetched), .sl 15 (a0.Stack.map Frame.cells)]⟩] [⟨true, [dI (((n_spec_l22Copy a0)).No), dI (((n_spec_l22Copy a0)).Client), dS ((((n_spec_l22Copy a0)).Ask).Name), dI ((((n_spec_l22Copy a0)).Ask).Typ), dI (((n_spec_l22Copy a0)).Sent), dI (((n_spec_l22Copy a0)).Fetched), .sl 15 ((((n_spec_l22Copy a0)).Stack).map Frame.cells)]⟩] := by
  obtain ⟨r, hr⟩ : ∃ r, n_spec_l22Copy a0 = r := ⟨_, rfl⟩
  rw [hr]
  rw [n_spec_l22Copy] at hr
  refine tr_go tabOk Try.func27 rfl rfl rfl rfl rfl (ov := [(0, .t ⟨true, [.d (dI (a0.No)), .d (dI (a0.Client)), .d (dS (a0.Ask.Name)), .d (dI (a0.Ask.Typ)), .d (dI (a0.Sent)), .d (dI (a0.Fetched)), .d (.sl 15 (a0.Stack.map Frame.cells))]⟩)]) (hv := []) rfl rfl ?_
  refine v_seq ?_
  refine v_reg ?_
  refine sr 0 (.t ⟨false, [.vp 0 0]⟩) (.var [.d (dI (a0.No)), .d (dI (a0.Client)), .d (dS (a0.Ask.Name)), .d (dI (a0.Ask.Typ)), .d (dI (a0.Sent)), .d (dI (a0.Fetched)), .d (.sl 15 (a0.Stack.map Frame.cells))]) (zbx rfl (e rfl rfl) rfl rfl rfl) rfl rfl ?_
  refine sr 1 (.t ⟨false, [.vp 1 0]⟩) (.var [.d (dI (0)), .d (dI (0)), .d (dS (⟨#[]⟩)), .d (dI (0)), .d (dI (0)), .d (dI (0)), .nl 15]) (zal tabOk rfl rfl rfl rfl) rfl rfl ?_
  refine s_end ?_
  refine v_seq ?_
  refine v_reg ?_
  refine sy (.t ⟨true, [.d (dI (a0.No)), .d (dI (a0.Client)), .d (dS (a0.Ask.Name)), .d (dI (a0.Ask.Typ)), .d (dI (a0.Sent)), .d (dI (a0.Fetched)), .d (.sl 15 (a0.Stack.map Frame.cells))]⟩) (zlv tabOk rfl (e rfl rfl) rfl rfl rfl) rfl rfl ?_
  refine sr 2 (.t ⟨false, [.vp 2 0]⟩) (.var [.d (dI (0)), .d (dI (0)), .d (dS (⟨#[]⟩)), .d (dI (0)), .d (dI (0)), .d (dI (0)), .nl 15]) (zal tabOk rfl rfl rfl rfl) rfl rfl ?_
  refine sw 2 (.var [.d (dI (a0.No)), .d (dI (a0.Client)), .d (dS (a0.Ask.Name)), .d (dI (a0.Ask.Typ)), .d (dI (a0.Sent)), .d (dI (a0.Fetched)), .d (.sl 15 (a0.Stack.map Frame.cells))]) (zst tabOk rfl (e rfl rfl) rfl (e rfl rfl) rfl rfl rfl) rfl rfl ?_
  refine s_end ?_
  refine v_seq ?_
  refine v_reg ?_
  refine sbk 3 (.t ⟨false, [.sr 3 1 0 ((([] : List Frame).map Frame.cells).length) ((([] : List Frame).map Frame.cells).length)]⟩) (.row 15 (([] : List Frame).map Frame.cells) true 1 0) (zbu tabOk rfl rfl rfl rfl .nil rfl rfl) rfl rfl ?_
  refine sy (.t ⟨false, [.vp 2 6]⟩) (zfa tabOk rfl rfl rfl (e rfl rfl) rfl rfl) rfl rfl ?_
  refine sw 2 (.var [.d (dI (a0.No)), .d (dI (a0.Client)), .d (dS (a0.Ask.Name)), .d (dI (a0.Ask.Typ)), .d (dI (a0.Sent)), .d (dI (a0.Fetched)), .sr 3 1 0 ((([] : List Frame).map Frame.cells).length) ((([] : List Frame).map Frame.cells).length)]) (zst tabOk rfl (e rfl rfl) rfl (e rfl rfl) rfl rfl rfl) rfl rfl ?_
  refine s_end ?_
  refine v_seq ?_
  refine v_seq ?_
  refine v_reg ?_
  refine sy _ (zas rfl (ec rfl)) rfl rfl ?_
  refine s_end ?_
  refine v_block ?_
  refine v_lp (fun (q : Nat × List Frame × Nat × Nat × Nat) => [(1, .t ⟨false, [.vp 0 0]⟩), (2, .t ⟨false, [.vp 1 0]⟩), (3, .t ⟨false, [.vp 2 0]⟩), (4, .t ⟨false, [.d (dI (q.2.2.1 : Int))]⟩)]) (fun q => [(0, .var [.d (dI (a0.No)), .d (dI (a0.Client)), .d (dS (a0.Ask.Name)), .d (dI (a0.Ask.Typ)), .d (dI (a0.Sent)), .d (dI (a0.Fetched)), .d (.sl 15 (a0.Stack.map Frame.cells))]), (1, .var [.d (dI (0)), .d (dI (0)), .d (dS (⟨#[]⟩)), .d (dI (0)), .d (dI (0)), .d (dI (0)), .nl 15]), (2, .var [.d (dI (a0.No)), .d (dI (a0.Client)), .d (dS (a0.Ask.Name)), .d (dI (a0.Ask.Typ)), .d (dI (a0.Sent)), .d (dI (a0.Fetched)), .sr 3 q.2.2.2.1 0 (((q.2.1).map Frame.cells).length) (((q.2.1).map Frame.cells).length)]), (3, .row 15 ((q.2.1).map Frame.cells) true q.2.2.2.1 q.2.2.2.2)]) (fun q => n_spec_l22CopyL1 a0 q.1 q.2.1 q.2.2.1 = r ∧ q.2.2.1 ≤ (a0.Stack).length ∧ q.2.2.1 + q.1 = (a0.Stack).length + 1 ∧ q.2.1.length ≤ q.2.2.1) (fun q => q.1) ((a0.Stack).length + 1, (([] : List Frame) : List Frame), (0 : Nat), 1, 0) ⟨hr, by (try simp only [List.length_nil]); omega, by (try simp only [List.length_nil]); omega, by (try simp only [List.length_nil]); omega⟩ ⟨rfl, rfl, rfl, rfl, trivial⟩ ⟨rfl, rfl, rfl, rfl, trivial⟩ rfl (fun q hq => ?_)
  obtain ⟨n, l3, i, g3, w3⟩ := q
  obtain ⟨hr, hi1x0, hi1x1, hi1x2⟩ := hq
  dsimp only at hr hi1x0 hi1x1 hi1x2
  show VWp _ _ _ (mk [(1, .t ⟨false, [.vp 0 0]⟩), (2, .t ⟨false, [.vp 1 0]⟩), (3, .t ⟨false, [.vp 2 0]⟩), (4, .t ⟨false, [.d (dI (i : Int))]⟩)] _ [(0, .var [.d (dI (a0.No)), .d (dI (a0.Client)), .d (dS (a0.Ask.Name)), .d (dI (a0.Ask.Typ)), .d (dI (a0.Sent)), .d (dI (a0.Fetched)), .d (.sl 15 (a0.Stack.map Frame.cells))]), (1, .var [.d (dI (0)), .d (dI (0)), .d (dS (⟨#[]⟩)), .d (dI (0)), .d (dI (0)), .d (dI (0)), .nl 15]), (2, .var [.d (dI (a0.No)), .d (dI (a0.Client)), .d (dS (a0.Ask.Name)), .d (dI (a0.Ask.Typ)), .d (dI (a0.Sent)), .d (dI (a0.Fetched)), .sr 3 g3 0 (((l3).map Frame.cells).length) (((l3).map Frame.cells).length)]), (3, .row 15 ((l3).map Frame.cells) true g3 w3)])
  rcases n with _ | n
  · exfalso; omega
  rw [n_spec_l22CopyL1] at hr
  refine v_seq ?_
  refine v_seq ?_
  refine v_reg ?_
  refine sy _ (zmv rfl (e rfl rfl)) rfl rfl ?_
  refine sy (.t ⟨false, [.vp 0 6]⟩) (zfa tabOk rfl rfl rfl (e rfl rfl) rfl rfl) rfl rfl ?_
  refine sy (.t ⟨false, [.d (.sl 15 (a0.Stack.map Frame.cells))]⟩) (zlv tabOk rfl (e rfl rfl) rfl rfl rfl) rfl rfl ?_
  have hB1 := (h0.Stack).1
  refine sy (.t ⟨false, [.d (dI ((a0.Stack).length : Int))]⟩) (zlm tabOk rfl rfl (e rfl rfl) .d) rfl rfl ?_
  refine sy (.t ⟨false, [.d (dB (decide (((i : Int)) < (((a0.Stack).length : Int)))))]⟩) (y_bin rfl (e rfl rfl) (e rfl rfl) (fun _ => b_lss) rfl) rfl rfl ?_
  refine s_end ?_
  refine v_cond (e rfl rfl) (fun hb1 => ?_) fun hb1 => ?_
  · replace hr := bf_t hb1 hr
    have hb1p := dec_t hb1
    refine v_skip ?_
    refine v_seq ?_
    refine v_block ?_
    refine v_seq ?_
    refine v_reg ?_
    refine sy (.t ⟨false, [.vp 0 6]⟩) (zfa tabOk rfl rfl rfl (e rfl rfl) rfl rfl) rfl rfl ?_
    refine sy (.t ⟨false, [.d (.sl 15 (a0.Stack.map Frame.cells))]⟩) (zlv tabOk rfl (e rfl rfl) rfl rfl rfl) rfl rfl ?_
    refine sy _ (zmv rfl (e rfl rfl)) rfl rfl ?_
    obtain ⟨x1, hx1⟩ : ∃ x, (a0.Stack)[i]? = some x := some_of_lt (by omega)
    replace hr := at_step hx1 hr
    have hfx1 := h0.Stack.2 _ (List.mem_of_getElem? hx1)
    refine sy (.t ⟨false, [.fe 15 (a0.Stack.map Frame.cells) i 0]⟩) (zix tabOk rfl rfl rfl (e rfl rfl) (e rfl rfl) (ltm_of_some hx1)) rfl rfl ?_
    refine sy (.t ⟨true, [.d (dS (x1.Ask.Name)), .d (dI (x1.Ask.Typ)), .d (dS (x1.Q.Name)), .d (dI (x1.Q.Typ)), .d (.sl 6 (x1.Links.map Record.cells)), .d (dS (x1.Apex)), .d (.sl 1 (x1.Servers.map encI)), .d (.sl 1 (x1.Need.map encS)), .d (dI (x1.Down)), .d (dI (x1.Left)), .d (dI (x1.Pc)), .d (dI (x1.X.Id)), .d (dI (x1.X.Addr)), .d (dI (x1.X.Try)), .d (dI (x1.X.Due))]⟩) (zle tabOk rfl (e rfl rfl) (getm hx1) rfl rfl) rfl rfl ?_
    refine sd (.t ⟨true, [.d (dS (x1.Ask.Name)), .d (dI (x1.Ask.Typ)), .d (dS (x1.Q.Name)), .d (dI (x1.Q.Typ)), .sr 14 1 0 ((x1.Links.map Record.cells).length) ((x1.Links.map Record.cells).length), .d (dS (x1.Apex)), .sr 15 1 0 ((x1.Servers.map encI).length) ((x1.Servers.map encI).length), .sr 16 1 0 ((x1.Need.map encS).length) ((x1.Need.map encS).length), .d (dI (x1.Down)), .d (dI (x1.Left)), .d (dI (x1.Pc)), .d (dI (x1.X.Id)), .d (dI (x1.X.Addr)), .d (dI (x1.X.Try)), .d (dI (x1.X.Due))]⟩) (zcall 14 (.t ⟨true, [.d (dS (x1.Ask.Name)), .d (dI (x1.Ask.Typ)), .d (dS (x1.Q.Name)), .d (dI (x1.Q.Typ)), .sr 14 1 0 ((x1.Links.map Record.cells).length) ((x1.Links.map Record.cells).length), .d (dS (x1.Apex)), .sr 15 1 0 ((x1.Servers.map encI).length) ((x1.Servers.map encI).length), .sr 16 1 0 ((x1.Need.map encS).length) ((x1.Need.map encS).length), .d (dI (x1.Down)), .d (dI (x1.Left)), .d (dI (x1.Pc)), .d (dI (x1.X.Id)), .d (dI (x1.X.Addr)), .d (dI (x1.X.Try)), .d (dI (x1.X.Due))]⟩) [(14, .row 6 (x1.Links.map Record.cells) true 1 0), (15, .row 1 (x1.Servers.map encI) true 1 0), (16, .row 1 (x1.Need.map encS) true 1 0)] rfl (tr_n_spec_l21Copy x1 hfx1) (ar (e rfl rfl) (.d (.d (.d (.d (.d (.d (.d (.d (.d (.d (.d (.d (.d (.d (.d .nil))))))))))))))) .nil) rfl rfl rfl) rfl rfl rfl rfl ?_
    refine sr 17 (.t ⟨false, [.vp 17 0]⟩) (.var [.d (dS (⟨#[]⟩)), .d (dI (0)), .d (dS (⟨#[]⟩)), .d (dI (0)), .nl 6, .d (dS (⟨#[]⟩)), .nl 1, .nl 1, .d (dI (0)), .d (dI (0)), .d (dI (0)), .d (dI (0)), .d (dI (0)), .d (dI (0)), .d (dI (0))]) (zal tabOk rfl rfl rfl rfl) rfl rfl ?_
    refine sw 17 (.var [.d (dS (x1.Ask.Name)), .d (dI (x1.Ask.Typ)), .d (dS (x1.Q.Name)), .d (dI (x1.Q.Typ)), .sr 14 1 0 ((x1.Links.map Record.cells).length) ((x1.Links.map Record.cells).length), .d (dS (x1.Apex)), .sr 15 1 0 ((x1.Servers.map encI).length) ((x1.Servers.map encI).length), .sr 16 1 0 ((x1.Need.map encS).length) ((x1.Need.map encS).length), .d (dI (x1.Down)), .d (dI (x1.Left)), .d (dI (x1.Pc)), .d (dI (x1.X.Id)), .d (dI (x1.X.Addr)), .d (dI (x1.X.Try)), .d (dI (x1.X.Due))]) (zst tabOk rfl (e rfl rfl) rfl (e rfl rfl) rfl rfl rfl) rfl rfl ?_
    refine s_end ?_
    refine v_reg ?_
    refine sy (.t ⟨false, [.vp 2 6]⟩) (zfa tabOk rfl rfl rfl (e rfl rfl) rfl rfl) rfl rfl ?_
    refine sy (.t ⟨false, [.sr 3 g3 0 (((l3).map Frame.cells).length) (((l3).map Frame.cells).length)]⟩) (zlv tabOk rfl (e rfl rfl) rfl rfl rfl) rfl rfl ?_
    refine sy (.t ⟨true, [.d (dS (x1.Ask.Name)), .d (dI (x1.Ask.Typ)), .d (dS (x1.Q.Name)), .d (dI (x1.Q.Typ)), .sr 14 1 0 ((x1.Links.map Record.cells).length) ((x1.Links.map Record.cells).length), .d (dS (x1.Apex)), .sr 15 1 0 ((x1.Servers.map encI).length) ((x1.Servers.map encI).length), .sr 16 1 0 ((x1.Need.map encS).length) ((x1.Need.map encS).length), .d (dI (x1.Down)), .d (dI (x1.Left)), .d (dI (x1.Pc)), .d (dI (x1.X.Id)), .d (dI (x1.X.Addr)), .d (dI (x1.X.Try)), .d (dI (x1.X.Due))]⟩) (zlv tabOk rfl (e rfl rfl) rfl rfl rfl) rfl rfl ?_
    refine sbk 18 (.t ⟨false, [.sr 18 1 0 ((([x1] : List Frame).map Frame.cells).length) ((([x1] : List Frame).map Frame.cells).length)]⟩) (.row 15 (([x1] : List Frame).map Frame.cells) true 1 0) (zbu tabOk rfl rfl rfl rfl (pd (e rfl rfl) rfl (.lf (.lf (.lf (.lf (.sr rfl le_all take_all (.lf (.sr rfl le_all take_all (.sr rfl le_all take_all (.lf (.lf (.lf (.lf (.lf (.lf (.lf .nil))))))))))))))) rfl .nil) rfl rfl) rfl rfl ?_
    refine sak 3 (.t ⟨false, [.sr 3 (g3 + 1) 0 (((l3 ++ ([x1] : List Frame)).map Frame.cells).length) (((l3 ++ ([x1] : List Frame)).map Frame.cells).length)]⟩) (.row 15 ((l3 ++ ([x1] : List Frame)).map Frame.cells) true (g3 + 1) (w3 + 1)) (zapk tabOk rfl rfl rfl rfl (e rfl rfl) rfl rfl (e rfl rfl) (.take rfl le_all take_all) rfl (ap_big (by simp only [List.length_map, List.length_cons, List.length_nil]; omega) rfl) map_app len_app) rfl rfl ?_
    refine sy (.t ⟨false, [.vp 2 6]⟩) (zfa tabOk rfl rfl rfl (e rfl rfl) rfl rfl) rfl rfl ?_
    refine sw 2 (.var [.d (dI (a0.No)), .d (dI (a0.Client)), .d (dS (a0.Ask.Name)), .d (dI (a0.Ask.Typ)), .d (dI (a0.Sent)), .d (dI (a0.Fetched)), .sr 3 (g3 + 1) 0 (((l3 ++ ([x1] : List Frame)).map Frame.cells).length) (((l3 ++ ([x1] : List Frame)).map Frame.cells).length)]) (zst tabOk rfl (e rfl rfl) rfl (e rfl rfl) rfl rfl rfl) rfl rfl ?_
    refine s_end ?_
    refine blk_norm ?_
    refine v_reg ?_
    refine sy _ (zmv rfl (e rfl rfl)) rfl rfl ?_
    refine sy (.t ⟨false, [.d (dI (i + 1 : Int))]⟩) (y_bin rfl (e rfl rfl) (ec rfl) (fun _ => b_addn (by omega) (by omega)) rfl) rfl rfl ?_
    refine sy _ (zas rfl (e rfl rfl)) rfl rfl ?_
    refine s_end ?_
    exact lp_next (n, l3 ++ ([x1] : List Frame), i + 1, g3 + 1, w3 + 1) ⟨hr, by (try simp only [List.length_append, List.length_cons, List.length_nil]); omega, by (try simp only [List.length_append, List.length_cons, List.length_nil]); omega, by (try simp only [List.length_append, List.length_cons, List.length_nil]); omega⟩ (Nat.lt_succ_self _) ⟨rfl, rfl, rfl, rfl, trivial⟩ ⟨rfl, rfl, rfl, rfl, trivial⟩ rfl
  replace hr := bf_f hb1 hr
  have hb1p := dec_f hb1
  refine v_exit ?_
  refine then_exit ?_
  refine loop_exit ?_
  refine blk_hit ?_
  refine v_seq ?_
  refine v_reg ?_
  refine sy (.t ⟨true, [.d (dI (a0.No)), .d (dI (a0.Client)), .d (dS (a0.Ask.Name)), .d (dI (a0.Ask.Typ)), .d (dI (a0.Sent)), .d (dI (a0.Fetched)), .sr 3 g3 0 (((l3).map Frame.cells).length) (((l3).map Frame.cells).length)]⟩) (zlv tabOk rfl (e rfl rfl) rfl rfl rfl) rfl rfl ?_
  refine sw 1 (.var [.d (dI (a0.No)), .d (dI (a0.Client)), .d (dS (a0.Ask.Name)), .d (dI (a0.Ask.Typ)), .d (dI (a0.Sent)), .d (dI (a0.Fetched)), .sr 3 g3 0 (((l3).map Frame.cells).length) (((l3).map Frame.cells).length)]) (zst tabOk rfl (e rfl rfl) rfl (e rfl rfl) rfl rfl rfl) rfl rfl ?_
  refine s_end ?_
  refine v_ret ?_
  subst hr
  exact post_ret (rv (.cell (eg rfl rfl) rfl rfl (.inl rfl) rfl) rfl (.lf (.lf (.lf (.lf (.lf (.lf (.sr rfl le_all take_all .nil))))))) rfl .nil) (.ro .nil) rfl
theorem n_spec_l22Copy_eq (a : Job) : n_spec_l22Copy a = a := by
  have h := loop_iter (xs := a.Stack) (f := fun n s i => n_spec_l22CopyL1 a n s i) (step := fun x s _ k => k (s ++ [x])) (done := fun s => (⟨a.No, a.Client, a.Ask, a.Sent, a.Fetched, s⟩ : Job)) (fun n s i => rfl) (a.Stack.length + 1) 0 [] (Nat.zero_le _) (Nat.zero_add _)
  have h2 := iter_map (g := fun x => x) (done := fun s => (⟨a.No, a.Client, a.Ask, a.Sent, a.Fetched, s⟩ : Job)) (l := a.Stack) (s := []) (i := 0)
  simp only [List.drop_zero, List.map_id_fun', id] at h h2
  exact h.trans h2
theorem tr2_n_spec_l22Copy (a0 : Job) (h0 : Job.Fit a0) : Tr Try.prog 27 [.ro ⟨true, [dI (a0.No), dI (a0.Client), dS (a0.Ask.Name), dI (a0.Ask.Typ), dI (a0.Sent), dI (a0.Fetched), .sl 15 (a0.Stack.map Frame.cells)]⟩] [⟨true, [dI (a0.No), dI (a0.Client), dS (a0.Ask.Name), dI (a0.Ask.Typ), dI (a0.Sent), dI (a0.Fetched), .sl 15 (a0.Stack.map Frame.cells)]⟩] := by
  have := tr_n_spec_l22Copy a0 h0
  rwa [n_spec_l22Copy_eq a0] at this
def n_impl_copyJobL1 (a0 : Job) : Nat → (List Frame) → Nat → Job
  | 0, _, _ => default
  | n + 1, l2, z10 => cond (decide (((z10 : Int)) < (((a0.Stack).length : Int)))) (atL (a0.Stack) (z10) (fun x1 => n_impl_copyJobL1 a0 n (l2 ++ ([x1] : List Frame)) (z10 + 1))) ((⟨a0.No, a0.Client, a0.Ask, a0.Sent, a0.Fetched, l2⟩ : Job))
def n_impl_copyJob (a0 : Job) : Job := n_impl_copyJobL1 a0 ((a0.Stack).length + 1) (([] : List Frame)) 0
set_option maxRecDepth 20000 in
theorem tr_n_impl_copyJob (a0 : Job) (h0 : Job.Fit a0) : Tr Try.prog 30 [.ro ⟨true, [dI (a0.No), dI (a0.Client), dS (a0.Ask.Name), dI (a0.Ask.Typ), dI (a0.Sent), dI (a0.Fetched), .sl 15 (a0.Stack.map Frame.cells)]⟩] [⟨true, [dI (((n_impl_copyJob a0)).No), dI (((n_impl_copyJob a0)).Client), dS ((((n_impl_copyJob a0)).Ask).Name), dI ((((n_impl_copyJob a0)).Ask).Typ), dI (((n_impl_copyJob a0)).Sent), dI (((n_impl_copyJob a0)).Fetched), .sl 15 ((((n_impl_copyJob a0)).Stack).map Frame.cells)]⟩] := by
  obtain ⟨r, hr⟩ : ∃ r, n_impl_copyJob a0 = r := ⟨_, rfl⟩
  rw [hr]
  rw [n_impl_copyJob] at hr
  refine tr_go tabOk Try.func30 rfl rfl rfl rfl rfl (ov := [(0, .t ⟨true, [.d (dI (a0.No)), .d (dI (a0.Client)), .d (dS (a0.Ask.Name)), .d (dI (a0.Ask.Typ)), .d (dI (a0.Sent)), .d (dI (a0.Fetched)), .d (.sl 15 (a0.Stack.map Frame.cells))]⟩)]) (hv := []) rfl rfl ?_
  refine v_seq ?_
  refine v_reg ?_
  refine sr 0 (.t ⟨false, [.vp 0 0]⟩) (.var [.d (dI (a0.No)), .d (dI (a0.Client)), .d (dS (a0.Ask.Name)), .d (dI (a0.Ask.Typ)), .d (dI (a0.Sent)), .d (dI (a0.Fetched)), .d (.sl 15 (a0.Stack.map Frame.cells))]) (zbx rfl (e rfl rfl) rfl rfl rfl) rfl rfl ?_
  refine sr 1 (.t ⟨false, [.vp 1 0]⟩) (.var [.d (dI (0)), .d (dI (0)), .d (dS (⟨#[]⟩)), .d (dI (0)), .d (dI (0)), .d (dI (0)), .nl 15]) (zal tabOk rfl rfl rfl rfl) rfl rfl ?_
  refine s_end ?_
  refine v_seq ?_
  refine v_reg ?_
  refine sbk 2 (.t ⟨false, [.sr 2 1 0 ((([] : List Frame).map Frame.cells).length) ((([] : List Frame).map Frame.cells).length)]⟩) (.row 15 (([] : List Frame).map Frame.cells) true 1 0) (zbu tabOk rfl rfl rfl rfl .nil rfl rfl) rfl rfl ?_
  refine sy _ (zas rfl (e rfl rfl)) rfl rfl ?_
  refine s_end ?_
  refine v_seq ?_
  refine v_seq ?_
  refine v_reg ?_
  refine sy (.t ⟨false, [.vp 0 6]⟩) (zfa tabOk rfl rfl rfl (e rfl rfl) rfl rfl) rfl rfl ?_
  refine sy (.t ⟨false, [.d (.sl 15 (a0.Stack.map Frame.cells))]⟩) (zlv tabOk rfl (e rfl rfl) rfl rfl rfl) rfl rfl ?_
  have hB1 := (h0.Stack).1
  refine sy (.t ⟨false, [.d (dI ((a0.Stack).length : Int))]⟩) (zlm tabOk rfl rfl (e rfl rfl) .d) rfl rfl ?_
  refine sy _ (zmv rfl (ec rfl)) rfl rfl ?_
  refine s_end ?_
  refine v_block ?_
  refine v_lp (fun (q : Nat × List Frame × Nat × Nat × Nat) => [(1, .t ⟨false, [.vp 0 0]⟩), (2, .t ⟨false, [.vp 1 0]⟩), (3, .t ⟨false, [.sr 2 q.2.2.2.1 0 (((q.2.1).map Frame.cells).length) (((q.2.1).map Frame.cells).length)]⟩), (8, .t ⟨false, [.d (.sl 15 (a0.Stack.map Frame.cells))]⟩), (9, .t ⟨false, [.d (dI ((a0.Stack).length : Int))]⟩), (10, .t ⟨false, [.d (dI (q.2.2.1 : Int))]⟩)]) (fun q => [(0, .var [.d (dI (a0.No)), .d (dI (a0.Client)), .d (dS (a0.Ask.Name)), .d (dI (a0.Ask.Typ)), .d (dI (a0.Sent)), .d (dI (a0.Fetched)), .d (.sl 15 (a0.Stack.map Frame.cells))]), (1, .var [.d (dI (0)), .d (dI (0)), .d (dS (⟨#[]⟩)), .d (dI (0)), .d (dI (0)), .d (dI (0)), .nl 15]), (2, .row 15 ((q.2.1).map Frame.cells) true q.2.2.2.1 q.2.2.2.2)]) (fun q => n_impl_copyJobL1 a0 q.1 q.2.1 q.2.2.1 = r ∧ q.2.2.1 ≤ (a0.Stack).length ∧ q.2.2.1 + q.1 = (a0.Stack).length + 1 ∧ q.2.1.length ≤ q.2.2.1) (fun q => q.1) ((a0.Stack).length + 1, (([] : List Frame) : List Frame), (0 : Nat), 1, 0) ⟨hr, by (try simp only [List.length_nil]); omega, by (try simp only [List.length_nil]); omega, by (try simp only [List.length_nil]); omega⟩ ⟨rfl, rfl, rfl, rfl, rfl, rfl, trivial⟩ ⟨rfl, rfl, rfl, trivial⟩ rfl (fun q hq => ?_)
  obtain ⟨n, l2, z10, g2, w2⟩ := q
  obtain ⟨hr, hi1x0, hi1x1, hi1x2⟩ := hq
  dsimp only at hr hi1x0 hi1x1 hi1x2
  show VWp _ _ _ (mk [(1, .t ⟨false, [.vp 0 0]⟩), (2, .t ⟨false, [.vp 1 0]⟩), (3, .t ⟨false, [.sr 2 g2 0 (((l2).map Frame.cells).length) (((l2).map Frame.cells).length)]⟩), (8, .t ⟨false, [.d (.sl 15 (a0.Stack.map Frame.cells))]⟩), (9, .t ⟨false, [.d (dI ((a0.Stack).length : Int))]⟩), (10, .t ⟨false, [.d (dI (z10 : Int))]⟩)] _ [(0, .var [.d (dI (a0.No)), .d (dI (a0.Client)), .d (dS (a0.Ask.Name)), .d (dI (a0.Ask.Typ)), .d (dI (a0.Sent)), .d (dI (a0.Fetched)), .d (.sl 15 (a0.Stack.map Frame.cells))]), (1, .var [.d (dI (0)), .d (dI (0)), .d (dS (⟨#[]⟩)), .d (dI (0)), .d (dI (0)), .d (dI (0)), .nl 15]), (2, .row 15 ((l2).map Frame.cells) true g2 w2)])
  rcases n with _ | n
  · exfalso; omega
  rw [n_impl_copyJobL1] at hr
  refine v_seq ?_
  refine v_reg ?_
  refine sy (.t ⟨false, [.d (dB (decide (((z10 : Int)) < (((a0.Stack).length : Int)))))]⟩) (y_bin rfl (e rfl rfl) (e rfl rfl) (fun _ => b_lss) rfl) rfl rfl ?_
  refine s_end ?_
  refine v_seq ?_
  refine v_cond (e rfl rfl) (fun hb1 => ?_) fun hb1 => ?_
  · replace hr := bf_t hb1 hr
    have hb1p := dec_t hb1
    refine v_skip ?_
    refine v_seq ?_
    refine v_block ?_
    refine v_seq ?_
    refine v_reg ?_
    obtain ⟨x1, hx1⟩ : ∃ x, (a0.Stack)[z10]? = some x := some_of_lt (by omega)
    replace hr := at_step hx1 hr
    have hfx1 := h0.Stack.2 _ (List.mem_of_getElem? hx1)
    refine sy (.t ⟨false, [.fe 15 (a0.Stack.map Frame.cells) z10 0]⟩) (zix tabOk rfl rfl rfl (e rfl rfl) (e rfl rfl) (ltm_of_some hx1)) rfl rfl ?_
    refine sy (.t ⟨true, [.d (dS (x1.Ask.Name)), .d (dI (x1.Ask.Typ)), .d (dS (x1.Q.Name)), .d (dI (x1.Q.Typ)), .d (.sl 6 (x1.Links.map Record.cells)), .d (dS (x1.Apex)), .d (.sl 1 (x1.Servers.map encI)), .d (.sl 1 (x1.Need.map encS)), .d (dI (x1.Down)), .d (dI (x1.Left)), .d (dI (x1.Pc)), .d (dI (x1.X.Id)), .d (dI (x1.X.Addr)), .d (dI (x1.X.Try)), .d (dI (x1.X.Due))]⟩) (zle tabOk rfl (e rfl rfl) (getm hx1) rfl rfl) rfl rfl ?_
    refine sr 13 (.t ⟨false, [.vp 13 0]⟩) (.var [.d (dS (⟨#[]⟩)), .d (dI (0)), .d (dS (⟨#[]⟩)), .d (dI (0)), .nl 6, .d (dS (⟨#[]⟩)), .nl 1, .nl 1, .d (dI (0)), .d (dI (0)), .d (dI (0)), .d (dI (0)), .d (dI (0)), .d (dI (0)), .d (dI (0))]) (zal tabOk rfl rfl rfl rfl) rfl rfl ?_
    refine sw 13 (.var [.d (dS (x1.Ask.Name)), .d (dI (x1.Ask.Typ)), .d (dS (x1.Q.Name)), .d (dI (x1.Q.Typ)), .d (.sl 6 (x1.Links.map Record.cells)), .d (dS (x1.Apex)), .d (.sl 1 (x1.Servers.map encI)), .d (.sl 1 (x1.Need.map encS)), .d (dI (x1.Down)), .d (dI (x1.Left)), .d (dI (x1.Pc)), .d (dI (x1.X.Id)), .d (dI (x1.X.Addr)), .d (dI (x1.X.Try)), .d (dI (x1.X.Due))]) (zst tabOk rfl (e rfl rfl) rfl (e rfl rfl) rfl rfl rfl) rfl rfl ?_
    refine s_end ?_
    refine v_reg ?_
    refine sy _ (zmv rfl (e rfl rfl)) rfl rfl ?_
    refine sy (.t ⟨true, [.d (dS (x1.Ask.Name)), .d (dI (x1.Ask.Typ)), .d (dS (x1.Q.Name)), .d (dI (x1.Q.Typ)), .d (.sl 6 (x1.Links.map Record.cells)), .d (dS (x1.Apex)), .d (.sl 1 (x1.Servers.map encI)), .d (.sl 1 (x1.Need.map encS)), .d (dI (x1.Down)), .d (dI (x1.Left)), .d (dI (x1.Pc)), .d (dI (x1.X.Id)), .d (dI (x1.X.Addr)), .d (dI (x1.X.Try)), .d (dI (x1.X.Due))]⟩) (zlv tabOk rfl (e rfl rfl) rfl rfl rfl) rfl rfl ?_
    refine sd (.t ⟨true, [.d (dS (x1.Ask.Name)), .d (dI (x1.Ask.Typ)), .d (dS (x1.Q.Name)), .d (dI (x1.Q.Typ)), .sr 14 1 0 ((x1.Links.map Record.cells).length) ((x1.Links.map Record.cells).length), .d (dS (x1.Apex)), .sr 15 1 0 ((x1.Servers.map encI).length) ((x1.Servers.map encI).length), .sr 16 1 0 ((x1.Need.map encS).length) ((x1.Need.map encS).length), .d (dI (x1.Down)), .d (dI (x1.Left)), .d (dI (x1.Pc)), .d (dI (x1.X.Id)), .d (dI (x1.X.Addr)), .d (dI (x1.X.Try)), .d (dI (x1.X.Due))]⟩) (zcall 14 (.t ⟨true, [.d (dS (x1.Ask.Name)), .d (dI (x1.Ask.Typ)), .d (dS (x1.Q.Name)), .d (dI (x1.Q.Typ)), .sr 14 1 0 ((x1.Links.map Record.cells).length) ((x1.Links.map Record.cells).length), .d (dS (x1.Apex)), .sr 15 1 0 ((x1.Servers.map encI).length) ((x1.Servers.map encI).length), .sr 16 1 0 ((x1.Need.map encS).length) ((x1.Need.map encS).length), .d (dI (x1.Down)), .d (dI (x1.Left)), .d (dI (x1.Pc)), .d (dI (x1.X.Id)), .d (dI (x1.X.Addr)), .d (dI (x1.X.Try)), .d (dI (x1.X.Due))]⟩) [(14, .row 6 (x1.Links.map Record.cells) true 1 0), (15, .row 1 (x1.Servers.map encI) true 1 0), (16, .row 1 (x1.Need.map encS) true 1 0)] rfl (tr_n_impl_copyFrame x1 hfx1) (ar (e rfl rfl) (.d (.d (.d (.d (.d (.d (.d (.d (.d (.d (.d (.d (.d (.d (.d .nil))))))))))))))) .nil) rfl rfl rfl) rfl rfl rfl rfl ?_
    refine sbk 17 (.t ⟨false, [.sr 17 1 0 ((([x1] : List Frame).map Frame.cells).length) ((([x1] : List Frame).map Frame.cells).length)]⟩) (.row 15 (([x1] : List Frame).map Frame.cells) true 1 0) (zbu tabOk rfl rfl rfl rfl (pd (e rfl rfl) rfl (.lf (.lf (.lf (.lf (.sr rfl le_all take_all (.lf (.sr rfl le_all take_all (.sr rfl le_all take_all (.lf (.lf (.lf (.lf (.lf (.lf (.lf .nil))))))))))))))) rfl .nil) rfl rfl) rfl rfl ?_
    refine sak 2 (.t ⟨false, [.sr 2 (g2 + 1) 0 (((l2 ++ ([x1] : List Frame)).map Frame.cells).length) (((l2 ++ ([x1] : List Frame)).map Frame.cells).length)]⟩) (.row 15 ((l2 ++ ([x1] : List Frame)).map Frame.cells) true (g2 + 1) (w2 + 1)) (zapk tabOk rfl rfl rfl rfl (e rfl rfl) rfl rfl (e rfl rfl) (.take rfl le_all take_all) rfl (ap_big (by simp only [List.length_map, List.length_cons, List.length_nil]; omega) rfl) map_app len_app) rfl rfl ?_
    refine sy _ (zas rfl (e rfl rfl)) rfl rfl ?_
    refine s_end ?_
    refine blk_norm ?_
    refine v_reg ?_
    refine sy (.t ⟨false, [.d (dI (z10 + 1 : Int))]⟩) (y_bin rfl (e rfl rfl) (ec rfl) (fun _ => b_addn (by omega) (by omega)) rfl) rfl rfl ?_
    refine sy _ (zmv rfl (e rfl rfl)) rfl rfl ?_
    refine s_end ?_
    exact lp_next (n, l2 ++ ([x1] : List Frame), z10 + 1, g2 + 1, w2 + 1) ⟨hr, by (try simp only [List.length_append, List.length_cons, List.length_nil]); omega, by (try simp only [List.length_append, List.length_cons, List.length_nil]); omega, by (try simp only [List.length_append, List.length_cons, List.length_nil]); omega⟩ (Nat.lt_succ_self _) ⟨rfl, rfl, rfl, rfl, rfl, rfl, trivial⟩ ⟨rfl, rfl, rfl, trivial⟩ rfl
  replace hr := bf_f hb1 hr
  have hb1p := dec_f hb1
  refine v_exit ?_
  refine then_exit ?_
  refine loop_exit ?_
  refine blk_hit ?_
  refine v_seq ?_
  refine v_reg ?_
  refine sy _ (zmv rfl (e rfl rfl)) rfl rfl ?_
  refine sy (.t ⟨false, [.vp 0 6]⟩) (zfa tabOk rfl rfl rfl (e rfl rfl) rfl rfl) rfl rfl ?_
  refine sw 0 (.var [.d (dI (a0.No)), .d (dI (a0.Client)), .d (dS (a0.Ask.Name)), .d (dI (a0.Ask.Typ)), .d (dI (a0.Sent)), .d (dI (a0.Fetched)), .sr 2 g2 0 (((l2).map Frame.cells).length) (((l2).map Frame.cells).length)]) (zst tabOk rfl (e rfl rfl) rfl (e rfl rfl) rfl rfl rfl) rfl rfl ?_
  refine s_end ?_
  refine v_seq ?_
  refine v_reg ?_
  refine sy (.t ⟨true, [.d (dI (a0.No)), .d (dI (a0.Client)), .d (dS (a0.Ask.Name)), .d (dI (a0.Ask.Typ)), .d (dI (a0.Sent)), .d (dI (a0.Fetched)), .sr 2 g2 0 (((l2).map Frame.cells).length) (((l2).map Frame.cells).length)]⟩) (zlv tabOk rfl (e rfl rfl) rfl rfl rfl) rfl rfl ?_
  refine sw 1 (.var [.d (dI (a0.No)), .d (dI (a0.Client)), .d (dS (a0.Ask.Name)), .d (dI (a0.Ask.Typ)), .d (dI (a0.Sent)), .d (dI (a0.Fetched)), .sr 2 g2 0 (((l2).map Frame.cells).length) (((l2).map Frame.cells).length)]) (zst tabOk rfl (e rfl rfl) rfl (e rfl rfl) rfl rfl rfl) rfl rfl ?_
  refine s_end ?_
  refine v_ret ?_
  subst hr
  exact post_ret (rv (.cell (eg rfl rfl) rfl rfl (.inl rfl) rfl) rfl (.lf (.lf (.lf (.lf (.lf (.lf (.sr rfl le_all take_all .nil))))))) rfl .nil) (.ro .nil) rfl
theorem n_impl_copyJob_eq (a : Job) : n_impl_copyJob a = a := by
  have h := loop_iter (xs := a.Stack) (f := fun n s i => n_impl_copyJobL1 a n s i) (step := fun x s _ k => k (s ++ [x])) (done := fun s => (⟨a.No, a.Client, a.Ask, a.Sent, a.Fetched, s⟩ : Job)) (fun n s i => rfl) (a.Stack.length + 1) 0 [] (Nat.zero_le _) (Nat.zero_add _)
  have h2 := iter_map (g := fun x => x) (done := fun s => (⟨a.No, a.Client, a.Ask, a.Sent, a.Fetched, s⟩ : Job)) (l := a.Stack) (s := []) (i := 0)
  simp only [List.drop_zero, List.map_id_fun', id] at h h2
  exact h.trans h2
theorem tr2_n_impl_copyJob (a0 : Job) (h0 : Job.Fit a0) : Tr Try.prog 30 [.ro ⟨true, [dI (a0.No), dI (a0.Client), dS (a0.Ask.Name), dI (a0.Ask.Typ), dI (a0.Sent), dI (a0.Fetched), .sl 15 (a0.Stack.map Frame.cells)]⟩] [⟨true, [dI (a0.No), dI (a0.Client), dS (a0.Ask.Name), dI (a0.Ask.Typ), dI (a0.Sent), dI (a0.Fetched), .sl 15 (a0.Stack.map Frame.cells)]⟩] := by
  have := tr_n_impl_copyJob a0 h0
  rwa [n_impl_copyJob_eq a0] at this
end Go.Proofs.Ytkcpbahcnlhmjaa.V
