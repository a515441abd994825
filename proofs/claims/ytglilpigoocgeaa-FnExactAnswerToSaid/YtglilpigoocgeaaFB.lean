/-
  Frames and jobs: copies.
-/
import Derived.Test.YtglilpigoocgeaaFA
import Derived.Test.YtglilpigoocgeaaN
namespace Go.Proofs.Ytglilpigoocgeaa.V
open Go
set_option linter.unusedVariables false
set_option linter.unusedSimpArgs false
def n_spec_l7Copy (a0 : List Record) : List Record := a0
set_option maxHeartbeats 4000000 in
set_option maxRecDepth 20000 in
theorem tr_n_spec_l7Copy (a0 : List Record) (h0 : fitL Record.Fit a0) : Tr Try.prog 97 [.ro ⟨false, [.sl 6 (a0.map Record.cells)]⟩] [⟨false, [.sl 6 (((n_spec_l7Copy a0)).map Record.cells)]⟩] := by
  obtain ⟨r, hr⟩ : ∃ r, n_spec_l7Copy a0 = r := ⟨_, rfl⟩
  rw [hr]
  rw [n_spec_l7Copy] at hr
  refine tr_go tabOk Try.func97 rfl rfl rfl rfl rfl (ov := [(0, .t ⟨false, [.d (.sl 6 (a0.map Record.cells))]⟩)]) (hv := []) rfl rfl ?_
  refine v_seq ?_
  refine v_reg ?_
  refine sy _ (zas rfl (en 6)) rfl rfl ?_
  refine s_end ?_
  refine v_seq ?_
  refine v_reg ?_
  refine sbk 0 (.t ⟨false, [.sr 0 1 0 ((([] : List Record).map Record.cells).length) ((([] : List Record).map Record.cells).length)]⟩) (.row 6 (([] : List Record).map Record.cells) true 1 0) (zbu tabOk rfl rfl rfl rfl .nil rfl rfl) rfl rfl ?_
  refine sy _ (zmv rfl (e rfl rfl)) rfl rfl ?_
  have hB2 := (h0).1
  refine sa 0 (.t ⟨false, [.sr 0 2 0 (((a0).map Record.cells).length) (((a0).map Record.cells).length)]⟩) (.row 6 ((a0).map Record.cells) true 2 1) (zap tabOk rfl rfl rfl rfl (e rfl rfl) rfl rfl (e rfl rfl) (.d (flat_Record _)) (ap_big (by simp only [List.length_map, List.length_cons, List.length_nil]; omega) rfl) rfl (by simp only [List.length_map, List.length_append, List.length_cons, List.length_nil]; omega)) rfl rfl ?_
  refine sy _ (zas rfl (e rfl rfl)) rfl rfl ?_
  refine s_end ?_
  refine v_ret ?_
  subst hr
  exact post_ret (rv (.tmp (eg rfl rfl)) rfl (.sr rfl le_all take_all .nil) rfl .nil) (.ro .nil) rfl
def n_spec_l21Copy (a0 : Frame) : Frame := a0
set_option maxHeartbeats 4000000 in
set_option maxRecDepth 20000 in
theorem tr_n_spec_l21Copy (a0 : Frame) (h0 : Frame.Fit a0) : Tr Try.prog 90 [.ro ⟨true, [dS (a0.Ask.Name), dI (a0.Ask.Typ), dS (a0.Q.Name), dI (a0.Q.Typ), .sl 6 (a0.Links.map Record.cells), dS (a0.Apex), .sl 1 (a0.Servers.map encI), .sl 1 (a0.Need.map encS), dI (a0.Down), dI (a0.Left), dI (a0.Pc), dI (a0.X.Id), dI (a0.X.Addr), dI (a0.X.Try), dI (a0.X.Due)]⟩] [⟨true, [dS ((((n_spec_l21Copy a0)).Ask).Name), dI ((((n_spec_l21Copy a0)).Ask).Typ), dS ((((n_spec_l21Copy a0)).Q).Name), dI ((((n_spec_l21Copy a0)).Q).Typ), .sl 6 ((((n_spec_l21Copy a0)).Links).map Record.cells), dS (((n_spec_l21Copy a0)).Apex), .sl 1 ((((n_spec_l21Copy a0)).Servers).map encI), .sl 1 ((((n_spec_l21Copy a0)).Need).map encS), dI (((n_spec_l21Copy a0)).Down), dI (((n_spec_l21Copy a0)).Left), dI (((n_spec_l21Copy a0)).Pc), dI ((((n_spec_l21Copy a0)).X).Id), dI ((((n_spec_l21Copy a0)).X).Addr), dI ((((n_spec_l21Copy a0)).X).Try), dI ((((n_spec_l21Copy a0)).X).Due)]⟩] := by
  obtain ⟨r, hr⟩ : ∃ r, n_spec_l21Copy a0 = r := ⟨_, rfl⟩
  rw [hr]
  rw [n_spec_l21Copy] at hr
  refine tr_go tabOk Try.func90 rfl rfl rfl rfl rfl (ov := [(0, .t ⟨true, [.d (dS (a0.Ask.Name)), .d (dI (a0.Ask.Typ)), .d (dS (a0.Q.Name)), .d (dI (a0.Q.Typ)), .d (.sl 6 (a0.Links.map Record.cells)), .d (dS (a0.Apex)), .d (.sl 1 (a0.Servers.map encI)), .d (.sl 1 (a0.Need.map encS)), .d (dI (a0.Down)), .d (dI (a0.Left)), .d (dI (a0.Pc)), .d (dI (a0.X.Id)), .d (dI (a0.X.Addr)), .d (dI (a0.X.Try)), .d (dI (a0.X.Due))]⟩)]) (hv := []) rfl rfl ?_
  refine v_seq ?_
  refine v_reg ?_
  refine sr 0 (.t ⟨false, [.vp 0 0]⟩) (.var [.d (dS (a0.Ask.Name)), .d (dI (a0.Ask.Typ)), .d (dS (a0.Q.Name)), .d (dI (a0.Q.Typ)), .d (.sl 6 (a0.Links.map Record.cells)), .d (dS (a0.Apex)), .d (.sl 1 (a0.Servers.map encI)), .d (.sl 1 (a0.Need.map encS)), .d (dI (a0.Down)), .d (dI (a0.Left)), .d (dI (a0.Pc)), .d (dI (a0.X.Id)), .d (dI (a0.X.Addr)), .d (dI (a0.X.Try)), .d (dI (a0.X.Due))]) (zbx rfl (e rfl rfl) rfl rfl rfl) rfl rfl ?_
  refine sr 1 (.t ⟨false, [.vp 1 0]⟩) (.var [.d (dS (⟨#[]⟩)), .d (dI (0)), .d (dS (⟨#[]⟩)), .d (dI (0)), .nl 6, .d (dS (⟨#[]⟩)), .nl 1, .nl 1, .d (dI (0)), .d (dI (0)), .d (dI (0)), .d (dI (0)), .d (dI (0)), .d (dI (0)), .d (dI (0))]) (zal tabOk rfl rfl rfl rfl) rfl rfl ?_
  refine s_end ?_
  refine v_seq ?_
  refine v_reg ?_
  refine sy (.t ⟨true, [.d (dS (a0.Ask.Name)), .d (dI (a0.Ask.Typ)), .d (dS (a0.Q.Name)), .d (dI (a0.Q.Typ)), .d (.sl 6 (a0.Links.map Record.cells)), .d (dS (a0.Apex)), .d (.sl 1 (a0.Servers.map encI)), .d (.sl 1 (a0.Need.map encS)), .d (dI (a0.Down)), .d (dI (a0.Left)), .d (dI (a0.Pc)), .d (dI (a0.X.Id)), .d (dI (a0.X.Addr)), .d (dI (a0.X.Try)), .d (dI (a0.X.Due))]⟩) (zlv tabOk rfl (e rfl rfl) rfl rfl rfl) rfl rfl ?_
  refine sr 2 (.t ⟨false, [.vp 2 0]⟩) (.var [.d (dS (⟨#[]⟩)), .d (dI (0)), .d (dS (⟨#[]⟩)), .d (dI (0)), .nl 6, .d (dS (⟨#[]⟩)), .nl 1, .nl 1, .d (dI (0)), .d (dI (0)), .d (dI (0)), .d (dI (0)), .d (dI (0)), .d (dI (0)), .d (dI (0))]) (zal tabOk rfl rfl rfl rfl) rfl rfl ?_
  refine sw 2 (.var [.d (dS (a0.Ask.Name)), .d (dI (a0.Ask.Typ)), .d (dS (a0.Q.Name)), .d (dI (a0.Q.Typ)), .d (.sl 6 (a0.Links.map Record.cells)), .d (dS (a0.Apex)), .d (.sl 1 (a0.Servers.map encI)), .d (.sl 1 (a0.Need.map encS)), .d (dI (a0.Down)), .d (dI (a0.Left)), .d (dI (a0.Pc)), .d (dI (a0.X.Id)), .d (dI (a0.X.Addr)), .d (dI (a0.X.Try)), .d (dI (a0.X.Due))]) (zst tabOk rfl (e rfl rfl) rfl (e rfl rfl) rfl rfl rfl) rfl rfl ?_
  refine s_end ?_
  refine v_seq ?_
  refine v_reg ?_
  refine sy (.t ⟨false, [.vp 0 4]⟩) (zfa tabOk rfl rfl rfl (e rfl rfl) rfl rfl) rfl rfl ?_
  refine sy (.t ⟨false, [.d (.sl 6 (a0.Links.map Record.cells))]⟩) (zlv tabOk rfl (e rfl rfl) rfl rfl rfl) rfl rfl ?_
  refine sd (.t ⟨false, [.sr 3 1 0 ((a0.Links.map Record.cells).length) ((a0.Links.map Record.cells).length)]⟩) (zcall 3 (.t ⟨false, [.sr 3 1 0 ((a0.Links.map Record.cells).length) ((a0.Links.map Record.cells).length)]⟩) [(3, .row 6 (a0.Links.map Record.cells) true 1 0)] rfl (tr_n_spec_l7Copy a0.Links h0.Links) (ar (e rfl rfl) (.d .nil) .nil) rfl rfl rfl) rfl rfl rfl rfl ?_
  refine sy (.t ⟨false, [.vp 2 4]⟩) (zfa tabOk rfl rfl rfl (e rfl rfl) rfl rfl) rfl rfl ?_
  refine sw 2 (.var [.d (dS (a0.Ask.Name)), .d (dI (a0.Ask.Typ)), .d (dS (a0.Q.Name)), .d (dI (a0.Q.Typ)), .sr 3 1 0 ((a0.Links.map Record.cells).length) ((a0.Links.map Record.cells).length), .d (dS (a0.Apex)), .d (.sl 1 (a0.Servers.map encI)), .d (.sl 1 (a0.Need.map encS)), .d (dI (a0.Down)), .d (dI (a0.Left)), .d (dI (a0.Pc)), .d (dI (a0.X.Id)), .d (dI (a0.X.Addr)), .d (dI (a0.X.Try)), .d (dI (a0.X.Due))]) (zst tabOk rfl (e rfl rfl) rfl (e rfl rfl) rfl rfl rfl) rfl rfl ?_
  refine s_end ?_
  refine v_seq ?_
  refine v_reg ?_
  refine sbk 4 (.t ⟨false, [.sr 4 1 0 ((([] : List Int).map encI).length) ((([] : List Int).map encI).length)]⟩) (.row 1 (([] : List Int).map encI) true 1 0) (zbu tabOk rfl rfl rfl rfl .nil rfl rfl) rfl rfl ?_
  refine sy (.t ⟨false, [.vp 0 6]⟩) (zfa tabOk rfl rfl rfl (e rfl rfl) rfl rfl) rfl rfl ?_
  refine sy (.t ⟨false, [.d (.sl 1 (a0.Servers.map encI))]⟩) (zlv tabOk rfl (e rfl rfl) rfl rfl rfl) rfl rfl ?_
  have hB2 := (h0.Servers).1
  refine sa 4 (.t ⟨false, [.sr 4 2 0 (((a0.Servers).map encI).length) (((a0.Servers).map encI).length)]⟩) (.row 1 ((a0.Servers).map encI) true 2 1) (zap tabOk rfl rfl rfl rfl (e rfl rfl) rfl rfl (e rfl rfl) (.d (flat_I _)) (ap_big (by simp only [List.length_map, List.length_cons, List.length_nil]; omega) rfl) rfl (by simp only [List.length_map, List.length_append, List.length_cons, List.length_nil]; omega)) rfl rfl ?_
  refine sy (.t ⟨false, [.vp 2 6]⟩) (zfa tabOk rfl rfl rfl (e rfl rfl) rfl rfl) rfl rfl ?_
  refine sw 2 (.var [.d (dS (a0.Ask.Name)), .d (dI (a0.Ask.Typ)), .d (dS (a0.Q.Name)), .d (dI (a0.Q.Typ)), .sr 3 1 0 ((a0.Links.map Record.cells).length) ((a0.Links.map Record.cells).length), .d (dS (a0.Apex)), .sr 4 2 0 (((a0.Servers).map encI).length) (((a0.Servers).map encI).length), .d (.sl 1 (a0.Need.map encS)), .d (dI (a0.Down)), .d (dI (a0.Left)), .d (dI (a0.Pc)), .d (dI (a0.X.Id)), .d (dI (a0.X.Addr)), .d (dI (a0.X.Try)), .d (dI (a0.X.Due))]) (zst tabOk rfl (e rfl rfl) rfl (e rfl rfl) rfl rfl rfl) rfl rfl ?_
  refine s_end ?_
  refine v_seq ?_
  refine v_reg ?_
  refine sbk 5 (.t ⟨false, [.sr 5 1 0 ((([] : List ByteArray).map encS).length) ((([] : List ByteArray).map encS).length)]⟩) (.row 1 (([] : List ByteArray).map encS) true 1 0) (zbu tabOk rfl rfl rfl rfl .nil rfl rfl) rfl rfl ?_
  refine sy (.t ⟨false, [.vp 0 7]⟩) (zfa tabOk rfl rfl rfl (e rfl rfl) rfl rfl) rfl rfl ?_
  refine sy (.t ⟨false, [.d (.sl 1 (a0.Need.map encS))]⟩) (zlv tabOk rfl (e rfl rfl) rfl rfl rfl) rfl rfl ?_
  have hB4 := (h0.Need).1
  refine sa 5 (.t ⟨false, [.sr 5 2 0 (((a0.Need).map encS).length) (((a0.Need).map encS).length)]⟩) (.row 1 ((a0.Need).map encS) true 2 1) (zap tabOk rfl rfl rfl rfl (e rfl rfl) rfl rfl (e rfl rfl) (.d (flat_S _)) (ap_big (by simp only [List.length_map, List.length_cons, List.length_nil]; omega) rfl) rfl (by simp only [List.length_map, List.length_append, List.length_cons, List.length_nil]; omega)) rfl rfl ?_
  refine sy (.t ⟨false, [.vp 2 7]⟩) (zfa tabOk rfl rfl rfl (e rfl rfl) rfl rfl) rfl rfl ?_
  refine sw 2 (.var [.d (dS (a0.Ask.Name)), .d (dI (a0.Ask.Typ)), .d (dS (a0.Q.Name)), .d (dI (a0.Q.Typ)), .sr 3 1 0 ((a0.Links.map Record.cells).length) ((a0.Links.map Record.cells).length), .d (dS (a0.Apex)), .sr 4 2 0 (((a0.Servers).map encI).length) (((a0.Servers).map encI).length), .sr 5 2 0 (((a0.Need).map encS).length) (((a0.Need).map encS).length), .d (dI (a0.Down)), .d (dI (a0.Left)), .d (dI (a0.Pc)), .d (dI (a0.X.Id)), .d (dI (a0.X.Addr)), .d (dI (a0.X.Try)), .d (dI (a0.X.Due))]) (zst tabOk rfl (e rfl rfl) rfl (e rfl rfl) rfl rfl rfl) rfl rfl ?_
  refine s_end ?_
  refine v_seq ?_
  refine v_reg ?_
  refine sy (.t ⟨true, [.d (dS (a0.Ask.Name)), .d (dI (a0.Ask.Typ)), .d (dS (a0.Q.Name)), .d (dI (a0.Q.Typ)), .sr 3 1 0 ((a0.Links.map Record.cells).length) ((a0.Links.map Record.cells).length), .d (dS (a0.Apex)), .sr 4 2 0 (((a0.Servers).map encI).length) (((a0.Servers).map encI).length), .sr 5 2 0 (((a0.Need).map encS).length) (((a0.Need).map encS).length), .d (dI (a0.Down)), .d (dI (a0.Left)), .d (dI (a0.Pc)), .d (dI (a0.X.Id)), .d (dI (a0.X.Addr)), .d (dI (a0.X.Try)), .d (dI (a0.X.Due))]⟩) (zlv tabOk rfl (e rfl rfl) rfl rfl rfl) rfl rfl ?_
  refine sw 1 (.var [.d (dS (a0.Ask.Name)), .d (dI (a0.Ask.Typ)), .d (dS (a0.Q.Name)), .d (dI (a0.Q.Typ)), .sr 3 1 0 ((a0.Links.map Record.cells).length) ((a0.Links.map Record.cells).length), .d (dS (a0.Apex)), .sr 4 2 0 (((a0.Servers).map encI).length) (((a0.Servers).map encI).length), .sr 5 2 0 (((a0.Need).map encS).length) (((a0.Need).map encS).length), .d (dI (a0.Down)), .d (dI (a0.Left)), .d (dI (a0.Pc)), .d (dI (a0.X.Id)), .d (dI (a0.X.Addr)), .d (dI (a0.X.Try)), .d (dI (a0.X.Due))]) (zst tabOk rfl (e rfl rfl) rfl (e rfl rfl) rfl rfl rfl) rfl rfl ?_
  refine s_end ?_
  refine v_ret ?_
  subst hr
  exact post_ret (rv (.cell (eg rfl rfl) rfl rfl (.inl rfl) rfl) rfl (.lf (.lf (.lf (.lf (.sr rfl le_all take_all (.lf (.sr rfl le_all take_all (.sr rfl le_all take_all (.lf (.lf (.lf (.lf (.lf (.lf (.lf .nil))))))))))))))) rfl .nil) (.ro .nil) rfl
def n_impl_copyFrame (a0 : Frame) : Frame := a0
set_option maxHeartbeats 4000000 in
set_option maxRecDepth 20000 in
theorem tr_n_impl_copyFrame (a0 : Frame) (h0 : Frame.Fit a0) : Tr Try.prog 116 [.ro ⟨true, [dS (a0.Ask.Name), dI (a0.Ask.Typ), dS (a0.Q.Name), dI (a0.Q.Typ), .sl 6 (a0.Links.map Record.cells), dS (a0.Apex), .sl 1 (a0.Servers.map encI), .sl 1 (a0.Need.map encS), dI (a0.Down), dI (a0.Left), dI (a0.Pc), dI (a0.X.Id), dI (a0.X.Addr), dI (a0.X.Try), dI (a0.X.Due)]⟩] [⟨true, [dS ((((n_impl_copyFrame a0)).Ask).Name), dI ((((n_impl_copyFrame a0)).Ask).Typ), dS ((((n_impl_copyFrame a0)).Q).Name), dI ((((n_impl_copyFrame a0)).Q).Typ), .sl 6 ((((n_impl_copyFrame a0)).Links).map Record.cells), dS (((n_impl_copyFrame a0)).Apex), .sl 1 ((((n_impl_copyFrame a0)).Servers).map encI), .sl 1 ((((n_impl_copyFrame a0)).Need).map encS), dI (((n_impl_copyFrame a0)).Down), dI (((n_impl_copyFrame a0)).Left), dI (((n_impl_copyFrame a0)).Pc), dI ((((n_impl_copyFrame a0)).X).Id), dI ((((n_impl_copyFrame a0)).X).Addr), dI ((((n_impl_copyFrame a0)).X).Try), dI ((((n_impl_copyFrame a0)).X).Due)]⟩] := by
  obtain ⟨r, hr⟩ : ∃ r, n_impl_copyFrame a0 = r := ⟨_, rfl⟩
  rw [hr]
  rw [n_impl_copyFrame] at hr
  refine tr_go tabOk Try.func116 rfl rfl rfl rfl rfl (ov := [(0, .t ⟨true, [.d (dS (a0.Ask.Name)), .d (dI (a0.Ask.Typ)), .d (dS (a0.Q.Name)), .d (dI (a0.Q.Typ)), .d (.sl 6 (a0.Links.map Record.cells)), .d (dS (a0.Apex)), .d (.sl 1 (a0.Servers.map encI)), .d (.sl 1 (a0.Need.map encS)), .d (dI (a0.Down)), .d (dI (a0.Left)), .d (dI (a0.Pc)), .d (dI (a0.X.Id)), .d (dI (a0.X.Addr)), .d (dI (a0.X.Try)), .d (dI (a0.X.Due))]⟩)]) (hv := []) rfl rfl ?_
  refine v_seq ?_
  refine v_reg ?_
  refine sr 0 (.t ⟨false, [.vp 0 0]⟩) (.var [.d (dS (a0.Ask.Name)), .d (dI (a0.Ask.Typ)), .d (dS (a0.Q.Name)), .d (dI (a0.Q.Typ)), .d (.sl 6 (a0.Links.map Record.cells)), .d (dS (a0.Apex)), .d (.sl 1 (a0.Servers.map encI)), .d (.sl 1 (a0.Need.map encS)), .d (dI (a0.Down)), .d (dI (a0.Left)), .d (dI (a0.Pc)), .d (dI (a0.X.Id)), .d (dI (a0.X.Addr)), .d (dI (a0.X.Try)), .d (dI (a0.X.Due))]) (zbx rfl (e rfl rfl) rfl rfl rfl) rfl rfl ?_
  refine sr 1 (.t ⟨false, [.vp 1 0]⟩) (.var [.d (dS (⟨#[]⟩)), .d (dI (0)), .d (dS (⟨#[]⟩)), .d (dI (0)), .nl 6, .d (dS (⟨#[]⟩)), .nl 1, .nl 1, .d (dI (0)), .d (dI (0)), .d (dI (0)), .d (dI (0)), .d (dI (0)), .d (dI (0)), .d (dI (0))]) (zal tabOk rfl rfl rfl rfl) rfl rfl ?_
  refine s_end ?_
  refine v_seq ?_
  refine v_reg ?_
  refine sy (.t ⟨false, [.vp 0 4]⟩) (zfa tabOk rfl rfl rfl (e rfl rfl) rfl rfl) rfl rfl ?_
  refine sy (.t ⟨false, [.d (.sl 6 (a0.Links.map Record.cells))]⟩) (zlv tabOk rfl (e rfl rfl) rfl rfl rfl) rfl rfl ?_
  refine sd (.t ⟨false, [.sr 2 1 0 ((a0.Links.map Record.cells).length) ((a0.Links.map Record.cells).length)]⟩) (zcall 2 (.t ⟨false, [.sr 2 1 0 ((a0.Links.map Record.cells).length) ((a0.Links.map Record.cells).length)]⟩) [(2, .row 6 (a0.Links.map Record.cells) true 1 0)] rfl (tr_clone_Record a0.Links (Nat.le_trans h0.Links.1 (by decide))) (ar (e rfl rfl) (.d .nil) .nil) rfl rfl rfl) rfl rfl rfl rfl ?_
  refine sy (.t ⟨false, [.vp 0 4]⟩) (zfa tabOk rfl rfl rfl (e rfl rfl) rfl rfl) rfl rfl ?_
  refine sw 0 (.var [.d (dS (a0.Ask.Name)), .d (dI (a0.Ask.Typ)), .d (dS (a0.Q.Name)), .d (dI (a0.Q.Typ)), .sr 2 1 0 ((a0.Links.map Record.cells).length) ((a0.Links.map Record.cells).length), .d (dS (a0.Apex)), .d (.sl 1 (a0.Servers.map encI)), .d (.sl 1 (a0.Need.map encS)), .d (dI (a0.Down)), .d (dI (a0.Left)), .d (dI (a0.Pc)), .d (dI (a0.X.Id)), .d (dI (a0.X.Addr)), .d (dI (a0.X.Try)), .d (dI (a0.X.Due))]) (zst tabOk rfl (e rfl rfl) rfl (e rfl rfl) rfl rfl rfl) rfl rfl ?_
  refine s_end ?_
  refine v_seq ?_
  refine v_reg ?_
  refine sy (.t ⟨false, [.vp 0 6]⟩) (zfa tabOk rfl rfl rfl (e rfl rfl) rfl rfl) rfl rfl ?_
  refine sy (.t ⟨false, [.d (.sl 1 (a0.Servers.map encI))]⟩) (zlv tabOk rfl (e rfl rfl) rfl rfl rfl) rfl rfl ?_
  refine sd (.t ⟨false, [.sr 3 1 0 ((a0.Servers.map encI).length) ((a0.Servers.map encI).length)]⟩) (zcall 3 (.t ⟨false, [.sr 3 1 0 ((a0.Servers.map encI).length) ((a0.Servers.map encI).length)]⟩) [(3, .row 1 (a0.Servers.map encI) true 1 0)] rfl (tr_clone_encI a0.Servers (Nat.le_trans h0.Servers.1 (by decide))) (ar (e rfl rfl) (.d .nil) .nil) rfl rfl rfl) rfl rfl rfl rfl ?_
  refine sy (.t ⟨false, [.vp 0 6]⟩) (zfa tabOk rfl rfl rfl (e rfl rfl) rfl rfl) rfl rfl ?_
  refine sw 0 (.var [.d (dS (a0.Ask.Name)), .d (dI (a0.Ask.Typ)), .d (dS (a0.Q.Name)), .d (dI (a0.Q.Typ)), .sr 2 1 0 ((a0.Links.map Record.cells).length) ((a0.Links.map Record.cells).length), .d (dS (a0.Apex)), .sr 3 1 0 ((a0.Servers.map encI).length) ((a0.Servers.map encI).length), .d (.sl 1 (a0.Need.map encS)), .d (dI (a0.Down)), .d (dI (a0.Left)), .d (dI (a0.Pc)), .d (dI (a0.X.Id)), .d (dI (a0.X.Addr)), .d (dI (a0.X.Try)), .d (dI (a0.X.Due))]) (zst tabOk rfl (e rfl rfl) rfl (e rfl rfl) rfl rfl rfl) rfl rfl ?_
  refine s_end ?_
  refine v_seq ?_
  refine v_reg ?_
  refine sy (.t ⟨false, [.vp 0 7]⟩) (zfa tabOk rfl rfl rfl (e rfl rfl) rfl rfl) rfl rfl ?_
  refine sy (.t ⟨false, [.d (.sl 1 (a0.Need.map encS))]⟩) (zlv tabOk rfl (e rfl rfl) rfl rfl rfl) rfl rfl ?_
  refine sd (.t ⟨false, [.sr 4 1 0 ((a0.Need.map encS).length) ((a0.Need.map encS).length)]⟩) (zcall 4 (.t ⟨false, [.sr 4 1 0 ((a0.Need.map encS).length) ((a0.Need.map encS).length)]⟩) [(4, .row 1 (a0.Need.map encS) true 1 0)] rfl (tr_clone_encS a0.Need (Nat.le_trans h0.Need.1 (by decide))) (ar (e rfl rfl) (.d .nil) .nil) rfl rfl rfl) rfl rfl rfl rfl ?_
  refine sy (.t ⟨false, [.vp 0 7]⟩) (zfa tabOk rfl rfl rfl (e rfl rfl) rfl rfl) rfl rfl ?_
  refine sw 0 (.var [.d (dS (a0.Ask.Name)), .d (dI (a0.Ask.Typ)), .d (dS (a0.Q.Name)), .d (dI (a0.Q.Typ)), .sr 2 1 0 ((a0.Links.map Record.cells).length) ((a0.Links.map Record.cells).length), .d (dS (a0.Apex)), .sr 3 1 0 ((a0.Servers.map encI).length) ((a0.Servers.map encI).length), .sr 4 1 0 ((a0.Need.map encS).length) ((a0.Need.map encS).length), .d (dI (a0.Down)), .d (dI (a0.Left)), .d (dI (a0.Pc)), .d (dI (a0.X.Id)), .d (dI (a0.X.Addr)), .d (dI (a0.X.Try)), .d (dI (a0.X.Due))]) (zst tabOk rfl (e rfl rfl) rfl (e rfl rfl) rfl rfl rfl) rfl rfl ?_
  refine s_end ?_
  refine v_seq ?_
  refine v_reg ?_
  refine sy (.t ⟨true, [.d (dS (a0.Ask.Name)), .d (dI (a0.Ask.Typ)), .d (dS (a0.Q.Name)), .d (dI (a0.Q.Typ)), .sr 2 1 0 ((a0.Links.map Record.cells).length) ((a0.Links.map Record.cells).length), .d (dS (a0.Apex)), .sr 3 1 0 ((a0.Servers.map encI).length) ((a0.Servers.map encI).length), .sr 4 1 0 ((a0.Need.map encS).length) ((a0.Need.map encS).length), .d (dI (a0.Down)), .d (dI (a0.Left)), .d (dI (a0.Pc)), .d (dI (a0.X.Id)), .d (dI (a0.X.Addr)), .d (dI (a0.X.Try)), .d (dI (a0.X.Due))]⟩) (zlv tabOk rfl (e rfl rfl) rfl rfl rfl) rfl rfl ?_
  refine sw 1 (.var [.d (dS (a0.Ask.Name)), .d (dI (a0.Ask.Typ)), .d (dS (a0.Q.Name)), .d (dI (a0.Q.Typ)), .sr 2 1 0 ((a0.Links.map Record.cells).length) ((a0.Links.map Record.cells).length), .d (dS (a0.Apex)), .sr 3 1 0 ((a0.Servers.map encI).length) ((a0.Servers.map encI).length), .sr 4 1 0 ((a0.Need.map encS).length) ((a0.Need.map encS).length), .d (dI (a0.Down)), .d (dI (a0.Left)), .d (dI (a0.Pc)), .d (dI (a0.X.Id)), .d (dI (a0.X.Addr)), .d (dI (a0.X.Try)), .d (dI (a0.X.Due))]) (zst tabOk rfl (e rfl rfl) rfl (e rfl rfl) rfl rfl rfl) rfl rfl ?_
  refine s_end ?_
  refine v_ret ?_
  subst hr
  exact post_ret (rv (.cell (eg rfl rfl) rfl rfl (.inl rfl) rfl) rfl (.lf (.lf (.lf (.lf (.sr rfl le_all take_all (.lf (.sr rfl le_all take_all (.sr rfl le_all take_all (.lf (.lf (.lf (.lf (.lf (.lf (.lf .nil))))))))))))))) rfl .nil) (.ro .nil) rfl
end Go.Proofs.Ytglilpigoocgeaa.V
