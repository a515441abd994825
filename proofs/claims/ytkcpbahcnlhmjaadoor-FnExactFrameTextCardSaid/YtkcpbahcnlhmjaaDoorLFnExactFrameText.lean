/-
  The law FnExactFrameText, walked.
-/
import Derived.Test.YtkcpbahcnlhmjaaDoorFR
import Derived.Test.YtkcpbahcnlhmjaaDoorTFrame
import Derived.Test.YtkcpbahcnlhmjaaDoorN
import Derived.Test.YtkcpbahcnlhmjaaDoorC
namespace Go.Proofs.YtkcpbahcnlhmjaaDoor.V
open Go
set_option linter.unusedVariables false
set_option linter.unusedSimpArgs false
theorem rd9 {H : Type} {enc : TypeId × Value → H} {W : Go.World} : Rd enc Tryd.prog W 9 1 (fun v : ByteArray => [dS v]) bndS := rd_str Tryd.underlying9 (by kernel_rfl)
theorem rd3 {H : Type} {enc : TypeId × Value → H} {W : Go.World} : Rd enc Tryd.prog W 3 1 (fun v : Int => [.lf (.int .i64 v)]) bndI := rd_i64 Tryd.underlying3 (by kernel_rfl)
theorem rd23 {H : Type} {enc : TypeId × Value → H} {W : Go.World} : Rd enc Tryd.prog W 23 2 Quest.cells Quest.Bnd := rd_struct (fs := [(0, 9), (1, 3)]) Tryd.underlying23 (by kernel_rfl) (by kernel_rfl) (rdf_cons rd9 (rdf_cons rd3 (rdf_nil rfl))) (fun p => ⟨p.1, p.2.1⟩) (fun _ => rfl) (fun p h => ⟨h.1, h.2.1⟩)
theorem rd111 {H : Type} {enc : TypeId × Value → H} {W : Go.World} : Rd enc Tryd.prog W 111 6 Record.cells Record.Bnd := rd_struct (fs := [(0, 9), (1, 3), (2, 3), (3, 3), (4, 9), (5, 9)]) Tryd.underlying111 (by kernel_rfl) (by kernel_rfl) (rdf_cons rd9 (rdf_cons rd3 (rdf_cons rd3 (rdf_cons rd3 (rdf_cons rd9 (rdf_cons rd9 (rdf_nil rfl))))))) (fun p => ⟨p.1, p.2.1, p.2.2.1, p.2.2.2.1, p.2.2.2.2.1, p.2.2.2.2.2.1⟩) (fun _ => rfl) (fun p h => ⟨h.1, h.2.1, h.2.2.1, h.2.2.2.1, h.2.2.2.2.1, h.2.2.2.2.2.1⟩)
theorem rd24 {H : Type} {enc : TypeId × Value → H} {W : Go.World} : Rd enc Tryd.prog W 24 1 (fun xs : List Record => [.sl 6 (xs.map Record.cells)]) (bndL Record.Bnd) := rd_slice Tryd.underlying24 (by kernel_rfl) rd111 (by decide) (fun _ => rfl)
theorem rd25 {H : Type} {enc : TypeId × Value → H} {W : Go.World} : Rd enc Tryd.prog W 25 1 (fun xs : List Int => [.sl 1 (xs.map encI)]) (bndL bndI) := rd_slice Tryd.underlying25 (by kernel_rfl) rd3 (by decide) (fun _ => rfl)
theorem rd26 {H : Type} {enc : TypeId × Value → H} {W : Go.World} : Rd enc Tryd.prog W 26 1 (fun xs : List ByteArray => [.sl 1 (xs.map encS)]) (bndL bndS) := rd_slice Tryd.underlying26 (by kernel_rfl) rd9 (by decide) (fun _ => rfl)
theorem rd28 {H : Type} {enc : TypeId × Value → H} {W : Go.World} : Rd enc Tryd.prog W 28 4 Exch.cells Exch.Bnd := rd_struct (fs := [(0, 3), (1, 3), (2, 3), (3, 3)]) Tryd.underlying28 (by kernel_rfl) (by kernel_rfl) (rdf_cons rd3 (rdf_cons rd3 (rdf_cons rd3 (rdf_cons rd3 (rdf_nil rfl))))) (fun p => ⟨p.1, p.2.1, p.2.2.1, p.2.2.2.1⟩) (fun _ => rfl) (fun p h => ⟨h.1, h.2.1, h.2.2.1, h.2.2.2.1⟩)
theorem rd30 {H : Type} {enc : TypeId × Value → H} {W : Go.World} : Rd enc Tryd.prog W 30 15 Frame.cells Frame.Bnd := rd_struct (fs := [(0, 23), (2, 23), (4, 24), (5, 9), (6, 25), (7, 26), (8, 3), (9, 3), (10, 3), (11, 28)]) Tryd.underlying30 (by kernel_rfl) (by kernel_rfl) (rdf_cons rd23 (rdf_cons rd23 (rdf_cons rd24 (rdf_cons rd9 (rdf_cons rd25 (rdf_cons rd26 (rdf_cons rd3 (rdf_cons rd3 (rdf_cons rd3 (rdf_cons rd28 (rdf_nil rfl))))))))))) (fun p => ⟨p.1, p.2.1, p.2.2.1, p.2.2.2.1, p.2.2.2.2.1, p.2.2.2.2.2.1, p.2.2.2.2.2.2.1, p.2.2.2.2.2.2.2.1, p.2.2.2.2.2.2.2.2.1, p.2.2.2.2.2.2.2.2.2.1⟩) (fun _ => rfl) (fun p h => ⟨h.1, h.2.1, h.2.2.1, h.2.2.2.1, h.2.2.2.2.1, h.2.2.2.2.2.1, h.2.2.2.2.2.2.1, h.2.2.2.2.2.2.2.1, h.2.2.2.2.2.2.2.2.1, h.2.2.2.2.2.2.2.2.2.1⟩)
set_option maxRecDepth 20000 in
theorem tr_law (a0 : Frame) (b0 : Frame.Bnd a0) : Tr Tryd.prog 5 [.ro ⟨true, [dS (a0.Ask.Name), dI (a0.Ask.Typ), dS (a0.Q.Name), dI (a0.Q.Typ), .sl 6 (a0.Links.map Record.cells), dS (a0.Apex), .sl 1 (a0.Servers.map encI), .sl 1 (a0.Need.map encS), dI (a0.Down), dI (a0.Left), dI (a0.Pc), dI (a0.X.Id), dI (a0.X.Addr), dI (a0.X.Try), dI (a0.X.Due)]⟩] [one (dB true)] := by
  refine tr_go tabOk Tryd.func5 rfl rfl rfl rfl rfl (ov := [(0, .t ⟨true, [.d (dS (a0.Ask.Name)), .d (dI (a0.Ask.Typ)), .d (dS (a0.Q.Name)), .d (dI (a0.Q.Typ)), .d (.sl 6 (a0.Links.map Record.cells)), .d (dS (a0.Apex)), .d (.sl 1 (a0.Servers.map encI)), .d (.sl 1 (a0.Need.map encS)), .d (dI (a0.Down)), .d (dI (a0.Left)), .d (dI (a0.Pc)), .d (dI (a0.X.Id)), .d (dI (a0.X.Addr)), .d (dI (a0.X.Try)), .d (dI (a0.X.Due))]⟩)]) (hv := []) rfl rfl ?_
  refine v_seq ?_
  refine v_reg ?_
  refine sr 0 (.t ⟨false, [.vp 0 0]⟩) (.var [.d (dS (a0.Ask.Name)), .d (dI (a0.Ask.Typ)), .d (dS (a0.Q.Name)), .d (dI (a0.Q.Typ)), .d (.sl 6 (a0.Links.map Record.cells)), .d (dS (a0.Apex)), .d (.sl 1 (a0.Servers.map encI)), .d (.sl 1 (a0.Need.map encS)), .d (dI (a0.Down)), .d (dI (a0.Left)), .d (dI (a0.Pc)), .d (dI (a0.X.Id)), .d (dI (a0.X.Addr)), .d (dI (a0.X.Try)), .d (dI (a0.X.Due))]) (zbx rfl (e rfl rfl) rfl rfl rfl) rfl rfl ?_
  refine sy _ (zas rfl (ec rfl)) rfl rfl ?_
  refine s_end ?_
  refine v_seq ?_
  refine v_reg ?_
  refine sy _ (zas rfl (ec rfl)) rfl rfl ?_
  refine s_end ?_
  refine v_seq ?_
  refine v_reg ?_
  refine sy (.t ⟨true, [.d (dS (a0.Ask.Name)), .d (dI (a0.Ask.Typ)), .d (dS (a0.Q.Name)), .d (dI (a0.Q.Typ)), .d (.sl 6 (a0.Links.map Record.cells)), .d (dS (a0.Apex)), .d (.sl 1 (a0.Servers.map encI)), .d (.sl 1 (a0.Need.map encS)), .d (dI (a0.Down)), .d (dI (a0.Left)), .d (dI (a0.Pc)), .d (dI (a0.X.Id)), .d (dI (a0.X.Addr)), .d (dI (a0.X.Try)), .d (dI (a0.X.Due))]⟩) (zlv tabOk rfl (e rfl rfl) rfl rfl rfl) rfl rfl ?_
  refine sy _ (zmv rfl (e rfl rfl)) rfl rfl ?_
  refine sxI (zcallX rfl (tr_szFrame a0 b0 1048576 (by omega) (by omega)) (ar (e rfl rfl) (.d (.d (.d (.d (.d (.d (.d (.d (.d (.d (.d (.d (.d (.d (.d .nil))))))))))))))) (ar (e rfl rfl) (.d .nil) .nil))) rfl rfl (fun r1 hr1 => ?_)
  refine sy _ (zas rfl (e rfl rfl)) rfl rfl ?_
  refine s_end ?_
  refine v_seq ?_
  refine v_seq ?_
  refine v_reg ?_
  refine sy _ (zmv rfl (e rfl rfl)) rfl rfl ?_
  refine sy (.t ⟨false, [.d (dB (decide ((r1) < (0))))]⟩) (y_bin rfl (e rfl rfl) (ec rfl) (fun _ => b_lss) rfl) rfl rfl ?_
  refine s_end ?_
  refine v_cond (e rfl rfl) (fun hb2 => ?_) fun hb2 => ?_
  · have hb2p := dec_t hb2
    refine v_seq ?_
    refine v_reg ?_
    refine sy _ (zas rfl (ec rfl)) rfl rfl ?_
    refine s_end ?_
    refine v_ret ?_
    exact post_ret (rv (.tmp (eg rfl rfl)) rfl (.lf .nil) rfl .nil) (.ro .nil) rfl
  have hb2p := dec_f hb2
  have hsr1 := hr1 (by omega)
  have hsr1w := hsr1.1
  refine v_skip ?_
  refine v_seq ?_
  refine v_reg ?_
  refine sy (.t ⟨true, [.d (dS (a0.Ask.Name)), .d (dI (a0.Ask.Typ)), .d (dS (a0.Q.Name)), .d (dI (a0.Q.Typ)), .d (.sl 6 (a0.Links.map Record.cells)), .d (dS (a0.Apex)), .d (.sl 1 (a0.Servers.map encI)), .d (.sl 1 (a0.Need.map encS)), .d (dI (a0.Down)), .d (dI (a0.Left)), .d (dI (a0.Pc)), .d (dI (a0.X.Id)), .d (dI (a0.X.Addr)), .d (dI (a0.X.Try)), .d (dI (a0.X.Due))]⟩) (zlv tabOk rfl (e rfl rfl) rfl rfl rfl) rfl rfl ?_
  refine sd (.t ⟨true, [.d (dS (a0.Ask.Name)), .d (dI (a0.Ask.Typ)), .d (dS (a0.Q.Name)), .d (dI (a0.Q.Typ)), .sr 1 1 0 ((a0.Links.map Record.cells).length) ((a0.Links.map Record.cells).length), .d (dS (a0.Apex)), .sr 2 1 0 ((a0.Servers.map encI).length) ((a0.Servers.map encI).length), .sr 3 1 0 ((a0.Need.map encS).length) ((a0.Need.map encS).length), .d (dI (a0.Down)), .d (dI (a0.Left)), .d (dI (a0.Pc)), .d (dI (a0.X.Id)), .d (dI (a0.X.Addr)), .d (dI (a0.X.Try)), .d (dI (a0.X.Due))]⟩) (zcall 1 (.t ⟨true, [.d (dS (a0.Ask.Name)), .d (dI (a0.Ask.Typ)), .d (dS (a0.Q.Name)), .d (dI (a0.Q.Typ)), .sr 1 1 0 ((a0.Links.map Record.cells).length) ((a0.Links.map Record.cells).length), .d (dS (a0.Apex)), .sr 2 1 0 ((a0.Servers.map encI).length) ((a0.Servers.map encI).length), .sr 3 1 0 ((a0.Need.map encS).length) ((a0.Need.map encS).length), .d (dI (a0.Down)), .d (dI (a0.Left)), .d (dI (a0.Pc)), .d (dI (a0.X.Id)), .d (dI (a0.X.Addr)), .d (dI (a0.X.Try)), .d (dI (a0.X.Due))]⟩) [(1, .row 6 (a0.Links.map Record.cells) true 1 0), (2, .row 1 (a0.Servers.map encI) true 1 0), (3, .row 1 (a0.Need.map encS) true 1 0)] rfl (tr_toFrame a0 hsr1.2) (ar (e rfl rfl) (.d (.d (.d (.d (.d (.d (.d (.d (.d (.d (.d (.d (.d (.d (.d .nil))))))))))))))) .nil) rfl rfl rfl) rfl rfl rfl rfl ?_
  obtain ⟨v1, ev1⟩ : ∃ v : ByteArray, v = n_spec_FrameText a0 := ⟨_, rfl⟩
  refine sd (.t ⟨false, [.d (dS (v1))]⟩) (zcd (.t ⟨false, [.d (dS (v1))]⟩) rfl (by rw [ev1]; exact (tr_n_spec_FrameText a0 hsr1.2 b0.Down) : Tr Tryd.prog 17 _ [⟨false, [dS (v1)]⟩]) (ar (e rfl rfl) (.d (.d (.d (.d (.sr rfl le_all take_all (.d (.sr rfl le_all take_all (.sr rfl le_all take_all (.d (.d (.d (.d (.d (.d (.d .nil))))))))))))))) .nil) rfl) rfl rfl rfl rfl ?_
  refine sy _ (zas rfl (e rfl rfl)) rfl rfl ?_
  refine s_end ?_
  refine v_seq ?_
  refine v_reg ?_
  refine sy (.t ⟨true, [.d (dS (a0.Ask.Name)), .d (dI (a0.Ask.Typ)), .d (dS (a0.Q.Name)), .d (dI (a0.Q.Typ)), .d (.sl 6 (a0.Links.map Record.cells)), .d (dS (a0.Apex)), .d (.sl 1 (a0.Servers.map encI)), .d (.sl 1 (a0.Need.map encS)), .d (dI (a0.Down)), .d (dI (a0.Left)), .d (dI (a0.Pc)), .d (dI (a0.X.Id)), .d (dI (a0.X.Addr)), .d (dI (a0.X.Try)), .d (dI (a0.X.Due))]⟩) (zlv tabOk rfl (e rfl rfl) rfl rfl rfl) rfl rfl ?_
  refine sd (.t ⟨true, [.d (dS (a0.Ask.Name)), .d (dI (a0.Ask.Typ)), .d (dS (a0.Q.Name)), .d (dI (a0.Q.Typ)), .sr 4 1 0 ((a0.Links.map Record.cells).length) ((a0.Links.map Record.cells).length), .d (dS (a0.Apex)), .sr 5 1 0 ((a0.Servers.map encI).length) ((a0.Servers.map encI).length), .sr 6 1 0 ((a0.Need.map encS).length) ((a0.Need.map encS).length), .d (dI (a0.Down)), .d (dI (a0.Left)), .d (dI (a0.Pc)), .d (dI (a0.X.Id)), .d (dI (a0.X.Addr)), .d (dI (a0.X.Try)), .d (dI (a0.X.Due))]⟩) (zcall 4 (.t ⟨true, [.d (dS (a0.Ask.Name)), .d (dI (a0.Ask.Typ)), .d (dS (a0.Q.Name)), .d (dI (a0.Q.Typ)), .sr 4 1 0 ((a0.Links.map Record.cells).length) ((a0.Links.map Record.cells).length), .d (dS (a0.Apex)), .sr 5 1 0 ((a0.Servers.map encI).length) ((a0.Servers.map encI).length), .sr 6 1 0 ((a0.Need.map encS).length) ((a0.Need.map encS).length), .d (dI (a0.Down)), .d (dI (a0.Left)), .d (dI (a0.Pc)), .d (dI (a0.X.Id)), .d (dI (a0.X.Addr)), .d (dI (a0.X.Try)), .d (dI (a0.X.Due))]⟩) [(4, .row 6 (a0.Links.map Record.cells) true 1 0), (5, .row 1 (a0.Servers.map encI) true 1 0), (6, .row 1 (a0.Need.map encS) true 1 0)] rfl (tr_toFrame a0 hsr1.2) (ar (e rfl rfl) (.d (.d (.d (.d (.d (.d (.d (.d (.d (.d (.d (.d (.d (.d (.d .nil))))))))))))))) .nil) rfl rfl rfl) rfl rfl rfl rfl ?_
  refine sr 7 (.t ⟨false, [.vp 7 0]⟩) (.var [.d (dS (⟨#[]⟩)), .d (dI (0)), .d (dS (⟨#[]⟩)), .d (dI (0)), .nl 6, .d (dS (⟨#[]⟩)), .nl 1, .nl 1, .d (dI (0)), .d (dI (0)), .d (dI (0)), .d (dI (0)), .d (dI (0)), .d (dI (0)), .d (dI (0))]) (zal tabOk rfl rfl rfl rfl) rfl rfl ?_
  refine sw 7 (.var [.d (dS (a0.Ask.Name)), .d (dI (a0.Ask.Typ)), .d (dS (a0.Q.Name)), .d (dI (a0.Q.Typ)), .sr 4 1 0 ((a0.Links.map Record.cells).length) ((a0.Links.map Record.cells).length), .d (dS (a0.Apex)), .sr 5 1 0 ((a0.Servers.map encI).length) ((a0.Servers.map encI).length), .sr 6 1 0 ((a0.Need.map encS).length) ((a0.Need.map encS).length), .d (dI (a0.Down)), .d (dI (a0.Left)), .d (dI (a0.Pc)), .d (dI (a0.X.Id)), .d (dI (a0.X.Addr)), .d (dI (a0.X.Try)), .d (dI (a0.X.Due))]) (zst tabOk rfl (e rfl rfl) rfl (e rfl rfl) rfl rfl rfl) rfl rfl ?_
  refine s_end ?_
  refine v_seq ?_
  refine v_reg ?_
  refine sy (.t ⟨true, [.d (dS (a0.Ask.Name)), .d (dI (a0.Ask.Typ)), .d (dS (a0.Q.Name)), .d (dI (a0.Q.Typ)), .sr 4 1 0 ((a0.Links.map Record.cells).length) ((a0.Links.map Record.cells).length), .d (dS (a0.Apex)), .sr 5 1 0 ((a0.Servers.map encI).length) ((a0.Servers.map encI).length), .sr 6 1 0 ((a0.Need.map encS).length) ((a0.Need.map encS).length), .d (dI (a0.Down)), .d (dI (a0.Left)), .d (dI (a0.Pc)), .d (dI (a0.X.Id)), .d (dI (a0.X.Addr)), .d (dI (a0.X.Try)), .d (dI (a0.X.Due))]⟩) (zlv tabOk rfl (e rfl rfl) rfl rfl rfl) rfl rfl ?_
  refine sd (.t ⟨false, [.d (dS (v1))]⟩) (zcd (.t ⟨false, [.d (dS (v1))]⟩) rfl (by rw [ev1]; exact (tr2_n_impl_FrameText a0 hsr1.2 b0.Down) : Tr Tryd.prog 18 _ [⟨false, [dS (v1)]⟩]) (ar (e rfl rfl) (.d (.d (.d (.d (.sr rfl le_all take_all (.d (.sr rfl le_all take_all (.sr rfl le_all take_all (.d (.d (.d (.d (.d (.d (.d .nil))))))))))))))) .nil) rfl) rfl rfl rfl rfl ?_
  refine sy _ (zas rfl (e rfl rfl)) rfl rfl ?_
  refine s_end ?_
  refine v_seq ?_
  refine v_seq ?_
  refine v_reg ?_
  refine sy _ (zmv rfl (e rfl rfl)) rfl rfl ?_
  refine sy _ (zmv rfl (e rfl rfl)) rfl rfl ?_
  refine sy (.t ⟨false, [.d (dB (decide ((v1) ≠ (v1))))]⟩) (y_bin rfl (e rfl rfl) (e rfl rfl) (fun _ => b_sneq) rfl) rfl rfl ?_
  refine s_end ?_
  refine v_cF (e rfl rfl) dec_neq ?_
  refine v_skip ?_
  refine v_seq ?_
  refine v_seq ?_
  refine v_drw2 [⟨.t ⟨true, [.d (dS (a0.Ask.Name)), .d (dI (a0.Ask.Typ)), .d (dS (a0.Q.Name)), .d (dI (a0.Q.Typ)), .sr 4 1 0 ((a0.Links.map Record.cells).length) ((a0.Links.map Record.cells).length), .d (dS (a0.Apex)), .sr 5 1 0 ((a0.Servers.map encI).length) ((a0.Servers.map encI).length), .sr 6 1 0 ((a0.Need.map encS).length) ((a0.Need.map encS).length), .d (dI (a0.Down)), .d (dI (a0.Left)), .d (dI (a0.Pc)), .d (dI (a0.X.Id)), .d (dI (a0.X.Addr)), .d (dI (a0.X.Try)), .d (dI (a0.X.Due))]⟩, [], [5], [7], false⟩, ⟨.t ⟨true, [.d (dS (a0.Ask.Name)), .d (dI (a0.Ask.Typ)), .d (dS (a0.Q.Name)), .d (dI (a0.Q.Typ)), .d (.sl 6 (a0.Links.map Record.cells)), .d (dS (a0.Apex)), .d (.sl 1 (a0.Servers.map encI)), .d (.sl 1 (a0.Need.map encS)), .d (dI (a0.Down)), .d (dI (a0.Left)), .d (dI (a0.Pc)), .d (dI (a0.X.Id)), .d (dI (a0.X.Addr)), .d (dI (a0.X.Try)), .d (dI (a0.X.Due))]⟩, [], [1], [0], false⟩, ⟨.t ⟨true, [.d (dS (a0.Ask.Name)), .d (dI (a0.Ask.Typ)), .d (dS (a0.Q.Name)), .d (dI (a0.Q.Typ)), .sr 8 1 0 ((a0.Links.map Record.cells).length) ((a0.Links.map Record.cells).length), .d (dS (a0.Apex)), .sr 9 1 0 ((a0.Servers.map encI).length) ((a0.Servers.map encI).length), .sr 10 1 0 ((a0.Need.map encS).length) ((a0.Need.map encS).length), .d (dI (a0.Down)), .d (dI (a0.Left)), .d (dI (a0.Pc)), .d (dI (a0.X.Id)), .d (dI (a0.X.Addr)), .d (dI (a0.X.Try)), .d (dI (a0.X.Due))]⟩, [(8, .row 6 (a0.Links.map Record.cells) true 1 0), (9, .row 1 (a0.Servers.map encI) true 1 0), (10, .row 1 (a0.Need.map encS) true 1 0)], [23], [], false⟩, ⟨.t ⟨false, [.d (dB (true))]⟩, [], [22, 24], [6, 5, 4, 10, 9, 8], false⟩, ⟨.t ⟨false, [.d (dB (!(true)))]⟩, [], [25], [], false⟩] mixed (.c rfl (.c rfl (.c rfl (.c rfl (.c rfl .nil))))) (.s rfl (.s rfl (.g rfl (.s rfl (.s rfl .nil))))) (by kernel_rfl) (by kernel_rfl) ⟨gN rfl rfl (fun t h A => by exact dy (zlv tabOk rfl (A.e rfl rfl rfl) (A.h rfl rfl) rfl rfl)), gN rfl rfl (fun t h A => by exact dy (zlv tabOk rfl (A.e rfl rfl rfl) (A.h rfl rfl) rfl rfl)), gN rfl rfl (fun t h A => by exact zcallA 8 (.t ⟨true, [.d (dS (a0.Ask.Name)), .d (dI (a0.Ask.Typ)), .d (dS (a0.Q.Name)), .d (dI (a0.Q.Typ)), .sr 8 1 0 ((a0.Links.map Record.cells).length) ((a0.Links.map Record.cells).length), .d (dS (a0.Apex)), .sr 9 1 0 ((a0.Servers.map encI).length) ((a0.Servers.map encI).length), .sr 10 1 0 ((a0.Need.map encS).length) ((a0.Need.map encS).length), .d (dI (a0.Down)), .d (dI (a0.Left)), .d (dI (a0.Pc)), .d (dI (a0.X.Id)), .d (dI (a0.X.Addr)), .d (dI (a0.X.Try)), .d (dI (a0.X.Due))]⟩) [(8, .row 6 (a0.Links.map Record.cells) true 1 0), (9, .row 1 (a0.Servers.map encI) true 1 0), (10, .row 1 (a0.Need.map encS) true 1 0)] rfl (tr_toFrame a0 hsr1.2) (ar (A.e rfl rfl rfl) (.d (.d (.d (.d (.d (.d (.d (.d (.d (.d (.d (.d (.d (.d (.d .nil))))))))))))))) .nil) rfl (A.free rfl) rfl rfl), gN rfl rfl (fun t h A => by exact zcallA 11 (.t ⟨false, [.d (dB (true))]⟩) [] rfl (eqT (tr_eqFrame a0 a0 hsr1.2 hsr1.2)) (ar (A.e rfl rfl rfl) (.d (.d (.d (.d (.sr (A.h rfl rfl) le_all take_all (.d (.sr (A.h rfl rfl) le_all take_all (.sr (A.h rfl rfl) le_all take_all (.d (.d (.d (.d (.d (.d (.d .nil))))))))))))))) (ar (A.e rfl rfl rfl) (.d (.d (.d (.d (.sr (A.h rfl rfl) le_all take_all (.d (.sr (A.h rfl rfl) le_all take_all (.sr (A.h rfl rfl) le_all take_all (.d (.d (.d (.d (.d (.d (.d .nil))))))))))))))) .nil)) rfl (free0 rfl) rfl rfl), gN rfl rfl (fun t h A => by exact dy (y_un rfl (A.e rfl rfl rfl) (fun _ => u_not) rfl)), trivial⟩ ?_
  refine s_end ?_
  refine v_cF (e rfl rfl) rfl ?_
  refine v_skip ?_
  refine v_seq ?_
  refine v_reg ?_
  refine sy _ (zas rfl (ec rfl)) rfl rfl ?_
  refine s_end ?_
  refine v_ret ?_
  exact post_ret (rv (.tmp (eg rfl rfl)) rfl (.lf .nil) rfl .nil) (.ro .nil) rfl
end Go.Proofs.YtkcpbahcnlhmjaaDoor.V
