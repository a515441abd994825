/-
  The law FnExactWorldNew, walked.
-/
import Derived.Test.YtglilpigoocgeaaFY
import Derived.Test.YtglilpigoocgeaaFW
import Derived.Test.YtglilpigoocgeaaTConf
import Derived.Test.YtglilpigoocgeaaTWorld
import Derived.Test.YtglilpigoocgeaaN
import Derived.Test.YtglilpigoocgeaaC
namespace Go.Proofs.Ytglilpigoocgeaa.V
open Go
set_option linter.unusedVariables false
set_option linter.unusedSimpArgs false
theorem rd3 {H : Type} {enc : TypeId × Value → H} {W : Go.World} : Rd enc Try.prog W 3 1 (fun v : Int => [.lf (.int .i64 v)]) bndI := rd_i64 Try.underlying3 (by kernel_rfl)
theorem rd22 {H : Type} {enc : TypeId × Value → H} {W : Go.World} : Rd enc Try.prog W 22 1 (fun xs : List Int => [.sl 1 (xs.map encI)]) (bndL bndI) := rd_slice Try.underlying22 (by kernel_rfl) rd3 (by decide) (fun _ => rfl)
theorem rd24 {H : Type} {enc : TypeId × Value → H} {W : Go.World} : Rd enc Try.prog W 24 8 Conf.cells Conf.Bnd := rd_struct (fs := [(0, 3), (1, 3), (2, 3), (3, 3), (4, 3), (5, 3), (6, 3), (7, 22)]) Try.underlying24 (by kernel_rfl) (by kernel_rfl) (rdf_cons rd3 (rdf_cons rd3 (rdf_cons rd3 (rdf_cons rd3 (rdf_cons rd3 (rdf_cons rd3 (rdf_cons rd3 (rdf_cons rd22 (rdf_nil rfl))))))))) (fun p => ⟨p.1, p.2.1, p.2.2.1, p.2.2.2.1, p.2.2.2.2.1, p.2.2.2.2.2.1, p.2.2.2.2.2.2.1, p.2.2.2.2.2.2.2.1⟩) (fun _ => rfl) (fun p h => ⟨h.1, h.2.1, h.2.2.1, h.2.2.2.1, h.2.2.2.2.1, h.2.2.2.2.2.1, h.2.2.2.2.2.2.1, h.2.2.2.2.2.2.2.1⟩)
set_option maxRecDepth 20000 in
theorem tr_law (a0 : Conf) (b0 : Conf.Bnd a0) : Tr Try.prog 3 [.ro ⟨true, [dI (a0.Quota), dI (a0.Depth), dI (a0.Chain), dI (a0.Glue), dI (a0.Tries), dI (a0.Addrs), dI (a0.Cap), .sl 1 (a0.Roots.map encI)]⟩] [one (dB true)] := by
  refine tr_go tabOk Try.func3 rfl rfl rfl rfl rfl (ov := [(0, .t ⟨true, [.d (dI (a0.Quota)), .d (dI (a0.Depth)), .d (dI (a0.Chain)), .d (dI (a0.Glue)), .d (dI (a0.Tries)), .d (dI (a0.Addrs)), .d (dI (a0.Cap)), .d (.sl 1 (a0.Roots.map encI))]⟩)]) (hv := []) rfl rfl ?_
  refine v_seq ?_
  refine v_reg ?_
  refine sr 0 (.t ⟨false, [.vp 0 0]⟩) (.var [.d (dI (a0.Quota)), .d (dI (a0.Depth)), .d (dI (a0.Chain)), .d (dI (a0.Glue)), .d (dI (a0.Tries)), .d (dI (a0.Addrs)), .d (dI (a0.Cap)), .d (.sl 1 (a0.Roots.map encI))]) (zbx rfl (e rfl rfl) rfl rfl rfl) rfl rfl ?_
  refine sy _ (zas rfl (ec rfl)) rfl rfl ?_
  refine s_end ?_
  refine v_seq ?_
  refine v_reg ?_
  refine sy _ (zas rfl (ec rfl)) rfl rfl ?_
  refine s_end ?_
  refine v_seq ?_
  refine v_reg ?_
  refine sy (.t ⟨true, [.d (dI (a0.Quota)), .d (dI (a0.Depth)), .d (dI (a0.Chain)), .d (dI (a0.Glue)), .d (dI (a0.Tries)), .d (dI (a0.Addrs)), .d (dI (a0.Cap)), .d (.sl 1 (a0.Roots.map encI))]⟩) (zlv tabOk rfl (e rfl rfl) rfl rfl rfl) rfl rfl ?_
  refine sy _ (zmv rfl (e rfl rfl)) rfl rfl ?_
  refine sxI (zcallX rfl (tr_szConf a0 b0 1048576 (by omega) (by omega)) (ar (e rfl rfl) (.d (.d (.d (.d (.d (.d (.d (.d .nil)))))))) (ar (e rfl rfl) (.d .nil) .nil))) rfl rfl (fun r1 hr1 => ?_)
  refine sy _ (zas rfl (e rfl rfl)) rfl rfl ?_
  refine s_end ?_
  refine v_seq ?_
  refine v_seq ?_
  refine v_reg ?_
  refine sy _ (zmv rfl (e rfl rfl)) rfl rfl ?_
  refine sy (.t ⟨false, [.d (dB (decide ((r1) < (0))))]⟩) (y_bin rfl (e rfl rfl) (ec rfl) (fun _ => b_lss) rfl) rfl rfl ?_
  refine s_end ?_
  refine v_cond (e rfl rfl) (fun hb2 => ?_) fun hb2 => ?_
  · have hb2p := dec_t hb2
    refine v_seq ?_
    refine v_reg ?_
    refine sy _ (zas rfl (ec rfl)) rfl rfl ?_
    refine s_end ?_
    refine v_ret ?_
    exact post_ret (rv (.tmp (eg rfl rfl)) rfl (.lf .nil) rfl .nil) (.ro .nil) rfl
  have hb2p := dec_f hb2
  have hsr1 := hr1 (by omega)
  have hsr1w := hsr1.1
  refine v_skip ?_
  refine v_seq ?_
  refine v_reg ?_
  refine sy (.t ⟨true, [.d (dI (a0.Quota)), .d (dI (a0.Depth)), .d (dI (a0.Chain)), .d (dI (a0.Glue)), .d (dI (a0.Tries)), .d (dI (a0.Addrs)), .d (dI (a0.Cap)), .d (.sl 1 (a0.Roots.map encI))]⟩) (zlv tabOk rfl (e rfl rfl) rfl rfl rfl) rfl rfl ?_
  refine sd (.t ⟨true, [.d (dI (a0.Quota)), .d (dI (a0.Depth)), .d (dI (a0.Chain)), .d (dI (a0.Glue)), .d (dI (a0.Tries)), .d (dI (a0.Addrs)), .d (dI (a0.Cap)), .sr 1 1 0 ((a0.Roots.map encI).length) ((a0.Roots.map encI).length)]⟩) (zcall 1 (.t ⟨true, [.d (dI (a0.Quota)), .d (dI (a0.Depth)), .d (dI (a0.Chain)), .d (dI (a0.Glue)), .d (dI (a0.Tries)), .d (dI (a0.Addrs)), .d (dI (a0.Cap)), .sr 1 1 0 ((a0.Roots.map encI).length) ((a0.Roots.map encI).length)]⟩) [(1, .row 1 (a0.Roots.map encI) true 1 0)] rfl (tr_toConf a0 hsr1.2) (ar (e rfl rfl) (.d (.d (.d (.d (.d (.d (.d (.d .nil)))))))) .nil) rfl rfl rfl) rfl rfl rfl rfl ?_
  obtain ⟨v1, ev1⟩ : ∃ v : World, v = n_spec_WorldNew a0 := ⟨_, rfl⟩
  have hfv1 : World.Fit v1 := by rw [ev1]; exact fit_WorldNew a0 hsr1.2
  refine sd (.t ⟨true, [.d (dI (v1.C.Quota)), .d (dI (v1.C.Depth)), .d (dI (v1.C.Chain)), .d (dI (v1.C.Glue)), .d (dI (v1.C.Tries)), .d (dI (v1.C.Addrs)), .d (dI (v1.C.Cap)), .d (.sl 1 (v1.C.Roots.map encI)), .d (dI (v1.Now)), .d (dI (v1.K.Cap)), .d (.sl 6 (v1.K.L.map Entry.cells)), .d (.sl 3 (v1.Bad.map Lame.cells)), .d (.sl 7 (v1.Jobs.map Job.cells)), .d (.sl 2 (v1.Outs.map Packet.cells)), .d (.sl 8 (v1.Reps.map Answer.cells)), .d (dI (v1.Next))]⟩) (zcd (.t ⟨true, [.d (dI (v1.C.Quota)), .d (dI (v1.C.Depth)), .d (dI (v1.C.Chain)), .d (dI (v1.C.Glue)), .d (dI (v1.C.Tries)), .d (dI (v1.C.Addrs)), .d (dI (v1.C.Cap)), .d (.sl 1 (v1.C.Roots.map encI)), .d (dI (v1.Now)), .d (dI (v1.K.Cap)), .d (.sl 6 (v1.K.L.map Entry.cells)), .d (.sl 3 (v1.Bad.map Lame.cells)), .d (.sl 7 (v1.Jobs.map Job.cells)), .d (.sl 2 (v1.Outs.map Packet.cells)), .d (.sl 8 (v1.Reps.map Answer.cells)), .d (dI (v1.Next))]⟩) rfl (by rw [ev1]; exact (tr_n_spec_WorldNew a0 hsr1.2) : Tr Try.prog 7 _ [⟨true, [dI (v1.C.Quota), dI (v1.C.Depth), dI (v1.C.Chain), dI (v1.C.Glue), dI (v1.C.Tries), dI (v1.C.Addrs), dI (v1.C.Cap), .sl 1 (v1.C.Roots.map encI), dI (v1.Now), dI (v1.K.Cap), .sl 6 (v1.K.L.map Entry.cells), .sl 3 (v1.Bad.map Lame.cells), .sl 7 (v1.Jobs.map Job.cells), .sl 2 (v1.Outs.map Packet.cells), .sl 8 (v1.Reps.map Answer.cells), dI (v1.Next)]⟩]) (ar (e rfl rfl) (.d (.d (.d (.d (.d (.d (.d (.sr rfl le_all take_all .nil)))))))) .nil) rfl) rfl rfl rfl rfl ?_
  refine sr 2 (.t ⟨false, [.vp 2 0]⟩) (.var [.d (dI (0)), .d (dI (0)), .d (dI (0)), .d (dI (0)), .d (dI (0)), .d (dI (0)), .d (dI (0)), .nl 1, .d (dI (0)), .d (dI (0)), .nl 6, .nl 3, .nl 7, .nl 2, .nl 8, .d (dI (0))]) (zal tabOk rfl rfl rfl rfl) rfl rfl ?_
  refine sw 2 (.var [.d (dI (v1.C.Quota)), .d (dI (v1.C.Depth)), .d (dI (v1.C.Chain)), .d (dI (v1.C.Glue)), .d (dI (v1.C.Tries)), .d (dI (v1.C.Addrs)), .d (dI (v1.C.Cap)), .d (.sl 1 (v1.C.Roots.map encI)), .d (dI (v1.Now)), .d (dI (v1.K.Cap)), .d (.sl 6 (v1.K.L.map Entry.cells)), .d (.sl 3 (v1.Bad.map Lame.cells)), .d (.sl 7 (v1.Jobs.map Job.cells)), .d (.sl 2 (v1.Outs.map Packet.cells)), .d (.sl 8 (v1.Reps.map Answer.cells)), .d (dI (v1.Next))]) (zst tabOk rfl (e rfl rfl) rfl (e rfl rfl) rfl rfl rfl) rfl rfl ?_
  refine s_end ?_
  refine v_seq ?_
  refine v_reg ?_
  refine sy (.t ⟨true, [.d (dI (a0.Quota)), .d (dI (a0.Depth)), .d (dI (a0.Chain)), .d (dI (a0.Glue)), .d (dI (a0.Tries)), .d (dI (a0.Addrs)), .d (dI (a0.Cap)), .d (.sl 1 (a0.Roots.map encI))]⟩) (zlv tabOk rfl (e rfl rfl) rfl rfl rfl) rfl rfl ?_
  refine sd (.t ⟨true, [.d (dI (a0.Quota)), .d (dI (a0.Depth)), .d (dI (a0.Chain)), .d (dI (a0.Glue)), .d (dI (a0.Tries)), .d (dI (a0.Addrs)), .d (dI (a0.Cap)), .sr 3 1 0 ((a0.Roots.map encI).length) ((a0.Roots.map encI).length)]⟩) (zcall 3 (.t ⟨true, [.d (dI (a0.Quota)), .d (dI (a0.Depth)), .d (dI (a0.Chain)), .d (dI (a0.Glue)), .d (dI (a0.Tries)), .d (dI (a0.Addrs)), .d (dI (a0.Cap)), .sr 3 1 0 ((a0.Roots.map encI).length) ((a0.Roots.map encI).length)]⟩) [(3, .row 1 (a0.Roots.map encI) true 1 0)] rfl (tr_toConf a0 hsr1.2) (ar (e rfl rfl) (.d (.d (.d (.d (.d (.d (.d (.d .nil)))))))) .nil) rfl rfl rfl) rfl rfl rfl rfl ?_
  refine sr 4 (.t ⟨false, [.vp 4 0]⟩) (.var [.d (dI (0)), .d (dI (0)), .d (dI (0)), .d (dI (0)), .d (dI (0)), .d (dI (0)), .d (dI (0)), .nl 1]) (zal tabOk rfl rfl rfl rfl) rfl rfl ?_
  refine sw 4 (.var [.d (dI (a0.Quota)), .d (dI (a0.Depth)), .d (dI (a0.Chain)), .d (dI (a0.Glue)), .d (dI (a0.Tries)), .d (dI (a0.Addrs)), .d (dI (a0.Cap)), .sr 3 1 0 ((a0.Roots.map encI).length) ((a0.Roots.map encI).length)]) (zst tabOk rfl (e rfl rfl) rfl (e rfl rfl) rfl rfl rfl) rfl rfl ?_
  refine s_end ?_
  refine v_seq ?_
  refine v_reg ?_
  refine sy (.t ⟨true, [.d (dI (a0.Quota)), .d (dI (a0.Depth)), .d (dI (a0.Chain)), .d (dI (a0.Glue)), .d (dI (a0.Tries)), .d (dI (a0.Addrs)), .d (dI (a0.Cap)), .sr 3 1 0 ((a0.Roots.map encI).length) ((a0.Roots.map encI).length)]⟩) (zlv tabOk rfl (e rfl rfl) rfl rfl rfl) rfl rfl ?_
  refine sd (.t ⟨true, [.d (dI (v1.C.Quota)), .d (dI (v1.C.Depth)), .d (dI (v1.C.Chain)), .d (dI (v1.C.Glue)), .d (dI (v1.C.Tries)), .d (dI (v1.C.Addrs)), .d (dI (v1.C.Cap)), .sr 5 1 0 ((v1.C.Roots.map encI).length) ((v1.C.Roots.map encI).length), .d (dI (v1.Now)), .d (dI (v1.K.Cap)), .sr 6 1 0 ((v1.K.L.map Entry.cells).length) ((v1.K.L.map Entry.cells).length), .sr 7 1 0 ((v1.Bad.map Lame.cells).length) ((v1.Bad.map Lame.cells).length), .sr 8 1 0 ((v1.Jobs.map Job.cells).length) ((v1.Jobs.map Job.cells).length), .sr 9 1 0 ((v1.Outs.map Packet.cells).length) ((v1.Outs.map Packet.cells).length), .sr 10 1 0 ((v1.Reps.map Answer.cells).length) ((v1.Reps.map Answer.cells).length), .d (dI (v1.Next))]⟩) (zcall 5 (.t ⟨true, [.d (dI (v1.C.Quota)), .d (dI (v1.C.Depth)), .d (dI (v1.C.Chain)), .d (dI (v1.C.Glue)), .d (dI (v1.C.Tries)), .d (dI (v1.C.Addrs)), .d (dI (v1.C.Cap)), .sr 5 1 0 ((v1.C.Roots.map encI).length) ((v1.C.Roots.map encI).length), .d (dI (v1.Now)), .d (dI (v1.K.Cap)), .sr 6 1 0 ((v1.K.L.map Entry.cells).length) ((v1.K.L.map Entry.cells).length), .sr 7 1 0 ((v1.Bad.map Lame.cells).length) ((v1.Bad.map Lame.cells).length), .sr 8 1 0 ((v1.Jobs.map Job.cells).length) ((v1.Jobs.map Job.cells).length), .sr 9 1 0 ((v1.Outs.map Packet.cells).length) ((v1.Outs.map Packet.cells).length), .sr 10 1 0 ((v1.Reps.map Answer.cells).length) ((v1.Reps.map Answer.cells).length), .d (dI (v1.Next))]⟩) [(5, .row 1 (v1.C.Roots.map encI) true 1 0), (6, .row 6 (v1.K.L.map Entry.cells) true 1 0), (7, .row 3 (v1.Bad.map Lame.cells) true 1 0), (8, .row 7 (v1.Jobs.map Job.cells) true 1 0), (9, .row 2 (v1.Outs.map Packet.cells) true 1 0), (10, .row 8 (v1.Reps.map Answer.cells) true 1 0)] rfl (by rw [ev1]; exact (tr2_n_impl_WorldNew a0 hsr1.2) : Tr Try.prog 9 _ [⟨true, [dI (v1.C.Quota), dI (v1.C.Depth), dI (v1.C.Chain), dI (v1.C.Glue), dI (v1.C.Tries), dI (v1.C.Addrs), dI (v1.C.Cap), .sl 1 (v1.C.Roots.map encI), dI (v1.Now), dI (v1.K.Cap), .sl 6 (v1.K.L.map Entry.cells), .sl 3 (v1.Bad.map Lame.cells), .sl 7 (v1.Jobs.map Job.cells), .sl 2 (v1.Outs.map Packet.cells), .sl 8 (v1.Reps.map Answer.cells), dI (v1.Next)]⟩]) (ar (e rfl rfl) (.d (.d (.d (.d (.d (.d (.d (.sr rfl le_all take_all .nil)))))))) .nil) rfl rfl rfl) rfl rfl rfl rfl ?_
  refine sr 11 (.t ⟨false, [.vp 11 0]⟩) (.var [.d (dI (0)), .d (dI (0)), .d (dI (0)), .d (dI (0)), .d (dI (0)), .d (dI (0)), .d (dI (0)), .nl 1, .d (dI (0)), .d (dI (0)), .nl 6, .nl 3, .nl 7, .nl 2, .nl 8, .d (dI (0))]) (zal tabOk rfl rfl rfl rfl) rfl rfl ?_
  refine sw 11 (.var [.d (dI (v1.C.Quota)), .d (dI (v1.C.Depth)), .d (dI (v1.C.Chain)), .d (dI (v1.C.Glue)), .d (dI (v1.C.Tries)), .d (dI (v1.C.Addrs)), .d (dI (v1.C.Cap)), .sr 5 1 0 ((v1.C.Roots.map encI).length) ((v1.C.Roots.map encI).length), .d (dI (v1.Now)), .d (dI (v1.K.Cap)), .sr 6 1 0 ((v1.K.L.map Entry.cells).length) ((v1.K.L.map Entry.cells).length), .sr 7 1 0 ((v1.Bad.map Lame.cells).length) ((v1.Bad.map Lame.cells).length), .sr 8 1 0 ((v1.Jobs.map Job.cells).length) ((v1.Jobs.map Job.cells).length), .sr 9 1 0 ((v1.Outs.map Packet.cells).length) ((v1.Outs.map Packet.cells).length), .sr 10 1 0 ((v1.Reps.map Answer.cells).length) ((v1.Reps.map Answer.cells).length), .d (dI (v1.Next))]) (zst tabOk rfl (e rfl rfl) rfl (e rfl rfl) rfl rfl rfl) rfl rfl ?_
  refine s_end ?_
  refine v_seq ?_
  refine v_seq ?_
  refine v_reg ?_
  refine sy (.t ⟨true, [.d (dI (v1.C.Quota)), .d (dI (v1.C.Depth)), .d (dI (v1.C.Chain)), .d (dI (v1.C.Glue)), .d (dI (v1.C.Tries)), .d (dI (v1.C.Addrs)), .d (dI (v1.C.Cap)), .sr 5 1 0 ((v1.C.Roots.map encI).length) ((v1.C.Roots.map encI).length), .d (dI (v1.Now)), .d (dI (v1.K.Cap)), .sr 6 1 0 ((v1.K.L.map Entry.cells).length) ((v1.K.L.map Entry.cells).length), .sr 7 1 0 ((v1.Bad.map Lame.cells).length) ((v1.Bad.map Lame.cells).length), .sr 8 1 0 ((v1.Jobs.map Job.cells).length) ((v1.Jobs.map Job.cells).length), .sr 9 1 0 ((v1.Outs.map Packet.cells).length) ((v1.Outs.map Packet.cells).length), .sr 10 1 0 ((v1.Reps.map Answer.cells).length) ((v1.Reps.map Answer.cells).length), .d (dI (v1.Next))]⟩) (zlv tabOk rfl (e rfl rfl) rfl rfl rfl) rfl rfl ?_
  refine sy (.t ⟨true, [.d (dI (v1.C.Quota)), .d (dI (v1.C.Depth)), .d (dI (v1.C.Chain)), .d (dI (v1.C.Glue)), .d (dI (v1.C.Tries)), .d (dI (v1.C.Addrs)), .d (dI (v1.C.Cap)), .d (.sl 1 (v1.C.Roots.map encI)), .d (dI (v1.Now)), .d (dI (v1.K.Cap)), .d (.sl 6 (v1.K.L.map Entry.cells)), .d (.sl 3 (v1.Bad.map Lame.cells)), .d (.sl 7 (v1.Jobs.map Job.cells)), .d (.sl 2 (v1.Outs.map Packet.cells)), .d (.sl 8 (v1.Reps.map Answer.cells)), .d (dI (v1.Next))]⟩) (zlv tabOk rfl (e rfl rfl) rfl rfl rfl) rfl rfl ?_
  refine sd (.t ⟨false, [.d (dB (true))]⟩) (zcall 12 (.t ⟨false, [.d (dB (true))]⟩) [] rfl (eqT (tr_eqWorld v1 v1 hfv1 hfv1)) (ar (e rfl rfl) (.d (.d (.d (.d (.d (.d (.d (.sr rfl le_all take_all (.d (.d (.sr rfl le_all take_all (.sr rfl le_all take_all (.sr rfl le_all take_all (.sr rfl le_all take_all (.sr rfl le_all take_all (.d .nil)))))))))))))))) (ar (e rfl rfl) (.d (.d (.d (.d (.d (.d (.d (.d (.d (.d (.d (.d (.d (.d (.d (.d .nil)))))))))))))))) .nil)) rfl rfl rfl) rfl rfl rfl rfl ?_
  refine sy (.t ⟨false, [.d (dB (!(true)))]⟩) (y_un rfl (e rfl rfl) (fun _ => u_not) rfl) rfl rfl ?_
  refine s_end ?_
  refine v_cF (e rfl rfl) rfl ?_
  refine v_skip ?_
  refine v_seq ?_
  refine v_seq ?_
  refine v_drw2 [⟨.t ⟨true, [.d (dI (a0.Quota)), .d (dI (a0.Depth)), .d (dI (a0.Chain)), .d (dI (a0.Glue)), .d (dI (a0.Tries)), .d (dI (a0.Addrs)), .d (dI (a0.Cap)), .sr 3 1 0 ((a0.Roots.map encI).length) ((a0.Roots.map encI).length)]⟩, [], [5], [4], false⟩, ⟨.t ⟨true, [.d (dI (a0.Quota)), .d (dI (a0.Depth)), .d (dI (a0.Chain)), .d (dI (a0.Glue)), .d (dI (a0.Tries)), .d (dI (a0.Addrs)), .d (dI (a0.Cap)), .d (.sl 1 (a0.Roots.map encI))]⟩, [], [1], [0], false⟩, ⟨.t ⟨true, [.d (dI (a0.Quota)), .d (dI (a0.Depth)), .d (dI (a0.Chain)), .d (dI (a0.Glue)), .d (dI (a0.Tries)), .d (dI (a0.Addrs)), .d (dI (a0.Cap)), .sr 12 1 0 ((a0.Roots.map encI).length) ((a0.Roots.map encI).length)]⟩, [(12, .row 1 (a0.Roots.map encI) true 1 0)], [28], [], false⟩, ⟨.t ⟨false, [.d (dB (true))]⟩, [], [27, 29], [3, 12], false⟩, ⟨.t ⟨false, [.d (dB (!(true)))]⟩, [], [30], [], false⟩] mixed (.c rfl (.c rfl (.c rfl (.c rfl (.c rfl .nil))))) (.s rfl (.s rfl (.g rfl (.s rfl (.s rfl .nil))))) (by kernel_rfl) (by kernel_rfl) ⟨gN rfl rfl (fun t h A => by exact dy (zlv tabOk rfl (A.e rfl rfl rfl) (A.h rfl rfl) rfl rfl)), gN rfl rfl (fun t h A => by exact dy (zlv tabOk rfl (A.e rfl rfl rfl) (A.h rfl rfl) rfl rfl)), gN rfl rfl (fun t h A => by exact zcallA 12 (.t ⟨true, [.d (dI (a0.Quota)), .d (dI (a0.Depth)), .d (dI (a0.Chain)), .d (dI (a0.Glue)), .d (dI (a0.Tries)), .d (dI (a0.Addrs)), .d (dI (a0.Cap)), .sr 12 1 0 ((a0.Roots.map encI).length) ((a0.Roots.map encI).length)]⟩) [(12, .row 1 (a0.Roots.map encI) true 1 0)] rfl (tr_toConf a0 hsr1.2) (ar (A.e rfl rfl rfl) (.d (.d (.d (.d (.d (.d (.d (.d .nil)))))))) .nil) rfl (A.free rfl) rfl rfl), gN rfl rfl (fun t h A => by exact zcallA 13 (.t ⟨false, [.d (dB (true))]⟩) [] rfl (eqT (tr_eqConf a0 a0 hsr1.2 hsr1.2)) (ar (A.e rfl rfl rfl) (.d (.d (.d (.d (.d (.d (.d (.sr (A.h rfl rfl) le_all take_all .nil)))))))) (ar (A.e rfl rfl rfl) (.d (.d (.d (.d (.d (.d (.d (.sr (A.h rfl rfl) le_all take_all .nil)))))))) .nil)) rfl (free0 rfl) rfl rfl), gN rfl rfl (fun t h A => by exact dy (y_un rfl (A.e rfl rfl rfl) (fun _ => u_not) rfl)), trivial⟩ ?_
  refine s_end ?_
  refine v_cF (e rfl rfl) rfl ?_
  refine v_skip ?_
  refine v_seq ?_
  refine v_reg ?_
  refine sy _ (zas rfl (ec rfl)) rfl rfl ?_
  refine s_end ?_
  refine v_seq ?_
  refine v_reg ?_
  refine sy (.t ⟨true, [.d (dI (a0.Quota)), .d (dI (a0.Depth)), .d (dI (a0.Chain)), .d (dI (a0.Glue)), .d (dI (a0.Tries)), .d (dI (a0.Addrs)), .d (dI (a0.Cap)), .sr 3 1 0 ((a0.Roots.map encI).length) ((a0.Roots.map encI).length)]⟩) (zlv tabOk rfl (e rfl rfl) rfl rfl rfl) rfl rfl ?_
  refine sy _ (zmv rfl (e rfl rfl)) rfl rfl ?_
  have hw82 := a0.wt_le hsr1.2
  have hk83 := mkvConf_ok a0 1 (by omega) (by omega)
  refine sd (.t ⟨false, [.d (dI ((mkvConf a0 1).2))]⟩) (zcall 13 (sc (dI (mkvConf a0 1).2)) [(3, .row 1 ((((mkvConf a0 1).1).Roots).map encI) true 1 (0 + 1))] rfl (tr_markConf a0 hsr1.2 1 (by omega)) (am (e rfl rfl) (.lf (.lf (.lf (.lf (.lf (.lf (.lf (.sr rfl rfl (by simp [mkvConf, mkL_len]) .nil)))))))) (ar (e rfl rfl) (.d .nil) .nil)) rfl rfl rfl) rfl rfl rfl rfl ?_
  refine sy _ (zas rfl (e rfl rfl)) rfl rfl ?_
  refine s_end ?_
  refine v_seq ?_
  refine v_seq ?_
  refine v_reg ?_
  refine sy _ (zmv rfl (e rfl rfl)) rfl rfl ?_
  refine sy (.t ⟨false, [.d (dB (decide (((mkvConf a0 1).2) < (0))))]⟩) (y_bin rfl (e rfl rfl) (ec rfl) (fun _ => b_lss) rfl) rfl rfl ?_
  refine sy _ (zmv rfl (e rfl rfl)) rfl rfl ?_
  have hz3 : (decide (((mkvConf a0 1).2) < (0))) = false := by simp; omega
  refine gr rfl rfl rfl (eg rfl rfl) hz3 ?_
  refine sy (.t ⟨true, [.d (dI (v1.C.Quota)), .d (dI (v1.C.Depth)), .d (dI (v1.C.Chain)), .d (dI (v1.C.Glue)), .d (dI (v1.C.Tries)), .d (dI (v1.C.Addrs)), .d (dI (v1.C.Cap)), .sr 5 1 0 ((v1.C.Roots.map encI).length) ((v1.C.Roots.map encI).length), .d (dI (v1.Now)), .d (dI (v1.K.Cap)), .sr 6 1 0 ((v1.K.L.map Entry.cells).length) ((v1.K.L.map Entry.cells).length), .sr 7 1 0 ((v1.Bad.map Lame.cells).length) ((v1.Bad.map Lame.cells).length), .sr 8 1 0 ((v1.Jobs.map Job.cells).length) ((v1.Jobs.map Job.cells).length), .sr 9 1 0 ((v1.Outs.map Packet.cells).length) ((v1.Outs.map Packet.cells).length), .sr 10 1 0 ((v1.Reps.map Answer.cells).length) ((v1.Reps.map Answer.cells).length), .d (dI (v1.Next))]⟩) (zlv tabOk rfl (e rfl rfl) rfl rfl rfl) rfl rfl ?_
  refine gr rfl rfl rfl (eg rfl rfl) hz3 ?_
  refine sy (.t ⟨true, [.d (dI (v1.C.Quota)), .d (dI (v1.C.Depth)), .d (dI (v1.C.Chain)), .d (dI (v1.C.Glue)), .d (dI (v1.C.Tries)), .d (dI (v1.C.Addrs)), .d (dI (v1.C.Cap)), .d (.sl 1 (v1.C.Roots.map encI)), .d (dI (v1.Now)), .d (dI (v1.K.Cap)), .d (.sl 6 (v1.K.L.map Entry.cells)), .d (.sl 3 (v1.Bad.map Lame.cells)), .d (.sl 7 (v1.Jobs.map Job.cells)), .d (.sl 2 (v1.Outs.map Packet.cells)), .d (.sl 8 (v1.Reps.map Answer.cells)), .d (dI (v1.Next))]⟩) (zlv tabOk rfl (e rfl rfl) rfl rfl rfl) rfl rfl ?_
  refine gr rfl rfl rfl (eg rfl rfl) hz3 ?_
  refine sd (.t ⟨false, [.d (dB (true))]⟩) (zcall 13 (.t ⟨false, [.d (dB (true))]⟩) [] rfl (eqT (tr_eqWorld v1 v1 hfv1 hfv1)) (ar (e rfl rfl) (.d (.d (.d (.d (.d (.d (.d (.sr rfl le_all take_all (.d (.d (.sr rfl le_all take_all (.sr rfl le_all take_all (.sr rfl le_all take_all (.sr rfl le_all take_all (.sr rfl le_all take_all (.d .nil)))))))))))))))) (ar (e rfl rfl) (.d (.d (.d (.d (.d (.d (.d (.d (.d (.d (.d (.d (.d (.d (.d (.d .nil)))))))))))))))) .nil)) rfl rfl rfl) rfl rfl rfl rfl ?_
  refine gr rfl rfl rfl (eg rfl rfl) hz3 ?_
  refine sy (.t ⟨false, [.d (dB (!(true)))]⟩) (y_un rfl (e rfl rfl) (fun _ => u_not) rfl) rfl rfl ?_
  refine sy (.t ⟨false, [.d (dB (!(true)))]⟩) (zpf rfl (e rfl rfl) hz3 (e rfl rfl)) rfl rfl ?_
  refine s_end ?_
  refine v_cF (e rfl rfl) rfl ?_
  refine v_skip ?_
  refine v_seq ?_
  refine v_reg ?_
  refine sy _ (zas rfl (ec rfl)) rfl rfl ?_
  refine s_end ?_
  refine v_seq ?_
  refine v_reg ?_
  refine sy (.t ⟨true, [.d (dI (v1.C.Quota)), .d (dI (v1.C.Depth)), .d (dI (v1.C.Chain)), .d (dI (v1.C.Glue)), .d (dI (v1.C.Tries)), .d (dI (v1.C.Addrs)), .d (dI (v1.C.Cap)), .sr 5 1 0 ((v1.C.Roots.map encI).length) ((v1.C.Roots.map encI).length), .d (dI (v1.Now)), .d (dI (v1.K.Cap)), .sr 6 1 0 ((v1.K.L.map Entry.cells).length) ((v1.K.L.map Entry.cells).length), .sr 7 1 0 ((v1.Bad.map Lame.cells).length) ((v1.Bad.map Lame.cells).length), .sr 8 1 0 ((v1.Jobs.map Job.cells).length) ((v1.Jobs.map Job.cells).length), .sr 9 1 0 ((v1.Outs.map Packet.cells).length) ((v1.Outs.map Packet.cells).length), .sr 10 1 0 ((v1.Reps.map Answer.cells).length) ((v1.Reps.map Answer.cells).length), .d (dI (v1.Next))]⟩) (zlv tabOk rfl (e rfl rfl) rfl rfl rfl) rfl rfl ?_
  refine sy _ (zmv rfl (e rfl rfl)) rfl rfl ?_
  have hw114 : v1.wt ≤ 1048576 := by rw [ev1]; have := wt_WorldNew a0; omega
  have hk115 := mkvWorld_ok v1 1 (by omega) (by omega)
  refine sd (.t ⟨false, [.d (dI ((mkvWorld v1 1).2))]⟩) (zcall 13 (sc (dI (mkvWorld v1 1).2)) [(5, .row 1 (((((mkvWorld v1 1).1).C).Roots).map encI) true 1 (0 + 1)), (6, .row 6 (((((mkvWorld v1 1).1).K).L).map Entry.cells) true 1 (0 + 1)), (7, .row 3 ((((mkvWorld v1 1).1).Bad).map Lame.cells) true 1 (0 + 1)), (8, .row 7 ((((mkvWorld v1 1).1).Jobs).map Job.cells) true 1 (0 + 1)), (9, .row 2 ((((mkvWorld v1 1).1).Outs).map Packet.cells) true 1 (0 + 1)), (10, .row 8 ((((mkvWorld v1 1).1).Reps).map Answer.cells) true 1 (0 + 1))] rfl (tr_markWorld v1 hfv1 1 (by omega)) (am (e rfl rfl) (.lf (.lf (.lf (.lf (.lf (.lf (.lf (.sr rfl rfl (by simp [mkvWorld, mkL_len]) (.lf (.lf (.sr rfl rfl (by simp [mkvWorld, mkL_len]) (.sr rfl rfl (by simp [mkvWorld, mkL_len]) (.sr rfl rfl (by simp [mkvWorld, mkL_len]) (.sr rfl rfl (by simp [mkvWorld, mkL_len]) (.sr rfl rfl (by simp [mkvWorld, mkL_len]) (.lf .nil)))))))))))))))) (ar (e rfl rfl) (.d .nil) .nil)) rfl rfl rfl) rfl rfl rfl rfl ?_
  refine sy _ (zas rfl (e rfl rfl)) rfl rfl ?_
  refine s_end ?_
  refine v_seq ?_
  refine v_reg ?_
  refine sy _ (zas rfl (ec rfl)) rfl rfl ?_
  refine s_end ?_
  refine v_seq ?_
  refine v_reg ?_
  refine sy (.t ⟨true, [.d (dI (v1.C.Quota)), .d (dI (v1.C.Depth)), .d (dI (v1.C.Chain)), .d (dI (v1.C.Glue)), .d (dI (v1.C.Tries)), .d (dI (v1.C.Addrs)), .d (dI (v1.C.Cap)), .sr 5 1 0 ((v1.C.Roots.map encI).length) ((v1.C.Roots.map encI).length), .d (dI (v1.Now)), .d (dI (v1.K.Cap)), .sr 6 1 0 ((v1.K.L.map Entry.cells).length) ((v1.K.L.map Entry.cells).length), .sr 7 1 0 ((v1.Bad.map Lame.cells).length) ((v1.Bad.map Lame.cells).length), .sr 8 1 0 ((v1.Jobs.map Job.cells).length) ((v1.Jobs.map Job.cells).length), .sr 9 1 0 ((v1.Outs.map Packet.cells).length) ((v1.Outs.map Packet.cells).length), .sr 10 1 0 ((v1.Reps.map Answer.cells).length) ((v1.Reps.map Answer.cells).length), .d (dI (v1.Next))]⟩) (zlv tabOk rfl (e rfl rfl) rfl rfl rfl) rfl rfl ?_
  refine sy _ (zmv rfl (e rfl rfl)) rfl rfl ?_
  refine sd (.t ⟨false, [.d (dI ((mkvWorld v1 1).2))]⟩) (zcall 13 (sc (dI (mkvWorld v1 1).2)) [] rfl (tr_heldWorld v1 ((⟨⟨v1.C.Quota, v1.C.Depth, v1.C.Chain, v1.C.Glue, v1.C.Tries, v1.C.Addrs, v1.C.Cap, (((mkvWorld v1 1).1).C).Roots⟩, v1.Now, ⟨v1.K.Cap, (((mkvWorld v1 1).1).K).L⟩, ((mkvWorld v1 1).1).Bad, ((mkvWorld v1 1).1).Jobs, ((mkvWorld v1 1).1).Outs, ((mkvWorld v1 1).1).Reps, v1.Next⟩ : World)) hfv1 1 (by omega) (by omega) rfl) (ar (e rfl rfl) (.d (.d (.d (.d (.d (.d (.d (.sr rfl (le_len (by simp [mkvWorld, mkL_len])) (take_len (by simp [mkvWorld, mkL_len])) (.d (.d (.sr rfl (le_len (by simp [mkvWorld, mkL_len])) (take_len (by simp [mkvWorld, mkL_len])) (.sr rfl (le_len (by simp [mkvWorld, mkL_len])) (take_len (by simp [mkvWorld, mkL_len])) (.sr rfl (le_len (by simp [mkvWorld, mkL_len])) (take_len (by simp [mkvWorld, mkL_len])) (.sr rfl (le_len (by simp [mkvWorld, mkL_len])) (take_len (by simp [mkvWorld, mkL_len])) (.sr rfl (le_len (by simp [mkvWorld, mkL_len])) (take_len (by simp [mkvWorld, mkL_len])) (.d .nil)))))))))))))))) (ar (e rfl rfl) (.d .nil) .nil)) rfl rfl rfl) rfl rfl rfl rfl ?_
  refine sy _ (zas rfl (e rfl rfl)) rfl rfl ?_
  refine s_end ?_
  refine v_seq ?_
  refine v_seq ?_
  refine v_reg ?_
  refine sy _ (zmv rfl (e rfl rfl)) rfl rfl ?_
  refine sy (.t ⟨false, [.d (dB (decide (((mkvWorld v1 1).2) < (0))))]⟩) (y_bin rfl (e rfl rfl) (ec rfl) (fun _ => b_lss) rfl) rfl rfl ?_
  refine s_end ?_
  have hz4 : (decide (((mkvWorld v1 1).2) < (0))) = false := by simp; omega
  refine v_cF (e rfl rfl) hz4 ?_
  refine v_skip ?_
  refine v_seq ?_
  refine v_seq ?_
  refine v_reg ?_
  refine sy _ (zmv rfl (e rfl rfl)) rfl rfl ?_
  refine sy _ (zmv rfl (e rfl rfl)) rfl rfl ?_
  refine sy (.t ⟨false, [.d (dB (decide (((mkvWorld v1 1).2) ≠ ((mkvWorld v1 1).2))))]⟩) (y_bin rfl (e rfl rfl) (e rfl rfl) (fun _ => b_neq) rfl) rfl rfl ?_
  refine s_end ?_
  refine v_cF (e rfl rfl) dec_neq ?_
  refine v_skip ?_
  refine v_seq ?_
  refine v_reg ?_
  refine sy (.t ⟨true, [.d (dI (a0.Quota)), .d (dI (a0.Depth)), .d (dI (a0.Chain)), .d (dI (a0.Glue)), .d (dI (a0.Tries)), .d (dI (a0.Addrs)), .d (dI (a0.Cap)), .d (.sl 1 (a0.Roots.map encI))]⟩) (zlv tabOk rfl (e rfl rfl) rfl rfl rfl) rfl rfl ?_
  refine sd (.t ⟨true, [.d (dI (a0.Quota)), .d (dI (a0.Depth)), .d (dI (a0.Chain)), .d (dI (a0.Glue)), .d (dI (a0.Tries)), .d (dI (a0.Addrs)), .d (dI (a0.Cap)), .sr 13 1 0 ((a0.Roots.map encI).length) ((a0.Roots.map encI).length)]⟩) (zcall 13 (.t ⟨true, [.d (dI (a0.Quota)), .d (dI (a0.Depth)), .d (dI (a0.Chain)), .d (dI (a0.Glue)), .d (dI (a0.Tries)), .d (dI (a0.Addrs)), .d (dI (a0.Cap)), .sr 13 1 0 ((a0.Roots.map encI).length) ((a0.Roots.map encI).length)]⟩) [(13, .row 1 (a0.Roots.map encI) true 1 0)] rfl (tr_toConf a0 hsr1.2) (ar (e rfl rfl) (.d (.d (.d (.d (.d (.d (.d (.d .nil)))))))) .nil) rfl rfl rfl) rfl rfl rfl rfl ?_
  refine sd (.t ⟨true, [.d (dI (v1.C.Quota)), .d (dI (v1.C.Depth)), .d (dI (v1.C.Chain)), .d (dI (v1.C.Glue)), .d (dI (v1.C.Tries)), .d (dI (v1.C.Addrs)), .d (dI (v1.C.Cap)), .sr 14 1 0 ((v1.C.Roots.map encI).length) ((v1.C.Roots.map encI).length), .d (dI (v1.Now)), .d (dI (v1.K.Cap)), .sr 15 1 0 ((v1.K.L.map Entry.cells).length) ((v1.K.L.map Entry.cells).length), .sr 16 1 0 ((v1.Bad.map Lame.cells).length) ((v1.Bad.map Lame.cells).length), .sr 17 1 0 ((v1.Jobs.map Job.cells).length) ((v1.Jobs.map Job.cells).length), .sr 18 1 0 ((v1.Outs.map Packet.cells).length) ((v1.Outs.map Packet.cells).length), .sr 19 1 0 ((v1.Reps.map Answer.cells).length) ((v1.Reps.map Answer.cells).length), .d (dI (v1.Next))]⟩) (zcall 14 (.t ⟨true, [.d (dI (v1.C.Quota)), .d (dI (v1.C.Depth)), .d (dI (v1.C.Chain)), .d (dI (v1.C.Glue)), .d (dI (v1.C.Tries)), .d (dI (v1.C.Addrs)), .d (dI (v1.C.Cap)), .sr 14 1 0 ((v1.C.Roots.map encI).length) ((v1.C.Roots.map encI).length), .d (dI (v1.Now)), .d (dI (v1.K.Cap)), .sr 15 1 0 ((v1.K.L.map Entry.cells).length) ((v1.K.L.map Entry.cells).length), .sr 16 1 0 ((v1.Bad.map Lame.cells).length) ((v1.Bad.map Lame.cells).length), .sr 17 1 0 ((v1.Jobs.map Job.cells).length) ((v1.Jobs.map Job.cells).length), .sr 18 1 0 ((v1.Outs.map Packet.cells).length) ((v1.Outs.map Packet.cells).length), .sr 19 1 0 ((v1.Reps.map Answer.cells).length) ((v1.Reps.map Answer.cells).length), .d (dI (v1.Next))]⟩) [(14, .row 1 (v1.C.Roots.map encI) true 1 0), (15, .row 6 (v1.K.L.map Entry.cells) true 1 0), (16, .row 3 (v1.Bad.map Lame.cells) true 1 0), (17, .row 7 (v1.Jobs.map Job.cells) true 1 0), (18, .row 2 (v1.Outs.map Packet.cells) true 1 0), (19, .row 8 (v1.Reps.map Answer.cells) true 1 0)] rfl (by rw [ev1]; exact (tr2_n_impl_WorldNew a0 hsr1.2) : Tr Try.prog 9 _ [⟨true, [dI (v1.C.Quota), dI (v1.C.Depth), dI (v1.C.Chain), dI (v1.C.Glue), dI (v1.C.Tries), dI (v1.C.Addrs), dI (v1.C.Cap), .sl 1 (v1.C.Roots.map encI), dI (v1.Now), dI (v1.K.Cap), .sl 6 (v1.K.L.map Entry.cells), .sl 3 (v1.Bad.map Lame.cells), .sl 7 (v1.Jobs.map Job.cells), .sl 2 (v1.Outs.map Packet.cells), .sl 8 (v1.Reps.map Answer.cells), dI (v1.Next)]⟩]) (ar (e rfl rfl) (.d (.d (.d (.d (.d (.d (.d (.sr rfl le_all take_all .nil)))))))) .nil) rfl rfl rfl) rfl rfl rfl rfl ?_
  refine sr 20 (.t ⟨false, [.vp 20 0]⟩) (.var [.d (dI (0)), .d (dI (0)), .d (dI (0)), .d (dI (0)), .d (dI (0)), .d (dI (0)), .d (dI (0)), .nl 1, .d (dI (0)), .d (dI (0)), .nl 6, .nl 3, .nl 7, .nl 2, .nl 8, .d (dI (0))]) (zal tabOk rfl rfl rfl rfl) rfl rfl ?_
  refine sw 20 (.var [.d (dI (v1.C.Quota)), .d (dI (v1.C.Depth)), .d (dI (v1.C.Chain)), .d (dI (v1.C.Glue)), .d (dI (v1.C.Tries)), .d (dI (v1.C.Addrs)), .d (dI (v1.C.Cap)), .sr 14 1 0 ((v1.C.Roots.map encI).length) ((v1.C.Roots.map encI).length), .d (dI (v1.Now)), .d (dI (v1.K.Cap)), .sr 15 1 0 ((v1.K.L.map Entry.cells).length) ((v1.K.L.map Entry.cells).length), .sr 16 1 0 ((v1.Bad.map Lame.cells).length) ((v1.Bad.map Lame.cells).length), .sr 17 1 0 ((v1.Jobs.map Job.cells).length) ((v1.Jobs.map Job.cells).length), .sr 18 1 0 ((v1.Outs.map Packet.cells).length) ((v1.Outs.map Packet.cells).length), .sr 19 1 0 ((v1.Reps.map Answer.cells).length) ((v1.Reps.map Answer.cells).length), .d (dI (v1.Next))]) (zst tabOk rfl (e rfl rfl) rfl (e rfl rfl) rfl rfl rfl) rfl rfl ?_
  refine s_end ?_
  refine v_seq ?_
  refine v_seq ?_
  refine v_reg ?_
  refine sy (.t ⟨true, [.d (dI (v1.C.Quota)), .d (dI (v1.C.Depth)), .d (dI (v1.C.Chain)), .d (dI (v1.C.Glue)), .d (dI (v1.C.Tries)), .d (dI (v1.C.Addrs)), .d (dI (v1.C.Cap)), .sr 14 1 0 ((v1.C.Roots.map encI).length) ((v1.C.Roots.map encI).length), .d (dI (v1.Now)), .d (dI (v1.K.Cap)), .sr 15 1 0 ((v1.K.L.map Entry.cells).length) ((v1.K.L.map Entry.cells).length), .sr 16 1 0 ((v1.Bad.map Lame.cells).length) ((v1.Bad.map Lame.cells).length), .sr 17 1 0 ((v1.Jobs.map Job.cells).length) ((v1.Jobs.map Job.cells).length), .sr 18 1 0 ((v1.Outs.map Packet.cells).length) ((v1.Outs.map Packet.cells).length), .sr 19 1 0 ((v1.Reps.map Answer.cells).length) ((v1.Reps.map Answer.cells).length), .d (dI (v1.Next))]⟩) (zlv tabOk rfl (e rfl rfl) rfl rfl rfl) rfl rfl ?_
  refine sy (.t ⟨true, [.d (dI (v1.C.Quota)), .d (dI (v1.C.Depth)), .d (dI (v1.C.Chain)), .d (dI (v1.C.Glue)), .d (dI (v1.C.Tries)), .d (dI (v1.C.Addrs)), .d (dI (v1.C.Cap)), .d (.sl 1 (v1.C.Roots.map encI)), .d (dI (v1.Now)), .d (dI (v1.K.Cap)), .d (.sl 6 (v1.K.L.map Entry.cells)), .d (.sl 3 (v1.Bad.map Lame.cells)), .d (.sl 7 (v1.Jobs.map Job.cells)), .d (.sl 2 (v1.Outs.map Packet.cells)), .d (.sl 8 (v1.Reps.map Answer.cells)), .d (dI (v1.Next))]⟩) (zlv tabOk rfl (e rfl rfl) rfl rfl rfl) rfl rfl ?_
  refine sd (.t ⟨false, [.d (dB (true))]⟩) (zcall 21 (.t ⟨false, [.d (dB (true))]⟩) [] rfl (eqT (tr_eqWorld v1 v1 hfv1 hfv1)) (ar (e rfl rfl) (.d (.d (.d (.d (.d (.d (.d (.sr rfl le_all take_all (.d (.d (.sr rfl le_all take_all (.sr rfl le_all take_all (.sr rfl le_all take_all (.sr rfl le_all take_all (.sr rfl le_all take_all (.d .nil)))))))))))))))) (ar (e rfl rfl) (.d (.d (.d (.d (.d (.d (.d (.d (.d (.d (.d (.d (.d (.d (.d (.d .nil)))))))))))))))) .nil)) rfl rfl rfl) rfl rfl rfl rfl ?_
  refine sy (.t ⟨false, [.d (dB (!(true)))]⟩) (y_un rfl (e rfl rfl) (fun _ => u_not) rfl) rfl rfl ?_
  refine s_end ?_
  refine v_cF (e rfl rfl) rfl ?_
  refine v_skip ?_
  refine v_seq ?_
  refine v_reg ?_
  refine sy _ (zas rfl (ec rfl)) rfl rfl ?_
  refine s_end ?_
  refine v_seq ?_
  refine v_reg ?_
  refine sy (.t ⟨true, [.d (dI (v1.C.Quota)), .d (dI (v1.C.Depth)), .d (dI (v1.C.Chain)), .d (dI (v1.C.Glue)), .d (dI (v1.C.Tries)), .d (dI (v1.C.Addrs)), .d (dI (v1.C.Cap)), .sr 5 1 0 ((v1.C.Roots.map encI).length) ((v1.C.Roots.map encI).length), .d (dI (v1.Now)), .d (dI (v1.K.Cap)), .sr 6 1 0 ((v1.K.L.map Entry.cells).length) ((v1.K.L.map Entry.cells).length), .sr 7 1 0 ((v1.Bad.map Lame.cells).length) ((v1.Bad.map Lame.cells).length), .sr 8 1 0 ((v1.Jobs.map Job.cells).length) ((v1.Jobs.map Job.cells).length), .sr 9 1 0 ((v1.Outs.map Packet.cells).length) ((v1.Outs.map Packet.cells).length), .sr 10 1 0 ((v1.Reps.map Answer.cells).length) ((v1.Reps.map Answer.cells).length), .d (dI (v1.Next))]⟩) (zlv tabOk rfl (e rfl rfl) rfl rfl rfl) rfl rfl ?_
  refine sy _ (zmv rfl (e rfl rfl)) rfl rfl ?_
  refine sd (.t ⟨false, [.d (dI ((mkvWorld v1 1).2))]⟩) (zcall 21 (sc (dI (mkvWorld v1 1).2)) [] rfl (tr_heldWorld v1 ((⟨⟨v1.C.Quota, v1.C.Depth, v1.C.Chain, v1.C.Glue, v1.C.Tries, v1.C.Addrs, v1.C.Cap, (((mkvWorld v1 1).1).C).Roots⟩, v1.Now, ⟨v1.K.Cap, (((mkvWorld v1 1).1).K).L⟩, ((mkvWorld v1 1).1).Bad, ((mkvWorld v1 1).1).Jobs, ((mkvWorld v1 1).1).Outs, ((mkvWorld v1 1).1).Reps, v1.Next⟩ : World)) hfv1 1 (by omega) (by omega) rfl) (ar (e rfl rfl) (.d (.d (.d (.d (.d (.d (.d (.sr rfl (le_len (by simp [mkvWorld, mkL_len])) (take_len (by simp [mkvWorld, mkL_len])) (.d (.d (.sr rfl (le_len (by simp [mkvWorld, mkL_len])) (take_len (by simp [mkvWorld, mkL_len])) (.sr rfl (le_len (by simp [mkvWorld, mkL_len])) (take_len (by simp [mkvWorld, mkL_len])) (.sr rfl (le_len (by simp [mkvWorld, mkL_len])) (take_len (by simp [mkvWorld, mkL_len])) (.sr rfl (le_len (by simp [mkvWorld, mkL_len])) (take_len (by simp [mkvWorld, mkL_len])) (.sr rfl (le_len (by simp [mkvWorld, mkL_len])) (take_len (by simp [mkvWorld, mkL_len])) (.d .nil)))))))))))))))) (ar (e rfl rfl) (.d .nil) .nil)) rfl rfl rfl) rfl rfl rfl rfl ?_
  refine sy _ (zas rfl (e rfl rfl)) rfl rfl ?_
  refine s_end ?_
  refine v_seq ?_
  refine v_seq ?_
  refine v_reg ?_
  refine sy _ (zmv rfl (e rfl rfl)) rfl rfl ?_
  refine sy (.t ⟨false, [.d (dB (decide (((mkvWorld v1 1).2) < (0))))]⟩) (y_bin rfl (e rfl rfl) (ec rfl) (fun _ => b_lss) rfl) rfl rfl ?_
  refine s_end ?_
  refine v_cF (e rfl rfl) hz4 ?_
  refine v_skip ?_
  refine v_seq ?_
  refine v_seq ?_
  refine v_reg ?_
  refine sy _ (zmv rfl (e rfl rfl)) rfl rfl ?_
  refine sy _ (zmv rfl (e rfl rfl)) rfl rfl ?_
  refine sy (.t ⟨false, [.d (dB (decide (((mkvWorld v1 1).2) ≠ ((mkvWorld v1 1).2))))]⟩) (y_bin rfl (e rfl rfl) (e rfl rfl) (fun _ => b_neq) rfl) rfl rfl ?_
  refine s_end ?_
  refine v_cF (e rfl rfl) dec_neq ?_
  refine v_skip ?_
  refine v_seq ?_
  refine v_reg ?_
  refine sy _ (zas rfl (ec rfl)) rfl rfl ?_
  refine s_end ?_
  refine v_ret ?_
  exact post_ret (rv (.tmp (eg rfl rfl)) rfl (.lf .nil) rfl .nil) (.ro .nil) rfl
end Go.Proofs.Ytglilpigoocgeaa.V
