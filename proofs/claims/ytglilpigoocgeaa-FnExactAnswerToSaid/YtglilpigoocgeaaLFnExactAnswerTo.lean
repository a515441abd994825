/-
  The law FnExactAnswerTo, walked.
-/
import Derived.Test.YtglilpigoocgeaaFY
import Derived.Test.YtglilpigoocgeaaFW
import Derived.Test.YtglilpigoocgeaaTAnswer
import Derived.Test.YtglilpigoocgeaaTWorld
import Derived.Test.YtglilpigoocgeaaVE
import Derived.Test.YtglilpigoocgeaaN
import Derived.Test.YtglilpigoocgeaaC
namespace Go.Proofs.Ytglilpigoocgeaa.V
open Go
set_option linter.unusedVariables false
set_option linter.unusedSimpArgs false
theorem rd3 {H : Type} {enc : TypeId × Value → H} {W : Go.World} : Rd enc Try.prog W 3 1 (fun v : Int => [.lf (.int .i64 v)]) bndI := rd_i64 Try.underlying3 (by kernel_rfl)
theorem rd22 {H : Type} {enc : TypeId × Value → H} {W : Go.World} : Rd enc Try.prog W 22 1 (fun xs : List Int => [.sl 1 (xs.map encI)]) (bndL bndI) := rd_slice Try.underlying22 (by kernel_rfl) rd3 (by decide) (fun _ => rfl)
theorem rd24 {H : Type} {enc : TypeId × Value → H} {W : Go.World} : Rd enc Try.prog W 24 8 Conf.cells Conf.Bnd := rd_struct (fs := [(0, 3), (1, 3), (2, 3), (3, 3), (4, 3), (5, 3), (6, 3), (7, 22)]) Try.underlying24 (by kernel_rfl) (by kernel_rfl) (rdf_cons rd3 (rdf_cons rd3 (rdf_cons rd3 (rdf_cons rd3 (rdf_cons rd3 (rdf_cons rd3 (rdf_cons rd3 (rdf_cons rd22 (rdf_nil rfl))))))))) (fun p => ⟨p.1, p.2.1, p.2.2.1, p.2.2.2.1, p.2.2.2.2.1, p.2.2.2.2.2.1, p.2.2.2.2.2.2.1, p.2.2.2.2.2.2.2.1⟩) (fun _ => rfl) (fun p h => ⟨h.1, h.2.1, h.2.2.1, h.2.2.2.1, h.2.2.2.2.1, h.2.2.2.2.2.1, h.2.2.2.2.2.2.1, h.2.2.2.2.2.2.2.1⟩)
theorem rd9 {H : Type} {enc : TypeId × Value → H} {W : Go.World} : Rd enc Try.prog W 9 1 (fun v : ByteArray => [dS v]) bndS := rd_str Try.underlying9 (by kernel_rfl)
theorem rd126 {H : Type} {enc : TypeId × Value → H} {W : Go.World} : Rd enc Try.prog W 126 2 Quest.cells Quest.Bnd := rd_struct (fs := [(0, 9), (1, 3)]) Try.underlying126 (by kernel_rfl) (by kernel_rfl) (rdf_cons rd9 (rdf_cons rd3 (rdf_nil rfl))) (fun p => ⟨p.1, p.2.1⟩) (fun _ => rfl) (fun p h => ⟨h.1, h.2.1⟩)
theorem rd170 {H : Type} {enc : TypeId × Value → H} {W : Go.World} : Rd enc Try.prog W 170 6 Record.cells Record.Bnd := rd_struct (fs := [(0, 9), (1, 3), (2, 3), (3, 3), (4, 9), (5, 9)]) Try.underlying170 (by kernel_rfl) (by kernel_rfl) (rdf_cons rd9 (rdf_cons rd3 (rdf_cons rd3 (rdf_cons rd3 (rdf_cons rd9 (rdf_cons rd9 (rdf_nil rfl))))))) (fun p => ⟨p.1, p.2.1, p.2.2.1, p.2.2.2.1, p.2.2.2.2.1, p.2.2.2.2.2.1⟩) (fun _ => rfl) (fun p h => ⟨h.1, h.2.1, h.2.2.1, h.2.2.2.1, h.2.2.2.2.1, h.2.2.2.2.2.1⟩)
theorem rd133 {H : Type} {enc : TypeId × Value → H} {W : Go.World} : Rd enc Try.prog W 133 1 (fun xs : List Record => [.sl 6 (xs.map Record.cells)]) (bndL Record.Bnd) := rd_slice Try.underlying133 (by kernel_rfl) rd170 (by decide) (fun _ => rfl)
theorem rd155 {H : Type} {enc : TypeId × Value → H} {W : Go.World} : Rd enc Try.prog W 155 6 Entry.cells Entry.Bnd := rd_struct (fs := [(0, 126), (2, 3), (3, 133), (4, 3), (5, 3)]) Try.underlying155 (by kernel_rfl) (by kernel_rfl) (rdf_cons rd126 (rdf_cons rd3 (rdf_cons rd133 (rdf_cons rd3 (rdf_cons rd3 (rdf_nil rfl)))))) (fun p => ⟨p.1, p.2.1, p.2.2.1, p.2.2.2.1, p.2.2.2.2.1⟩) (fun _ => rfl) (fun p h => ⟨h.1, h.2.1, h.2.2.1, h.2.2.2.1, h.2.2.2.2.1⟩)
theorem rd43 {H : Type} {enc : TypeId × Value → H} {W : Go.World} : Rd enc Try.prog W 43 1 (fun xs : List Entry => [.sl 6 (xs.map Entry.cells)]) (bndL Entry.Bnd) := rd_slice Try.underlying43 (by kernel_rfl) rd155 (by decide) (fun _ => rfl)
theorem rd45 {H : Type} {enc : TypeId × Value → H} {W : Go.World} : Rd enc Try.prog W 45 2 Cache.cells Cache.Bnd := rd_struct (fs := [(0, 3), (1, 43)]) Try.underlying45 (by kernel_rfl) (by kernel_rfl) (rdf_cons rd3 (rdf_cons rd43 (rdf_nil rfl))) (fun p => ⟨p.1, p.2.1⟩) (fun _ => rfl) (fun p h => ⟨h.1, h.2.1⟩)
theorem rd124 {H : Type} {enc : TypeId × Value → H} {W : Go.World} : Rd enc Try.prog W 124 3 Lame.cells Lame.Bnd := rd_struct (fs := [(0, 3), (1, 9), (2, 3)]) Try.underlying124 (by kernel_rfl) (by kernel_rfl) (rdf_cons rd3 (rdf_cons rd9 (rdf_cons rd3 (rdf_nil rfl)))) (fun p => ⟨p.1, p.2.1, p.2.2.1⟩) (fun _ => rfl) (fun p h => ⟨h.1, h.2.1, h.2.2.1⟩)
theorem rd46 {H : Type} {enc : TypeId × Value → H} {W : Go.World} : Rd enc Try.prog W 46 1 (fun xs : List Lame => [.sl 3 (xs.map Lame.cells)]) (bndL Lame.Bnd) := rd_slice Try.underlying46 (by kernel_rfl) rd124 (by decide) (fun _ => rfl)
theorem rd86 {H : Type} {enc : TypeId × Value → H} {W : Go.World} : Rd enc Try.prog W 86 1 (fun xs : List ByteArray => [.sl 1 (xs.map encS)]) (bndL bndS) := rd_slice Try.underlying86 (by kernel_rfl) rd9 (by decide) (fun _ => rfl)
theorem rd166 {H : Type} {enc : TypeId × Value → H} {W : Go.World} : Rd enc Try.prog W 166 4 Exch.cells Exch.Bnd := rd_struct (fs := [(0, 3), (1, 3), (2, 3), (3, 3)]) Try.underlying166 (by kernel_rfl) (by kernel_rfl) (rdf_cons rd3 (rdf_cons rd3 (rdf_cons rd3 (rdf_cons rd3 (rdf_nil rfl))))) (fun p => ⟨p.1, p.2.1, p.2.2.1, p.2.2.2.1⟩) (fun _ => rfl) (fun p h => ⟨h.1, h.2.1, h.2.2.1, h.2.2.2.1⟩)
theorem rd168 {H : Type} {enc : TypeId × Value → H} {W : Go.World} : Rd enc Try.prog W 168 15 Frame.cells Frame.Bnd := rd_struct (fs := [(0, 126), (2, 126), (4, 133), (5, 9), (6, 22), (7, 86), (8, 3), (9, 3), (10, 3), (11, 166)]) Try.underlying168 (by kernel_rfl) (by kernel_rfl) (rdf_cons rd126 (rdf_cons rd126 (rdf_cons rd133 (rdf_cons rd9 (rdf_cons rd22 (rdf_cons rd86 (rdf_cons rd3 (rdf_cons rd3 (rdf_cons rd3 (rdf_cons rd166 (rdf_nil rfl))))))))))) (fun p => ⟨p.1, p.2.1, p.2.2.1, p.2.2.2.1, p.2.2.2.2.1, p.2.2.2.2.2.1, p.2.2.2.2.2.2.1, p.2.2.2.2.2.2.2.1, p.2.2.2.2.2.2.2.2.1, p.2.2.2.2.2.2.2.2.2.1⟩) (fun _ => rfl) (fun p h => ⟨h.1, h.2.1, h.2.2.1, h.2.2.2.1, h.2.2.2.2.1, h.2.2.2.2.2.1, h.2.2.2.2.2.2.1, h.2.2.2.2.2.2.2.1, h.2.2.2.2.2.2.2.2.1, h.2.2.2.2.2.2.2.2.2.1⟩)
theorem rd127 {H : Type} {enc : TypeId × Value → H} {W : Go.World} : Rd enc Try.prog W 127 1 (fun xs : List Frame => [.sl 15 (xs.map Frame.cells)]) (bndL Frame.Bnd) := rd_slice Try.underlying127 (by kernel_rfl) rd168 (by decide) (fun _ => rfl)
theorem rd129 {H : Type} {enc : TypeId × Value → H} {W : Go.World} : Rd enc Try.prog W 129 7 Job.cells Job.Bnd := rd_struct (fs := [(0, 3), (1, 3), (2, 126), (4, 3), (5, 3), (6, 127)]) Try.underlying129 (by kernel_rfl) (by kernel_rfl) (rdf_cons rd3 (rdf_cons rd3 (rdf_cons rd126 (rdf_cons rd3 (rdf_cons rd3 (rdf_cons rd127 (rdf_nil rfl))))))) (fun p => ⟨p.1, p.2.1, p.2.2.1, p.2.2.2.1, p.2.2.2.2.1, p.2.2.2.2.2.1⟩) (fun _ => rfl) (fun p h => ⟨h.1, h.2.1, h.2.2.1, h.2.2.2.1, h.2.2.2.2.1, h.2.2.2.2.2.1⟩)
theorem rd47 {H : Type} {enc : TypeId × Value → H} {W : Go.World} : Rd enc Try.prog W 47 1 (fun xs : List Job => [.sl 7 (xs.map Job.cells)]) (bndL Job.Bnd) := rd_slice Try.underlying47 (by kernel_rfl) rd129 (by decide) (fun _ => rfl)
theorem rd5 {H : Type} {enc : TypeId × Value → H} {W : Go.World} : Rd enc Try.prog W 5 1 (fun v : Int => [.lf (.int .u8 v)]) bndU := rd_int Try.underlying5 (by kernel_rfl)
theorem rd115 {H : Type} {enc : TypeId × Value → H} {W : Go.World} : Rd enc Try.prog W 115 1 (fun xs : List Int => [.sl 1 (xs.map encY)]) (bndL bndU) := rd_slice Try.underlying115 (by kernel_rfl) rd5 (by decide) (fun _ => rfl)
theorem rd131 {H : Type} {enc : TypeId × Value → H} {W : Go.World} : Rd enc Try.prog W 131 2 Packet.cells Packet.Bnd := rd_struct (fs := [(0, 3), (1, 115)]) Try.underlying131 (by kernel_rfl) (by kernel_rfl) (rdf_cons rd3 (rdf_cons rd115 (rdf_nil rfl))) (fun p => ⟨p.1, p.2.1⟩) (fun _ => rfl) (fun p h => ⟨h.1, h.2.1⟩)
theorem rd48 {H : Type} {enc : TypeId × Value → H} {W : Go.World} : Rd enc Try.prog W 48 1 (fun xs : List Packet => [.sl 2 (xs.map Packet.cells)]) (bndL Packet.Bnd) := rd_slice Try.underlying48 (by kernel_rfl) rd131 (by decide) (fun _ => rfl)
theorem rd135 {H : Type} {enc : TypeId × Value → H} {W : Go.World} : Rd enc Try.prog W 135 8 Answer.cells Answer.Bnd := rd_struct (fs := [(0, 3), (1, 3), (2, 3), (3, 126), (5, 133), (6, 133), (7, 3)]) Try.underlying135 (by kernel_rfl) (by kernel_rfl) (rdf_cons rd3 (rdf_cons rd3 (rdf_cons rd3 (rdf_cons rd126 (rdf_cons rd133 (rdf_cons rd133 (rdf_cons rd3 (rdf_nil rfl)))))))) (fun p => ⟨p.1, p.2.1, p.2.2.1, p.2.2.2.1, p.2.2.2.2.1, p.2.2.2.2.2.1, p.2.2.2.2.2.2.1⟩) (fun _ => rfl) (fun p h => ⟨h.1, h.2.1, h.2.2.1, h.2.2.2.1, h.2.2.2.2.1, h.2.2.2.2.2.1, h.2.2.2.2.2.2.1⟩)
theorem rd49 {H : Type} {enc : TypeId × Value → H} {W : Go.World} : Rd enc Try.prog W 49 1 (fun xs : List Answer => [.sl 8 (xs.map Answer.cells)]) (bndL Answer.Bnd) := rd_slice Try.underlying49 (by kernel_rfl) rd135 (by decide) (fun _ => rfl)
theorem rd51 {H : Type} {enc : TypeId × Value → H} {W : Go.World} : Rd enc Try.prog W 51 16 World.cells World.Bnd := rd_struct (fs := [(0, 24), (8, 3), (9, 45), (11, 46), (12, 47), (13, 48), (14, 49), (15, 3)]) Try.underlying51 (by kernel_rfl) (by kernel_rfl) (rdf_cons rd24 (rdf_cons rd3 (rdf_cons rd45 (rdf_cons rd46 (rdf_cons rd47 (rdf_cons rd48 (rdf_cons rd49 (rdf_cons rd3 (rdf_nil rfl))))))))) (fun p => ⟨p.1, p.2.1, p.2.2.1, p.2.2.2.1, p.2.2.2.2.1, p.2.2.2.2.2.1, p.2.2.2.2.2.2.1, p.2.2.2.2.2.2.2.1⟩) (fun _ => rfl) (fun p h => ⟨h.1, h.2.1, h.2.2.1, h.2.2.2.1, h.2.2.2.2.1, h.2.2.2.2.2.1, h.2.2.2.2.2.2.1, h.2.2.2.2.2.2.2.1⟩)
set_option maxRecDepth 20000 in
theorem tr_law (a0 : World) (a1 : Int) (b0 : World.Bnd a0) (b1 : bndI a1) : Tr Try.prog 5 [.ro ⟨true, [dI (a0.C.Quota), dI (a0.C.Depth), dI (a0.C.Chain), dI (a0.C.Glue), dI (a0.C.Tries), dI (a0.C.Addrs), dI (a0.C.Cap), .sl 1 (a0.C.Roots.map encI), dI (a0.Now), dI (a0.K.Cap), .sl 6 (a0.K.L.map Entry.cells), .sl 3 (a0.Bad.map Lame.cells), .sl 7 (a0.Jobs.map Job.cells), .sl 2 (a0.Outs.map Packet.cells), .sl 8 (a0.Reps.map Answer.cells), dI (a0.Next)]⟩, .ro ⟨false, [dI (a1)]⟩] [one (dB true)] := by
  refine tr_go tabOk Try.func5 rfl rfl rfl rfl rfl (ov := [(0, .t ⟨true, [.d (dI (a0.C.Quota)), .d (dI (a0.C.Depth)), .d (dI (a0.C.Chain)), .d (dI (a0.C.Glue)), .d (dI (a0.C.Tries)), .d (dI (a0.C.Addrs)), .d (dI (a0.C.Cap)), .d (.sl 1 (a0.C.Roots.map encI)), .d (dI (a0.Now)), .d (dI (a0.K.Cap)), .d (.sl 6 (a0.K.L.map Entry.cells)), .d (.sl 3 (a0.Bad.map Lame.cells)), .d (.sl 7 (a0.Jobs.map Job.cells)), .d (.sl 2 (a0.Outs.map Packet.cells)), .d (.sl 8 (a0.Reps.map Answer.cells)), .d (dI (a0.Next))]⟩), (1, .t ⟨false, [.d (dI (a1))]⟩)]) (hv := []) rfl rfl ?_
  refine v_seq ?_
  refine v_reg ?_
  refine sr 0 (.t ⟨false, [.vp 0 0]⟩) (.var [.d (dI (a0.C.Quota)), .d (dI (a0.C.Depth)), .d (dI (a0.C.Chain)), .d (dI (a0.C.Glue)), .d (dI (a0.C.Tries)), .d (dI (a0.C.Addrs)), .d (dI (a0.C.Cap)), .d (.sl 1 (a0.C.Roots.map encI)), .d (dI (a0.Now)), .d (dI (a0.K.Cap)), .d (.sl 6 (a0.K.L.map Entry.cells)), .d (.sl 3 (a0.Bad.map Lame.cells)), .d (.sl 7 (a0.Jobs.map Job.cells)), .d (.sl 2 (a0.Outs.map Packet.cells)), .d (.sl 8 (a0.Reps.map Answer.cells)), .d (dI (a0.Next))]) (zbx rfl (e rfl rfl) rfl rfl rfl) rfl rfl ?_
  refine sy _ (zas rfl (ec rfl)) rfl rfl ?_
  refine s_end ?_
  refine v_seq ?_
  refine v_reg ?_
  refine sy _ (zas rfl (ec rfl)) rfl rfl ?_
  refine s_end ?_
  refine v_seq ?_
  refine v_reg ?_
  refine sy (.t ⟨true, [.d (dI (a0.C.Quota)), .d (dI (a0.C.Depth)), .d (dI (a0.C.Chain)), .d (dI (a0.C.Glue)), .d (dI (a0.C.Tries)), .d (dI (a0.C.Addrs)), .d (dI (a0.C.Cap)), .d (.sl 1 (a0.C.Roots.map encI)), .d (dI (a0.Now)), .d (dI (a0.K.Cap)), .d (.sl 6 (a0.K.L.map Entry.cells)), .d (.sl 3 (a0.Bad.map Lame.cells)), .d (.sl 7 (a0.Jobs.map Job.cells)), .d (.sl 2 (a0.Outs.map Packet.cells)), .d (.sl 8 (a0.Reps.map Answer.cells)), .d (dI (a0.Next))]⟩) (zlv tabOk rfl (e rfl rfl) rfl rfl rfl) rfl rfl ?_
  refine sy _ (zmv rfl (e rfl rfl)) rfl rfl ?_
  refine sxI (zcallX rfl (tr_szWorld a0 b0 1048576 (by omega) (by omega)) (ar (e rfl rfl) (.d (.d (.d (.d (.d (.d (.d (.d (.d (.d (.d (.d (.d (.d (.d (.d .nil)))))))))))))))) (ar (e rfl rfl) (.d .nil) .nil))) rfl rfl (fun r1 hr1 => ?_)
  refine sy _ (zas rfl (e rfl rfl)) rfl rfl ?_
  refine s_end ?_
  refine v_seq ?_
  refine v_seq ?_
  refine v_reg ?_
  refine sy _ (zmv rfl (e rfl rfl)) rfl rfl ?_
  refine sy (.t ⟨false, [.d (dB (decide ((r1) < (0))))]⟩) (y_bin rfl (e rfl rfl) (ec rfl) (fun _ => b_lss) rfl) rfl rfl ?_
  refine s_end ?_
  refine v_cond (e rfl rfl) (fun hb2 => ?_) fun hb2 => ?_
  · have hb2p := dec_t hb2
    refine v_seq ?_
    refine v_reg ?_
    refine sy _ (zas rfl (ec rfl)) rfl rfl ?_
    refine s_end ?_
    refine v_ret ?_
    exact post_ret (rv (.tmp (eg rfl rfl)) rfl (.lf .nil) rfl .nil) (.ro (.ro .nil)) rfl
  have hb2p := dec_f hb2
  have hsr1 := hr1 (by omega)
  have hsr1w := hsr1.1
  refine v_skip ?_
  refine v_seq ?_
  refine v_reg ?_
  refine sy (.t ⟨true, [.d (dI (a0.C.Quota)), .d (dI (a0.C.Depth)), .d (dI (a0.C.Chain)), .d (dI (a0.C.Glue)), .d (dI (a0.C.Tries)), .d (dI (a0.C.Addrs)), .d (dI (a0.C.Cap)), .d (.sl 1 (a0.C.Roots.map encI)), .d (dI (a0.Now)), .d (dI (a0.K.Cap)), .d (.sl 6 (a0.K.L.map Entry.cells)), .d (.sl 3 (a0.Bad.map Lame.cells)), .d (.sl 7 (a0.Jobs.map Job.cells)), .d (.sl 2 (a0.Outs.map Packet.cells)), .d (.sl 8 (a0.Reps.map Answer.cells)), .d (dI (a0.Next))]⟩) (zlv tabOk rfl (e rfl rfl) rfl rfl rfl) rfl rfl ?_
  refine sd (.t ⟨true, [.d (dI (a0.C.Quota)), .d (dI (a0.C.Depth)), .d (dI (a0.C.Chain)), .d (dI (a0.C.Glue)), .d (dI (a0.C.Tries)), .d (dI (a0.C.Addrs)), .d (dI (a0.C.Cap)), .sr 1 1 0 ((a0.C.Roots.map encI).length) ((a0.C.Roots.map encI).length), .d (dI (a0.Now)), .d (dI (a0.K.Cap)), .sr 2 1 0 ((a0.K.L.map Entry.cells).length) ((a0.K.L.map Entry.cells).length), .sr 3 1 0 ((a0.Bad.map Lame.cells).length) ((a0.Bad.map Lame.cells).length), .sr 4 1 0 ((a0.Jobs.map Job.cells).length) ((a0.Jobs.map Job.cells).length), .sr 5 1 0 ((a0.Outs.map Packet.cells).length) ((a0.Outs.map Packet.cells).length), .sr 6 1 0 ((a0.Reps.map Answer.cells).length) ((a0.Reps.map Answer.cells).length), .d (dI (a0.Next))]⟩) (zcall 1 (.t ⟨true, [.d (dI (a0.C.Quota)), .d (dI (a0.C.Depth)), .d (dI (a0.C.Chain)), .d (dI (a0.C.Glue)), .d (dI (a0.C.Tries)), .d (dI (a0.C.Addrs)), .d (dI (a0.C.Cap)), .sr 1 1 0 ((a0.C.Roots.map encI).length) ((a0.C.Roots.map encI).length), .d (dI (a0.Now)), .d (dI (a0.K.Cap)), .sr 2 1 0 ((a0.K.L.map Entry.cells).length) ((a0.K.L.map Entry.cells).length), .sr 3 1 0 ((a0.Bad.map Lame.cells).length) ((a0.Bad.map Lame.cells).length), .sr 4 1 0 ((a0.Jobs.map Job.cells).length) ((a0.Jobs.map Job.cells).length), .sr 5 1 0 ((a0.Outs.map Packet.cells).length) ((a0.Outs.map Packet.cells).length), .sr 6 1 0 ((a0.Reps.map Answer.cells).length) ((a0.Reps.map Answer.cells).length), .d (dI (a0.Next))]⟩) [(1, .row 1 (a0.C.Roots.map encI) true 1 0), (2, .row 6 (a0.K.L.map Entry.cells) true 1 0), (3, .row 3 (a0.Bad.map Lame.cells) true 1 0), (4, .row 7 (a0.Jobs.map Job.cells) true 1 0), (5, .row 2 (a0.Outs.map Packet.cells) true 1 0), (6, .row 8 (a0.Reps.map Answer.cells) true 1 0)] rfl (tr_toWorld a0 hsr1.2) (ar (e rfl rfl) (.d (.d (.d (.d (.d (.d (.d (.d (.d (.d (.d (.d (.d (.d (.d (.d .nil)))))))))))))))) .nil) rfl rfl rfl) rfl rfl rfl rfl ?_
  refine sy _ (zmv rfl (e rfl rfl)) rfl rfl ?_
  obtain ⟨v1, ev1⟩ : ∃ v : Answer × Bool, v = n_spec_AnswerTo a0 a1 := ⟨_, rfl⟩
  have hfv1p1 : Answer.Fit v1.1 := by rw [ev1]; exact fit_AnswerTo a0 a1 hsr1.2
  refine sd (.tu [⟨true, [.d (dI (v1.1.No)), .d (dI (v1.1.Client)), .d (dI (v1.1.Code)), .d (dS (v1.1.Q.Name)), .d (dI (v1.1.Q.Typ)), .d (.sl 6 (v1.1.Links.map Record.cells)), .d (.sl 6 (v1.1.L.map Record.cells)), .d (dI (v1.1.Sent))]⟩, ⟨false, [.d (dB (v1.2))]⟩]) (zcd (.tu [⟨true, [.d (dI (v1.1.No)), .d (dI (v1.1.Client)), .d (dI (v1.1.Code)), .d (dS (v1.1.Q.Name)), .d (dI (v1.1.Q.Typ)), .d (.sl 6 (v1.1.Links.map Record.cells)), .d (.sl 6 (v1.1.L.map Record.cells)), .d (dI (v1.1.Sent))]⟩, ⟨false, [.d (dB (v1.2))]⟩]) rfl (by rw [ev1]; exact (tr_n_spec_AnswerTo a0 a1 hsr1.2) : Tr Try.prog 22 _ [⟨true, [dI (v1.1.No), dI (v1.1.Client), dI (v1.1.Code), dS (v1.1.Q.Name), dI (v1.1.Q.Typ), .sl 6 (v1.1.Links.map Record.cells), .sl 6 (v1.1.L.map Record.cells), dI (v1.1.Sent)]⟩, ⟨false, [dB (v1.2)]⟩]) (ar (e rfl rfl) (.d (.d (.d (.d (.d (.d (.d (.sr rfl le_all take_all (.d (.d (.sr rfl le_all take_all (.sr rfl le_all take_all (.sr rfl le_all take_all (.sr rfl le_all take_all (.sr rfl le_all take_all (.d .nil)))))))))))))))) (ar (e rfl rfl) (.d .nil) .nil)) rfl) rfl rfl rfl rfl ?_
  refine sy (.tu [⟨true, [.d (dI (v1.1.No)), .d (dI (v1.1.Client)), .d (dI (v1.1.Code)), .d (dS (v1.1.Q.Name)), .d (dI (v1.1.Q.Typ)), .d (.sl 6 (v1.1.Links.map Record.cells)), .d (.sl 6 (v1.1.L.map Record.cells)), .d (dI (v1.1.Sent))]⟩, ⟨false, [.d (dB (v1.2))]⟩]) (zmvt (.inl rfl) (eg rfl rfl)) rfl rfl ?_
  refine sy (.t ⟨true, [.d (dI (v1.1.No)), .d (dI (v1.1.Client)), .d (dI (v1.1.Code)), .d (dS (v1.1.Q.Name)), .d (dI (v1.1.Q.Typ)), .d (.sl 6 (v1.1.Links.map Record.cells)), .d (.sl 6 (v1.1.L.map Record.cells)), .d (dI (v1.1.Sent))]⟩) (y_extract rfl rfl (eg rfl rfl) rfl) rfl rfl ?_
  refine sy (.t ⟨false, [.d (dB (v1.2))]⟩) (y_extract rfl rfl (eg rfl rfl) rfl) rfl rfl ?_
  refine sr 7 (.t ⟨false, [.vp 7 0]⟩) (.var [.d (dI (0)), .d (dI (0)), .d (dI (0)), .d (dS (⟨#[]⟩)), .d (dI (0)), .nl 6, .nl 6, .d (dI (0))]) (zal tabOk rfl rfl rfl rfl) rfl rfl ?_
  refine sw 7 (.var [.d (dI (v1.1.No)), .d (dI (v1.1.Client)), .d (dI (v1.1.Code)), .d (dS (v1.1.Q.Name)), .d (dI (v1.1.Q.Typ)), .d (.sl 6 (v1.1.Links.map Record.cells)), .d (.sl 6 (v1.1.L.map Record.cells)), .d (dI (v1.1.Sent))]) (zst tabOk rfl (e rfl rfl) rfl (e rfl rfl) rfl rfl rfl) rfl rfl ?_
  refine sy _ (zas rfl (e rfl rfl)) rfl rfl ?_
  refine s_end ?_
  refine v_seq ?_
  refine v_reg ?_
  refine sy (.t ⟨true, [.d (dI (a0.C.Quota)), .d (dI (a0.C.Depth)), .d (dI (a0.C.Chain)), .d (dI (a0.C.Glue)), .d (dI (a0.C.Tries)), .d (dI (a0.C.Addrs)), .d (dI (a0.C.Cap)), .d (.sl 1 (a0.C.Roots.map encI)), .d (dI (a0.Now)), .d (dI (a0.K.Cap)), .d (.sl 6 (a0.K.L.map Entry.cells)), .d (.sl 3 (a0.Bad.map Lame.cells)), .d (.sl 7 (a0.Jobs.map Job.cells)), .d (.sl 2 (a0.Outs.map Packet.cells)), .d (.sl 8 (a0.Reps.map Answer.cells)), .d (dI (a0.Next))]⟩) (zlv tabOk rfl (e rfl rfl) rfl rfl rfl) rfl rfl ?_
  refine sd (.t ⟨true, [.d (dI (a0.C.Quota)), .d (dI (a0.C.Depth)), .d (dI (a0.C.Chain)), .d (dI (a0.C.Glue)), .d (dI (a0.C.Tries)), .d (dI (a0.C.Addrs)), .d (dI (a0.C.Cap)), .sr 8 1 0 ((a0.C.Roots.map encI).length) ((a0.C.Roots.map encI).length), .d (dI (a0.Now)), .d (dI (a0.K.Cap)), .sr 9 1 0 ((a0.K.L.map Entry.cells).length) ((a0.K.L.map Entry.cells).length), .sr 10 1 0 ((a0.Bad.map Lame.cells).length) ((a0.Bad.map Lame.cells).length), .sr 11 1 0 ((a0.Jobs.map Job.cells).length) ((a0.Jobs.map Job.cells).length), .sr 12 1 0 ((a0.Outs.map Packet.cells).length) ((a0.Outs.map Packet.cells).length), .sr 13 1 0 ((a0.Reps.map Answer.cells).length) ((a0.Reps.map Answer.cells).length), .d (dI (a0.Next))]⟩) (zcall 8 (.t ⟨true, [.d (dI (a0.C.Quota)), .d (dI (a0.C.Depth)), .d (dI (a0.C.Chain)), .d (dI (a0.C.Glue)), .d (dI (a0.C.Tries)), .d (dI (a0.C.Addrs)), .d (dI (a0.C.Cap)), .sr 8 1 0 ((a0.C.Roots.map encI).length) ((a0.C.Roots.map encI).length), .d (dI (a0.Now)), .d (dI (a0.K.Cap)), .sr 9 1 0 ((a0.K.L.map Entry.cells).length) ((a0.K.L.map Entry.cells).length), .sr 10 1 0 ((a0.Bad.map Lame.cells).length) ((a0.Bad.map Lame.cells).length), .sr 11 1 0 ((a0.Jobs.map Job.cells).length) ((a0.Jobs.map Job.cells).length), .sr 12 1 0 ((a0.Outs.map Packet.cells).length) ((a0.Outs.map Packet.cells).length), .sr 13 1 0 ((a0.Reps.map Answer.cells).length) ((a0.Reps.map Answer.cells).length), .d (dI (a0.Next))]⟩) [(8, .row 1 (a0.C.Roots.map encI) true 1 0), (9, .row 6 (a0.K.L.map Entry.cells) true 1 0), (10, .row 3 (a0.Bad.map Lame.cells) true 1 0), (11, .row 7 (a0.Jobs.map Job.cells) true 1 0), (12, .row 2 (a0.Outs.map Packet.cells) true 1 0), (13, .row 8 (a0.Reps.map Answer.cells) true 1 0)] rfl (tr_toWorld a0 hsr1.2) (ar (e rfl rfl) (.d (.d (.d (.d (.d (.d (.d (.d (.d (.d (.d (.d (.d (.d (.d (.d .nil)))))))))))))))) .nil) rfl rfl rfl) rfl rfl rfl rfl ?_
  refine sr 14 (.t ⟨false, [.vp 14 0]⟩) (.var [.d (dI (0)), .d (dI (0)), .d (dI (0)), .d (dI (0)), .d (dI (0)), .d (dI (0)), .d (dI (0)), .nl 1, .d (dI (0)), .d (dI (0)), .nl 6, .nl 3, .nl 7, .nl 2, .nl 8, .d (dI (0))]) (zal tabOk rfl rfl rfl rfl) rfl rfl ?_
  refine sw 14 (.var [.d (dI (a0.C.Quota)), .d (dI (a0.C.Depth)), .d (dI (a0.C.Chain)), .d (dI (a0.C.Glue)), .d (dI (a0.C.Tries)), .d (dI (a0.C.Addrs)), .d (dI (a0.C.Cap)), .sr 8 1 0 ((a0.C.Roots.map encI).length) ((a0.C.Roots.map encI).length), .d (dI (a0.Now)), .d (dI (a0.K.Cap)), .sr 9 1 0 ((a0.K.L.map Entry.cells).length) ((a0.K.L.map Entry.cells).length), .sr 10 1 0 ((a0.Bad.map Lame.cells).length) ((a0.Bad.map Lame.cells).length), .sr 11 1 0 ((a0.Jobs.map Job.cells).length) ((a0.Jobs.map Job.cells).length), .sr 12 1 0 ((a0.Outs.map Packet.cells).length) ((a0.Outs.map Packet.cells).length), .sr 13 1 0 ((a0.Reps.map Answer.cells).length) ((a0.Reps.map Answer.cells).length), .d (dI (a0.Next))]) (zst tabOk rfl (e rfl rfl) rfl (e rfl rfl) rfl rfl rfl) rfl rfl ?_
  refine s_end ?_
  refine v_seq ?_
  refine v_reg ?_
  refine sy (.t ⟨true, [.d (dI (a0.C.Quota)), .d (dI (a0.C.Depth)), .d (dI (a0.C.Chain)), .d (dI (a0.C.Glue)), .d (dI (a0.C.Tries)), .d (dI (a0.C.Addrs)), .d (dI (a0.C.Cap)), .sr 8 1 0 ((a0.C.Roots.map encI).length) ((a0.C.Roots.map encI).length), .d (dI (a0.Now)), .d (dI (a0.K.Cap)), .sr 9 1 0 ((a0.K.L.map Entry.cells).length) ((a0.K.L.map Entry.cells).length), .sr 10 1 0 ((a0.Bad.map Lame.cells).length) ((a0.Bad.map Lame.cells).length), .sr 11 1 0 ((a0.Jobs.map Job.cells).length) ((a0.Jobs.map Job.cells).length), .sr 12 1 0 ((a0.Outs.map Packet.cells).length) ((a0.Outs.map Packet.cells).length), .sr 13 1 0 ((a0.Reps.map Answer.cells).length) ((a0.Reps.map Answer.cells).length), .d (dI (a0.Next))]⟩) (zlv tabOk rfl (e rfl rfl) rfl rfl rfl) rfl rfl ?_
  refine sy _ (zmv rfl (e rfl rfl)) rfl rfl ?_
  refine sd (.tu [⟨true, [.d (dI (v1.1.No)), .d (dI (v1.1.Client)), .d (dI (v1.1.Code)), .d (dS (v1.1.Q.Name)), .d (dI (v1.1.Q.Typ)), .sr 15 1 0 ((v1.1.Links.map Record.cells).length) ((v1.1.Links.map Record.cells).length), .sr 16 1 0 ((v1.1.L.map Record.cells).length) ((v1.1.L.map Record.cells).length), .d (dI (v1.1.Sent))]⟩, ⟨false, [.d (dB (v1.2))]⟩]) (zcall 15 (.tu [⟨true, [.d (dI (v1.1.No)), .d (dI (v1.1.Client)), .d (dI (v1.1.Code)), .d (dS (v1.1.Q.Name)), .d (dI (v1.1.Q.Typ)), .sr 15 1 0 ((v1.1.Links.map Record.cells).length) ((v1.1.Links.map Record.cells).length), .sr 16 1 0 ((v1.1.L.map Record.cells).length) ((v1.1.L.map Record.cells).length), .d (dI (v1.1.Sent))]⟩, ⟨false, [.d (dB (v1.2))]⟩]) [(15, .row 6 (v1.1.Links.map Record.cells) true 1 0), (16, .row 6 (v1.1.L.map Record.cells) true 1 0)] rfl (by rw [ev1]; exact (tr2_n_impl_AnswerTo a0 a1 hsr1.2) : Tr Try.prog 23 _ [⟨true, [dI (v1.1.No), dI (v1.1.Client), dI (v1.1.Code), dS (v1.1.Q.Name), dI (v1.1.Q.Typ), .sl 6 (v1.1.Links.map Record.cells), .sl 6 (v1.1.L.map Record.cells), dI (v1.1.Sent)]⟩, ⟨false, [dB (v1.2)]⟩]) (ar (e rfl rfl) (.d (.d (.d (.d (.d (.d (.d (.sr rfl le_all take_all (.d (.d (.sr rfl le_all take_all (.sr rfl le_all take_all (.sr rfl le_all take_all (.sr rfl le_all take_all (.sr rfl le_all take_all (.d .nil)))))))))))))))) (ar (e rfl rfl) (.d .nil) .nil)) rfl rfl rfl) rfl rfl rfl rfl ?_
  refine sy (.tu [⟨true, [.d (dI (v1.1.No)), .d (dI (v1.1.Client)), .d (dI (v1.1.Code)), .d (dS (v1.1.Q.Name)), .d (dI (v1.1.Q.Typ)), .sr 15 1 0 ((v1.1.Links.map Record.cells).length) ((v1.1.Links.map Record.cells).length), .sr 16 1 0 ((v1.1.L.map Record.cells).length) ((v1.1.L.map Record.cells).length), .d (dI (v1.1.Sent))]⟩, ⟨false, [.d (dB (v1.2))]⟩]) (zmvt (.inl rfl) (eg rfl rfl)) rfl rfl ?_
  refine sy (.t ⟨true, [.d (dI (v1.1.No)), .d (dI (v1.1.Client)), .d (dI (v1.1.Code)), .d (dS (v1.1.Q.Name)), .d (dI (v1.1.Q.Typ)), .sr 15 1 0 ((v1.1.Links.map Record.cells).length) ((v1.1.Links.map Record.cells).length), .sr 16 1 0 ((v1.1.L.map Record.cells).length) ((v1.1.L.map Record.cells).length), .d (dI (v1.1.Sent))]⟩) (y_extract rfl rfl (eg rfl rfl) rfl) rfl rfl ?_
  refine sy (.t ⟨false, [.d (dB (v1.2))]⟩) (y_extract rfl rfl (eg rfl rfl) rfl) rfl rfl ?_
  refine sr 17 (.t ⟨false, [.vp 17 0]⟩) (.var [.d (dI (0)), .d (dI (0)), .d (dI (0)), .d (dS (⟨#[]⟩)), .d (dI (0)), .nl 6, .nl 6, .d (dI (0))]) (zal tabOk rfl rfl rfl rfl) rfl rfl ?_
  refine sw 17 (.var [.d (dI (v1.1.No)), .d (dI (v1.1.Client)), .d (dI (v1.1.Code)), .d (dS (v1.1.Q.Name)), .d (dI (v1.1.Q.Typ)), .sr 15 1 0 ((v1.1.Links.map Record.cells).length) ((v1.1.Links.map Record.cells).length), .sr 16 1 0 ((v1.1.L.map Record.cells).length) ((v1.1.L.map Record.cells).length), .d (dI (v1.1.Sent))]) (zst tabOk rfl (e rfl rfl) rfl (e rfl rfl) rfl rfl rfl) rfl rfl ?_
  refine sy _ (zas rfl (e rfl rfl)) rfl rfl ?_
  refine s_end ?_
  refine v_seq ?_
  refine v_seq ?_
  refine v_reg ?_
  refine sy (.t ⟨true, [.d (dI (v1.1.No)), .d (dI (v1.1.Client)), .d (dI (v1.1.Code)), .d (dS (v1.1.Q.Name)), .d (dI (v1.1.Q.Typ)), .sr 15 1 0 ((v1.1.Links.map Record.cells).length) ((v1.1.Links.map Record.cells).length), .sr 16 1 0 ((v1.1.L.map Record.cells).length) ((v1.1.L.map Record.cells).length), .d (dI (v1.1.Sent))]⟩) (zlv tabOk rfl (e rfl rfl) rfl rfl rfl) rfl rfl ?_
  refine sy (.t ⟨true, [.d (dI (v1.1.No)), .d (dI (v1.1.Client)), .d (dI (v1.1.Code)), .d (dS (v1.1.Q.Name)), .d (dI (v1.1.Q.Typ)), .d (.sl 6 (v1.1.Links.map Record.cells)), .d (.sl 6 (v1.1.L.map Record.cells)), .d (dI (v1.1.Sent))]⟩) (zlv tabOk rfl (e rfl rfl) rfl rfl rfl) rfl rfl ?_
  refine sd (.t ⟨false, [.d (dB (true))]⟩) (zcall 18 (.t ⟨false, [.d (dB (true))]⟩) [] rfl (eqT (tr_eqAnswer v1.1 v1.1 hfv1p1 hfv1p1)) (ar (e rfl rfl) (.d (.d (.d (.d (.d (.sr rfl le_all take_all (.sr rfl le_all take_all (.d .nil)))))))) (ar (e rfl rfl) (.d (.d (.d (.d (.d (.d (.d (.d .nil)))))))) .nil)) rfl rfl rfl) rfl rfl rfl rfl ?_
  refine sy (.t ⟨false, [.d (dB (!(true)))]⟩) (y_un rfl (e rfl rfl) (fun _ => u_not) rfl) rfl rfl ?_
  refine sy _ (zmv rfl (e rfl rfl)) rfl rfl ?_
  refine gr rfl rfl rfl (eg rfl rfl) rfl ?_
  refine sy _ (zmv rfl (e rfl rfl)) rfl rfl ?_
  refine gr rfl rfl rfl (eg rfl rfl) rfl ?_
  refine sy _ (zmv rfl (e rfl rfl)) rfl rfl ?_
  refine gr rfl rfl rfl (eg rfl rfl) rfl ?_
  refine sy (.t ⟨false, [.d (dB (decide ((v1.2) ≠ (v1.2))))]⟩) (y_bin rfl (e rfl rfl) (e rfl rfl) (fun _ => b_bneq (by kernel_rfl)) rfl) rfl rfl ?_
  refine sy (.t ⟨false, [.d (dB (decide ((v1.2) ≠ (v1.2))))]⟩) (zpf rfl (e rfl rfl) rfl (e rfl rfl)) rfl rfl ?_
  refine s_end ?_
  refine v_cF (e rfl rfl) dec_neq ?_
  refine v_skip ?_
  refine v_seq ?_
  refine v_seq ?_
  refine v_drw2 [⟨.t ⟨true, [.d (dI (a0.C.Quota)), .d (dI (a0.C.Depth)), .d (dI (a0.C.Chain)), .d (dI (a0.C.Glue)), .d (dI (a0.C.Tries)), .d (dI (a0.C.Addrs)), .d (dI (a0.C.Cap)), .sr 8 1 0 ((a0.C.Roots.map encI).length) ((a0.C.Roots.map encI).length), .d (dI (a0.Now)), .d (dI (a0.K.Cap)), .sr 9 1 0 ((a0.K.L.map Entry.cells).length) ((a0.K.L.map Entry.cells).length), .sr 10 1 0 ((a0.Bad.map Lame.cells).length) ((a0.Bad.map Lame.cells).length), .sr 11 1 0 ((a0.Jobs.map Job.cells).length) ((a0.Jobs.map Job.cells).length), .sr 12 1 0 ((a0.Outs.map Packet.cells).length) ((a0.Outs.map Packet.cells).length), .sr 13 1 0 ((a0.Reps.map Answer.cells).length) ((a0.Reps.map Answer.cells).length), .d (dI (a0.Next))]⟩, [], [8], [14], false⟩, ⟨.t ⟨true, [.d (dI (a0.C.Quota)), .d (dI (a0.C.Depth)), .d (dI (a0.C.Chain)), .d (dI (a0.C.Glue)), .d (dI (a0.C.Tries)), .d (dI (a0.C.Addrs)), .d (dI (a0.C.Cap)), .d (.sl 1 (a0.C.Roots.map encI)), .d (dI (a0.Now)), .d (dI (a0.K.Cap)), .d (.sl 6 (a0.K.L.map Entry.cells)), .d (.sl 3 (a0.Bad.map Lame.cells)), .d (.sl 7 (a0.Jobs.map Job.cells)), .d (.sl 2 (a0.Outs.map Packet.cells)), .d (.sl 8 (a0.Reps.map Answer.cells)), .d (dI (a0.Next))]⟩, [], [2], [0], false⟩, ⟨.t ⟨true, [.d (dI (a0.C.Quota)), .d (dI (a0.C.Depth)), .d (dI (a0.C.Chain)), .d (dI (a0.C.Glue)), .d (dI (a0.C.Tries)), .d (dI (a0.C.Addrs)), .d (dI (a0.C.Cap)), .sr 18 1 0 ((a0.C.Roots.map encI).length) ((a0.C.Roots.map encI).length), .d (dI (a0.Now)), .d (dI (a0.K.Cap)), .sr 19 1 0 ((a0.K.L.map Entry.cells).length) ((a0.K.L.map Entry.cells).length), .sr 20 1 0 ((a0.Bad.map Lame.cells).length) ((a0.Bad.map Lame.cells).length), .sr 21 1 0 ((a0.Jobs.map Job.cells).length) ((a0.Jobs.map Job.cells).length), .sr 22 1 0 ((a0.Outs.map Packet.cells).length) ((a0.Outs.map Packet.cells).length), .sr 23 1 0 ((a0.Reps.map Answer.cells).length) ((a0.Reps.map Answer.cells).length), .d (dI (a0.Next))]⟩, [(18, .row 1 (a0.C.Roots.map encI) true 1 0), (19, .row 6 (a0.K.L.map Entry.cells) true 1 0), (20, .row 3 (a0.Bad.map Lame.cells) true 1 0), (21, .row 7 (a0.Jobs.map Job.cells) true 1 0), (22, .row 2 (a0.Outs.map Packet.cells) true 1 0), (23, .row 8 (a0.Reps.map Answer.cells) true 1 0)], [46], [], false⟩, ⟨.t ⟨false, [.d (dB (true))]⟩, [], [45, 47], [13, 12, 11, 10, 9, 8, 23, 22, 21, 20, 19, 18], false⟩, ⟨.t ⟨false, [.d (dB (!(true)))]⟩, [], [48], [], false⟩] mixed (.c rfl (.c rfl (.c rfl (.c rfl (.c rfl .nil))))) (.s rfl (.s rfl (.g rfl (.s rfl (.s rfl .nil))))) (by kernel_rfl) (by kernel_rfl) ⟨gN rfl rfl (fun t h A => by exact dy (zlv tabOk rfl (A.e rfl rfl rfl) (A.h rfl rfl) rfl rfl)), gN rfl rfl (fun t h A => by exact dy (zlv tabOk rfl (A.e rfl rfl rfl) (A.h rfl rfl) rfl rfl)), gN rfl rfl (fun t h A => by exact zcallA 18 (.t ⟨true, [.d (dI (a0.C.Quota)), .d (dI (a0.C.Depth)), .d (dI (a0.C.Chain)), .d (dI (a0.C.Glue)), .d (dI (a0.C.Tries)), .d (dI (a0.C.Addrs)), .d (dI (a0.C.Cap)), .sr 18 1 0 ((a0.C.Roots.map encI).length) ((a0.C.Roots.map encI).length), .d (dI (a0.Now)), .d (dI (a0.K.Cap)), .sr 19 1 0 ((a0.K.L.map Entry.cells).length) ((a0.K.L.map Entry.cells).length), .sr 20 1 0 ((a0.Bad.map Lame.cells).length) ((a0.Bad.map Lame.cells).length), .sr 21 1 0 ((a0.Jobs.map Job.cells).length) ((a0.Jobs.map Job.cells).length), .sr 22 1 0 ((a0.Outs.map Packet.cells).length) ((a0.Outs.map Packet.cells).length), .sr 23 1 0 ((a0.Reps.map Answer.cells).length) ((a0.Reps.map Answer.cells).length), .d (dI (a0.Next))]⟩) [(18, .row 1 (a0.C.Roots.map encI) true 1 0), (19, .row 6 (a0.K.L.map Entry.cells) true 1 0), (20, .row 3 (a0.Bad.map Lame.cells) true 1 0), (21, .row 7 (a0.Jobs.map Job.cells) true 1 0), (22, .row 2 (a0.Outs.map Packet.cells) true 1 0), (23, .row 8 (a0.Reps.map Answer.cells) true 1 0)] rfl (tr_toWorld a0 hsr1.2) (ar (A.e rfl rfl rfl) (.d (.d (.d (.d (.d (.d (.d (.d (.d (.d (.d (.d (.d (.d (.d (.d .nil)))))))))))))))) .nil) rfl (A.free rfl) rfl rfl), gN rfl rfl (fun t h A => by exact zcallA 24 (.t ⟨false, [.d (dB (true))]⟩) [] rfl (eqT (tr_eqWorld a0 a0 hsr1.2 hsr1.2)) (ar (A.e rfl rfl rfl) (.d (.d (.d (.d (.d (.d (.d (.sr (A.h rfl rfl) le_all take_all (.d (.d (.sr (A.h rfl rfl) le_all take_all (.sr (A.h rfl rfl) le_all take_all (.sr (A.h rfl rfl) le_all take_all (.sr (A.h rfl rfl) le_all take_all (.sr (A.h rfl rfl) le_all take_all (.d .nil)))))))))))))))) (ar (A.e rfl rfl rfl) (.d (.d (.d (.d (.d (.d (.d (.sr (A.h rfl rfl) le_all take_all (.d (.d (.sr (A.h rfl rfl) le_all take_all (.sr (A.h rfl rfl) le_all take_all (.sr (A.h rfl rfl) le_all take_all (.sr (A.h rfl rfl) le_all take_all (.sr (A.h rfl rfl) le_all take_all (.d .nil)))))))))))))))) .nil)) rfl (free0 rfl) rfl rfl), gN rfl rfl (fun t h A => by exact dy (y_un rfl (A.e rfl rfl rfl) (fun _ => u_not) rfl)), trivial⟩ ?_
  refine s_end ?_
  refine v_cF (e rfl rfl) rfl ?_
  refine v_skip ?_
  refine v_seq ?_
  refine v_reg ?_
  refine sy _ (zas rfl (ec rfl)) rfl rfl ?_
  refine s_end ?_
  refine v_seq ?_
  refine v_reg ?_
  refine sy (.t ⟨true, [.d (dI (a0.C.Quota)), .d (dI (a0.C.Depth)), .d (dI (a0.C.Chain)), .d (dI (a0.C.Glue)), .d (dI (a0.C.Tries)), .d (dI (a0.C.Addrs)), .d (dI (a0.C.Cap)), .sr 8 1 0 ((a0.C.Roots.map encI).length) ((a0.C.Roots.map encI).length), .d (dI (a0.Now)), .d (dI (a0.K.Cap)), .sr 9 1 0 ((a0.K.L.map Entry.cells).length) ((a0.K.L.map Entry.cells).length), .sr 10 1 0 ((a0.Bad.map Lame.cells).length) ((a0.Bad.map Lame.cells).length), .sr 11 1 0 ((a0.Jobs.map Job.cells).length) ((a0.Jobs.map Job.cells).length), .sr 12 1 0 ((a0.Outs.map Packet.cells).length) ((a0.Outs.map Packet.cells).length), .sr 13 1 0 ((a0.Reps.map Answer.cells).length) ((a0.Reps.map Answer.cells).length), .d (dI (a0.Next))]⟩) (zlv tabOk rfl (e rfl rfl) rfl rfl rfl) rfl rfl ?_
  refine sy _ (zmv rfl (e rfl rfl)) rfl rfl ?_
  have hw100 := a0.wt_le hsr1.2
  have hk101 := mkvWorld_ok a0 1 (by omega) (by omega)
  refine sd (.t ⟨false, [.d (dI ((mkvWorld a0 1).2))]⟩) (zcall 24 (sc (dI (mkvWorld a0 1).2)) [(8, .row 1 (((((mkvWorld a0 1).1).C).Roots).map encI) true 1 (0 + 1)), (9, .row 6 (((((mkvWorld a0 1).1).K).L).map Entry.cells) true 1 (0 + 1)), (10, .row 3 ((((mkvWorld a0 1).1).Bad).map Lame.cells) true 1 (0 + 1)), (11, .row 7 ((((mkvWorld a0 1).1).Jobs).map Job.cells) true 1 (0 + 1)), (12, .row 2 ((((mkvWorld a0 1).1).Outs).map Packet.cells) true 1 (0 + 1)), (13, .row 8 ((((mkvWorld a0 1).1).Reps).map Answer.cells) true 1 (0 + 1))] rfl (tr_markWorld a0 hsr1.2 1 (by omega)) (am (e rfl rfl) (.lf (.lf (.lf (.lf (.lf (.lf (.lf (.sr rfl rfl (by simp [mkvWorld, mkL_len]) (.lf (.lf (.sr rfl rfl (by simp [mkvWorld, mkL_len]) (.sr rfl rfl (by simp [mkvWorld, mkL_len]) (.sr rfl rfl (by simp [mkvWorld, mkL_len]) (.sr rfl rfl (by simp [mkvWorld, mkL_len]) (.sr rfl rfl (by simp [mkvWorld, mkL_len]) (.lf .nil)))))))))))))))) (ar (e rfl rfl) (.d .nil) .nil)) rfl rfl rfl) rfl rfl rfl rfl ?_
  refine sy _ (zas rfl (e rfl rfl)) rfl rfl ?_
  refine s_end ?_
  refine v_seq ?_
  refine v_seq ?_
  refine v_reg ?_
  refine sy _ (zmv rfl (e rfl rfl)) rfl rfl ?_
  refine sy (.t ⟨false, [.d (dB (decide (((mkvWorld a0 1).2) < (0))))]⟩) (y_bin rfl (e rfl rfl) (ec rfl) (fun _ => b_lss) rfl) rfl rfl ?_
  refine sy _ (zmv rfl (e rfl rfl)) rfl rfl ?_
  have hz3 : (decide (((mkvWorld a0 1).2) < (0))) = false := by simp; omega
  refine gr rfl rfl rfl (eg rfl rfl) hz3 ?_
  refine sy (.t ⟨true, [.d (dI (v1.1.No)), .d (dI (v1.1.Client)), .d (dI (v1.1.Code)), .d (dS (v1.1.Q.Name)), .d (dI (v1.1.Q.Typ)), .sr 15 1 0 ((v1.1.Links.map Record.cells).length) ((v1.1.Links.map Record.cells).length), .sr 16 1 0 ((v1.1.L.map Record.cells).length) ((v1.1.L.map Record.cells).length), .d (dI (v1.1.Sent))]⟩) (zlv tabOk rfl (e rfl rfl) rfl rfl rfl) rfl rfl ?_
  refine gr rfl rfl rfl (eg rfl rfl) hz3 ?_
  refine sy (.t ⟨true, [.d (dI (v1.1.No)), .d (dI (v1.1.Client)), .d (dI (v1.1.Code)), .d (dS (v1.1.Q.Name)), .d (dI (v1.1.Q.Typ)), .d (.sl 6 (v1.1.Links.map Record.cells)), .d (.sl 6 (v1.1.L.map Record.cells)), .d (dI (v1.1.Sent))]⟩) (zlv tabOk rfl (e rfl rfl) rfl rfl rfl) rfl rfl ?_
  refine gr rfl rfl rfl (eg rfl rfl) hz3 ?_
  refine sd (.t ⟨false, [.d (dB (true))]⟩) (zcall 24 (.t ⟨false, [.d (dB (true))]⟩) [] rfl (eqT (tr_eqAnswer v1.1 v1.1 hfv1p1 hfv1p1)) (ar (e rfl rfl) (.d (.d (.d (.d (.d (.sr rfl le_all take_all (.sr rfl le_all take_all (.d .nil)))))))) (ar (e rfl rfl) (.d (.d (.d (.d (.d (.d (.d (.d .nil)))))))) .nil)) rfl rfl rfl) rfl rfl rfl rfl ?_
  refine gr rfl rfl rfl (eg rfl rfl) hz3 ?_
  refine sy (.t ⟨false, [.d (dB (!(true)))]⟩) (y_un rfl (e rfl rfl) (fun _ => u_not) rfl) rfl rfl ?_
  refine sy (.t ⟨false, [.d (dB (!(true)))]⟩) (zpf rfl (e rfl rfl) hz3 (e rfl rfl)) rfl rfl ?_
  refine sy _ (zmv rfl (e rfl rfl)) rfl rfl ?_
  refine gr rfl rfl rfl (eg rfl rfl) rfl ?_
  refine sy _ (zmv rfl (e rfl rfl)) rfl rfl ?_
  refine gr rfl rfl rfl (eg rfl rfl) rfl ?_
  refine sy _ (zmv rfl (e rfl rfl)) rfl rfl ?_
  refine gr rfl rfl rfl (eg rfl rfl) rfl ?_
  refine sy (.t ⟨false, [.d (dB (decide ((v1.2) ≠ (v1.2))))]⟩) (y_bin rfl (e rfl rfl) (e rfl rfl) (fun _ => b_bneq (by kernel_rfl)) rfl) rfl rfl ?_
  refine sy (.t ⟨false, [.d (dB (decide ((v1.2) ≠ (v1.2))))]⟩) (zpf rfl (e rfl rfl) rfl (e rfl rfl)) rfl rfl ?_
  refine s_end ?_
  refine v_cF (e rfl rfl) dec_neq ?_
  refine v_skip ?_
  refine v_seq ?_
  refine v_reg ?_
  refine sy _ (zas rfl (ec rfl)) rfl rfl ?_
  refine s_end ?_
  refine v_seq ?_
  refine v_reg ?_
  refine sy (.t ⟨true, [.d (dI (v1.1.No)), .d (dI (v1.1.Client)), .d (dI (v1.1.Code)), .d (dS (v1.1.Q.Name)), .d (dI (v1.1.Q.Typ)), .sr 15 1 0 ((v1.1.Links.map Record.cells).length) ((v1.1.Links.map Record.cells).length), .sr 16 1 0 ((v1.1.L.map Record.cells).length) ((v1.1.L.map Record.cells).length), .d (dI (v1.1.Sent))]⟩) (zlv tabOk rfl (e rfl rfl) rfl rfl rfl) rfl rfl ?_
  refine sy _ (zmv rfl (e rfl rfl)) rfl rfl ?_
  have hw140 := v1.1.wt_le hfv1p1
  have hk141 := mkvAnswer_ok v1.1 1 (by omega) (by omega)
  refine sd (.t ⟨false, [.d (dI ((mkvAnswer v1.1 1).2))]⟩) (zcall 24 (sc (dI (mkvAnswer v1.1 1).2)) [(15, .row 6 ((((mkvAnswer v1.1 1).1).Links).map Record.cells) true 1 (0 + 1)), (16, .row 6 ((((mkvAnswer v1.1 1).1).L).map Record.cells) true 1 (0 + 1))] rfl (tr_markAnswer v1.1 hfv1p1 1 (by omega)) (am (e rfl rfl) (.lf (.lf (.lf (.lf (.lf (.sr rfl rfl (by simp [mkvAnswer, mkL_len]) (.sr rfl rfl (by simp [mkvAnswer, mkL_len]) (.lf .nil)))))))) (ar (e rfl rfl) (.d .nil) .nil)) rfl rfl rfl) rfl rfl rfl rfl ?_
  refine sy _ (zas rfl (e rfl rfl)) rfl rfl ?_
  refine s_end ?_
  refine v_seq ?_
  refine v_reg ?_
  refine sy _ (zas rfl (ec rfl)) rfl rfl ?_
  refine s_end ?_
  refine v_seq ?_
  refine v_reg ?_
  refine sy (.t ⟨true, [.d (dI (v1.1.No)), .d (dI (v1.1.Client)), .d (dI (v1.1.Code)), .d (dS (v1.1.Q.Name)), .d (dI (v1.1.Q.Typ)), .sr 15 1 0 ((v1.1.Links.map Record.cells).length) ((v1.1.Links.map Record.cells).length), .sr 16 1 0 ((v1.1.L.map Record.cells).length) ((v1.1.L.map Record.cells).length), .d (dI (v1.1.Sent))]⟩) (zlv tabOk rfl (e rfl rfl) rfl rfl rfl) rfl rfl ?_
  refine sy _ (zmv rfl (e rfl rfl)) rfl rfl ?_
  refine sd (.t ⟨false, [.d (dI ((mkvAnswer v1.1 1).2))]⟩) (zcall 24 (sc (dI (mkvAnswer v1.1 1).2)) [] rfl (tr_heldAnswer v1.1 ((⟨v1.1.No, v1.1.Client, v1.1.Code, v1.1.Q, ((mkvAnswer v1.1 1).1).Links, ((mkvAnswer v1.1 1).1).L, v1.1.Sent⟩ : Answer)) hfv1p1 1 (by omega) (by omega) rfl) (ar (e rfl rfl) (.d (.d (.d (.d (.d (.sr rfl (le_len (by simp [mkvAnswer, mkL_len])) (take_len (by simp [mkvAnswer, mkL_len])) (.sr rfl (le_len (by simp [mkvAnswer, mkL_len])) (take_len (by simp [mkvAnswer, mkL_len])) (.d .nil)))))))) (ar (e rfl rfl) (.d .nil) .nil)) rfl rfl rfl) rfl rfl rfl rfl ?_
  refine sy _ (zas rfl (e rfl rfl)) rfl rfl ?_
  refine s_end ?_
  refine v_seq ?_
  refine v_seq ?_
  refine v_reg ?_
  refine sy _ (zmv rfl (e rfl rfl)) rfl rfl ?_
  refine sy (.t ⟨false, [.d (dB (decide (((mkvAnswer v1.1 1).2) < (0))))]⟩) (y_bin rfl (e rfl rfl) (ec rfl) (fun _ => b_lss) rfl) rfl rfl ?_
  refine s_end ?_
  have hz4 : (decide (((mkvAnswer v1.1 1).2) < (0))) = false := by simp; omega
  refine v_cF (e rfl rfl) hz4 ?_
  refine v_skip ?_
  refine v_seq ?_
  refine v_seq ?_
  refine v_reg ?_
  refine sy _ (zmv rfl (e rfl rfl)) rfl rfl ?_
  refine sy _ (zmv rfl (e rfl rfl)) rfl rfl ?_
  refine sy (.t ⟨false, [.d (dB (decide (((mkvAnswer v1.1 1).2) ≠ ((mkvAnswer v1.1 1).2))))]⟩) (y_bin rfl (e rfl rfl) (e rfl rfl) (fun _ => b_neq) rfl) rfl rfl ?_
  refine s_end ?_
  refine v_cF (e rfl rfl) dec_neq ?_
  refine v_skip ?_
  refine v_seq ?_
  refine v_reg ?_
  refine sy (.t ⟨true, [.d (dI (a0.C.Quota)), .d (dI (a0.C.Depth)), .d (dI (a0.C.Chain)), .d (dI (a0.C.Glue)), .d (dI (a0.C.Tries)), .d (dI (a0.C.Addrs)), .d (dI (a0.C.Cap)), .d (.sl 1 (a0.C.Roots.map encI)), .d (dI (a0.Now)), .d (dI (a0.K.Cap)), .d (.sl 6 (a0.K.L.map Entry.cells)), .d (.sl 3 (a0.Bad.map Lame.cells)), .d (.sl 7 (a0.Jobs.map Job.cells)), .d (.sl 2 (a0.Outs.map Packet.cells)), .d (.sl 8 (a0.Reps.map Answer.cells)), .d (dI (a0.Next))]⟩) (zlv tabOk rfl (e rfl rfl) rfl rfl rfl) rfl rfl ?_
  refine sd (.t ⟨true, [.d (dI (a0.C.Quota)), .d (dI (a0.C.Depth)), .d (dI (a0.C.Chain)), .d (dI (a0.C.Glue)), .d (dI (a0.C.Tries)), .d (dI (a0.C.Addrs)), .d (dI (a0.C.Cap)), .sr 24 1 0 ((a0.C.Roots.map encI).length) ((a0.C.Roots.map encI).length), .d (dI (a0.Now)), .d (dI (a0.K.Cap)), .sr 25 1 0 ((a0.K.L.map Entry.cells).length) ((a0.K.L.map Entry.cells).length), .sr 26 1 0 ((a0.Bad.map Lame.cells).length) ((a0.Bad.map Lame.cells).length), .sr 27 1 0 ((a0.Jobs.map Job.cells).length) ((a0.Jobs.map Job.cells).length), .sr 28 1 0 ((a0.Outs.map Packet.cells).length) ((a0.Outs.map Packet.cells).length), .sr 29 1 0 ((a0.Reps.map Answer.cells).length) ((a0.Reps.map Answer.cells).length), .d (dI (a0.Next))]⟩) (zcall 24 (.t ⟨true, [.d (dI (a0.C.Quota)), .d (dI (a0.C.Depth)), .d (dI (a0.C.Chain)), .d (dI (a0.C.Glue)), .d (dI (a0.C.Tries)), .d (dI (a0.C.Addrs)), .d (dI (a0.C.Cap)), .sr 24 1 0 ((a0.C.Roots.map encI).length) ((a0.C.Roots.map encI).length), .d (dI (a0.Now)), .d (dI (a0.K.Cap)), .sr 25 1 0 ((a0.K.L.map Entry.cells).length) ((a0.K.L.map Entry.cells).length), .sr 26 1 0 ((a0.Bad.map Lame.cells).length) ((a0.Bad.map Lame.cells).length), .sr 27 1 0 ((a0.Jobs.map Job.cells).length) ((a0.Jobs.map Job.cells).length), .sr 28 1 0 ((a0.Outs.map Packet.cells).length) ((a0.Outs.map Packet.cells).length), .sr 29 1 0 ((a0.Reps.map Answer.cells).length) ((a0.Reps.map Answer.cells).length), .d (dI (a0.Next))]⟩) [(24, .row 1 (a0.C.Roots.map encI) true 1 0), (25, .row 6 (a0.K.L.map Entry.cells) true 1 0), (26, .row 3 (a0.Bad.map Lame.cells) true 1 0), (27, .row 7 (a0.Jobs.map Job.cells) true 1 0), (28, .row 2 (a0.Outs.map Packet.cells) true 1 0), (29, .row 8 (a0.Reps.map Answer.cells) true 1 0)] rfl (tr_toWorld a0 hsr1.2) (ar (e rfl rfl) (.d (.d (.d (.d (.d (.d (.d (.d (.d (.d (.d (.d (.d (.d (.d (.d .nil)))))))))))))))) .nil) rfl rfl rfl) rfl rfl rfl rfl ?_
  refine sy _ (zmv rfl (e rfl rfl)) rfl rfl ?_
  refine sd (.tu [⟨true, [.d (dI (v1.1.No)), .d (dI (v1.1.Client)), .d (dI (v1.1.Code)), .d (dS (v1.1.Q.Name)), .d (dI (v1.1.Q.Typ)), .sr 30 1 0 ((v1.1.Links.map Record.cells).length) ((v1.1.Links.map Record.cells).length), .sr 31 1 0 ((v1.1.L.map Record.cells).length) ((v1.1.L.map Record.cells).length), .d (dI (v1.1.Sent))]⟩, ⟨false, [.d (dB (v1.2))]⟩]) (zcall 30 (.tu [⟨true, [.d (dI (v1.1.No)), .d (dI (v1.1.Client)), .d (dI (v1.1.Code)), .d (dS (v1.1.Q.Name)), .d (dI (v1.1.Q.Typ)), .sr 30 1 0 ((v1.1.Links.map Record.cells).length) ((v1.1.Links.map Record.cells).length), .sr 31 1 0 ((v1.1.L.map Record.cells).length) ((v1.1.L.map Record.cells).length), .d (dI (v1.1.Sent))]⟩, ⟨false, [.d (dB (v1.2))]⟩]) [(30, .row 6 (v1.1.Links.map Record.cells) true 1 0), (31, .row 6 (v1.1.L.map Record.cells) true 1 0)] rfl (by rw [ev1]; exact (tr2_n_impl_AnswerTo a0 a1 hsr1.2) : Tr Try.prog 23 _ [⟨true, [dI (v1.1.No), dI (v1.1.Client), dI (v1.1.Code), dS (v1.1.Q.Name), dI (v1.1.Q.Typ), .sl 6 (v1.1.Links.map Record.cells), .sl 6 (v1.1.L.map Record.cells), dI (v1.1.Sent)]⟩, ⟨false, [dB (v1.2)]⟩]) (ar (e rfl rfl) (.d (.d (.d (.d (.d (.d (.d (.sr rfl le_all take_all (.d (.d (.sr rfl le_all take_all (.sr rfl le_all take_all (.sr rfl le_all take_all (.sr rfl le_all take_all (.sr rfl le_all take_all (.d .nil)))))))))))))))) (ar (e rfl rfl) (.d .nil) .nil)) rfl rfl rfl) rfl rfl rfl rfl ?_
  refine sy (.tu [⟨true, [.d (dI (v1.1.No)), .d (dI (v1.1.Client)), .d (dI (v1.1.Code)), .d (dS (v1.1.Q.Name)), .d (dI (v1.1.Q.Typ)), .sr 30 1 0 ((v1.1.Links.map Record.cells).length) ((v1.1.Links.map Record.cells).length), .sr 31 1 0 ((v1.1.L.map Record.cells).length) ((v1.1.L.map Record.cells).length), .d (dI (v1.1.Sent))]⟩, ⟨false, [.d (dB (v1.2))]⟩]) (zmvt (.inl rfl) (eg rfl rfl)) rfl rfl ?_
  refine sy (.t ⟨true, [.d (dI (v1.1.No)), .d (dI (v1.1.Client)), .d (dI (v1.1.Code)), .d (dS (v1.1.Q.Name)), .d (dI (v1.1.Q.Typ)), .sr 30 1 0 ((v1.1.Links.map Record.cells).length) ((v1.1.Links.map Record.cells).length), .sr 31 1 0 ((v1.1.L.map Record.cells).length) ((v1.1.L.map Record.cells).length), .d (dI (v1.1.Sent))]⟩) (y_extract rfl rfl (eg rfl rfl) rfl) rfl rfl ?_
  refine sy (.t ⟨false, [.d (dB (v1.2))]⟩) (y_extract rfl rfl (eg rfl rfl) rfl) rfl rfl ?_
  refine sr 32 (.t ⟨false, [.vp 32 0]⟩) (.var [.d (dI (0)), .d (dI (0)), .d (dI (0)), .d (dS (⟨#[]⟩)), .d (dI (0)), .nl 6, .nl 6, .d (dI (0))]) (zal tabOk rfl rfl rfl rfl) rfl rfl ?_
  refine sw 32 (.var [.d (dI (v1.1.No)), .d (dI (v1.1.Client)), .d (dI (v1.1.Code)), .d (dS (v1.1.Q.Name)), .d (dI (v1.1.Q.Typ)), .sr 30 1 0 ((v1.1.Links.map Record.cells).length) ((v1.1.Links.map Record.cells).length), .sr 31 1 0 ((v1.1.L.map Record.cells).length) ((v1.1.L.map Record.cells).length), .d (dI (v1.1.Sent))]) (zst tabOk rfl (e rfl rfl) rfl (e rfl rfl) rfl rfl rfl) rfl rfl ?_
  refine sy _ (zas rfl (e rfl rfl)) rfl rfl ?_
  refine s_end ?_
  refine v_seq ?_
  refine v_seq ?_
  refine v_reg ?_
  refine sy (.t ⟨true, [.d (dI (v1.1.No)), .d (dI (v1.1.Client)), .d (dI (v1.1.Code)), .d (dS (v1.1.Q.Name)), .d (dI (v1.1.Q.Typ)), .sr 30 1 0 ((v1.1.Links.map Record.cells).length) ((v1.1.Links.map Record.cells).length), .sr 31 1 0 ((v1.1.L.map Record.cells).length) ((v1.1.L.map Record.cells).length), .d (dI (v1.1.Sent))]⟩) (zlv tabOk rfl (e rfl rfl) rfl rfl rfl) rfl rfl ?_
  refine sy (.t ⟨true, [.d (dI (v1.1.No)), .d (dI (v1.1.Client)), .d (dI (v1.1.Code)), .d (dS (v1.1.Q.Name)), .d (dI (v1.1.Q.Typ)), .d (.sl 6 (v1.1.Links.map Record.cells)), .d (.sl 6 (v1.1.L.map Record.cells)), .d (dI (v1.1.Sent))]⟩) (zlv tabOk rfl (e rfl rfl) rfl rfl rfl) rfl rfl ?_
  refine sd (.t ⟨false, [.d (dB (true))]⟩) (zcall 33 (.t ⟨false, [.d (dB (true))]⟩) [] rfl (eqT (tr_eqAnswer v1.1 v1.1 hfv1p1 hfv1p1)) (ar (e rfl rfl) (.d (.d (.d (.d (.d (.sr rfl le_all take_all (.sr rfl le_all take_all (.d .nil)))))))) (ar (e rfl rfl) (.d (.d (.d (.d (.d (.d (.d (.d .nil)))))))) .nil)) rfl rfl rfl) rfl rfl rfl rfl ?_
  refine sy (.t ⟨false, [.d (dB (!(true)))]⟩) (y_un rfl (e rfl rfl) (fun _ => u_not) rfl) rfl rfl ?_
  refine sy _ (zmv rfl (e rfl rfl)) rfl rfl ?_
  refine gr rfl rfl rfl (eg rfl rfl) rfl ?_
  refine sy _ (zmv rfl (e rfl rfl)) rfl rfl ?_
  refine gr rfl rfl rfl (eg rfl rfl) rfl ?_
  refine sy _ (zmv rfl (e rfl rfl)) rfl rfl ?_
  refine gr rfl rfl rfl (eg rfl rfl) rfl ?_
  refine sy (.t ⟨false, [.d (dB (decide ((v1.2) ≠ (v1.2))))]⟩) (y_bin rfl (e rfl rfl) (e rfl rfl) (fun _ => b_bneq (by kernel_rfl)) rfl) rfl rfl ?_
  refine sy (.t ⟨false, [.d (dB (decide ((v1.2) ≠ (v1.2))))]⟩) (zpf rfl (e rfl rfl) rfl (e rfl rfl)) rfl rfl ?_
  refine s_end ?_
  refine v_cF (e rfl rfl) dec_neq ?_
  refine v_skip ?_
  refine v_seq ?_
  refine v_reg ?_
  refine sy _ (zas rfl (ec rfl)) rfl rfl ?_
  refine s_end ?_
  refine v_seq ?_
  refine v_reg ?_
  refine sy (.t ⟨true, [.d (dI (v1.1.No)), .d (dI (v1.1.Client)), .d (dI (v1.1.Code)), .d (dS (v1.1.Q.Name)), .d (dI (v1.1.Q.Typ)), .sr 15 1 0 ((v1.1.Links.map Record.cells).length) ((v1.1.Links.map Record.cells).length), .sr 16 1 0 ((v1.1.L.map Record.cells).length) ((v1.1.L.map Record.cells).length), .d (dI (v1.1.Sent))]⟩) (zlv tabOk rfl (e rfl rfl) rfl rfl rfl) rfl rfl ?_
  refine sy _ (zmv rfl (e rfl rfl)) rfl rfl ?_
  refine sd (.t ⟨false, [.d (dI ((mkvAnswer v1.1 1).2))]⟩) (zcall 33 (sc (dI (mkvAnswer v1.1 1).2)) [] rfl (tr_heldAnswer v1.1 ((⟨v1.1.No, v1.1.Client, v1.1.Code, v1.1.Q, ((mkvAnswer v1.1 1).1).Links, ((mkvAnswer v1.1 1).1).L, v1.1.Sent⟩ : Answer)) hfv1p1 1 (by omega) (by omega) rfl) (ar (e rfl rfl) (.d (.d (.d (.d (.d (.sr rfl (le_len (by simp [mkvAnswer, mkL_len])) (take_len (by simp [mkvAnswer, mkL_len])) (.sr rfl (le_len (by simp [mkvAnswer, mkL_len])) (take_len (by simp [mkvAnswer, mkL_len])) (.d .nil)))))))) (ar (e rfl rfl) (.d .nil) .nil)) rfl rfl rfl) rfl rfl rfl rfl ?_
  refine sy _ (zas rfl (e rfl rfl)) rfl rfl ?_
  refine s_end ?_
  refine v_seq ?_
  refine v_seq ?_
  refine v_reg ?_
  refine sy _ (zmv rfl (e rfl rfl)) rfl rfl ?_
  refine sy (.t ⟨false, [.d (dB (decide (((mkvAnswer v1.1 1).2) < (0))))]⟩) (y_bin rfl (e rfl rfl) (ec rfl) (fun _ => b_lss) rfl) rfl rfl ?_
  refine s_end ?_
  refine v_cF (e rfl rfl) hz4 ?_
  refine v_skip ?_
  refine v_seq ?_
  refine v_seq ?_
  refine v_reg ?_
  refine sy _ (zmv rfl (e rfl rfl)) rfl rfl ?_
  refine sy _ (zmv rfl (e rfl rfl)) rfl rfl ?_
  refine sy (.t ⟨false, [.d (dB (decide (((mkvAnswer v1.1 1).2) ≠ ((mkvAnswer v1.1 1).2))))]⟩) (y_bin rfl (e rfl rfl) (e rfl rfl) (fun _ => b_neq) rfl) rfl rfl ?_
  refine s_end ?_
  refine v_cF (e rfl rfl) dec_neq ?_
  refine v_skip ?_
  refine v_seq ?_
  refine v_reg ?_
  refine sy _ (zas rfl (ec rfl)) rfl rfl ?_
  refine s_end ?_
  refine v_ret ?_
  exact post_ret (rv (.tmp (eg rfl rfl)) rfl (.lf .nil) rfl .nil) (.ro (.ro .nil)) rfl
end Go.Proofs.Ytglilpigoocgeaa.V
