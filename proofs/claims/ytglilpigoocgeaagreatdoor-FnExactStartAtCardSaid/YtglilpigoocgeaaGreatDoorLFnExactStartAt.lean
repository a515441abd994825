/-
  The law FnExactStartAt, walked.
-/
import Derived.Test.YtglilpigoocgeaaGreatDoorFP
import Derived.Test.YtglilpigoocgeaaGreatDoorTCache
import Derived.Test.YtglilpigoocgeaaGreatDoorTIntS
import Derived.Test.YtglilpigoocgeaaGreatDoorTStringS
import Derived.Test.YtglilpigoocgeaaGreatDoorVE
import Derived.Test.YtglilpigoocgeaaGreatDoorN
import Derived.Test.YtglilpigoocgeaaGreatDoorC
namespace Go.Proofs.YtglilpigoocgeaaGreatDoor.V
open Go
set_option linter.unusedVariables false
set_option linter.unusedSimpArgs false
theorem rd3 {H : Type} {enc : TypeId × Value → H} {W : Go.World} : Rd enc Tryz.prog W 3 1 (fun v : Int => [.lf (.int .i64 v)]) bndI := rd_i64 Tryz.underlying3 (by kernel_rfl)
theorem rd9 {H : Type} {enc : TypeId × Value → H} {W : Go.World} : Rd enc Tryz.prog W 9 1 (fun v : ByteArray => [dS v]) bndS := rd_str Tryz.underlying9 (by kernel_rfl)
theorem rd55 {H : Type} {enc : TypeId × Value → H} {W : Go.World} : Rd enc Tryz.prog W 55 2 Quest.cells Quest.Bnd := rd_struct (fs := [(0, 9), (1, 3)]) Tryz.underlying55 (by kernel_rfl) (by kernel_rfl) (rdf_cons rd9 (rdf_cons rd3 (rdf_nil rfl))) (fun p => ⟨p.1, p.2.1⟩) (fun _ => rfl) (fun p h => ⟨h.1, h.2.1⟩)
theorem rd93 {H : Type} {enc : TypeId × Value → H} {W : Go.World} : Rd enc Tryz.prog W 93 6 Record.cells Record.Bnd := rd_struct (fs := [(0, 9), (1, 3), (2, 3), (3, 3), (4, 9), (5, 9)]) Tryz.underlying93 (by kernel_rfl) (by kernel_rfl) (rdf_cons rd9 (rdf_cons rd3 (rdf_cons rd3 (rdf_cons rd3 (rdf_cons rd9 (rdf_cons rd9 (rdf_nil rfl))))))) (fun p => ⟨p.1, p.2.1, p.2.2.1, p.2.2.2.1, p.2.2.2.2.1, p.2.2.2.2.2.1⟩) (fun _ => rfl) (fun p h => ⟨h.1, h.2.1, h.2.2.1, h.2.2.2.1, h.2.2.2.2.1, h.2.2.2.2.2.1⟩)
theorem rd56 {H : Type} {enc : TypeId × Value → H} {W : Go.World} : Rd enc Tryz.prog W 56 1 (fun xs : List Record => [.sl 6 (xs.map Record.cells)]) (bndL Record.Bnd) := rd_slice Tryz.underlying56 (by kernel_rfl) rd93 (by decide) (fun _ => rfl)
theorem rd58 {H : Type} {enc : TypeId × Value → H} {W : Go.World} : Rd enc Tryz.prog W 58 6 Entry.cells Entry.Bnd := rd_struct (fs := [(0, 55), (2, 3), (3, 56), (4, 3), (5, 3)]) Tryz.underlying58 (by kernel_rfl) (by kernel_rfl) (rdf_cons rd55 (rdf_cons rd3 (rdf_cons rd56 (rdf_cons rd3 (rdf_cons rd3 (rdf_nil rfl)))))) (fun p => ⟨p.1, p.2.1, p.2.2.1, p.2.2.2.1, p.2.2.2.2.1⟩) (fun _ => rfl) (fun p h => ⟨h.1, h.2.1, h.2.2.1, h.2.2.2.1, h.2.2.2.2.1⟩)
theorem rd22 {H : Type} {enc : TypeId × Value → H} {W : Go.World} : Rd enc Tryz.prog W 22 1 (fun xs : List Entry => [.sl 6 (xs.map Entry.cells)]) (bndL Entry.Bnd) := rd_slice Tryz.underlying22 (by kernel_rfl) rd58 (by decide) (fun _ => rfl)
theorem rd24 {H : Type} {enc : TypeId × Value → H} {W : Go.World} : Rd enc Tryz.prog W 24 2 Cache.cells Cache.Bnd := rd_struct (fs := [(0, 3), (1, 22)]) Tryz.underlying24 (by kernel_rfl) (by kernel_rfl) (rdf_cons rd3 (rdf_cons rd22 (rdf_nil rfl))) (fun p => ⟨p.1, p.2.1⟩) (fun _ => rfl) (fun p h => ⟨h.1, h.2.1⟩)
theorem rd25 {H : Type} {enc : TypeId × Value → H} {W : Go.World} : Rd enc Tryz.prog W 25 1 (fun xs : List Int => [.sl 1 (xs.map encI)]) (bndL bndI) := rd_slice Tryz.underlying25 (by kernel_rfl) rd3 (by decide) (fun _ => rfl)
set_option maxRecDepth 20000 in
theorem tr_law (a0 : Cache) (a1 : Int) (a2 : List Int) (a3 : ByteArray) (b0 : Cache.Bnd a0) (b1 : bndI a1) (b2 : bndL bndI a2) (b3 : bndS a3) : Tr Tryz.prog 3 [.ro ⟨true, [dI (a0.Cap), .sl 6 (a0.L.map Entry.cells)]⟩, .ro ⟨false, [dI (a1)]⟩, .ro ⟨false, [.sl 1 (a2.map encI)]⟩, .ro ⟨false, [dS (a3)]⟩] [one (dB true)] := by
  refine tr_go tabOk Tryz.func3 rfl rfl rfl rfl rfl (ov := [(0, .t ⟨true, [.d (dI (a0.Cap)), .d (.sl 6 (a0.L.map Entry.cells))]⟩), (1, .t ⟨false, [.d (dI (a1))]⟩), (2, .t ⟨false, [.d (.sl 1 (a2.map encI))]⟩), (3, .t ⟨false, [.d (dS (a3))]⟩)]) (hv := []) rfl rfl ?_
  refine v_seq ?_
  refine v_reg ?_
  refine sr 0 (.t ⟨false, [.vp 0 0]⟩) (.var [.d (dI (a0.Cap)), .d (.sl 6 (a0.L.map Entry.cells))]) (zbx rfl (e rfl rfl) rfl rfl rfl) rfl rfl ?_
  refine sy _ (zas rfl (ec rfl)) rfl rfl ?_
  refine s_end ?_
  refine v_seq ?_
  refine v_seq ?_
  refine v_reg ?_
  refine sy _ (zmv rfl (e rfl rfl)) rfl rfl ?_
  refine sy (.t ⟨false, [.d (dI ((a2).length : Int))]⟩) (zlm tabOk rfl rfl (e rfl rfl) .d) rfl rfl ?_
  refine sy (.t ⟨false, [.d (dB (decide ((1048576) < (((a2).length : Int)))))]⟩) (y_bin rfl (e rfl rfl) (ec rfl) (fun _ => b_gtr) rfl) rfl rfl ?_
  refine s_end ?_
  refine v_cond (e rfl rfl) (fun hb1 => ?_) fun hb1 => ?_
  · have hb1p := dec_t hb1
    refine v_seq ?_
    refine v_reg ?_
    refine sy _ (zas rfl (ec rfl)) rfl rfl ?_
    refine s_end ?_
    refine v_ret ?_
    exact post_ret (rv (.tmp (eg rfl rfl)) rfl (.lf .nil) rfl .nil) (.ro (.ro (.ro (.ro .nil)))) rfl
  have hb1p := dec_f hb1
  refine v_skip ?_
  refine v_seq ?_
  refine v_seq ?_
  refine v_reg ?_
  refine sy _ (zmv rfl (e rfl rfl)) rfl rfl ?_
  refine sy (.t ⟨false, [.d (dI (a3.size : Int))]⟩) (zls tabOk rfl rfl (e rfl rfl)) rfl rfl ?_
  refine sy (.t ⟨false, [.d (dB (decide ((1048576) < ((a3.size : Int)))))]⟩) (y_bin rfl (e rfl rfl) (ec rfl) (fun _ => b_gtr) rfl) rfl rfl ?_
  refine s_end ?_
  refine v_cond (e rfl rfl) (fun hb2 => ?_) fun hb2 => ?_
  · have hb2p := dec_t hb2
    refine v_seq ?_
    refine v_reg ?_
    refine sy _ (zas rfl (ec rfl)) rfl rfl ?_
    refine s_end ?_
    refine v_ret ?_
    exact post_ret (rv (.tmp (eg rfl rfl)) rfl (.lf .nil) rfl .nil) (.ro (.ro (.ro (.ro .nil)))) rfl
  have hb2p := dec_f hb2
  refine v_skip ?_
  refine v_seq ?_
  refine v_reg ?_
  refine sy _ (zas rfl (ec rfl)) rfl rfl ?_
  refine s_end ?_
  refine v_seq ?_
  refine v_reg ?_
  refine sy (.t ⟨true, [.d (dI (a0.Cap)), .d (.sl 6 (a0.L.map Entry.cells))]⟩) (zlv tabOk rfl (e rfl rfl) rfl rfl rfl) rfl rfl ?_
  refine sy _ (zmv rfl (e rfl rfl)) rfl rfl ?_
  refine sxI (zcallX rfl (tr_szCache a0 b0 1048576 (by omega) (by omega)) (ar (e rfl rfl) (.d (.d .nil)) (ar (e rfl rfl) (.d .nil) .nil))) rfl rfl (fun r3 hr3 => ?_)
  refine sy _ (zas rfl (e rfl rfl)) rfl rfl ?_
  refine s_end ?_
  refine v_seq ?_
  refine v_seq ?_
  refine v_reg ?_
  refine sy _ (zmv rfl (e rfl rfl)) rfl rfl ?_
  refine sy (.t ⟨false, [.d (dB (decide ((r3) < (0))))]⟩) (y_bin rfl (e rfl rfl) (ec rfl) (fun _ => b_lss) rfl) rfl rfl ?_
  refine s_end ?_
  refine v_cond (e rfl rfl) (fun hb4 => ?_) fun hb4 => ?_
  · have hb4p := dec_t hb4
    refine v_seq ?_
    refine v_reg ?_
    refine sy _ (zas rfl (ec rfl)) rfl rfl ?_
    refine s_end ?_
    refine v_ret ?_
    exact post_ret (rv (.tmp (eg rfl rfl)) rfl (.lf .nil) rfl .nil) (.ro (.ro (.ro (.ro .nil)))) rfl
  have hb4p := dec_f hb4
  have hsr3 := hr3 (by omega)
  have hsr3w := hsr3.1
  refine v_skip ?_
  refine v_seq ?_
  refine v_reg ?_
  refine sy (.t ⟨true, [.d (dI (a0.Cap)), .d (.sl 6 (a0.L.map Entry.cells))]⟩) (zlv tabOk rfl (e rfl rfl) rfl rfl rfl) rfl rfl ?_
  refine sd (.t ⟨true, [.d (dI (a0.Cap)), .sr 1 1 0 ((a0.L.map Entry.cells).length) ((a0.L.map Entry.cells).length)]⟩) (zcall 1 (.t ⟨true, [.d (dI (a0.Cap)), .sr 1 1 0 ((a0.L.map Entry.cells).length) ((a0.L.map Entry.cells).length)]⟩) [(1, .row 6 (a0.L.map Entry.cells) true 1 0)] rfl (tr_toCache a0 hsr3.2) (ar (e rfl rfl) (.d (.d .nil)) .nil) rfl rfl rfl) rfl rfl rfl rfl ?_
  refine sy _ (zmv rfl (e rfl rfl)) rfl rfl ?_
  refine sy _ (zmv rfl (e rfl rfl)) rfl rfl ?_
  refine sd (.t ⟨false, [.sr 2 1 0 ((a2.map encI).length) ((a2.map encI).length)]⟩) (zcall 2 (.t ⟨false, [.sr 2 1 0 ((a2.map encI).length) ((a2.map encI).length)]⟩) [(2, .row 1 (a2.map encI) true 1 0)] rfl (tr_toIntS a2 ((⟨by omega, fun _ _ => trivial⟩ : fitL fitU a2))) (ar (e rfl rfl) (.d .nil) .nil) rfl rfl rfl) rfl rfl rfl rfl ?_
  refine sy _ (zmv rfl (e rfl rfl)) rfl rfl ?_
  obtain ⟨v1, ev1⟩ : ∃ v : ByteArray × (List Int) × (List ByteArray), v = n_spec_StartAt a0 a1 a2 a3 := ⟨_, rfl⟩
  have hfv1p1 : fitS v1.1 := by rw [ev1]; exact fit_StartAt_apex a0 a1 a2 a3 hsr3.2 ((show a3.size ≤ 2097152 by omega))
  have hfv1p2p1 : fitL fitU v1.2.1 := by rw [ev1]; exact fit_StartAt_addrs a0 a1 a2 a3 (by omega) (by omega)
  have hfv1p2p2 : fitL fitS v1.2.2 := by rw [ev1]; exact fit_StartAt_need a0 a1 a2 a3 hsr3.2 ((show a3.size ≤ 2097152 by omega))
  refine sd (.tu [⟨false, [.d (dS (v1.1))]⟩, ⟨false, [.d (.sl 1 (v1.2.1.map encI))]⟩, ⟨false, [.d (.sl 1 (v1.2.2.map encS))]⟩]) (zcd (.tu [⟨false, [.d (dS (v1.1))]⟩, ⟨false, [.d (.sl 1 (v1.2.1.map encI))]⟩, ⟨false, [.d (.sl 1 (v1.2.2.map encS))]⟩]) rfl (by rw [ev1]; exact (tr_n_spec_StartAt a0 a1 a2 a3 hsr3.2 ((⟨by omega, fun _ _ => trivial⟩ : fitL fitU a2)) ((show a3.size ≤ 2097152 by omega))) : Tr Tryz.prog 5 _ [⟨false, [dS (v1.1)]⟩, ⟨false, [.sl 1 (v1.2.1.map encI)]⟩, ⟨false, [.sl 1 (v1.2.2.map encS)]⟩]) (ar (e rfl rfl) (.d (.sr rfl le_all take_all .nil)) (ar (e rfl rfl) (.d .nil) (ar (e rfl rfl) (.sr rfl le_all take_all .nil) (ar (e rfl rfl) (.d .nil) .nil)))) rfl) rfl rfl rfl rfl ?_
  refine sy (.tu [⟨false, [.d (dS (v1.1))]⟩, ⟨false, [.d (.sl 1 (v1.2.1.map encI))]⟩, ⟨false, [.d (.sl 1 (v1.2.2.map encS))]⟩]) (zmvt (.inl rfl) (eg rfl rfl)) rfl rfl ?_
  refine sy (.t ⟨false, [.d (dS (v1.1))]⟩) (y_extract rfl rfl (eg rfl rfl) rfl) rfl rfl ?_
  refine sy (.t ⟨false, [.d (.sl 1 (v1.2.1.map encI))]⟩) (y_extract rfl rfl (eg rfl rfl) rfl) rfl rfl ?_
  refine sy (.t ⟨false, [.d (.sl 1 (v1.2.2.map encS))]⟩) (y_extract rfl rfl (eg rfl rfl) rfl) rfl rfl ?_
  refine sy _ (zas rfl (e rfl rfl)) rfl rfl ?_
  refine sy _ (zas rfl (e rfl rfl)) rfl rfl ?_
  refine sy _ (zas rfl (e rfl rfl)) rfl rfl ?_
  refine s_end ?_
  refine v_seq ?_
  refine v_reg ?_
  refine sy (.t ⟨true, [.d (dI (a0.Cap)), .d (.sl 6 (a0.L.map Entry.cells))]⟩) (zlv tabOk rfl (e rfl rfl) rfl rfl rfl) rfl rfl ?_
  refine sd (.t ⟨true, [.d (dI (a0.Cap)), .sr 3 1 0 ((a0.L.map Entry.cells).length) ((a0.L.map Entry.cells).length)]⟩) (zcall 3 (.t ⟨true, [.d (dI (a0.Cap)), .sr 3 1 0 ((a0.L.map Entry.cells).length) ((a0.L.map Entry.cells).length)]⟩) [(3, .row 6 (a0.L.map Entry.cells) true 1 0)] rfl (tr_toCache a0 hsr3.2) (ar (e rfl rfl) (.d (.d .nil)) .nil) rfl rfl rfl) rfl rfl rfl rfl ?_
  refine sr 4 (.t ⟨false, [.vp 4 0]⟩) (.var [.d (dI (0)), .nl 6]) (zal tabOk rfl rfl rfl rfl) rfl rfl ?_
  refine sw 4 (.var [.d (dI (a0.Cap)), .sr 3 1 0 ((a0.L.map Entry.cells).length) ((a0.L.map Entry.cells).length)]) (zst tabOk rfl (e rfl rfl) rfl (e rfl rfl) rfl rfl rfl) rfl rfl ?_
  refine s_end ?_
  refine v_seq ?_
  refine v_reg ?_
  refine sy _ (zmv rfl (e rfl rfl)) rfl rfl ?_
  refine sd (.t ⟨false, [.sr 5 1 0 ((a2.map encI).length) ((a2.map encI).length)]⟩) (zcall 5 (.t ⟨false, [.sr 5 1 0 ((a2.map encI).length) ((a2.map encI).length)]⟩) [(5, .row 1 (a2.map encI) true 1 0)] rfl (tr_toIntS a2 ((⟨by omega, fun _ _ => trivial⟩ : fitL fitU a2))) (ar (e rfl rfl) (.d .nil) .nil) rfl rfl rfl) rfl rfl rfl rfl ?_
  refine sy _ (zas rfl (e rfl rfl)) rfl rfl ?_
  refine s_end ?_
  refine v_seq ?_
  refine v_reg ?_
  refine sy (.t ⟨true, [.d (dI (a0.Cap)), .sr 3 1 0 ((a0.L.map Entry.cells).length) ((a0.L.map Entry.cells).length)]⟩) (zlv tabOk rfl (e rfl rfl) rfl rfl rfl) rfl rfl ?_
  refine sy _ (zmv rfl (e rfl rfl)) rfl rfl ?_
  refine sy _ (zmv rfl (e rfl rfl)) rfl rfl ?_
  refine sy _ (zmv rfl (e rfl rfl)) rfl rfl ?_
  refine sd (.tu [⟨false, [.d (dS (v1.1))]⟩, ⟨false, [.sr 6 1 0 ((v1.2.1.map encI).length) ((v1.2.1.map encI).length)]⟩, ⟨false, [.sr 7 1 0 ((v1.2.2.map encS).length) ((v1.2.2.map encS).length)]⟩]) (zcall 6 (.tu [⟨false, [.d (dS (v1.1))]⟩, ⟨false, [.sr 6 1 0 ((v1.2.1.map encI).length) ((v1.2.1.map encI).length)]⟩, ⟨false, [.sr 7 1 0 ((v1.2.2.map encS).length) ((v1.2.2.map encS).length)]⟩]) [(6, .row 1 (v1.2.1.map encI) true 1 0), (7, .row 1 (v1.2.2.map encS) true 1 0)] rfl (by rw [ev1]; exact (tr2_n_impl_StartAt a0 a1 a2 a3 hsr3.2 ((⟨by omega, fun _ _ => trivial⟩ : fitL fitU a2)) ((show a3.size ≤ 2097152 by omega)) b0 b1) : Tr Tryz.prog 8 _ [⟨false, [dS (v1.1)]⟩, ⟨false, [.sl 1 (v1.2.1.map encI)]⟩, ⟨false, [.sl 1 (v1.2.2.map encS)]⟩]) (ar (e rfl rfl) (.d (.sr rfl le_all take_all .nil)) (ar (e rfl rfl) (.d .nil) (ar (e rfl rfl) (.sr rfl le_all take_all .nil) (ar (e rfl rfl) (.d .nil) .nil)))) rfl rfl rfl) rfl rfl rfl rfl ?_
  refine sy (.tu [⟨false, [.d (dS (v1.1))]⟩, ⟨false, [.sr 6 1 0 ((v1.2.1.map encI).length) ((v1.2.1.map encI).length)]⟩, ⟨false, [.sr 7 1 0 ((v1.2.2.map encS).length) ((v1.2.2.map encS).length)]⟩]) (zmvt (.inl rfl) (eg rfl rfl)) rfl rfl ?_
  refine sy (.t ⟨false, [.d (dS (v1.1))]⟩) (y_extract rfl rfl (eg rfl rfl) rfl) rfl rfl ?_
  refine sy (.t ⟨false, [.sr 6 1 0 ((v1.2.1.map encI).length) ((v1.2.1.map encI).length)]⟩) (y_extract rfl rfl (eg rfl rfl) rfl) rfl rfl ?_
  refine sy (.t ⟨false, [.sr 7 1 0 ((v1.2.2.map encS).length) ((v1.2.2.map encS).length)]⟩) (y_extract rfl rfl (eg rfl rfl) rfl) rfl rfl ?_
  refine sy _ (zas rfl (e rfl rfl)) rfl rfl ?_
  refine sy _ (zas rfl (e rfl rfl)) rfl rfl ?_
  refine sy _ (zas rfl (e rfl rfl)) rfl rfl ?_
  refine s_end ?_
  refine v_seq ?_
  refine v_seq ?_
  refine v_reg ?_
  refine sy _ (zmv rfl (e rfl rfl)) rfl rfl ?_
  refine sy _ (zmv rfl (e rfl rfl)) rfl rfl ?_
  refine sy (.t ⟨false, [.d (dB (decide ((v1.1) ≠ (v1.1))))]⟩) (y_bin rfl (e rfl rfl) (e rfl rfl) (fun _ => b_sneq) rfl) rfl rfl ?_
  refine sy _ (zmv rfl (e rfl rfl)) rfl rfl ?_
  refine gr rfl rfl rfl (eg rfl rfl) dec_neq ?_
  refine sy _ (zmv rfl (e rfl rfl)) rfl rfl ?_
  refine gr rfl rfl rfl (eg rfl rfl) dec_neq ?_
  refine sy _ (zmv rfl (e rfl rfl)) rfl rfl ?_
  refine gr rfl rfl rfl (eg rfl rfl) dec_neq ?_
  refine sd (.t ⟨false, [.d (dB (true))]⟩) (zcall 8 (.t ⟨false, [.d (dB (true))]⟩) [] rfl (eqT (tr_eqIntS v1.2.1 v1.2.1 hfv1p2p1 hfv1p2p1)) (ar (e rfl rfl) (.sr rfl le_all take_all .nil) (ar (e rfl rfl) (.d .nil) .nil)) rfl rfl rfl) rfl rfl rfl rfl ?_
  refine gr rfl rfl rfl (eg rfl rfl) dec_neq ?_
  refine sy (.t ⟨false, [.d (dB (!(true)))]⟩) (y_un rfl (e rfl rfl) (fun _ => u_not) rfl) rfl rfl ?_
  refine sy (.t ⟨false, [.d (dB (!(true)))]⟩) (zpf rfl (e rfl rfl) dec_neq (e rfl rfl)) rfl rfl ?_
  refine sy _ (zmv rfl (e rfl rfl)) rfl rfl ?_
  refine gr rfl rfl rfl (eg rfl rfl) rfl ?_
  refine sy _ (zmv rfl (e rfl rfl)) rfl rfl ?_
  refine gr rfl rfl rfl (eg rfl rfl) rfl ?_
  refine sy _ (zmv rfl (e rfl rfl)) rfl rfl ?_
  refine gr rfl rfl rfl (eg rfl rfl) rfl ?_
  refine sd (.t ⟨false, [.d (dB (true))]⟩) (zcall 8 (.t ⟨false, [.d (dB (true))]⟩) [] rfl (eqT (tr_eqStringS v1.2.2 v1.2.2 hfv1p2p2 hfv1p2p2)) (ar (e rfl rfl) (.sr rfl le_all take_all .nil) (ar (e rfl rfl) (.d .nil) .nil)) rfl rfl rfl) rfl rfl rfl rfl ?_
  refine gr rfl rfl rfl (eg rfl rfl) rfl ?_
  refine sy (.t ⟨false, [.d (dB (!(true)))]⟩) (y_un rfl (e rfl rfl) (fun _ => u_not) rfl) rfl rfl ?_
  refine sy (.t ⟨false, [.d (dB (!(true)))]⟩) (zpf rfl (e rfl rfl) rfl (e rfl rfl)) rfl rfl ?_
  refine s_end ?_
  refine v_cF (e rfl rfl) rfl ?_
  refine v_skip ?_
  refine v_seq ?_
  refine v_seq ?_
  refine v_drw2 [⟨.t ⟨true, [.d (dI (a0.Cap)), .sr 3 1 0 ((a0.L.map Entry.cells).length) ((a0.L.map Entry.cells).length)]⟩, [], [13], [4], false⟩, ⟨.t ⟨true, [.d (dI (a0.Cap)), .d (.sl 6 (a0.L.map Entry.cells))]⟩, [], [4], [0], false⟩, ⟨.t ⟨true, [.d (dI (a0.Cap)), .sr 8 1 0 ((a0.L.map Entry.cells).length) ((a0.L.map Entry.cells).length)]⟩, [(8, .row 6 (a0.L.map Entry.cells) true 1 0)], [75], [], false⟩, ⟨.t ⟨false, [.d (dB (true))]⟩, [], [74, 76], [3, 8], false⟩, ⟨.t ⟨false, [.d (dB (!(true)))]⟩, [], [77], [], false⟩] mixed (.c rfl (.c rfl (.c rfl (.c rfl (.c rfl .nil))))) (.s rfl (.s rfl (.g rfl (.s rfl (.s rfl .nil))))) (by kernel_rfl) (by kernel_rfl) ⟨gN rfl rfl (fun t h A => by exact dy (zlv tabOk rfl (A.e rfl rfl rfl) (A.h rfl rfl) rfl rfl)), gN rfl rfl (fun t h A => by exact dy (zlv tabOk rfl (A.e rfl rfl rfl) (A.h rfl rfl) rfl rfl)), gN rfl rfl (fun t h A => by exact zcallA 8 (.t ⟨true, [.d (dI (a0.Cap)), .sr 8 1 0 ((a0.L.map Entry.cells).length) ((a0.L.map Entry.cells).length)]⟩) [(8, .row 6 (a0.L.map Entry.cells) true 1 0)] rfl (tr_toCache a0 hsr3.2) (ar (A.e rfl rfl rfl) (.d (.d .nil)) .nil) rfl (A.free rfl) rfl rfl), gN rfl rfl (fun t h A => by exact zcallA 9 (.t ⟨false, [.d (dB (true))]⟩) [] rfl (eqT (tr_eqCache a0 a0 hsr3.2 hsr3.2)) (ar (A.e rfl rfl rfl) (.d (.sr (A.h rfl rfl) le_all take_all .nil)) (ar (A.e rfl rfl rfl) (.d (.sr (A.h rfl rfl) le_all take_all .nil)) .nil)) rfl (free0 rfl) rfl rfl), gN rfl rfl (fun t h A => by exact dy (y_un rfl (A.e rfl rfl rfl) (fun _ => u_not) rfl)), trivial⟩ ?_
  refine s_end ?_
  refine v_cF (e rfl rfl) rfl ?_
  refine v_skip ?_
  refine v_seq ?_
  refine v_seq ?_
  refine v_reg ?_
  refine sy _ (zmv rfl (e rfl rfl)) rfl rfl ?_
  refine sy _ (zmv rfl (e rfl rfl)) rfl rfl ?_
  refine sd (.t ⟨false, [.sr 9 1 0 ((a2.map encI).length) ((a2.map encI).length)]⟩) (zcall 9 (.t ⟨false, [.sr 9 1 0 ((a2.map encI).length) ((a2.map encI).length)]⟩) [(9, .row 1 (a2.map encI) true 1 0)] rfl (tr_toIntS a2 ((⟨by omega, fun _ _ => trivial⟩ : fitL fitU a2))) (ar (e rfl rfl) (.d .nil) .nil) rfl rfl rfl) rfl rfl rfl rfl ?_
  refine sd (.t ⟨false, [.d (dB (true))]⟩) (zcall 10 (.t ⟨false, [.d (dB (true))]⟩) [] rfl (eqT (tr_eqIntS a2 a2 ((⟨by omega, fun _ _ => trivial⟩ : fitL fitU a2)) ((⟨by omega, fun _ _ => trivial⟩ : fitL fitU a2)))) (ar (e rfl rfl) (.sr rfl le_all take_all .nil) (ar (e rfl rfl) (.sr rfl le_all take_all .nil) .nil)) rfl rfl rfl) rfl rfl rfl rfl ?_
  refine sy (.t ⟨false, [.d (dB (!(true)))]⟩) (y_un rfl (e rfl rfl) (fun _ => u_not) rfl) rfl rfl ?_
  refine s_end ?_
  refine v_cF (e rfl rfl) rfl ?_
  refine v_skip ?_
  refine v_seq ?_
  refine v_reg ?_
  refine sy _ (zas rfl (ec rfl)) rfl rfl ?_
  refine s_end ?_
  refine v_seq ?_
  refine v_reg ?_
  refine sy (.t ⟨true, [.d (dI (a0.Cap)), .sr 3 1 0 ((a0.L.map Entry.cells).length) ((a0.L.map Entry.cells).length)]⟩) (zlv tabOk rfl (e rfl rfl) rfl rfl rfl) rfl rfl ?_
  refine sy _ (zmv rfl (e rfl rfl)) rfl rfl ?_
  have hw171 := a0.wt_le hsr3.2
  have hk172 := mkvCache_ok a0 1 (by omega) (by omega)
  refine sd (.t ⟨false, [.d (dI ((mkvCache a0 1).2))]⟩) (zcall 10 (sc (dI (mkvCache a0 1).2)) [(3, .row 6 ((((mkvCache a0 1).1).L).map Entry.cells) true 1 (0 + 1))] rfl (tr_markCache a0 hsr3.2 1 (by omega)) (am (e rfl rfl) (.lf (.sr rfl rfl (by simp [mkvCache, mkL_len]) .nil)) (ar (e rfl rfl) (.d .nil) .nil)) rfl rfl rfl) rfl rfl rfl rfl ?_
  refine sy _ (zas rfl (e rfl rfl)) rfl rfl ?_
  refine s_end ?_
  refine v_seq ?_
  refine v_reg ?_
  refine sy _ (zmv rfl (e rfl rfl)) rfl rfl ?_
  refine sy _ (zmv rfl (e rfl rfl)) rfl rfl ?_
  have hw180 := wtL_le2 (wt := wtU) (xs := a2) (C := 0) (D := 4194304) ((⟨by omega, fun _ _ => trivial⟩ : fitL fitU a2)).1 (fun x hx => Nat.le_refl _) rfl
  have hk181 := mkL_ge mkI_ok (xs := a2) (k := (mkvCache a0 1).2) (by omega) (by omega)
  refine sd (.t ⟨false, [.d (dI ((mkL mkI a2 ((mkvCache a0 1).2)).2))]⟩) (zcall 10 (sc (dI (mkL mkI a2 ((mkvCache a0 1).2)).2)) [(5, .row 1 (((mkL mkI a2 ((mkvCache a0 1).2)).1).map encI) true 1 (0 + 1))] rfl (tr_markIntS a2 ((⟨by omega, fun _ _ => trivial⟩ : fitL fitU a2)) ((mkvCache a0 1).2) (by omega)) (am (e rfl rfl) (.sr rfl rfl (by simp [mkL_len]) .nil) (ar (e rfl rfl) (.d .nil) .nil)) rfl rfl rfl) rfl rfl rfl rfl ?_
  refine sy _ (zas rfl (e rfl rfl)) rfl rfl ?_
  refine s_end ?_
  refine v_seq ?_
  refine v_seq ?_
  refine v_reg ?_
  refine sy _ (zmv rfl (e rfl rfl)) rfl rfl ?_
  refine sy (.t ⟨false, [.d (dB (decide (((mkL mkI a2 ((mkvCache a0 1).2)).2) < (0))))]⟩) (y_bin rfl (e rfl rfl) (ec rfl) (fun _ => b_lss) rfl) rfl rfl ?_
  refine sy _ (zmv rfl (e rfl rfl)) rfl rfl ?_
  have hz5 : (decide (((mkL mkI a2 ((mkvCache a0 1).2)).2) < (0))) = false := by simp; omega
  refine gr rfl rfl rfl (eg rfl rfl) hz5 ?_
  refine sy _ (zmv rfl (e rfl rfl)) rfl rfl ?_
  refine gr rfl rfl rfl (eg rfl rfl) hz5 ?_
  refine sy _ (zmv rfl (e rfl rfl)) rfl rfl ?_
  refine gr rfl rfl rfl (eg rfl rfl) hz5 ?_
  refine sy (.t ⟨false, [.d (dB (decide ((v1.1) ≠ (v1.1))))]⟩) (y_bin rfl (e rfl rfl) (e rfl rfl) (fun _ => b_sneq) rfl) rfl rfl ?_
  refine sy (.t ⟨false, [.d (dB (decide ((v1.1) ≠ (v1.1))))]⟩) (zpf rfl (e rfl rfl) hz5 (e rfl rfl)) rfl rfl ?_
  refine sy _ (zmv rfl (e rfl rfl)) rfl rfl ?_
  refine gr rfl rfl rfl (eg rfl rfl) dec_neq ?_
  refine sy _ (zmv rfl (e rfl rfl)) rfl rfl ?_
  refine gr rfl rfl rfl (eg rfl rfl) dec_neq ?_
  refine sy _ (zmv rfl (e rfl rfl)) rfl rfl ?_
  refine gr rfl rfl rfl (eg rfl rfl) dec_neq ?_
  refine sd (.t ⟨false, [.d (dB (true))]⟩) (zcall 10 (.t ⟨false, [.d (dB (true))]⟩) [] rfl (eqT (tr_eqIntS v1.2.1 v1.2.1 hfv1p2p1 hfv1p2p1)) (ar (e rfl rfl) (.sr rfl le_all take_all .nil) (ar (e rfl rfl) (.d .nil) .nil)) rfl rfl rfl) rfl rfl rfl rfl ?_
  refine gr rfl rfl rfl (eg rfl rfl) dec_neq ?_
  refine sy (.t ⟨false, [.d (dB (!(true)))]⟩) (y_un rfl (e rfl rfl) (fun _ => u_not) rfl) rfl rfl ?_
  refine sy (.t ⟨false, [.d (dB (!(true)))]⟩) (zpf rfl (e rfl rfl) dec_neq (e rfl rfl)) rfl rfl ?_
  refine sy _ (zmv rfl (e rfl rfl)) rfl rfl ?_
  refine gr rfl rfl rfl (eg rfl rfl) rfl ?_
  refine sy _ (zmv rfl (e rfl rfl)) rfl rfl ?_
  refine gr rfl rfl rfl (eg rfl rfl) rfl ?_
  refine sy _ (zmv rfl (e rfl rfl)) rfl rfl ?_
  refine gr rfl rfl rfl (eg rfl rfl) rfl ?_
  refine sd (.t ⟨false, [.d (dB (true))]⟩) (zcall 10 (.t ⟨false, [.d (dB (true))]⟩) [] rfl (eqT (tr_eqStringS v1.2.2 v1.2.2 hfv1p2p2 hfv1p2p2)) (ar (e rfl rfl) (.sr rfl le_all take_all .nil) (ar (e rfl rfl) (.d .nil) .nil)) rfl rfl rfl) rfl rfl rfl rfl ?_
  refine gr rfl rfl rfl (eg rfl rfl) rfl ?_
  refine sy (.t ⟨false, [.d (dB (!(true)))]⟩) (y_un rfl (e rfl rfl) (fun _ => u_not) rfl) rfl rfl ?_
  refine sy (.t ⟨false, [.d (dB (!(true)))]⟩) (zpf rfl (e rfl rfl) rfl (e rfl rfl)) rfl rfl ?_
  refine s_end ?_
  refine v_cF (e rfl rfl) rfl ?_
  refine v_skip ?_
  refine v_seq ?_
  refine v_reg ?_
  refine sy _ (zas rfl (ec rfl)) rfl rfl ?_
  refine s_end ?_
  refine v_seq ?_
  refine v_reg ?_
  refine sy _ (zmv rfl (e rfl rfl)) rfl rfl ?_
  refine sy _ (zmv rfl (e rfl rfl)) rfl rfl ?_
  have hw230 := wtL_le2 (wt := wtU) (xs := v1.2.1) (C := 0) (D := 4194304) hfv1p2p1.1 (fun x hx => Nat.le_refl _) rfl
  have hk231 := mkL_ge mkI_ok (xs := v1.2.1) (k := 1) (by omega) (by omega)
  refine sd (.t ⟨false, [.d (dI ((mkL mkI v1.2.1 1).2))]⟩) (zcall 10 (sc (dI (mkL mkI v1.2.1 1).2)) [(6, .row 1 (((mkL mkI v1.2.1 1).1).map encI) true 1 (0 + 1))] rfl (tr_markIntS v1.2.1 hfv1p2p1 1 (by omega)) (am (e rfl rfl) (.sr rfl rfl (by simp [mkL_len]) .nil) (ar (e rfl rfl) (.d .nil) .nil)) rfl rfl rfl) rfl rfl rfl rfl ?_
  refine sy _ (zas rfl (e rfl rfl)) rfl rfl ?_
  refine s_end ?_
  refine v_seq ?_
  refine v_reg ?_
  refine sy _ (zmv rfl (e rfl rfl)) rfl rfl ?_
  refine sy _ (zmv rfl (e rfl rfl)) rfl rfl ?_
  have hw239 := wtL_le2 (wt := wtU) (xs := v1.2.2) (C := 0) (D := 4194304) hfv1p2p2.1 (fun x hx => Nat.le_refl _) rfl
  have hk240 := mkL_ge mkS_ok (xs := v1.2.2) (k := (mkL mkI v1.2.1 1).2) (by omega) (by omega)
  refine sd (.t ⟨false, [.d (dI ((mkL mkS v1.2.2 ((mkL mkI v1.2.1 1).2)).2))]⟩) (zcall 10 (sc (dI (mkL mkS v1.2.2 ((mkL mkI v1.2.1 1).2)).2)) [(7, .row 1 (((mkL mkS v1.2.2 ((mkL mkI v1.2.1 1).2)).1).map encS) true 1 (0 + 1))] rfl (tr_markStringS v1.2.2 hfv1p2p2 ((mkL mkI v1.2.1 1).2) (by omega)) (am (e rfl rfl) (.sr rfl rfl (by simp [mkL_len]) .nil) (ar (e rfl rfl) (.d .nil) .nil)) rfl rfl rfl) rfl rfl rfl rfl ?_
  refine sy _ (zas rfl (e rfl rfl)) rfl rfl ?_
  refine s_end ?_
  refine v_seq ?_
  refine v_reg ?_
  refine sy _ (zas rfl (ec rfl)) rfl rfl ?_
  refine s_end ?_
  refine v_seq ?_
  refine v_reg ?_
  refine sy _ (zmv rfl (e rfl rfl)) rfl rfl ?_
  refine sy _ (zmv rfl (e rfl rfl)) rfl rfl ?_
  refine sd (.t ⟨false, [.d (dI ((mkL mkI v1.2.1 1).2))]⟩) (zcall 10 (sc (dI (mkL mkI v1.2.1 1).2)) [] rfl (tr_heldIntS v1.2.1 ((mkL mkI v1.2.1 1).1) hfv1p2p1 1 (by omega) (by omega) rfl) (ar (e rfl rfl) (.sr rfl (le_len (by simp [mkL_len])) (take_len (by simp [mkL_len])) .nil) (ar (e rfl rfl) (.d .nil) .nil)) rfl rfl rfl) rfl rfl rfl rfl ?_
  refine sy _ (zas rfl (e rfl rfl)) rfl rfl ?_
  refine s_end ?_
  refine v_seq ?_
  refine v_seq ?_
  refine v_reg ?_
  refine sy _ (zmv rfl (e rfl rfl)) rfl rfl ?_
  refine sy (.t ⟨false, [.d (dB (decide (((mkL mkI v1.2.1 1).2) < (0))))]⟩) (y_bin rfl (e rfl rfl) (ec rfl) (fun _ => b_lss) rfl) rfl rfl ?_
  refine s_end ?_
  have hz6 : (decide (((mkL mkI v1.2.1 1).2) < (0))) = false := by simp; omega
  refine v_cF (e rfl rfl) hz6 ?_
  refine v_skip ?_
  refine v_seq ?_
  refine v_reg ?_
  refine sy _ (zmv rfl (e rfl rfl)) rfl rfl ?_
  refine sy _ (zmv rfl (e rfl rfl)) rfl rfl ?_
  refine sd (.t ⟨false, [.d (dI ((mkL mkS v1.2.2 ((mkL mkI v1.2.1 1).2)).2))]⟩) (zcall 10 (sc (dI (mkL mkS v1.2.2 ((mkL mkI v1.2.1 1).2)).2)) [] rfl (tr_heldStringS v1.2.2 ((mkL mkS v1.2.2 ((mkL mkI v1.2.1 1).2)).1) hfv1p2p2 ((mkL mkI v1.2.1 1).2) (by omega) (by omega) rfl) (ar (e rfl rfl) (.sr rfl (le_len (by simp [mkL_len])) (take_len (by simp [mkL_len])) .nil) (ar (e rfl rfl) (.d .nil) .nil)) rfl rfl rfl) rfl rfl rfl rfl ?_
  refine sy _ (zas rfl (e rfl rfl)) rfl rfl ?_
  refine s_end ?_
  refine v_seq ?_
  refine v_seq ?_
  refine v_reg ?_
  refine sy _ (zmv rfl (e rfl rfl)) rfl rfl ?_
  refine sy (.t ⟨false, [.d (dB (decide (((mkL mkS v1.2.2 ((mkL mkI v1.2.1 1).2)).2) < (0))))]⟩) (y_bin rfl (e rfl rfl) (ec rfl) (fun _ => b_lss) rfl) rfl rfl ?_
  refine s_end ?_
  have hz7 : (decide (((mkL mkS v1.2.2 ((mkL mkI v1.2.1 1).2)).2) < (0))) = false := by simp; omega
  refine v_cF (e rfl rfl) hz7 ?_
  refine v_skip ?_
  refine v_seq ?_
  refine v_seq ?_
  refine v_reg ?_
  refine sy _ (zmv rfl (e rfl rfl)) rfl rfl ?_
  refine sy _ (zmv rfl (e rfl rfl)) rfl rfl ?_
  refine sy (.t ⟨false, [.d (dB (decide (((mkL mkS v1.2.2 ((mkL mkI v1.2.1 1).2)).2) ≠ ((mkL mkS v1.2.2 ((mkL mkI v1.2.1 1).2)).2))))]⟩) (y_bin rfl (e rfl rfl) (e rfl rfl) (fun _ => b_neq) rfl) rfl rfl ?_
  refine s_end ?_
  refine v_cF (e rfl rfl) dec_neq ?_
  refine v_skip ?_
  refine v_seq ?_
  refine v_reg ?_
  refine sy (.t ⟨true, [.d (dI (a0.Cap)), .d (.sl 6 (a0.L.map Entry.cells))]⟩) (zlv tabOk rfl (e rfl rfl) rfl rfl rfl) rfl rfl ?_
  refine sd (.t ⟨true, [.d (dI (a0.Cap)), .sr 10 1 0 ((a0.L.map Entry.cells).length) ((a0.L.map Entry.cells).length)]⟩) (zcall 10 (.t ⟨true, [.d (dI (a0.Cap)), .sr 10 1 0 ((a0.L.map Entry.cells).length) ((a0.L.map Entry.cells).length)]⟩) [(10, .row 6 (a0.L.map Entry.cells) true 1 0)] rfl (tr_toCache a0 hsr3.2) (ar (e rfl rfl) (.d (.d .nil)) .nil) rfl rfl rfl) rfl rfl rfl rfl ?_
  refine sy _ (zmv rfl (e rfl rfl)) rfl rfl ?_
  refine sy _ (zmv rfl (e rfl rfl)) rfl rfl ?_
  refine sd (.t ⟨false, [.sr 11 1 0 ((a2.map encI).length) ((a2.map encI).length)]⟩) (zcall 11 (.t ⟨false, [.sr 11 1 0 ((a2.map encI).length) ((a2.map encI).length)]⟩) [(11, .row 1 (a2.map encI) true 1 0)] rfl (tr_toIntS a2 ((⟨by omega, fun _ _ => trivial⟩ : fitL fitU a2))) (ar (e rfl rfl) (.d .nil) .nil) rfl rfl rfl) rfl rfl rfl rfl ?_
  refine sy _ (zmv rfl (e rfl rfl)) rfl rfl ?_
  refine sd (.tu [⟨false, [.d (dS (v1.1))]⟩, ⟨false, [.sr 12 1 0 ((v1.2.1.map encI).length) ((v1.2.1.map encI).length)]⟩, ⟨false, [.sr 13 1 0 ((v1.2.2.map encS).length) ((v1.2.2.map encS).length)]⟩]) (zcall 12 (.tu [⟨false, [.d (dS (v1.1))]⟩, ⟨false, [.sr 12 1 0 ((v1.2.1.map encI).length) ((v1.2.1.map encI).length)]⟩, ⟨false, [.sr 13 1 0 ((v1.2.2.map encS).length) ((v1.2.2.map encS).length)]⟩]) [(12, .row 1 (v1.2.1.map encI) true 1 0), (13, .row 1 (v1.2.2.map encS) true 1 0)] rfl (by rw [ev1]; exact (tr2_n_impl_StartAt a0 a1 a2 a3 hsr3.2 ((⟨by omega, fun _ _ => trivial⟩ : fitL fitU a2)) ((show a3.size ≤ 2097152 by omega)) b0 b1) : Tr Tryz.prog 8 _ [⟨false, [dS (v1.1)]⟩, ⟨false, [.sl 1 (v1.2.1.map encI)]⟩, ⟨false, [.sl 1 (v1.2.2.map encS)]⟩]) (ar (e rfl rfl) (.d (.sr rfl le_all take_all .nil)) (ar (e rfl rfl) (.d .nil) (ar (e rfl rfl) (.sr rfl le_all take_all .nil) (ar (e rfl rfl) (.d .nil) .nil)))) rfl rfl rfl) rfl rfl rfl rfl ?_
  refine sy (.tu [⟨false, [.d (dS (v1.1))]⟩, ⟨false, [.sr 12 1 0 ((v1.2.1.map encI).length) ((v1.2.1.map encI).length)]⟩, ⟨false, [.sr 13 1 0 ((v1.2.2.map encS).length) ((v1.2.2.map encS).length)]⟩]) (zmvt (.inl rfl) (eg rfl rfl)) rfl rfl ?_
  refine sy (.t ⟨false, [.d (dS (v1.1))]⟩) (y_extract rfl rfl (eg rfl rfl) rfl) rfl rfl ?_
  refine sy (.t ⟨false, [.sr 12 1 0 ((v1.2.1.map encI).length) ((v1.2.1.map encI).length)]⟩) (y_extract rfl rfl (eg rfl rfl) rfl) rfl rfl ?_
  refine sy (.t ⟨false, [.sr 13 1 0 ((v1.2.2.map encS).length) ((v1.2.2.map encS).length)]⟩) (y_extract rfl rfl (eg rfl rfl) rfl) rfl rfl ?_
  refine sy _ (zas rfl (e rfl rfl)) rfl rfl ?_
  refine sy _ (zas rfl (e rfl rfl)) rfl rfl ?_
  refine sy _ (zas rfl (e rfl rfl)) rfl rfl ?_
  refine s_end ?_
  refine v_seq ?_
  refine v_seq ?_
  refine v_reg ?_
  refine sy _ (zmv rfl (e rfl rfl)) rfl rfl ?_
  refine sy _ (zmv rfl (e rfl rfl)) rfl rfl ?_
  refine sy (.t ⟨false, [.d (dB (decide ((v1.1) ≠ (v1.1))))]⟩) (y_bin rfl (e rfl rfl) (e rfl rfl) (fun _ => b_sneq) rfl) rfl rfl ?_
  refine sy _ (zmv rfl (e rfl rfl)) rfl rfl ?_
  refine gr rfl rfl rfl (eg rfl rfl) dec_neq ?_
  refine sy _ (zmv rfl (e rfl rfl)) rfl rfl ?_
  refine gr rfl rfl rfl (eg rfl rfl) dec_neq ?_
  refine sy _ (zmv rfl (e rfl rfl)) rfl rfl ?_
  refine gr rfl rfl rfl (eg rfl rfl) dec_neq ?_
  refine sd (.t ⟨false, [.d (dB (true))]⟩) (zcall 14 (.t ⟨false, [.d (dB (true))]⟩) [] rfl (eqT (tr_eqIntS v1.2.1 v1.2.1 hfv1p2p1 hfv1p2p1)) (ar (e rfl rfl) (.sr rfl le_all take_all .nil) (ar (e rfl rfl) (.d .nil) .nil)) rfl rfl rfl) rfl rfl rfl rfl ?_
  refine gr rfl rfl rfl (eg rfl rfl) dec_neq ?_
  refine sy (.t ⟨false, [.d (dB (!(true)))]⟩) (y_un rfl (e rfl rfl) (fun _ => u_not) rfl) rfl rfl ?_
  refine sy (.t ⟨false, [.d (dB (!(true)))]⟩) (zpf rfl (e rfl rfl) dec_neq (e rfl rfl)) rfl rfl ?_
  refine sy _ (zmv rfl (e rfl rfl)) rfl rfl ?_
  refine gr rfl rfl rfl (eg rfl rfl) rfl ?_
  refine sy _ (zmv rfl (e rfl rfl)) rfl rfl ?_
  refine gr rfl rfl rfl (eg rfl rfl) rfl ?_
  refine sy _ (zmv rfl (e rfl rfl)) rfl rfl ?_
  refine gr rfl rfl rfl (eg rfl rfl) rfl ?_
  refine sd (.t ⟨false, [.d (dB (true))]⟩) (zcall 14 (.t ⟨false, [.d (dB (true))]⟩) [] rfl (eqT (tr_eqStringS v1.2.2 v1.2.2 hfv1p2p2 hfv1p2p2)) (ar (e rfl rfl) (.sr rfl le_all take_all .nil) (ar (e rfl rfl) (.d .nil) .nil)) rfl rfl rfl) rfl rfl rfl rfl ?_
  refine gr rfl rfl rfl (eg rfl rfl) rfl ?_
  refine sy (.t ⟨false, [.d (dB (!(true)))]⟩) (y_un rfl (e rfl rfl) (fun _ => u_not) rfl) rfl rfl ?_
  refine sy (.t ⟨false, [.d (dB (!(true)))]⟩) (zpf rfl (e rfl rfl) rfl (e rfl rfl)) rfl rfl ?_
  refine s_end ?_
  refine v_cF (e rfl rfl) rfl ?_
  refine v_skip ?_
  refine v_seq ?_
  refine v_reg ?_
  refine sy _ (zas rfl (ec rfl)) rfl rfl ?_
  refine s_end ?_
  refine v_seq ?_
  refine v_reg ?_
  refine sy _ (zmv rfl (e rfl rfl)) rfl rfl ?_
  refine sy _ (zmv rfl (e rfl rfl)) rfl rfl ?_
  refine sd (.t ⟨false, [.d (dI ((mkL mkI v1.2.1 1).2))]⟩) (zcall 14 (sc (dI (mkL mkI v1.2.1 1).2)) [] rfl (tr_heldIntS v1.2.1 ((mkL mkI v1.2.1 1).1) hfv1p2p1 1 (by omega) (by omega) rfl) (ar (e rfl rfl) (.sr rfl (le_len (by simp [mkL_len])) (take_len (by simp [mkL_len])) .nil) (ar (e rfl rfl) (.d .nil) .nil)) rfl rfl rfl) rfl rfl rfl rfl ?_
  refine sy _ (zas rfl (e rfl rfl)) rfl rfl ?_
  refine s_end ?_
  refine v_seq ?_
  refine v_seq ?_
  refine v_reg ?_
  refine sy _ (zmv rfl (e rfl rfl)) rfl rfl ?_
  refine sy (.t ⟨false, [.d (dB (decide (((mkL mkI v1.2.1 1).2) < (0))))]⟩) (y_bin rfl (e rfl rfl) (ec rfl) (fun _ => b_lss) rfl) rfl rfl ?_
  refine s_end ?_
  refine v_cF (e rfl rfl) hz6 ?_
  refine v_skip ?_
  refine v_seq ?_
  refine v_reg ?_
  refine sy _ (zmv rfl (e rfl rfl)) rfl rfl ?_
  refine sy _ (zmv rfl (e rfl rfl)) rfl rfl ?_
  refine sd (.t ⟨false, [.d (dI ((mkL mkS v1.2.2 ((mkL mkI v1.2.1 1).2)).2))]⟩) (zcall 14 (sc (dI (mkL mkS v1.2.2 ((mkL mkI v1.2.1 1).2)).2)) [] rfl (tr_heldStringS v1.2.2 ((mkL mkS v1.2.2 ((mkL mkI v1.2.1 1).2)).1) hfv1p2p2 ((mkL mkI v1.2.1 1).2) (by omega) (by omega) rfl) (ar (e rfl rfl) (.sr rfl (le_len (by simp [mkL_len])) (take_len (by simp [mkL_len])) .nil) (ar (e rfl rfl) (.d .nil) .nil)) rfl rfl rfl) rfl rfl rfl rfl ?_
  refine sy _ (zas rfl (e rfl rfl)) rfl rfl ?_
  refine s_end ?_
  refine v_seq ?_
  refine v_seq ?_
  refine v_reg ?_
  refine sy _ (zmv rfl (e rfl rfl)) rfl rfl ?_
  refine sy (.t ⟨false, [.d (dB (decide (((mkL mkS v1.2.2 ((mkL mkI v1.2.1 1).2)).2) < (0))))]⟩) (y_bin rfl (e rfl rfl) (ec rfl) (fun _ => b_lss) rfl) rfl rfl ?_
  refine s_end ?_
  refine v_cF (e rfl rfl) hz7 ?_
  refine v_skip ?_
  refine v_seq ?_
  refine v_seq ?_
  refine v_reg ?_
  refine sy _ (zmv rfl (e rfl rfl)) rfl rfl ?_
  refine sy _ (zmv rfl (e rfl rfl)) rfl rfl ?_
  refine sy (.t ⟨false, [.d (dB (decide (((mkL mkS v1.2.2 ((mkL mkI v1.2.1 1).2)).2) ≠ ((mkL mkS v1.2.2 ((mkL mkI v1.2.1 1).2)).2))))]⟩) (y_bin rfl (e rfl rfl) (e rfl rfl) (fun _ => b_neq) rfl) rfl rfl ?_
  refine s_end ?_
  refine v_cF (e rfl rfl) dec_neq ?_
  refine v_skip ?_
  refine v_seq ?_
  refine v_reg ?_
  refine sy _ (zas rfl (ec rfl)) rfl rfl ?_
  refine s_end ?_
  refine v_ret ?_
  exact post_ret (rv (.tmp (eg rfl rfl)) rfl (.lf .nil) rfl .nil) (.ro (.ro (.ro (.ro .nil)))) rfl
end Go.Proofs.YtglilpigoocgeaaGreatDoor.V
