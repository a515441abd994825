/-
  The law FnExactNearest, walked.
-/
import Derived.Test.YtkcpbahcnlhmjaaDoorFP
import Derived.Test.YtkcpbahcnlhmjaaDoorTCache
import Derived.Test.YtkcpbahcnlhmjaaDoorVE
import Derived.Test.YtkcpbahcnlhmjaaDoorN
import Derived.Test.YtkcpbahcnlhmjaaDoorC
namespace Go.Proofs.YtkcpbahcnlhmjaaDoor.V
open Go
set_option linter.unusedVariables false
set_option linter.unusedSimpArgs false
theorem rd3 {H : Type} {enc : TypeId × Value → H} {W : Go.World} : Rd enc Tryd.prog W 3 1 (fun v : Int => [.lf (.int .i64 v)]) bndI := rd_i64 Tryd.underlying3 (by kernel_rfl)
theorem rd9 {H : Type} {enc : TypeId × Value → H} {W : Go.World} : Rd enc Tryd.prog W 9 1 (fun v : ByteArray => [dS v]) bndS := rd_str Tryd.underlying9 (by kernel_rfl)
theorem rd23 {H : Type} {enc : TypeId × Value → H} {W : Go.World} : Rd enc Tryd.prog W 23 2 Quest.cells Quest.Bnd := rd_struct (fs := [(0, 9), (1, 3)]) Tryd.underlying23 (by kernel_rfl) (by kernel_rfl) (rdf_cons rd9 (rdf_cons rd3 (rdf_nil rfl))) (fun p => ⟨p.1, p.2.1⟩) (fun _ => rfl) (fun p h => ⟨h.1, h.2.1⟩)
theorem rd111 {H : Type} {enc : TypeId × Value → H} {W : Go.World} : Rd enc Tryd.prog W 111 6 Record.cells Record.Bnd := rd_struct (fs := [(0, 9), (1, 3), (2, 3), (3, 3), (4, 9), (5, 9)]) Tryd.underlying111 (by kernel_rfl) (by kernel_rfl) (rdf_cons rd9 (rdf_cons rd3 (rdf_cons rd3 (rdf_cons rd3 (rdf_cons rd9 (rdf_cons rd9 (rdf_nil rfl))))))) (fun p => ⟨p.1, p.2.1, p.2.2.1, p.2.2.2.1, p.2.2.2.2.1, p.2.2.2.2.2.1⟩) (fun _ => rfl) (fun p h => ⟨h.1, h.2.1, h.2.2.1, h.2.2.2.1, h.2.2.2.2.1, h.2.2.2.2.2.1⟩)
theorem rd24 {H : Type} {enc : TypeId × Value → H} {W : Go.World} : Rd enc Tryd.prog W 24 1 (fun xs : List Record => [.sl 6 (xs.map Record.cells)]) (bndL Record.Bnd) := rd_slice Tryd.underlying24 (by kernel_rfl) rd111 (by decide) (fun _ => rfl)
theorem rd121 {H : Type} {enc : TypeId × Value → H} {W : Go.World} : Rd enc Tryd.prog W 121 6 Entry.cells Entry.Bnd := rd_struct (fs := [(0, 23), (2, 3), (3, 24), (4, 3), (5, 3)]) Tryd.underlying121 (by kernel_rfl) (by kernel_rfl) (rdf_cons rd23 (rdf_cons rd3 (rdf_cons rd24 (rdf_cons rd3 (rdf_cons rd3 (rdf_nil rfl)))))) (fun p => ⟨p.1, p.2.1, p.2.2.1, p.2.2.2.1, p.2.2.2.2.1⟩) (fun _ => rfl) (fun p h => ⟨h.1, h.2.1, h.2.2.1, h.2.2.2.1, h.2.2.2.2.1⟩)
theorem rd41 {H : Type} {enc : TypeId × Value → H} {W : Go.World} : Rd enc Tryd.prog W 41 1 (fun xs : List Entry => [.sl 6 (xs.map Entry.cells)]) (bndL Entry.Bnd) := rd_slice Tryd.underlying41 (by kernel_rfl) rd121 (by decide) (fun _ => rfl)
theorem rd43 {H : Type} {enc : TypeId × Value → H} {W : Go.World} : Rd enc Tryd.prog W 43 2 Cache.cells Cache.Bnd := rd_struct (fs := [(0, 3), (1, 41)]) Tryd.underlying43 (by kernel_rfl) (by kernel_rfl) (rdf_cons rd3 (rdf_cons rd41 (rdf_nil rfl))) (fun p => ⟨p.1, p.2.1⟩) (fun _ => rfl) (fun p h => ⟨h.1, h.2.1⟩)
set_option maxRecDepth 20000 in
theorem tr_law (a0 : Cache) (a1 : Int) (a2 : ByteArray) (b0 : Cache.Bnd a0) (b1 : bndI a1) (b2 : bndS a2) : Tr Tryd.prog 4 [.ro ⟨true, [dI (a0.Cap), .sl 6 (a0.L.map Entry.cells)]⟩, .ro ⟨false, [dI (a1)]⟩, .ro ⟨false, [dS (a2)]⟩] [one (dB true)] := by
  refine tr_go tabOk Tryd.func4 rfl rfl rfl rfl rfl (ov := [(0, .t ⟨true, [.d (dI (a0.Cap)), .d (.sl 6 (a0.L.map Entry.cells))]⟩), (1, .t ⟨false, [.d (dI (a1))]⟩), (2, .t ⟨false, [.d (dS (a2))]⟩)]) (hv := []) rfl rfl ?_
  refine v_seq ?_
  refine v_reg ?_
  refine sr 0 (.t ⟨false, [.vp 0 0]⟩) (.var [.d (dI (a0.Cap)), .d (.sl 6 (a0.L.map Entry.cells))]) (zbx rfl (e rfl rfl) rfl rfl rfl) rfl rfl ?_
  refine sy _ (zas rfl (ec rfl)) rfl rfl ?_
  refine s_end ?_
  refine v_seq ?_
  refine v_seq ?_
  refine v_reg ?_
  refine sy _ (zmv rfl (e rfl rfl)) rfl rfl ?_
  refine sy (.t ⟨false, [.d (dI (a2.size : Int))]⟩) (zls tabOk rfl rfl (e rfl rfl)) rfl rfl ?_
  refine sy (.t ⟨false, [.d (dB (decide ((1048576) < ((a2.size : Int)))))]⟩) (y_bin rfl (e rfl rfl) (ec rfl) (fun _ => b_gtr) rfl) rfl rfl ?_
  refine s_end ?_
  refine v_cond (e rfl rfl) (fun hb1 => ?_) fun hb1 => ?_
  · have hb1p := dec_t hb1
    refine v_seq ?_
    refine v_reg ?_
    refine sy _ (zas rfl (ec rfl)) rfl rfl ?_
    refine s_end ?_
    refine v_ret ?_
    exact post_ret (rv (.tmp (eg rfl rfl)) rfl (.lf .nil) rfl .nil) (.ro (.ro (.ro .nil))) rfl
  have hb1p := dec_f hb1
  refine v_skip ?_
  refine v_seq ?_
  refine v_reg ?_
  refine sy _ (zas rfl (ec rfl)) rfl rfl ?_
  refine s_end ?_
  refine v_seq ?_
  refine v_reg ?_
  refine sy (.t ⟨true, [.d (dI (a0.Cap)), .d (.sl 6 (a0.L.map Entry.cells))]⟩) (zlv tabOk rfl (e rfl rfl) rfl rfl rfl) rfl rfl ?_
  refine sy _ (zmv rfl (e rfl rfl)) rfl rfl ?_
  refine sxI (zcallX rfl (tr_szCache a0 b0 1048576 (by omega) (by omega)) (ar (e rfl rfl) (.d (.d .nil)) (ar (e rfl rfl) (.d .nil) .nil))) rfl rfl (fun r2 hr2 => ?_)
  refine sy _ (zas rfl (e rfl rfl)) rfl rfl ?_
  refine s_end ?_
  refine v_seq ?_
  refine v_seq ?_
  refine v_reg ?_
  refine sy _ (zmv rfl (e rfl rfl)) rfl rfl ?_
  refine sy (.t ⟨false, [.d (dB (decide ((r2) < (0))))]⟩) (y_bin rfl (e rfl rfl) (ec rfl) (fun _ => b_lss) rfl) rfl rfl ?_
  refine s_end ?_
  refine v_cond (e rfl rfl) (fun hb3 => ?_) fun hb3 => ?_
  · have hb3p := dec_t hb3
    refine v_seq ?_
    refine v_reg ?_
    refine sy _ (zas rfl (ec rfl)) rfl rfl ?_
    refine s_end ?_
    refine v_ret ?_
    exact post_ret (rv (.tmp (eg rfl rfl)) rfl (.lf .nil) rfl .nil) (.ro (.ro (.ro .nil))) rfl
  have hb3p := dec_f hb3
  have hsr2 := hr2 (by omega)
  have hsr2w := hsr2.1
  refine v_skip ?_
  refine v_seq ?_
  refine v_reg ?_
  refine sy (.t ⟨true, [.d (dI (a0.Cap)), .d (.sl 6 (a0.L.map Entry.cells))]⟩) (zlv tabOk rfl (e rfl rfl) rfl rfl rfl) rfl rfl ?_
  refine sd (.t ⟨true, [.d (dI (a0.Cap)), .sr 1 1 0 ((a0.L.map Entry.cells).length) ((a0.L.map Entry.cells).length)]⟩) (zcall 1 (.t ⟨true, [.d (dI (a0.Cap)), .sr 1 1 0 ((a0.L.map Entry.cells).length) ((a0.L.map Entry.cells).length)]⟩) [(1, .row 6 (a0.L.map Entry.cells) true 1 0)] rfl (tr_toCache a0 hsr2.2) (ar (e rfl rfl) (.d (.d .nil)) .nil) rfl rfl rfl) rfl rfl rfl rfl ?_
  refine sy _ (zmv rfl (e rfl rfl)) rfl rfl ?_
  refine sy _ (zmv rfl (e rfl rfl)) rfl rfl ?_
  obtain ⟨v1, ev1⟩ : ∃ v : ByteArray × Bool, v = n_spec_Nearest a0 a1 a2 := ⟨_, rfl⟩
  have hfv1p1 : fitS v1.1 := by rw [ev1]; exact (fitx_n_spec_Nearest a0 a1 a2 hsr2.2 ((show a2.size ≤ 2097152 by omega)))
  refine sd (.tu [⟨false, [.d (dS (v1.1))]⟩, ⟨false, [.d (dB (v1.2))]⟩]) (zcd (.tu [⟨false, [.d (dS (v1.1))]⟩, ⟨false, [.d (dB (v1.2))]⟩]) rfl (by rw [ev1]; exact (tr_n_spec_Nearest a0 a1 a2 hsr2.2 ((show a2.size ≤ 2097152 by omega))) : Tr Tryd.prog 13 _ [⟨false, [dS (v1.1)]⟩, ⟨false, [dB (v1.2)]⟩]) (ar (e rfl rfl) (.d (.sr rfl le_all take_all .nil)) (ar (e rfl rfl) (.d .nil) (ar (e rfl rfl) (.d .nil) .nil))) rfl) rfl rfl rfl rfl ?_
  refine sy (.tu [⟨false, [.d (dS (v1.1))]⟩, ⟨false, [.d (dB (v1.2))]⟩]) (zmvt (.inl rfl) (eg rfl rfl)) rfl rfl ?_
  refine sy (.t ⟨false, [.d (dS (v1.1))]⟩) (y_extract rfl rfl (eg rfl rfl) rfl) rfl rfl ?_
  refine sy (.t ⟨false, [.d (dB (v1.2))]⟩) (y_extract rfl rfl (eg rfl rfl) rfl) rfl rfl ?_
  refine sy _ (zas rfl (e rfl rfl)) rfl rfl ?_
  refine sy _ (zas rfl (e rfl rfl)) rfl rfl ?_
  refine s_end ?_
  refine v_seq ?_
  refine v_reg ?_
  refine sy (.t ⟨true, [.d (dI (a0.Cap)), .d (.sl 6 (a0.L.map Entry.cells))]⟩) (zlv tabOk rfl (e rfl rfl) rfl rfl rfl) rfl rfl ?_
  refine sd (.t ⟨true, [.d (dI (a0.Cap)), .sr 2 1 0 ((a0.L.map Entry.cells).length) ((a0.L.map Entry.cells).length)]⟩) (zcall 2 (.t ⟨true, [.d (dI (a0.Cap)), .sr 2 1 0 ((a0.L.map Entry.cells).length) ((a0.L.map Entry.cells).length)]⟩) [(2, .row 6 (a0.L.map Entry.cells) true 1 0)] rfl (tr_toCache a0 hsr2.2) (ar (e rfl rfl) (.d (.d .nil)) .nil) rfl rfl rfl) rfl rfl rfl rfl ?_
  refine sr 3 (.t ⟨false, [.vp 3 0]⟩) (.var [.d (dI (0)), .nl 6]) (zal tabOk rfl rfl rfl rfl) rfl rfl ?_
  refine sw 3 (.var [.d (dI (a0.Cap)), .sr 2 1 0 ((a0.L.map Entry.cells).length) ((a0.L.map Entry.cells).length)]) (zst tabOk rfl (e rfl rfl) rfl (e rfl rfl) rfl rfl rfl) rfl rfl ?_
  refine s_end ?_
  refine v_seq ?_
  refine v_reg ?_
  refine sy (.t ⟨true, [.d (dI (a0.Cap)), .sr 2 1 0 ((a0.L.map Entry.cells).length) ((a0.L.map Entry.cells).length)]⟩) (zlv tabOk rfl (e rfl rfl) rfl rfl rfl) rfl rfl ?_
  refine sy _ (zmv rfl (e rfl rfl)) rfl rfl ?_
  refine sy _ (zmv rfl (e rfl rfl)) rfl rfl ?_
  have hfv1p1 : fitS v1.1 := by rw [ev1]; exact (fitx_n_spec_Nearest a0 a1 a2 hsr2.2 ((show a2.size ≤ 2097152 by omega)))
  refine sd (.tu [⟨false, [.d (dS (v1.1))]⟩, ⟨false, [.d (dB (v1.2))]⟩]) (zcd (.tu [⟨false, [.d (dS (v1.1))]⟩, ⟨false, [.d (dB (v1.2))]⟩]) rfl (by rw [ev1]; exact (tr2_n_impl_Nearest a0 a1 a2 hsr2.2 ((show a2.size ≤ 2097152 by omega)) b0 b1) : Tr Tryd.prog 15 _ [⟨false, [dS (v1.1)]⟩, ⟨false, [dB (v1.2)]⟩]) (ar (e rfl rfl) (.d (.sr rfl le_all take_all .nil)) (ar (e rfl rfl) (.d .nil) (ar (e rfl rfl) (.d .nil) .nil))) rfl) rfl rfl rfl rfl ?_
  refine sy (.tu [⟨false, [.d (dS (v1.1))]⟩, ⟨false, [.d (dB (v1.2))]⟩]) (zmvt (.inl rfl) (eg rfl rfl)) rfl rfl ?_
  refine sy (.t ⟨false, [.d (dS (v1.1))]⟩) (y_extract rfl rfl (eg rfl rfl) rfl) rfl rfl ?_
  refine sy (.t ⟨false, [.d (dB (v1.2))]⟩) (y_extract rfl rfl (eg rfl rfl) rfl) rfl rfl ?_
  refine sy _ (zas rfl (e rfl rfl)) rfl rfl ?_
  refine sy _ (zas rfl (e rfl rfl)) rfl rfl ?_
  refine s_end ?_
  refine v_seq ?_
  refine v_seq ?_
  refine v_reg ?_
  refine sy _ (zmv rfl (e rfl rfl)) rfl rfl ?_
  refine sy _ (zmv rfl (e rfl rfl)) rfl rfl ?_
  refine sy (.t ⟨false, [.d (dB (decide ((v1.1) ≠ (v1.1))))]⟩) (y_bin rfl (e rfl rfl) (e rfl rfl) (fun _ => b_sneq) rfl) rfl rfl ?_
  refine sy _ (zmv rfl (e rfl rfl)) rfl rfl ?_
  refine gr rfl rfl rfl (eg rfl rfl) dec_neq ?_
  refine sy _ (zmv rfl (e rfl rfl)) rfl rfl ?_
  refine gr rfl rfl rfl (eg rfl rfl) dec_neq ?_
  refine sy _ (zmv rfl (e rfl rfl)) rfl rfl ?_
  refine gr rfl rfl rfl (eg rfl rfl) dec_neq ?_
  refine sy (.t ⟨false, [.d (dB (decide ((v1.2) ≠ (v1.2))))]⟩) (y_bin rfl (e rfl rfl) (e rfl rfl) (fun _ => b_bneq (by kernel_rfl)) rfl) rfl rfl ?_
  refine sy (.t ⟨false, [.d (dB (decide ((v1.2) ≠ (v1.2))))]⟩) (zpf rfl (e rfl rfl) dec_neq (e rfl rfl)) rfl rfl ?_
  refine s_end ?_
  refine v_cF (e rfl rfl) dec_neq ?_
  refine v_skip ?_
  refine v_seq ?_
  refine v_seq ?_
  refine v_drw2 [⟨.t ⟨true, [.d (dI (a0.Cap)), .sr 2 1 0 ((a0.L.map Entry.cells).length) ((a0.L.map Entry.cells).length)]⟩, [], [10], [3], false⟩, ⟨.t ⟨true, [.d (dI (a0.Cap)), .d (.sl 6 (a0.L.map Entry.cells))]⟩, [], [3], [0], false⟩, ⟨.t ⟨true, [.d (dI (a0.Cap)), .sr 4 1 0 ((a0.L.map Entry.cells).length) ((a0.L.map Entry.cells).length)]⟩, [(4, .row 6 (a0.L.map Entry.cells) true 1 0)], [47], [], false⟩, ⟨.t ⟨false, [.d (dB (true))]⟩, [], [46, 48], [2, 4], false⟩, ⟨.t ⟨false, [.d (dB (!(true)))]⟩, [], [49], [], false⟩] mixed (.c rfl (.c rfl (.c rfl (.c rfl (.c rfl .nil))))) (.s rfl (.s rfl (.g rfl (.s rfl (.s rfl .nil))))) (by kernel_rfl) (by kernel_rfl) ⟨gN rfl rfl (fun t h A => by exact dy (zlv tabOk rfl (A.e rfl rfl rfl) (A.h rfl rfl) rfl rfl)), gN rfl rfl (fun t h A => by exact dy (zlv tabOk rfl (A.e rfl rfl rfl) (A.h rfl rfl) rfl rfl)), gN rfl rfl (fun t h A => by exact zcallA 4 (.t ⟨true, [.d (dI (a0.Cap)), .sr 4 1 0 ((a0.L.map Entry.cells).length) ((a0.L.map Entry.cells).length)]⟩) [(4, .row 6 (a0.L.map Entry.cells) true 1 0)] rfl (tr_toCache a0 hsr2.2) (ar (A.e rfl rfl rfl) (.d (.d .nil)) .nil) rfl (A.free rfl) rfl rfl), gN rfl rfl (fun t h A => by exact zcallA 5 (.t ⟨false, [.d (dB (true))]⟩) [] rfl (eqT (tr_eqCache a0 a0 hsr2.2 hsr2.2)) (ar (A.e rfl rfl rfl) (.d (.sr (A.h rfl rfl) le_all take_all .nil)) (ar (A.e rfl rfl rfl) (.d (.sr (A.h rfl rfl) le_all take_all .nil)) .nil)) rfl (free0 rfl) rfl rfl), gN rfl rfl (fun t h A => by exact dy (y_un rfl (A.e rfl rfl rfl) (fun _ => u_not) rfl)), trivial⟩ ?_
  refine s_end ?_
  refine v_cF (e rfl rfl) rfl ?_
  refine v_skip ?_
  refine v_seq ?_
  refine v_reg ?_
  refine sy _ (zas rfl (ec rfl)) rfl rfl ?_
  refine s_end ?_
  refine v_ret ?_
  exact post_ret (rv (.tmp (eg rfl rfl)) rfl (.lf .nil) rfl .nil) (.ro (.ro (.ro .nil))) rfl
end Go.Proofs.YtkcpbahcnlhmjaaDoor.V
