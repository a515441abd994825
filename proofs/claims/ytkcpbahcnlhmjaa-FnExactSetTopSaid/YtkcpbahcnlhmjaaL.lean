/-
  The law, walked.
-/
import Derived.Test.YtkcpbahcnlhmjaaF
import Derived.Test.YtkcpbahcnlhmjaaE
import Derived.Test.YtkcpbahcnlhmjaaO
import Derived.Test.YtkcpbahcnlhmjaaZ
import Derived.Test.YtkcpbahcnlhmjaaH
import Derived.Test.YtkcpbahcnlhmjaaV33
namespace Go.Proofs.Ytkcpbahcnlhmjaa.V
open Go
set_option linter.unusedVariables false
set_option linter.unusedSimpArgs false
theorem set_mem {α : Type} {xs : List α} {i : Nat} {y x : α} (h : x ∈ xs.set i y) : x ∈ xs ∨ x = y := by
  rcases List.mem_or_eq_of_mem_set h with h | h
  · exact .inl h
  · exact .inr h
theorem fit_push (a : Job) (q : Quest) (h : a.Fit) (hq : q.Fit) (hw : a.Stack.length ≤ 1048576) : (n_spec_Push a q).Fit := by
  have hnew : (⟨q, q, [], ⟨#[]⟩, [], [], 0, 0, 1, ⟨0, 0, 0, 0⟩⟩ : Frame).Fit := ⟨hq, hq, ⟨by simp, by simp⟩, by simp [fitS, ByteArray.size], ⟨by simp, by simp⟩, ⟨by simp, by simp⟩, ⟨⟩⟩
  unfold n_spec_Push
  cases hc : decide (0 < (a.Stack.length : Int)) with
  | false =>
    simp only [cond_false]
    refine ⟨h.Ask, by simp; omega, fun x hx => ?_⟩
    simp only [List.mem_append, List.mem_singleton] at hx
    rcases hx with hx | rfl
    · exact h.Stack.2 x hx
    · exact hnew
  | true =>
    have hp : 0 < (a.Stack.length : Int) := of_decide_eq_true hc
    obtain ⟨x, hx⟩ := some_of_lt (l := a.Stack) (i := ((a.Stack.length : Int) - 1).toNat) (by omega)
    have hxf := h.Stack.2 x (List.mem_of_getElem? hx)
    simp only [cond_true, atL, hx]
    refine ⟨h.Ask, by simp; omega, fun y hy => ?_⟩
    simp only [List.mem_append, List.mem_singleton] at hy
    rcases hy with hy | rfl
    · rcases set_mem hy with hy | rfl
      · exact h.Stack.2 y hy
      · exact ⟨hxf.Ask, hxf.Q, hxf.Links, hxf.Apex, hxf.Servers, hxf.Need, hxf.X⟩
    · exact hnew
theorem fit_set (a : Job) (f : Frame) (h : a.Fit) (hf : f.Fit) : (n_spec_SetTop a f).Fit := by
  unfold n_spec_SetTop
  cases hc : decide (0 < (a.Stack.length : Int)) with
  | false =>
    simp only [cond_false]
    exact ⟨h.Ask, h.Stack⟩
  | true =>
    have hp : 0 < (a.Stack.length : Int) := of_decide_eq_true hc
    obtain ⟨x, hx⟩ := some_of_lt (l := a.Stack) (i := ((a.Stack.length : Int) - 1).toNat) (by omega)
    simp only [cond_true, atL, hx]
    refine ⟨h.Ask, by simp; exact h.Stack.1, fun y hy => ?_⟩
    rcases set_mem hy with hy | rfl
    · exact h.Stack.2 y hy
    · exact hf

theorem rd3 {H : Type} {enc : TypeId × Value → H} {W : Go.World} : Rd enc Try.prog W 3 1 (fun v : Int => [.lf (.int .i64 v)]) bndU := rd_int Try.underlying3 (by kernel_rfl)
theorem rd9 {H : Type} {enc : TypeId × Value → H} {W : Go.World} : Rd enc Try.prog W 9 1 (fun v : ByteArray => [dS v]) bndS := rd_str Try.underlying9 (by kernel_rfl)
theorem rd23 {H : Type} {enc : TypeId × Value → H} {W : Go.World} : Rd enc Try.prog W 23 2 Quest.cells Quest.Bnd := rd_struct (fs := [(0, 9), (1, 3)]) Try.underlying23 (by kernel_rfl) (by kernel_rfl) (rdf_cons rd9 (rdf_cons rd3 (rdf_nil rfl))) (fun p => ⟨p.1, p.2.1⟩) (fun _ => rfl) (fun p h => ⟨h.1⟩)
theorem rd125 {H : Type} {enc : TypeId × Value → H} {W : Go.World} : Rd enc Try.prog W 125 6 Record.cells Record.Bnd := rd_struct (fs := [(0, 9), (1, 3), (2, 3), (3, 3), (4, 9), (5, 9)]) Try.underlying125 (by kernel_rfl) (by kernel_rfl) (rdf_cons rd9 (rdf_cons rd3 (rdf_cons rd3 (rdf_cons rd3 (rdf_cons rd9 (rdf_cons rd9 (rdf_nil rfl))))))) (fun p => ⟨p.1, p.2.1, p.2.2.1, p.2.2.2.1, p.2.2.2.2.1, p.2.2.2.2.2.1⟩) (fun _ => rfl) (fun p h => ⟨h.1, h.2.2.2.2.1, h.2.2.2.2.2.1⟩)
theorem rd39 {H : Type} {enc : TypeId × Value → H} {W : Go.World} : Rd enc Try.prog W 39 1 (fun xs : List Record => [.sl 6 (xs.map Record.cells)]) (bndL Record.Bnd) := rd_slice Try.underlying39 (by kernel_rfl) rd125 (by decide) (fun _ => rfl)
theorem rd40 {H : Type} {enc : TypeId × Value → H} {W : Go.World} : Rd enc Try.prog W 40 1 (fun xs : List Int => [.sl 1 (xs.map encI)]) (bndL bndU) := rd_slice Try.underlying40 (by kernel_rfl) rd3 (by decide) (fun _ => rfl)
theorem rd41 {H : Type} {enc : TypeId × Value → H} {W : Go.World} : Rd enc Try.prog W 41 1 (fun xs : List ByteArray => [.sl 1 (xs.map encS)]) (bndL bndS) := rd_slice Try.underlying41 (by kernel_rfl) rd9 (by decide) (fun _ => rfl)
theorem rd43 {H : Type} {enc : TypeId × Value → H} {W : Go.World} : Rd enc Try.prog W 43 4 Exch.cells Exch.Bnd := rd_struct (fs := [(0, 3), (1, 3), (2, 3), (3, 3)]) Try.underlying43 (by kernel_rfl) (by kernel_rfl) (rdf_cons rd3 (rdf_cons rd3 (rdf_cons rd3 (rdf_cons rd3 (rdf_nil rfl))))) (fun p => ⟨p.1, p.2.1, p.2.2.1, p.2.2.2.1⟩) (fun _ => rfl) (fun p h => ⟨⟩)
theorem rd45 {H : Type} {enc : TypeId × Value → H} {W : Go.World} : Rd enc Try.prog W 45 15 Frame.cells Frame.Bnd := rd_struct (fs := [(0, 23), (2, 23), (4, 39), (5, 9), (6, 40), (7, 41), (8, 3), (9, 3), (10, 3), (11, 43)]) Try.underlying45 (by kernel_rfl) (by kernel_rfl) (rdf_cons rd23 (rdf_cons rd23 (rdf_cons rd39 (rdf_cons rd9 (rdf_cons rd40 (rdf_cons rd41 (rdf_cons rd3 (rdf_cons rd3 (rdf_cons rd3 (rdf_cons rd43 (rdf_nil rfl))))))))))) (fun p => ⟨p.1, p.2.1, p.2.2.1, p.2.2.2.1, p.2.2.2.2.1, p.2.2.2.2.2.1, p.2.2.2.2.2.2.1, p.2.2.2.2.2.2.2.1, p.2.2.2.2.2.2.2.2.1, p.2.2.2.2.2.2.2.2.2.1⟩) (fun _ => rfl) (fun p h => ⟨h.1, h.2.1, h.2.2.1, h.2.2.2.1, h.2.2.2.2.1, h.2.2.2.2.2.1, h.2.2.2.2.2.2.2.2.2.1⟩)
theorem rd24 {H : Type} {enc : TypeId × Value → H} {W : Go.World} : Rd enc Try.prog W 24 1 (fun xs : List Frame => [.sl 15 (xs.map Frame.cells)]) (bndL Frame.Bnd) := rd_slice Try.underlying24 (by kernel_rfl) rd45 (by decide) (fun _ => rfl)
theorem rd26 {H : Type} {enc : TypeId × Value → H} {W : Go.World} : Rd enc Try.prog W 26 7 Job.cells Job.Bnd := rd_struct (fs := [(0, 3), (1, 3), (2, 23), (4, 3), (5, 3), (6, 24)]) Try.underlying26 (by kernel_rfl) (by kernel_rfl) (rdf_cons rd3 (rdf_cons rd3 (rdf_cons rd23 (rdf_cons rd3 (rdf_cons rd3 (rdf_cons rd24 (rdf_nil rfl))))))) (fun p => ⟨p.1, p.2.1, p.2.2.1, p.2.2.2.1, p.2.2.2.2.1, p.2.2.2.2.2.1⟩) (fun _ => rfl) (fun p h => ⟨h.2.2.1, h.2.2.2.2.2.1⟩)
set_option maxRecDepth 20000 in
theorem tr_law (a0 : Job) (a1 : Frame) (b0 : Job.Bnd a0) (b1 : Frame.Bnd a1) : Tr Try.prog 4 [.ro ⟨true, [dI (a0.No), dI (a0.Client), dS (a0.Ask.Name), dI (a0.Ask.Typ), dI (a0.Sent), dI (a0.Fetched), .sl 15 (a0.Stack.map Frame.cells)]⟩, .ro ⟨true, [dS (a1.Ask.Name), dI (a1.Ask.Typ), dS (a1.Q.Name), dI (a1.Q.Typ), .sl 6 (a1.Links.map Record.cells), dS (a1.Apex), .sl 1 (a1.Servers.map encI), .sl 1 (a1.Need.map encS), dI (a1.Down), dI (a1.Left), dI (a1.Pc), dI (a1.X.Id), dI (a1.X.Addr), dI (a1.X.Try), dI (a1.X.Due)]⟩] [one (dB true)] := by
  refine tr_go tabOk Try.func4 rfl rfl rfl rfl rfl (ov := [(0, .t ⟨true, [.d (dI (a0.No)), .d (dI (a0.Client)), .d (dS (a0.Ask.Name)), .d (dI (a0.Ask.Typ)), .d (dI (a0.Sent)), .d (dI (a0.Fetched)), .d (.sl 15 (a0.Stack.map Frame.cells))]⟩), (1, .t ⟨true, [.d (dS (a1.Ask.Name)), .d (dI (a1.Ask.Typ)), .d (dS (a1.Q.Name)), .d (dI (a1.Q.Typ)), .d (.sl 6 (a1.Links.map Record.cells)), .d (dS (a1.Apex)), .d (.sl 1 (a1.Servers.map encI)), .d (.sl 1 (a1.Need.map encS)), .d (dI (a1.Down)), .d (dI (a1.Left)), .d (dI (a1.Pc)), .d (dI (a1.X.Id)), .d (dI (a1.X.Addr)), .d (dI (a1.X.Try)), .d (dI (a1.X.Due))]⟩)]) (hv := []) rfl rfl ?_
  refine v_seq ?_
  refine v_reg ?_
  refine sr 0 (.t ⟨false, [.vp 0 0]⟩) (.var [.d (dI (a0.No)), .d (dI (a0.Client)), .d (dS (a0.Ask.Name)), .d (dI (a0.Ask.Typ)), .d (dI (a0.Sent)), .d (dI (a0.Fetched)), .d (.sl 15 (a0.Stack.map Frame.cells))]) (zbx rfl (e rfl rfl) rfl rfl rfl) rfl rfl ?_
  refine sr 1 (.t ⟨false, [.vp 1 0]⟩) (.var [.d (dS (a1.Ask.Name)), .d (dI (a1.Ask.Typ)), .d (dS (a1.Q.Name)), .d (dI (a1.Q.Typ)), .d (.sl 6 (a1.Links.map Record.cells)), .d (dS (a1.Apex)), .d (.sl 1 (a1.Servers.map encI)), .d (.sl 1 (a1.Need.map encS)), .d (dI (a1.Down)), .d (dI (a1.Left)), .d (dI (a1.Pc)), .d (dI (a1.X.Id)), .d (dI (a1.X.Addr)), .d (dI (a1.X.Try)), .d (dI (a1.X.Due))]) (zbx rfl (e rfl rfl) rfl rfl rfl) rfl rfl ?_
  refine sy _ (zas rfl (ec rfl)) rfl rfl ?_
  refine s_end ?_
  refine v_seq ?_
  refine v_reg ?_
  refine sy _ (zas rfl (ec rfl)) rfl rfl ?_
  refine s_end ?_
  refine v_seq ?_
  refine v_reg ?_
  refine sy (.t ⟨true, [.d (dI (a0.No)), .d (dI (a0.Client)), .d (dS (a0.Ask.Name)), .d (dI (a0.Ask.Typ)), .d (dI (a0.Sent)), .d (dI (a0.Fetched)), .d (.sl 15 (a0.Stack.map Frame.cells))]⟩) (zlv tabOk rfl (e rfl rfl) rfl rfl rfl) rfl rfl ?_
  refine sy _ (zmv rfl (e rfl rfl)) rfl rfl ?_
  refine sxI (zcallX rfl (tr_szJob a0 b0 1048576 (by omega) (by omega)) (ar (e rfl rfl) (.d (.d (.d (.d (.d (.d (.d .nil))))))) (ar (e rfl rfl) (.d .nil) .nil))) rfl rfl (fun r1 hr1 => ?_)
  refine sy _ (zas rfl (e rfl rfl)) rfl rfl ?_
  refine s_end ?_
  refine v_seq ?_
  refine v_seq ?_
  refine v_reg ?_
  refine sy _ (zmv rfl (e rfl rfl)) rfl rfl ?_
  refine sy (.t ⟨false, [.d (dB (decide ((r1) < (0))))]⟩) (y_bin rfl (e rfl rfl) (ec rfl) (fun _ => b_lss) rfl) rfl rfl ?_
  refine s_end ?_
  refine v_cond (e rfl rfl) (fun hb2 => ?_) fun hb2 => ?_
  · have hb2p := dec_t hb2
    refine v_seq ?_
    refine v_reg ?_
    refine sy _ (zas rfl (ec rfl)) rfl rfl ?_
    refine s_end ?_
    refine v_ret ?_
    exact post_ret (rv (.tmp (eg rfl rfl)) rfl (.lf .nil) rfl .nil) (.ro (.ro .nil)) rfl
  have hb2p := dec_f hb2
  have hsr1 := hr1 (by omega)
  have hsr1w := hsr1.1
  refine v_skip ?_
  refine v_seq ?_
  refine v_reg ?_
  refine sy (.t ⟨true, [.d (dS (a1.Ask.Name)), .d (dI (a1.Ask.Typ)), .d (dS (a1.Q.Name)), .d (dI (a1.Q.Typ)), .d (.sl 6 (a1.Links.map Record.cells)), .d (dS (a1.Apex)), .d (.sl 1 (a1.Servers.map encI)), .d (.sl 1 (a1.Need.map encS)), .d (dI (a1.Down)), .d (dI (a1.Left)), .d (dI (a1.Pc)), .d (dI (a1.X.Id)), .d (dI (a1.X.Addr)), .d (dI (a1.X.Try)), .d (dI (a1.X.Due))]⟩) (zlv tabOk rfl (e rfl rfl) rfl rfl rfl) rfl rfl ?_
  refine sy _ (zmv rfl (e rfl rfl)) rfl rfl ?_
  refine sxI (zcallX rfl (tr_szFrame a1 b1 r1 (by omega) (by omega)) (ar (e rfl rfl) (.d (.d (.d (.d (.d (.d (.d (.d (.d (.d (.d (.d (.d (.d (.d .nil))))))))))))))) (ar (e rfl rfl) (.d .nil) .nil))) rfl rfl (fun r3 hr3 => ?_)
  refine sy _ (zas rfl (e rfl rfl)) rfl rfl ?_
  refine s_end ?_
  refine v_seq ?_
  refine v_seq ?_
  refine v_reg ?_
  refine sy _ (zmv rfl (e rfl rfl)) rfl rfl ?_
  refine sy (.t ⟨false, [.d (dB (decide ((r3) < (0))))]⟩) (y_bin rfl (e rfl rfl) (ec rfl) (fun _ => b_lss) rfl) rfl rfl ?_
  refine s_end ?_
  refine v_cond (e rfl rfl) (fun hb4 => ?_) fun hb4 => ?_
  · have hb4p := dec_t hb4
    refine v_seq ?_
    refine v_reg ?_
    refine sy _ (zas rfl (ec rfl)) rfl rfl ?_
    refine s_end ?_
    refine v_ret ?_
    exact post_ret (rv (.tmp (eg rfl rfl)) rfl (.lf .nil) rfl .nil) (.ro (.ro .nil)) rfl
  have hb4p := dec_f hb4
  have hsr3 := hr3 (by omega)
  have hsr3w := hsr3.1
  refine v_skip ?_
  refine v_seq ?_
  obtain ⟨v1, ev1⟩ : ∃ v : Job, v = n_spec_SetTop a0 a1 := ⟨_, rfl⟩
  have hfv1 : Job.Fit v1 := by rw [ev1]; exact fit_set a0 a1 hsr1.2 hsr3.2
  refine v_drw [⟨.t ⟨true, [.d (dI (a0.No)), .d (dI (a0.Client)), .d (dS (a0.Ask.Name)), .d (dI (a0.Ask.Typ)), .d (dI (a0.Sent)), .d (dI (a0.Fetched)), .d (.sl 15 (a0.Stack.map Frame.cells))]⟩, [], [2], [0]⟩, ⟨.t ⟨true, [.d (dI (a0.No)), .d (dI (a0.Client)), .d (dS (a0.Ask.Name)), .d (dI (a0.Ask.Typ)), .d (dI (a0.Sent)), .d (dI (a0.Fetched)), .sr 2 1 0 ((a0.Stack.map Frame.cells).length) ((a0.Stack.map Frame.cells).length)]⟩, [(2, .row 15 (a0.Stack.map Frame.cells) true 1 0)], [24], []⟩, ⟨.t ⟨true, [.d (dS (a1.Ask.Name)), .d (dI (a1.Ask.Typ)), .d (dS (a1.Q.Name)), .d (dI (a1.Q.Typ)), .d (.sl 6 (a1.Links.map Record.cells)), .d (dS (a1.Apex)), .d (.sl 1 (a1.Servers.map encI)), .d (.sl 1 (a1.Need.map encS)), .d (dI (a1.Down)), .d (dI (a1.Left)), .d (dI (a1.Pc)), .d (dI (a1.X.Id)), .d (dI (a1.X.Addr)), .d (dI (a1.X.Try)), .d (dI (a1.X.Due))]⟩, [], [3], [1]⟩, ⟨.t ⟨true, [.d (dS (a1.Ask.Name)), .d (dI (a1.Ask.Typ)), .d (dS (a1.Q.Name)), .d (dI (a1.Q.Typ)), .sr 3 1 0 ((a1.Links.map Record.cells).length) ((a1.Links.map Record.cells).length), .d (dS (a1.Apex)), .sr 4 1 0 ((a1.Servers.map encI).length) ((a1.Servers.map encI).length), .sr 5 1 0 ((a1.Need.map encS).length) ((a1.Need.map encS).length), .d (dI (a1.Down)), .d (dI (a1.Left)), .d (dI (a1.Pc)), .d (dI (a1.X.Id)), .d (dI (a1.X.Addr)), .d (dI (a1.X.Try)), .d (dI (a1.X.Due))]⟩, [(3, .row 6 (a1.Links.map Record.cells) true 1 0), (4, .row 1 (a1.Servers.map encI) true 1 0), (5, .row 1 (a1.Need.map encS) true 1 0)], [26], []⟩, ⟨.t ⟨true, [.d (dI (v1.No)), .d (dI (v1.Client)), .d (dS (v1.Ask.Name)), .d (dI (v1.Ask.Typ)), .d (dI (v1.Sent)), .d (dI (v1.Fetched)), .sr 6 1 0 ((v1.Stack.map Frame.cells).length) ((v1.Stack.map Frame.cells).length)]⟩, [(6, .row 15 (v1.Stack.map Frame.cells) true 1 0)], [25, 27], [2, 5, 4, 3]⟩, ⟨.t ⟨false, [.vp 7 0]⟩, [(7, .var [.d (dI (0)), .d (dI (0)), .d (dS (⟨#[]⟩)), .d (dI (0)), .d (dI (0)), .d (dI (0)), .nl 15])], [], []⟩] mixed rfl rfl rfl rfl ⟨fun t h A => dy (zlv tabOk rfl (A.e rfl rfl rfl) (A.h rfl rfl) rfl rfl), fun t h A => zcallA 2 (.t ⟨true, [.d (dI (a0.No)), .d (dI (a0.Client)), .d (dS (a0.Ask.Name)), .d (dI (a0.Ask.Typ)), .d (dI (a0.Sent)), .d (dI (a0.Fetched)), .sr 2 1 0 ((a0.Stack.map Frame.cells).length) ((a0.Stack.map Frame.cells).length)]⟩) [(2, .row 15 (a0.Stack.map Frame.cells) true 1 0)] rfl (tr_toJob a0 hsr1.2) (ar (A.e rfl rfl rfl) (.d (.d (.d (.d (.d (.d (.d .nil))))))) .nil) rfl (A.free rfl) rfl rfl, fun t h A => dy (zlv tabOk rfl (A.e rfl rfl rfl) (A.h rfl rfl) rfl rfl), fun t h A => zcallA 3 (.t ⟨true, [.d (dS (a1.Ask.Name)), .d (dI (a1.Ask.Typ)), .d (dS (a1.Q.Name)), .d (dI (a1.Q.Typ)), .sr 3 1 0 ((a1.Links.map Record.cells).length) ((a1.Links.map Record.cells).length), .d (dS (a1.Apex)), .sr 4 1 0 ((a1.Servers.map encI).length) ((a1.Servers.map encI).length), .sr 5 1 0 ((a1.Need.map encS).length) ((a1.Need.map encS).length), .d (dI (a1.Down)), .d (dI (a1.Left)), .d (dI (a1.Pc)), .d (dI (a1.X.Id)), .d (dI (a1.X.Addr)), .d (dI (a1.X.Try)), .d (dI (a1.X.Due))]⟩) [(3, .row 6 (a1.Links.map Record.cells) true 1 0), (4, .row 1 (a1.Servers.map encI) true 1 0), (5, .row 1 (a1.Need.map encS) true 1 0)] rfl (tr_toFrame a1 hsr3.2) (ar (A.e rfl rfl rfl) (.d (.d (.d (.d (.d (.d (.d (.d (.d (.d (.d (.d (.d (.d (.d .nil))))))))))))))) .nil) rfl (A.free rfl) rfl rfl, fun t h A => zcallA 6 (.t ⟨true, [.d (dI (v1.No)), .d (dI (v1.Client)), .d (dS (v1.Ask.Name)), .d (dI (v1.Ask.Typ)), .d (dI (v1.Sent)), .d (dI (v1.Fetched)), .sr 6 1 0 ((v1.Stack.map Frame.cells).length) ((v1.Stack.map Frame.cells).length)]⟩) [(6, .row 15 (v1.Stack.map Frame.cells) true 1 0)] rfl (by rw [ev1]; exact (tr_n_spec_SetTop a0 a1 hsr1.2 hsr3.2) : Tr Try.prog 16 _ [⟨true, [dI (v1.No), dI (v1.Client), dS (v1.Ask.Name), dI (v1.Ask.Typ), dI (v1.Sent), dI (v1.Fetched), .sl 15 (v1.Stack.map Frame.cells)]⟩]) (ar (A.e rfl rfl rfl) (.d (.d (.d (.d (.d (.d (.sr (A.h rfl rfl) le_all take_all .nil))))))) (ar (A.e rfl rfl rfl) (.d (.d (.d (.d (.sr (A.h rfl rfl) le_all take_all (.d (.sr (A.h rfl rfl) le_all take_all (.sr (A.h rfl rfl) le_all take_all (.d (.d (.d (.d (.d (.d (.d .nil))))))))))))))) .nil)) rfl (A.free rfl) rfl rfl, fun t h A => dr (zal tabOk rfl rfl (A.g rfl) rfl), trivial⟩ ?_
  refine sw 7 (.var [.d (dI (v1.No)), .d (dI (v1.Client)), .d (dS (v1.Ask.Name)), .d (dI (v1.Ask.Typ)), .d (dI (v1.Sent)), .d (dI (v1.Fetched)), .sr 6 1 0 ((v1.Stack.map Frame.cells).length) ((v1.Stack.map Frame.cells).length)]) (zst tabOk rfl (e rfl rfl) rfl (e rfl rfl) rfl rfl rfl) rfl rfl ?_
  refine s_end ?_
  refine v_seq ?_
  refine v_reg ?_
  refine sy (.t ⟨true, [.d (dI (a0.No)), .d (dI (a0.Client)), .d (dS (a0.Ask.Name)), .d (dI (a0.Ask.Typ)), .d (dI (a0.Sent)), .d (dI (a0.Fetched)), .d (.sl 15 (a0.Stack.map Frame.cells))]⟩) (zlv tabOk rfl (e rfl rfl) rfl rfl rfl) rfl rfl ?_
  refine sd (.t ⟨true, [.d (dI (a0.No)), .d (dI (a0.Client)), .d (dS (a0.Ask.Name)), .d (dI (a0.Ask.Typ)), .d (dI (a0.Sent)), .d (dI (a0.Fetched)), .sr 8 1 0 ((a0.Stack.map Frame.cells).length) ((a0.Stack.map Frame.cells).length)]⟩) (zcall 8 (.t ⟨true, [.d (dI (a0.No)), .d (dI (a0.Client)), .d (dS (a0.Ask.Name)), .d (dI (a0.Ask.Typ)), .d (dI (a0.Sent)), .d (dI (a0.Fetched)), .sr 8 1 0 ((a0.Stack.map Frame.cells).length) ((a0.Stack.map Frame.cells).length)]⟩) [(8, .row 15 (a0.Stack.map Frame.cells) true 1 0)] rfl (tr_toJob a0 hsr1.2) (ar (e rfl rfl) (.d (.d (.d (.d (.d (.d (.d .nil))))))) .nil) rfl rfl rfl) rfl rfl rfl rfl ?_
  refine sr 9 (.t ⟨false, [.vp 9 0]⟩) (.var [.d (dI (0)), .d (dI (0)), .d (dS (⟨#[]⟩)), .d (dI (0)), .d (dI (0)), .d (dI (0)), .nl 15]) (zal tabOk rfl rfl rfl rfl) rfl rfl ?_
  refine sw 9 (.var [.d (dI (a0.No)), .d (dI (a0.Client)), .d (dS (a0.Ask.Name)), .d (dI (a0.Ask.Typ)), .d (dI (a0.Sent)), .d (dI (a0.Fetched)), .sr 8 1 0 ((a0.Stack.map Frame.cells).length) ((a0.Stack.map Frame.cells).length)]) (zst tabOk rfl (e rfl rfl) rfl (e rfl rfl) rfl rfl rfl) rfl rfl ?_
  refine s_end ?_
  refine v_seq ?_
  refine v_reg ?_
  refine sy (.t ⟨true, [.d (dS (a1.Ask.Name)), .d (dI (a1.Ask.Typ)), .d (dS (a1.Q.Name)), .d (dI (a1.Q.Typ)), .d (.sl 6 (a1.Links.map Record.cells)), .d (dS (a1.Apex)), .d (.sl 1 (a1.Servers.map encI)), .d (.sl 1 (a1.Need.map encS)), .d (dI (a1.Down)), .d (dI (a1.Left)), .d (dI (a1.Pc)), .d (dI (a1.X.Id)), .d (dI (a1.X.Addr)), .d (dI (a1.X.Try)), .d (dI (a1.X.Due))]⟩) (zlv tabOk rfl (e rfl rfl) rfl rfl rfl) rfl rfl ?_
  refine sd (.t ⟨true, [.d (dS (a1.Ask.Name)), .d (dI (a1.Ask.Typ)), .d (dS (a1.Q.Name)), .d (dI (a1.Q.Typ)), .sr 10 1 0 ((a1.Links.map Record.cells).length) ((a1.Links.map Record.cells).length), .d (dS (a1.Apex)), .sr 11 1 0 ((a1.Servers.map encI).length) ((a1.Servers.map encI).length), .sr 12 1 0 ((a1.Need.map encS).length) ((a1.Need.map encS).length), .d (dI (a1.Down)), .d (dI (a1.Left)), .d (dI (a1.Pc)), .d (dI (a1.X.Id)), .d (dI (a1.X.Addr)), .d (dI (a1.X.Try)), .d (dI (a1.X.Due))]⟩) (zcall 10 (.t ⟨true, [.d (dS (a1.Ask.Name)), .d (dI (a1.Ask.Typ)), .d (dS (a1.Q.Name)), .d (dI (a1.Q.Typ)), .sr 10 1 0 ((a1.Links.map Record.cells).length) ((a1.Links.map Record.cells).length), .d (dS (a1.Apex)), .sr 11 1 0 ((a1.Servers.map encI).length) ((a1.Servers.map encI).length), .sr 12 1 0 ((a1.Need.map encS).length) ((a1.Need.map encS).length), .d (dI (a1.Down)), .d (dI (a1.Left)), .d (dI (a1.Pc)), .d (dI (a1.X.Id)), .d (dI (a1.X.Addr)), .d (dI (a1.X.Try)), .d (dI (a1.X.Due))]⟩) [(10, .row 6 (a1.Links.map Record.cells) true 1 0), (11, .row 1 (a1.Servers.map encI) true 1 0), (12, .row 1 (a1.Need.map encS) true 1 0)] rfl (tr_toFrame a1 hsr3.2) (ar (e rfl rfl) (.d (.d (.d (.d (.d (.d (.d (.d (.d (.d (.d (.d (.d (.d (.d .nil))))))))))))))) .nil) rfl rfl rfl) rfl rfl rfl rfl ?_
  refine sr 13 (.t ⟨false, [.vp 13 0]⟩) (.var [.d (dS (⟨#[]⟩)), .d (dI (0)), .d (dS (⟨#[]⟩)), .d (dI (0)), .nl 6, .d (dS (⟨#[]⟩)), .nl 1, .nl 1, .d (dI (0)), .d (dI (0)), .d (dI (0)), .d (dI (0)), .d (dI (0)), .d (dI (0)), .d (dI (0))]) (zal tabOk rfl rfl rfl rfl) rfl rfl ?_
  refine sw 13 (.var [.d (dS (a1.Ask.Name)), .d (dI (a1.Ask.Typ)), .d (dS (a1.Q.Name)), .d (dI (a1.Q.Typ)), .sr 10 1 0 ((a1.Links.map Record.cells).length) ((a1.Links.map Record.cells).length), .d (dS (a1.Apex)), .sr 11 1 0 ((a1.Servers.map encI).length) ((a1.Servers.map encI).length), .sr 12 1 0 ((a1.Need.map encS).length) ((a1.Need.map encS).length), .d (dI (a1.Down)), .d (dI (a1.Left)), .d (dI (a1.Pc)), .d (dI (a1.X.Id)), .d (dI (a1.X.Addr)), .d (dI (a1.X.Try)), .d (dI (a1.X.Due))]) (zst tabOk rfl (e rfl rfl) rfl (e rfl rfl) rfl rfl rfl) rfl rfl ?_
  refine s_end ?_
  refine v_seq ?_
  refine v_reg ?_
  refine sy (.t ⟨true, [.d (dI (a0.No)), .d (dI (a0.Client)), .d (dS (a0.Ask.Name)), .d (dI (a0.Ask.Typ)), .d (dI (a0.Sent)), .d (dI (a0.Fetched)), .sr 8 1 0 ((a0.Stack.map Frame.cells).length) ((a0.Stack.map Frame.cells).length)]⟩) (zlv tabOk rfl (e rfl rfl) rfl rfl rfl) rfl rfl ?_
  refine sy (.t ⟨true, [.d (dS (a1.Ask.Name)), .d (dI (a1.Ask.Typ)), .d (dS (a1.Q.Name)), .d (dI (a1.Q.Typ)), .sr 10 1 0 ((a1.Links.map Record.cells).length) ((a1.Links.map Record.cells).length), .d (dS (a1.Apex)), .sr 11 1 0 ((a1.Servers.map encI).length) ((a1.Servers.map encI).length), .sr 12 1 0 ((a1.Need.map encS).length) ((a1.Need.map encS).length), .d (dI (a1.Down)), .d (dI (a1.Left)), .d (dI (a1.Pc)), .d (dI (a1.X.Id)), .d (dI (a1.X.Addr)), .d (dI (a1.X.Try)), .d (dI (a1.X.Due))]⟩) (zlv tabOk rfl (e rfl rfl) rfl rfl rfl) rfl rfl ?_
  refine sd (.t ⟨true, [.d (dI (v1.No)), .d (dI (v1.Client)), .d (dS (v1.Ask.Name)), .d (dI (v1.Ask.Typ)), .d (dI (v1.Sent)), .d (dI (v1.Fetched)), .sr 14 1 0 ((v1.Stack.map Frame.cells).length) ((v1.Stack.map Frame.cells).length)]⟩) (zcall 14 (.t ⟨true, [.d (dI (v1.No)), .d (dI (v1.Client)), .d (dS (v1.Ask.Name)), .d (dI (v1.Ask.Typ)), .d (dI (v1.Sent)), .d (dI (v1.Fetched)), .sr 14 1 0 ((v1.Stack.map Frame.cells).length) ((v1.Stack.map Frame.cells).length)]⟩) [(14, .row 15 (v1.Stack.map Frame.cells) true 1 0)] rfl (by rw [ev1]; exact (tr_n_impl_SetTop a0 a1 hsr1.2 hsr3.2) : Tr Try.prog 18 _ [⟨true, [dI (v1.No), dI (v1.Client), dS (v1.Ask.Name), dI (v1.Ask.Typ), dI (v1.Sent), dI (v1.Fetched), .sl 15 (v1.Stack.map Frame.cells)]⟩]) (ar (e rfl rfl) (.d (.d (.d (.d (.d (.d (.sr rfl le_all take_all .nil))))))) (ar (e rfl rfl) (.d (.d (.d (.d (.sr rfl le_all take_all (.d (.sr rfl le_all take_all (.sr rfl le_all take_all (.d (.d (.d (.d (.d (.d (.d .nil))))))))))))))) .nil)) rfl rfl rfl) rfl rfl rfl rfl ?_
  refine sr 15 (.t ⟨false, [.vp 15 0]⟩) (.var [.d (dI (0)), .d (dI (0)), .d (dS (⟨#[]⟩)), .d (dI (0)), .d (dI (0)), .d (dI (0)), .nl 15]) (zal tabOk rfl rfl rfl rfl) rfl rfl ?_
  refine sw 15 (.var [.d (dI (v1.No)), .d (dI (v1.Client)), .d (dS (v1.Ask.Name)), .d (dI (v1.Ask.Typ)), .d (dI (v1.Sent)), .d (dI (v1.Fetched)), .sr 14 1 0 ((v1.Stack.map Frame.cells).length) ((v1.Stack.map Frame.cells).length)]) (zst tabOk rfl (e rfl rfl) rfl (e rfl rfl) rfl rfl rfl) rfl rfl ?_
  refine s_end ?_
  refine v_seq ?_
  refine v_seq ?_
  refine v_reg ?_
  refine sy (.t ⟨true, [.d (dI (v1.No)), .d (dI (v1.Client)), .d (dS (v1.Ask.Name)), .d (dI (v1.Ask.Typ)), .d (dI (v1.Sent)), .d (dI (v1.Fetched)), .sr 14 1 0 ((v1.Stack.map Frame.cells).length) ((v1.Stack.map Frame.cells).length)]⟩) (zlv tabOk rfl (e rfl rfl) rfl rfl rfl) rfl rfl ?_
  refine sy (.t ⟨true, [.d (dI (v1.No)), .d (dI (v1.Client)), .d (dS (v1.Ask.Name)), .d (dI (v1.Ask.Typ)), .d (dI (v1.Sent)), .d (dI (v1.Fetched)), .sr 6 1 0 ((v1.Stack.map Frame.cells).length) ((v1.Stack.map Frame.cells).length)]⟩) (zlv tabOk rfl (e rfl rfl) rfl rfl rfl) rfl rfl ?_
  refine sd (.t ⟨false, [.d (dB (true))]⟩) (zcall 16 (.t ⟨false, [.d (dB (true))]⟩) [] rfl (eqT (tr_eqJob v1 v1 hfv1 hfv1)) (ar (e rfl rfl) (.d (.d (.d (.d (.d (.d (.sr rfl le_all take_all .nil))))))) (ar (e rfl rfl) (.d (.d (.d (.d (.d (.d (.sr rfl le_all take_all .nil))))))) .nil)) rfl rfl rfl) rfl rfl rfl rfl ?_
  refine sy (.t ⟨false, [.d (dB (!(true)))]⟩) (y_un rfl (e rfl rfl) (fun _ => u_not) rfl) rfl rfl ?_
  refine s_end ?_
  refine v_cF (e rfl rfl) rfl ?_
  refine v_skip ?_
  refine v_seq ?_
  refine v_seq ?_
  refine v_drw [⟨.t ⟨true, [.d (dI (a0.No)), .d (dI (a0.Client)), .d (dS (a0.Ask.Name)), .d (dI (a0.Ask.Typ)), .d (dI (a0.Sent)), .d (dI (a0.Fetched)), .sr 8 1 0 ((a0.Stack.map Frame.cells).length) ((a0.Stack.map Frame.cells).length)]⟩, [], [7], [9]⟩, ⟨.t ⟨true, [.d (dI (a0.No)), .d (dI (a0.Client)), .d (dS (a0.Ask.Name)), .d (dI (a0.Ask.Typ)), .d (dI (a0.Sent)), .d (dI (a0.Fetched)), .d (.sl 15 (a0.Stack.map Frame.cells))]⟩, [], [2], [0]⟩, ⟨.t ⟨true, [.d (dI (a0.No)), .d (dI (a0.Client)), .d (dS (a0.Ask.Name)), .d (dI (a0.Ask.Typ)), .d (dI (a0.Sent)), .d (dI (a0.Fetched)), .sr 16 1 0 ((a0.Stack.map Frame.cells).length) ((a0.Stack.map Frame.cells).length)]⟩, [(16, .row 15 (a0.Stack.map Frame.cells) true 1 0)], [41], []⟩, ⟨.t ⟨false, [.d (dB (true))]⟩, [], [40, 42], [8, 16]⟩, ⟨.t ⟨false, [.d (dB (!(true)))]⟩, [], [43], []⟩] mixed rfl rfl rfl rfl ⟨fun t h A => dy (zlv tabOk rfl (A.e rfl rfl rfl) (A.h rfl rfl) rfl rfl), fun t h A => dy (zlv tabOk rfl (A.e rfl rfl rfl) (A.h rfl rfl) rfl rfl), fun t h A => zcallA 16 (.t ⟨true, [.d (dI (a0.No)), .d (dI (a0.Client)), .d (dS (a0.Ask.Name)), .d (dI (a0.Ask.Typ)), .d (dI (a0.Sent)), .d (dI (a0.Fetched)), .sr 16 1 0 ((a0.Stack.map Frame.cells).length) ((a0.Stack.map Frame.cells).length)]⟩) [(16, .row 15 (a0.Stack.map Frame.cells) true 1 0)] rfl (tr_toJob a0 hsr1.2) (ar (A.e rfl rfl rfl) (.d (.d (.d (.d (.d (.d (.d .nil))))))) .nil) rfl (A.free rfl) rfl rfl, fun t h A => zcallA 17 (.t ⟨false, [.d (dB (true))]⟩) [] rfl (eqT (tr_eqJob a0 a0 hsr1.2 hsr1.2)) (ar (A.e rfl rfl rfl) (.d (.d (.d (.d (.d (.d (.sr (A.h rfl rfl) le_all take_all .nil))))))) (ar (A.e rfl rfl rfl) (.d (.d (.d (.d (.d (.d (.sr (A.h rfl rfl) le_all take_all .nil))))))) .nil)) rfl (free0 rfl) rfl rfl, fun t h A => dy (y_un rfl (A.e rfl rfl rfl) (fun _ => u_not) rfl), trivial⟩ ?_
  refine s_end ?_
  refine v_cF (e rfl rfl) rfl ?_
  refine v_skip ?_
  refine v_seq ?_
  refine v_seq ?_
  refine v_drw [⟨.t ⟨true, [.d (dS (a1.Ask.Name)), .d (dI (a1.Ask.Typ)), .d (dS (a1.Q.Name)), .d (dI (a1.Q.Typ)), .sr 10 1 0 ((a1.Links.map Record.cells).length) ((a1.Links.map Record.cells).length), .d (dS (a1.Apex)), .sr 11 1 0 ((a1.Servers.map encI).length) ((a1.Servers.map encI).length), .sr 12 1 0 ((a1.Need.map encS).length) ((a1.Need.map encS).length), .d (dI (a1.Down)), .d (dI (a1.Left)), .d (dI (a1.Pc)), .d (dI (a1.X.Id)), .d (dI (a1.X.Addr)), .d (dI (a1.X.Try)), .d (dI (a1.X.Due))]⟩, [], [8], [13]⟩, ⟨.t ⟨true, [.d (dS (a1.Ask.Name)), .d (dI (a1.Ask.Typ)), .d (dS (a1.Q.Name)), .d (dI (a1.Q.Typ)), .d (.sl 6 (a1.Links.map Record.cells)), .d (dS (a1.Apex)), .d (.sl 1 (a1.Servers.map encI)), .d (.sl 1 (a1.Need.map encS)), .d (dI (a1.Down)), .d (dI (a1.Left)), .d (dI (a1.Pc)), .d (dI (a1.X.Id)), .d (dI (a1.X.Addr)), .d (dI (a1.X.Try)), .d (dI (a1.X.Due))]⟩, [], [3], [1]⟩, ⟨.t ⟨true, [.d (dS (a1.Ask.Name)), .d (dI (a1.Ask.Typ)), .d (dS (a1.Q.Name)), .d (dI (a1.Q.Typ)), .sr 17 1 0 ((a1.Links.map Record.cells).length) ((a1.Links.map Record.cells).length), .d (dS (a1.Apex)), .sr 18 1 0 ((a1.Servers.map encI).length) ((a1.Servers.map encI).length), .sr 19 1 0 ((a1.Need.map encS).length) ((a1.Need.map encS).length), .d (dI (a1.Down)), .d (dI (a1.Left)), .d (dI (a1.Pc)), .d (dI (a1.X.Id)), .d (dI (a1.X.Addr)), .d (dI (a1.X.Try)), .d (dI (a1.X.Due))]⟩, [(17, .row 6 (a1.Links.map Record.cells) true 1 0), (18, .row 1 (a1.Servers.map encI) true 1 0), (19, .row 1 (a1.Need.map encS) true 1 0)], [46], []⟩, ⟨.t ⟨false, [.d (dB (true))]⟩, [], [45, 47], [12, 11, 10, 19, 18, 17]⟩, ⟨.t ⟨false, [.d (dB (!(true)))]⟩, [], [48], []⟩] mixed rfl rfl rfl rfl ⟨fun t h A => dy (zlv tabOk rfl (A.e rfl rfl rfl) (A.h rfl rfl) rfl rfl), fun t h A => dy (zlv tabOk rfl (A.e rfl rfl rfl) (A.h rfl rfl) rfl rfl), fun t h A => zcallA 17 (.t ⟨true, [.d (dS (a1.Ask.Name)), .d (dI (a1.Ask.Typ)), .d (dS (a1.Q.Name)), .d (dI (a1.Q.Typ)), .sr 17 1 0 ((a1.Links.map Record.cells).length) ((a1.Links.map Record.cells).length), .d (dS (a1.Apex)), .sr 18 1 0 ((a1.Servers.map encI).length) ((a1.Servers.map encI).length), .sr 19 1 0 ((a1.Need.map encS).length) ((a1.Need.map encS).length), .d (dI (a1.Down)), .d (dI (a1.Left)), .d (dI (a1.Pc)), .d (dI (a1.X.Id)), .d (dI (a1.X.Addr)), .d (dI (a1.X.Try)), .d (dI (a1.X.Due))]⟩) [(17, .row 6 (a1.Links.map Record.cells) true 1 0), (18, .row 1 (a1.Servers.map encI) true 1 0), (19, .row 1 (a1.Need.map encS) true 1 0)] rfl (tr_toFrame a1 hsr3.2) (ar (A.e rfl rfl rfl) (.d (.d (.d (.d (.d (.d (.d (.d (.d (.d (.d (.d (.d (.d (.d .nil))))))))))))))) .nil) rfl (A.free rfl) rfl rfl, fun t h A => zcallA 20 (.t ⟨false, [.d (dB (true))]⟩) [] rfl (eqT (tr_eqFrame a1 a1 hsr3.2 hsr3.2)) (ar (A.e rfl rfl rfl) (.d (.d (.d (.d (.sr (A.h rfl rfl) le_all take_all (.d (.sr (A.h rfl rfl) le_all take_all (.sr (A.h rfl rfl) le_all take_all (.d (.d (.d (.d (.d (.d (.d .nil))))))))))))))) (ar (A.e rfl rfl rfl) (.d (.d (.d (.d (.sr (A.h rfl rfl) le_all take_all (.d (.sr (A.h rfl rfl) le_all take_all (.sr (A.h rfl rfl) le_all take_all (.d (.d (.d (.d (.d (.d (.d .nil))))))))))))))) .nil)) rfl (free0 rfl) rfl rfl, fun t h A => dy (y_un rfl (A.e rfl rfl rfl) (fun _ => u_not) rfl), trivial⟩ ?_
  refine s_end ?_
  refine v_cF (e rfl rfl) rfl ?_
  refine v_skip ?_
  refine v_seq ?_
  refine v_reg ?_
  refine sy _ (zas rfl (ec rfl)) rfl rfl ?_
  refine s_end ?_
  refine v_seq ?_
  refine v_reg ?_
  refine sy (.t ⟨true, [.d (dI (a0.No)), .d (dI (a0.Client)), .d (dS (a0.Ask.Name)), .d (dI (a0.Ask.Typ)), .d (dI (a0.Sent)), .d (dI (a0.Fetched)), .sr 8 1 0 ((a0.Stack.map Frame.cells).length) ((a0.Stack.map Frame.cells).length)]⟩) (zlv tabOk rfl (e rfl rfl) rfl rfl rfl) rfl rfl ?_
  refine sy _ (zmv rfl (e rfl rfl)) rfl rfl ?_
  have hw118 := a0.wt_le hsr1.2
  have hk119 := mkvJob_ok a0 1 (by omega) (by omega)
  refine sd (.t ⟨false, [.d (dI ((mkvJob a0 1).2))]⟩) (zcall 20 (sc (dI (mkvJob a0 1).2)) [(8, .row 15 ((((mkvJob a0 1).1).Stack).map Frame.cells) true 1 (0 + 1))] rfl (tr_markJob a0 hsr1.2 1 (by omega)) (am (e rfl rfl) (.lf (.lf (.lf (.lf (.lf (.lf (.sr rfl rfl (by simp [mkvJob, mkL_len]) .nil))))))) (ar (e rfl rfl) (.d .nil) .nil)) rfl rfl rfl) rfl rfl rfl rfl ?_
  refine sy _ (zas rfl (e rfl rfl)) rfl rfl ?_
  refine s_end ?_
  refine v_seq ?_
  refine v_reg ?_
  refine sy (.t ⟨true, [.d (dS (a1.Ask.Name)), .d (dI (a1.Ask.Typ)), .d (dS (a1.Q.Name)), .d (dI (a1.Q.Typ)), .sr 10 1 0 ((a1.Links.map Record.cells).length) ((a1.Links.map Record.cells).length), .d (dS (a1.Apex)), .sr 11 1 0 ((a1.Servers.map encI).length) ((a1.Servers.map encI).length), .sr 12 1 0 ((a1.Need.map encS).length) ((a1.Need.map encS).length), .d (dI (a1.Down)), .d (dI (a1.Left)), .d (dI (a1.Pc)), .d (dI (a1.X.Id)), .d (dI (a1.X.Addr)), .d (dI (a1.X.Try)), .d (dI (a1.X.Due))]⟩) (zlv tabOk rfl (e rfl rfl) rfl rfl rfl) rfl rfl ?_
  refine sy _ (zmv rfl (e rfl rfl)) rfl rfl ?_
  have hw127 := a1.wt_le hsr3.2
  have hk128 := mkvFrame_ok a1 ((mkvJob a0 1).2) (by omega) (by omega)
  refine sd (.t ⟨false, [.d (dI ((mkvFrame a1 ((mkvJob a0 1).2)).2))]⟩) (zcall 20 (sc (dI (mkvFrame a1 ((mkvJob a0 1).2)).2)) [(10, .row 6 ((((mkvFrame a1 ((mkvJob a0 1).2)).1).Links).map Record.cells) true 1 (0 + 1)), (11, .row 1 ((((mkvFrame a1 ((mkvJob a0 1).2)).1).Servers).map encI) true 1 (0 + 1)), (12, .row 1 ((((mkvFrame a1 ((mkvJob a0 1).2)).1).Need).map encS) true 1 (0 + 1))] rfl (tr_markFrame a1 hsr3.2 ((mkvJob a0 1).2) (by omega)) (am (e rfl rfl) (.lf (.lf (.lf (.lf (.sr rfl rfl (by simp [mkvFrame, mkL_len]) (.lf (.sr rfl rfl (by simp [mkvFrame, mkL_len]) (.sr rfl rfl (by simp [mkvFrame, mkL_len]) (.lf (.lf (.lf (.lf (.lf (.lf (.lf .nil))))))))))))))) (ar (e rfl rfl) (.d .nil) .nil)) rfl rfl rfl) rfl rfl rfl rfl ?_
  refine sy _ (zas rfl (e rfl rfl)) rfl rfl ?_
  refine s_end ?_
  refine v_seq ?_
  refine v_seq ?_
  refine v_reg ?_
  refine sy _ (zmv rfl (e rfl rfl)) rfl rfl ?_
  refine sy (.t ⟨false, [.d (dB (decide (((mkvFrame a1 ((mkvJob a0 1).2)).2) < (0))))]⟩) (y_bin rfl (e rfl rfl) (ec rfl) (fun _ => b_lss) rfl) rfl rfl ?_
  refine sy _ (zmv rfl (e rfl rfl)) rfl rfl ?_
  have hz5 : (decide (((mkvFrame a1 ((mkvJob a0 1).2)).2) < (0))) = false := by simp; omega
  refine gr rfl rfl rfl (eg rfl rfl) hz5 ?_
  refine sy (.t ⟨true, [.d (dI (v1.No)), .d (dI (v1.Client)), .d (dS (v1.Ask.Name)), .d (dI (v1.Ask.Typ)), .d (dI (v1.Sent)), .d (dI (v1.Fetched)), .sr 14 1 0 ((v1.Stack.map Frame.cells).length) ((v1.Stack.map Frame.cells).length)]⟩) (zlv tabOk rfl (e rfl rfl) rfl rfl rfl) rfl rfl ?_
  refine gr rfl rfl rfl (eg rfl rfl) hz5 ?_
  refine sy (.t ⟨true, [.d (dI (v1.No)), .d (dI (v1.Client)), .d (dS (v1.Ask.Name)), .d (dI (v1.Ask.Typ)), .d (dI (v1.Sent)), .d (dI (v1.Fetched)), .sr 6 1 0 ((v1.Stack.map Frame.cells).length) ((v1.Stack.map Frame.cells).length)]⟩) (zlv tabOk rfl (e rfl rfl) rfl rfl rfl) rfl rfl ?_
  refine gr rfl rfl rfl (eg rfl rfl) hz5 ?_
  refine sd (.t ⟨false, [.d (dB (true))]⟩) (zcall 20 (.t ⟨false, [.d (dB (true))]⟩) [] rfl (eqT (tr_eqJob v1 v1 hfv1 hfv1)) (ar (e rfl rfl) (.d (.d (.d (.d (.d (.d (.sr rfl le_all take_all .nil))))))) (ar (e rfl rfl) (.d (.d (.d (.d (.d (.d (.sr rfl le_all take_all .nil))))))) .nil)) rfl rfl rfl) rfl rfl rfl rfl ?_
  refine gr rfl rfl rfl (eg rfl rfl) hz5 ?_
  refine sy (.t ⟨false, [.d (dB (!(true)))]⟩) (y_un rfl (e rfl rfl) (fun _ => u_not) rfl) rfl rfl ?_
  refine sy (.t ⟨false, [.d (dB (!(true)))]⟩) (zpf rfl (e rfl rfl) hz5 (e rfl rfl)) rfl rfl ?_
  refine s_end ?_
  refine v_cF (e rfl rfl) rfl ?_
  refine v_skip ?_
  refine v_seq ?_
  refine v_reg ?_
  refine sy _ (zas rfl (ec rfl)) rfl rfl ?_
  refine s_end ?_
  refine v_seq ?_
  refine v_reg ?_
  refine sy (.t ⟨true, [.d (dI (v1.No)), .d (dI (v1.Client)), .d (dS (v1.Ask.Name)), .d (dI (v1.Ask.Typ)), .d (dI (v1.Sent)), .d (dI (v1.Fetched)), .sr 14 1 0 ((v1.Stack.map Frame.cells).length) ((v1.Stack.map Frame.cells).length)]⟩) (zlv tabOk rfl (e rfl rfl) rfl rfl rfl) rfl rfl ?_
  refine sy _ (zmv rfl (e rfl rfl)) rfl rfl ?_
  have hw159 := v1.wt_le hfv1
  have hk160 := mkvJob_ok v1 1 (by omega) (by omega)
  refine sd (.t ⟨false, [.d (dI ((mkvJob v1 1).2))]⟩) (zcall 20 (sc (dI (mkvJob v1 1).2)) [(14, .row 15 ((((mkvJob v1 1).1).Stack).map Frame.cells) true 1 (0 + 1))] rfl (tr_markJob v1 hfv1 1 (by omega)) (am (e rfl rfl) (.lf (.lf (.lf (.lf (.lf (.lf (.sr rfl rfl (by simp [mkvJob, mkL_len]) .nil))))))) (ar (e rfl rfl) (.d .nil) .nil)) rfl rfl rfl) rfl rfl rfl rfl ?_
  refine sy _ (zas rfl (e rfl rfl)) rfl rfl ?_
  refine s_end ?_
  refine v_seq ?_
  refine v_reg ?_
  refine sy _ (zas rfl (ec rfl)) rfl rfl ?_
  refine s_end ?_
  refine v_seq ?_
  refine v_reg ?_
  refine sy (.t ⟨true, [.d (dI (v1.No)), .d (dI (v1.Client)), .d (dS (v1.Ask.Name)), .d (dI (v1.Ask.Typ)), .d (dI (v1.Sent)), .d (dI (v1.Fetched)), .sr 14 1 0 ((v1.Stack.map Frame.cells).length) ((v1.Stack.map Frame.cells).length)]⟩) (zlv tabOk rfl (e rfl rfl) rfl rfl rfl) rfl rfl ?_
  refine sy _ (zmv rfl (e rfl rfl)) rfl rfl ?_
  refine sd (.t ⟨false, [.d (dI ((mkvJob v1 1).2))]⟩) (zcall 20 (sc (dI (mkvJob v1 1).2)) [] rfl (tr_heldJob v1 ((⟨v1.No, v1.Client, v1.Ask, v1.Sent, v1.Fetched, ((mkvJob v1 1).1).Stack⟩ : Job)) hfv1 1 (by omega) (by omega) rfl) (ar (e rfl rfl) (.d (.d (.d (.d (.d (.d (.sr rfl (le_len (by simp [mkvJob, mkL_len])) (take_len (by simp [mkvJob, mkL_len])) .nil))))))) (ar (e rfl rfl) (.d .nil) .nil)) rfl rfl rfl) rfl rfl rfl rfl ?_
  refine sy _ (zas rfl (e rfl rfl)) rfl rfl ?_
  refine s_end ?_
  refine v_seq ?_
  refine v_seq ?_
  refine v_reg ?_
  refine sy _ (zmv rfl (e rfl rfl)) rfl rfl ?_
  refine sy (.t ⟨false, [.d (dB (decide (((mkvJob v1 1).2) < (0))))]⟩) (y_bin rfl (e rfl rfl) (ec rfl) (fun _ => b_lss) rfl) rfl rfl ?_
  refine s_end ?_
  have hz6 : (decide (((mkvJob v1 1).2) < (0))) = false := by simp; omega
  refine v_cF (e rfl rfl) hz6 ?_
  refine v_skip ?_
  refine v_seq ?_
  refine v_seq ?_
  refine v_reg ?_
  refine sy _ (zmv rfl (e rfl rfl)) rfl rfl ?_
  refine sy _ (zmv rfl (e rfl rfl)) rfl rfl ?_
  refine sy (.t ⟨false, [.d (dB (decide (((mkvJob v1 1).2) ≠ ((mkvJob v1 1).2))))]⟩) (y_bin rfl (e rfl rfl) (e rfl rfl) (fun _ => b_neq) rfl) rfl rfl ?_
  refine s_end ?_
  refine v_cF (e rfl rfl) dec_neq ?_
  refine v_skip ?_
  refine v_seq ?_
  refine v_drw [⟨.t ⟨true, [.d (dI (a0.No)), .d (dI (a0.Client)), .d (dS (a0.Ask.Name)), .d (dI (a0.Ask.Typ)), .d (dI (a0.Sent)), .d (dI (a0.Fetched)), .d (.sl 15 (a0.Stack.map Frame.cells))]⟩, [], [2], [0]⟩, ⟨.t ⟨true, [.d (dI (a0.No)), .d (dI (a0.Client)), .d (dS (a0.Ask.Name)), .d (dI (a0.Ask.Typ)), .d (dI (a0.Sent)), .d (dI (a0.Fetched)), .sr 20 1 0 ((a0.Stack.map Frame.cells).length) ((a0.Stack.map Frame.cells).length)]⟩, [(20, .row 15 (a0.Stack.map Frame.cells) true 1 0)], [75], []⟩, ⟨.t ⟨true, [.d (dS (a1.Ask.Name)), .d (dI (a1.Ask.Typ)), .d (dS (a1.Q.Name)), .d (dI (a1.Q.Typ)), .d (.sl 6 (a1.Links.map Record.cells)), .d (dS (a1.Apex)), .d (.sl 1 (a1.Servers.map encI)), .d (.sl 1 (a1.Need.map encS)), .d (dI (a1.Down)), .d (dI (a1.Left)), .d (dI (a1.Pc)), .d (dI (a1.X.Id)), .d (dI (a1.X.Addr)), .d (dI (a1.X.Try)), .d (dI (a1.X.Due))]⟩, [], [3], [1]⟩, ⟨.t ⟨true, [.d (dS (a1.Ask.Name)), .d (dI (a1.Ask.Typ)), .d (dS (a1.Q.Name)), .d (dI (a1.Q.Typ)), .sr 21 1 0 ((a1.Links.map Record.cells).length) ((a1.Links.map Record.cells).length), .d (dS (a1.Apex)), .sr 22 1 0 ((a1.Servers.map encI).length) ((a1.Servers.map encI).length), .sr 23 1 0 ((a1.Need.map encS).length) ((a1.Need.map encS).length), .d (dI (a1.Down)), .d (dI (a1.Left)), .d (dI (a1.Pc)), .d (dI (a1.X.Id)), .d (dI (a1.X.Addr)), .d (dI (a1.X.Try)), .d (dI (a1.X.Due))]⟩, [(21, .row 6 (a1.Links.map Record.cells) true 1 0), (22, .row 1 (a1.Servers.map encI) true 1 0), (23, .row 1 (a1.Need.map encS) true 1 0)], [77], []⟩, ⟨.t ⟨true, [.d (dI (v1.No)), .d (dI (v1.Client)), .d (dS (v1.Ask.Name)), .d (dI (v1.Ask.Typ)), .d (dI (v1.Sent)), .d (dI (v1.Fetched)), .sr 24 1 0 ((v1.Stack.map Frame.cells).length) ((v1.Stack.map Frame.cells).length)]⟩, [(24, .row 15 (v1.Stack.map Frame.cells) true 1 0)], [76, 78], [20, 23, 22, 21]⟩, ⟨.t ⟨false, [.vp 25 0]⟩, [(25, .var [.d (dI (0)), .d (dI (0)), .d (dS (⟨#[]⟩)), .d (dI (0)), .d (dI (0)), .d (dI (0)), .nl 15])], [], []⟩] mixed rfl rfl rfl rfl ⟨fun t h A => dy (zlv tabOk rfl (A.e rfl rfl rfl) (A.h rfl rfl) rfl rfl), fun t h A => zcallA 20 (.t ⟨true, [.d (dI (a0.No)), .d (dI (a0.Client)), .d (dS (a0.Ask.Name)), .d (dI (a0.Ask.Typ)), .d (dI (a0.Sent)), .d (dI (a0.Fetched)), .sr 20 1 0 ((a0.Stack.map Frame.cells).length) ((a0.Stack.map Frame.cells).length)]⟩) [(20, .row 15 (a0.Stack.map Frame.cells) true 1 0)] rfl (tr_toJob a0 hsr1.2) (ar (A.e rfl rfl rfl) (.d (.d (.d (.d (.d (.d (.d .nil))))))) .nil) rfl (A.free rfl) rfl rfl, fun t h A => dy (zlv tabOk rfl (A.e rfl rfl rfl) (A.h rfl rfl) rfl rfl), fun t h A => zcallA 21 (.t ⟨true, [.d (dS (a1.Ask.Name)), .d (dI (a1.Ask.Typ)), .d (dS (a1.Q.Name)), .d (dI (a1.Q.Typ)), .sr 21 1 0 ((a1.Links.map Record.cells).length) ((a1.Links.map Record.cells).length), .d (dS (a1.Apex)), .sr 22 1 0 ((a1.Servers.map encI).length) ((a1.Servers.map encI).length), .sr 23 1 0 ((a1.Need.map encS).length) ((a1.Need.map encS).length), .d (dI (a1.Down)), .d (dI (a1.Left)), .d (dI (a1.Pc)), .d (dI (a1.X.Id)), .d (dI (a1.X.Addr)), .d (dI (a1.X.Try)), .d (dI (a1.X.Due))]⟩) [(21, .row 6 (a1.Links.map Record.cells) true 1 0), (22, .row 1 (a1.Servers.map encI) true 1 0), (23, .row 1 (a1.Need.map encS) true 1 0)] rfl (tr_toFrame a1 hsr3.2) (ar (A.e rfl rfl rfl) (.d (.d (.d (.d (.d (.d (.d (.d (.d (.d (.d (.d (.d (.d (.d .nil))))))))))))))) .nil) rfl (A.free rfl) rfl rfl, fun t h A => zcallA 24 (.t ⟨true, [.d (dI (v1.No)), .d (dI (v1.Client)), .d (dS (v1.Ask.Name)), .d (dI (v1.Ask.Typ)), .d (dI (v1.Sent)), .d (dI (v1.Fetched)), .sr 24 1 0 ((v1.Stack.map Frame.cells).length) ((v1.Stack.map Frame.cells).length)]⟩) [(24, .row 15 (v1.Stack.map Frame.cells) true 1 0)] rfl (by rw [ev1]; exact (tr_n_impl_SetTop a0 a1 hsr1.2 hsr3.2) : Tr Try.prog 18 _ [⟨true, [dI (v1.No), dI (v1.Client), dS (v1.Ask.Name), dI (v1.Ask.Typ), dI (v1.Sent), dI (v1.Fetched), .sl 15 (v1.Stack.map Frame.cells)]⟩]) (ar (A.e rfl rfl rfl) (.d (.d (.d (.d (.d (.d (.sr (A.h rfl rfl) le_all take_all .nil))))))) (ar (A.e rfl rfl rfl) (.d (.d (.d (.d (.sr (A.h rfl rfl) le_all take_all (.d (.sr (A.h rfl rfl) le_all take_all (.sr (A.h rfl rfl) le_all take_all (.d (.d (.d (.d (.d (.d (.d .nil))))))))))))))) .nil)) rfl (A.free rfl) rfl rfl, fun t h A => dr (zal tabOk rfl rfl (A.g rfl) rfl), trivial⟩ ?_
  refine sw 25 (.var [.d (dI (v1.No)), .d (dI (v1.Client)), .d (dS (v1.Ask.Name)), .d (dI (v1.Ask.Typ)), .d (dI (v1.Sent)), .d (dI (v1.Fetched)), .sr 24 1 0 ((v1.Stack.map Frame.cells).length) ((v1.Stack.map Frame.cells).length)]) (zst tabOk rfl (e rfl rfl) rfl (e rfl rfl) rfl rfl rfl) rfl rfl ?_
  refine s_end ?_
  refine v_seq ?_
  refine v_seq ?_
  refine v_reg ?_
  refine sy (.t ⟨true, [.d (dI (v1.No)), .d (dI (v1.Client)), .d (dS (v1.Ask.Name)), .d (dI (v1.Ask.Typ)), .d (dI (v1.Sent)), .d (dI (v1.Fetched)), .sr 24 1 0 ((v1.Stack.map Frame.cells).length) ((v1.Stack.map Frame.cells).length)]⟩) (zlv tabOk rfl (e rfl rfl) rfl rfl rfl) rfl rfl ?_
  refine sy (.t ⟨true, [.d (dI (v1.No)), .d (dI (v1.Client)), .d (dS (v1.Ask.Name)), .d (dI (v1.Ask.Typ)), .d (dI (v1.Sent)), .d (dI (v1.Fetched)), .sr 6 1 0 ((v1.Stack.map Frame.cells).length) ((v1.Stack.map Frame.cells).length)]⟩) (zlv tabOk rfl (e rfl rfl) rfl rfl rfl) rfl rfl ?_
  refine sd (.t ⟨false, [.d (dB (true))]⟩) (zcall 26 (.t ⟨false, [.d (dB (true))]⟩) [] rfl (eqT (tr_eqJob v1 v1 hfv1 hfv1)) (ar (e rfl rfl) (.d (.d (.d (.d (.d (.d (.sr rfl le_all take_all .nil))))))) (ar (e rfl rfl) (.d (.d (.d (.d (.d (.d (.sr rfl le_all take_all .nil))))))) .nil)) rfl rfl rfl) rfl rfl rfl rfl ?_
  refine sy (.t ⟨false, [.d (dB (!(true)))]⟩) (y_un rfl (e rfl rfl) (fun _ => u_not) rfl) rfl rfl ?_
  refine s_end ?_
  refine v_cF (e rfl rfl) rfl ?_
  refine v_skip ?_
  refine v_seq ?_
  refine v_reg ?_
  refine sy _ (zas rfl (ec rfl)) rfl rfl ?_
  refine s_end ?_
  refine v_seq ?_
  refine v_reg ?_
  refine sy (.t ⟨true, [.d (dI (v1.No)), .d (dI (v1.Client)), .d (dS (v1.Ask.Name)), .d (dI (v1.Ask.Typ)), .d (dI (v1.Sent)), .d (dI (v1.Fetched)), .sr 14 1 0 ((v1.Stack.map Frame.cells).length) ((v1.Stack.map Frame.cells).length)]⟩) (zlv tabOk rfl (e rfl rfl) rfl rfl rfl) rfl rfl ?_
  refine sy _ (zmv rfl (e rfl rfl)) rfl rfl ?_
  refine sd (.t ⟨false, [.d (dI ((mkvJob v1 1).2))]⟩) (zcall 26 (sc (dI (mkvJob v1 1).2)) [] rfl (tr_heldJob v1 ((⟨v1.No, v1.Client, v1.Ask, v1.Sent, v1.Fetched, ((mkvJob v1 1).1).Stack⟩ : Job)) hfv1 1 (by omega) (by omega) rfl) (ar (e rfl rfl) (.d (.d (.d (.d (.d (.d (.sr rfl (le_len (by simp [mkvJob, mkL_len])) (take_len (by simp [mkvJob, mkL_len])) .nil))))))) (ar (e rfl rfl) (.d .nil) .nil)) rfl rfl rfl) rfl rfl rfl rfl ?_
  refine sy _ (zas rfl (e rfl rfl)) rfl rfl ?_
  refine s_end ?_
  refine v_seq ?_
  refine v_seq ?_
  refine v_reg ?_
  refine sy _ (zmv rfl (e rfl rfl)) rfl rfl ?_
  refine sy (.t ⟨false, [.d (dB (decide (((mkvJob v1 1).2) < (0))))]⟩) (y_bin rfl (e rfl rfl) (ec rfl) (fun _ => b_lss) rfl) rfl rfl ?_
  refine s_end ?_
  refine v_cF (e rfl rfl) hz6 ?_
  refine v_skip ?_
  refine v_seq ?_
  refine v_seq ?_
  refine v_reg ?_
  refine sy _ (zmv rfl (e rfl rfl)) rfl rfl ?_
  refine sy _ (zmv rfl (e rfl rfl)) rfl rfl ?_
  refine sy (.t ⟨false, [.d (dB (decide (((mkvJob v1 1).2) ≠ ((mkvJob v1 1).2))))]⟩) (y_bin rfl (e rfl rfl) (e rfl rfl) (fun _ => b_neq) rfl) rfl rfl ?_
  refine s_end ?_
  refine v_cF (e rfl rfl) dec_neq ?_
  refine v_skip ?_
  refine v_seq ?_
  refine v_reg ?_
  refine sy _ (zas rfl (ec rfl)) rfl rfl ?_
  refine s_end ?_
  refine v_ret ?_
  exact post_ret (rv (.tmp (eg rfl rfl)) rfl (.lf .nil) rfl .nil) (.ro (.ro .nil)) rfl
end Go.Proofs.Ytkcpbahcnlhmjaa.V
