/-
  Frames: right or not.
-/
import Derived.Test.YtkcpbahcnlhmjaaDoorFF
import Derived.Test.YtkcpbahcnlhmjaaDoorFE
import Derived.Test.YtkcpbahcnlhmjaaDoorFD
import Derived.Test.YtkcpbahcnlhmjaaDoorN
import Derived.Test.YtkcpbahcnlhmjaaDoorFA
import Derived.Test.YtkcpbahcnlhmjaaDoorQ
namespace Go.Proofs.YtkcpbahcnlhmjaaDoor.V
open Go
set_option linter.unusedVariables false
set_option linter.unusedSimpArgs false
def n_spec_FrameOkL2 (a0 : Frame) : Nat → Nat → Bool
  | 0, _ => default
  | n2 + 1, i => cond (decide (((i : Int)) < (((a0.Need).length : Int)))) (atL (a0.Need) (i) (fun x2 => cond (!(n_spec_NameOk x2)) (false) (n_spec_FrameOkL2 a0 n2 (i + 1)))) (cond (decide ((a0.Pc) ≠ (3))) (decide ((a0.X.Try) = (0))) (cond (decide ((0) < (a0.X.Try))) (cond (decide ((0) < (((a0.Servers).length : Int)))) (atL (a0.Servers) (0) (fun x3 => decide ((x3) = (a0.X.Addr)))) (false)) (false)))
def n_spec_FrameOkL1 (a0 : Frame) : Nat → Nat → Bool
  | 0, _ => default
  | n + 1, i => cond (decide (((i : Int)) < (((a0.Servers).length : Int)))) (atL (a0.Servers) (i) (fun x1 => cond (!(n_spec_l1In x1 0 2147483647)) (false) (n_spec_FrameOkL1 a0 n (i + 1)))) (n_spec_FrameOkL2 a0 ((a0.Need).length + 1) 0)
def n_spec_FrameOk (a0 : Frame) : Bool := cond (!(n_spec_QuestOk a0.Ask)) (false) (cond (!(n_spec_QuestOk a0.Q)) (false) (cond (decide ((a0.Ask.Typ) ≠ (a0.Q.Typ))) (false) (cond (decide ((6) < (((a0.Links).length : Int)))) (false) (cond (!(n_spec_l7List a0.Links)) (false) (cond (!(n_spec_NameOk a0.Apex)) (false) (cond (!(n_spec_Under a0.Q.Name a0.Apex)) (false) (cond (decide ((a0.Down) < (0))) (false) (cond (decide ((a0.Left) < (0))) (false) (cond (!(n_spec_l1In a0.Pc 1 5)) (false) (cond (!(n_spec_ExchOk a0.X)) (false) (n_spec_FrameOkL1 a0 ((a0.Servers).length + 1) 0)))))))))))
set_option maxHeartbeats 4000000 in
set_option maxRecDepth 20000 in
theorem tr_n_spec_FrameOk (a0 : Frame) (h0 : Frame.Fit a0) : Tr Tryd.prog 8 [.ro ⟨true, [dS (a0.Ask.Name), dI (a0.Ask.Typ), dS (a0.Q.Name), dI (a0.Q.Typ), .sl 6 (a0.Links.map Record.cells), dS (a0.Apex), .sl 1 (a0.Servers.map encI), .sl 1 (a0.Need.map encS), dI (a0.Down), dI (a0.Left), dI (a0.Pc), dI (a0.X.Id), dI (a0.X.Addr), dI (a0.X.Try), dI (a0.X.Due)]⟩] [⟨false, [dB ((n_spec_FrameOk a0))]⟩] := by
  obtain ⟨r, hr⟩ : ∃ r, n_spec_FrameOk a0 = r := ⟨_, rfl⟩
  rw [hr]
  rw [n_spec_FrameOk] at hr
  refine tr_go tabOk Tryd.func8 rfl rfl rfl rfl rfl (ov := [(0, .t ⟨true, [.d (dS (a0.Ask.Name)), .d (dI (a0.Ask.Typ)), .d (dS (a0.Q.Name)), .d (dI (a0.Q.Typ)), .d (.sl 6 (a0.Links.map Record.cells)), .d (dS (a0.Apex)), .d (.sl 1 (a0.Servers.map encI)), .d (.sl 1 (a0.Need.map encS)), .d (dI (a0.Down)), .d (dI (a0.Left)), .d (dI (a0.Pc)), .d (dI (a0.X.Id)), .d (dI (a0.X.Addr)), .d (dI (a0.X.Try)), .d (dI (a0.X.Due))]⟩)]) (hv := []) rfl rfl ?_
  refine v_seq ?_
  refine v_reg ?_
  refine sr 0 (.t ⟨false, [.vp 0 0]⟩) (.var [.d (dS (a0.Ask.Name)), .d (dI (a0.Ask.Typ)), .d (dS (a0.Q.Name)), .d (dI (a0.Q.Typ)), .d (.sl 6 (a0.Links.map Record.cells)), .d (dS (a0.Apex)), .d (.sl 1 (a0.Servers.map encI)), .d (.sl 1 (a0.Need.map encS)), .d (dI (a0.Down)), .d (dI (a0.Left)), .d (dI (a0.Pc)), .d (dI (a0.X.Id)), .d (dI (a0.X.Addr)), .d (dI (a0.X.Try)), .d (dI (a0.X.Due))]) (zbx rfl (e rfl rfl) rfl rfl rfl) rfl rfl ?_
  refine sy _ (zas rfl (ec rfl)) rfl rfl ?_
  refine s_end ?_
  refine v_seq ?_
  refine v_seq ?_
  refine v_reg ?_
  refine sy (.t ⟨false, [.vp 0 0]⟩) (zfa tabOk rfl rfl rfl (e rfl rfl) rfl rfl) rfl rfl ?_
  refine sy (.t ⟨true, [.d (dS (a0.Ask.Name)), .d (dI (a0.Ask.Typ))]⟩) (zlv tabOk rfl (e rfl rfl) rfl rfl rfl) rfl rfl ?_
  refine sd (.t ⟨false, [.d (dB (n_spec_QuestOk a0.Ask))]⟩) (zcd (.t ⟨false, [.d (dB (n_spec_QuestOk a0.Ask))]⟩) rfl (tr_n_spec_QuestOk a0.Ask h0.Ask) (ar (e rfl rfl) (.d (.d .nil)) .nil) rfl) rfl rfl rfl rfl ?_
  refine sy (.t ⟨false, [.d (dB (!(n_spec_QuestOk a0.Ask)))]⟩) (y_un rfl (e rfl rfl) (fun _ => u_not) rfl) rfl rfl ?_
  refine sy _ (zmv rfl (e rfl rfl)) rfl rfl ?_
  rcases Bool.eq_false_or_eq_true (!(n_spec_QuestOk a0.Ask)) with hg1 | hg1
  · replace hr := bf_t hg1 hr
    have hn2 := not_t hg1
    refine gs rfl rfl rfl (eg rfl rfl) hg1 rfl ?_
    refine gs rfl rfl rfl (eg rfl rfl) hg1 rfl ?_
    refine gs rfl rfl rfl (eg rfl rfl) hg1 rfl ?_
    refine gs rfl rfl rfl (eg rfl rfl) hg1 rfl ?_
    refine sy (.t ⟨false, [.d (dB (true))]⟩) (zpt rfl (e rfl rfl) hg1 (ec rfl)) rfl rfl ?_
    refine sy _ (zmv rfl (e rfl rfl)) rfl rfl ?_
    refine gs rfl rfl rfl (eg rfl rfl) rfl rfl ?_
    refine gs rfl rfl rfl (eg rfl rfl) rfl rfl ?_
    refine gs rfl rfl rfl (eg rfl rfl) rfl rfl ?_
    refine gs rfl rfl rfl (eg rfl rfl) rfl rfl ?_
    refine gs rfl rfl rfl (eg rfl rfl) rfl rfl ?_
    refine gs rfl rfl rfl (eg rfl rfl) rfl rfl ?_
    refine gs rfl rfl rfl (eg rfl rfl) rfl rfl ?_
    refine sy (.t ⟨false, [.d (dB (true))]⟩) (zpt rfl (e rfl rfl) rfl (ec rfl)) rfl rfl ?_
    refine sy _ (zmv rfl (e rfl rfl)) rfl rfl ?_
    refine gs rfl rfl rfl (eg rfl rfl) rfl rfl ?_
    refine gs rfl rfl rfl (eg rfl rfl) rfl rfl ?_
    refine gs rfl rfl rfl (eg rfl rfl) rfl rfl ?_
    refine gs rfl rfl rfl (eg rfl rfl) rfl rfl ?_
    refine sy (.t ⟨false, [.d (dB (true))]⟩) (zpt rfl (e rfl rfl) rfl (ec rfl)) rfl rfl ?_
    refine sy _ (zmv rfl (e rfl rfl)) rfl rfl ?_
    refine gs rfl rfl rfl (eg rfl rfl) rfl rfl ?_
    refine gs rfl rfl rfl (eg rfl rfl) rfl rfl ?_
    refine gs rfl rfl rfl (eg rfl rfl) rfl rfl ?_
    refine gs rfl rfl rfl (eg rfl rfl) rfl rfl ?_
    refine sy (.t ⟨false, [.d (dB (true))]⟩) (zpt rfl (e rfl rfl) rfl (ec rfl)) rfl rfl ?_
    refine sy _ (zmv rfl (e rfl rfl)) rfl rfl ?_
    refine gs rfl rfl rfl (eg rfl rfl) rfl rfl ?_
    refine gs rfl rfl rfl (eg rfl rfl) rfl rfl ?_
    refine gs rfl rfl rfl (eg rfl rfl) rfl rfl ?_
    refine gs rfl rfl rfl (eg rfl rfl) rfl rfl ?_
    refine sy (.t ⟨false, [.d (dB (true))]⟩) (zpt rfl (e rfl rfl) rfl (ec rfl)) rfl rfl ?_
    refine sy _ (zmv rfl (e rfl rfl)) rfl rfl ?_
    refine gs rfl rfl rfl (eg rfl rfl) rfl rfl ?_
    refine gs rfl rfl rfl (eg rfl rfl) rfl rfl ?_
    refine gs rfl rfl rfl (eg rfl rfl) rfl rfl ?_
    refine gs rfl rfl rfl (eg rfl rfl) rfl rfl ?_
    refine gs rfl rfl rfl (eg rfl rfl) rfl rfl ?_
    refine gs rfl rfl rfl (eg rfl rfl) rfl rfl ?_
    refine gs rfl rfl rfl (eg rfl rfl) rfl rfl ?_
    refine sy (.t ⟨false, [.d (dB (true))]⟩) (zpt rfl (e rfl rfl) rfl (ec rfl)) rfl rfl ?_
    refine sy _ (zmv rfl (e rfl rfl)) rfl rfl ?_
    refine gs rfl rfl rfl (eg rfl rfl) rfl rfl ?_
    refine gs rfl rfl rfl (eg rfl rfl) rfl rfl ?_
    refine gs rfl rfl rfl (eg rfl rfl) rfl rfl ?_
    refine sy (.t ⟨false, [.d (dB (true))]⟩) (zpt rfl (e rfl rfl) rfl (ec rfl)) rfl rfl ?_
    refine sy _ (zmv rfl (e rfl rfl)) rfl rfl ?_
    refine gs rfl rfl rfl (eg rfl rfl) rfl rfl ?_
    refine gs rfl rfl rfl (eg rfl rfl) rfl rfl ?_
    refine gs rfl rfl rfl (eg rfl rfl) rfl rfl ?_
    refine sy (.t ⟨false, [.d (dB (true))]⟩) (zpt rfl (e rfl rfl) rfl (ec rfl)) rfl rfl ?_
    refine sy _ (zmv rfl (e rfl rfl)) rfl rfl ?_
    refine gs rfl rfl rfl (eg rfl rfl) rfl rfl ?_
    refine gs rfl rfl rfl (eg rfl rfl) rfl rfl ?_
    refine gs rfl rfl rfl (eg rfl rfl) rfl rfl ?_
    refine gs rfl rfl rfl (eg rfl rfl) rfl rfl ?_
    refine sy (.t ⟨false, [.d (dB (true))]⟩) (zpt rfl (e rfl rfl) rfl (ec rfl)) rfl rfl ?_
    refine sy _ (zmv rfl (e rfl rfl)) rfl rfl ?_
    refine gs rfl rfl rfl (eg rfl rfl) rfl rfl ?_
    refine gs rfl rfl rfl (eg rfl rfl) rfl rfl ?_
    refine gs rfl rfl rfl (eg rfl rfl) rfl rfl ?_
    refine gs rfl rfl rfl (eg rfl rfl) rfl rfl ?_
    refine sy (.t ⟨false, [.d (dB (true))]⟩) (zpt rfl (e rfl rfl) rfl (ec rfl)) rfl rfl ?_
    refine s_end ?_
    refine v_cT (e rfl rfl) rfl ?_
    refine v_seq ?_
    refine v_reg ?_
    refine sy _ (zas rfl (ec rfl)) rfl rfl ?_
    refine s_end ?_
    refine v_ret ?_
    subst hr
    exact post_ret (rv (.tmp (eg rfl rfl)) rfl (.lf .nil) rfl .nil) (.ro .nil) rfl
  replace hr := bf_f hg1 hr
  have hn3 := not_f hg1
  refine gr rfl rfl rfl (eg rfl rfl) hg1 ?_
  refine sy (.t ⟨false, [.vp 0 2]⟩) (zfa tabOk rfl rfl rfl (e rfl rfl) rfl rfl) rfl rfl ?_
  refine gr rfl rfl rfl (eg rfl rfl) hg1 ?_
  refine sy (.t ⟨true, [.d (dS (a0.Q.Name)), .d (dI (a0.Q.Typ))]⟩) (zlv tabOk rfl (e rfl rfl) rfl rfl rfl) rfl rfl ?_
  refine gr rfl rfl rfl (eg rfl rfl) hg1 ?_
  refine sd (.t ⟨false, [.d (dB (n_spec_QuestOk a0.Q))]⟩) (zcd (.t ⟨false, [.d (dB (n_spec_QuestOk a0.Q))]⟩) rfl (tr_n_spec_QuestOk a0.Q h0.Q) (ar (e rfl rfl) (.d (.d .nil)) .nil) rfl) rfl rfl rfl rfl ?_
  refine gr rfl rfl rfl (eg rfl rfl) hg1 ?_
  refine sy (.t ⟨false, [.d (dB (!(n_spec_QuestOk a0.Q)))]⟩) (y_un rfl (e rfl rfl) (fun _ => u_not) rfl) rfl rfl ?_
  refine sy (.t ⟨false, [.d (dB (!(n_spec_QuestOk a0.Q)))]⟩) (zpf rfl (e rfl rfl) hg1 (e rfl rfl)) rfl rfl ?_
  refine sy _ (zmv rfl (e rfl rfl)) rfl rfl ?_
  rcases Bool.eq_false_or_eq_true (!(n_spec_QuestOk a0.Q)) with hg4 | hg4
  · replace hr := bf_t hg4 hr
    have hn5 := not_t hg4
    refine gs rfl rfl rfl (eg rfl rfl) hg4 rfl ?_
    refine gs rfl rfl rfl (eg rfl rfl) hg4 rfl ?_
    refine gs rfl rfl rfl (eg rfl rfl) hg4 rfl ?_
    refine gs rfl rfl rfl (eg rfl rfl) hg4 rfl ?_
    refine gs rfl rfl rfl (eg rfl rfl) hg4 rfl ?_
    refine gs rfl rfl rfl (eg rfl rfl) hg4 rfl ?_
    refine gs rfl rfl rfl (eg rfl rfl) hg4 rfl ?_
    refine sy (.t ⟨false, [.d (dB (true))]⟩) (zpt rfl (e rfl rfl) hg4 (ec rfl)) rfl rfl ?_
    refine sy _ (zmv rfl (e rfl rfl)) rfl rfl ?_
    refine gs rfl rfl rfl (eg rfl rfl) rfl rfl ?_
    refine gs rfl rfl rfl (eg rfl rfl) rfl rfl ?_
    refine gs rfl rfl rfl (eg rfl rfl) rfl rfl ?_
    refine gs rfl rfl rfl (eg rfl rfl) rfl rfl ?_
    refine sy (.t ⟨false, [.d (dB (true))]⟩) (zpt rfl (e rfl rfl) rfl (ec rfl)) rfl rfl ?_
    refine sy _ (zmv rfl (e rfl rfl)) rfl rfl ?_
    refine gs rfl rfl rfl (eg rfl rfl) rfl rfl ?_
    refine gs rfl rfl rfl (eg rfl rfl) rfl rfl ?_
    refine gs rfl rfl rfl (eg rfl rfl) rfl rfl ?_
    refine gs rfl rfl rfl (eg rfl rfl) rfl rfl ?_
    refine sy (.t ⟨false, [.d (dB (true))]⟩) (zpt rfl (e rfl rfl) rfl (ec rfl)) rfl rfl ?_
    refine sy _ (zmv rfl (e rfl rfl)) rfl rfl ?_
    refine gs rfl rfl rfl (eg rfl rfl) rfl rfl ?_
    refine gs rfl rfl rfl (eg rfl rfl) rfl rfl ?_
    refine gs rfl rfl rfl (eg rfl rfl) rfl rfl ?_
    refine gs rfl rfl rfl (eg rfl rfl) rfl rfl ?_
    refine sy (.t ⟨false, [.d (dB (true))]⟩) (zpt rfl (e rfl rfl) rfl (ec rfl)) rfl rfl ?_
    refine sy _ (zmv rfl (e rfl rfl)) rfl rfl ?_
    refine gs rfl rfl rfl (eg rfl rfl) rfl rfl ?_
    refine gs rfl rfl rfl (eg rfl rfl) rfl rfl ?_
    refine gs rfl rfl rfl (eg rfl rfl) rfl rfl ?_
    refine gs rfl rfl rfl (eg rfl rfl) rfl rfl ?_
    refine gs rfl rfl rfl (eg rfl rfl) rfl rfl ?_
    refine gs rfl rfl rfl (eg rfl rfl) rfl rfl ?_
    refine gs rfl rfl rfl (eg rfl rfl) rfl rfl ?_
    refine sy (.t ⟨false, [.d (dB (true))]⟩) (zpt rfl (e rfl rfl) rfl (ec rfl)) rfl rfl ?_
    refine sy _ (zmv rfl (e rfl rfl)) rfl rfl ?_
    refine gs rfl rfl rfl (eg rfl rfl) rfl rfl ?_
    refine gs rfl rfl rfl (eg rfl rfl) rfl rfl ?_
    refine gs rfl rfl rfl (eg rfl rfl) rfl rfl ?_
    refine sy (.t ⟨false, [.d (dB (true))]⟩) (zpt rfl (e rfl rfl) rfl (ec rfl)) rfl rfl ?_
    refine sy _ (zmv rfl (e rfl rfl)) rfl rfl ?_
    refine gs rfl rfl rfl (eg rfl rfl) rfl rfl ?_
    refine gs rfl rfl rfl (eg rfl rfl) rfl rfl ?_
    refine gs rfl rfl rfl (eg rfl rfl) rfl rfl ?_
    refine sy (.t ⟨false, [.d (dB (true))]⟩) (zpt rfl (e rfl rfl) rfl (ec rfl)) rfl rfl ?_
    refine sy _ (zmv rfl (e rfl rfl)) rfl rfl ?_
    refine gs rfl rfl rfl (eg rfl rfl) rfl rfl ?_
    refine gs rfl rfl rfl (eg rfl rfl) rfl rfl ?_
    refine gs rfl rfl rfl (eg rfl rfl) rfl rfl ?_
    refine gs rfl rfl rfl (eg rfl rfl) rfl rfl ?_
    refine sy (.t ⟨false, [.d (dB (true))]⟩) (zpt rfl (e rfl rfl) rfl (ec rfl)) rfl rfl ?_
    refine sy _ (zmv rfl (e rfl rfl)) rfl rfl ?_
    refine gs rfl rfl rfl (eg rfl rfl) rfl rfl ?_
    refine gs rfl rfl rfl (eg rfl rfl) rfl rfl ?_
    refine gs rfl rfl rfl (eg rfl rfl) rfl rfl ?_
    refine gs rfl rfl rfl (eg rfl rfl) rfl rfl ?_
    refine sy (.t ⟨false, [.d (dB (true))]⟩) (zpt rfl (e rfl rfl) rfl (ec rfl)) rfl rfl ?_
    refine s_end ?_
    refine v_cT (e rfl rfl) rfl ?_
    refine v_seq ?_
    refine v_reg ?_
    refine sy _ (zas rfl (ec rfl)) rfl rfl ?_
    refine s_end ?_
    refine v_ret ?_
    subst hr
    exact post_ret (rv (.tmp (eg rfl rfl)) rfl (.lf .nil) rfl .nil) (.ro .nil) rfl
  replace hr := bf_f hg4 hr
  have hn6 := not_f hg4
  refine gr rfl rfl rfl (eg rfl rfl) hg4 ?_
  refine sy (.t ⟨false, [.vp 0 0]⟩) (zfa tabOk rfl rfl rfl (e rfl rfl) rfl rfl) rfl rfl ?_
  refine gr rfl rfl rfl (eg rfl rfl) hg4 ?_
  refine sy (.t ⟨false, [.vp 0 1]⟩) (zfa tabOk rfl rfl rfl (e rfl rfl) rfl rfl) rfl rfl ?_
  refine gr rfl rfl rfl (eg rfl rfl) hg4 ?_
  refine sy (.t ⟨false, [.d (dI (a0.Ask.Typ))]⟩) (zlv tabOk rfl (e rfl rfl) rfl rfl rfl) rfl rfl ?_
  refine gr rfl rfl rfl (eg rfl rfl) hg4 ?_
  refine sy (.t ⟨false, [.vp 0 2]⟩) (zfa tabOk rfl rfl rfl (e rfl rfl) rfl rfl) rfl rfl ?_
  refine gr rfl rfl rfl (eg rfl rfl) hg4 ?_
  refine sy (.t ⟨false, [.vp 0 3]⟩) (zfa tabOk rfl rfl rfl (e rfl rfl) rfl rfl) rfl rfl ?_
  refine gr rfl rfl rfl (eg rfl rfl) hg4 ?_
  refine sy (.t ⟨false, [.d (dI (a0.Q.Typ))]⟩) (zlv tabOk rfl (e rfl rfl) rfl rfl rfl) rfl rfl ?_
  refine gr rfl rfl rfl (eg rfl rfl) hg4 ?_
  refine sy (.t ⟨false, [.d (dB (decide ((a0.Ask.Typ) ≠ (a0.Q.Typ))))]⟩) (y_bin rfl (e rfl rfl) (e rfl rfl) (fun _ => b_neq) rfl) rfl rfl ?_
  refine sy (.t ⟨false, [.d (dB (decide ((a0.Ask.Typ) ≠ (a0.Q.Typ))))]⟩) (zpf rfl (e rfl rfl) hg4 (e rfl rfl)) rfl rfl ?_
  refine sy _ (zmv rfl (e rfl rfl)) rfl rfl ?_
  rcases Bool.eq_false_or_eq_true (decide ((a0.Ask.Typ) ≠ (a0.Q.Typ))) with hg7 | hg7
  · replace hr := bf_t hg7 hr
    have hg7p := dec_t hg7
    refine gs rfl rfl rfl (eg rfl rfl) hg7 rfl ?_
    refine gs rfl rfl rfl (eg rfl rfl) hg7 rfl ?_
    refine gs rfl rfl rfl (eg rfl rfl) hg7 rfl ?_
    refine gs rfl rfl rfl (eg rfl rfl) hg7 rfl ?_
    refine sy (.t ⟨false, [.d (dB (true))]⟩) (zpt rfl (e rfl rfl) hg7 (ec rfl)) rfl rfl ?_
    refine sy _ (zmv rfl (e rfl rfl)) rfl rfl ?_
    refine gs rfl rfl rfl (eg rfl rfl) rfl rfl ?_
    refine gs rfl rfl rfl (eg rfl rfl) rfl rfl ?_
    refine gs rfl rfl rfl (eg rfl rfl) rfl rfl ?_
    refine gs rfl rfl rfl (eg rfl rfl) rfl rfl ?_
    refine sy (.t ⟨false, [.d (dB (true))]⟩) (zpt rfl (e rfl rfl) rfl (ec rfl)) rfl rfl ?_
    refine sy _ (zmv rfl (e rfl rfl)) rfl rfl ?_
    refine gs rfl rfl rfl (eg rfl rfl) rfl rfl ?_
    refine gs rfl rfl rfl (eg rfl rfl) rfl rfl ?_
    refine gs rfl rfl rfl (eg rfl rfl) rfl rfl ?_
    refine gs rfl rfl rfl (eg rfl rfl) rfl rfl ?_
    refine sy (.t ⟨false, [.d (dB (true))]⟩) (zpt rfl (e rfl rfl) rfl (ec rfl)) rfl rfl ?_
    refine sy _ (zmv rfl (e rfl rfl)) rfl rfl ?_
    refine gs rfl rfl rfl (eg rfl rfl) rfl rfl ?_
    refine gs rfl rfl rfl (eg rfl rfl) rfl rfl ?_
    refine gs rfl rfl rfl (eg rfl rfl) rfl rfl ?_
    refine gs rfl rfl rfl (eg rfl rfl) rfl rfl ?_
    refine gs rfl rfl rfl (eg rfl rfl) rfl rfl ?_
    refine gs rfl rfl rfl (eg rfl rfl) rfl rfl ?_
    refine gs rfl rfl rfl (eg rfl rfl) rfl rfl ?_
    refine sy (.t ⟨false, [.d (dB (true))]⟩) (zpt rfl (e rfl rfl) rfl (ec rfl)) rfl rfl ?_
    refine sy _ (zmv rfl (e rfl rfl)) rfl rfl ?_
    refine gs rfl rfl rfl (eg rfl rfl) rfl rfl ?_
    refine gs rfl rfl rfl (eg rfl rfl) rfl rfl ?_
    refine gs rfl rfl rfl (eg rfl rfl) rfl rfl ?_
    refine sy (.t ⟨false, [.d (dB (true))]⟩) (zpt rfl (e rfl rfl) rfl (ec rfl)) rfl rfl ?_
    refine sy _ (zmv rfl (e rfl rfl)) rfl rfl ?_
    refine gs rfl rfl rfl (eg rfl rfl) rfl rfl ?_
    refine gs rfl rfl rfl (eg rfl rfl) rfl rfl ?_
    refine gs rfl rfl rfl (eg rfl rfl) rfl rfl ?_
    refine sy (.t ⟨false, [.d (dB (true))]⟩) (zpt rfl (e rfl rfl) rfl (ec rfl)) rfl rfl ?_
    refine sy _ (zmv rfl (e rfl rfl)) rfl rfl ?_
    refine gs rfl rfl rfl (eg rfl rfl) rfl rfl ?_
    refine gs rfl rfl rfl (eg rfl rfl) rfl rfl ?_
    refine gs rfl rfl rfl (eg rfl rfl) rfl rfl ?_
    refine gs rfl rfl rfl (eg rfl rfl) rfl rfl ?_
    refine sy (.t ⟨false, [.d (dB (true))]⟩) (zpt rfl (e rfl rfl) rfl (ec rfl)) rfl rfl ?_
    refine sy _ (zmv rfl (e rfl rfl)) rfl rfl ?_
    refine gs rfl rfl rfl (eg rfl rfl) rfl rfl ?_
    refine gs rfl rfl rfl (eg rfl rfl) rfl rfl ?_
    refine gs rfl rfl rfl (eg rfl rfl) rfl rfl ?_
    refine gs rfl rfl rfl (eg rfl rfl) rfl rfl ?_
    refine sy (.t ⟨false, [.d (dB (true))]⟩) (zpt rfl (e rfl rfl) rfl (ec rfl)) rfl rfl ?_
    refine s_end ?_
    refine v_cT (e rfl rfl) rfl ?_
    refine v_seq ?_
    refine v_reg ?_
    refine sy _ (zas rfl (ec rfl)) rfl rfl ?_
    refine s_end ?_
    refine v_ret ?_
    subst hr
    exact post_ret (rv (.tmp (eg rfl rfl)) rfl (.lf .nil) rfl .nil) (.ro .nil) rfl
  replace hr := bf_f hg7 hr
  have hg7p := dec_f hg7
  refine gr rfl rfl rfl (eg rfl rfl) hg7 ?_
  refine sy (.t ⟨false, [.vp 0 4]⟩) (zfa tabOk rfl rfl rfl (e rfl rfl) rfl rfl) rfl rfl ?_
  refine gr rfl rfl rfl (eg rfl rfl) hg7 ?_
  refine sy (.t ⟨false, [.d (.sl 6 (a0.Links.map Record.cells))]⟩) (zlv tabOk rfl (e rfl rfl) rfl rfl rfl) rfl rfl ?_
  refine gr rfl rfl rfl (eg rfl rfl) hg7 ?_
  have hB1 := (h0.Links).1
  refine sy (.t ⟨false, [.d (dI ((a0.Links).length : Int))]⟩) (zlm tabOk rfl rfl (e rfl rfl) .d) rfl rfl ?_
  refine gr rfl rfl rfl (eg rfl rfl) hg7 ?_
  refine sy (.t ⟨false, [.d (dB (decide ((6) < (((a0.Links).length : Int)))))]⟩) (y_bin rfl (e rfl rfl) (ec rfl) (fun _ => b_gtr) rfl) rfl rfl ?_
  refine sy (.t ⟨false, [.d (dB (decide ((6) < (((a0.Links).length : Int)))))]⟩) (zpf rfl (e rfl rfl) hg7 (e rfl rfl)) rfl rfl ?_
  refine sy _ (zmv rfl (e rfl rfl)) rfl rfl ?_
  rcases Bool.eq_false_or_eq_true (decide ((6) < (((a0.Links).length : Int)))) with hg8 | hg8
  · replace hr := bf_t hg8 hr
    have hg8p := dec_t hg8
    refine gs rfl rfl rfl (eg rfl rfl) hg8 rfl ?_
    refine gs rfl rfl rfl (eg rfl rfl) hg8 rfl ?_
    refine gs rfl rfl rfl (eg rfl rfl) hg8 rfl ?_
    refine gs rfl rfl rfl (eg rfl rfl) hg8 rfl ?_
    refine sy (.t ⟨false, [.d (dB (true))]⟩) (zpt rfl (e rfl rfl) hg8 (ec rfl)) rfl rfl ?_
    refine sy _ (zmv rfl (e rfl rfl)) rfl rfl ?_
    refine gs rfl rfl rfl (eg rfl rfl) rfl rfl ?_
    refine gs rfl rfl rfl (eg rfl rfl) rfl rfl ?_
    refine gs rfl rfl rfl (eg rfl rfl) rfl rfl ?_
    refine gs rfl rfl rfl (eg rfl rfl) rfl rfl ?_
    refine sy (.t ⟨false, [.d (dB (true))]⟩) (zpt rfl (e rfl rfl) rfl (ec rfl)) rfl rfl ?_
    refine sy _ (zmv rfl (e rfl rfl)) rfl rfl ?_
    refine gs rfl rfl rfl (eg rfl rfl) rfl rfl ?_
    refine gs rfl rfl rfl (eg rfl rfl) rfl rfl ?_
    refine gs rfl rfl rfl (eg rfl rfl) rfl rfl ?_
    refine gs rfl rfl rfl (eg rfl rfl) rfl rfl ?_
    refine gs rfl rfl rfl (eg rfl rfl) rfl rfl ?_
    refine gs rfl rfl rfl (eg rfl rfl) rfl rfl ?_
    refine gs rfl rfl rfl (eg rfl rfl) rfl rfl ?_
    refine sy (.t ⟨false, [.d (dB (true))]⟩) (zpt rfl (e rfl rfl) rfl (ec rfl)) rfl rfl ?_
    refine sy _ (zmv rfl (e rfl rfl)) rfl rfl ?_
    refine gs rfl rfl rfl (eg rfl rfl) rfl rfl ?_
    refine gs rfl rfl rfl (eg rfl rfl) rfl rfl ?_
    refine gs rfl rfl rfl (eg rfl rfl) rfl rfl ?_
    refine sy (.t ⟨false, [.d (dB (true))]⟩) (zpt rfl (e rfl rfl) rfl (ec rfl)) rfl rfl ?_
    refine sy _ (zmv rfl (e rfl rfl)) rfl rfl ?_
    refine gs rfl rfl rfl (eg rfl rfl) rfl rfl ?_
    refine gs rfl rfl rfl (eg rfl rfl) rfl rfl ?_
    refine gs rfl rfl rfl (eg rfl rfl) rfl rfl ?_
    refine sy (.t ⟨false, [.d (dB (true))]⟩) (zpt rfl (e rfl rfl) rfl (ec rfl)) rfl rfl ?_
    refine sy _ (zmv rfl (e rfl rfl)) rfl rfl ?_
    refine gs rfl rfl rfl (eg rfl rfl) rfl rfl ?_
    refine gs rfl rfl rfl (eg rfl rfl) rfl rfl ?_
    refine gs rfl rfl rfl (eg rfl rfl) rfl rfl ?_
    refine gs rfl rfl rfl (eg rfl rfl) rfl rfl ?_
    refine sy (.t ⟨false, [.d (dB (true))]⟩) (zpt rfl (e rfl rfl) rfl (ec rfl)) rfl rfl ?_
    refine sy _ (zmv rfl (e rfl rfl)) rfl rfl ?_
    refine gs rfl rfl rfl (eg rfl rfl) rfl rfl ?_
    refine gs rfl rfl rfl (eg rfl rfl) rfl rfl ?_
    refine gs rfl rfl rfl (eg rfl rfl) rfl rfl ?_
    refine gs rfl rfl rfl (eg rfl rfl) rfl rfl ?_
    refine sy (.t ⟨false, [.d (dB (true))]⟩) (zpt rfl (e rfl rfl) rfl (ec rfl)) rfl rfl ?_
    refine s_end ?_
    refine v_cT (e rfl rfl) rfl ?_
    refine v_seq ?_
    refine v_reg ?_
    refine sy _ (zas rfl (ec rfl)) rfl rfl ?_
    refine s_end ?_
    refine v_ret ?_
    subst hr
    exact post_ret (rv (.tmp (eg rfl rfl)) rfl (.lf .nil) rfl .nil) (.ro .nil) rfl
  replace hr := bf_f hg8 hr
  have hg8p := dec_f hg8
  refine gr rfl rfl rfl (eg rfl rfl) hg8 ?_
  refine sy (.t ⟨false, [.vp 0 4]⟩) (zfa tabOk rfl rfl rfl (e rfl rfl) rfl rfl) rfl rfl ?_
  refine gr rfl rfl rfl (eg rfl rfl) hg8 ?_
  refine sy (.t ⟨false, [.d (.sl 6 (a0.Links.map Record.cells))]⟩) (zlv tabOk rfl (e rfl rfl) rfl rfl rfl) rfl rfl ?_
  refine gr rfl rfl rfl (eg rfl rfl) hg8 ?_
  refine sd (.t ⟨false, [.d (dB (n_spec_l7List a0.Links))]⟩) (zcd (.t ⟨false, [.d (dB (n_spec_l7List a0.Links))]⟩) rfl (tr_n_spec_l7List a0.Links h0.Links) (ar (e rfl rfl) (.d .nil) .nil) rfl) rfl rfl rfl rfl ?_
  refine gr rfl rfl rfl (eg rfl rfl) hg8 ?_
  refine sy (.t ⟨false, [.d (dB (!(n_spec_l7List a0.Links)))]⟩) (y_un rfl (e rfl rfl) (fun _ => u_not) rfl) rfl rfl ?_
  refine sy (.t ⟨false, [.d (dB (!(n_spec_l7List a0.Links)))]⟩) (zpf rfl (e rfl rfl) hg8 (e rfl rfl)) rfl rfl ?_
  refine sy _ (zmv rfl (e rfl rfl)) rfl rfl ?_
  rcases Bool.eq_false_or_eq_true (!(n_spec_l7List a0.Links)) with hg9 | hg9
  · replace hr := bf_t hg9 hr
    have hn10 := not_t hg9
    refine gs rfl rfl rfl (eg rfl rfl) hg9 rfl ?_
    refine gs rfl rfl rfl (eg rfl rfl) hg9 rfl ?_
    refine gs rfl rfl rfl (eg rfl rfl) hg9 rfl ?_
    refine gs rfl rfl rfl (eg rfl rfl) hg9 rfl ?_
    refine sy (.t ⟨false, [.d (dB (true))]⟩) (zpt rfl (e rfl rfl) hg9 (ec rfl)) rfl rfl ?_
    refine sy _ (zmv rfl (e rfl rfl)) rfl rfl ?_
    refine gs rfl rfl rfl (eg rfl rfl) rfl rfl ?_
    refine gs rfl rfl rfl (eg rfl rfl) rfl rfl ?_
    refine gs rfl rfl rfl (eg rfl rfl) rfl rfl ?_
    refine gs rfl rfl rfl (eg rfl rfl) rfl rfl ?_
    refine gs rfl rfl rfl (eg rfl rfl) rfl rfl ?_
    refine gs rfl rfl rfl (eg rfl rfl) rfl rfl ?_
    refine gs rfl rfl rfl (eg rfl rfl) rfl rfl ?_
    refine sy (.t ⟨false, [.d (dB (true))]⟩) (zpt rfl (e rfl rfl) rfl (ec rfl)) rfl rfl ?_
    refine sy _ (zmv rfl (e rfl rfl)) rfl rfl ?_
    refine gs rfl rfl rfl (eg rfl rfl) rfl rfl ?_
    refine gs rfl rfl rfl (eg rfl rfl) rfl rfl ?_
    refine gs rfl rfl rfl (eg rfl rfl) rfl rfl ?_
    refine sy (.t ⟨false, [.d (dB (true))]⟩) (zpt rfl (e rfl rfl) rfl (ec rfl)) rfl rfl ?_
    refine sy _ (zmv rfl (e rfl rfl)) rfl rfl ?_
    refine gs rfl rfl rfl (eg rfl rfl) rfl rfl ?_
    refine gs rfl rfl rfl (eg rfl rfl) rfl rfl ?_
    refine gs rfl rfl rfl (eg rfl rfl) rfl rfl ?_
    refine sy (.t ⟨false, [.d (dB (true))]⟩) (zpt rfl (e rfl rfl) rfl (ec rfl)) rfl rfl ?_
    refine sy _ (zmv rfl (e rfl rfl)) rfl rfl ?_
    refine gs rfl rfl rfl (eg rfl rfl) rfl rfl ?_
    refine gs rfl rfl rfl (eg rfl rfl) rfl rfl ?_
    refine gs rfl rfl rfl (eg rfl rfl) rfl rfl ?_
    refine gs rfl rfl rfl (eg rfl rfl) rfl rfl ?_
    refine sy (.t ⟨false, [.d (dB (true))]⟩) (zpt rfl (e rfl rfl) rfl (ec rfl)) rfl rfl ?_
    refine sy _ (zmv rfl (e rfl rfl)) rfl rfl ?_
    refine gs rfl rfl rfl (eg rfl rfl) rfl rfl ?_
    refine gs rfl rfl rfl (eg rfl rfl) rfl rfl ?_
    refine gs rfl rfl rfl (eg rfl rfl) rfl rfl ?_
    refine gs rfl rfl rfl (eg rfl rfl) rfl rfl ?_
    refine sy (.t ⟨false, [.d (dB (true))]⟩) (zpt rfl (e rfl rfl) rfl (ec rfl)) rfl rfl ?_
    refine s_end ?_
    refine v_cT (e rfl rfl) rfl ?_
    refine v_seq ?_
    refine v_reg ?_
    refine sy _ (zas rfl (ec rfl)) rfl rfl ?_
    refine s_end ?_
    refine v_ret ?_
    subst hr
    exact post_ret (rv (.tmp (eg rfl rfl)) rfl (.lf .nil) rfl .nil) (.ro .nil) rfl
  replace hr := bf_f hg9 hr
  have hn11 := not_f hg9
  refine gr rfl rfl rfl (eg rfl rfl) hg9 ?_
  refine sy (.t ⟨false, [.vp 0 5]⟩) (zfa tabOk rfl rfl rfl (e rfl rfl) rfl rfl) rfl rfl ?_
  refine gr rfl rfl rfl (eg rfl rfl) hg9 ?_
  refine sy (.t ⟨false, [.d (dS (a0.Apex))]⟩) (zlv tabOk rfl (e rfl rfl) rfl rfl rfl) rfl rfl ?_
  refine gr rfl rfl rfl (eg rfl rfl) hg9 ?_
  refine sd (.t ⟨false, [.d (dB (n_spec_NameOk a0.Apex))]⟩) (zcd (.t ⟨false, [.d (dB (n_spec_NameOk a0.Apex))]⟩) rfl (tr_n_spec_NameOk a0.Apex h0.Apex) (ar (e rfl rfl) (.d .nil) .nil) rfl) rfl rfl rfl rfl ?_
  refine gr rfl rfl rfl (eg rfl rfl) hg9 ?_
  refine sy (.t ⟨false, [.d (dB (!(n_spec_NameOk a0.Apex)))]⟩) (y_un rfl (e rfl rfl) (fun _ => u_not) rfl) rfl rfl ?_
  refine sy (.t ⟨false, [.d (dB (!(n_spec_NameOk a0.Apex)))]⟩) (zpf rfl (e rfl rfl) hg9 (e rfl rfl)) rfl rfl ?_
  refine sy _ (zmv rfl (e rfl rfl)) rfl rfl ?_
  rcases Bool.eq_false_or_eq_true (!(n_spec_NameOk a0.Apex)) with hg12 | hg12
  · replace hr := bf_t hg12 hr
    have hn13 := not_t hg12
    refine gs rfl rfl rfl (eg rfl rfl) hg12 rfl ?_
    refine gs rfl rfl rfl (eg rfl rfl) hg12 rfl ?_
    refine gs rfl rfl rfl (eg rfl rfl) hg12 rfl ?_
    refine gs rfl rfl rfl (eg rfl rfl) hg12 rfl ?_
    refine gs rfl rfl rfl (eg rfl rfl) hg12 rfl ?_
    refine gs rfl rfl rfl (eg rfl rfl) hg12 rfl ?_
    refine gs rfl rfl rfl (eg rfl rfl) hg12 rfl ?_
    refine sy (.t ⟨false, [.d (dB (true))]⟩) (zpt rfl (e rfl rfl) hg12 (ec rfl)) rfl rfl ?_
    refine sy _ (zmv rfl (e rfl rfl)) rfl rfl ?_
    refine gs rfl rfl rfl (eg rfl rfl) rfl rfl ?_
    refine gs rfl rfl rfl (eg rfl rfl) rfl rfl ?_
    refine gs rfl rfl rfl (eg rfl rfl) rfl rfl ?_
    refine sy (.t ⟨false, [.d (dB (true))]⟩) (zpt rfl (e rfl rfl) rfl (ec rfl)) rfl rfl ?_
    refine sy _ (zmv rfl (e rfl rfl)) rfl rfl ?_
    refine gs rfl rfl rfl (eg rfl rfl) rfl rfl ?_
    refine gs rfl rfl rfl (eg rfl rfl) rfl rfl ?_
    refine gs rfl rfl rfl (eg rfl rfl) rfl rfl ?_
    refine sy (.t ⟨false, [.d (dB (true))]⟩) (zpt rfl (e rfl rfl) rfl (ec rfl)) rfl rfl ?_
    refine sy _ (zmv rfl (e rfl rfl)) rfl rfl ?_
    refine gs rfl rfl rfl (eg rfl rfl) rfl rfl ?_
    refine gs rfl rfl rfl (eg rfl rfl) rfl rfl ?_
    refine gs rfl rfl rfl (eg rfl rfl) rfl rfl ?_
    refine gs rfl rfl rfl (eg rfl rfl) rfl rfl ?_
    refine sy (.t ⟨false, [.d (dB (true))]⟩) (zpt rfl (e rfl rfl) rfl (ec rfl)) rfl rfl ?_
    refine sy _ (zmv rfl (e rfl rfl)) rfl rfl ?_
    refine gs rfl rfl rfl (eg rfl rfl) rfl rfl ?_
    refine gs rfl rfl rfl (eg rfl rfl) rfl rfl ?_
    refine gs rfl rfl rfl (eg rfl rfl) rfl rfl ?_
    refine gs rfl rfl rfl (eg rfl rfl) rfl rfl ?_
    refine sy (.t ⟨false, [.d (dB (true))]⟩) (zpt rfl (e rfl rfl) rfl (ec rfl)) rfl rfl ?_
    refine s_end ?_
    refine v_cT (e rfl rfl) rfl ?_
    refine v_seq ?_
    refine v_reg ?_
    refine sy _ (zas rfl (ec rfl)) rfl rfl ?_
    refine s_end ?_
    refine v_ret ?_
    subst hr
    exact post_ret (rv (.tmp (eg rfl rfl)) rfl (.lf .nil) rfl .nil) (.ro .nil) rfl
  replace hr := bf_f hg12 hr
  have hn14 := not_f hg12
  refine gr rfl rfl rfl (eg rfl rfl) hg12 ?_
  refine sy (.t ⟨false, [.vp 0 2]⟩) (zfa tabOk rfl rfl rfl (e rfl rfl) rfl rfl) rfl rfl ?_
  refine gr rfl rfl rfl (eg rfl rfl) hg12 ?_
  refine sy (.t ⟨false, [.vp 0 2]⟩) (zfa tabOk rfl rfl rfl (e rfl rfl) rfl rfl) rfl rfl ?_
  refine gr rfl rfl rfl (eg rfl rfl) hg12 ?_
  refine sy (.t ⟨false, [.d (dS (a0.Q.Name))]⟩) (zlv tabOk rfl (e rfl rfl) rfl rfl rfl) rfl rfl ?_
  refine gr rfl rfl rfl (eg rfl rfl) hg12 ?_
  refine sy (.t ⟨false, [.vp 0 5]⟩) (zfa tabOk rfl rfl rfl (e rfl rfl) rfl rfl) rfl rfl ?_
  refine gr rfl rfl rfl (eg rfl rfl) hg12 ?_
  refine sy (.t ⟨false, [.d (dS (a0.Apex))]⟩) (zlv tabOk rfl (e rfl rfl) rfl rfl rfl) rfl rfl ?_
  refine gr rfl rfl rfl (eg rfl rfl) hg12 ?_
  refine sd (.t ⟨false, [.d (dB (n_spec_Under a0.Q.Name a0.Apex))]⟩) (zcd (.t ⟨false, [.d (dB (n_spec_Under a0.Q.Name a0.Apex))]⟩) rfl (tr_n_spec_Under a0.Q.Name a0.Apex h0.Q.Name h0.Apex) (ar (e rfl rfl) (.d .nil) (ar (e rfl rfl) (.d .nil) .nil)) rfl) rfl rfl rfl rfl ?_
  refine gr rfl rfl rfl (eg rfl rfl) hg12 ?_
  refine sy (.t ⟨false, [.d (dB (!(n_spec_Under a0.Q.Name a0.Apex)))]⟩) (y_un rfl (e rfl rfl) (fun _ => u_not) rfl) rfl rfl ?_
  refine sy (.t ⟨false, [.d (dB (!(n_spec_Under a0.Q.Name a0.Apex)))]⟩) (zpf rfl (e rfl rfl) hg12 (e rfl rfl)) rfl rfl ?_
  refine sy _ (zmv rfl (e rfl rfl)) rfl rfl ?_
  rcases Bool.eq_false_or_eq_true (!(n_spec_Under a0.Q.Name a0.Apex)) with hg15 | hg15
  · replace hr := bf_t hg15 hr
    have hn16 := not_t hg15
    refine gs rfl rfl rfl (eg rfl rfl) hg15 rfl ?_
    refine gs rfl rfl rfl (eg rfl rfl) hg15 rfl ?_
    refine gs rfl rfl rfl (eg rfl rfl) hg15 rfl ?_
    refine sy (.t ⟨false, [.d (dB (true))]⟩) (zpt rfl (e rfl rfl) hg15 (ec rfl)) rfl rfl ?_
    refine sy _ (zmv rfl (e rfl rfl)) rfl rfl ?_
    refine gs rfl rfl rfl (eg rfl rfl) rfl rfl ?_
    refine gs rfl rfl rfl (eg rfl rfl) rfl rfl ?_
    refine gs rfl rfl rfl (eg rfl rfl) rfl rfl ?_
    refine sy (.t ⟨false, [.d (dB (true))]⟩) (zpt rfl (e rfl rfl) rfl (ec rfl)) rfl rfl ?_
    refine sy _ (zmv rfl (e rfl rfl)) rfl rfl ?_
    refine gs rfl rfl rfl (eg rfl rfl) rfl rfl ?_
    refine gs rfl rfl rfl (eg rfl rfl) rfl rfl ?_
    refine gs rfl rfl rfl (eg rfl rfl) rfl rfl ?_
    refine gs rfl rfl rfl (eg rfl rfl) rfl rfl ?_
    refine sy (.t ⟨false, [.d (dB (true))]⟩) (zpt rfl (e rfl rfl) rfl (ec rfl)) rfl rfl ?_
    refine sy _ (zmv rfl (e rfl rfl)) rfl rfl ?_
    refine gs rfl rfl rfl (eg rfl rfl) rfl rfl ?_
    refine gs rfl rfl rfl (eg rfl rfl) rfl rfl ?_
    refine gs rfl rfl rfl (eg rfl rfl) rfl rfl ?_
    refine gs rfl rfl rfl (eg rfl rfl) rfl rfl ?_
    refine sy (.t ⟨false, [.d (dB (true))]⟩) (zpt rfl (e rfl rfl) rfl (ec rfl)) rfl rfl ?_
    refine s_end ?_
    refine v_cT (e rfl rfl) rfl ?_
    refine v_seq ?_
    refine v_reg ?_
    refine sy _ (zas rfl (ec rfl)) rfl rfl ?_
    refine s_end ?_
    refine v_ret ?_
    subst hr
    exact post_ret (rv (.tmp (eg rfl rfl)) rfl (.lf .nil) rfl .nil) (.ro .nil) rfl
  replace hr := bf_f hg15 hr
  have hn17 := not_f hg15
  refine gr rfl rfl rfl (eg rfl rfl) hg15 ?_
  refine sy (.t ⟨false, [.vp 0 8]⟩) (zfa tabOk rfl rfl rfl (e rfl rfl) rfl rfl) rfl rfl ?_
  refine gr rfl rfl rfl (eg rfl rfl) hg15 ?_
  refine sy (.t ⟨false, [.d (dI (a0.Down))]⟩) (zlv tabOk rfl (e rfl rfl) rfl rfl rfl) rfl rfl ?_
  refine gr rfl rfl rfl (eg rfl rfl) hg15 ?_
  refine sy (.t ⟨false, [.d (dB (decide ((a0.Down) < (0))))]⟩) (y_bin rfl (e rfl rfl) (ec rfl) (fun _ => b_lss) rfl) rfl rfl ?_
  refine sy (.t ⟨false, [.d (dB (decide ((a0.Down) < (0))))]⟩) (zpf rfl (e rfl rfl) hg15 (e rfl rfl)) rfl rfl ?_
  refine sy _ (zmv rfl (e rfl rfl)) rfl rfl ?_
  rcases Bool.eq_false_or_eq_true (decide ((a0.Down) < (0))) with hg18 | hg18
  · replace hr := bf_t hg18 hr
    have hg18p := dec_t hg18
    refine gs rfl rfl rfl (eg rfl rfl) hg18 rfl ?_
    refine gs rfl rfl rfl (eg rfl rfl) hg18 rfl ?_
    refine gs rfl rfl rfl (eg rfl rfl) hg18 rfl ?_
    refine sy (.t ⟨false, [.d (dB (true))]⟩) (zpt rfl (e rfl rfl) hg18 (ec rfl)) rfl rfl ?_
    refine sy _ (zmv rfl (e rfl rfl)) rfl rfl ?_
    refine gs rfl rfl rfl (eg rfl rfl) rfl rfl ?_
    refine gs rfl rfl rfl (eg rfl rfl) rfl rfl ?_
    refine gs rfl rfl rfl (eg rfl rfl) rfl rfl ?_
    refine gs rfl rfl rfl (eg rfl rfl) rfl rfl ?_
    refine sy (.t ⟨false, [.d (dB (true))]⟩) (zpt rfl (e rfl rfl) rfl (ec rfl)) rfl rfl ?_
    refine sy _ (zmv rfl (e rfl rfl)) rfl rfl ?_
    refine gs rfl rfl rfl (eg rfl rfl) rfl rfl ?_
    refine gs rfl rfl rfl (eg rfl rfl) rfl rfl ?_
    refine gs rfl rfl rfl (eg rfl rfl) rfl rfl ?_
    refine gs rfl rfl rfl (eg rfl rfl) rfl rfl ?_
    refine sy (.t ⟨false, [.d (dB (true))]⟩) (zpt rfl (e rfl rfl) rfl (ec rfl)) rfl rfl ?_
    refine s_end ?_
    refine v_cT (e rfl rfl) rfl ?_
    refine v_seq ?_
    refine v_reg ?_
    refine sy _ (zas rfl (ec rfl)) rfl rfl ?_
    refine s_end ?_
    refine v_ret ?_
    subst hr
    exact post_ret (rv (.tmp (eg rfl rfl)) rfl (.lf .nil) rfl .nil) (.ro .nil) rfl
  replace hr := bf_f hg18 hr
  have hg18p := dec_f hg18
  refine gr rfl rfl rfl (eg rfl rfl) hg18 ?_
  refine sy (.t ⟨false, [.vp 0 9]⟩) (zfa tabOk rfl rfl rfl (e rfl rfl) rfl rfl) rfl rfl ?_
  refine gr rfl rfl rfl (eg rfl rfl) hg18 ?_
  refine sy (.t ⟨false, [.d (dI (a0.Left))]⟩) (zlv tabOk rfl (e rfl rfl) rfl rfl rfl) rfl rfl ?_
  refine gr rfl rfl rfl (eg rfl rfl) hg18 ?_
  refine sy (.t ⟨false, [.d (dB (decide ((a0.Left) < (0))))]⟩) (y_bin rfl (e rfl rfl) (ec rfl) (fun _ => b_lss) rfl) rfl rfl ?_
  refine sy (.t ⟨false, [.d (dB (decide ((a0.Left) < (0))))]⟩) (zpf rfl (e rfl rfl) hg18 (e rfl rfl)) rfl rfl ?_
  refine sy _ (zmv rfl (e rfl rfl)) rfl rfl ?_
  rcases Bool.eq_false_or_eq_true (decide ((a0.Left) < (0))) with hg19 | hg19
  · replace hr := bf_t hg19 hr
    have hg19p := dec_t hg19
    refine gs rfl rfl rfl (eg rfl rfl) hg19 rfl ?_
    refine gs rfl rfl rfl (eg rfl rfl) hg19 rfl ?_
    refine gs rfl rfl rfl (eg rfl rfl) hg19 rfl ?_
    refine gs rfl rfl rfl (eg rfl rfl) hg19 rfl ?_
    refine sy (.t ⟨false, [.d (dB (true))]⟩) (zpt rfl (e rfl rfl) hg19 (ec rfl)) rfl rfl ?_
    refine sy _ (zmv rfl (e rfl rfl)) rfl rfl ?_
    refine gs rfl rfl rfl (eg rfl rfl) rfl rfl ?_
    refine gs rfl rfl rfl (eg rfl rfl) rfl rfl ?_
    refine gs rfl rfl rfl (eg rfl rfl) rfl rfl ?_
    refine gs rfl rfl rfl (eg rfl rfl) rfl rfl ?_
    refine sy (.t ⟨false, [.d (dB (true))]⟩) (zpt rfl (e rfl rfl) rfl (ec rfl)) rfl rfl ?_
    refine s_end ?_
    refine v_cT (e rfl rfl) rfl ?_
    refine v_seq ?_
    refine v_reg ?_
    refine sy _ (zas rfl (ec rfl)) rfl rfl ?_
    refine s_end ?_
    refine v_ret ?_
    subst hr
    exact post_ret (rv (.tmp (eg rfl rfl)) rfl (.lf .nil) rfl .nil) (.ro .nil) rfl
  replace hr := bf_f hg19 hr
  have hg19p := dec_f hg19
  refine gr rfl rfl rfl (eg rfl rfl) hg19 ?_
  refine sy (.t ⟨false, [.vp 0 10]⟩) (zfa tabOk rfl rfl rfl (e rfl rfl) rfl rfl) rfl rfl ?_
  refine gr rfl rfl rfl (eg rfl rfl) hg19 ?_
  refine sy (.t ⟨false, [.d (dI (a0.Pc))]⟩) (zlv tabOk rfl (e rfl rfl) rfl rfl rfl) rfl rfl ?_
  refine gr rfl rfl rfl (eg rfl rfl) hg19 ?_
  refine sd (.t ⟨false, [.d (dB (n_spec_l1In a0.Pc 1 5))]⟩) (zcd (.t ⟨false, [.d (dB (n_spec_l1In a0.Pc 1 5))]⟩) rfl (tr_n_spec_l1In a0.Pc 1 5) (ar (e rfl rfl) (.d .nil) (ar (ec rfl) (.d .nil) (ar (ec rfl) (.d .nil) .nil))) rfl) rfl rfl rfl rfl ?_
  refine gr rfl rfl rfl (eg rfl rfl) hg19 ?_
  refine sy (.t ⟨false, [.d (dB (!(n_spec_l1In a0.Pc 1 5)))]⟩) (y_un rfl (e rfl rfl) (fun _ => u_not) rfl) rfl rfl ?_
  refine sy (.t ⟨false, [.d (dB (!(n_spec_l1In a0.Pc 1 5)))]⟩) (zpf rfl (e rfl rfl) hg19 (e rfl rfl)) rfl rfl ?_
  refine sy _ (zmv rfl (e rfl rfl)) rfl rfl ?_
  rcases Bool.eq_false_or_eq_true (!(n_spec_l1In a0.Pc 1 5)) with hg20 | hg20
  · replace hr := bf_t hg20 hr
    have hn21 := not_t hg20
    refine gs rfl rfl rfl (eg rfl rfl) hg20 rfl ?_
    refine gs rfl rfl rfl (eg rfl rfl) hg20 rfl ?_
    refine gs rfl rfl rfl (eg rfl rfl) hg20 rfl ?_
    refine gs rfl rfl rfl (eg rfl rfl) hg20 rfl ?_
    refine sy (.t ⟨false, [.d (dB (true))]⟩) (zpt rfl (e rfl rfl) hg20 (ec rfl)) rfl rfl ?_
    refine s_end ?_
    refine v_cT (e rfl rfl) rfl ?_
    refine v_seq ?_
    refine v_reg ?_
    refine sy _ (zas rfl (ec rfl)) rfl rfl ?_
    refine s_end ?_
    refine v_ret ?_
    subst hr
    exact post_ret (rv (.tmp (eg rfl rfl)) rfl (.lf .nil) rfl .nil) (.ro .nil) rfl
  replace hr := bf_f hg20 hr
  have hn22 := not_f hg20
  refine gr rfl rfl rfl (eg rfl rfl) hg20 ?_
  refine sy (.t ⟨false, [.vp 0 11]⟩) (zfa tabOk rfl rfl rfl (e rfl rfl) rfl rfl) rfl rfl ?_
  refine gr rfl rfl rfl (eg rfl rfl) hg20 ?_
  refine sy (.t ⟨true, [.d (dI (a0.X.Id)), .d (dI (a0.X.Addr)), .d (dI (a0.X.Try)), .d (dI (a0.X.Due))]⟩) (zlv tabOk rfl (e rfl rfl) rfl rfl rfl) rfl rfl ?_
  refine gr rfl rfl rfl (eg rfl rfl) hg20 ?_
  refine sd (.t ⟨false, [.d (dB (n_spec_ExchOk a0.X))]⟩) (zcd (.t ⟨false, [.d (dB (n_spec_ExchOk a0.X))]⟩) rfl (tr_n_spec_ExchOk a0.X h0.X) (ar (e rfl rfl) (.d (.d (.d (.d .nil)))) .nil) rfl) rfl rfl rfl rfl ?_
  refine gr rfl rfl rfl (eg rfl rfl) hg20 ?_
  refine sy (.t ⟨false, [.d (dB (!(n_spec_ExchOk a0.X)))]⟩) (y_un rfl (e rfl rfl) (fun _ => u_not) rfl) rfl rfl ?_
  refine sy (.t ⟨false, [.d (dB (!(n_spec_ExchOk a0.X)))]⟩) (zpf rfl (e rfl rfl) hg20 (e rfl rfl)) rfl rfl ?_
  refine s_end ?_
  refine v_cond (e rfl rfl) (fun hb23 => ?_) fun hb23 => ?_
  · replace hr := bf_t hb23 hr
    have hn24 := not_t hb23
    refine v_seq ?_
    refine v_reg ?_
    refine sy _ (zas rfl (ec rfl)) rfl rfl ?_
    refine s_end ?_
    refine v_ret ?_
    subst hr
    exact post_ret (rv (.tmp (eg rfl rfl)) rfl (.lf .nil) rfl .nil) (.ro .nil) rfl
  replace hr := bf_f hb23 hr
  have hn25 := not_f hb23
  refine v_skip ?_
  refine v_seq ?_
  refine v_seq ?_
  refine v_reg ?_
  refine sy _ (zas rfl (ec rfl)) rfl rfl ?_
  refine s_end ?_
  refine v_block ?_
  refine v_lp (fun (q : Nat × Nat) => [(1, .t ⟨false, [.vp 0 0]⟩), (3, .t ⟨false, [.d (dI (q.2 : Int))]⟩)]) (fun q => [(0, .var [.d (dS (a0.Ask.Name)), .d (dI (a0.Ask.Typ)), .d (dS (a0.Q.Name)), .d (dI (a0.Q.Typ)), .d (.sl 6 (a0.Links.map Record.cells)), .d (dS (a0.Apex)), .d (.sl 1 (a0.Servers.map encI)), .d (.sl 1 (a0.Need.map encS)), .d (dI (a0.Down)), .d (dI (a0.Left)), .d (dI (a0.Pc)), .d (dI (a0.X.Id)), .d (dI (a0.X.Addr)), .d (dI (a0.X.Try)), .d (dI (a0.X.Due))])]) (fun q => n_spec_FrameOkL1 a0 q.1 q.2 = r ∧ (q.2 ≤ (a0.Servers).length) ∧ (q.2 + q.1 = (a0.Servers).length + 1)) (fun q => q.1) ((a0.Servers).length + 1, (0 : Nat)) ⟨hr, by (try dsimp only); (try simp only [List.length_nil, List.length_cons, List.length_replicate]); first | done | omega | exact Nat.zero_le _, by (try dsimp only); (try simp only [List.length_nil, List.length_cons, List.length_replicate]); first | done | omega | exact Nat.zero_le _⟩ ⟨rfl, rfl, trivial⟩ ⟨rfl, trivial⟩ rfl (fun q hq => ?_)
  obtain ⟨n, i⟩ := q
  obtain ⟨hr, hi1x0, hi1x1⟩ := hq
  dsimp only at hr hi1x0 hi1x1
  show VWp _ _ _ (mk [(1, .t ⟨false, [.vp 0 0]⟩), (3, .t ⟨false, [.d (dI (i : Int))]⟩)] _ [(0, .var [.d (dS (a0.Ask.Name)), .d (dI (a0.Ask.Typ)), .d (dS (a0.Q.Name)), .d (dI (a0.Q.Typ)), .d (.sl 6 (a0.Links.map Record.cells)), .d (dS (a0.Apex)), .d (.sl 1 (a0.Servers.map encI)), .d (.sl 1 (a0.Need.map encS)), .d (dI (a0.Down)), .d (dI (a0.Left)), .d (dI (a0.Pc)), .d (dI (a0.X.Id)), .d (dI (a0.X.Addr)), .d (dI (a0.X.Try)), .d (dI (a0.X.Due))])])
  rcases n with _ | n
  · exfalso; omega
  rw [n_spec_FrameOkL1] at hr
  refine v_seq ?_
  refine v_seq ?_
  refine v_reg ?_
  refine sy _ (zmv rfl (e rfl rfl)) rfl rfl ?_
  refine sy (.t ⟨false, [.vp 0 6]⟩) (zfa tabOk rfl rfl rfl (e rfl rfl) rfl rfl) rfl rfl ?_
  refine sy (.t ⟨false, [.d (.sl 1 (a0.Servers.map encI))]⟩) (zlv tabOk rfl (e rfl rfl) rfl rfl rfl) rfl rfl ?_
  have hB2 := (h0.Servers).1
  refine sy (.t ⟨false, [.d (dI ((a0.Servers).length : Int))]⟩) (zlm tabOk rfl rfl (e rfl rfl) .d) rfl rfl ?_
  refine sy (.t ⟨false, [.d (dB (decide (((i : Int)) < (((a0.Servers).length : Int)))))]⟩) (y_bin rfl (e rfl rfl) (e rfl rfl) (fun _ => b_lss) rfl) rfl rfl ?_
  refine s_end ?_
  refine v_cond (e rfl rfl) (fun hb26 => ?_) fun hb26 => ?_
  · replace hr := bf_t hb26 hr
    have hb26p := dec_t hb26
    refine v_skip ?_
    refine v_seq ?_
    refine v_block ?_
    refine v_seq ?_
    refine v_reg ?_
    refine sy (.t ⟨false, [.vp 0 6]⟩) (zfa tabOk rfl rfl rfl (e rfl rfl) rfl rfl) rfl rfl ?_
    refine sy (.t ⟨false, [.d (.sl 1 (a0.Servers.map encI))]⟩) (zlv tabOk rfl (e rfl rfl) rfl rfl rfl) rfl rfl ?_
    refine sy _ (zmv rfl (e rfl rfl)) rfl rfl ?_
    obtain ⟨x1, hx1⟩ : ∃ x, (a0.Servers)[i]? = some x := some_of_lt (by omega)
    replace hr := at_step hx1 hr
    refine sy (.t ⟨false, [.fe 1 (a0.Servers.map encI) i 0]⟩) (zix tabOk rfl rfl rfl (e rfl rfl) (e rfl rfl) (ltm_of_some hx1)) rfl rfl ?_
    refine sy (.t ⟨false, [.d (dI (x1))]⟩) (zle tabOk rfl (e rfl rfl) (getm hx1) rfl rfl) rfl rfl ?_
    refine sd (.t ⟨false, [.d (dB (n_spec_l1In x1 0 2147483647))]⟩) (zcd (.t ⟨false, [.d (dB (n_spec_l1In x1 0 2147483647))]⟩) rfl (tr_n_spec_l1In x1 0 2147483647) (ar (e rfl rfl) (.d .nil) (ar (ec rfl) (.d .nil) (ar (ec rfl) (.d .nil) .nil))) rfl) rfl rfl rfl rfl ?_
    refine sy (.t ⟨false, [.d (dB (!(n_spec_l1In x1 0 2147483647)))]⟩) (y_un rfl (e rfl rfl) (fun _ => u_not) rfl) rfl rfl ?_
    refine s_end ?_
    refine v_cond (e rfl rfl) (fun hb27 => ?_) fun hb27 => ?_
    · replace hr := bf_t hb27 hr
      have hn28 := not_t hb27
      refine v_seq ?_
      refine v_reg ?_
      refine sy _ (zas rfl (ec rfl)) rfl rfl ?_
      refine s_end ?_
      refine v_ret ?_
      subst hr
      exact post_ret (rv (.tmp (eg rfl rfl)) rfl (.lf .nil) rfl .nil) (.ro .nil) rfl
    replace hr := bf_f hb27 hr
    have hn29 := not_f hb27
    refine v_skip ?_
    refine blk_norm ?_
    refine v_reg ?_
    refine sy _ (zmv rfl (e rfl rfl)) rfl rfl ?_
    refine sy (.t ⟨false, [.d (dI (i + 1 : Int))]⟩) (y_bin rfl (e rfl rfl) (ec rfl) (fun _ => b_addn (by omega) (by omega)) rfl) rfl rfl ?_
    refine sy _ (zas rfl (e rfl rfl)) rfl rfl ?_
    refine s_end ?_
    exact lp_next (n, i + 1) ⟨hr, by (try simp only [List.length_append, List.length_cons, List.length_nil, List.length_set]); first | done | omega, by (try simp only [List.length_append, List.length_cons, List.length_nil, List.length_set]); first | done | omega⟩ (Nat.lt_succ_self _) ⟨rfl, rfl, trivial⟩ ⟨rfl, trivial⟩ rfl
  replace hr := bf_f hb26 hr
  have hb26p := dec_f hb26
  refine v_exit ?_
  refine then_exit ?_
  refine loop_exit ?_
  refine blk_hit ?_
  refine v_seq ?_
  refine v_seq ?_
  refine v_reg ?_
  refine sy _ (zas rfl (ec rfl)) rfl rfl ?_
  refine s_end ?_
  refine v_block ?_
  refine v_lp (fun (q : Nat × Nat) => [(1, .t ⟨false, [.vp 0 0]⟩), (4, .t ⟨false, [.d (dI (q.2 : Int))]⟩)]) (fun q => [(0, .var [.d (dS (a0.Ask.Name)), .d (dI (a0.Ask.Typ)), .d (dS (a0.Q.Name)), .d (dI (a0.Q.Typ)), .d (.sl 6 (a0.Links.map Record.cells)), .d (dS (a0.Apex)), .d (.sl 1 (a0.Servers.map encI)), .d (.sl 1 (a0.Need.map encS)), .d (dI (a0.Down)), .d (dI (a0.Left)), .d (dI (a0.Pc)), .d (dI (a0.X.Id)), .d (dI (a0.X.Addr)), .d (dI (a0.X.Try)), .d (dI (a0.X.Due))])]) (fun q => n_spec_FrameOkL2 a0 q.1 q.2 = r ∧ (q.2 ≤ (a0.Need).length) ∧ (q.2 + q.1 = (a0.Need).length + 1)) (fun q => q.1) ((a0.Need).length + 1, (0 : Nat)) ⟨hr, by (try dsimp only); (try simp only [List.length_nil, List.length_cons, List.length_replicate]); first | done | omega | exact Nat.zero_le _, by (try dsimp only); (try simp only [List.length_nil, List.length_cons, List.length_replicate]); first | done | omega | exact Nat.zero_le _⟩ ⟨rfl, rfl, trivial⟩ ⟨rfl, trivial⟩ rfl (fun q hq => ?_)
  obtain ⟨n2, i⟩ := q
  obtain ⟨hr, hi2x0, hi2x1⟩ := hq
  dsimp only at hr hi2x0 hi2x1
  show VWp _ _ _ (mk [(1, .t ⟨false, [.vp 0 0]⟩), (4, .t ⟨false, [.d (dI (i : Int))]⟩)] _ [(0, .var [.d (dS (a0.Ask.Name)), .d (dI (a0.Ask.Typ)), .d (dS (a0.Q.Name)), .d (dI (a0.Q.Typ)), .d (.sl 6 (a0.Links.map Record.cells)), .d (dS (a0.Apex)), .d (.sl 1 (a0.Servers.map encI)), .d (.sl 1 (a0.Need.map encS)), .d (dI (a0.Down)), .d (dI (a0.Left)), .d (dI (a0.Pc)), .d (dI (a0.X.Id)), .d (dI (a0.X.Addr)), .d (dI (a0.X.Try)), .d (dI (a0.X.Due))])])
  rcases n2 with _ | n2
  · exfalso; omega
  rw [n_spec_FrameOkL2] at hr
  refine v_seq ?_
  refine v_seq ?_
  refine v_reg ?_
  refine sy _ (zmv rfl (e rfl rfl)) rfl rfl ?_
  refine sy (.t ⟨false, [.vp 0 7]⟩) (zfa tabOk rfl rfl rfl (e rfl rfl) rfl rfl) rfl rfl ?_
  refine sy (.t ⟨false, [.d (.sl 1 (a0.Need.map encS))]⟩) (zlv tabOk rfl (e rfl rfl) rfl rfl rfl) rfl rfl ?_
  have hB3 := (h0.Need).1
  refine sy (.t ⟨false, [.d (dI ((a0.Need).length : Int))]⟩) (zlm tabOk rfl rfl (e rfl rfl) .d) rfl rfl ?_
  refine sy (.t ⟨false, [.d (dB (decide (((i : Int)) < (((a0.Need).length : Int)))))]⟩) (y_bin rfl (e rfl rfl) (e rfl rfl) (fun _ => b_lss) rfl) rfl rfl ?_
  refine s_end ?_
  refine v_cond (e rfl rfl) (fun hb30 => ?_) fun hb30 => ?_
  · replace hr := bf_t hb30 hr
    have hb30p := dec_t hb30
    refine v_skip ?_
    refine v_seq ?_
    refine v_block ?_
    refine v_seq ?_
    refine v_reg ?_
    refine sy (.t ⟨false, [.vp 0 7]⟩) (zfa tabOk rfl rfl rfl (e rfl rfl) rfl rfl) rfl rfl ?_
    refine sy (.t ⟨false, [.d (.sl 1 (a0.Need.map encS))]⟩) (zlv tabOk rfl (e rfl rfl) rfl rfl rfl) rfl rfl ?_
    refine sy _ (zmv rfl (e rfl rfl)) rfl rfl ?_
    obtain ⟨x2, hx2⟩ : ∃ x, (a0.Need)[i]? = some x := some_of_lt (by omega)
    replace hr := at_step hx2 hr
    have hfx2 := h0.Need.2 _ (List.mem_of_getElem? hx2)
    refine sy (.t ⟨false, [.fe 1 (a0.Need.map encS) i 0]⟩) (zix tabOk rfl rfl rfl (e rfl rfl) (e rfl rfl) (ltm_of_some hx2)) rfl rfl ?_
    refine sy (.t ⟨false, [.d (dS (x2))]⟩) (zle tabOk rfl (e rfl rfl) (getm hx2) rfl rfl) rfl rfl ?_
    refine sd (.t ⟨false, [.d (dB (n_spec_NameOk x2))]⟩) (zcd (.t ⟨false, [.d (dB (n_spec_NameOk x2))]⟩) rfl (tr_n_spec_NameOk x2 hfx2) (ar (e rfl rfl) (.d .nil) .nil) rfl) rfl rfl rfl rfl ?_
    refine sy (.t ⟨false, [.d (dB (!(n_spec_NameOk x2)))]⟩) (y_un rfl (e rfl rfl) (fun _ => u_not) rfl) rfl rfl ?_
    refine s_end ?_
    refine v_cond (e rfl rfl) (fun hb31 => ?_) fun hb31 => ?_
    · replace hr := bf_t hb31 hr
      have hn32 := not_t hb31
      refine v_seq ?_
      refine v_reg ?_
      refine sy _ (zas rfl (ec rfl)) rfl rfl ?_
      refine s_end ?_
      refine v_ret ?_
      subst hr
      exact post_ret (rv (.tmp (eg rfl rfl)) rfl (.lf .nil) rfl .nil) (.ro .nil) rfl
    replace hr := bf_f hb31 hr
    have hn33 := not_f hb31
    refine v_skip ?_
    refine blk_norm ?_
    refine v_reg ?_
    refine sy _ (zmv rfl (e rfl rfl)) rfl rfl ?_
    refine sy (.t ⟨false, [.d (dI (i + 1 : Int))]⟩) (y_bin rfl (e rfl rfl) (ec rfl) (fun _ => b_addn (by omega) (by omega)) rfl) rfl rfl ?_
    refine sy _ (zas rfl (e rfl rfl)) rfl rfl ?_
    refine s_end ?_
    exact lp_next (n2, i + 1) ⟨hr, by (try simp only [List.length_append, List.length_cons, List.length_nil, List.length_set]); first | done | omega, by (try simp only [List.length_append, List.length_cons, List.length_nil, List.length_set]); first | done | omega⟩ (Nat.lt_succ_self _) ⟨rfl, rfl, trivial⟩ ⟨rfl, trivial⟩ rfl
  replace hr := bf_f hb30 hr
  have hb30p := dec_f hb30
  refine v_exit ?_
  refine then_exit ?_
  refine loop_exit ?_
  refine blk_hit ?_
  refine v_seq ?_
  refine v_seq ?_
  refine v_reg ?_
  refine sy (.t ⟨false, [.vp 0 10]⟩) (zfa tabOk rfl rfl rfl (e rfl rfl) rfl rfl) rfl rfl ?_
  refine sy (.t ⟨false, [.d (dI (a0.Pc))]⟩) (zlv tabOk rfl (e rfl rfl) rfl rfl rfl) rfl rfl ?_
  refine sy (.t ⟨false, [.d (dB (decide ((a0.Pc) ≠ (3))))]⟩) (y_bin rfl (e rfl rfl) (ec rfl) (fun _ => b_neq) rfl) rfl rfl ?_
  refine s_end ?_
  refine v_cond (e rfl rfl) (fun hb34 => ?_) fun hb34 => ?_
  · replace hr := bf_t hb34 hr
    have hb34p := dec_t hb34
    refine v_seq ?_
    refine v_reg ?_
    refine sy (.t ⟨false, [.vp 0 11]⟩) (zfa tabOk rfl rfl rfl (e rfl rfl) rfl rfl) rfl rfl ?_
    refine sy (.t ⟨false, [.vp 0 13]⟩) (zfa tabOk rfl rfl rfl (e rfl rfl) rfl rfl) rfl rfl ?_
    refine sy (.t ⟨false, [.d (dI (a0.X.Try))]⟩) (zlv tabOk rfl (e rfl rfl) rfl rfl rfl) rfl rfl ?_
    refine sy (.t ⟨false, [.d (dB (decide ((a0.X.Try) = (0))))]⟩) (y_bin rfl (e rfl rfl) (ec rfl) (fun _ => b_eql) rfl) rfl rfl ?_
    refine sy _ (zas rfl (e rfl rfl)) rfl rfl ?_
    refine s_end ?_
    refine v_ret ?_
    subst hr
    exact post_ret (rv (.tmp (eg rfl rfl)) rfl (.lf .nil) rfl .nil) (.ro .nil) rfl
  replace hr := bf_f hb34 hr
  have hb34p := dec_f hb34
  refine v_skip ?_
  refine v_seq ?_
  rcases Bool.eq_false_or_eq_true (decide ((0) < (a0.X.Try))) with hg35 | hg35
  · replace hr := bf_t hg35 hr
    have hg35p := dec_t hg35
    rcases Bool.eq_false_or_eq_true (decide ((0) < (((a0.Servers).length : Int)))) with hg36 | hg36
    · replace hr := bf_t hg36 hr
      have hg36p := dec_t hg36
      obtain ⟨x3, hx3⟩ : ∃ x, (a0.Servers)[0]? = some x := some_of_lt (by omega)
      replace hr := at_step hx3 hr
      refine v_drw2 [⟨.t ⟨false, [.vp 0 11]⟩, [], [1], [], false⟩, ⟨.t ⟨false, [.vp 0 13]⟩, [], [108], [], false⟩, ⟨.t ⟨false, [.d (dI (a0.X.Try))]⟩, [], [109], [0], false⟩, ⟨.t ⟨false, [.d (dB (decide ((0) < (a0.X.Try))))]⟩, [], [110], [], false⟩, ⟨.t ⟨false, [.d (dB (decide ((0) < (a0.X.Try))))]⟩, [], [111], [], false⟩, ⟨.t ⟨false, [.vp 0 6]⟩, [], [112, 1], [], false⟩, ⟨.t ⟨false, [.d (.sl 1 (a0.Servers.map encI))]⟩, [], [112, 113], [0], false⟩, ⟨.t ⟨false, [.d (dI ((a0.Servers).length : Int))]⟩, [], [112, 114], [], false⟩, ⟨.t ⟨false, [.d (dB (decide ((0) < (((a0.Servers).length : Int)))))]⟩, [], [112, 115], [], false⟩, ⟨.t ⟨false, [.d (dB (decide ((0) < (((a0.Servers).length : Int)))))]⟩, [], [112, 116], [], false⟩, ⟨.t ⟨false, [.d (dB (decide ((0) < (((a0.Servers).length : Int)))))]⟩, [], [117], [], false⟩, ⟨.t ⟨false, [.vp 0 6]⟩, [], [118, 1], [], false⟩, ⟨.t ⟨false, [.d (.sl 1 (a0.Servers.map encI))]⟩, [], [118, 119], [0], false⟩, ⟨.t ⟨false, [.fe 1 (a0.Servers.map encI) 0 0]⟩, [], [118, 120], [], false⟩, ⟨.t ⟨false, [.d (dI (x3))]⟩, [], [118, 121], [], false⟩, ⟨.t ⟨false, [.vp 0 11]⟩, [], [118, 1], [], false⟩, ⟨.t ⟨false, [.vp 0 12]⟩, [], [118, 123], [], false⟩, ⟨.t ⟨false, [.d (dI (a0.X.Addr))]⟩, [], [118, 124], [0], false⟩, ⟨.t ⟨false, [.d (dB (decide ((x3) = (a0.X.Addr))))]⟩, [], [118, 122, 125], [], false⟩, ⟨.t ⟨false, [.d (dB (decide ((x3) = (a0.X.Addr))))]⟩, [], [118, 126], [], false⟩, ⟨.t ⟨false, [.d (dB (decide ((x3) = (a0.X.Addr))))]⟩, [], [127], [], false⟩] mixed (.c rfl (.c rfl (.c rfl (.c rfl (.c rfl (.c rfl (.c rfl (.c rfl (.c rfl (.c rfl (.c rfl (.c rfl (.c rfl (.c rfl (.c rfl (.c rfl (.c rfl (.c rfl (.c rfl (.c rfl (.c rfl .nil))))))))))))))))))))) (.s rfl (.s rfl (.s rfl (.s rfl (.s rfl (.s rfl (.s rfl (.s rfl (.s rfl (.s rfl (.s rfl (.s rfl (.s rfl (.s rfl (.s rfl (.s rfl (.s rfl (.s rfl (.s rfl (.s rfl (.s rfl .nil))))))))))))))))))))) (by kernel_rfl) (by kernel_rfl) ⟨gN rfl rfl (fun t h A => by exact dy (zfa tabOk rfl rfl rfl (A.e rfl rfl rfl) rfl rfl)), gN rfl rfl (fun t h A => by exact dy (zfa tabOk rfl rfl rfl (A.e rfl rfl rfl) rfl rfl)), gN rfl rfl (fun t h A => by exact dy (zlv tabOk rfl (A.e rfl rfl rfl) (A.h rfl rfl) rfl rfl)), gN rfl rfl (fun t h A => by exact dy (y_bin rfl (A.e rfl rfl rfl) (ec rfl) (fun _ => b_gtr) rfl)), gN rfl rfl (fun t h A => by exact dy (zmv rfl (A.e rfl rfl rfl))), gY rfl rfl rfl rfl rfl (eg rfl rfl) hg35 (fun t h A => by exact dy (zfa tabOk rfl rfl rfl (A.e rfl rfl rfl) rfl rfl)), gY rfl rfl rfl rfl rfl (eg rfl rfl) hg35 (fun t h A => by exact dy (zlv tabOk rfl (A.e rfl rfl rfl) (A.h rfl rfl) rfl rfl)), gY rfl rfl rfl rfl rfl (eg rfl rfl) hg35 (fun t h A => by exact dy (zlm tabOk rfl rfl (A.e rfl rfl rfl) .d)), gY rfl rfl rfl rfl rfl (eg rfl rfl) hg35 (fun t h A => by exact dy (y_bin rfl (A.e rfl rfl rfl) (ec rfl) (fun _ => b_gtr) rfl)), gN rfl rfl (fun t h A => by exact dy (zpt rfl (A.e rfl rfl rfl) hg35 (A.e rfl rfl rfl))), gN rfl rfl (fun t h A => by exact dy (zmv rfl (A.e rfl rfl rfl))), gY rfl rfl rfl rfl rfl (eg rfl rfl) hg36 (fun t h A => by exact dy (zfa tabOk rfl rfl rfl (A.e rfl rfl rfl) rfl rfl)), gY rfl rfl rfl rfl rfl (eg rfl rfl) hg36 (fun t h A => by exact dy (zlv tabOk rfl (A.e rfl rfl rfl) (A.h rfl rfl) rfl rfl)), gY rfl rfl rfl rfl rfl (eg rfl rfl) hg36 (fun t h A => by exact dy (zix tabOk rfl rfl rfl (A.e rfl rfl rfl) (ec rfl) (ltm_of_some hx3))), gY rfl rfl rfl rfl rfl (eg rfl rfl) hg36 (fun t h A => by exact dy (zle tabOk rfl (A.e rfl rfl rfl) (getm hx3) rfl rfl)), gY rfl rfl rfl rfl rfl (eg rfl rfl) hg36 (fun t h A => by exact dy (zfa tabOk rfl rfl rfl (A.e rfl rfl rfl) rfl rfl)), gY rfl rfl rfl rfl rfl (eg rfl rfl) hg36 (fun t h A => by exact dy (zfa tabOk rfl rfl rfl (A.e rfl rfl rfl) rfl rfl)), gY rfl rfl rfl rfl rfl (eg rfl rfl) hg36 (fun t h A => by exact dy (zlv tabOk rfl (A.e rfl rfl rfl) (A.h rfl rfl) rfl rfl)), gY rfl rfl rfl rfl rfl (eg rfl rfl) hg36 (fun t h A => by exact dy (y_bin rfl (A.e rfl rfl rfl) (A.e rfl rfl rfl) (fun _ => b_eql) rfl)), gN rfl rfl (fun t h A => by exact dy (zpt rfl (A.e rfl rfl rfl) hg36 (A.e rfl rfl rfl))), gN rfl rfl (fun t h A => by exact dy (zas rfl (A.e rfl rfl rfl))), trivial⟩ ?_
      refine s_end ?_
      refine v_ret ?_
      subst hr
      exact post_ret (rv (.tmp (eg rfl rfl)) rfl (.lf .nil) rfl .nil) (.ro .nil) rfl
    replace hr := bf_f hg36 hr
    have hg36p := dec_f hg36
    refine v_drw2 [⟨.t ⟨false, [.vp 0 11]⟩, [], [1], [], false⟩, ⟨.t ⟨false, [.vp 0 13]⟩, [], [108], [], false⟩, ⟨.t ⟨false, [.d (dI (a0.X.Try))]⟩, [], [109], [0], false⟩, ⟨.t ⟨false, [.d (dB (decide ((0) < (a0.X.Try))))]⟩, [], [110], [], false⟩, ⟨.t ⟨false, [.d (dB (decide ((0) < (a0.X.Try))))]⟩, [], [111], [], false⟩, ⟨.t ⟨false, [.vp 0 6]⟩, [], [112, 1], [], false⟩, ⟨.t ⟨false, [.d (.sl 1 (a0.Servers.map encI))]⟩, [], [112, 113], [0], false⟩, ⟨.t ⟨false, [.d (dI ((a0.Servers).length : Int))]⟩, [], [112, 114], [], false⟩, ⟨.t ⟨false, [.d (dB (decide ((0) < (((a0.Servers).length : Int)))))]⟩, [], [112, 115], [], false⟩, ⟨.t ⟨false, [.d (dB (decide ((0) < (((a0.Servers).length : Int)))))]⟩, [], [112, 116], [], false⟩, ⟨.t ⟨false, [.d (dB (decide ((0) < (((a0.Servers).length : Int)))))]⟩, [], [117], [], false⟩, ⟨.tu [], [], [118], [], true⟩, ⟨.tu [], [], [118], [], true⟩, ⟨.tu [], [], [118], [], true⟩, ⟨.tu [], [], [118], [], true⟩, ⟨.tu [], [], [118], [], true⟩, ⟨.tu [], [], [118], [], true⟩, ⟨.tu [], [], [118], [], true⟩, ⟨.tu [], [], [118], [], true⟩, ⟨.t ⟨false, [.d (dB (false))]⟩, [], [118], [], false⟩, ⟨.t ⟨false, [.d (dB (false))]⟩, [], [127], [], false⟩] mixed (.c rfl (.c rfl (.c rfl (.c rfl (.c rfl (.c rfl (.c rfl (.c rfl (.c rfl (.c rfl (.c rfl (.c rfl (.c rfl (.c rfl (.c rfl (.c rfl (.c rfl (.c rfl (.c rfl (.c rfl (.c rfl .nil))))))))))))))))))))) (.s rfl (.s rfl (.s rfl (.s rfl (.s rfl (.s rfl (.s rfl (.s rfl (.s rfl (.s rfl (.s rfl (.s rfl (.s rfl (.s rfl (.s rfl (.s rfl (.s rfl (.s rfl (.s rfl (.s rfl (.s rfl .nil))))))))))))))))))))) (by kernel_rfl) (by kernel_rfl) ⟨gN rfl rfl (fun t h A => by exact dy (zfa tabOk rfl rfl rfl (A.e rfl rfl rfl) rfl rfl)), gN rfl rfl (fun t h A => by exact dy (zfa tabOk rfl rfl rfl (A.e rfl rfl rfl) rfl rfl)), gN rfl rfl (fun t h A => by exact dy (zlv tabOk rfl (A.e rfl rfl rfl) (A.h rfl rfl) rfl rfl)), gN rfl rfl (fun t h A => by exact dy (y_bin rfl (A.e rfl rfl rfl) (ec rfl) (fun _ => b_gtr) rfl)), gN rfl rfl (fun t h A => by exact dy (zmv rfl (A.e rfl rfl rfl))), gY rfl rfl rfl rfl rfl (eg rfl rfl) hg35 (fun t h A => by exact dy (zfa tabOk rfl rfl rfl (A.e rfl rfl rfl) rfl rfl)), gY rfl rfl rfl rfl rfl (eg rfl rfl) hg35 (fun t h A => by exact dy (zlv tabOk rfl (A.e rfl rfl rfl) (A.h rfl rfl) rfl rfl)), gY rfl rfl rfl rfl rfl (eg rfl rfl) hg35 (fun t h A => by exact dy (zlm tabOk rfl rfl (A.e rfl rfl rfl) .d)), gY rfl rfl rfl rfl rfl (eg rfl rfl) hg35 (fun t h A => by exact dy (y_bin rfl (A.e rfl rfl rfl) (ec rfl) (fun _ => b_gtr) rfl)), gN rfl rfl (fun t h A => by exact dy (zpt rfl (A.e rfl rfl rfl) hg35 (A.e rfl rfl rfl))), gN rfl rfl (fun t h A => by exact dy (zmv rfl (A.e rfl rfl rfl))), gZ rfl rfl rfl rfl rfl rfl rfl (eg rfl rfl) hg36, gZ rfl rfl rfl rfl rfl rfl rfl (eg rfl rfl) hg36, gZ rfl rfl rfl rfl rfl rfl rfl (eg rfl rfl) hg36, gZ rfl rfl rfl rfl rfl rfl rfl (eg rfl rfl) hg36, gZ rfl rfl rfl rfl rfl rfl rfl (eg rfl rfl) hg36, gZ rfl rfl rfl rfl rfl rfl rfl (eg rfl rfl) hg36, gZ rfl rfl rfl rfl rfl rfl rfl (eg rfl rfl) hg36, gZ rfl rfl rfl rfl rfl rfl rfl (eg rfl rfl) hg36, gN rfl rfl (fun t h A => by exact dy (zpf rfl (A.e rfl rfl rfl) hg36 (ec rfl))), gN rfl rfl (fun t h A => by exact dy (zas rfl (A.e rfl rfl rfl))), trivial⟩ ?_
    refine s_end ?_
    refine v_ret ?_
    subst hr
    exact post_ret (rv (.tmp (eg rfl rfl)) rfl (.lf .nil) rfl .nil) (.ro .nil) rfl
  replace hr := bf_f hg35 hr
  have hg35p := dec_f hg35
  refine v_drw2 [⟨.t ⟨false, [.vp 0 11]⟩, [], [1], [], false⟩, ⟨.t ⟨false, [.vp 0 13]⟩, [], [108], [], false⟩, ⟨.t ⟨false, [.d (dI (a0.X.Try))]⟩, [], [109], [0], false⟩, ⟨.t ⟨false, [.d (dB (decide ((0) < (a0.X.Try))))]⟩, [], [110], [], false⟩, ⟨.t ⟨false, [.d (dB (decide ((0) < (a0.X.Try))))]⟩, [], [111], [], false⟩, ⟨.tu [], [], [112], [], true⟩, ⟨.tu [], [], [112], [], true⟩, ⟨.tu [], [], [112], [], true⟩, ⟨.tu [], [], [112], [], true⟩, ⟨.t ⟨false, [.d (dB (false))]⟩, [], [112], [], false⟩, ⟨.t ⟨false, [.d (dB (false))]⟩, [], [117], [], false⟩, ⟨.tu [], [], [118], [], true⟩, ⟨.tu [], [], [118], [], true⟩, ⟨.tu [], [], [118], [], true⟩, ⟨.tu [], [], [118], [], true⟩, ⟨.tu [], [], [118], [], true⟩, ⟨.tu [], [], [118], [], true⟩, ⟨.tu [], [], [118], [], true⟩, ⟨.tu [], [], [118], [], true⟩, ⟨.t ⟨false, [.d (dB (false))]⟩, [], [118], [], false⟩, ⟨.t ⟨false, [.d (dB (false))]⟩, [], [127], [], false⟩] mixed (.c rfl (.c rfl (.c rfl (.c rfl (.c rfl (.c rfl (.c rfl (.c rfl (.c rfl (.c rfl (.c rfl (.c rfl (.c rfl (.c rfl (.c rfl (.c rfl (.c rfl (.c rfl (.c rfl (.c rfl (.c rfl .nil))))))))))))))))))))) (.s rfl (.s rfl (.s rfl (.s rfl (.s rfl (.s rfl (.s rfl (.s rfl (.s rfl (.s rfl (.s rfl (.s rfl (.s rfl (.s rfl (.s rfl (.s rfl (.s rfl (.s rfl (.s rfl (.s rfl (.s rfl .nil))))))))))))))))))))) (by kernel_rfl) (by kernel_rfl) ⟨gN rfl rfl (fun t h A => by exact dy (zfa tabOk rfl rfl rfl (A.e rfl rfl rfl) rfl rfl)), gN rfl rfl (fun t h A => by exact dy (zfa tabOk rfl rfl rfl (A.e rfl rfl rfl) rfl rfl)), gN rfl rfl (fun t h A => by exact dy (zlv tabOk rfl (A.e rfl rfl rfl) (A.h rfl rfl) rfl rfl)), gN rfl rfl (fun t h A => by exact dy (y_bin rfl (A.e rfl rfl rfl) (ec rfl) (fun _ => b_gtr) rfl)), gN rfl rfl (fun t h A => by exact dy (zmv rfl (A.e rfl rfl rfl))), gZ rfl rfl rfl rfl rfl rfl rfl (eg rfl rfl) hg35, gZ rfl rfl rfl rfl rfl rfl rfl (eg rfl rfl) hg35, gZ rfl rfl rfl rfl rfl rfl rfl (eg rfl rfl) hg35, gZ rfl rfl rfl rfl rfl rfl rfl (eg rfl rfl) hg35, gN rfl rfl (fun t h A => by exact dy (zpf rfl (A.e rfl rfl rfl) hg35 (ec rfl))), gN rfl rfl (fun t h A => by exact dy (zmv rfl (A.e rfl rfl rfl))), gZ rfl rfl rfl rfl rfl rfl rfl (eg rfl rfl) rfl, gZ rfl rfl rfl rfl rfl rfl rfl (eg rfl rfl) rfl, gZ rfl rfl rfl rfl rfl rfl rfl (eg rfl rfl) rfl, gZ rfl rfl rfl rfl rfl rfl rfl (eg rfl rfl) rfl, gZ rfl rfl rfl rfl rfl rfl rfl (eg rfl rfl) rfl, gZ rfl rfl rfl rfl rfl rfl rfl (eg rfl rfl) rfl, gZ rfl rfl rfl rfl rfl rfl rfl (eg rfl rfl) rfl, gZ rfl rfl rfl rfl rfl rfl rfl (eg rfl rfl) rfl, gN rfl rfl (fun t h A => by exact dy (zpf rfl (A.e rfl rfl rfl) rfl (ec rfl))), gN rfl rfl (fun t h A => by exact dy (zas rfl (A.e rfl rfl rfl))), trivial⟩ ?_
  refine s_end ?_
  refine v_ret ?_
  subst hr
  exact post_ret (rv (.tmp (eg rfl rfl)) rfl (.lf .nil) rfl .nil) (.ro .nil) rfl
def n_impl_FrameOk_c1 (a0 : Int) : Bool := !(n_impl_isFour a0)
set_option maxHeartbeats 4000000 in
set_option maxRecDepth 20000 in
theorem tr_n_impl_FrameOk_c1 (a0 : Int) : Tr Tryd.prog 48 [.ro ⟨false, [dI (a0)]⟩] [⟨false, [dB ((n_impl_FrameOk_c1 a0))]⟩] := by
  obtain ⟨r, hr⟩ : ∃ r, n_impl_FrameOk_c1 a0 = r := ⟨_, rfl⟩
  rw [hr]
  rw [n_impl_FrameOk_c1] at hr
  refine tr_go tabOk Tryd.func48 rfl rfl rfl rfl rfl (ov := [(0, .t ⟨false, [.d (dI (a0))]⟩)]) (hv := []) rfl rfl ?_
  refine v_seq ?_
  refine v_reg ?_
  refine sy _ (zas rfl (ec rfl)) rfl rfl ?_
  refine s_end ?_
  refine v_seq ?_
  refine v_reg ?_
  refine sy _ (zmv rfl (e rfl rfl)) rfl rfl ?_
  refine sd (.t ⟨false, [.d (dB (n_impl_isFour a0))]⟩) (zcd (.t ⟨false, [.d (dB (n_impl_isFour a0))]⟩) rfl (tr_n_impl_isFour a0) (ar (e rfl rfl) (.d .nil) .nil) rfl) rfl rfl rfl rfl ?_
  refine sy (.t ⟨false, [.d (dB (!(n_impl_isFour a0)))]⟩) (y_un rfl (e rfl rfl) (fun _ => u_not) rfl) rfl rfl ?_
  refine sy _ (zas rfl (e rfl rfl)) rfl rfl ?_
  refine s_end ?_
  refine v_ret ?_
  subst hr
  exact post_ret (rv (.tmp (eg rfl rfl)) rfl (.lf .nil) rfl .nil) (.ro .nil) rfl
def n_impl_FrameOk_c2 (a0 : ByteArray) : Bool := !(n_spec_NameOk a0)
set_option maxHeartbeats 4000000 in
set_option maxRecDepth 20000 in
theorem tr_n_impl_FrameOk_c2 (a0 : ByteArray) (h0 : fitS a0) : Tr Tryd.prog 51 [.ro ⟨false, [dS (a0)]⟩] [⟨false, [dB ((n_impl_FrameOk_c2 a0))]⟩] := by
  obtain ⟨r, hr⟩ : ∃ r, n_impl_FrameOk_c2 a0 = r := ⟨_, rfl⟩
  rw [hr]
  rw [n_impl_FrameOk_c2] at hr
  refine tr_go tabOk Tryd.func51 rfl rfl rfl rfl rfl (ov := [(0, .t ⟨false, [.d (dS (a0))]⟩)]) (hv := []) rfl rfl ?_
  refine v_seq ?_
  refine v_reg ?_
  refine sy _ (zas rfl (ec rfl)) rfl rfl ?_
  refine s_end ?_
  refine v_seq ?_
  refine v_reg ?_
  refine sy _ (zmv rfl (e rfl rfl)) rfl rfl ?_
  refine sd (.t ⟨false, [.d (dB (n_spec_NameOk a0))]⟩) (zcd (.t ⟨false, [.d (dB (n_spec_NameOk a0))]⟩) rfl (tr2_n_impl_NameOk a0 h0) (ar (e rfl rfl) (.d .nil) .nil) rfl) rfl rfl rfl rfl ?_
  refine sy (.t ⟨false, [.d (dB (!(n_spec_NameOk a0)))]⟩) (y_un rfl (e rfl rfl) (fun _ => u_not) rfl) rfl rfl ?_
  refine sy _ (zas rfl (e rfl rfl)) rfl rfl ?_
  refine s_end ?_
  refine v_ret ?_
  subst hr
  exact post_ret (rv (.tmp (eg rfl rfl)) rfl (.lf .nil) rfl .nil) (.ro .nil) rfl
def n_impl_FrameOk (a0 : Frame) : Bool := cond (!(n_spec_QuestOk a0.Ask)) (false) (cond (!(n_spec_QuestOk a0.Q)) (false) (cond (decide ((a0.Ask.Typ) ≠ (a0.Q.Typ))) (false) (cond (!(n_impl_allOk a0.Links 6)) (false) (cond (!(n_spec_NameOk a0.Apex)) (false) (cond (!(n_spec_Under a0.Q.Name a0.Apex)) (false) (cond (decide ((a0.Down) < (0))) (false) (cond (decide ((a0.Left) < (0))) (false) (cond (decide ((a0.Pc) < (1))) (false) (cond (decide ((5) < (a0.Pc))) (false) (cond (!(n_spec_ExchOk a0.X)) (false) (cond (n_slices_ContainsFunc_int a0.Servers (fun x0 => n_impl_FrameOk_c1 x0)) (false) (cond (n_slices_ContainsFunc_string a0.Need (fun x0 => n_impl_FrameOk_c2 x0)) (false) (cond (decide ((a0.Pc) = (3))) (cond (decide ((0) < (a0.X.Try))) (cond (decide ((0) < (((a0.Servers).length : Int)))) (atL (a0.Servers) (0) (fun x1 => decide ((x1) = (a0.X.Addr)))) (false)) (false)) (decide (a0.X = (⟨0, 0, 0, 0⟩ : Exch))))))))))))))))
set_option maxHeartbeats 4000000 in
set_option maxRecDepth 20000 in
theorem tr_n_impl_FrameOk (a0 : Frame) (h0 : Frame.Fit a0) : Tr Tryd.prog 10 [.ro ⟨true, [dS (a0.Ask.Name), dI (a0.Ask.Typ), dS (a0.Q.Name), dI (a0.Q.Typ), .sl 6 (a0.Links.map Record.cells), dS (a0.Apex), .sl 1 (a0.Servers.map encI), .sl 1 (a0.Need.map encS), dI (a0.Down), dI (a0.Left), dI (a0.Pc), dI (a0.X.Id), dI (a0.X.Addr), dI (a0.X.Try), dI (a0.X.Due)]⟩] [⟨false, [dB ((n_impl_FrameOk a0))]⟩] := by
  obtain ⟨r, hr⟩ : ∃ r, n_impl_FrameOk a0 = r := ⟨_, rfl⟩
  rw [hr]
  rw [n_impl_FrameOk] at hr
  refine tr_go tabOk Tryd.func10 rfl rfl rfl rfl rfl (ov := [(0, .t ⟨true, [.d (dS (a0.Ask.Name)), .d (dI (a0.Ask.Typ)), .d (dS (a0.Q.Name)), .d (dI (a0.Q.Typ)), .d (.sl 6 (a0.Links.map Record.cells)), .d (dS (a0.Apex)), .d (.sl 1 (a0.Servers.map encI)), .d (.sl 1 (a0.Need.map encS)), .d (dI (a0.Down)), .d (dI (a0.Left)), .d (dI (a0.Pc)), .d (dI (a0.X.Id)), .d (dI (a0.X.Addr)), .d (dI (a0.X.Try)), .d (dI (a0.X.Due))]⟩)]) (hv := []) rfl rfl ?_
  refine v_seq ?_
  refine v_reg ?_
  refine sr 0 (.t ⟨false, [.vp 0 0]⟩) (.var [.d (dS (a0.Ask.Name)), .d (dI (a0.Ask.Typ)), .d (dS (a0.Q.Name)), .d (dI (a0.Q.Typ)), .d (.sl 6 (a0.Links.map Record.cells)), .d (dS (a0.Apex)), .d (.sl 1 (a0.Servers.map encI)), .d (.sl 1 (a0.Need.map encS)), .d (dI (a0.Down)), .d (dI (a0.Left)), .d (dI (a0.Pc)), .d (dI (a0.X.Id)), .d (dI (a0.X.Addr)), .d (dI (a0.X.Try)), .d (dI (a0.X.Due))]) (zbx rfl (e rfl rfl) rfl rfl rfl) rfl rfl ?_
  refine sy _ (zas rfl (ec rfl)) rfl rfl ?_
  refine s_end ?_
  refine v_seq ?_
  refine v_seq ?_
  refine v_reg ?_
  refine sy (.t ⟨false, [.vp 0 0]⟩) (zfa tabOk rfl rfl rfl (e rfl rfl) rfl rfl) rfl rfl ?_
  refine sy (.t ⟨true, [.d (dS (a0.Ask.Name)), .d (dI (a0.Ask.Typ))]⟩) (zlv tabOk rfl (e rfl rfl) rfl rfl rfl) rfl rfl ?_
  refine sd (.t ⟨false, [.d (dB (n_spec_QuestOk a0.Ask))]⟩) (zcd (.t ⟨false, [.d (dB (n_spec_QuestOk a0.Ask))]⟩) rfl (tr2_n_impl_QuestOk a0.Ask h0.Ask) (ar (e rfl rfl) (.d (.d .nil)) .nil) rfl) rfl rfl rfl rfl ?_
  refine sy (.t ⟨false, [.d (dB (!(n_spec_QuestOk a0.Ask)))]⟩) (y_un rfl (e rfl rfl) (fun _ => u_not) rfl) rfl rfl ?_
  refine sy _ (zmv rfl (e rfl rfl)) rfl rfl ?_
  rcases Bool.eq_false_or_eq_true (!(n_spec_QuestOk a0.Ask)) with hg1 | hg1
  · replace hr := bf_t hg1 hr
    have hn2 := not_t hg1
    refine gs rfl rfl rfl (eg rfl rfl) hg1 rfl ?_
    refine gs rfl rfl rfl (eg rfl rfl) hg1 rfl ?_
    refine gs rfl rfl rfl (eg rfl rfl) hg1 rfl ?_
    refine gs rfl rfl rfl (eg rfl rfl) hg1 rfl ?_
    refine sy (.t ⟨false, [.d (dB (true))]⟩) (zpt rfl (e rfl rfl) hg1 (ec rfl)) rfl rfl ?_
    refine sy _ (zmv rfl (e rfl rfl)) rfl rfl ?_
    refine gs rfl rfl rfl (eg rfl rfl) rfl rfl ?_
    refine gs rfl rfl rfl (eg rfl rfl) rfl rfl ?_
    refine gs rfl rfl rfl (eg rfl rfl) rfl rfl ?_
    refine gs rfl rfl rfl (eg rfl rfl) rfl rfl ?_
    refine gs rfl rfl rfl (eg rfl rfl) rfl rfl ?_
    refine gs rfl rfl rfl (eg rfl rfl) rfl rfl ?_
    refine gs rfl rfl rfl (eg rfl rfl) rfl rfl ?_
    refine sy (.t ⟨false, [.d (dB (true))]⟩) (zpt rfl (e rfl rfl) rfl (ec rfl)) rfl rfl ?_
    refine sy _ (zmv rfl (e rfl rfl)) rfl rfl ?_
    refine gs rfl rfl rfl (eg rfl rfl) rfl rfl ?_
    refine gs rfl rfl rfl (eg rfl rfl) rfl rfl ?_
    refine gs rfl rfl rfl (eg rfl rfl) rfl rfl ?_
    refine gs rfl rfl rfl (eg rfl rfl) rfl rfl ?_
    refine sy (.t ⟨false, [.d (dB (true))]⟩) (zpt rfl (e rfl rfl) rfl (ec rfl)) rfl rfl ?_
    refine sy _ (zmv rfl (e rfl rfl)) rfl rfl ?_
    refine gs rfl rfl rfl (eg rfl rfl) rfl rfl ?_
    refine gs rfl rfl rfl (eg rfl rfl) rfl rfl ?_
    refine gs rfl rfl rfl (eg rfl rfl) rfl rfl ?_
    refine gs rfl rfl rfl (eg rfl rfl) rfl rfl ?_
    refine sy (.t ⟨false, [.d (dB (true))]⟩) (zpt rfl (e rfl rfl) rfl (ec rfl)) rfl rfl ?_
    refine sy _ (zmv rfl (e rfl rfl)) rfl rfl ?_
    refine gs rfl rfl rfl (eg rfl rfl) rfl rfl ?_
    refine gs rfl rfl rfl (eg rfl rfl) rfl rfl ?_
    refine gs rfl rfl rfl (eg rfl rfl) rfl rfl ?_
    refine gs rfl rfl rfl (eg rfl rfl) rfl rfl ?_
    refine gs rfl rfl rfl (eg rfl rfl) rfl rfl ?_
    refine gs rfl rfl rfl (eg rfl rfl) rfl rfl ?_
    refine gs rfl rfl rfl (eg rfl rfl) rfl rfl ?_
    refine sy (.t ⟨false, [.d (dB (true))]⟩) (zpt rfl (e rfl rfl) rfl (ec rfl)) rfl rfl ?_
    refine sy _ (zmv rfl (e rfl rfl)) rfl rfl ?_
    refine gs rfl rfl rfl (eg rfl rfl) rfl rfl ?_
    refine gs rfl rfl rfl (eg rfl rfl) rfl rfl ?_
    refine gs rfl rfl rfl (eg rfl rfl) rfl rfl ?_
    refine sy (.t ⟨false, [.d (dB (true))]⟩) (zpt rfl (e rfl rfl) rfl (ec rfl)) rfl rfl ?_
    refine sy _ (zmv rfl (e rfl rfl)) rfl rfl ?_
    refine gs rfl rfl rfl (eg rfl rfl) rfl rfl ?_
    refine gs rfl rfl rfl (eg rfl rfl) rfl rfl ?_
    refine gs rfl rfl rfl (eg rfl rfl) rfl rfl ?_
    refine sy (.t ⟨false, [.d (dB (true))]⟩) (zpt rfl (e rfl rfl) rfl (ec rfl)) rfl rfl ?_
    refine sy _ (zmv rfl (e rfl rfl)) rfl rfl ?_
    refine gs rfl rfl rfl (eg rfl rfl) rfl rfl ?_
    refine gs rfl rfl rfl (eg rfl rfl) rfl rfl ?_
    refine gs rfl rfl rfl (eg rfl rfl) rfl rfl ?_
    refine sy (.t ⟨false, [.d (dB (true))]⟩) (zpt rfl (e rfl rfl) rfl (ec rfl)) rfl rfl ?_
    refine sy _ (zmv rfl (e rfl rfl)) rfl rfl ?_
    refine gs rfl rfl rfl (eg rfl rfl) rfl rfl ?_
    refine gs rfl rfl rfl (eg rfl rfl) rfl rfl ?_
    refine gs rfl rfl rfl (eg rfl rfl) rfl rfl ?_
    refine sy (.t ⟨false, [.d (dB (true))]⟩) (zpt rfl (e rfl rfl) rfl (ec rfl)) rfl rfl ?_
    refine sy _ (zmv rfl (e rfl rfl)) rfl rfl ?_
    refine gs rfl rfl rfl (eg rfl rfl) rfl rfl ?_
    refine gs rfl rfl rfl (eg rfl rfl) rfl rfl ?_
    refine gs rfl rfl rfl (eg rfl rfl) rfl rfl ?_
    refine gs rfl rfl rfl (eg rfl rfl) rfl rfl ?_
    refine sy (.t ⟨false, [.d (dB (true))]⟩) (zpt rfl (e rfl rfl) rfl (ec rfl)) rfl rfl ?_
    refine s_end ?_
    refine v_cT (e rfl rfl) rfl ?_
    refine v_seq ?_
    refine v_reg ?_
    refine sy _ (zas rfl (ec rfl)) rfl rfl ?_
    refine s_end ?_
    refine v_ret ?_
    subst hr
    exact post_ret (rv (.tmp (eg rfl rfl)) rfl (.lf .nil) rfl .nil) (.ro .nil) rfl
  replace hr := bf_f hg1 hr
  have hn3 := not_f hg1
  refine gr rfl rfl rfl (eg rfl rfl) hg1 ?_
  refine sy (.t ⟨false, [.vp 0 2]⟩) (zfa tabOk rfl rfl rfl (e rfl rfl) rfl rfl) rfl rfl ?_
  refine gr rfl rfl rfl (eg rfl rfl) hg1 ?_
  refine sy (.t ⟨true, [.d (dS (a0.Q.Name)), .d (dI (a0.Q.Typ))]⟩) (zlv tabOk rfl (e rfl rfl) rfl rfl rfl) rfl rfl ?_
  refine gr rfl rfl rfl (eg rfl rfl) hg1 ?_
  refine sd (.t ⟨false, [.d (dB (n_spec_QuestOk a0.Q))]⟩) (zcd (.t ⟨false, [.d (dB (n_spec_QuestOk a0.Q))]⟩) rfl (tr2_n_impl_QuestOk a0.Q h0.Q) (ar (e rfl rfl) (.d (.d .nil)) .nil) rfl) rfl rfl rfl rfl ?_
  refine gr rfl rfl rfl (eg rfl rfl) hg1 ?_
  refine sy (.t ⟨false, [.d (dB (!(n_spec_QuestOk a0.Q)))]⟩) (y_un rfl (e rfl rfl) (fun _ => u_not) rfl) rfl rfl ?_
  refine sy (.t ⟨false, [.d (dB (!(n_spec_QuestOk a0.Q)))]⟩) (zpf rfl (e rfl rfl) hg1 (e rfl rfl)) rfl rfl ?_
  refine sy _ (zmv rfl (e rfl rfl)) rfl rfl ?_
  rcases Bool.eq_false_or_eq_true (!(n_spec_QuestOk a0.Q)) with hg4 | hg4
  · replace hr := bf_t hg4 hr
    have hn5 := not_t hg4
    refine gs rfl rfl rfl (eg rfl rfl) hg4 rfl ?_
    refine gs rfl rfl rfl (eg rfl rfl) hg4 rfl ?_
    refine gs rfl rfl rfl (eg rfl rfl) hg4 rfl ?_
    refine gs rfl rfl rfl (eg rfl rfl) hg4 rfl ?_
    refine gs rfl rfl rfl (eg rfl rfl) hg4 rfl ?_
    refine gs rfl rfl rfl (eg rfl rfl) hg4 rfl ?_
    refine gs rfl rfl rfl (eg rfl rfl) hg4 rfl ?_
    refine sy (.t ⟨false, [.d (dB (true))]⟩) (zpt rfl (e rfl rfl) hg4 (ec rfl)) rfl rfl ?_
    refine sy _ (zmv rfl (e rfl rfl)) rfl rfl ?_
    refine gs rfl rfl rfl (eg rfl rfl) rfl rfl ?_
    refine gs rfl rfl rfl (eg rfl rfl) rfl rfl ?_
    refine gs rfl rfl rfl (eg rfl rfl) rfl rfl ?_
    refine gs rfl rfl rfl (eg rfl rfl) rfl rfl ?_
    refine sy (.t ⟨false, [.d (dB (true))]⟩) (zpt rfl (e rfl rfl) rfl (ec rfl)) rfl rfl ?_
    refine sy _ (zmv rfl (e rfl rfl)) rfl rfl ?_
    refine gs rfl rfl rfl (eg rfl rfl) rfl rfl ?_
    refine gs rfl rfl rfl (eg rfl rfl) rfl rfl ?_
    refine gs rfl rfl rfl (eg rfl rfl) rfl rfl ?_
    refine gs rfl rfl rfl (eg rfl rfl) rfl rfl ?_
    refine sy (.t ⟨false, [.d (dB (true))]⟩) (zpt rfl (e rfl rfl) rfl (ec rfl)) rfl rfl ?_
    refine sy _ (zmv rfl (e rfl rfl)) rfl rfl ?_
    refine gs rfl rfl rfl (eg rfl rfl) rfl rfl ?_
    refine gs rfl rfl rfl (eg rfl rfl) rfl rfl ?_
    refine gs rfl rfl rfl (eg rfl rfl) rfl rfl ?_
    refine gs rfl rfl rfl (eg rfl rfl) rfl rfl ?_
    refine gs rfl rfl rfl (eg rfl rfl) rfl rfl ?_
    refine gs rfl rfl rfl (eg rfl rfl) rfl rfl ?_
    refine gs rfl rfl rfl (eg rfl rfl) rfl rfl ?_
    refine sy (.t ⟨false, [.d (dB (true))]⟩) (zpt rfl (e rfl rfl) rfl (ec rfl)) rfl rfl ?_
    refine sy _ (zmv rfl (e rfl rfl)) rfl rfl ?_
    refine gs rfl rfl rfl (eg rfl rfl) rfl rfl ?_
    refine gs rfl rfl rfl (eg rfl rfl) rfl rfl ?_
    refine gs rfl rfl rfl (eg rfl rfl) rfl rfl ?_
    refine sy (.t ⟨false, [.d (dB (true))]⟩) (zpt rfl (e rfl rfl) rfl (ec rfl)) rfl rfl ?_
    refine sy _ (zmv rfl (e rfl rfl)) rfl rfl ?_
    refine gs rfl rfl rfl (eg rfl rfl) rfl rfl ?_
    refine gs rfl rfl rfl (eg rfl rfl) rfl rfl ?_
    refine gs rfl rfl rfl (eg rfl rfl) rfl rfl ?_
    refine sy (.t ⟨false, [.d (dB (true))]⟩) (zpt rfl (e rfl rfl) rfl (ec rfl)) rfl rfl ?_
    refine sy _ (zmv rfl (e rfl rfl)) rfl rfl ?_
    refine gs rfl rfl rfl (eg rfl rfl) rfl rfl ?_
    refine gs rfl rfl rfl (eg rfl rfl) rfl rfl ?_
    refine gs rfl rfl rfl (eg rfl rfl) rfl rfl ?_
    refine sy (.t ⟨false, [.d (dB (true))]⟩) (zpt rfl (e rfl rfl) rfl (ec rfl)) rfl rfl ?_
    refine sy _ (zmv rfl (e rfl rfl)) rfl rfl ?_
    refine gs rfl rfl rfl (eg rfl rfl) rfl rfl ?_
    refine gs rfl rfl rfl (eg rfl rfl) rfl rfl ?_
    refine gs rfl rfl rfl (eg rfl rfl) rfl rfl ?_
    refine sy (.t ⟨false, [.d (dB (true))]⟩) (zpt rfl (e rfl rfl) rfl (ec rfl)) rfl rfl ?_
    refine sy _ (zmv rfl (e rfl rfl)) rfl rfl ?_
    refine gs rfl rfl rfl (eg rfl rfl) rfl rfl ?_
    refine gs rfl rfl rfl (eg rfl rfl) rfl rfl ?_
    refine gs rfl rfl rfl (eg rfl rfl) rfl rfl ?_
    refine gs rfl rfl rfl (eg rfl rfl) rfl rfl ?_
    refine sy (.t ⟨false, [.d (dB (true))]⟩) (zpt rfl (e rfl rfl) rfl (ec rfl)) rfl rfl ?_
    refine s_end ?_
    refine v_cT (e rfl rfl) rfl ?_
    refine v_seq ?_
    refine v_reg ?_
    refine sy _ (zas rfl (ec rfl)) rfl rfl ?_
    refine s_end ?_
    refine v_ret ?_
    subst hr
    exact post_ret (rv (.tmp (eg rfl rfl)) rfl (.lf .nil) rfl .nil) (.ro .nil) rfl
  replace hr := bf_f hg4 hr
  have hn6 := not_f hg4
  refine gr rfl rfl rfl (eg rfl rfl) hg4 ?_
  refine sy (.t ⟨false, [.vp 0 0]⟩) (zfa tabOk rfl rfl rfl (e rfl rfl) rfl rfl) rfl rfl ?_
  refine gr rfl rfl rfl (eg rfl rfl) hg4 ?_
  refine sy (.t ⟨false, [.vp 0 1]⟩) (zfa tabOk rfl rfl rfl (e rfl rfl) rfl rfl) rfl rfl ?_
  refine gr rfl rfl rfl (eg rfl rfl) hg4 ?_
  refine sy (.t ⟨false, [.d (dI (a0.Ask.Typ))]⟩) (zlv tabOk rfl (e rfl rfl) rfl rfl rfl) rfl rfl ?_
  refine gr rfl rfl rfl (eg rfl rfl) hg4 ?_
  refine sy (.t ⟨false, [.vp 0 2]⟩) (zfa tabOk rfl rfl rfl (e rfl rfl) rfl rfl) rfl rfl ?_
  refine gr rfl rfl rfl (eg rfl rfl) hg4 ?_
  refine sy (.t ⟨false, [.vp 0 3]⟩) (zfa tabOk rfl rfl rfl (e rfl rfl) rfl rfl) rfl rfl ?_
  refine gr rfl rfl rfl (eg rfl rfl) hg4 ?_
  refine sy (.t ⟨false, [.d (dI (a0.Q.Typ))]⟩) (zlv tabOk rfl (e rfl rfl) rfl rfl rfl) rfl rfl ?_
  refine gr rfl rfl rfl (eg rfl rfl) hg4 ?_
  refine sy (.t ⟨false, [.d (dB (decide ((a0.Ask.Typ) ≠ (a0.Q.Typ))))]⟩) (y_bin rfl (e rfl rfl) (e rfl rfl) (fun _ => b_neq) rfl) rfl rfl ?_
  refine sy (.t ⟨false, [.d (dB (decide ((a0.Ask.Typ) ≠ (a0.Q.Typ))))]⟩) (zpf rfl (e rfl rfl) hg4 (e rfl rfl)) rfl rfl ?_
  refine sy _ (zmv rfl (e rfl rfl)) rfl rfl ?_
  rcases Bool.eq_false_or_eq_true (decide ((a0.Ask.Typ) ≠ (a0.Q.Typ))) with hg7 | hg7
  · replace hr := bf_t hg7 hr
    have hg7p := dec_t hg7
    refine gs rfl rfl rfl (eg rfl rfl) hg7 rfl ?_
    refine gs rfl rfl rfl (eg rfl rfl) hg7 rfl ?_
    refine gs rfl rfl rfl (eg rfl rfl) hg7 rfl ?_
    refine gs rfl rfl rfl (eg rfl rfl) hg7 rfl ?_
    refine sy (.t ⟨false, [.d (dB (true))]⟩) (zpt rfl (e rfl rfl) hg7 (ec rfl)) rfl rfl ?_
    refine sy _ (zmv rfl (e rfl rfl)) rfl rfl ?_
    refine gs rfl rfl rfl (eg rfl rfl) rfl rfl ?_
    refine gs rfl rfl rfl (eg rfl rfl) rfl rfl ?_
    refine gs rfl rfl rfl (eg rfl rfl) rfl rfl ?_
    refine gs rfl rfl rfl (eg rfl rfl) rfl rfl ?_
    refine sy (.t ⟨false, [.d (dB (true))]⟩) (zpt rfl (e rfl rfl) rfl (ec rfl)) rfl rfl ?_
    refine sy _ (zmv rfl (e rfl rfl)) rfl rfl ?_
    refine gs rfl rfl rfl (eg rfl rfl) rfl rfl ?_
    refine gs rfl rfl rfl (eg rfl rfl) rfl rfl ?_
    refine gs rfl rfl rfl (eg rfl rfl) rfl rfl ?_
    refine gs rfl rfl rfl (eg rfl rfl) rfl rfl ?_
    refine gs rfl rfl rfl (eg rfl rfl) rfl rfl ?_
    refine gs rfl rfl rfl (eg rfl rfl) rfl rfl ?_
    refine gs rfl rfl rfl (eg rfl rfl) rfl rfl ?_
    refine sy (.t ⟨false, [.d (dB (true))]⟩) (zpt rfl (e rfl rfl) rfl (ec rfl)) rfl rfl ?_
    refine sy _ (zmv rfl (e rfl rfl)) rfl rfl ?_
    refine gs rfl rfl rfl (eg rfl rfl) rfl rfl ?_
    refine gs rfl rfl rfl (eg rfl rfl) rfl rfl ?_
    refine gs rfl rfl rfl (eg rfl rfl) rfl rfl ?_
    refine sy (.t ⟨false, [.d (dB (true))]⟩) (zpt rfl (e rfl rfl) rfl (ec rfl)) rfl rfl ?_
    refine sy _ (zmv rfl (e rfl rfl)) rfl rfl ?_
    refine gs rfl rfl rfl (eg rfl rfl) rfl rfl ?_
    refine gs rfl rfl rfl (eg rfl rfl) rfl rfl ?_
    refine gs rfl rfl rfl (eg rfl rfl) rfl rfl ?_
    refine sy (.t ⟨false, [.d (dB (true))]⟩) (zpt rfl (e rfl rfl) rfl (ec rfl)) rfl rfl ?_
    refine sy _ (zmv rfl (e rfl rfl)) rfl rfl ?_
    refine gs rfl rfl rfl (eg rfl rfl) rfl rfl ?_
    refine gs rfl rfl rfl (eg rfl rfl) rfl rfl ?_
    refine gs rfl rfl rfl (eg rfl rfl) rfl rfl ?_
    refine sy (.t ⟨false, [.d (dB (true))]⟩) (zpt rfl (e rfl rfl) rfl (ec rfl)) rfl rfl ?_
    refine sy _ (zmv rfl (e rfl rfl)) rfl rfl ?_
    refine gs rfl rfl rfl (eg rfl rfl) rfl rfl ?_
    refine gs rfl rfl rfl (eg rfl rfl) rfl rfl ?_
    refine gs rfl rfl rfl (eg rfl rfl) rfl rfl ?_
    refine sy (.t ⟨false, [.d (dB (true))]⟩) (zpt rfl (e rfl rfl) rfl (ec rfl)) rfl rfl ?_
    refine sy _ (zmv rfl (e rfl rfl)) rfl rfl ?_
    refine gs rfl rfl rfl (eg rfl rfl) rfl rfl ?_
    refine gs rfl rfl rfl (eg rfl rfl) rfl rfl ?_
    refine gs rfl rfl rfl (eg rfl rfl) rfl rfl ?_
    refine gs rfl rfl rfl (eg rfl rfl) rfl rfl ?_
    refine sy (.t ⟨false, [.d (dB (true))]⟩) (zpt rfl (e rfl rfl) rfl (ec rfl)) rfl rfl ?_
    refine s_end ?_
    refine v_cT (e rfl rfl) rfl ?_
    refine v_seq ?_
    refine v_reg ?_
    refine sy _ (zas rfl (ec rfl)) rfl rfl ?_
    refine s_end ?_
    refine v_ret ?_
    subst hr
    exact post_ret (rv (.tmp (eg rfl rfl)) rfl (.lf .nil) rfl .nil) (.ro .nil) rfl
  replace hr := bf_f hg7 hr
  have hg7p := dec_f hg7
  refine gr rfl rfl rfl (eg rfl rfl) hg7 ?_
  refine sy (.t ⟨false, [.vp 0 4]⟩) (zfa tabOk rfl rfl rfl (e rfl rfl) rfl rfl) rfl rfl ?_
  refine gr rfl rfl rfl (eg rfl rfl) hg7 ?_
  refine sy (.t ⟨false, [.d (.sl 6 (a0.Links.map Record.cells))]⟩) (zlv tabOk rfl (e rfl rfl) rfl rfl rfl) rfl rfl ?_
  refine gr rfl rfl rfl (eg rfl rfl) hg7 ?_
  refine sd (.t ⟨false, [.d (dB (n_impl_allOk a0.Links 6))]⟩) (zcd (.t ⟨false, [.d (dB (n_impl_allOk a0.Links 6))]⟩) rfl (tr_n_impl_allOk a0.Links 6 h0.Links) (ar (e rfl rfl) (.d .nil) (ar (ec rfl) (.d .nil) .nil)) rfl) rfl rfl rfl rfl ?_
  refine gr rfl rfl rfl (eg rfl rfl) hg7 ?_
  refine sy (.t ⟨false, [.d (dB (!(n_impl_allOk a0.Links 6)))]⟩) (y_un rfl (e rfl rfl) (fun _ => u_not) rfl) rfl rfl ?_
  refine sy (.t ⟨false, [.d (dB (!(n_impl_allOk a0.Links 6)))]⟩) (zpf rfl (e rfl rfl) hg7 (e rfl rfl)) rfl rfl ?_
  refine sy _ (zmv rfl (e rfl rfl)) rfl rfl ?_
  rcases Bool.eq_false_or_eq_true (!(n_impl_allOk a0.Links 6)) with hg8 | hg8
  · replace hr := bf_t hg8 hr
    have hn9 := not_t hg8
    refine gs rfl rfl rfl (eg rfl rfl) hg8 rfl ?_
    refine gs rfl rfl rfl (eg rfl rfl) hg8 rfl ?_
    refine gs rfl rfl rfl (eg rfl rfl) hg8 rfl ?_
    refine gs rfl rfl rfl (eg rfl rfl) hg8 rfl ?_
    refine sy (.t ⟨false, [.d (dB (true))]⟩) (zpt rfl (e rfl rfl) hg8 (ec rfl)) rfl rfl ?_
    refine sy _ (zmv rfl (e rfl rfl)) rfl rfl ?_
    refine gs rfl rfl rfl (eg rfl rfl) rfl rfl ?_
    refine gs rfl rfl rfl (eg rfl rfl) rfl rfl ?_
    refine gs rfl rfl rfl (eg rfl rfl) rfl rfl ?_
    refine gs rfl rfl rfl (eg rfl rfl) rfl rfl ?_
    refine gs rfl rfl rfl (eg rfl rfl) rfl rfl ?_
    refine gs rfl rfl rfl (eg rfl rfl) rfl rfl ?_
    refine gs rfl rfl rfl (eg rfl rfl) rfl rfl ?_
    refine sy (.t ⟨false, [.d (dB (true))]⟩) (zpt rfl (e rfl rfl) rfl (ec rfl)) rfl rfl ?_
    refine sy _ (zmv rfl (e rfl rfl)) rfl rfl ?_
    refine gs rfl rfl rfl (eg rfl rfl) rfl rfl ?_
    refine gs rfl rfl rfl (eg rfl rfl) rfl rfl ?_
    refine gs rfl rfl rfl (eg rfl rfl) rfl rfl ?_
    refine sy (.t ⟨false, [.d (dB (true))]⟩) (zpt rfl (e rfl rfl) rfl (ec rfl)) rfl rfl ?_
    refine sy _ (zmv rfl (e rfl rfl)) rfl rfl ?_
    refine gs rfl rfl rfl (eg rfl rfl) rfl rfl ?_
    refine gs rfl rfl rfl (eg rfl rfl) rfl rfl ?_
    refine gs rfl rfl rfl (eg rfl rfl) rfl rfl ?_
    refine sy (.t ⟨false, [.d (dB (true))]⟩) (zpt rfl (e rfl rfl) rfl (ec rfl)) rfl rfl ?_
    refine sy _ (zmv rfl (e rfl rfl)) rfl rfl ?_
    refine gs rfl rfl rfl (eg rfl rfl) rfl rfl ?_
    refine gs rfl rfl rfl (eg rfl rfl) rfl rfl ?_
    refine gs rfl rfl rfl (eg rfl rfl) rfl rfl ?_
    refine sy (.t ⟨false, [.d (dB (true))]⟩) (zpt rfl (e rfl rfl) rfl (ec rfl)) rfl rfl ?_
    refine sy _ (zmv rfl (e rfl rfl)) rfl rfl ?_
    refine gs rfl rfl rfl (eg rfl rfl) rfl rfl ?_
    refine gs rfl rfl rfl (eg rfl rfl) rfl rfl ?_
    refine gs rfl rfl rfl (eg rfl rfl) rfl rfl ?_
    refine sy (.t ⟨false, [.d (dB (true))]⟩) (zpt rfl (e rfl rfl) rfl (ec rfl)) rfl rfl ?_
    refine sy _ (zmv rfl (e rfl rfl)) rfl rfl ?_
    refine gs rfl rfl rfl (eg rfl rfl) rfl rfl ?_
    refine gs rfl rfl rfl (eg rfl rfl) rfl rfl ?_
    refine gs rfl rfl rfl (eg rfl rfl) rfl rfl ?_
    refine gs rfl rfl rfl (eg rfl rfl) rfl rfl ?_
    refine sy (.t ⟨false, [.d (dB (true))]⟩) (zpt rfl (e rfl rfl) rfl (ec rfl)) rfl rfl ?_
    refine s_end ?_
    refine v_cT (e rfl rfl) rfl ?_
    refine v_seq ?_
    refine v_reg ?_
    refine sy _ (zas rfl (ec rfl)) rfl rfl ?_
    refine s_end ?_
    refine v_ret ?_
    subst hr
    exact post_ret (rv (.tmp (eg rfl rfl)) rfl (.lf .nil) rfl .nil) (.ro .nil) rfl
  replace hr := bf_f hg8 hr
  have hn10 := not_f hg8
  refine gr rfl rfl rfl (eg rfl rfl) hg8 ?_
  refine sy (.t ⟨false, [.vp 0 5]⟩) (zfa tabOk rfl rfl rfl (e rfl rfl) rfl rfl) rfl rfl ?_
  refine gr rfl rfl rfl (eg rfl rfl) hg8 ?_
  refine sy (.t ⟨false, [.d (dS (a0.Apex))]⟩) (zlv tabOk rfl (e rfl rfl) rfl rfl rfl) rfl rfl ?_
  refine gr rfl rfl rfl (eg rfl rfl) hg8 ?_
  refine sd (.t ⟨false, [.d (dB (n_spec_NameOk a0.Apex))]⟩) (zcd (.t ⟨false, [.d (dB (n_spec_NameOk a0.Apex))]⟩) rfl (tr2_n_impl_NameOk a0.Apex h0.Apex) (ar (e rfl rfl) (.d .nil) .nil) rfl) rfl rfl rfl rfl ?_
  refine gr rfl rfl rfl (eg rfl rfl) hg8 ?_
  refine sy (.t ⟨false, [.d (dB (!(n_spec_NameOk a0.Apex)))]⟩) (y_un rfl (e rfl rfl) (fun _ => u_not) rfl) rfl rfl ?_
  refine sy (.t ⟨false, [.d (dB (!(n_spec_NameOk a0.Apex)))]⟩) (zpf rfl (e rfl rfl) hg8 (e rfl rfl)) rfl rfl ?_
  refine sy _ (zmv rfl (e rfl rfl)) rfl rfl ?_
  rcases Bool.eq_false_or_eq_true (!(n_spec_NameOk a0.Apex)) with hg11 | hg11
  · replace hr := bf_t hg11 hr
    have hn12 := not_t hg11
    refine gs rfl rfl rfl (eg rfl rfl) hg11 rfl ?_
    refine gs rfl rfl rfl (eg rfl rfl) hg11 rfl ?_
    refine gs rfl rfl rfl (eg rfl rfl) hg11 rfl ?_
    refine gs rfl rfl rfl (eg rfl rfl) hg11 rfl ?_
    refine gs rfl rfl rfl (eg rfl rfl) hg11 rfl ?_
    refine gs rfl rfl rfl (eg rfl rfl) hg11 rfl ?_
    refine gs rfl rfl rfl (eg rfl rfl) hg11 rfl ?_
    refine sy (.t ⟨false, [.d (dB (true))]⟩) (zpt rfl (e rfl rfl) hg11 (ec rfl)) rfl rfl ?_
    refine sy _ (zmv rfl (e rfl rfl)) rfl rfl ?_
    refine gs rfl rfl rfl (eg rfl rfl) rfl rfl ?_
    refine gs rfl rfl rfl (eg rfl rfl) rfl rfl ?_
    refine gs rfl rfl rfl (eg rfl rfl) rfl rfl ?_
    refine sy (.t ⟨false, [.d (dB (true))]⟩) (zpt rfl (e rfl rfl) rfl (ec rfl)) rfl rfl ?_
    refine sy _ (zmv rfl (e rfl rfl)) rfl rfl ?_
    refine gs rfl rfl rfl (eg rfl rfl) rfl rfl ?_
    refine gs rfl rfl rfl (eg rfl rfl) rfl rfl ?_
    refine gs rfl rfl rfl (eg rfl rfl) rfl rfl ?_
    refine sy (.t ⟨false, [.d (dB (true))]⟩) (zpt rfl (e rfl rfl) rfl (ec rfl)) rfl rfl ?_
    refine sy _ (zmv rfl (e rfl rfl)) rfl rfl ?_
    refine gs rfl rfl rfl (eg rfl rfl) rfl rfl ?_
    refine gs rfl rfl rfl (eg rfl rfl) rfl rfl ?_
    refine gs rfl rfl rfl (eg rfl rfl) rfl rfl ?_
    refine sy (.t ⟨false, [.d (dB (true))]⟩) (zpt rfl (e rfl rfl) rfl (ec rfl)) rfl rfl ?_
    refine sy _ (zmv rfl (e rfl rfl)) rfl rfl ?_
    refine gs rfl rfl rfl (eg rfl rfl) rfl rfl ?_
    refine gs rfl rfl rfl (eg rfl rfl) rfl rfl ?_
    refine gs rfl rfl rfl (eg rfl rfl) rfl rfl ?_
    refine sy (.t ⟨false, [.d (dB (true))]⟩) (zpt rfl (e rfl rfl) rfl (ec rfl)) rfl rfl ?_
    refine sy _ (zmv rfl (e rfl rfl)) rfl rfl ?_
    refine gs rfl rfl rfl (eg rfl rfl) rfl rfl ?_
    refine gs rfl rfl rfl (eg rfl rfl) rfl rfl ?_
    refine gs rfl rfl rfl (eg rfl rfl) rfl rfl ?_
    refine gs rfl rfl rfl (eg rfl rfl) rfl rfl ?_
    refine sy (.t ⟨false, [.d (dB (true))]⟩) (zpt rfl (e rfl rfl) rfl (ec rfl)) rfl rfl ?_
    refine s_end ?_
    refine v_cT (e rfl rfl) rfl ?_
    refine v_seq ?_
    refine v_reg ?_
    refine sy _ (zas rfl (ec rfl)) rfl rfl ?_
    refine s_end ?_
    refine v_ret ?_
    subst hr
    exact post_ret (rv (.tmp (eg rfl rfl)) rfl (.lf .nil) rfl .nil) (.ro .nil) rfl
  replace hr := bf_f hg11 hr
  have hn13 := not_f hg11
  refine gr rfl rfl rfl (eg rfl rfl) hg11 ?_
  refine sy (.t ⟨false, [.vp 0 2]⟩) (zfa tabOk rfl rfl rfl (e rfl rfl) rfl rfl) rfl rfl ?_
  refine gr rfl rfl rfl (eg rfl rfl) hg11 ?_
  refine sy (.t ⟨false, [.vp 0 2]⟩) (zfa tabOk rfl rfl rfl (e rfl rfl) rfl rfl) rfl rfl ?_
  refine gr rfl rfl rfl (eg rfl rfl) hg11 ?_
  refine sy (.t ⟨false, [.d (dS (a0.Q.Name))]⟩) (zlv tabOk rfl (e rfl rfl) rfl rfl rfl) rfl rfl ?_
  refine gr rfl rfl rfl (eg rfl rfl) hg11 ?_
  refine sy (.t ⟨false, [.vp 0 5]⟩) (zfa tabOk rfl rfl rfl (e rfl rfl) rfl rfl) rfl rfl ?_
  refine gr rfl rfl rfl (eg rfl rfl) hg11 ?_
  refine sy (.t ⟨false, [.d (dS (a0.Apex))]⟩) (zlv tabOk rfl (e rfl rfl) rfl rfl rfl) rfl rfl ?_
  refine gr rfl rfl rfl (eg rfl rfl) hg11 ?_
  refine sd (.t ⟨false, [.d (dB (n_spec_Under a0.Q.Name a0.Apex))]⟩) (zcd (.t ⟨false, [.d (dB (n_spec_Under a0.Q.Name a0.Apex))]⟩) rfl (tr2_n_impl_Under a0.Q.Name a0.Apex h0.Q.Name h0.Apex) (ar (e rfl rfl) (.d .nil) (ar (e rfl rfl) (.d .nil) .nil)) rfl) rfl rfl rfl rfl ?_
  refine gr rfl rfl rfl (eg rfl rfl) hg11 ?_
  refine sy (.t ⟨false, [.d (dB (!(n_spec_Under a0.Q.Name a0.Apex)))]⟩) (y_un rfl (e rfl rfl) (fun _ => u_not) rfl) rfl rfl ?_
  refine sy (.t ⟨false, [.d (dB (!(n_spec_Under a0.Q.Name a0.Apex)))]⟩) (zpf rfl (e rfl rfl) hg11 (e rfl rfl)) rfl rfl ?_
  refine sy _ (zmv rfl (e rfl rfl)) rfl rfl ?_
  rcases Bool.eq_false_or_eq_true (!(n_spec_Under a0.Q.Name a0.Apex)) with hg14 | hg14
  · replace hr := bf_t hg14 hr
    have hn15 := not_t hg14
    refine gs rfl rfl rfl (eg rfl rfl) hg14 rfl ?_
    refine gs rfl rfl rfl (eg rfl rfl) hg14 rfl ?_
    refine gs rfl rfl rfl (eg rfl rfl) hg14 rfl ?_
    refine sy (.t ⟨false, [.d (dB (true))]⟩) (zpt rfl (e rfl rfl) hg14 (ec rfl)) rfl rfl ?_
    refine sy _ (zmv rfl (e rfl rfl)) rfl rfl ?_
    refine gs rfl rfl rfl (eg rfl rfl) rfl rfl ?_
    refine gs rfl rfl rfl (eg rfl rfl) rfl rfl ?_
    refine gs rfl rfl rfl (eg rfl rfl) rfl rfl ?_
    refine sy (.t ⟨false, [.d (dB (true))]⟩) (zpt rfl (e rfl rfl) rfl (ec rfl)) rfl rfl ?_
    refine sy _ (zmv rfl (e rfl rfl)) rfl rfl ?_
    refine gs rfl rfl rfl (eg rfl rfl) rfl rfl ?_
    refine gs rfl rfl rfl (eg rfl rfl) rfl rfl ?_
    refine gs rfl rfl rfl (eg rfl rfl) rfl rfl ?_
    refine sy (.t ⟨false, [.d (dB (true))]⟩) (zpt rfl (e rfl rfl) rfl (ec rfl)) rfl rfl ?_
    refine sy _ (zmv rfl (e rfl rfl)) rfl rfl ?_
    refine gs rfl rfl rfl (eg rfl rfl) rfl rfl ?_
    refine gs rfl rfl rfl (eg rfl rfl) rfl rfl ?_
    refine gs rfl rfl rfl (eg rfl rfl) rfl rfl ?_
    refine sy (.t ⟨false, [.d (dB (true))]⟩) (zpt rfl (e rfl rfl) rfl (ec rfl)) rfl rfl ?_
    refine sy _ (zmv rfl (e rfl rfl)) rfl rfl ?_
    refine gs rfl rfl rfl (eg rfl rfl) rfl rfl ?_
    refine gs rfl rfl rfl (eg rfl rfl) rfl rfl ?_
    refine gs rfl rfl rfl (eg rfl rfl) rfl rfl ?_
    refine gs rfl rfl rfl (eg rfl rfl) rfl rfl ?_
    refine sy (.t ⟨false, [.d (dB (true))]⟩) (zpt rfl (e rfl rfl) rfl (ec rfl)) rfl rfl ?_
    refine s_end ?_
    refine v_cT (e rfl rfl) rfl ?_
    refine v_seq ?_
    refine v_reg ?_
    refine sy _ (zas rfl (ec rfl)) rfl rfl ?_
    refine s_end ?_
    refine v_ret ?_
    subst hr
    exact post_ret (rv (.tmp (eg rfl rfl)) rfl (.lf .nil) rfl .nil) (.ro .nil) rfl
  replace hr := bf_f hg14 hr
  have hn16 := not_f hg14
  refine gr rfl rfl rfl (eg rfl rfl) hg14 ?_
  refine sy (.t ⟨false, [.vp 0 8]⟩) (zfa tabOk rfl rfl rfl (e rfl rfl) rfl rfl) rfl rfl ?_
  refine gr rfl rfl rfl (eg rfl rfl) hg14 ?_
  refine sy (.t ⟨false, [.d (dI (a0.Down))]⟩) (zlv tabOk rfl (e rfl rfl) rfl rfl rfl) rfl rfl ?_
  refine gr rfl rfl rfl (eg rfl rfl) hg14 ?_
  refine sy (.t ⟨false, [.d (dB (decide ((a0.Down) < (0))))]⟩) (y_bin rfl (e rfl rfl) (ec rfl) (fun _ => b_lss) rfl) rfl rfl ?_
  refine sy (.t ⟨false, [.d (dB (decide ((a0.Down) < (0))))]⟩) (zpf rfl (e rfl rfl) hg14 (e rfl rfl)) rfl rfl ?_
  refine sy _ (zmv rfl (e rfl rfl)) rfl rfl ?_
  rcases Bool.eq_false_or_eq_true (decide ((a0.Down) < (0))) with hg17 | hg17
  · replace hr := bf_t hg17 hr
    have hg17p := dec_t hg17
    refine gs rfl rfl rfl (eg rfl rfl) hg17 rfl ?_
    refine gs rfl rfl rfl (eg rfl rfl) hg17 rfl ?_
    refine gs rfl rfl rfl (eg rfl rfl) hg17 rfl ?_
    refine sy (.t ⟨false, [.d (dB (true))]⟩) (zpt rfl (e rfl rfl) hg17 (ec rfl)) rfl rfl ?_
    refine sy _ (zmv rfl (e rfl rfl)) rfl rfl ?_
    refine gs rfl rfl rfl (eg rfl rfl) rfl rfl ?_
    refine gs rfl rfl rfl (eg rfl rfl) rfl rfl ?_
    refine gs rfl rfl rfl (eg rfl rfl) rfl rfl ?_
    refine sy (.t ⟨false, [.d (dB (true))]⟩) (zpt rfl (e rfl rfl) rfl (ec rfl)) rfl rfl ?_
    refine sy _ (zmv rfl (e rfl rfl)) rfl rfl ?_
    refine gs rfl rfl rfl (eg rfl rfl) rfl rfl ?_
    refine gs rfl rfl rfl (eg rfl rfl) rfl rfl ?_
    refine gs rfl rfl rfl (eg rfl rfl) rfl rfl ?_
    refine sy (.t ⟨false, [.d (dB (true))]⟩) (zpt rfl (e rfl rfl) rfl (ec rfl)) rfl rfl ?_
    refine sy _ (zmv rfl (e rfl rfl)) rfl rfl ?_
    refine gs rfl rfl rfl (eg rfl rfl) rfl rfl ?_
    refine gs rfl rfl rfl (eg rfl rfl) rfl rfl ?_
    refine gs rfl rfl rfl (eg rfl rfl) rfl rfl ?_
    refine gs rfl rfl rfl (eg rfl rfl) rfl rfl ?_
    refine sy (.t ⟨false, [.d (dB (true))]⟩) (zpt rfl (e rfl rfl) rfl (ec rfl)) rfl rfl ?_
    refine s_end ?_
    refine v_cT (e rfl rfl) rfl ?_
    refine v_seq ?_
    refine v_reg ?_
    refine sy _ (zas rfl (ec rfl)) rfl rfl ?_
    refine s_end ?_
    refine v_ret ?_
    subst hr
    exact post_ret (rv (.tmp (eg rfl rfl)) rfl (.lf .nil) rfl .nil) (.ro .nil) rfl
  replace hr := bf_f hg17 hr
  have hg17p := dec_f hg17
  refine gr rfl rfl rfl (eg rfl rfl) hg17 ?_
  refine sy (.t ⟨false, [.vp 0 9]⟩) (zfa tabOk rfl rfl rfl (e rfl rfl) rfl rfl) rfl rfl ?_
  refine gr rfl rfl rfl (eg rfl rfl) hg17 ?_
  refine sy (.t ⟨false, [.d (dI (a0.Left))]⟩) (zlv tabOk rfl (e rfl rfl) rfl rfl rfl) rfl rfl ?_
  refine gr rfl rfl rfl (eg rfl rfl) hg17 ?_
  refine sy (.t ⟨false, [.d (dB (decide ((a0.Left) < (0))))]⟩) (y_bin rfl (e rfl rfl) (ec rfl) (fun _ => b_lss) rfl) rfl rfl ?_
  refine sy (.t ⟨false, [.d (dB (decide ((a0.Left) < (0))))]⟩) (zpf rfl (e rfl rfl) hg17 (e rfl rfl)) rfl rfl ?_
  refine sy _ (zmv rfl (e rfl rfl)) rfl rfl ?_
  rcases Bool.eq_false_or_eq_true (decide ((a0.Left) < (0))) with hg18 | hg18
  · replace hr := bf_t hg18 hr
    have hg18p := dec_t hg18
    refine gs rfl rfl rfl (eg rfl rfl) hg18 rfl ?_
    refine gs rfl rfl rfl (eg rfl rfl) hg18 rfl ?_
    refine gs rfl rfl rfl (eg rfl rfl) hg18 rfl ?_
    refine sy (.t ⟨false, [.d (dB (true))]⟩) (zpt rfl (e rfl rfl) hg18 (ec rfl)) rfl rfl ?_
    refine sy _ (zmv rfl (e rfl rfl)) rfl rfl ?_
    refine gs rfl rfl rfl (eg rfl rfl) rfl rfl ?_
    refine gs rfl rfl rfl (eg rfl rfl) rfl rfl ?_
    refine gs rfl rfl rfl (eg rfl rfl) rfl rfl ?_
    refine sy (.t ⟨false, [.d (dB (true))]⟩) (zpt rfl (e rfl rfl) rfl (ec rfl)) rfl rfl ?_
    refine sy _ (zmv rfl (e rfl rfl)) rfl rfl ?_
    refine gs rfl rfl rfl (eg rfl rfl) rfl rfl ?_
    refine gs rfl rfl rfl (eg rfl rfl) rfl rfl ?_
    refine gs rfl rfl rfl (eg rfl rfl) rfl rfl ?_
    refine gs rfl rfl rfl (eg rfl rfl) rfl rfl ?_
    refine sy (.t ⟨false, [.d (dB (true))]⟩) (zpt rfl (e rfl rfl) rfl (ec rfl)) rfl rfl ?_
    refine s_end ?_
    refine v_cT (e rfl rfl) rfl ?_
    refine v_seq ?_
    refine v_reg ?_
    refine sy _ (zas rfl (ec rfl)) rfl rfl ?_
    refine s_end ?_
    refine v_ret ?_
    subst hr
    exact post_ret (rv (.tmp (eg rfl rfl)) rfl (.lf .nil) rfl .nil) (.ro .nil) rfl
  replace hr := bf_f hg18 hr
  have hg18p := dec_f hg18
  refine gr rfl rfl rfl (eg rfl rfl) hg18 ?_
  refine sy (.t ⟨false, [.vp 0 10]⟩) (zfa tabOk rfl rfl rfl (e rfl rfl) rfl rfl) rfl rfl ?_
  refine gr rfl rfl rfl (eg rfl rfl) hg18 ?_
  refine sy (.t ⟨false, [.d (dI (a0.Pc))]⟩) (zlv tabOk rfl (e rfl rfl) rfl rfl rfl) rfl rfl ?_
  refine gr rfl rfl rfl (eg rfl rfl) hg18 ?_
  refine sy (.t ⟨false, [.d (dB (decide ((a0.Pc) < (1))))]⟩) (y_bin rfl (e rfl rfl) (ec rfl) (fun _ => b_lss) rfl) rfl rfl ?_
  refine sy (.t ⟨false, [.d (dB (decide ((a0.Pc) < (1))))]⟩) (zpf rfl (e rfl rfl) hg18 (e rfl rfl)) rfl rfl ?_
  refine sy _ (zmv rfl (e rfl rfl)) rfl rfl ?_
  rcases Bool.eq_false_or_eq_true (decide ((a0.Pc) < (1))) with hg19 | hg19
  · replace hr := bf_t hg19 hr
    have hg19p := dec_t hg19
    refine gs rfl rfl rfl (eg rfl rfl) hg19 rfl ?_
    refine gs rfl rfl rfl (eg rfl rfl) hg19 rfl ?_
    refine gs rfl rfl rfl (eg rfl rfl) hg19 rfl ?_
    refine sy (.t ⟨false, [.d (dB (true))]⟩) (zpt rfl (e rfl rfl) hg19 (ec rfl)) rfl rfl ?_
    refine sy _ (zmv rfl (e rfl rfl)) rfl rfl ?_
    refine gs rfl rfl rfl (eg rfl rfl) rfl rfl ?_
    refine gs rfl rfl rfl (eg rfl rfl) rfl rfl ?_
    refine gs rfl rfl rfl (eg rfl rfl) rfl rfl ?_
    refine gs rfl rfl rfl (eg rfl rfl) rfl rfl ?_
    refine sy (.t ⟨false, [.d (dB (true))]⟩) (zpt rfl (e rfl rfl) rfl (ec rfl)) rfl rfl ?_
    refine s_end ?_
    refine v_cT (e rfl rfl) rfl ?_
    refine v_seq ?_
    refine v_reg ?_
    refine sy _ (zas rfl (ec rfl)) rfl rfl ?_
    refine s_end ?_
    refine v_ret ?_
    subst hr
    exact post_ret (rv (.tmp (eg rfl rfl)) rfl (.lf .nil) rfl .nil) (.ro .nil) rfl
  replace hr := bf_f hg19 hr
  have hg19p := dec_f hg19
  refine gr rfl rfl rfl (eg rfl rfl) hg19 ?_
  refine sy (.t ⟨false, [.vp 0 10]⟩) (zfa tabOk rfl rfl rfl (e rfl rfl) rfl rfl) rfl rfl ?_
  refine gr rfl rfl rfl (eg rfl rfl) hg19 ?_
  refine sy (.t ⟨false, [.d (dI (a0.Pc))]⟩) (zlv tabOk rfl (e rfl rfl) rfl rfl rfl) rfl rfl ?_
  refine gr rfl rfl rfl (eg rfl rfl) hg19 ?_
  refine sy (.t ⟨false, [.d (dB (decide ((5) < (a0.Pc))))]⟩) (y_bin rfl (e rfl rfl) (ec rfl) (fun _ => b_gtr) rfl) rfl rfl ?_
  refine sy (.t ⟨false, [.d (dB (decide ((5) < (a0.Pc))))]⟩) (zpf rfl (e rfl rfl) hg19 (e rfl rfl)) rfl rfl ?_
  refine sy _ (zmv rfl (e rfl rfl)) rfl rfl ?_
  rcases Bool.eq_false_or_eq_true (decide ((5) < (a0.Pc))) with hg20 | hg20
  · replace hr := bf_t hg20 hr
    have hg20p := dec_t hg20
    refine gs rfl rfl rfl (eg rfl rfl) hg20 rfl ?_
    refine gs rfl rfl rfl (eg rfl rfl) hg20 rfl ?_
    refine gs rfl rfl rfl (eg rfl rfl) hg20 rfl ?_
    refine gs rfl rfl rfl (eg rfl rfl) hg20 rfl ?_
    refine sy (.t ⟨false, [.d (dB (true))]⟩) (zpt rfl (e rfl rfl) hg20 (ec rfl)) rfl rfl ?_
    refine s_end ?_
    refine v_cT (e rfl rfl) rfl ?_
    refine v_seq ?_
    refine v_reg ?_
    refine sy _ (zas rfl (ec rfl)) rfl rfl ?_
    refine s_end ?_
    refine v_ret ?_
    subst hr
    exact post_ret (rv (.tmp (eg rfl rfl)) rfl (.lf .nil) rfl .nil) (.ro .nil) rfl
  replace hr := bf_f hg20 hr
  have hg20p := dec_f hg20
  refine gr rfl rfl rfl (eg rfl rfl) hg20 ?_
  refine sy (.t ⟨false, [.vp 0 11]⟩) (zfa tabOk rfl rfl rfl (e rfl rfl) rfl rfl) rfl rfl ?_
  refine gr rfl rfl rfl (eg rfl rfl) hg20 ?_
  refine sy (.t ⟨true, [.d (dI (a0.X.Id)), .d (dI (a0.X.Addr)), .d (dI (a0.X.Try)), .d (dI (a0.X.Due))]⟩) (zlv tabOk rfl (e rfl rfl) rfl rfl rfl) rfl rfl ?_
  refine gr rfl rfl rfl (eg rfl rfl) hg20 ?_
  refine sd (.t ⟨false, [.d (dB (n_spec_ExchOk a0.X))]⟩) (zcd (.t ⟨false, [.d (dB (n_spec_ExchOk a0.X))]⟩) rfl (tr2_n_impl_ExchOk a0.X h0.X) (ar (e rfl rfl) (.d (.d (.d (.d .nil)))) .nil) rfl) rfl rfl rfl rfl ?_
  refine gr rfl rfl rfl (eg rfl rfl) hg20 ?_
  refine sy (.t ⟨false, [.d (dB (!(n_spec_ExchOk a0.X)))]⟩) (y_un rfl (e rfl rfl) (fun _ => u_not) rfl) rfl rfl ?_
  refine sy (.t ⟨false, [.d (dB (!(n_spec_ExchOk a0.X)))]⟩) (zpf rfl (e rfl rfl) hg20 (e rfl rfl)) rfl rfl ?_
  refine s_end ?_
  refine v_cond (e rfl rfl) (fun hb21 => ?_) fun hb21 => ?_
  · replace hr := bf_t hb21 hr
    have hn22 := not_t hb21
    refine v_seq ?_
    refine v_reg ?_
    refine sy _ (zas rfl (ec rfl)) rfl rfl ?_
    refine s_end ?_
    refine v_ret ?_
    subst hr
    exact post_ret (rv (.tmp (eg rfl rfl)) rfl (.lf .nil) rfl .nil) (.ro .nil) rfl
  replace hr := bf_f hb21 hr
  have hn23 := not_f hb21
  refine v_skip ?_
  refine v_seq ?_
  refine v_seq ?_
  refine v_reg ?_
  refine sy (.t ⟨false, [.vp 0 6]⟩) (zfa tabOk rfl rfl rfl (e rfl rfl) rfl rfl) rfl rfl ?_
  refine sy (.t ⟨false, [.d (.sl 1 (a0.Servers.map encI))]⟩) (zlv tabOk rfl (e rfl rfl) rfl rfl rfl) rfl rfl ?_
  refine sd (.t ⟨false, [.d (dB (n_slices_ContainsFunc_int a0.Servers (fun x0 => n_impl_FrameOk_c1 x0)))]⟩) (zcd (.t ⟨false, [.d (dB (n_slices_ContainsFunc_int a0.Servers (fun x0 => n_impl_FrameOk_c1 x0)))]⟩) rfl (tr_n_slices_ContainsFunc_int a0.Servers 48 [] (fun x0 => n_impl_FrameOk_c1 x0) h0.Servers (fun x0 => tr_n_impl_FrameOk_c1 x0)) (ar (e rfl rfl) (.d .nil) (ar rfl (.cl .nil .nil) .nil)) rfl) rfl rfl rfl rfl ?_
  refine sy _ (zmv rfl (e rfl rfl)) rfl rfl ?_
  rcases Bool.eq_false_or_eq_true (n_slices_ContainsFunc_int a0.Servers (fun x0 => n_impl_FrameOk_c1 x0)) with hg24 | hg24
  · replace hr := bf_t hg24 hr
    refine gs rfl rfl rfl (eg rfl rfl) hg24 rfl ?_
    refine gs rfl rfl rfl (eg rfl rfl) hg24 rfl ?_
    refine gs rfl rfl rfl (eg rfl rfl) hg24 rfl ?_
    refine sy (.t ⟨false, [.d (dB (true))]⟩) (zpt rfl (e rfl rfl) hg24 (ec rfl)) rfl rfl ?_
    refine s_end ?_
    refine v_cT (e rfl rfl) rfl ?_
    refine v_seq ?_
    refine v_reg ?_
    refine sy _ (zas rfl (ec rfl)) rfl rfl ?_
    refine s_end ?_
    refine v_ret ?_
    subst hr
    exact post_ret (rv (.tmp (eg rfl rfl)) rfl (.lf .nil) rfl .nil) (.ro .nil) rfl
  replace hr := bf_f hg24 hr
  refine gr rfl rfl rfl (eg rfl rfl) hg24 ?_
  refine sy (.t ⟨false, [.vp 0 7]⟩) (zfa tabOk rfl rfl rfl (e rfl rfl) rfl rfl) rfl rfl ?_
  refine gr rfl rfl rfl (eg rfl rfl) hg24 ?_
  refine sy (.t ⟨false, [.d (.sl 1 (a0.Need.map encS))]⟩) (zlv tabOk rfl (e rfl rfl) rfl rfl rfl) rfl rfl ?_
  refine gr rfl rfl rfl (eg rfl rfl) hg24 ?_
  refine sd (.t ⟨false, [.d (dB (n_slices_ContainsFunc_string a0.Need (fun x0 => n_impl_FrameOk_c2 x0)))]⟩) (zcd (.t ⟨false, [.d (dB (n_slices_ContainsFunc_string a0.Need (fun x0 => n_impl_FrameOk_c2 x0)))]⟩) rfl (tr_n_slices_ContainsFunc_string a0.Need 51 [] (fun x0 => n_impl_FrameOk_c2 x0) h0.Need (fun x0 k0 => tr_n_impl_FrameOk_c2 x0 k0)) (ar (e rfl rfl) (.d .nil) (ar rfl (.cl .nil .nil) .nil)) rfl) rfl rfl rfl rfl ?_
  refine sy (.t ⟨false, [.d (dB (n_slices_ContainsFunc_string a0.Need (fun x0 => n_impl_FrameOk_c2 x0)))]⟩) (zpf rfl (e rfl rfl) hg24 (e rfl rfl)) rfl rfl ?_
  refine s_end ?_
  refine v_cond (e rfl rfl) (fun hb25 => ?_) fun hb25 => ?_
  · replace hr := bf_t hb25 hr
    refine v_seq ?_
    refine v_reg ?_
    refine sy _ (zas rfl (ec rfl)) rfl rfl ?_
    refine s_end ?_
    refine v_ret ?_
    subst hr
    exact post_ret (rv (.tmp (eg rfl rfl)) rfl (.lf .nil) rfl .nil) (.ro .nil) rfl
  replace hr := bf_f hb25 hr
  refine v_skip ?_
  refine v_seq ?_
  refine v_seq ?_
  refine v_reg ?_
  refine sy (.t ⟨false, [.vp 0 10]⟩) (zfa tabOk rfl rfl rfl (e rfl rfl) rfl rfl) rfl rfl ?_
  refine sy (.t ⟨false, [.d (dI (a0.Pc))]⟩) (zlv tabOk rfl (e rfl rfl) rfl rfl rfl) rfl rfl ?_
  refine sy (.t ⟨false, [.d (dB (decide ((a0.Pc) = (3))))]⟩) (y_bin rfl (e rfl rfl) (ec rfl) (fun _ => b_eql) rfl) rfl rfl ?_
  refine s_end ?_
  refine v_cond (e rfl rfl) (fun hb26 => ?_) fun hb26 => ?_
  · replace hr := bf_t hb26 hr
    have hb26p := dec_t hb26
    refine v_seq ?_
    rcases Bool.eq_false_or_eq_true (decide ((0) < (a0.X.Try))) with hg27 | hg27
    · replace hr := bf_t hg27 hr
      have hg27p := dec_t hg27
      have hB1 := (h0.Servers).1
      rcases Bool.eq_false_or_eq_true (decide ((0) < (((a0.Servers).length : Int)))) with hg28 | hg28
      · replace hr := bf_t hg28 hr
        have hg28p := dec_t hg28
        obtain ⟨x1, hx1⟩ : ∃ x, (a0.Servers)[0]? = some x := some_of_lt (by omega)
        replace hr := at_step hx1 hr
        refine v_drw2 [⟨.t ⟨false, [.vp 0 11]⟩, [], [1], [], false⟩, ⟨.t ⟨false, [.vp 0 13]⟩, [], [80], [], false⟩, ⟨.t ⟨false, [.d (dI (a0.X.Try))]⟩, [], [81], [0], false⟩, ⟨.t ⟨false, [.d (dB (decide ((0) < (a0.X.Try))))]⟩, [], [82], [], false⟩, ⟨.t ⟨false, [.d (dB (decide ((0) < (a0.X.Try))))]⟩, [], [83], [], false⟩, ⟨.t ⟨false, [.vp 0 6]⟩, [], [84, 1], [], false⟩, ⟨.t ⟨false, [.d (.sl 1 (a0.Servers.map encI))]⟩, [], [84, 85], [0], false⟩, ⟨.t ⟨false, [.d (dI ((a0.Servers).length : Int))]⟩, [], [84, 86], [], false⟩, ⟨.t ⟨false, [.d (dB (decide ((0) < (((a0.Servers).length : Int)))))]⟩, [], [84, 87], [], false⟩, ⟨.t ⟨false, [.d (dB (decide ((0) < (((a0.Servers).length : Int)))))]⟩, [], [84, 88], [], false⟩, ⟨.t ⟨false, [.d (dB (decide ((0) < (((a0.Servers).length : Int)))))]⟩, [], [89], [], false⟩, ⟨.t ⟨false, [.vp 0 6]⟩, [], [90, 1], [], false⟩, ⟨.t ⟨false, [.d (.sl 1 (a0.Servers.map encI))]⟩, [], [90, 91], [0], false⟩, ⟨.t ⟨false, [.fe 1 (a0.Servers.map encI) 0 0]⟩, [], [90, 92], [], false⟩, ⟨.t ⟨false, [.d (dI (x1))]⟩, [], [90, 93], [], false⟩, ⟨.t ⟨false, [.vp 0 11]⟩, [], [90, 1], [], false⟩, ⟨.t ⟨false, [.vp 0 12]⟩, [], [90, 95], [], false⟩, ⟨.t ⟨false, [.d (dI (a0.X.Addr))]⟩, [], [90, 96], [0], false⟩, ⟨.t ⟨false, [.d (dB (decide ((x1) = (a0.X.Addr))))]⟩, [], [90, 94, 97], [], false⟩, ⟨.t ⟨false, [.d (dB (decide ((x1) = (a0.X.Addr))))]⟩, [], [90, 98], [], false⟩, ⟨.t ⟨false, [.d (dB (decide ((x1) = (a0.X.Addr))))]⟩, [], [99], [], false⟩] mixed (.c rfl (.c rfl (.c rfl (.c rfl (.c rfl (.c rfl (.c rfl (.c rfl (.c rfl (.c rfl (.c rfl (.c rfl (.c rfl (.c rfl (.c rfl (.c rfl (.c rfl (.c rfl (.c rfl (.c rfl (.c rfl .nil))))))))))))))))))))) (.s rfl (.s rfl (.s rfl (.s rfl (.s rfl (.s rfl (.s rfl (.s rfl (.s rfl (.s rfl (.s rfl (.s rfl (.s rfl (.s rfl (.s rfl (.s rfl (.s rfl (.s rfl (.s rfl (.s rfl (.s rfl .nil))))))))))))))))))))) (by kernel_rfl) (by kernel_rfl) ⟨gN rfl rfl (fun t h A => by exact dy (zfa tabOk rfl rfl rfl (A.e rfl rfl rfl) rfl rfl)), gN rfl rfl (fun t h A => by exact dy (zfa tabOk rfl rfl rfl (A.e rfl rfl rfl) rfl rfl)), gN rfl rfl (fun t h A => by exact dy (zlv tabOk rfl (A.e rfl rfl rfl) (A.h rfl rfl) rfl rfl)), gN rfl rfl (fun t h A => by exact dy (y_bin rfl (A.e rfl rfl rfl) (ec rfl) (fun _ => b_gtr) rfl)), gN rfl rfl (fun t h A => by exact dy (zmv rfl (A.e rfl rfl rfl))), gY rfl rfl rfl rfl rfl (eg rfl rfl) hg27 (fun t h A => by exact dy (zfa tabOk rfl rfl rfl (A.e rfl rfl rfl) rfl rfl)), gY rfl rfl rfl rfl rfl (eg rfl rfl) hg27 (fun t h A => by exact dy (zlv tabOk rfl (A.e rfl rfl rfl) (A.h rfl rfl) rfl rfl)), gY rfl rfl rfl rfl rfl (eg rfl rfl) hg27 (fun t h A => by exact dy (zlm tabOk rfl rfl (A.e rfl rfl rfl) .d)), gY rfl rfl rfl rfl rfl (eg rfl rfl) hg27 (fun t h A => by exact dy (y_bin rfl (A.e rfl rfl rfl) (ec rfl) (fun _ => b_gtr) rfl)), gN rfl rfl (fun t h A => by exact dy (zpt rfl (A.e rfl rfl rfl) hg27 (A.e rfl rfl rfl))), gN rfl rfl (fun t h A => by exact dy (zmv rfl (A.e rfl rfl rfl))), gY rfl rfl rfl rfl rfl (eg rfl rfl) hg28 (fun t h A => by exact dy (zfa tabOk rfl rfl rfl (A.e rfl rfl rfl) rfl rfl)), gY rfl rfl rfl rfl rfl (eg rfl rfl) hg28 (fun t h A => by exact dy (zlv tabOk rfl (A.e rfl rfl rfl) (A.h rfl rfl) rfl rfl)), gY rfl rfl rfl rfl rfl (eg rfl rfl) hg28 (fun t h A => by exact dy (zix tabOk rfl rfl rfl (A.e rfl rfl rfl) (ec rfl) (ltm_of_some hx1))), gY rfl rfl rfl rfl rfl (eg rfl rfl) hg28 (fun t h A => by exact dy (zle tabOk rfl (A.e rfl rfl rfl) (getm hx1) rfl rfl)), gY rfl rfl rfl rfl rfl (eg rfl rfl) hg28 (fun t h A => by exact dy (zfa tabOk rfl rfl rfl (A.e rfl rfl rfl) rfl rfl)), gY rfl rfl rfl rfl rfl (eg rfl rfl) hg28 (fun t h A => by exact dy (zfa tabOk rfl rfl rfl (A.e rfl rfl rfl) rfl rfl)), gY rfl rfl rfl rfl rfl (eg rfl rfl) hg28 (fun t h A => by exact dy (zlv tabOk rfl (A.e rfl rfl rfl) (A.h rfl rfl) rfl rfl)), gY rfl rfl rfl rfl rfl (eg rfl rfl) hg28 (fun t h A => by exact dy (y_bin rfl (A.e rfl rfl rfl) (A.e rfl rfl rfl) (fun _ => b_eql) rfl)), gN rfl rfl (fun t h A => by exact dy (zpt rfl (A.e rfl rfl rfl) hg28 (A.e rfl rfl rfl))), gN rfl rfl (fun t h A => by exact dy (zas rfl (A.e rfl rfl rfl))), trivial⟩ ?_
        refine s_end ?_
        refine v_ret ?_
        subst hr
        exact post_ret (rv (.tmp (eg rfl rfl)) rfl (.lf .nil) rfl .nil) (.ro .nil) rfl
      replace hr := bf_f hg28 hr
      have hg28p := dec_f hg28
      refine v_drw2 [⟨.t ⟨false, [.vp 0 11]⟩, [], [1], [], false⟩, ⟨.t ⟨false, [.vp 0 13]⟩, [], [80], [], false⟩, ⟨.t ⟨false, [.d (dI (a0.X.Try))]⟩, [], [81], [0], false⟩, ⟨.t ⟨false, [.d (dB (decide ((0) < (a0.X.Try))))]⟩, [], [82], [], false⟩, ⟨.t ⟨false, [.d (dB (decide ((0) < (a0.X.Try))))]⟩, [], [83], [], false⟩, ⟨.t ⟨false, [.vp 0 6]⟩, [], [84, 1], [], false⟩, ⟨.t ⟨false, [.d (.sl 1 (a0.Servers.map encI))]⟩, [], [84, 85], [0], false⟩, ⟨.t ⟨false, [.d (dI ((a0.Servers).length : Int))]⟩, [], [84, 86], [], false⟩, ⟨.t ⟨false, [.d (dB (decide ((0) < (((a0.Servers).length : Int)))))]⟩, [], [84, 87], [], false⟩, ⟨.t ⟨false, [.d (dB (decide ((0) < (((a0.Servers).length : Int)))))]⟩, [], [84, 88], [], false⟩, ⟨.t ⟨false, [.d (dB (decide ((0) < (((a0.Servers).length : Int)))))]⟩, [], [89], [], false⟩, ⟨.tu [], [], [90], [], true⟩, ⟨.tu [], [], [90], [], true⟩, ⟨.tu [], [], [90], [], true⟩, ⟨.tu [], [], [90], [], true⟩, ⟨.tu [], [], [90], [], true⟩, ⟨.tu [], [], [90], [], true⟩, ⟨.tu [], [], [90], [], true⟩, ⟨.tu [], [], [90], [], true⟩, ⟨.t ⟨false, [.d (dB (false))]⟩, [], [90], [], false⟩, ⟨.t ⟨false, [.d (dB (false))]⟩, [], [99], [], false⟩] mixed (.c rfl (.c rfl (.c rfl (.c rfl (.c rfl (.c rfl (.c rfl (.c rfl (.c rfl (.c rfl (.c rfl (.c rfl (.c rfl (.c rfl (.c rfl (.c rfl (.c rfl (.c rfl (.c rfl (.c rfl (.c rfl .nil))))))))))))))))))))) (.s rfl (.s rfl (.s rfl (.s rfl (.s rfl (.s rfl (.s rfl (.s rfl (.s rfl (.s rfl (.s rfl (.s rfl (.s rfl (.s rfl (.s rfl (.s rfl (.s rfl (.s rfl (.s rfl (.s rfl (.s rfl .nil))))))))))))))))))))) (by kernel_rfl) (by kernel_rfl) ⟨gN rfl rfl (fun t h A => by exact dy (zfa tabOk rfl rfl rfl (A.e rfl rfl rfl) rfl rfl)), gN rfl rfl (fun t h A => by exact dy (zfa tabOk rfl rfl rfl (A.e rfl rfl rfl) rfl rfl)), gN rfl rfl (fun t h A => by exact dy (zlv tabOk rfl (A.e rfl rfl rfl) (A.h rfl rfl) rfl rfl)), gN rfl rfl (fun t h A => by exact dy (y_bin rfl (A.e rfl rfl rfl) (ec rfl) (fun _ => b_gtr) rfl)), gN rfl rfl (fun t h A => by exact dy (zmv rfl (A.e rfl rfl rfl))), gY rfl rfl rfl rfl rfl (eg rfl rfl) hg27 (fun t h A => by exact dy (zfa tabOk rfl rfl rfl (A.e rfl rfl rfl) rfl rfl)), gY rfl rfl rfl rfl rfl (eg rfl rfl) hg27 (fun t h A => by exact dy (zlv tabOk rfl (A.e rfl rfl rfl) (A.h rfl rfl) rfl rfl)), gY rfl rfl rfl rfl rfl (eg rfl rfl) hg27 (fun t h A => by exact dy (zlm tabOk rfl rfl (A.e rfl rfl rfl) .d)), gY rfl rfl rfl rfl rfl (eg rfl rfl) hg27 (fun t h A => by exact dy (y_bin rfl (A.e rfl rfl rfl) (ec rfl) (fun _ => b_gtr) rfl)), gN rfl rfl (fun t h A => by exact dy (zpt rfl (A.e rfl rfl rfl) hg27 (A.e rfl rfl rfl))), gN rfl rfl (fun t h A => by exact dy (zmv rfl (A.e rfl rfl rfl))), gZ rfl rfl rfl rfl rfl rfl rfl (eg rfl rfl) hg28, gZ rfl rfl rfl rfl rfl rfl rfl (eg rfl rfl) hg28, gZ rfl rfl rfl rfl rfl rfl rfl (eg rfl rfl) hg28, gZ rfl rfl rfl rfl rfl rfl rfl (eg rfl rfl) hg28, gZ rfl rfl rfl rfl rfl rfl rfl (eg rfl rfl) hg28, gZ rfl rfl rfl rfl rfl rfl rfl (eg rfl rfl) hg28, gZ rfl rfl rfl rfl rfl rfl rfl (eg rfl rfl) hg28, gZ rfl rfl rfl rfl rfl rfl rfl (eg rfl rfl) hg28, gN rfl rfl (fun t h A => by exact dy (zpf rfl (A.e rfl rfl rfl) hg28 (ec rfl))), gN rfl rfl (fun t h A => by exact dy (zas rfl (A.e rfl rfl rfl))), trivial⟩ ?_
      refine s_end ?_
      refine v_ret ?_
      subst hr
      exact post_ret (rv (.tmp (eg rfl rfl)) rfl (.lf .nil) rfl .nil) (.ro .nil) rfl
    replace hr := bf_f hg27 hr
    have hg27p := dec_f hg27
    refine v_drw2 [⟨.t ⟨false, [.vp 0 11]⟩, [], [1], [], false⟩, ⟨.t ⟨false, [.vp 0 13]⟩, [], [80], [], false⟩, ⟨.t ⟨false, [.d (dI (a0.X.Try))]⟩, [], [81], [0], false⟩, ⟨.t ⟨false, [.d (dB (decide ((0) < (a0.X.Try))))]⟩, [], [82], [], false⟩, ⟨.t ⟨false, [.d (dB (decide ((0) < (a0.X.Try))))]⟩, [], [83], [], false⟩, ⟨.tu [], [], [84], [], true⟩, ⟨.tu [], [], [84], [], true⟩, ⟨.tu [], [], [84], [], true⟩, ⟨.tu [], [], [84], [], true⟩, ⟨.t ⟨false, [.d (dB (false))]⟩, [], [84], [], false⟩, ⟨.t ⟨false, [.d (dB (false))]⟩, [], [89], [], false⟩, ⟨.tu [], [], [90], [], true⟩, ⟨.tu [], [], [90], [], true⟩, ⟨.tu [], [], [90], [], true⟩, ⟨.tu [], [], [90], [], true⟩, ⟨.tu [], [], [90], [], true⟩, ⟨.tu [], [], [90], [], true⟩, ⟨.tu [], [], [90], [], true⟩, ⟨.tu [], [], [90], [], true⟩, ⟨.t ⟨false, [.d (dB (false))]⟩, [], [90], [], false⟩, ⟨.t ⟨false, [.d (dB (false))]⟩, [], [99], [], false⟩] mixed (.c rfl (.c rfl (.c rfl (.c rfl (.c rfl (.c rfl (.c rfl (.c rfl (.c rfl (.c rfl (.c rfl (.c rfl (.c rfl (.c rfl (.c rfl (.c rfl (.c rfl (.c rfl (.c rfl (.c rfl (.c rfl .nil))))))))))))))))))))) (.s rfl (.s rfl (.s rfl (.s rfl (.s rfl (.s rfl (.s rfl (.s rfl (.s rfl (.s rfl (.s rfl (.s rfl (.s rfl (.s rfl (.s rfl (.s rfl (.s rfl (.s rfl (.s rfl (.s rfl (.s rfl .nil))))))))))))))))))))) (by kernel_rfl) (by kernel_rfl) ⟨gN rfl rfl (fun t h A => by exact dy (zfa tabOk rfl rfl rfl (A.e rfl rfl rfl) rfl rfl)), gN rfl rfl (fun t h A => by exact dy (zfa tabOk rfl rfl rfl (A.e rfl rfl rfl) rfl rfl)), gN rfl rfl (fun t h A => by exact dy (zlv tabOk rfl (A.e rfl rfl rfl) (A.h rfl rfl) rfl rfl)), gN rfl rfl (fun t h A => by exact dy (y_bin rfl (A.e rfl rfl rfl) (ec rfl) (fun _ => b_gtr) rfl)), gN rfl rfl (fun t h A => by exact dy (zmv rfl (A.e rfl rfl rfl))), gZ rfl rfl rfl rfl rfl rfl rfl (eg rfl rfl) hg27, gZ rfl rfl rfl rfl rfl rfl rfl (eg rfl rfl) hg27, gZ rfl rfl rfl rfl rfl rfl rfl (eg rfl rfl) hg27, gZ rfl rfl rfl rfl rfl rfl rfl (eg rfl rfl) hg27, gN rfl rfl (fun t h A => by exact dy (zpf rfl (A.e rfl rfl rfl) hg27 (ec rfl))), gN rfl rfl (fun t h A => by exact dy (zmv rfl (A.e rfl rfl rfl))), gZ rfl rfl rfl rfl rfl rfl rfl (eg rfl rfl) rfl, gZ rfl rfl rfl rfl rfl rfl rfl (eg rfl rfl) rfl, gZ rfl rfl rfl rfl rfl rfl rfl (eg rfl rfl) rfl, gZ rfl rfl rfl rfl rfl rfl rfl (eg rfl rfl) rfl, gZ rfl rfl rfl rfl rfl rfl rfl (eg rfl rfl) rfl, gZ rfl rfl rfl rfl rfl rfl rfl (eg rfl rfl) rfl, gZ rfl rfl rfl rfl rfl rfl rfl (eg rfl rfl) rfl, gZ rfl rfl rfl rfl rfl rfl rfl (eg rfl rfl) rfl, gN rfl rfl (fun t h A => by exact dy (zpf rfl (A.e rfl rfl rfl) rfl (ec rfl))), gN rfl rfl (fun t h A => by exact dy (zas rfl (A.e rfl rfl rfl))), trivial⟩ ?_
    refine s_end ?_
    refine v_ret ?_
    subst hr
    exact post_ret (rv (.tmp (eg rfl rfl)) rfl (.lf .nil) rfl .nil) (.ro .nil) rfl
  replace hr := bf_f hb26 hr
  have hb26p := dec_f hb26
  refine v_skip ?_
  refine v_seq ?_
  refine v_reg ?_
  refine sy (.t ⟨false, [.vp 0 11]⟩) (zfa tabOk rfl rfl rfl (e rfl rfl) rfl rfl) rfl rfl ?_
  refine sy (.t ⟨true, [.d (dI (a0.X.Id)), .d (dI (a0.X.Addr)), .d (dI (a0.X.Try)), .d (dI (a0.X.Due))]⟩) (zlv tabOk rfl (e rfl rfl) rfl rfl rfl) rfl rfl ?_
  refine sy (.t ⟨true, [.d (dI (0)), .d (dI (0)), .d (dI (0)), .d (dI (0))]⟩) (zbd tabOk rfl rfl .nil) rfl rfl ?_
  refine sy (.t ⟨false, [.d (dB (decide (a0.X = (⟨0, 0, 0, 0⟩ : Exch))))]⟩) (zeqs35 (a := a0.X) (b := (⟨0, 0, 0, 0⟩ : Exch)) rfl (e rfl rfl) (e rfl rfl)) rfl rfl ?_
  refine sy _ (zas rfl (e rfl rfl)) rfl rfl ?_
  refine s_end ?_
  refine v_ret ?_
  subst hr
  exact post_ret (rv (.tmp (eg rfl rfl)) rfl (.lf .nil) rfl .nil) (.ro .nil) rfl
theorem any_int (xs : List Int) (p : Int → Bool) : n_slices_ContainsFunc_int xs p = xs.any p := by
  have := loop_idx (p := p) (xs := xs) (f := n_slices_IndexFunc_intL1 xs p) (fun n i => rfl) (xs.length + 1) 0 (Nat.zero_le _) (Nat.zero_add _)
  rw [List.drop_zero] at this
  exact this
theorem law_FrameOk (f : Frame) : n_impl_FrameOk f = n_spec_FrameOk f := by
  have l2 := loop_all (q := n_spec_NameOk) (xs := f.Need) (f := n_spec_FrameOkL2 f) (fun n i => rfl) (f.Need.length + 1) 0 (Nat.zero_le _) (Nat.zero_add _)
  have l1 := loop_all (q := fun x => n_spec_l1In x 0 2147483647) (xs := f.Servers) (f := n_spec_FrameOkL1 f) (fun n i => rfl) (f.Servers.length + 1) 0 (Nat.zero_le _) (Nat.zero_add _)
  rw [List.drop_zero] at l1 l2
  have hf : ∀ x, n_impl_isFour x = n_spec_l1In x 0 2147483647 := fun _ => rfl
  simp only [n_impl_FrameOk, n_spec_FrameOk, l1, l2, law_QuestOk, law_NameOk, law_Under, law_ExchOk, any_int, any_string, n_impl_FrameOk_c1, n_impl_FrameOk_c2, hf, impl_allOk_eq, spec_l7List_eq]
  cases n_spec_QuestOk f.Ask <;> simp only [Bool.not_true, Bool.not_false, cond_true, cond_false]
  cases n_spec_QuestOk f.Q <;> simp only [Bool.not_true, Bool.not_false, cond_true, cond_false]
  cases decide (f.Ask.Typ ≠ f.Q.Typ) <;> simp only [Bool.not_true, Bool.not_false, cond_true, cond_false]
  by_cases h6 : (f.Links.length : Int) ≤ 6
  · have e1 : decide (6 < (f.Links.length : Int)) = false := by simp; omega
    have e2 : decide ((f.Links.length : Int) ≤ 6) = true := by simp; omega
    have e3 : decide ((f.Links.length : Int) ≤ 8) = true := by simp; omega
    rw [e1, e2, e3]
    simp only [Bool.true_and, Bool.and_true, cond_false]
    cases f.Links.all n_spec_RecordOk <;> simp only [Bool.not_true, Bool.not_false, cond_true, cond_false]
    cases n_spec_NameOk f.Apex <;> simp only [Bool.not_true, Bool.not_false, cond_true, cond_false]
    cases n_spec_Under f.Q.Name f.Apex <;> simp only [Bool.not_true, Bool.not_false, cond_true, cond_false]
    cases decide (f.Down < 0) <;> simp only [Bool.not_true, Bool.not_false, cond_true, cond_false]
    cases decide (f.Left < 0) <;> simp only [Bool.not_true, Bool.not_false, cond_true, cond_false]
    by_cases p1 : f.Pc < 1
    · have q1 : n_spec_l1In f.Pc 1 5 = false := by
        have : decide (1 ≤ f.Pc) = false := by simp; omega
        simp only [n_spec_l1In, this, cond_false]
      simp [p1, q1]
    · by_cases p2 : 5 < f.Pc
      · have q1 : n_spec_l1In f.Pc 1 5 = false := by
          have h1 : decide (f.Pc ≤ 5) = false := by simp; omega
          simp only [n_spec_l1In, h1]
          cases decide (1 ≤ f.Pc) <;> rfl
        simp [p2, q1]
      · have q1 : n_spec_l1In f.Pc 1 5 = true := by
          have h1 : decide (f.Pc ≤ 5) = true := by simp; omega
          have h2 : decide (1 ≤ f.Pc) = true := by simp; omega
          simp only [n_spec_l1In, h1, h2, cond_true]
        have e4 : decide (f.Pc < 1) = false := by simp; omega
        have e5 : decide (5 < f.Pc) = false := by simp; omega
        rw [q1, e4, e5]
        simp only [Bool.not_true, cond_false]
        cases hx : n_spec_ExchOk f.X <;> simp only [Bool.not_true, Bool.not_false, cond_true, cond_false]
        have a1 : (f.Servers.any fun x0 => !(n_spec_l1In x0 0 2147483647)) = !(f.Servers.all fun x => n_spec_l1In x 0 2147483647) := by
          rw [← all_not_any, Bool.not_not]
        have a2 : (f.Need.any fun x0 => !(n_spec_NameOk x0)) = !(f.Need.all n_spec_NameOk) := by
          rw [← all_not_any, Bool.not_not]
        rw [a1, a2]
        cases f.Servers.all fun x => n_spec_l1In x 0 2147483647 <;> simp only [Bool.not_true, Bool.not_false, cond_true, cond_false, Bool.true_and, Bool.false_and]
        cases f.Need.all n_spec_NameOk <;> simp only [Bool.not_true, Bool.not_false, cond_true, cond_false, Bool.true_and, Bool.false_and]
        have hz : decide (f.X = (⟨0, 0, 0, 0⟩ : Exch)) = decide (f.X.Try = 0) := by
          by_cases ht : f.X.Try = 0
          · simp only [n_spec_ExchOk, ht, decide_true, cond_true] at hx
            rw [hx]; simp [ht]
          · have : ¬ f.X = (⟨0, 0, 0, 0⟩ : Exch) := fun e => ht (by rw [e])
            simp [ht, this]
        by_cases h3 : f.Pc = 3 <;> simp [h3, hz]
  · have e1 : decide (6 < (f.Links.length : Int)) = true := by simp; omega
    have e2 : decide ((f.Links.length : Int) ≤ 6) = false := by simp; omega
    rw [e1, e2]
    simp
theorem tr2_n_impl_FrameOk (a0 : Frame) (h0 : Frame.Fit a0) : Tr Tryd.prog 10 [.ro ⟨true, [dS (a0.Ask.Name), dI (a0.Ask.Typ), dS (a0.Q.Name), dI (a0.Q.Typ), .sl 6 (a0.Links.map Record.cells), dS (a0.Apex), .sl 1 (a0.Servers.map encI), .sl 1 (a0.Need.map encS), dI (a0.Down), dI (a0.Left), dI (a0.Pc), dI (a0.X.Id), dI (a0.X.Addr), dI (a0.X.Try), dI (a0.X.Due)]⟩] [⟨false, [dB ((n_spec_FrameOk a0))]⟩] := by
  have := tr_n_impl_FrameOk a0 h0 
  rwa [law_FrameOk a0] at this
end Go.Proofs.YtkcpbahcnlhmjaaDoor.V
