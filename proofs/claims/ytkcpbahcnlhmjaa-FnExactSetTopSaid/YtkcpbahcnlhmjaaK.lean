/-
  Marks.
-/
import Derived.Test.YtkcpbahcnlhmjaaM
import Derived.Test.YtkcpbahcnlhmjaaV28
namespace Go.Proofs.Ytkcpbahcnlhmjaa.V
open Go
set_option linter.unusedVariables false
set_option linter.unusedSimpArgs false
def mkQuest (a : Quest) (k : Int) : Quest × Int := (⟨mt k, nx k⟩, nx (nx k))
theorem mkQuest_lt : ∀ x k, k < 9223372036854775808 → (mkQuest x k).2 < 9223372036854775808 := fun x k h => nx_lt _
def mkvQuest (a : Quest) (k : Int) : Quest × Int := (⟨a.Name, a.Typ⟩, k)
def mkRecord (a : Record) (k : Int) : Record × Int := (⟨mt k, nx k, nx (nx k), nx (nx (nx k)), mt (nx (nx (nx (nx k)))), mt (nx (nx (nx (nx (nx k)))))⟩, nx (nx (nx (nx (nx (nx k))))))
theorem mkRecord_lt : ∀ x k, k < 9223372036854775808 → (mkRecord x k).2 < 9223372036854775808 := fun x k h => nx_lt _
def mkvRecord (a : Record) (k : Int) : Record × Int := (⟨a.Name, a.Typ, a.Ttl, a.N, a.Host, a.Text⟩, k)
def mkExch (a : Exch) (k : Int) : Exch × Int := (⟨k, nx k, nx (nx k), nx (nx (nx k))⟩, nx (nx (nx (nx k))))
theorem mkExch_lt : ∀ x k, k < 9223372036854775808 → (mkExch x k).2 < 9223372036854775808 := fun x k h => nx_lt _
def mkvExch (a : Exch) (k : Int) : Exch × Int := (⟨a.Id, a.Addr, a.Try, a.Due⟩, k)
def mkFrame (a : Frame) (k : Int) : Frame × Int := (⟨⟨mt k, nx k⟩, ⟨mt (nx (nx k)), nx (nx (nx k))⟩, (mkL mkRecord a.Links (nx (nx (nx (nx k))))).1, mt ((mkL mkRecord a.Links (nx (nx (nx (nx k))))).2), (mkL mkI a.Servers (nx ((mkL mkRecord a.Links (nx (nx (nx (nx k))))).2))).1, (mkL mkS a.Need ((mkL mkI a.Servers (nx ((mkL mkRecord a.Links (nx (nx (nx (nx k))))).2))).2)).1, (mkL mkS a.Need ((mkL mkI a.Servers (nx ((mkL mkRecord a.Links (nx (nx (nx (nx k))))).2))).2)).2, nx ((mkL mkS a.Need ((mkL mkI a.Servers (nx ((mkL mkRecord a.Links (nx (nx (nx (nx k))))).2))).2)).2), nx (nx ((mkL mkS a.Need ((mkL mkI a.Servers (nx ((mkL mkRecord a.Links (nx (nx (nx (nx k))))).2))).2)).2)), ⟨nx (nx (nx ((mkL mkS a.Need ((mkL mkI a.Servers (nx ((mkL mkRecord a.Links (nx (nx (nx (nx k))))).2))).2)).2))), nx (nx (nx (nx ((mkL mkS a.Need ((mkL mkI a.Servers (nx ((mkL mkRecord a.Links (nx (nx (nx (nx k))))).2))).2)).2)))), nx (nx (nx (nx (nx ((mkL mkS a.Need ((mkL mkI a.Servers (nx ((mkL mkRecord a.Links (nx (nx (nx (nx k))))).2))).2)).2))))), nx (nx (nx (nx (nx (nx ((mkL mkS a.Need ((mkL mkI a.Servers (nx ((mkL mkRecord a.Links (nx (nx (nx (nx k))))).2))).2)).2))))))⟩⟩, nx (nx (nx (nx (nx (nx (nx ((mkL mkS a.Need ((mkL mkI a.Servers (nx ((mkL mkRecord a.Links (nx (nx (nx (nx k))))).2))).2)).2))))))))
theorem mkFrame_lt : ∀ x k, k < 9223372036854775808 → (mkFrame x k).2 < 9223372036854775808 := fun x k h => nx_lt _
def mkvFrame (a : Frame) (k : Int) : Frame × Int := (⟨⟨a.Ask.Name, a.Ask.Typ⟩, ⟨a.Q.Name, a.Q.Typ⟩, (mkL mkRecord a.Links k).1, a.Apex, (mkL mkI a.Servers ((mkL mkRecord a.Links k).2)).1, (mkL mkS a.Need ((mkL mkI a.Servers ((mkL mkRecord a.Links k).2)).2)).1, a.Down, a.Left, a.Pc, ⟨a.X.Id, a.X.Addr, a.X.Try, a.X.Due⟩⟩, (mkL mkS a.Need ((mkL mkI a.Servers ((mkL mkRecord a.Links k).2)).2)).2)
def mkJob (a : Job) (k : Int) : Job × Int := (⟨k, nx k, ⟨mt (nx (nx k)), nx (nx (nx k))⟩, nx (nx (nx (nx k))), nx (nx (nx (nx (nx k)))), (mkL mkFrame a.Stack (nx (nx (nx (nx (nx (nx k))))))).1⟩, (mkL mkFrame a.Stack (nx (nx (nx (nx (nx (nx k))))))).2)
theorem mkJob_lt : ∀ x k, k < 9223372036854775808 → (mkJob x k).2 < 9223372036854775808 := fun x k h => (mkL_lt mkFrame_lt (nx_lt _))
def mkvJob (a : Job) (k : Int) : Job × Int := (⟨a.No, a.Client, ⟨a.Ask.Name, a.Ask.Typ⟩, a.Sent, a.Fetched, (mkL mkFrame a.Stack k).1⟩, (mkL mkFrame a.Stack k).2)
def mkConf (a : Conf) (k : Int) : Conf × Int := (⟨k, nx k, nx (nx k), nx (nx (nx k)), nx (nx (nx (nx k))), nx (nx (nx (nx (nx k)))), nx (nx (nx (nx (nx (nx k))))), (mkL mkI a.Roots (nx (nx (nx (nx (nx (nx (nx k)))))))).1⟩, (mkL mkI a.Roots (nx (nx (nx (nx (nx (nx (nx k)))))))).2)
theorem mkConf_lt : ∀ x k, k < 9223372036854775808 → (mkConf x k).2 < 9223372036854775808 := fun x k h => (mkL_lt mkI_lt (nx_lt _))
def mkvConf (a : Conf) (k : Int) : Conf × Int := (⟨a.Quota, a.Depth, a.Chain, a.Glue, a.Tries, a.Addrs, a.Cap, (mkL mkI a.Roots k).1⟩, (mkL mkI a.Roots k).2)
def mkEntry (a : Entry) (k : Int) : Entry × Int := (⟨⟨mt k, nx k⟩, nx (nx k), (mkL mkRecord a.L (nx (nx (nx k)))).1, (mkL mkRecord a.L (nx (nx (nx k)))).2, nx ((mkL mkRecord a.L (nx (nx (nx k)))).2)⟩, nx (nx ((mkL mkRecord a.L (nx (nx (nx k)))).2)))
theorem mkEntry_lt : ∀ x k, k < 9223372036854775808 → (mkEntry x k).2 < 9223372036854775808 := fun x k h => nx_lt _
def mkvEntry (a : Entry) (k : Int) : Entry × Int := (⟨⟨a.Q.Name, a.Q.Typ⟩, a.Kind, (mkL mkRecord a.L k).1, a.Rank, a.Until⟩, (mkL mkRecord a.L k).2)
def mkCache (a : Cache) (k : Int) : Cache × Int := (⟨k, (mkL mkEntry a.L (nx k)).1⟩, (mkL mkEntry a.L (nx k)).2)
theorem mkCache_lt : ∀ x k, k < 9223372036854775808 → (mkCache x k).2 < 9223372036854775808 := fun x k h => (mkL_lt mkEntry_lt (nx_lt _))
def mkvCache (a : Cache) (k : Int) : Cache × Int := (⟨a.Cap, (mkL mkEntry a.L k).1⟩, (mkL mkEntry a.L k).2)
def mkLame (a : Lame) (k : Int) : Lame × Int := (⟨k, mt (nx k), nx (nx k)⟩, nx (nx (nx k)))
theorem mkLame_lt : ∀ x k, k < 9223372036854775808 → (mkLame x k).2 < 9223372036854775808 := fun x k h => nx_lt _
def mkvLame (a : Lame) (k : Int) : Lame × Int := (⟨a.Addr, a.Apex, a.Until⟩, k)
def mkPacket (a : Packet) (k : Int) : Packet × Int := (⟨k, (mkL mkI a.B (nx k)).1⟩, (mkL mkI a.B (nx k)).2)
theorem mkPacket_lt : ∀ x k, k < 9223372036854775808 → (mkPacket x k).2 < 9223372036854775808 := fun x k h => (mkL_lt mkI_lt (nx_lt _))
def mkvPacket (a : Packet) (k : Int) : Packet × Int := (⟨a.Addr, (mkL mkI a.B k).1⟩, (mkL mkI a.B k).2)
def mkAnswer (a : Answer) (k : Int) : Answer × Int := (⟨k, nx k, nx (nx k), ⟨mt (nx (nx (nx k))), nx (nx (nx (nx k)))⟩, (mkL mkRecord a.Links (nx (nx (nx (nx (nx k)))))).1, (mkL mkRecord a.L ((mkL mkRecord a.Links (nx (nx (nx (nx (nx k)))))).2)).1, (mkL mkRecord a.L ((mkL mkRecord a.Links (nx (nx (nx (nx (nx k)))))).2)).2⟩, nx ((mkL mkRecord a.L ((mkL mkRecord a.Links (nx (nx (nx (nx (nx k)))))).2)).2))
theorem mkAnswer_lt : ∀ x k, k < 9223372036854775808 → (mkAnswer x k).2 < 9223372036854775808 := fun x k h => nx_lt _
def mkvAnswer (a : Answer) (k : Int) : Answer × Int := (⟨a.No, a.Client, a.Code, ⟨a.Q.Name, a.Q.Typ⟩, (mkL mkRecord a.Links k).1, (mkL mkRecord a.L ((mkL mkRecord a.Links k).2)).1, a.Sent⟩, (mkL mkRecord a.L ((mkL mkRecord a.Links k).2)).2)
def mkWorld (a : World) (k : Int) : World × Int := (⟨⟨k, nx k, nx (nx k), nx (nx (nx k)), nx (nx (nx (nx k))), nx (nx (nx (nx (nx k)))), nx (nx (nx (nx (nx (nx k))))), (mkL mkI a.C.Roots (nx (nx (nx (nx (nx (nx (nx k)))))))).1⟩, (mkL mkI a.C.Roots (nx (nx (nx (nx (nx (nx (nx k)))))))).2, ⟨nx ((mkL mkI a.C.Roots (nx (nx (nx (nx (nx (nx (nx k)))))))).2), (mkL mkEntry a.K.L (nx (nx ((mkL mkI a.C.Roots (nx (nx (nx (nx (nx (nx (nx k)))))))).2)))).1⟩, (mkL mkLame a.Bad ((mkL mkEntry a.K.L (nx (nx ((mkL mkI a.C.Roots (nx (nx (nx (nx (nx (nx (nx k)))))))).2)))).2)).1, (mkL mkJob a.Jobs ((mkL mkLame a.Bad ((mkL mkEntry a.K.L (nx (nx ((mkL mkI a.C.Roots (nx (nx (nx (nx (nx (nx (nx k)))))))).2)))).2)).2)).1, (mkL mkPacket a.Outs ((mkL mkJob a.Jobs ((mkL mkLame a.Bad ((mkL mkEntry a.K.L (nx (nx ((mkL mkI a.C.Roots (nx (nx (nx (nx (nx (nx (nx k)))))))).2)))).2)).2)).2)).1, (mkL mkAnswer a.Reps ((mkL mkPacket a.Outs ((mkL mkJob a.Jobs ((mkL mkLame a.Bad ((mkL mkEntry a.K.L (nx (nx ((mkL mkI a.C.Roots (nx (nx (nx (nx (nx (nx (nx k)))))))).2)))).2)).2)).2)).2)).1, (mkL mkAnswer a.Reps ((mkL mkPacket a.Outs ((mkL mkJob a.Jobs ((mkL mkLame a.Bad ((mkL mkEntry a.K.L (nx (nx ((mkL mkI a.C.Roots (nx (nx (nx (nx (nx (nx (nx k)))))))).2)))).2)).2)).2)).2)).2⟩, nx ((mkL mkAnswer a.Reps ((mkL mkPacket a.Outs ((mkL mkJob a.Jobs ((mkL mkLame a.Bad ((mkL mkEntry a.K.L (nx (nx ((mkL mkI a.C.Roots (nx (nx (nx (nx (nx (nx (nx k)))))))).2)))).2)).2)).2)).2)).2))
theorem mkWorld_lt : ∀ x k, k < 9223372036854775808 → (mkWorld x k).2 < 9223372036854775808 := fun x k h => nx_lt _
def mkvWorld (a : World) (k : Int) : World × Int := (⟨⟨a.C.Quota, a.C.Depth, a.C.Chain, a.C.Glue, a.C.Tries, a.C.Addrs, a.C.Cap, (mkL mkI a.C.Roots k).1⟩, a.Now, ⟨a.K.Cap, (mkL mkEntry a.K.L ((mkL mkI a.C.Roots k).2)).1⟩, (mkL mkLame a.Bad ((mkL mkEntry a.K.L ((mkL mkI a.C.Roots k).2)).2)).1, (mkL mkJob a.Jobs ((mkL mkLame a.Bad ((mkL mkEntry a.K.L ((mkL mkI a.C.Roots k).2)).2)).2)).1, (mkL mkPacket a.Outs ((mkL mkJob a.Jobs ((mkL mkLame a.Bad ((mkL mkEntry a.K.L ((mkL mkI a.C.Roots k).2)).2)).2)).2)).1, (mkL mkAnswer a.Reps ((mkL mkPacket a.Outs ((mkL mkJob a.Jobs ((mkL mkLame a.Bad ((mkL mkEntry a.K.L ((mkL mkI a.C.Roots k).2)).2)).2)).2)).2)).1, a.Next⟩, (mkL mkAnswer a.Reps ((mkL mkPacket a.Outs ((mkL mkJob a.Jobs ((mkL mkLame a.Bad ((mkL mkEntry a.K.L ((mkL mkI a.C.Roots k).2)).2)).2)).2)).2)).2)
set_option maxRecDepth 20000 in
theorem tr_markRecordS (xs : List Record) (hx : fitL Record.Fit xs) (k : Int) (hk : k < 9223372036854775808) : Tr Try.prog 49 [.mu (one (.sl 6 (xs.map Record.cells))) (one (.sl 6 ((mkL mkRecord xs k).1.map Record.cells))), .ro (one (dI k))] [one (dI (mkL mkRecord xs k).2)] := by
  refine tr_go tabOk Try.func49 rfl rfl rfl rfl rfl (ov := [(0, .t ⟨false, [.sr 0 0 0 ((xs.map Record.cells).length) ((xs.map Record.cells).length)]⟩), (1, .t ⟨false, [.d (dI (k))]⟩)]) (hv := [(0, .row 6 (xs.map Record.cells) true 0 0)]) rfl rfl ?_
  refine v_seq ?_
  refine v_reg ?_
  refine sy _ (zas rfl (ec rfl)) rfl rfl ?_
  refine s_end ?_
  refine v_seq ?_
  refine v_seq ?_
  refine v_reg ?_
  refine sy _ (zas rfl (ec rfl)) rfl rfl ?_
  refine s_end ?_
  refine v_block ?_
  have hB := hx.1
  refine v_lp (fun (i : Nat) => [(0, .t ⟨false, [.sr 0 0 0 ((xs.map Record.cells).length) ((xs.map Record.cells).length)]⟩), (1, .t ⟨false, [.d (dI (kTo mkRecord xs k i))]⟩), (5, .t ⟨false, [.d (dI (i : Int))]⟩)]) (fun i => [(0, .row 6 ((mkTo mkRecord xs k i).map Record.cells) true 0 0)]) (fun i => i ≤ xs.length) (fun i => xs.length - i) 0 (Nat.zero_le _) ⟨rfl, congrArg (fun v => sc (dI v)) kTo_zero.symm, rfl, trivial⟩ ⟨congrArg (fun l => VO.row 6 (List.map Record.cells l) true 0 0) mkTo_zero.symm, trivial⟩ rfl (fun i hi => ?_)
  refine v_seq ?_
  refine v_seq ?_
  refine v_reg ?_
  refine sy _ (zmv rfl (e rfl rfl)) rfl rfl ?_
  refine sy _ (zmv rfl (e rfl rfl)) rfl rfl ?_
  refine sy (.t ⟨false, [.d (dI ((xs.map Record.cells).length : Int))]⟩) (zln tabOk rfl rfl (e rfl rfl) (.sr (dp := 0) rfl)) rfl rfl ?_
  refine sy (.t ⟨false, [.d (dB (decide (((i : Int)) < (((xs.map Record.cells).length : Int)))))]⟩) (y_bin rfl (e rfl rfl) (e rfl rfl) (fun _ => b_lss) rfl) rfl rfl ?_
  refine s_end ?_
  refine v_cond (e rfl rfl) (fun hb1 => ?_) fun hb1 => ?_
  · have hlt : i < xs.length := by have := hb1; simp at this; omega
    obtain ⟨x, hxi⟩ := some_of_lt hlt
    have hkl : kTo mkRecord xs k i < 9223372036854775808 := kTo_lt mkRecord_lt hk
    generalize hk0 : kTo mkRecord xs k i = k0
    rw [hk0] at hkl
    refine v_skip ?_
    refine v_seq ?_
    refine v_block ?_
    refine v_seq ?_
    refine v_reg ?_
    refine sy _ (zmv rfl (e rfl rfl)) rfl rfl ?_
    refine sy _ (zmv rfl (e rfl rfl)) rfl rfl ?_
    refine sy _ (zmv rfl (e rfl rfl)) rfl rfl ?_
    refine sd (.t ⟨false, [.d (dS (mt k0))]⟩) (zcall 1 (sc (dS (mt k0))) [] rfl (tr_markText k0 hkl) (ar (e rfl rfl) (.d .nil) .nil) rfl rfl rfl) rfl rfl rfl rfl ?_
    refine sy (.t ⟨false, [.ep 0 0 i 0]⟩) (zis tabOk rfl rfl rfl (e rfl rfl) rfl (e rfl rfl) (ltm_of_some hxi) (Nat.zero_add _)) rfl rfl ?_
    refine sy (.t ⟨false, [.ep 0 0 i 0]⟩) (zfa tabOk rfl rfl rfl (e rfl rfl) rfl rfl) rfl rfl ?_
    refine sw 0 (.row 6 (((mkTo mkRecord xs k i).map Record.cells).set i [dS (mt k0), dI (x.Typ), dI (x.Ttl), dI (x.N), dS (x.Host), dS (x.Text)]) true 0 0) (zsr0 tabOk rfl (e rfl rfl) rfl (mkTo_get hxi) (e rfl rfl) rfl (.lf .nil) rfl rfl rfl) rfl rfl ?_
    refine s_end ?_
    refine v_seq ?_
    refine v_reg ?_
    refine sy _ (zmv rfl (e rfl rfl)) rfl rfl ?_
    refine sy (.t ⟨false, [.d (dI (nx k0))]⟩) (y_bin rfl (e rfl rfl) (ec rfl) (fun _ => b_nx) rfl) rfl rfl ?_
    refine sy _ (zas rfl (e rfl rfl)) rfl rfl ?_
    have hl1 : nx k0 < 9223372036854775808 := nx_lt _
    generalize hk1 : nx k0 = k1 at hl1 ⊢
    refine s_end ?_
    refine v_seq ?_
    refine v_reg ?_
    refine sy _ (zmv rfl (e rfl rfl)) rfl rfl ?_
    refine sy _ (zmv rfl (e rfl rfl)) rfl rfl ?_
    refine sy _ (zmv rfl (e rfl rfl)) rfl rfl ?_
    refine sy (.t ⟨false, [.ep 0 0 i 0]⟩) (zis tabOk rfl rfl rfl (e rfl rfl) rfl (e rfl rfl) (ltm_of_some hxi) (Nat.zero_add _)) rfl rfl ?_
    refine sy (.t ⟨false, [.ep 0 0 i 1]⟩) (zfa tabOk rfl rfl rfl (e rfl rfl) rfl rfl) rfl rfl ?_
    refine sw 0 (.row 6 (((mkTo mkRecord xs k i).map Record.cells).set i [dS (mt k0), dI (k1), dI (x.Ttl), dI (x.N), dS (x.Host), dS (x.Text)]) true 0 0) (zsr0 tabOk rfl (e rfl rfl) rfl (set_get (mkTo_lt hxi)) (e rfl rfl) rfl (.lf .nil) rfl rfl (List.set_set _)) rfl rfl ?_
    refine s_end ?_
    refine v_seq ?_
    refine v_reg ?_
    refine sy _ (zmv rfl (e rfl rfl)) rfl rfl ?_
    refine sy (.t ⟨false, [.d (dI (nx k1))]⟩) (y_bin rfl (e rfl rfl) (ec rfl) (fun _ => b_nx) rfl) rfl rfl ?_
    refine sy _ (zas rfl (e rfl rfl)) rfl rfl ?_
    have hl2 : nx k1 < 9223372036854775808 := nx_lt _
    generalize hk2 : nx k1 = k2 at hl2 ⊢
    refine s_end ?_
    refine v_seq ?_
    refine v_reg ?_
    refine sy _ (zmv rfl (e rfl rfl)) rfl rfl ?_
    refine sy _ (zmv rfl (e rfl rfl)) rfl rfl ?_
    refine sy _ (zmv rfl (e rfl rfl)) rfl rfl ?_
    refine sy (.t ⟨false, [.ep 0 0 i 0]⟩) (zis tabOk rfl rfl rfl (e rfl rfl) rfl (e rfl rfl) (ltm_of_some hxi) (Nat.zero_add _)) rfl rfl ?_
    refine sy (.t ⟨false, [.ep 0 0 i 2]⟩) (zfa tabOk rfl rfl rfl (e rfl rfl) rfl rfl) rfl rfl ?_
    refine sw 0 (.row 6 (((mkTo mkRecord xs k i).map Record.cells).set i [dS (mt k0), dI (k1), dI (k2), dI (x.N), dS (x.Host), dS (x.Text)]) true 0 0) (zsr0 tabOk rfl (e rfl rfl) rfl (set_get (mkTo_lt hxi)) (e rfl rfl) rfl (.lf .nil) rfl rfl (List.set_set _)) rfl rfl ?_
    refine s_end ?_
    refine v_seq ?_
    refine v_reg ?_
    refine sy _ (zmv rfl (e rfl rfl)) rfl rfl ?_
    refine sy (.t ⟨false, [.d (dI (nx k2))]⟩) (y_bin rfl (e rfl rfl) (ec rfl) (fun _ => b_nx) rfl) rfl rfl ?_
    refine sy _ (zas rfl (e rfl rfl)) rfl rfl ?_
    have hl3 : nx k2 < 9223372036854775808 := nx_lt _
    generalize hk3 : nx k2 = k3 at hl3 ⊢
    refine s_end ?_
    refine v_seq ?_
    refine v_reg ?_
    refine sy _ (zmv rfl (e rfl rfl)) rfl rfl ?_
    refine sy _ (zmv rfl (e rfl rfl)) rfl rfl ?_
    refine sy _ (zmv rfl (e rfl rfl)) rfl rfl ?_
    refine sy (.t ⟨false, [.ep 0 0 i 0]⟩) (zis tabOk rfl rfl rfl (e rfl rfl) rfl (e rfl rfl) (ltm_of_some hxi) (Nat.zero_add _)) rfl rfl ?_
    refine sy (.t ⟨false, [.ep 0 0 i 3]⟩) (zfa tabOk rfl rfl rfl (e rfl rfl) rfl rfl) rfl rfl ?_
    refine sw 0 (.row 6 (((mkTo mkRecord xs k i).map Record.cells).set i [dS (mt k0), dI (k1), dI (k2), dI (k3), dS (x.Host), dS (x.Text)]) true 0 0) (zsr0 tabOk rfl (e rfl rfl) rfl (set_get (mkTo_lt hxi)) (e rfl rfl) rfl (.lf .nil) rfl rfl (List.set_set _)) rfl rfl ?_
    refine s_end ?_
    refine v_seq ?_
    refine v_reg ?_
    refine sy _ (zmv rfl (e rfl rfl)) rfl rfl ?_
    refine sy (.t ⟨false, [.d (dI (nx k3))]⟩) (y_bin rfl (e rfl rfl) (ec rfl) (fun _ => b_nx) rfl) rfl rfl ?_
    refine sy _ (zas rfl (e rfl rfl)) rfl rfl ?_
    have hl4 : nx k3 < 9223372036854775808 := nx_lt _
    generalize hk4 : nx k3 = k4 at hl4 ⊢
    refine s_end ?_
    refine v_seq ?_
    refine v_reg ?_
    refine sy _ (zmv rfl (e rfl rfl)) rfl rfl ?_
    refine sy _ (zmv rfl (e rfl rfl)) rfl rfl ?_
    refine sy _ (zmv rfl (e rfl rfl)) rfl rfl ?_
    refine sd (.t ⟨false, [.d (dS (mt k4))]⟩) (zcall 1 (sc (dS (mt k4))) [] rfl (tr_markText k4 hl4) (ar (e rfl rfl) (.d .nil) .nil) rfl rfl rfl) rfl rfl rfl rfl ?_
    refine sy (.t ⟨false, [.ep 0 0 i 0]⟩) (zis tabOk rfl rfl rfl (e rfl rfl) rfl (e rfl rfl) (ltm_of_some hxi) (Nat.zero_add _)) rfl rfl ?_
    refine sy (.t ⟨false, [.ep 0 0 i 4]⟩) (zfa tabOk rfl rfl rfl (e rfl rfl) rfl rfl) rfl rfl ?_
    refine sw 0 (.row 6 (((mkTo mkRecord xs k i).map Record.cells).set i [dS (mt k0), dI (k1), dI (k2), dI (k3), dS (mt k4), dS (x.Text)]) true 0 0) (zsr0 tabOk rfl (e rfl rfl) rfl (set_get (mkTo_lt hxi)) (e rfl rfl) rfl (.lf .nil) rfl rfl (List.set_set _)) rfl rfl ?_
    refine s_end ?_
    refine v_seq ?_
    refine v_reg ?_
    refine sy _ (zmv rfl (e rfl rfl)) rfl rfl ?_
    refine sy (.t ⟨false, [.d (dI (nx k4))]⟩) (y_bin rfl (e rfl rfl) (ec rfl) (fun _ => b_nx) rfl) rfl rfl ?_
    refine sy _ (zas rfl (e rfl rfl)) rfl rfl ?_
    have hl5 : nx k4 < 9223372036854775808 := nx_lt _
    generalize hk5 : nx k4 = k5 at hl5 ⊢
    refine s_end ?_
    refine v_seq ?_
    refine v_reg ?_
    refine sy _ (zmv rfl (e rfl rfl)) rfl rfl ?_
    refine sy _ (zmv rfl (e rfl rfl)) rfl rfl ?_
    refine sy _ (zmv rfl (e rfl rfl)) rfl rfl ?_
    refine sd (.t ⟨false, [.d (dS (mt k5))]⟩) (zcall 1 (sc (dS (mt k5))) [] rfl (tr_markText k5 hl5) (ar (e rfl rfl) (.d .nil) .nil) rfl rfl rfl) rfl rfl rfl rfl ?_
    refine sy (.t ⟨false, [.ep 0 0 i 0]⟩) (zis tabOk rfl rfl rfl (e rfl rfl) rfl (e rfl rfl) (ltm_of_some hxi) (Nat.zero_add _)) rfl rfl ?_
    refine sy (.t ⟨false, [.ep 0 0 i 5]⟩) (zfa tabOk rfl rfl rfl (e rfl rfl) rfl rfl) rfl rfl ?_
    refine sw 0 (.row 6 (((mkTo mkRecord xs k i).map Record.cells).set i [dS (mt k0), dI (k1), dI (k2), dI (k3), dS (mt k4), dS (mt k5)]) true 0 0) (zsr0 tabOk rfl (e rfl rfl) rfl (set_get (mkTo_lt hxi)) (e rfl rfl) rfl (.lf .nil) rfl rfl (List.set_set _)) rfl rfl ?_
    refine s_end ?_
    refine v_reg ?_
    refine sy _ (zmv rfl (e rfl rfl)) rfl rfl ?_
    refine sy (.t ⟨false, [.d (dI (nx k5))]⟩) (y_bin rfl (e rfl rfl) (ec rfl) (fun _ => b_nx) rfl) rfl rfl ?_
    refine sy _ (zas rfl (e rfl rfl)) rfl rfl ?_
    have hl6 : nx k5 < 9223372036854775808 := nx_lt _
    generalize hk6 : nx k5 = k6 at hl6 ⊢
    refine s_end ?_
    refine blk_norm ?_
    refine v_reg ?_
    refine sy _ (zmv rfl (e rfl rfl)) rfl rfl ?_
    refine sy (.t ⟨false, [.d (dI ((i : Int) + 1))]⟩) (y_bin rfl (e rfl rfl) (ec rfl) (fun _ => b_addn (by omega) (by omega)) rfl) rfl rfl ?_
    refine sy _ (zas rfl (e rfl rfl)) rfl rfl ?_
    refine s_end ?_
    subst hk0 hk1 hk2 hk3 hk4 hk5 hk6
    exact lp_next (i + 1) hlt (by omega) ⟨rfl, congrArg (fun v => sc (dI v)) (kTo_succ (f := mkRecord) hxi).symm, rfl, trivial⟩ ⟨congrArg (fun l => VO.row 6 l true 0 0) (mkTo_set (f := mkRecord) (c := Record.cells) hxi), trivial⟩ rfl
  have hend : i = xs.length := by have := hb1; simp at this; omega
  refine v_exit ?_
  refine then_exit ?_
  refine loop_exit ?_
  refine blk_hit ?_
  refine v_seq ?_
  refine v_reg ?_
  refine sy _ (zmv rfl (e rfl rfl)) rfl rfl ?_
  refine sy _ (zas rfl (e rfl rfl)) rfl rfl ?_
  refine s_end ?_
  refine v_ret ?_
  have e1 : kTo mkRecord xs k i = (mkL mkRecord xs k).2 := kTo_end hend
  have e2 : ((mkTo mkRecord xs k i).map Record.cells) = (mkL mkRecord xs k).1.map Record.cells := by rw [mkTo_end hend]
  rw [← e1, ← e2]
  exact post_ret (rv (.tmp (eg rfl rfl)) rfl (.lf .nil) rfl .nil) (.mu rfl (.sl rfl (by rw [List.length_map, List.length_map, mkTo_len]) .nil) (.ro .nil)) rfl
set_option maxRecDepth 20000 in
theorem tr_markIntS (xs : List Int) (hx : fitL fitU xs) (k : Int) (hk : k < 9223372036854775808) : Tr Try.prog 50 [.mu (one (.sl 1 (xs.map encI))) (one (.sl 1 ((mkL mkI xs k).1.map encI))), .ro (one (dI k))] [one (dI (mkL mkI xs k).2)] := by
  refine tr_go tabOk Try.func50 rfl rfl rfl rfl rfl (ov := [(0, .t ⟨false, [.sr 0 0 0 ((xs.map encI).length) ((xs.map encI).length)]⟩), (1, .t ⟨false, [.d (dI (k))]⟩)]) (hv := [(0, .row 1 (xs.map encI) true 0 0)]) rfl rfl ?_
  refine v_seq ?_
  refine v_reg ?_
  refine sy _ (zas rfl (ec rfl)) rfl rfl ?_
  refine s_end ?_
  refine v_seq ?_
  refine v_seq ?_
  refine v_reg ?_
  refine sy _ (zas rfl (ec rfl)) rfl rfl ?_
  refine s_end ?_
  refine v_block ?_
  have hB := hx.1
  refine v_lp (fun (i : Nat) => [(0, .t ⟨false, [.sr 0 0 0 ((xs.map encI).length) ((xs.map encI).length)]⟩), (1, .t ⟨false, [.d (dI (kTo mkI xs k i))]⟩), (5, .t ⟨false, [.d (dI (i : Int))]⟩)]) (fun i => [(0, .row 1 ((mkTo mkI xs k i).map encI) true 0 0)]) (fun i => i ≤ xs.length) (fun i => xs.length - i) 0 (Nat.zero_le _) ⟨rfl, congrArg (fun v => sc (dI v)) kTo_zero.symm, rfl, trivial⟩ ⟨congrArg (fun l => VO.row 1 (List.map encI l) true 0 0) mkTo_zero.symm, trivial⟩ rfl (fun i hi => ?_)
  refine v_seq ?_
  refine v_seq ?_
  refine v_reg ?_
  refine sy _ (zmv rfl (e rfl rfl)) rfl rfl ?_
  refine sy _ (zmv rfl (e rfl rfl)) rfl rfl ?_
  refine sy (.t ⟨false, [.d (dI ((xs.map encI).length : Int))]⟩) (zln tabOk rfl rfl (e rfl rfl) (.sr (dp := 0) rfl)) rfl rfl ?_
  refine sy (.t ⟨false, [.d (dB (decide (((i : Int)) < (((xs.map encI).length : Int)))))]⟩) (y_bin rfl (e rfl rfl) (e rfl rfl) (fun _ => b_lss) rfl) rfl rfl ?_
  refine s_end ?_
  refine v_cond (e rfl rfl) (fun hb1 => ?_) fun hb1 => ?_
  · have hlt : i < xs.length := by have := hb1; simp at this; omega
    obtain ⟨x, hxi⟩ := some_of_lt hlt
    have hkl : kTo mkI xs k i < 9223372036854775808 := kTo_lt mkI_lt hk
    generalize hk0 : kTo mkI xs k i = k0
    rw [hk0] at hkl
    refine v_skip ?_
    refine v_seq ?_
    refine v_block ?_
    refine v_seq ?_
    refine v_reg ?_
    refine sy _ (zmv rfl (e rfl rfl)) rfl rfl ?_
    refine sy _ (zmv rfl (e rfl rfl)) rfl rfl ?_
    refine sy _ (zmv rfl (e rfl rfl)) rfl rfl ?_
    refine sy (.t ⟨false, [.ep 0 0 i 0]⟩) (zis tabOk rfl rfl rfl (e rfl rfl) rfl (e rfl rfl) (ltm_of_some hxi) (Nat.zero_add _)) rfl rfl ?_
    refine sw 0 (.row 1 (((mkTo mkI xs k i).map encI).set i [dI (k0)]) true 0 0) (zsr0 tabOk rfl (e rfl rfl) rfl (mkTo_get hxi) (e rfl rfl) rfl (.lf .nil) rfl rfl rfl) rfl rfl ?_
    refine s_end ?_
    refine v_reg ?_
    refine sy _ (zmv rfl (e rfl rfl)) rfl rfl ?_
    refine sy (.t ⟨false, [.d (dI (nx k0))]⟩) (y_bin rfl (e rfl rfl) (ec rfl) (fun _ => b_nx) rfl) rfl rfl ?_
    refine sy _ (zas rfl (e rfl rfl)) rfl rfl ?_
    have hl1 : nx k0 < 9223372036854775808 := nx_lt _
    generalize hk1 : nx k0 = k1 at hl1 ⊢
    refine s_end ?_
    refine blk_norm ?_
    refine v_reg ?_
    refine sy _ (zmv rfl (e rfl rfl)) rfl rfl ?_
    refine sy (.t ⟨false, [.d (dI ((i : Int) + 1))]⟩) (y_bin rfl (e rfl rfl) (ec rfl) (fun _ => b_addn (by omega) (by omega)) rfl) rfl rfl ?_
    refine sy _ (zas rfl (e rfl rfl)) rfl rfl ?_
    refine s_end ?_
    subst hk0 hk1
    exact lp_next (i + 1) hlt (by omega) ⟨rfl, congrArg (fun v => sc (dI v)) (kTo_succ (f := mkI) hxi).symm, rfl, trivial⟩ ⟨congrArg (fun l => VO.row 1 l true 0 0) (mkTo_set (f := mkI) (c := encI) hxi), trivial⟩ rfl
  have hend : i = xs.length := by have := hb1; simp at this; omega
  refine v_exit ?_
  refine then_exit ?_
  refine loop_exit ?_
  refine blk_hit ?_
  refine v_seq ?_
  refine v_reg ?_
  refine sy _ (zmv rfl (e rfl rfl)) rfl rfl ?_
  refine sy _ (zas rfl (e rfl rfl)) rfl rfl ?_
  refine s_end ?_
  refine v_ret ?_
  have e1 : kTo mkI xs k i = (mkL mkI xs k).2 := kTo_end hend
  have e2 : ((mkTo mkI xs k i).map encI) = (mkL mkI xs k).1.map encI := by rw [mkTo_end hend]
  rw [← e1, ← e2]
  exact post_ret (rv (.tmp (eg rfl rfl)) rfl (.lf .nil) rfl .nil) (.mu rfl (.sl rfl (by rw [List.length_map, List.length_map, mkTo_len]) .nil) (.ro .nil)) rfl
set_option maxRecDepth 20000 in
theorem tr_markStringS (xs : List ByteArray) (hx : fitL fitS xs) (k : Int) (hk : k < 9223372036854775808) : Tr Try.prog 51 [.mu (one (.sl 1 (xs.map encS))) (one (.sl 1 ((mkL mkS xs k).1.map encS))), .ro (one (dI k))] [one (dI (mkL mkS xs k).2)] := by
  refine tr_go tabOk Try.func51 rfl rfl rfl rfl rfl (ov := [(0, .t ⟨false, [.sr 0 0 0 ((xs.map encS).length) ((xs.map encS).length)]⟩), (1, .t ⟨false, [.d (dI (k))]⟩)]) (hv := [(0, .row 1 (xs.map encS) true 0 0)]) rfl rfl ?_
  refine v_seq ?_
  refine v_reg ?_
  refine sy _ (zas rfl (ec rfl)) rfl rfl ?_
  refine s_end ?_
  refine v_seq ?_
  refine v_seq ?_
  refine v_reg ?_
  refine sy _ (zas rfl (ec rfl)) rfl rfl ?_
  refine s_end ?_
  refine v_block ?_
  have hB := hx.1
  refine v_lp (fun (i : Nat) => [(0, .t ⟨false, [.sr 0 0 0 ((xs.map encS).length) ((xs.map encS).length)]⟩), (1, .t ⟨false, [.d (dI (kTo mkS xs k i))]⟩), (5, .t ⟨false, [.d (dI (i : Int))]⟩)]) (fun i => [(0, .row 1 ((mkTo mkS xs k i).map encS) true 0 0)]) (fun i => i ≤ xs.length) (fun i => xs.length - i) 0 (Nat.zero_le _) ⟨rfl, congrArg (fun v => sc (dI v)) kTo_zero.symm, rfl, trivial⟩ ⟨congrArg (fun l => VO.row 1 (List.map encS l) true 0 0) mkTo_zero.symm, trivial⟩ rfl (fun i hi => ?_)
  refine v_seq ?_
  refine v_seq ?_
  refine v_reg ?_
  refine sy _ (zmv rfl (e rfl rfl)) rfl rfl ?_
  refine sy _ (zmv rfl (e rfl rfl)) rfl rfl ?_
  refine sy (.t ⟨false, [.d (dI ((xs.map encS).length : Int))]⟩) (zln tabOk rfl rfl (e rfl rfl) (.sr (dp := 0) rfl)) rfl rfl ?_
  refine sy (.t ⟨false, [.d (dB (decide (((i : Int)) < (((xs.map encS).length : Int)))))]⟩) (y_bin rfl (e rfl rfl) (e rfl rfl) (fun _ => b_lss) rfl) rfl rfl ?_
  refine s_end ?_
  refine v_cond (e rfl rfl) (fun hb1 => ?_) fun hb1 => ?_
  · have hlt : i < xs.length := by have := hb1; simp at this; omega
    obtain ⟨x, hxi⟩ := some_of_lt hlt
    have hkl : kTo mkS xs k i < 9223372036854775808 := kTo_lt mkS_lt hk
    generalize hk0 : kTo mkS xs k i = k0
    rw [hk0] at hkl
    refine v_skip ?_
    refine v_seq ?_
    refine v_block ?_
    refine v_seq ?_
    refine v_reg ?_
    refine sy _ (zmv rfl (e rfl rfl)) rfl rfl ?_
    refine sy _ (zmv rfl (e rfl rfl)) rfl rfl ?_
    refine sy _ (zmv rfl (e rfl rfl)) rfl rfl ?_
    refine sd (.t ⟨false, [.d (dS (mt k0))]⟩) (zcall 1 (sc (dS (mt k0))) [] rfl (tr_markText k0 hkl) (ar (e rfl rfl) (.d .nil) .nil) rfl rfl rfl) rfl rfl rfl rfl ?_
    refine sy (.t ⟨false, [.ep 0 0 i 0]⟩) (zis tabOk rfl rfl rfl (e rfl rfl) rfl (e rfl rfl) (ltm_of_some hxi) (Nat.zero_add _)) rfl rfl ?_
    refine sw 0 (.row 1 (((mkTo mkS xs k i).map encS).set i [dS (mt k0)]) true 0 0) (zsr0 tabOk rfl (e rfl rfl) rfl (mkTo_get hxi) (e rfl rfl) rfl (.lf .nil) rfl rfl rfl) rfl rfl ?_
    refine s_end ?_
    refine v_reg ?_
    refine sy _ (zmv rfl (e rfl rfl)) rfl rfl ?_
    refine sy (.t ⟨false, [.d (dI (nx k0))]⟩) (y_bin rfl (e rfl rfl) (ec rfl) (fun _ => b_nx) rfl) rfl rfl ?_
    refine sy _ (zas rfl (e rfl rfl)) rfl rfl ?_
    have hl1 : nx k0 < 9223372036854775808 := nx_lt _
    generalize hk1 : nx k0 = k1 at hl1 ⊢
    refine s_end ?_
    refine blk_norm ?_
    refine v_reg ?_
    refine sy _ (zmv rfl (e rfl rfl)) rfl rfl ?_
    refine sy (.t ⟨false, [.d (dI ((i : Int) + 1))]⟩) (y_bin rfl (e rfl rfl) (ec rfl) (fun _ => b_addn (by omega) (by omega)) rfl) rfl rfl ?_
    refine sy _ (zas rfl (e rfl rfl)) rfl rfl ?_
    refine s_end ?_
    subst hk0 hk1
    exact lp_next (i + 1) hlt (by omega) ⟨rfl, congrArg (fun v => sc (dI v)) (kTo_succ (f := mkS) hxi).symm, rfl, trivial⟩ ⟨congrArg (fun l => VO.row 1 l true 0 0) (mkTo_set (f := mkS) (c := encS) hxi), trivial⟩ rfl
  have hend : i = xs.length := by have := hb1; simp at this; omega
  refine v_exit ?_
  refine then_exit ?_
  refine loop_exit ?_
  refine blk_hit ?_
  refine v_seq ?_
  refine v_reg ?_
  refine sy _ (zmv rfl (e rfl rfl)) rfl rfl ?_
  refine sy _ (zas rfl (e rfl rfl)) rfl rfl ?_
  refine s_end ?_
  refine v_ret ?_
  have e1 : kTo mkS xs k i = (mkL mkS xs k).2 := kTo_end hend
  have e2 : ((mkTo mkS xs k i).map encS) = (mkL mkS xs k).1.map encS := by rw [mkTo_end hend]
  rw [← e1, ← e2]
  exact post_ret (rv (.tmp (eg rfl rfl)) rfl (.lf .nil) rfl .nil) (.mu rfl (.sl rfl (by rw [List.length_map, List.length_map, mkTo_len]) .nil) (.ro .nil)) rfl
set_option maxRecDepth 20000 in
theorem tr_markFrame (a : Frame) (ha : a.Fit) (k : Int) (hk : k < 9223372036854775808) : Tr Try.prog 20 [.mu ⟨true, [dS (a.Ask.Name), dI (a.Ask.Typ), dS (a.Q.Name), dI (a.Q.Typ), .sl 6 (a.Links.map Record.cells), dS (a.Apex), .sl 1 (a.Servers.map encI), .sl 1 (a.Need.map encS), dI (a.Down), dI (a.Left), dI (a.Pc), dI (a.X.Id), dI (a.X.Addr), dI (a.X.Try), dI (a.X.Due)]⟩ ⟨true, [dS ((((mkvFrame a k).1).Ask).Name), dI ((((mkvFrame a k).1).Ask).Typ), dS ((((mkvFrame a k).1).Q).Name), dI ((((mkvFrame a k).1).Q).Typ), .sl 6 ((((mkvFrame a k).1).Links).map Record.cells), dS (((mkvFrame a k).1).Apex), .sl 1 ((((mkvFrame a k).1).Servers).map encI), .sl 1 ((((mkvFrame a k).1).Need).map encS), dI (((mkvFrame a k).1).Down), dI (((mkvFrame a k).1).Left), dI (((mkvFrame a k).1).Pc), dI ((((mkvFrame a k).1).X).Id), dI ((((mkvFrame a k).1).X).Addr), dI ((((mkvFrame a k).1).X).Try), dI ((((mkvFrame a k).1).X).Due)]⟩, .ro (one (dI k))] [one (dI (mkvFrame a k).2)] := by
  refine tr_go tabOk Try.func20 rfl rfl rfl rfl rfl (ov := [(0, .t ⟨true, [.d (dS (a.Ask.Name)), .d (dI (a.Ask.Typ)), .d (dS (a.Q.Name)), .d (dI (a.Q.Typ)), .sr 0 0 0 ((a.Links.map Record.cells).length) ((a.Links.map Record.cells).length), .d (dS (a.Apex)), .sr 1 0 0 ((a.Servers.map encI).length) ((a.Servers.map encI).length), .sr 2 0 0 ((a.Need.map encS).length) ((a.Need.map encS).length), .d (dI (a.Down)), .d (dI (a.Left)), .d (dI (a.Pc)), .d (dI (a.X.Id)), .d (dI (a.X.Addr)), .d (dI (a.X.Try)), .d (dI (a.X.Due))]⟩), (1, .t ⟨false, [.d (dI (k))]⟩)]) (hv := [(0, .row 6 (a.Links.map Record.cells) true 0 0), (1, .row 1 (a.Servers.map encI) true 0 0), (2, .row 1 (a.Need.map encS) true 0 0)]) rfl rfl ?_
  refine v_seq ?_
  refine v_reg ?_
  refine sr 3 (.t ⟨false, [.vp 3 0]⟩) (.var [.d (dS (a.Ask.Name)), .d (dI (a.Ask.Typ)), .d (dS (a.Q.Name)), .d (dI (a.Q.Typ)), .sr 0 0 0 ((a.Links.map Record.cells).length) ((a.Links.map Record.cells).length), .d (dS (a.Apex)), .sr 1 0 0 ((a.Servers.map encI).length) ((a.Servers.map encI).length), .sr 2 0 0 ((a.Need.map encS).length) ((a.Need.map encS).length), .d (dI (a.Down)), .d (dI (a.Left)), .d (dI (a.Pc)), .d (dI (a.X.Id)), .d (dI (a.X.Addr)), .d (dI (a.X.Try)), .d (dI (a.X.Due))]) (zbx rfl (e rfl rfl) rfl rfl rfl) rfl rfl ?_
  refine sy _ (zas rfl (ec rfl)) rfl rfl ?_
  refine s_end ?_
  refine v_seq ?_
  refine v_reg ?_
  refine sy (.t ⟨false, [.vp 3 4]⟩) (zfa tabOk rfl rfl rfl (e rfl rfl) rfl rfl) rfl rfl ?_
  refine sy (.t ⟨false, [.sr 0 0 0 ((a.Links.map Record.cells).length) ((a.Links.map Record.cells).length)]⟩) (zlv tabOk rfl (e rfl rfl) rfl rfl rfl) rfl rfl ?_
  refine sy _ (zmv rfl (e rfl rfl)) rfl rfl ?_
  refine sd (.t ⟨false, [.d (dI ((mkL mkRecord a.Links k).2))]⟩) (zcall 4 (sc (dI (mkL mkRecord a.Links k).2)) [(0, .row 6 (((mkL mkRecord a.Links k).1).map Record.cells) true 0 1)] rfl (tr_markRecordS a.Links ha.Links k hk) (am (e rfl rfl) (.sr rfl rfl (by simp [mkL_len]) .nil) (ar (e rfl rfl) (.d .nil) .nil)) rfl rfl rfl) rfl rfl rfl rfl ?_
  have hl1 : (mkL mkRecord a.Links k).2 < 9223372036854775808 := mkL_lt mkRecord_lt hk
  refine sy _ (zas rfl (e rfl rfl)) rfl rfl ?_
  refine s_end ?_
  refine v_seq ?_
  refine v_reg ?_
  refine sy (.t ⟨false, [.vp 3 6]⟩) (zfa tabOk rfl rfl rfl (e rfl rfl) rfl rfl) rfl rfl ?_
  refine sy (.t ⟨false, [.sr 1 0 0 ((a.Servers.map encI).length) ((a.Servers.map encI).length)]⟩) (zlv tabOk rfl (e rfl rfl) rfl rfl rfl) rfl rfl ?_
  refine sy _ (zmv rfl (e rfl rfl)) rfl rfl ?_
  refine sd (.t ⟨false, [.d (dI ((mkL mkI a.Servers ((mkL mkRecord a.Links k).2)).2))]⟩) (zcall 4 (sc (dI (mkL mkI a.Servers ((mkL mkRecord a.Links k).2)).2)) [(1, .row 1 (((mkL mkI a.Servers ((mkL mkRecord a.Links k).2)).1).map encI) true 0 1)] rfl (tr_markIntS a.Servers ha.Servers ((mkL mkRecord a.Links k).2) hl1) (am (e rfl rfl) (.sr rfl rfl (by simp [mkL_len]) .nil) (ar (e rfl rfl) (.d .nil) .nil)) rfl rfl rfl) rfl rfl rfl rfl ?_
  have hl2 : (mkL mkI a.Servers ((mkL mkRecord a.Links k).2)).2 < 9223372036854775808 := mkL_lt mkI_lt hl1
  refine sy _ (zas rfl (e rfl rfl)) rfl rfl ?_
  refine s_end ?_
  refine v_seq ?_
  refine v_reg ?_
  refine sy (.t ⟨false, [.vp 3 7]⟩) (zfa tabOk rfl rfl rfl (e rfl rfl) rfl rfl) rfl rfl ?_
  refine sy (.t ⟨false, [.sr 2 0 0 ((a.Need.map encS).length) ((a.Need.map encS).length)]⟩) (zlv tabOk rfl (e rfl rfl) rfl rfl rfl) rfl rfl ?_
  refine sy _ (zmv rfl (e rfl rfl)) rfl rfl ?_
  refine sd (.t ⟨false, [.d (dI ((mkL mkS a.Need ((mkL mkI a.Servers ((mkL mkRecord a.Links k).2)).2)).2))]⟩) (zcall 4 (sc (dI (mkL mkS a.Need ((mkL mkI a.Servers ((mkL mkRecord a.Links k).2)).2)).2)) [(2, .row 1 (((mkL mkS a.Need ((mkL mkI a.Servers ((mkL mkRecord a.Links k).2)).2)).1).map encS) true 0 1)] rfl (tr_markStringS a.Need ha.Need ((mkL mkI a.Servers ((mkL mkRecord a.Links k).2)).2) hl2) (am (e rfl rfl) (.sr rfl rfl (by simp [mkL_len]) .nil) (ar (e rfl rfl) (.d .nil) .nil)) rfl rfl rfl) rfl rfl rfl rfl ?_
  have hl3 : (mkL mkS a.Need ((mkL mkI a.Servers ((mkL mkRecord a.Links k).2)).2)).2 < 9223372036854775808 := mkL_lt mkS_lt hl2
  refine sy _ (zas rfl (e rfl rfl)) rfl rfl ?_
  refine s_end ?_
  refine v_seq ?_
  refine v_reg ?_
  refine sy _ (zmv rfl (e rfl rfl)) rfl rfl ?_
  refine sy _ (zas rfl (e rfl rfl)) rfl rfl ?_
  refine s_end ?_
  refine v_ret ?_
  exact post_ret (rv (.tmp (eg rfl rfl)) rfl (.lf .nil) rfl .nil) (.mu rfl (.lf (.lf (.lf (.lf (.sl rfl (by simp [mkvFrame, mkL_len]) (.lf (.sl rfl (by simp [mkvFrame, mkL_len]) (.sl rfl (by simp [mkvFrame, mkL_len]) (.lf (.lf (.lf (.lf (.lf (.lf (.lf .nil))))))))))))))) (.ro .nil)) rfl
set_option maxRecDepth 20000 in
theorem tr_markFrameS (xs : List Frame) (hx : fitL Frame.Fit xs) (k : Int) (hk : k < 9223372036854775808) : Tr Try.prog 34 [.mu (one (.sl 15 (xs.map Frame.cells))) (one (.sl 15 ((mkL mkFrame xs k).1.map Frame.cells))), .ro (one (dI k))] [one (dI (mkL mkFrame xs k).2)] := by
  refine tr_go tabOk Try.func34 rfl rfl rfl rfl rfl (ov := [(0, .t ⟨false, [.sr 0 0 0 ((xs.map Frame.cells).length) ((xs.map Frame.cells).length)]⟩), (1, .t ⟨false, [.d (dI (k))]⟩)]) (hv := [(0, .row 15 (xs.map Frame.cells) true 0 0)]) rfl rfl ?_
  refine v_seq ?_
  refine v_reg ?_
  refine sy _ (zas rfl (ec rfl)) rfl rfl ?_
  refine s_end ?_
  refine v_seq ?_
  refine v_seq ?_
  refine v_reg ?_
  refine sy _ (zas rfl (ec rfl)) rfl rfl ?_
  refine s_end ?_
  refine v_block ?_
  have hB := hx.1
  refine v_lp (fun (i : Nat) => [(0, .t ⟨false, [.sr 0 0 0 ((xs.map Frame.cells).length) ((xs.map Frame.cells).length)]⟩), (1, .t ⟨false, [.d (dI (kTo mkFrame xs k i))]⟩), (5, .t ⟨false, [.d (dI (i : Int))]⟩)]) (fun i => [(0, .row 15 ((mkTo mkFrame xs k i).map Frame.cells) true 0 0)]) (fun i => i ≤ xs.length) (fun i => xs.length - i) 0 (Nat.zero_le _) ⟨rfl, congrArg (fun v => sc (dI v)) kTo_zero.symm, rfl, trivial⟩ ⟨congrArg (fun l => VO.row 15 (List.map Frame.cells l) true 0 0) mkTo_zero.symm, trivial⟩ rfl (fun i hi => ?_)
  refine v_seq ?_
  refine v_seq ?_
  refine v_reg ?_
  refine sy _ (zmv rfl (e rfl rfl)) rfl rfl ?_
  refine sy _ (zmv rfl (e rfl rfl)) rfl rfl ?_
  refine sy (.t ⟨false, [.d (dI ((xs.map Frame.cells).length : Int))]⟩) (zln tabOk rfl rfl (e rfl rfl) (.sr (dp := 0) rfl)) rfl rfl ?_
  refine sy (.t ⟨false, [.d (dB (decide (((i : Int)) < (((xs.map Frame.cells).length : Int)))))]⟩) (y_bin rfl (e rfl rfl) (e rfl rfl) (fun _ => b_lss) rfl) rfl rfl ?_
  refine s_end ?_
  refine v_cond (e rfl rfl) (fun hb1 => ?_) fun hb1 => ?_
  · have hlt : i < xs.length := by have := hb1; simp at this; omega
    obtain ⟨x, hxi⟩ := some_of_lt hlt
    have hkl : kTo mkFrame xs k i < 9223372036854775808 := kTo_lt mkFrame_lt hk
    generalize hk0 : kTo mkFrame xs k i = k0
    rw [hk0] at hkl
    refine v_skip ?_
    refine v_seq ?_
    refine v_block ?_
    refine v_seq ?_
    refine v_reg ?_
    refine sy _ (zmv rfl (e rfl rfl)) rfl rfl ?_
    refine sy _ (zmv rfl (e rfl rfl)) rfl rfl ?_
    refine sy _ (zmv rfl (e rfl rfl)) rfl rfl ?_
    refine sd (.t ⟨false, [.d (dS (mt k0))]⟩) (zcall 1 (sc (dS (mt k0))) [] rfl (tr_markText k0 hkl) (ar (e rfl rfl) (.d .nil) .nil) rfl rfl rfl) rfl rfl rfl rfl ?_
    refine sy (.t ⟨false, [.ep 0 0 i 0]⟩) (zis tabOk rfl rfl rfl (e rfl rfl) rfl (e rfl rfl) (ltm_of_some hxi) (Nat.zero_add _)) rfl rfl ?_
    refine sy (.t ⟨false, [.ep 0 0 i 0]⟩) (zfa tabOk rfl rfl rfl (e rfl rfl) rfl rfl) rfl rfl ?_
    refine sy (.t ⟨false, [.ep 0 0 i 0]⟩) (zfa tabOk rfl rfl rfl (e rfl rfl) rfl rfl) rfl rfl ?_
    refine sw 0 (.row 15 (((mkTo mkFrame xs k i).map Frame.cells).set i [dS (mt k0), dI (x.Ask.Typ), dS (x.Q.Name), dI (x.Q.Typ), .sl 6 (x.Links.map Record.cells), dS (x.Apex), .sl 1 (x.Servers.map encI), .sl 1 (x.Need.map encS), dI (x.Down), dI (x.Left), dI (x.Pc), dI (x.X.Id), dI (x.X.Addr), dI (x.X.Try), dI (x.X.Due)]) true 0 0) (zsr0 tabOk rfl (e rfl rfl) rfl (mkTo_get hxi) (e rfl rfl) rfl (.lf .nil) rfl rfl rfl) rfl rfl ?_
    refine s_end ?_
    refine v_seq ?_
    refine v_reg ?_
    refine sy _ (zmv rfl (e rfl rfl)) rfl rfl ?_
    refine sy (.t ⟨false, [.d (dI (nx k0))]⟩) (y_bin rfl (e rfl rfl) (ec rfl) (fun _ => b_nx) rfl) rfl rfl ?_
    refine sy _ (zas rfl (e rfl rfl)) rfl rfl ?_
    have hl1 : nx k0 < 9223372036854775808 := nx_lt _
    generalize hk1 : nx k0 = k1 at hl1 ⊢
    refine s_end ?_
    refine v_seq ?_
    refine v_reg ?_
    refine sy _ (zmv rfl (e rfl rfl)) rfl rfl ?_
    refine sy _ (zmv rfl (e rfl rfl)) rfl rfl ?_
    refine sy _ (zmv rfl (e rfl rfl)) rfl rfl ?_
    refine sy (.t ⟨false, [.ep 0 0 i 0]⟩) (zis tabOk rfl rfl rfl (e rfl rfl) rfl (e rfl rfl) (ltm_of_some hxi) (Nat.zero_add _)) rfl rfl ?_
    refine sy (.t ⟨false, [.ep 0 0 i 0]⟩) (zfa tabOk rfl rfl rfl (e rfl rfl) rfl rfl) rfl rfl ?_
    refine sy (.t ⟨false, [.ep 0 0 i 1]⟩) (zfa tabOk rfl rfl rfl (e rfl rfl) rfl rfl) rfl rfl ?_
    refine sw 0 (.row 15 (((mkTo mkFrame xs k i).map Frame.cells).set i [dS (mt k0), dI (k1), dS (x.Q.Name), dI (x.Q.Typ), .sl 6 (x.Links.map Record.cells), dS (x.Apex), .sl 1 (x.Servers.map encI), .sl 1 (x.Need.map encS), dI (x.Down), dI (x.Left), dI (x.Pc), dI (x.X.Id), dI (x.X.Addr), dI (x.X.Try), dI (x.X.Due)]) true 0 0) (zsr0 tabOk rfl (e rfl rfl) rfl (set_get (mkTo_lt hxi)) (e rfl rfl) rfl (.lf .nil) rfl rfl (List.set_set _)) rfl rfl ?_
    refine s_end ?_
    refine v_seq ?_
    refine v_reg ?_
    refine sy _ (zmv rfl (e rfl rfl)) rfl rfl ?_
    refine sy (.t ⟨false, [.d (dI (nx k1))]⟩) (y_bin rfl (e rfl rfl) (ec rfl) (fun _ => b_nx) rfl) rfl rfl ?_
    refine sy _ (zas rfl (e rfl rfl)) rfl rfl ?_
    have hl2 : nx k1 < 9223372036854775808 := nx_lt _
    generalize hk2 : nx k1 = k2 at hl2 ⊢
    refine s_end ?_
    refine v_seq ?_
    refine v_reg ?_
    refine sy _ (zmv rfl (e rfl rfl)) rfl rfl ?_
    refine sy _ (zmv rfl (e rfl rfl)) rfl rfl ?_
    refine sy _ (zmv rfl (e rfl rfl)) rfl rfl ?_
    refine sd (.t ⟨false, [.d (dS (mt k2))]⟩) (zcall 1 (sc (dS (mt k2))) [] rfl (tr_markText k2 hl2) (ar (e rfl rfl) (.d .nil) .nil) rfl rfl rfl) rfl rfl rfl rfl ?_
    refine sy (.t ⟨false, [.ep 0 0 i 0]⟩) (zis tabOk rfl rfl rfl (e rfl rfl) rfl (e rfl rfl) (ltm_of_some hxi) (Nat.zero_add _)) rfl rfl ?_
    refine sy (.t ⟨false, [.ep 0 0 i 2]⟩) (zfa tabOk rfl rfl rfl (e rfl rfl) rfl rfl) rfl rfl ?_
    refine sy (.t ⟨false, [.ep 0 0 i 2]⟩) (zfa tabOk rfl rfl rfl (e rfl rfl) rfl rfl) rfl rfl ?_
    refine sw 0 (.row 15 (((mkTo mkFrame xs k i).map Frame.cells).set i [dS (mt k0), dI (k1), dS (mt k2), dI (x.Q.Typ), .sl 6 (x.Links.map Record.cells), dS (x.Apex), .sl 1 (x.Servers.map encI), .sl 1 (x.Need.map encS), dI (x.Down), dI (x.Left), dI (x.Pc), dI (x.X.Id), dI (x.X.Addr), dI (x.X.Try), dI (x.X.Due)]) true 0 0) (zsr0 tabOk rfl (e rfl rfl) rfl (set_get (mkTo_lt hxi)) (e rfl rfl) rfl (.lf .nil) rfl rfl (List.set_set _)) rfl rfl ?_
    refine s_end ?_
    refine v_seq ?_
    refine v_reg ?_
    refine sy _ (zmv rfl (e rfl rfl)) rfl rfl ?_
    refine sy (.t ⟨false, [.d (dI (nx k2))]⟩) (y_bin rfl (e rfl rfl) (ec rfl) (fun _ => b_nx) rfl) rfl rfl ?_
    refine sy _ (zas rfl (e rfl rfl)) rfl rfl ?_
    have hl3 : nx k2 < 9223372036854775808 := nx_lt _
    generalize hk3 : nx k2 = k3 at hl3 ⊢
    refine s_end ?_
    refine v_seq ?_
    refine v_reg ?_
    refine sy _ (zmv rfl (e rfl rfl)) rfl rfl ?_
    refine sy _ (zmv rfl (e rfl rfl)) rfl rfl ?_
    refine sy _ (zmv rfl (e rfl rfl)) rfl rfl ?_
    refine sy (.t ⟨false, [.ep 0 0 i 0]⟩) (zis tabOk rfl rfl rfl (e rfl rfl) rfl (e rfl rfl) (ltm_of_some hxi) (Nat.zero_add _)) rfl rfl ?_
    refine sy (.t ⟨false, [.ep 0 0 i 2]⟩) (zfa tabOk rfl rfl rfl (e rfl rfl) rfl rfl) rfl rfl ?_
    refine sy (.t ⟨false, [.ep 0 0 i 3]⟩) (zfa tabOk rfl rfl rfl (e rfl rfl) rfl rfl) rfl rfl ?_
    refine sw 0 (.row 15 (((mkTo mkFrame xs k i).map Frame.cells).set i [dS (mt k0), dI (k1), dS (mt k2), dI (k3), .sl 6 (x.Links.map Record.cells), dS (x.Apex), .sl 1 (x.Servers.map encI), .sl 1 (x.Need.map encS), dI (x.Down), dI (x.Left), dI (x.Pc), dI (x.X.Id), dI (x.X.Addr), dI (x.X.Try), dI (x.X.Due)]) true 0 0) (zsr0 tabOk rfl (e rfl rfl) rfl (set_get (mkTo_lt hxi)) (e rfl rfl) rfl (.lf .nil) rfl rfl (List.set_set _)) rfl rfl ?_
    refine s_end ?_
    refine v_seq ?_
    refine v_reg ?_
    refine sy _ (zmv rfl (e rfl rfl)) rfl rfl ?_
    refine sy (.t ⟨false, [.d (dI (nx k3))]⟩) (y_bin rfl (e rfl rfl) (ec rfl) (fun _ => b_nx) rfl) rfl rfl ?_
    refine sy _ (zas rfl (e rfl rfl)) rfl rfl ?_
    have hl4 : nx k3 < 9223372036854775808 := nx_lt _
    generalize hk4 : nx k3 = k4 at hl4 ⊢
    refine s_end ?_
    refine v_seq ?_
    refine v_reg ?_
    refine sy _ (zmv rfl (e rfl rfl)) rfl rfl ?_
    refine sy _ (zmv rfl (e rfl rfl)) rfl rfl ?_
    refine sy (.t ⟨false, [.ep 0 0 i 0]⟩) (zis tabOk rfl rfl rfl (e rfl rfl) rfl (e rfl rfl) (ltm_of_some hxi) (Nat.zero_add _)) rfl rfl ?_
    refine sy (.t ⟨false, [.ep 0 0 i 4]⟩) (zfa tabOk rfl rfl rfl (e rfl rfl) rfl rfl) rfl rfl ?_
    refine sy (.t ⟨false, [.nr 0 0 i 4]⟩) (zlr tabOk rfl (e rfl rfl) rfl (set_get (mkTo_lt hxi)) rfl rfl) rfl rfl ?_
    refine sy _ (zmv rfl (e rfl rfl)) rfl rfl ?_
    refine sd (.t ⟨false, [.d (dI ((mkL mkRecord x.Links k4).2))]⟩) (zcall 1 (sc (dI (mkL mkRecord x.Links k4).2)) [(0, .row 15 (((mkTo mkFrame xs k i).map Frame.cells).set i [dS (mt k0), dI (k1), dS (mt k2), dI (k3), .sl 6 ((mkL mkRecord x.Links k4).1.map Record.cells), dS (x.Apex), .sl 1 (x.Servers.map encI), .sl 1 (x.Need.map encS), dI (x.Down), dI (x.Left), dI (x.Pc), dI (x.X.Id), dI (x.X.Addr), dI (x.X.Try), dI (x.X.Due)]) true 0 0)] rfl (tr_markRecordS x.Links ((hx.2 _ (List.mem_of_getElem? hxi)).Links) k4 hl4) (ae (e rfl rfl) rfl rfl (set_get (mkTo_lt hxi)) rfl rfl sh1 rfl (ar (e rfl rfl) (.d .nil) .nil)) rfl rfl (congrArg (fun l => [(0, VO.row 15 l true 0 0)]) (List.set_set _))) rfl rfl rfl rfl ?_
    refine sy _ (zas rfl (e rfl rfl)) rfl rfl ?_
    have hl5 : (mkL mkRecord x.Links k4).2 < 9223372036854775808 := mkL_lt mkRecord_lt hl4
    generalize hk5 : (mkL mkRecord x.Links k4).2 = k5 at hl5 ⊢
    refine s_end ?_
    refine v_seq ?_
    refine v_reg ?_
    refine sy _ (zmv rfl (e rfl rfl)) rfl rfl ?_
    refine sy _ (zmv rfl (e rfl rfl)) rfl rfl ?_
    refine sy _ (zmv rfl (e rfl rfl)) rfl rfl ?_
    refine sd (.t ⟨false, [.d (dS (mt k5))]⟩) (zcall 1 (sc (dS (mt k5))) [] rfl (tr_markText k5 hl5) (ar (e rfl rfl) (.d .nil) .nil) rfl rfl rfl) rfl rfl rfl rfl ?_
    refine sy (.t ⟨false, [.ep 0 0 i 0]⟩) (zis tabOk rfl rfl rfl (e rfl rfl) rfl (e rfl rfl) (ltm_of_some hxi) (Nat.zero_add _)) rfl rfl ?_
    refine sy (.t ⟨false, [.ep 0 0 i 5]⟩) (zfa tabOk rfl rfl rfl (e rfl rfl) rfl rfl) rfl rfl ?_
    refine sw 0 (.row 15 (((mkTo mkFrame xs k i).map Frame.cells).set i [dS (mt k0), dI (k1), dS (mt k2), dI (k3), .sl 6 ((mkL mkRecord x.Links k4).1.map Record.cells), dS (mt k5), .sl 1 (x.Servers.map encI), .sl 1 (x.Need.map encS), dI (x.Down), dI (x.Left), dI (x.Pc), dI (x.X.Id), dI (x.X.Addr), dI (x.X.Try), dI (x.X.Due)]) true 0 0) (zsr0 tabOk rfl (e rfl rfl) rfl (set_get (mkTo_lt hxi)) (e rfl rfl) rfl (.lf .nil) rfl rfl (List.set_set _)) rfl rfl ?_
    refine s_end ?_
    refine v_seq ?_
    refine v_reg ?_
    refine sy _ (zmv rfl (e rfl rfl)) rfl rfl ?_
    refine sy (.t ⟨false, [.d (dI (nx k5))]⟩) (y_bin rfl (e rfl rfl) (ec rfl) (fun _ => b_nx) rfl) rfl rfl ?_
    refine sy _ (zas rfl (e rfl rfl)) rfl rfl ?_
    have hl6 : nx k5 < 9223372036854775808 := nx_lt _
    generalize hk6 : nx k5 = k6 at hl6 ⊢
    refine s_end ?_
    refine v_seq ?_
    refine v_reg ?_
    refine sy _ (zmv rfl (e rfl rfl)) rfl rfl ?_
    refine sy _ (zmv rfl (e rfl rfl)) rfl rfl ?_
    refine sy (.t ⟨false, [.ep 0 0 i 0]⟩) (zis tabOk rfl rfl rfl (e rfl rfl) rfl (e rfl rfl) (ltm_of_some hxi) (Nat.zero_add _)) rfl rfl ?_
    refine sy (.t ⟨false, [.ep 0 0 i 6]⟩) (zfa tabOk rfl rfl rfl (e rfl rfl) rfl rfl) rfl rfl ?_
    refine sy (.t ⟨false, [.nr 0 0 i 6]⟩) (zlr tabOk rfl (e rfl rfl) rfl (set_get (mkTo_lt hxi)) rfl rfl) rfl rfl ?_
    refine sy _ (zmv rfl (e rfl rfl)) rfl rfl ?_
    refine sd (.t ⟨false, [.d (dI ((mkL mkI x.Servers k6).2))]⟩) (zcall 1 (sc (dI (mkL mkI x.Servers k6).2)) [(0, .row 15 (((mkTo mkFrame xs k i).map Frame.cells).set i [dS (mt k0), dI (k1), dS (mt k2), dI (k3), .sl 6 ((mkL mkRecord x.Links k4).1.map Record.cells), dS (mt k5), .sl 1 ((mkL mkI x.Servers k6).1.map encI), .sl 1 (x.Need.map encS), dI (x.Down), dI (x.Left), dI (x.Pc), dI (x.X.Id), dI (x.X.Addr), dI (x.X.Try), dI (x.X.Due)]) true 0 0)] rfl (tr_markIntS x.Servers ((hx.2 _ (List.mem_of_getElem? hxi)).Servers) k6 hl6) (ae (e rfl rfl) rfl rfl (set_get (mkTo_lt hxi)) rfl rfl sh1 rfl (ar (e rfl rfl) (.d .nil) .nil)) rfl rfl (congrArg (fun l => [(0, VO.row 15 l true 0 0)]) (List.set_set _))) rfl rfl rfl rfl ?_
    refine sy _ (zas rfl (e rfl rfl)) rfl rfl ?_
    have hl7 : (mkL mkI x.Servers k6).2 < 9223372036854775808 := mkL_lt mkI_lt hl6
    generalize hk7 : (mkL mkI x.Servers k6).2 = k7 at hl7 ⊢
    refine s_end ?_
    refine v_seq ?_
    refine v_reg ?_
    refine sy _ (zmv rfl (e rfl rfl)) rfl rfl ?_
    refine sy _ (zmv rfl (e rfl rfl)) rfl rfl ?_
    refine sy (.t ⟨false, [.ep 0 0 i 0]⟩) (zis tabOk rfl rfl rfl (e rfl rfl) rfl (e rfl rfl) (ltm_of_some hxi) (Nat.zero_add _)) rfl rfl ?_
    refine sy (.t ⟨false, [.ep 0 0 i 7]⟩) (zfa tabOk rfl rfl rfl (e rfl rfl) rfl rfl) rfl rfl ?_
    refine sy (.t ⟨false, [.nr 0 0 i 7]⟩) (zlr tabOk rfl (e rfl rfl) rfl (set_get (mkTo_lt hxi)) rfl rfl) rfl rfl ?_
    refine sy _ (zmv rfl (e rfl rfl)) rfl rfl ?_
    refine sd (.t ⟨false, [.d (dI ((mkL mkS x.Need k7).2))]⟩) (zcall 1 (sc (dI (mkL mkS x.Need k7).2)) [(0, .row 15 (((mkTo mkFrame xs k i).map Frame.cells).set i [dS (mt k0), dI (k1), dS (mt k2), dI (k3), .sl 6 ((mkL mkRecord x.Links k4).1.map Record.cells), dS (mt k5), .sl 1 ((mkL mkI x.Servers k6).1.map encI), .sl 1 ((mkL mkS x.Need k7).1.map encS), dI (x.Down), dI (x.Left), dI (x.Pc), dI (x.X.Id), dI (x.X.Addr), dI (x.X.Try), dI (x.X.Due)]) true 0 0)] rfl (tr_markStringS x.Need ((hx.2 _ (List.mem_of_getElem? hxi)).Need) k7 hl7) (ae (e rfl rfl) rfl rfl (set_get (mkTo_lt hxi)) rfl rfl sh1 rfl (ar (e rfl rfl) (.d .nil) .nil)) rfl rfl (congrArg (fun l => [(0, VO.row 15 l true 0 0)]) (List.set_set _))) rfl rfl rfl rfl ?_
    refine sy _ (zas rfl (e rfl rfl)) rfl rfl ?_
    have hl8 : (mkL mkS x.Need k7).2 < 9223372036854775808 := mkL_lt mkS_lt hl7
    generalize hk8 : (mkL mkS x.Need k7).2 = k8 at hl8 ⊢
    refine s_end ?_
    refine v_seq ?_
    refine v_reg ?_
    refine sy _ (zmv rfl (e rfl rfl)) rfl rfl ?_
    refine sy _ (zmv rfl (e rfl rfl)) rfl rfl ?_
    refine sy _ (zmv rfl (e rfl rfl)) rfl rfl ?_
    refine sy (.t ⟨false, [.ep 0 0 i 0]⟩) (zis tabOk rfl rfl rfl (e rfl rfl) rfl (e rfl rfl) (ltm_of_some hxi) (Nat.zero_add _)) rfl rfl ?_
    refine sy (.t ⟨false, [.ep 0 0 i 8]⟩) (zfa tabOk rfl rfl rfl (e rfl rfl) rfl rfl) rfl rfl ?_
    refine sw 0 (.row 15 (((mkTo mkFrame xs k i).map Frame.cells).set i [dS (mt k0), dI (k1), dS (mt k2), dI (k3), .sl 6 ((mkL mkRecord x.Links k4).1.map Record.cells), dS (mt k5), .sl 1 ((mkL mkI x.Servers k6).1.map encI), .sl 1 ((mkL mkS x.Need k7).1.map encS), dI (k8), dI (x.Left), dI (x.Pc), dI (x.X.Id), dI (x.X.Addr), dI (x.X.Try), dI (x.X.Due)]) true 0 0) (zsr0 tabOk rfl (e rfl rfl) rfl (set_get (mkTo_lt hxi)) (e rfl rfl) rfl (.lf .nil) rfl rfl (List.set_set _)) rfl rfl ?_
    refine s_end ?_
    refine v_seq ?_
    refine v_reg ?_
    refine sy _ (zmv rfl (e rfl rfl)) rfl rfl ?_
    refine sy (.t ⟨false, [.d (dI (nx k8))]⟩) (y_bin rfl (e rfl rfl) (ec rfl) (fun _ => b_nx) rfl) rfl rfl ?_
    refine sy _ (zas rfl (e rfl rfl)) rfl rfl ?_
    have hl9 : nx k8 < 9223372036854775808 := nx_lt _
    generalize hk9 : nx k8 = k9 at hl9 ⊢
    refine s_end ?_
    refine v_seq ?_
    refine v_reg ?_
    refine sy _ (zmv rfl (e rfl rfl)) rfl rfl ?_
    refine sy _ (zmv rfl (e rfl rfl)) rfl rfl ?_
    refine sy _ (zmv rfl (e rfl rfl)) rfl rfl ?_
    refine sy (.t ⟨false, [.ep 0 0 i 0]⟩) (zis tabOk rfl rfl rfl (e rfl rfl) rfl (e rfl rfl) (ltm_of_some hxi) (Nat.zero_add _)) rfl rfl ?_
    refine sy (.t ⟨false, [.ep 0 0 i 9]⟩) (zfa tabOk rfl rfl rfl (e rfl rfl) rfl rfl) rfl rfl ?_
    refine sw 0 (.row 15 (((mkTo mkFrame xs k i).map Frame.cells).set i [dS (mt k0), dI (k1), dS (mt k2), dI (k3), .sl 6 ((mkL mkRecord x.Links k4).1.map Record.cells), dS (mt k5), .sl 1 ((mkL mkI x.Servers k6).1.map encI), .sl 1 ((mkL mkS x.Need k7).1.map encS), dI (k8), dI (k9), dI (x.Pc), dI (x.X.Id), dI (x.X.Addr), dI (x.X.Try), dI (x.X.Due)]) true 0 0) (zsr0 tabOk rfl (e rfl rfl) rfl (set_get (mkTo_lt hxi)) (e rfl rfl) rfl (.lf .nil) rfl rfl (List.set_set _)) rfl rfl ?_
    refine s_end ?_
    refine v_seq ?_
    refine v_reg ?_
    refine sy _ (zmv rfl (e rfl rfl)) rfl rfl ?_
    refine sy (.t ⟨false, [.d (dI (nx k9))]⟩) (y_bin rfl (e rfl rfl) (ec rfl) (fun _ => b_nx) rfl) rfl rfl ?_
    refine sy _ (zas rfl (e rfl rfl)) rfl rfl ?_
    have hl10 : nx k9 < 9223372036854775808 := nx_lt _
    generalize hk10 : nx k9 = k10 at hl10 ⊢
    refine s_end ?_
    refine v_seq ?_
    refine v_reg ?_
    refine sy _ (zmv rfl (e rfl rfl)) rfl rfl ?_
    refine sy _ (zmv rfl (e rfl rfl)) rfl rfl ?_
    refine sy _ (zmv rfl (e rfl rfl)) rfl rfl ?_
    refine sy (.t ⟨false, [.ep 0 0 i 0]⟩) (zis tabOk rfl rfl rfl (e rfl rfl) rfl (e rfl rfl) (ltm_of_some hxi) (Nat.zero_add _)) rfl rfl ?_
    refine sy (.t ⟨false, [.ep 0 0 i 10]⟩) (zfa tabOk rfl rfl rfl (e rfl rfl) rfl rfl) rfl rfl ?_
    refine sw 0 (.row 15 (((mkTo mkFrame xs k i).map Frame.cells).set i [dS (mt k0), dI (k1), dS (mt k2), dI (k3), .sl 6 ((mkL mkRecord x.Links k4).1.map Record.cells), dS (mt k5), .sl 1 ((mkL mkI x.Servers k6).1.map encI), .sl 1 ((mkL mkS x.Need k7).1.map encS), dI (k8), dI (k9), dI (k10), dI (x.X.Id), dI (x.X.Addr), dI (x.X.Try), dI (x.X.Due)]) true 0 0) (zsr0 tabOk rfl (e rfl rfl) rfl (set_get (mkTo_lt hxi)) (e rfl rfl) rfl (.lf .nil) rfl rfl (List.set_set _)) rfl rfl ?_
    refine s_end ?_
    refine v_seq ?_
    refine v_reg ?_
    refine sy _ (zmv rfl (e rfl rfl)) rfl rfl ?_
    refine sy (.t ⟨false, [.d (dI (nx k10))]⟩) (y_bin rfl (e rfl rfl) (ec rfl) (fun _ => b_nx) rfl) rfl rfl ?_
    refine sy _ (zas rfl (e rfl rfl)) rfl rfl ?_
    have hl11 : nx k10 < 9223372036854775808 := nx_lt _
    generalize hk11 : nx k10 = k11 at hl11 ⊢
    refine s_end ?_
    refine v_seq ?_
    refine v_reg ?_
    refine sy _ (zmv rfl (e rfl rfl)) rfl rfl ?_
    refine sy _ (zmv rfl (e rfl rfl)) rfl rfl ?_
    refine sy _ (zmv rfl (e rfl rfl)) rfl rfl ?_
    refine sy (.t ⟨false, [.ep 0 0 i 0]⟩) (zis tabOk rfl rfl rfl (e rfl rfl) rfl (e rfl rfl) (ltm_of_some hxi) (Nat.zero_add _)) rfl rfl ?_
    refine sy (.t ⟨false, [.ep 0 0 i 11]⟩) (zfa tabOk rfl rfl rfl (e rfl rfl) rfl rfl) rfl rfl ?_
    refine sy (.t ⟨false, [.ep 0 0 i 11]⟩) (zfa tabOk rfl rfl rfl (e rfl rfl) rfl rfl) rfl rfl ?_
    refine sw 0 (.row 15 (((mkTo mkFrame xs k i).map Frame.cells).set i [dS (mt k0), dI (k1), dS (mt k2), dI (k3), .sl 6 ((mkL mkRecord x.Links k4).1.map Record.cells), dS (mt k5), .sl 1 ((mkL mkI x.Servers k6).1.map encI), .sl 1 ((mkL mkS x.Need k7).1.map encS), dI (k8), dI (k9), dI (k10), dI (k11), dI (x.X.Addr), dI (x.X.Try), dI (x.X.Due)]) true 0 0) (zsr0 tabOk rfl (e rfl rfl) rfl (set_get (mkTo_lt hxi)) (e rfl rfl) rfl (.lf .nil) rfl rfl (List.set_set _)) rfl rfl ?_
    refine s_end ?_
    refine v_seq ?_
    refine v_reg ?_
    refine sy _ (zmv rfl (e rfl rfl)) rfl rfl ?_
    refine sy (.t ⟨false, [.d (dI (nx k11))]⟩) (y_bin rfl (e rfl rfl) (ec rfl) (fun _ => b_nx) rfl) rfl rfl ?_
    refine sy _ (zas rfl (e rfl rfl)) rfl rfl ?_
    have hl12 : nx k11 < 9223372036854775808 := nx_lt _
    generalize hk12 : nx k11 = k12 at hl12 ⊢
    refine s_end ?_
    refine v_seq ?_
    refine v_reg ?_
    refine sy _ (zmv rfl (e rfl rfl)) rfl rfl ?_
    refine sy _ (zmv rfl (e rfl rfl)) rfl rfl ?_
    refine sy _ (zmv rfl (e rfl rfl)) rfl rfl ?_
    refine sy (.t ⟨false, [.ep 0 0 i 0]⟩) (zis tabOk rfl rfl rfl (e rfl rfl) rfl (e rfl rfl) (ltm_of_some hxi) (Nat.zero_add _)) rfl rfl ?_
    refine sy (.t ⟨false, [.ep 0 0 i 11]⟩) (zfa tabOk rfl rfl rfl (e rfl rfl) rfl rfl) rfl rfl ?_
    refine sy (.t ⟨false, [.ep 0 0 i 12]⟩) (zfa tabOk rfl rfl rfl (e rfl rfl) rfl rfl) rfl rfl ?_
    refine sw 0 (.row 15 (((mkTo mkFrame xs k i).map Frame.cells).set i [dS (mt k0), dI (k1), dS (mt k2), dI (k3), .sl 6 ((mkL mkRecord x.Links k4).1.map Record.cells), dS (mt k5), .sl 1 ((mkL mkI x.Servers k6).1.map encI), .sl 1 ((mkL mkS x.Need k7).1.map encS), dI (k8), dI (k9), dI (k10), dI (k11), dI (k12), dI (x.X.Try), dI (x.X.Due)]) true 0 0) (zsr0 tabOk rfl (e rfl rfl) rfl (set_get (mkTo_lt hxi)) (e rfl rfl) rfl (.lf .nil) rfl rfl (List.set_set _)) rfl rfl ?_
    refine s_end ?_
    refine v_seq ?_
    refine v_reg ?_
    refine sy _ (zmv rfl (e rfl rfl)) rfl rfl ?_
    refine sy (.t ⟨false, [.d (dI (nx k12))]⟩) (y_bin rfl (e rfl rfl) (ec rfl) (fun _ => b_nx) rfl) rfl rfl ?_
    refine sy _ (zas rfl (e rfl rfl)) rfl rfl ?_
    have hl13 : nx k12 < 9223372036854775808 := nx_lt _
    generalize hk13 : nx k12 = k13 at hl13 ⊢
    refine s_end ?_
    refine v_seq ?_
    refine v_reg ?_
    refine sy _ (zmv rfl (e rfl rfl)) rfl rfl ?_
    refine sy _ (zmv rfl (e rfl rfl)) rfl rfl ?_
    refine sy _ (zmv rfl (e rfl rfl)) rfl rfl ?_
    refine sy (.t ⟨false, [.ep 0 0 i 0]⟩) (zis tabOk rfl rfl rfl (e rfl rfl) rfl (e rfl rfl) (ltm_of_some hxi) (Nat.zero_add _)) rfl rfl ?_
    refine sy (.t ⟨false, [.ep 0 0 i 11]⟩) (zfa tabOk rfl rfl rfl (e rfl rfl) rfl rfl) rfl rfl ?_
    refine sy (.t ⟨false, [.ep 0 0 i 13]⟩) (zfa tabOk rfl rfl rfl (e rfl rfl) rfl rfl) rfl rfl ?_
    refine sw 0 (.row 15 (((mkTo mkFrame xs k i).map Frame.cells).set i [dS (mt k0), dI (k1), dS (mt k2), dI (k3), .sl 6 ((mkL mkRecord x.Links k4).1.map Record.cells), dS (mt k5), .sl 1 ((mkL mkI x.Servers k6).1.map encI), .sl 1 ((mkL mkS x.Need k7).1.map encS), dI (k8), dI (k9), dI (k10), dI (k11), dI (k12), dI (k13), dI (x.X.Due)]) true 0 0) (zsr0 tabOk rfl (e rfl rfl) rfl (set_get (mkTo_lt hxi)) (e rfl rfl) rfl (.lf .nil) rfl rfl (List.set_set _)) rfl rfl ?_
    refine s_end ?_
    refine v_seq ?_
    refine v_reg ?_
    refine sy _ (zmv rfl (e rfl rfl)) rfl rfl ?_
    refine sy (.t ⟨false, [.d (dI (nx k13))]⟩) (y_bin rfl (e rfl rfl) (ec rfl) (fun _ => b_nx) rfl) rfl rfl ?_
    refine sy _ (zas rfl (e rfl rfl)) rfl rfl ?_
    have hl14 : nx k13 < 9223372036854775808 := nx_lt _
    generalize hk14 : nx k13 = k14 at hl14 ⊢
    refine s_end ?_
    refine v_seq ?_
    refine v_reg ?_
    refine sy _ (zmv rfl (e rfl rfl)) rfl rfl ?_
    refine sy _ (zmv rfl (e rfl rfl)) rfl rfl ?_
    refine sy _ (zmv rfl (e rfl rfl)) rfl rfl ?_
    refine sy (.t ⟨false, [.ep 0 0 i 0]⟩) (zis tabOk rfl rfl rfl (e rfl rfl) rfl (e rfl rfl) (ltm_of_some hxi) (Nat.zero_add _)) rfl rfl ?_
    refine sy (.t ⟨false, [.ep 0 0 i 11]⟩) (zfa tabOk rfl rfl rfl (e rfl rfl) rfl rfl) rfl rfl ?_
    refine sy (.t ⟨false, [.ep 0 0 i 14]⟩) (zfa tabOk rfl rfl rfl (e rfl rfl) rfl rfl) rfl rfl ?_
    refine sw 0 (.row 15 (((mkTo mkFrame xs k i).map Frame.cells).set i [dS (mt k0), dI (k1), dS (mt k2), dI (k3), .sl 6 ((mkL mkRecord x.Links k4).1.map Record.cells), dS (mt k5), .sl 1 ((mkL mkI x.Servers k6).1.map encI), .sl 1 ((mkL mkS x.Need k7).1.map encS), dI (k8), dI (k9), dI (k10), dI (k11), dI (k12), dI (k13), dI (k14)]) true 0 0) (zsr0 tabOk rfl (e rfl rfl) rfl (set_get (mkTo_lt hxi)) (e rfl rfl) rfl (.lf .nil) rfl rfl (List.set_set _)) rfl rfl ?_
    refine s_end ?_
    refine v_reg ?_
    refine sy _ (zmv rfl (e rfl rfl)) rfl rfl ?_
    refine sy (.t ⟨false, [.d (dI (nx k14))]⟩) (y_bin rfl (e rfl rfl) (ec rfl) (fun _ => b_nx) rfl) rfl rfl ?_
    refine sy _ (zas rfl (e rfl rfl)) rfl rfl ?_
    have hl15 : nx k14 < 9223372036854775808 := nx_lt _
    generalize hk15 : nx k14 = k15 at hl15 ⊢
    refine s_end ?_
    refine blk_norm ?_
    refine v_reg ?_
    refine sy _ (zmv rfl (e rfl rfl)) rfl rfl ?_
    refine sy (.t ⟨false, [.d (dI ((i : Int) + 1))]⟩) (y_bin rfl (e rfl rfl) (ec rfl) (fun _ => b_addn (by omega) (by omega)) rfl) rfl rfl ?_
    refine sy _ (zas rfl (e rfl rfl)) rfl rfl ?_
    refine s_end ?_
    subst hk0 hk1 hk2 hk3 hk4 hk5 hk6 hk7 hk8 hk9 hk10 hk11 hk12 hk13 hk14 hk15
    exact lp_next (i + 1) hlt (by omega) ⟨rfl, congrArg (fun v => sc (dI v)) (kTo_succ (f := mkFrame) hxi).symm, rfl, trivial⟩ ⟨congrArg (fun l => VO.row 15 l true 0 0) (mkTo_set (f := mkFrame) (c := Frame.cells) hxi), trivial⟩ rfl
  have hend : i = xs.length := by have := hb1; simp at this; omega
  refine v_exit ?_
  refine then_exit ?_
  refine loop_exit ?_
  refine blk_hit ?_
  refine v_seq ?_
  refine v_reg ?_
  refine sy _ (zmv rfl (e rfl rfl)) rfl rfl ?_
  refine sy _ (zas rfl (e rfl rfl)) rfl rfl ?_
  refine s_end ?_
  refine v_ret ?_
  have e1 : kTo mkFrame xs k i = (mkL mkFrame xs k).2 := kTo_end hend
  have e2 : ((mkTo mkFrame xs k i).map Frame.cells) = (mkL mkFrame xs k).1.map Frame.cells := by rw [mkTo_end hend]
  rw [← e1, ← e2]
  exact post_ret (rv (.tmp (eg rfl rfl)) rfl (.lf .nil) rfl .nil) (.mu rfl (.sl rfl (by rw [List.length_map, List.length_map, mkTo_len]) .nil) (.ro .nil)) rfl
set_option maxRecDepth 20000 in
theorem tr_markJob (a : Job) (ha : a.Fit) (k : Int) (hk : k < 9223372036854775808) : Tr Try.prog 13 [.mu ⟨true, [dI (a.No), dI (a.Client), dS (a.Ask.Name), dI (a.Ask.Typ), dI (a.Sent), dI (a.Fetched), .sl 15 (a.Stack.map Frame.cells)]⟩ ⟨true, [dI (((mkvJob a k).1).No), dI (((mkvJob a k).1).Client), dS ((((mkvJob a k).1).Ask).Name), dI ((((mkvJob a k).1).Ask).Typ), dI (((mkvJob a k).1).Sent), dI (((mkvJob a k).1).Fetched), .sl 15 ((((mkvJob a k).1).Stack).map Frame.cells)]⟩, .ro (one (dI k))] [one (dI (mkvJob a k).2)] := by
  refine tr_go tabOk Try.func13 rfl rfl rfl rfl rfl (ov := [(0, .t ⟨true, [.d (dI (a.No)), .d (dI (a.Client)), .d (dS (a.Ask.Name)), .d (dI (a.Ask.Typ)), .d (dI (a.Sent)), .d (dI (a.Fetched)), .sr 0 0 0 ((a.Stack.map Frame.cells).length) ((a.Stack.map Frame.cells).length)]⟩), (1, .t ⟨false, [.d (dI (k))]⟩)]) (hv := [(0, .row 15 (a.Stack.map Frame.cells) true 0 0)]) rfl rfl ?_
  refine v_seq ?_
  refine v_reg ?_
  refine sr 1 (.t ⟨false, [.vp 1 0]⟩) (.var [.d (dI (a.No)), .d (dI (a.Client)), .d (dS (a.Ask.Name)), .d (dI (a.Ask.Typ)), .d (dI (a.Sent)), .d (dI (a.Fetched)), .sr 0 0 0 ((a.Stack.map Frame.cells).length) ((a.Stack.map Frame.cells).length)]) (zbx rfl (e rfl rfl) rfl rfl rfl) rfl rfl ?_
  refine sy _ (zas rfl (ec rfl)) rfl rfl ?_
  refine s_end ?_
  refine v_seq ?_
  refine v_reg ?_
  refine sy (.t ⟨false, [.vp 1 6]⟩) (zfa tabOk rfl rfl rfl (e rfl rfl) rfl rfl) rfl rfl ?_
  refine sy (.t ⟨false, [.sr 0 0 0 ((a.Stack.map Frame.cells).length) ((a.Stack.map Frame.cells).length)]⟩) (zlv tabOk rfl (e rfl rfl) rfl rfl rfl) rfl rfl ?_
  refine sy _ (zmv rfl (e rfl rfl)) rfl rfl ?_
  refine sd (.t ⟨false, [.d (dI ((mkL mkFrame a.Stack k).2))]⟩) (zcall 2 (sc (dI (mkL mkFrame a.Stack k).2)) [(0, .row 15 (((mkL mkFrame a.Stack k).1).map Frame.cells) true 0 1)] rfl (tr_markFrameS a.Stack ha.Stack k hk) (am (e rfl rfl) (.sr rfl rfl (by simp [mkL_len]) .nil) (ar (e rfl rfl) (.d .nil) .nil)) rfl rfl rfl) rfl rfl rfl rfl ?_
  have hl1 : (mkL mkFrame a.Stack k).2 < 9223372036854775808 := mkL_lt mkFrame_lt hk
  refine sy _ (zas rfl (e rfl rfl)) rfl rfl ?_
  refine s_end ?_
  refine v_seq ?_
  refine v_reg ?_
  refine sy _ (zmv rfl (e rfl rfl)) rfl rfl ?_
  refine sy _ (zas rfl (e rfl rfl)) rfl rfl ?_
  refine s_end ?_
  refine v_ret ?_
  exact post_ret (rv (.tmp (eg rfl rfl)) rfl (.lf .nil) rfl .nil) (.mu rfl (.lf (.lf (.lf (.lf (.lf (.lf (.sl rfl (by simp [mkvJob, mkL_len]) .nil))))))) (.ro .nil)) rfl
end Go.Proofs.Ytkcpbahcnlhmjaa.V
