/-
  The families of laws of World.
-/
import Derived.Test.YtkcpbahcnlhmjaaTLameS
import Derived.Test.YtkcpbahcnlhmjaaTJobS
import Derived.Test.YtkcpbahcnlhmjaaTCache
import Derived.Test.YtkcpbahcnlhmjaaTConf
import Derived.Test.YtkcpbahcnlhmjaaTPacketS
import Derived.Test.YtkcpbahcnlhmjaaTAnswerS
import Derived.Test.YtkcpbahcnlhmjaaN
import Derived.Test.YtkcpbahcnlhmjaaC
namespace Go.Proofs.Ytkcpbahcnlhmjaa.V
open Go
set_option linter.unusedVariables false
set_option linter.unusedSimpArgs false
set_option maxRecDepth 20000 in
theorem tr_szWorld (a : World) (hb : a.Bnd) (left : Int) (h0 : 0 ≤ left) (hl : left ≤ 1048576) : TrX Try.prog 21 [.ro ⟨true, [dI (a.C.Quota), dI (a.C.Depth), dI (a.C.Chain), dI (a.C.Glue), dI (a.C.Tries), dI (a.C.Addrs), dI (a.C.Cap), .sl 1 (a.C.Roots.map encI), dI (a.Now), dI (a.K.Cap), .sl 6 (a.K.L.map Entry.cells), .sl 3 (a.Bad.map Lame.cells), .sl 7 (a.Jobs.map Job.cells), .sl 2 (a.Outs.map Packet.cells), .sl 8 (a.Reps.map Answer.cells), dI (a.Next)]⟩, .ro (one (dI left))] (resI fun r => 0 ≤ r → r + (a.wt : Int) ≤ left ∧ a.Fit) := by
  refine trX_go tabOk Try.func21 rfl rfl rfl rfl rfl (ov := [(0, .t ⟨true, [.d (dI (a.C.Quota)), .d (dI (a.C.Depth)), .d (dI (a.C.Chain)), .d (dI (a.C.Glue)), .d (dI (a.C.Tries)), .d (dI (a.C.Addrs)), .d (dI (a.C.Cap)), .d (.sl 1 (a.C.Roots.map encI)), .d (dI (a.Now)), .d (dI (a.K.Cap)), .d (.sl 6 (a.K.L.map Entry.cells)), .d (.sl 3 (a.Bad.map Lame.cells)), .d (.sl 7 (a.Jobs.map Job.cells)), .d (.sl 2 (a.Outs.map Packet.cells)), .d (.sl 8 (a.Reps.map Answer.cells)), .d (dI (a.Next))]⟩), (1, .t ⟨false, [.d (dI (left))]⟩)]) (hv := []) rfl rfl ?_
  refine v_seq ?_
  refine v_reg ?_
  refine sr 0 (.t ⟨false, [.vp 0 0]⟩) (.var [.d (dI (a.C.Quota)), .d (dI (a.C.Depth)), .d (dI (a.C.Chain)), .d (dI (a.C.Glue)), .d (dI (a.C.Tries)), .d (dI (a.C.Addrs)), .d (dI (a.C.Cap)), .d (.sl 1 (a.C.Roots.map encI)), .d (dI (a.Now)), .d (dI (a.K.Cap)), .d (.sl 6 (a.K.L.map Entry.cells)), .d (.sl 3 (a.Bad.map Lame.cells)), .d (.sl 7 (a.Jobs.map Job.cells)), .d (.sl 2 (a.Outs.map Packet.cells)), .d (.sl 8 (a.Reps.map Answer.cells)), .d (dI (a.Next))]) (zbx rfl (e rfl rfl) rfl rfl rfl) rfl rfl ?_
  refine sy _ (zas rfl (ec rfl)) rfl rfl ?_
  refine s_end ?_
  refine v_seq ?_
  refine v_reg ?_
  refine sy (.t ⟨false, [.vp 0 0]⟩) (zfa tabOk rfl rfl rfl (e rfl rfl) rfl rfl) rfl rfl ?_
  refine sy (.t ⟨true, [.d (dI (a.C.Quota)), .d (dI (a.C.Depth)), .d (dI (a.C.Chain)), .d (dI (a.C.Glue)), .d (dI (a.C.Tries)), .d (dI (a.C.Addrs)), .d (dI (a.C.Cap)), .d (.sl 1 (a.C.Roots.map encI))]⟩) (zlv tabOk rfl (e rfl rfl) rfl rfl rfl) rfl rfl ?_
  refine sy _ (zmv rfl (e rfl rfl)) rfl rfl ?_
  refine sxI (zcallX rfl (tr_szConf a.C hb.C left (by omega) (by omega)) (ar (e rfl rfl) (.d (.d (.d (.d (.d (.d (.d (.d .nil)))))))) (ar (e rfl rfl) (.d .nil) .nil))) rfl rfl (fun r1 hr1 => ?_)
  refine sy _ (zas rfl (e rfl rfl)) rfl rfl ?_
  refine s_end ?_
  refine v_seq ?_
  refine v_seq ?_
  refine v_reg ?_
  refine sy _ (zmv rfl (e rfl rfl)) rfl rfl ?_
  refine sy (.t ⟨false, [.d (dB (decide ((r1) < (0))))]⟩) (y_bin rfl (e rfl rfl) (ec rfl) (fun _ => b_lss) rfl) rfl rfl ?_
  refine s_end ?_
  refine v_cond (e rfl rfl) (fun hb2 => ?_) fun hb2 => ?_
  · refine v_seq ?_
    refine v_reg ?_
    refine sy _ (zas rfl (ec rfl)) rfl rfl ?_
    refine s_end ?_
    refine v_ret ?_
    exact post_retX [one (dI (-1))] ⟨-1, fun h => by omega, rfl⟩ (rv (.tmp (eg rfl rfl)) rfl (.lf .nil) rfl .nil) (.ro (.ro .nil)) rfl
  have p3 : 0 ≤ r1 := by have := hb2; simp at this; omega
  have p3q := hr1 p3
  have := p3q.1
  refine v_skip ?_
  refine v_seq ?_
  refine v_reg ?_
  refine sy (.t ⟨false, [.vp 0 9]⟩) (zfa tabOk rfl rfl rfl (e rfl rfl) rfl rfl) rfl rfl ?_
  refine sy (.t ⟨true, [.d (dI (a.K.Cap)), .d (.sl 6 (a.K.L.map Entry.cells))]⟩) (zlv tabOk rfl (e rfl rfl) rfl rfl rfl) rfl rfl ?_
  refine sy _ (zmv rfl (e rfl rfl)) rfl rfl ?_
  refine sxI (zcallX rfl (tr_szCache a.K hb.K r1 (by omega) (by omega)) (ar (e rfl rfl) (.d (.d .nil)) (ar (e rfl rfl) (.d .nil) .nil))) rfl rfl (fun r4 hr4 => ?_)
  refine sy _ (zas rfl (e rfl rfl)) rfl rfl ?_
  refine s_end ?_
  refine v_seq ?_
  refine v_seq ?_
  refine v_reg ?_
  refine sy _ (zmv rfl (e rfl rfl)) rfl rfl ?_
  refine sy (.t ⟨false, [.d (dB (decide ((r4) < (0))))]⟩) (y_bin rfl (e rfl rfl) (ec rfl) (fun _ => b_lss) rfl) rfl rfl ?_
  refine s_end ?_
  refine v_cond (e rfl rfl) (fun hb5 => ?_) fun hb5 => ?_
  · refine v_seq ?_
    refine v_reg ?_
    refine sy _ (zas rfl (ec rfl)) rfl rfl ?_
    refine s_end ?_
    refine v_ret ?_
    exact post_retX [one (dI (-1))] ⟨-1, fun h => by omega, rfl⟩ (rv (.tmp (eg rfl rfl)) rfl (.lf .nil) rfl .nil) (.ro (.ro .nil)) rfl
  have p6 : 0 ≤ r4 := by have := hb5; simp at this; omega
  have p6q := hr4 p6
  have := p6q.1
  refine v_skip ?_
  refine v_seq ?_
  refine v_reg ?_
  refine sy (.t ⟨false, [.vp 0 11]⟩) (zfa tabOk rfl rfl rfl (e rfl rfl) rfl rfl) rfl rfl ?_
  refine sy (.t ⟨false, [.d (.sl 3 (a.Bad.map Lame.cells))]⟩) (zlv tabOk rfl (e rfl rfl) rfl rfl rfl) rfl rfl ?_
  refine sy _ (zmv rfl (e rfl rfl)) rfl rfl ?_
  refine sxI (zcallX rfl (tr_szLameS a.Bad hb.Bad r4 (by omega) (by omega)) (ar (e rfl rfl) (.d .nil) (ar (e rfl rfl) (.d .nil) .nil))) rfl rfl (fun r7 hr7 => ?_)
  refine sy _ (zas rfl (e rfl rfl)) rfl rfl ?_
  refine s_end ?_
  refine v_seq ?_
  refine v_seq ?_
  refine v_reg ?_
  refine sy _ (zmv rfl (e rfl rfl)) rfl rfl ?_
  refine sy (.t ⟨false, [.d (dB (decide ((r7) < (0))))]⟩) (y_bin rfl (e rfl rfl) (ec rfl) (fun _ => b_lss) rfl) rfl rfl ?_
  refine s_end ?_
  refine v_cond (e rfl rfl) (fun hb8 => ?_) fun hb8 => ?_
  · refine v_seq ?_
    refine v_reg ?_
    refine sy _ (zas rfl (ec rfl)) rfl rfl ?_
    refine s_end ?_
    refine v_ret ?_
    exact post_retX [one (dI (-1))] ⟨-1, fun h => by omega, rfl⟩ (rv (.tmp (eg rfl rfl)) rfl (.lf .nil) rfl .nil) (.ro (.ro .nil)) rfl
  have p9 : 0 ≤ r7 := by have := hb8; simp at this; omega
  have p9q := hr7 p9
  have := p9q.1
  refine v_skip ?_
  refine v_seq ?_
  refine v_reg ?_
  refine sy (.t ⟨false, [.vp 0 12]⟩) (zfa tabOk rfl rfl rfl (e rfl rfl) rfl rfl) rfl rfl ?_
  refine sy (.t ⟨false, [.d (.sl 7 (a.Jobs.map Job.cells))]⟩) (zlv tabOk rfl (e rfl rfl) rfl rfl rfl) rfl rfl ?_
  refine sy _ (zmv rfl (e rfl rfl)) rfl rfl ?_
  refine sxI (zcallX rfl (tr_szJobS a.Jobs hb.Jobs r7 (by omega) (by omega)) (ar (e rfl rfl) (.d .nil) (ar (e rfl rfl) (.d .nil) .nil))) rfl rfl (fun r10 hr10 => ?_)
  refine sy _ (zas rfl (e rfl rfl)) rfl rfl ?_
  refine s_end ?_
  refine v_seq ?_
  refine v_seq ?_
  refine v_reg ?_
  refine sy _ (zmv rfl (e rfl rfl)) rfl rfl ?_
  refine sy (.t ⟨false, [.d (dB (decide ((r10) < (0))))]⟩) (y_bin rfl (e rfl rfl) (ec rfl) (fun _ => b_lss) rfl) rfl rfl ?_
  refine s_end ?_
  refine v_cond (e rfl rfl) (fun hb11 => ?_) fun hb11 => ?_
  · refine v_seq ?_
    refine v_reg ?_
    refine sy _ (zas rfl (ec rfl)) rfl rfl ?_
    refine s_end ?_
    refine v_ret ?_
    exact post_retX [one (dI (-1))] ⟨-1, fun h => by omega, rfl⟩ (rv (.tmp (eg rfl rfl)) rfl (.lf .nil) rfl .nil) (.ro (.ro .nil)) rfl
  have p12 : 0 ≤ r10 := by have := hb11; simp at this; omega
  have p12q := hr10 p12
  have := p12q.1
  refine v_skip ?_
  refine v_seq ?_
  refine v_reg ?_
  refine sy (.t ⟨false, [.vp 0 13]⟩) (zfa tabOk rfl rfl rfl (e rfl rfl) rfl rfl) rfl rfl ?_
  refine sy (.t ⟨false, [.d (.sl 2 (a.Outs.map Packet.cells))]⟩) (zlv tabOk rfl (e rfl rfl) rfl rfl rfl) rfl rfl ?_
  refine sy _ (zmv rfl (e rfl rfl)) rfl rfl ?_
  refine sxI (zcallX rfl (tr_szPacketS a.Outs hb.Outs r10 (by omega) (by omega)) (ar (e rfl rfl) (.d .nil) (ar (e rfl rfl) (.d .nil) .nil))) rfl rfl (fun r13 hr13 => ?_)
  refine sy _ (zas rfl (e rfl rfl)) rfl rfl ?_
  refine s_end ?_
  refine v_seq ?_
  refine v_seq ?_
  refine v_reg ?_
  refine sy _ (zmv rfl (e rfl rfl)) rfl rfl ?_
  refine sy (.t ⟨false, [.d (dB (decide ((r13) < (0))))]⟩) (y_bin rfl (e rfl rfl) (ec rfl) (fun _ => b_lss) rfl) rfl rfl ?_
  refine s_end ?_
  refine v_cond (e rfl rfl) (fun hb14 => ?_) fun hb14 => ?_
  · refine v_seq ?_
    refine v_reg ?_
    refine sy _ (zas rfl (ec rfl)) rfl rfl ?_
    refine s_end ?_
    refine v_ret ?_
    exact post_retX [one (dI (-1))] ⟨-1, fun h => by omega, rfl⟩ (rv (.tmp (eg rfl rfl)) rfl (.lf .nil) rfl .nil) (.ro (.ro .nil)) rfl
  have p15 : 0 ≤ r13 := by have := hb14; simp at this; omega
  have p15q := hr13 p15
  have := p15q.1
  refine v_skip ?_
  refine v_seq ?_
  refine v_reg ?_
  refine sy (.t ⟨false, [.vp 0 14]⟩) (zfa tabOk rfl rfl rfl (e rfl rfl) rfl rfl) rfl rfl ?_
  refine sy (.t ⟨false, [.d (.sl 8 (a.Reps.map Answer.cells))]⟩) (zlv tabOk rfl (e rfl rfl) rfl rfl rfl) rfl rfl ?_
  refine sy _ (zmv rfl (e rfl rfl)) rfl rfl ?_
  refine sxI (zcallX rfl (tr_szAnswerS a.Reps hb.Reps r13 (by omega) (by omega)) (ar (e rfl rfl) (.d .nil) (ar (e rfl rfl) (.d .nil) .nil))) rfl rfl (fun r16 hr16 => ?_)
  refine sy _ (zas rfl (e rfl rfl)) rfl rfl ?_
  refine s_end ?_
  refine v_seq ?_
  refine v_seq ?_
  refine v_reg ?_
  refine sy _ (zmv rfl (e rfl rfl)) rfl rfl ?_
  refine sy (.t ⟨false, [.d (dB (decide ((r16) < (0))))]⟩) (y_bin rfl (e rfl rfl) (ec rfl) (fun _ => b_lss) rfl) rfl rfl ?_
  refine s_end ?_
  refine v_cond (e rfl rfl) (fun hb17 => ?_) fun hb17 => ?_
  · refine v_seq ?_
    refine v_reg ?_
    refine sy _ (zas rfl (ec rfl)) rfl rfl ?_
    refine s_end ?_
    refine v_ret ?_
    exact post_retX [one (dI (-1))] ⟨-1, fun h => by omega, rfl⟩ (rv (.tmp (eg rfl rfl)) rfl (.lf .nil) rfl .nil) (.ro (.ro .nil)) rfl
  have p18 : 0 ≤ r16 := by have := hb17; simp at this; omega
  have p18q := hr16 p18
  have := p18q.1
  refine v_skip ?_
  refine v_seq ?_
  refine v_reg ?_
  refine sy _ (zmv rfl (e rfl rfl)) rfl rfl ?_
  refine sy _ (zas rfl (e rfl rfl)) rfl rfl ?_
  refine s_end ?_
  refine v_ret ?_
  have := p3q.1
  have := p6q.1
  have := p9q.1
  have := p12q.1
  have := p15q.1
  have := p18q.1
  exact post_retX [one (dI (r16))] ⟨r16, fun h => ⟨by simp only [World.wt]; omega, ⟨p3q.2, p6q.2, p9q.2, p12q.2, p15q.2, p18q.2⟩⟩, rfl⟩ (rv (.tmp (eg rfl rfl)) rfl (.lf .nil) rfl .nil) (.ro (.ro .nil)) rfl
set_option maxRecDepth 20000 in
theorem tr_toWorld (a : World) (ha : a.Fit) : Tr Try.prog 23 [.ro ⟨true, [dI (a.C.Quota), dI (a.C.Depth), dI (a.C.Chain), dI (a.C.Glue), dI (a.C.Tries), dI (a.C.Addrs), dI (a.C.Cap), .sl 1 (a.C.Roots.map encI), dI (a.Now), dI (a.K.Cap), .sl 6 (a.K.L.map Entry.cells), .sl 3 (a.Bad.map Lame.cells), .sl 7 (a.Jobs.map Job.cells), .sl 2 (a.Outs.map Packet.cells), .sl 8 (a.Reps.map Answer.cells), dI (a.Next)]⟩] [⟨true, [dI (a.C.Quota), dI (a.C.Depth), dI (a.C.Chain), dI (a.C.Glue), dI (a.C.Tries), dI (a.C.Addrs), dI (a.C.Cap), .sl 1 (a.C.Roots.map encI), dI (a.Now), dI (a.K.Cap), .sl 6 (a.K.L.map Entry.cells), .sl 3 (a.Bad.map Lame.cells), .sl 7 (a.Jobs.map Job.cells), .sl 2 (a.Outs.map Packet.cells), .sl 8 (a.Reps.map Answer.cells), dI (a.Next)]⟩] := by
  refine tr_go tabOk Try.func23 rfl rfl rfl rfl rfl (ov := [(0, .t ⟨true, [.d (dI (a.C.Quota)), .d (dI (a.C.Depth)), .d (dI (a.C.Chain)), .d (dI (a.C.Glue)), .d (dI (a.C.Tries)), .d (dI (a.C.Addrs)), .d (dI (a.C.Cap)), .d (.sl 1 (a.C.Roots.map encI)), .d (dI (a.Now)), .d (dI (a.K.Cap)), .d (.sl 6 (a.K.L.map Entry.cells)), .d (.sl 3 (a.Bad.map Lame.cells)), .d (.sl 7 (a.Jobs.map Job.cells)), .d (.sl 2 (a.Outs.map Packet.cells)), .d (.sl 8 (a.Reps.map Answer.cells)), .d (dI (a.Next))]⟩)]) (hv := []) rfl rfl ?_
  refine v_seq ?_
  refine v_reg ?_
  refine sr 0 (.t ⟨false, [.vp 0 0]⟩) (.var [.d (dI (a.C.Quota)), .d (dI (a.C.Depth)), .d (dI (a.C.Chain)), .d (dI (a.C.Glue)), .d (dI (a.C.Tries)), .d (dI (a.C.Addrs)), .d (dI (a.C.Cap)), .d (.sl 1 (a.C.Roots.map encI)), .d (dI (a.Now)), .d (dI (a.K.Cap)), .d (.sl 6 (a.K.L.map Entry.cells)), .d (.sl 3 (a.Bad.map Lame.cells)), .d (.sl 7 (a.Jobs.map Job.cells)), .d (.sl 2 (a.Outs.map Packet.cells)), .d (.sl 8 (a.Reps.map Answer.cells)), .d (dI (a.Next))]) (zbx rfl (e rfl rfl) rfl rfl rfl) rfl rfl ?_
  refine sr 1 (.t ⟨false, [.vp 1 0]⟩) (.var [.d (dI (0)), .d (dI (0)), .d (dI (0)), .d (dI (0)), .d (dI (0)), .d (dI (0)), .d (dI (0)), .nl 1, .d (dI (0)), .d (dI (0)), .nl 6, .nl 3, .nl 7, .nl 2, .nl 8, .d (dI (0))]) (zal tabOk rfl rfl rfl rfl) rfl rfl ?_
  refine s_end ?_
  refine v_seq ?_
  refine v_reg ?_
  refine sr 2 (.t ⟨false, [.vp 2 0]⟩) (.var [.d (dI (0)), .d (dI (0)), .d (dI (0)), .d (dI (0)), .d (dI (0)), .d (dI (0)), .d (dI (0)), .nl 1, .d (dI (0)), .d (dI (0)), .nl 6, .nl 3, .nl 7, .nl 2, .nl 8, .d (dI (0))]) (zal tabOk rfl rfl rfl rfl) rfl rfl ?_
  refine s_end ?_
  refine v_seq ?_
  refine v_reg ?_
  refine sy (.t ⟨false, [.vp 0 0]⟩) (zfa tabOk rfl rfl rfl (e rfl rfl) rfl rfl) rfl rfl ?_
  refine sy (.t ⟨true, [.d (dI (a.C.Quota)), .d (dI (a.C.Depth)), .d (dI (a.C.Chain)), .d (dI (a.C.Glue)), .d (dI (a.C.Tries)), .d (dI (a.C.Addrs)), .d (dI (a.C.Cap)), .d (.sl 1 (a.C.Roots.map encI))]⟩) (zlv tabOk rfl (e rfl rfl) rfl rfl rfl) rfl rfl ?_
  refine sd (.t ⟨true, [.d (dI (a.C.Quota)), .d (dI (a.C.Depth)), .d (dI (a.C.Chain)), .d (dI (a.C.Glue)), .d (dI (a.C.Tries)), .d (dI (a.C.Addrs)), .d (dI (a.C.Cap)), .sr 3 1 0 ((a.C.Roots.map encI).length) ((a.C.Roots.map encI).length)]⟩) (zcall 3 (.t ⟨true, [.d (dI (a.C.Quota)), .d (dI (a.C.Depth)), .d (dI (a.C.Chain)), .d (dI (a.C.Glue)), .d (dI (a.C.Tries)), .d (dI (a.C.Addrs)), .d (dI (a.C.Cap)), .sr 3 1 0 ((a.C.Roots.map encI).length) ((a.C.Roots.map encI).length)]⟩) [(3, .row 1 (a.C.Roots.map encI) true 1 0)] rfl (tr_toConf a.C ha.C) (ar (e rfl rfl) (.d (.d (.d (.d (.d (.d (.d (.d .nil)))))))) .nil) rfl rfl rfl) rfl rfl rfl rfl ?_
  refine sy (.t ⟨false, [.vp 2 0]⟩) (zfa tabOk rfl rfl rfl (e rfl rfl) rfl rfl) rfl rfl ?_
  refine sw 2 (.var [.d (dI (a.C.Quota)), .d (dI (a.C.Depth)), .d (dI (a.C.Chain)), .d (dI (a.C.Glue)), .d (dI (a.C.Tries)), .d (dI (a.C.Addrs)), .d (dI (a.C.Cap)), .sr 3 1 0 ((a.C.Roots.map encI).length) ((a.C.Roots.map encI).length), .d (dI (0)), .d (dI (0)), .nl 6, .nl 3, .nl 7, .nl 2, .nl 8, .d (dI (0))]) (zst tabOk rfl (e rfl rfl) rfl (e rfl rfl) rfl rfl rfl) rfl rfl ?_
  refine s_end ?_
  refine v_seq ?_
  refine v_reg ?_
  refine sy (.t ⟨false, [.vp 0 8]⟩) (zfa tabOk rfl rfl rfl (e rfl rfl) rfl rfl) rfl rfl ?_
  refine sy (.t ⟨false, [.d (dI (a.Now))]⟩) (zlv tabOk rfl (e rfl rfl) rfl rfl rfl) rfl rfl ?_
  refine sy (.t ⟨false, [.vp 2 8]⟩) (zfa tabOk rfl rfl rfl (e rfl rfl) rfl rfl) rfl rfl ?_
  refine sw 2 (.var [.d (dI (a.C.Quota)), .d (dI (a.C.Depth)), .d (dI (a.C.Chain)), .d (dI (a.C.Glue)), .d (dI (a.C.Tries)), .d (dI (a.C.Addrs)), .d (dI (a.C.Cap)), .sr 3 1 0 ((a.C.Roots.map encI).length) ((a.C.Roots.map encI).length), .d (dI (a.Now)), .d (dI (0)), .nl 6, .nl 3, .nl 7, .nl 2, .nl 8, .d (dI (0))]) (zst tabOk rfl (e rfl rfl) rfl (e rfl rfl) rfl rfl rfl) rfl rfl ?_
  refine s_end ?_
  refine v_seq ?_
  refine v_reg ?_
  refine sy (.t ⟨false, [.vp 0 9]⟩) (zfa tabOk rfl rfl rfl (e rfl rfl) rfl rfl) rfl rfl ?_
  refine sy (.t ⟨true, [.d (dI (a.K.Cap)), .d (.sl 6 (a.K.L.map Entry.cells))]⟩) (zlv tabOk rfl (e rfl rfl) rfl rfl rfl) rfl rfl ?_
  refine sd (.t ⟨true, [.d (dI (a.K.Cap)), .sr 4 1 0 ((a.K.L.map Entry.cells).length) ((a.K.L.map Entry.cells).length)]⟩) (zcall 4 (.t ⟨true, [.d (dI (a.K.Cap)), .sr 4 1 0 ((a.K.L.map Entry.cells).length) ((a.K.L.map Entry.cells).length)]⟩) [(4, .row 6 (a.K.L.map Entry.cells) true 1 0)] rfl (tr_toCache a.K ha.K) (ar (e rfl rfl) (.d (.d .nil)) .nil) rfl rfl rfl) rfl rfl rfl rfl ?_
  refine sy (.t ⟨false, [.vp 2 9]⟩) (zfa tabOk rfl rfl rfl (e rfl rfl) rfl rfl) rfl rfl ?_
  refine sw 2 (.var [.d (dI (a.C.Quota)), .d (dI (a.C.Depth)), .d (dI (a.C.Chain)), .d (dI (a.C.Glue)), .d (dI (a.C.Tries)), .d (dI (a.C.Addrs)), .d (dI (a.C.Cap)), .sr 3 1 0 ((a.C.Roots.map encI).length) ((a.C.Roots.map encI).length), .d (dI (a.Now)), .d (dI (a.K.Cap)), .sr 4 1 0 ((a.K.L.map Entry.cells).length) ((a.K.L.map Entry.cells).length), .nl 3, .nl 7, .nl 2, .nl 8, .d (dI (0))]) (zst tabOk rfl (e rfl rfl) rfl (e rfl rfl) rfl rfl rfl) rfl rfl ?_
  refine s_end ?_
  refine v_seq ?_
  refine v_reg ?_
  refine sy (.t ⟨false, [.vp 0 11]⟩) (zfa tabOk rfl rfl rfl (e rfl rfl) rfl rfl) rfl rfl ?_
  refine sy (.t ⟨false, [.d (.sl 3 (a.Bad.map Lame.cells))]⟩) (zlv tabOk rfl (e rfl rfl) rfl rfl rfl) rfl rfl ?_
  refine sd (.t ⟨false, [.sr 5 1 0 ((a.Bad.map Lame.cells).length) ((a.Bad.map Lame.cells).length)]⟩) (zcall 5 (.t ⟨false, [.sr 5 1 0 ((a.Bad.map Lame.cells).length) ((a.Bad.map Lame.cells).length)]⟩) [(5, .row 3 (a.Bad.map Lame.cells) true 1 0)] rfl (tr_toLameS a.Bad ha.Bad) (ar (e rfl rfl) (.d .nil) .nil) rfl rfl rfl) rfl rfl rfl rfl ?_
  refine sy (.t ⟨false, [.vp 2 11]⟩) (zfa tabOk rfl rfl rfl (e rfl rfl) rfl rfl) rfl rfl ?_
  refine sw 2 (.var [.d (dI (a.C.Quota)), .d (dI (a.C.Depth)), .d (dI (a.C.Chain)), .d (dI (a.C.Glue)), .d (dI (a.C.Tries)), .d (dI (a.C.Addrs)), .d (dI (a.C.Cap)), .sr 3 1 0 ((a.C.Roots.map encI).length) ((a.C.Roots.map encI).length), .d (dI (a.Now)), .d (dI (a.K.Cap)), .sr 4 1 0 ((a.K.L.map Entry.cells).length) ((a.K.L.map Entry.cells).length), .sr 5 1 0 ((a.Bad.map Lame.cells).length) ((a.Bad.map Lame.cells).length), .nl 7, .nl 2, .nl 8, .d (dI (0))]) (zst tabOk rfl (e rfl rfl) rfl (e rfl rfl) rfl rfl rfl) rfl rfl ?_
  refine s_end ?_
  refine v_seq ?_
  refine v_reg ?_
  refine sy (.t ⟨false, [.vp 0 12]⟩) (zfa tabOk rfl rfl rfl (e rfl rfl) rfl rfl) rfl rfl ?_
  refine sy (.t ⟨false, [.d (.sl 7 (a.Jobs.map Job.cells))]⟩) (zlv tabOk rfl (e rfl rfl) rfl rfl rfl) rfl rfl ?_
  refine sd (.t ⟨false, [.sr 6 1 0 ((a.Jobs.map Job.cells).length) ((a.Jobs.map Job.cells).length)]⟩) (zcall 6 (.t ⟨false, [.sr 6 1 0 ((a.Jobs.map Job.cells).length) ((a.Jobs.map Job.cells).length)]⟩) [(6, .row 7 (a.Jobs.map Job.cells) true 1 0)] rfl (tr_toJobS a.Jobs ha.Jobs) (ar (e rfl rfl) (.d .nil) .nil) rfl rfl rfl) rfl rfl rfl rfl ?_
  refine sy (.t ⟨false, [.vp 2 12]⟩) (zfa tabOk rfl rfl rfl (e rfl rfl) rfl rfl) rfl rfl ?_
  refine sw 2 (.var [.d (dI (a.C.Quota)), .d (dI (a.C.Depth)), .d (dI (a.C.Chain)), .d (dI (a.C.Glue)), .d (dI (a.C.Tries)), .d (dI (a.C.Addrs)), .d (dI (a.C.Cap)), .sr 3 1 0 ((a.C.Roots.map encI).length) ((a.C.Roots.map encI).length), .d (dI (a.Now)), .d (dI (a.K.Cap)), .sr 4 1 0 ((a.K.L.map Entry.cells).length) ((a.K.L.map Entry.cells).length), .sr 5 1 0 ((a.Bad.map Lame.cells).length) ((a.Bad.map Lame.cells).length), .sr 6 1 0 ((a.Jobs.map Job.cells).length) ((a.Jobs.map Job.cells).length), .nl 2, .nl 8, .d (dI (0))]) (zst tabOk rfl (e rfl rfl) rfl (e rfl rfl) rfl rfl rfl) rfl rfl ?_
  refine s_end ?_
  refine v_seq ?_
  refine v_reg ?_
  refine sy (.t ⟨false, [.vp 0 13]⟩) (zfa tabOk rfl rfl rfl (e rfl rfl) rfl rfl) rfl rfl ?_
  refine sy (.t ⟨false, [.d (.sl 2 (a.Outs.map Packet.cells))]⟩) (zlv tabOk rfl (e rfl rfl) rfl rfl rfl) rfl rfl ?_
  refine sd (.t ⟨false, [.sr 7 1 0 ((a.Outs.map Packet.cells).length) ((a.Outs.map Packet.cells).length)]⟩) (zcall 7 (.t ⟨false, [.sr 7 1 0 ((a.Outs.map Packet.cells).length) ((a.Outs.map Packet.cells).length)]⟩) [(7, .row 2 (a.Outs.map Packet.cells) true 1 0)] rfl (tr_toPacketS a.Outs ha.Outs) (ar (e rfl rfl) (.d .nil) .nil) rfl rfl rfl) rfl rfl rfl rfl ?_
  refine sy (.t ⟨false, [.vp 2 13]⟩) (zfa tabOk rfl rfl rfl (e rfl rfl) rfl rfl) rfl rfl ?_
  refine sw 2 (.var [.d (dI (a.C.Quota)), .d (dI (a.C.Depth)), .d (dI (a.C.Chain)), .d (dI (a.C.Glue)), .d (dI (a.C.Tries)), .d (dI (a.C.Addrs)), .d (dI (a.C.Cap)), .sr 3 1 0 ((a.C.Roots.map encI).length) ((a.C.Roots.map encI).length), .d (dI (a.Now)), .d (dI (a.K.Cap)), .sr 4 1 0 ((a.K.L.map Entry.cells).length) ((a.K.L.map Entry.cells).length), .sr 5 1 0 ((a.Bad.map Lame.cells).length) ((a.Bad.map Lame.cells).length), .sr 6 1 0 ((a.Jobs.map Job.cells).length) ((a.Jobs.map Job.cells).length), .sr 7 1 0 ((a.Outs.map Packet.cells).length) ((a.Outs.map Packet.cells).length), .nl 8, .d (dI (0))]) (zst tabOk rfl (e rfl rfl) rfl (e rfl rfl) rfl rfl rfl) rfl rfl ?_
  refine s_end ?_
  refine v_seq ?_
  refine v_reg ?_
  refine sy (.t ⟨false, [.vp 0 14]⟩) (zfa tabOk rfl rfl rfl (e rfl rfl) rfl rfl) rfl rfl ?_
  refine sy (.t ⟨false, [.d (.sl 8 (a.Reps.map Answer.cells))]⟩) (zlv tabOk rfl (e rfl rfl) rfl rfl rfl) rfl rfl ?_
  refine sd (.t ⟨false, [.sr 8 1 0 ((a.Reps.map Answer.cells).length) ((a.Reps.map Answer.cells).length)]⟩) (zcall 8 (.t ⟨false, [.sr 8 1 0 ((a.Reps.map Answer.cells).length) ((a.Reps.map Answer.cells).length)]⟩) [(8, .row 8 (a.Reps.map Answer.cells) true 1 0)] rfl (tr_toAnswerS a.Reps ha.Reps) (ar (e rfl rfl) (.d .nil) .nil) rfl rfl rfl) rfl rfl rfl rfl ?_
  refine sy (.t ⟨false, [.vp 2 14]⟩) (zfa tabOk rfl rfl rfl (e rfl rfl) rfl rfl) rfl rfl ?_
  refine sw 2 (.var [.d (dI (a.C.Quota)), .d (dI (a.C.Depth)), .d (dI (a.C.Chain)), .d (dI (a.C.Glue)), .d (dI (a.C.Tries)), .d (dI (a.C.Addrs)), .d (dI (a.C.Cap)), .sr 3 1 0 ((a.C.Roots.map encI).length) ((a.C.Roots.map encI).length), .d (dI (a.Now)), .d (dI (a.K.Cap)), .sr 4 1 0 ((a.K.L.map Entry.cells).length) ((a.K.L.map Entry.cells).length), .sr 5 1 0 ((a.Bad.map Lame.cells).length) ((a.Bad.map Lame.cells).length), .sr 6 1 0 ((a.Jobs.map Job.cells).length) ((a.Jobs.map Job.cells).length), .sr 7 1 0 ((a.Outs.map Packet.cells).length) ((a.Outs.map Packet.cells).length), .sr 8 1 0 ((a.Reps.map Answer.cells).length) ((a.Reps.map Answer.cells).length), .d (dI (0))]) (zst tabOk rfl (e rfl rfl) rfl (e rfl rfl) rfl rfl rfl) rfl rfl ?_
  refine s_end ?_
  refine v_seq ?_
  refine v_reg ?_
  refine sy (.t ⟨false, [.vp 0 15]⟩) (zfa tabOk rfl rfl rfl (e rfl rfl) rfl rfl) rfl rfl ?_
  refine sy (.t ⟨false, [.d (dI (a.Next))]⟩) (zlv tabOk rfl (e rfl rfl) rfl rfl rfl) rfl rfl ?_
  refine sy (.t ⟨false, [.vp 2 15]⟩) (zfa tabOk rfl rfl rfl (e rfl rfl) rfl rfl) rfl rfl ?_
  refine sw 2 (.var [.d (dI (a.C.Quota)), .d (dI (a.C.Depth)), .d (dI (a.C.Chain)), .d (dI (a.C.Glue)), .d (dI (a.C.Tries)), .d (dI (a.C.Addrs)), .d (dI (a.C.Cap)), .sr 3 1 0 ((a.C.Roots.map encI).length) ((a.C.Roots.map encI).length), .d (dI (a.Now)), .d (dI (a.K.Cap)), .sr 4 1 0 ((a.K.L.map Entry.cells).length) ((a.K.L.map Entry.cells).length), .sr 5 1 0 ((a.Bad.map Lame.cells).length) ((a.Bad.map Lame.cells).length), .sr 6 1 0 ((a.Jobs.map Job.cells).length) ((a.Jobs.map Job.cells).length), .sr 7 1 0 ((a.Outs.map Packet.cells).length) ((a.Outs.map Packet.cells).length), .sr 8 1 0 ((a.Reps.map Answer.cells).length) ((a.Reps.map Answer.cells).length), .d (dI (a.Next))]) (zst tabOk rfl (e rfl rfl) rfl (e rfl rfl) rfl rfl rfl) rfl rfl ?_
  refine s_end ?_
  refine v_seq ?_
  refine v_reg ?_
  refine sy (.t ⟨true, [.d (dI (a.C.Quota)), .d (dI (a.C.Depth)), .d (dI (a.C.Chain)), .d (dI (a.C.Glue)), .d (dI (a.C.Tries)), .d (dI (a.C.Addrs)), .d (dI (a.C.Cap)), .sr 3 1 0 ((a.C.Roots.map encI).length) ((a.C.Roots.map encI).length), .d (dI (a.Now)), .d (dI (a.K.Cap)), .sr 4 1 0 ((a.K.L.map Entry.cells).length) ((a.K.L.map Entry.cells).length), .sr 5 1 0 ((a.Bad.map Lame.cells).length) ((a.Bad.map Lame.cells).length), .sr 6 1 0 ((a.Jobs.map Job.cells).length) ((a.Jobs.map Job.cells).length), .sr 7 1 0 ((a.Outs.map Packet.cells).length) ((a.Outs.map Packet.cells).length), .sr 8 1 0 ((a.Reps.map Answer.cells).length) ((a.Reps.map Answer.cells).length), .d (dI (a.Next))]⟩) (zlv tabOk rfl (e rfl rfl) rfl rfl rfl) rfl rfl ?_
  refine sw 1 (.var [.d (dI (a.C.Quota)), .d (dI (a.C.Depth)), .d (dI (a.C.Chain)), .d (dI (a.C.Glue)), .d (dI (a.C.Tries)), .d (dI (a.C.Addrs)), .d (dI (a.C.Cap)), .sr 3 1 0 ((a.C.Roots.map encI).length) ((a.C.Roots.map encI).length), .d (dI (a.Now)), .d (dI (a.K.Cap)), .sr 4 1 0 ((a.K.L.map Entry.cells).length) ((a.K.L.map Entry.cells).length), .sr 5 1 0 ((a.Bad.map Lame.cells).length) ((a.Bad.map Lame.cells).length), .sr 6 1 0 ((a.Jobs.map Job.cells).length) ((a.Jobs.map Job.cells).length), .sr 7 1 0 ((a.Outs.map Packet.cells).length) ((a.Outs.map Packet.cells).length), .sr 8 1 0 ((a.Reps.map Answer.cells).length) ((a.Reps.map Answer.cells).length), .d (dI (a.Next))]) (zst tabOk rfl (e rfl rfl) rfl (e rfl rfl) rfl rfl rfl) rfl rfl ?_
  refine s_end ?_
  refine v_ret ?_
  exact post_ret (rv (.cell (eg rfl rfl) rfl rfl (.inl rfl) rfl) rfl (.lf (.lf (.lf (.lf (.lf (.lf (.lf (.sr rfl le_all take_all (.lf (.lf (.sr rfl le_all take_all (.sr rfl le_all take_all (.sr rfl le_all take_all (.sr rfl le_all take_all (.sr rfl le_all take_all (.lf .nil)))))))))))))))) rfl .nil) (.ro .nil) rfl
set_option maxRecDepth 20000 in
theorem tr_eqWorld (a b : World) (ha : a.Fit) (hb0 : b.Fit) : Tr Try.prog 25 [.ro ⟨true, [dI (a.C.Quota), dI (a.C.Depth), dI (a.C.Chain), dI (a.C.Glue), dI (a.C.Tries), dI (a.C.Addrs), dI (a.C.Cap), .sl 1 (a.C.Roots.map encI), dI (a.Now), dI (a.K.Cap), .sl 6 (a.K.L.map Entry.cells), .sl 3 (a.Bad.map Lame.cells), .sl 7 (a.Jobs.map Job.cells), .sl 2 (a.Outs.map Packet.cells), .sl 8 (a.Reps.map Answer.cells), dI (a.Next)]⟩, .ro ⟨true, [dI (b.C.Quota), dI (b.C.Depth), dI (b.C.Chain), dI (b.C.Glue), dI (b.C.Tries), dI (b.C.Addrs), dI (b.C.Cap), .sl 1 (b.C.Roots.map encI), dI (b.Now), dI (b.K.Cap), .sl 6 (b.K.L.map Entry.cells), .sl 3 (b.Bad.map Lame.cells), .sl 7 (b.Jobs.map Job.cells), .sl 2 (b.Outs.map Packet.cells), .sl 8 (b.Reps.map Answer.cells), dI (b.Next)]⟩] [one (dB (decide (a = b)))] := by
  refine tr_go tabOk Try.func25 rfl rfl rfl rfl rfl (ov := [(0, .t ⟨true, [.d (dI (a.C.Quota)), .d (dI (a.C.Depth)), .d (dI (a.C.Chain)), .d (dI (a.C.Glue)), .d (dI (a.C.Tries)), .d (dI (a.C.Addrs)), .d (dI (a.C.Cap)), .d (.sl 1 (a.C.Roots.map encI)), .d (dI (a.Now)), .d (dI (a.K.Cap)), .d (.sl 6 (a.K.L.map Entry.cells)), .d (.sl 3 (a.Bad.map Lame.cells)), .d (.sl 7 (a.Jobs.map Job.cells)), .d (.sl 2 (a.Outs.map Packet.cells)), .d (.sl 8 (a.Reps.map Answer.cells)), .d (dI (a.Next))]⟩), (1, .t ⟨true, [.d (dI (b.C.Quota)), .d (dI (b.C.Depth)), .d (dI (b.C.Chain)), .d (dI (b.C.Glue)), .d (dI (b.C.Tries)), .d (dI (b.C.Addrs)), .d (dI (b.C.Cap)), .d (.sl 1 (b.C.Roots.map encI)), .d (dI (b.Now)), .d (dI (b.K.Cap)), .d (.sl 6 (b.K.L.map Entry.cells)), .d (.sl 3 (b.Bad.map Lame.cells)), .d (.sl 7 (b.Jobs.map Job.cells)), .d (.sl 2 (b.Outs.map Packet.cells)), .d (.sl 8 (b.Reps.map Answer.cells)), .d (dI (b.Next))]⟩)]) (hv := []) rfl rfl ?_
  refine v_seq ?_
  refine v_reg ?_
  refine sr 0 (.t ⟨false, [.vp 0 0]⟩) (.var [.d (dI (a.C.Quota)), .d (dI (a.C.Depth)), .d (dI (a.C.Chain)), .d (dI (a.C.Glue)), .d (dI (a.C.Tries)), .d (dI (a.C.Addrs)), .d (dI (a.C.Cap)), .d (.sl 1 (a.C.Roots.map encI)), .d (dI (a.Now)), .d (dI (a.K.Cap)), .d (.sl 6 (a.K.L.map Entry.cells)), .d (.sl 3 (a.Bad.map Lame.cells)), .d (.sl 7 (a.Jobs.map Job.cells)), .d (.sl 2 (a.Outs.map Packet.cells)), .d (.sl 8 (a.Reps.map Answer.cells)), .d (dI (a.Next))]) (zbx rfl (e rfl rfl) rfl rfl rfl) rfl rfl ?_
  refine sr 1 (.t ⟨false, [.vp 1 0]⟩) (.var [.d (dI (b.C.Quota)), .d (dI (b.C.Depth)), .d (dI (b.C.Chain)), .d (dI (b.C.Glue)), .d (dI (b.C.Tries)), .d (dI (b.C.Addrs)), .d (dI (b.C.Cap)), .d (.sl 1 (b.C.Roots.map encI)), .d (dI (b.Now)), .d (dI (b.K.Cap)), .d (.sl 6 (b.K.L.map Entry.cells)), .d (.sl 3 (b.Bad.map Lame.cells)), .d (.sl 7 (b.Jobs.map Job.cells)), .d (.sl 2 (b.Outs.map Packet.cells)), .d (.sl 8 (b.Reps.map Answer.cells)), .d (dI (b.Next))]) (zbx rfl (e rfl rfl) rfl rfl rfl) rfl rfl ?_
  refine sy _ (zas rfl (ec rfl)) rfl rfl ?_
  refine s_end ?_
  refine v_seq ?_
  refine v_seq ?_
  refine v_reg ?_
  refine sy (.t ⟨false, [.vp 0 0]⟩) (zfa tabOk rfl rfl rfl (e rfl rfl) rfl rfl) rfl rfl ?_
  refine sy (.t ⟨true, [.d (dI (a.C.Quota)), .d (dI (a.C.Depth)), .d (dI (a.C.Chain)), .d (dI (a.C.Glue)), .d (dI (a.C.Tries)), .d (dI (a.C.Addrs)), .d (dI (a.C.Cap)), .d (.sl 1 (a.C.Roots.map encI))]⟩) (zlv tabOk rfl (e rfl rfl) rfl rfl rfl) rfl rfl ?_
  refine sy (.t ⟨false, [.vp 1 0]⟩) (zfa tabOk rfl rfl rfl (e rfl rfl) rfl rfl) rfl rfl ?_
  refine sy (.t ⟨true, [.d (dI (b.C.Quota)), .d (dI (b.C.Depth)), .d (dI (b.C.Chain)), .d (dI (b.C.Glue)), .d (dI (b.C.Tries)), .d (dI (b.C.Addrs)), .d (dI (b.C.Cap)), .d (.sl 1 (b.C.Roots.map encI))]⟩) (zlv tabOk rfl (e rfl rfl) rfl rfl rfl) rfl rfl ?_
  refine sd (.t ⟨false, [.d (dB (decide (a.C = b.C)))]⟩) (zcall 2 (.t ⟨false, [.d (dB (decide (a.C = b.C)))]⟩) [] rfl (tr_eqConf a.C b.C ha.C hb0.C) (ar (e rfl rfl) (.d (.d (.d (.d (.d (.d (.d (.d .nil)))))))) (ar (e rfl rfl) (.d (.d (.d (.d (.d (.d (.d (.d .nil)))))))) .nil)) rfl rfl rfl) rfl rfl rfl rfl ?_
  refine sy (.t ⟨false, [.d (dB (!(decide (a.C = b.C))))]⟩) (y_un rfl (e rfl rfl) (fun _ => u_not) rfl) rfl rfl ?_
  refine s_end ?_
  refine v_cond (e rfl rfl) (fun hb1 => ?_) fun hb1 => ?_
  · refine v_seq ?_
    refine v_reg ?_
    refine sy _ (zas rfl (ec rfl)) rfl rfl ?_
    refine s_end ?_
    refine v_ret ?_
    have hr : decide (a = b) = false := by cases a; cases b; simp_all
    rw [hr]
    exact post_ret (rv (.tmp (eg rfl rfl)) rfl (.lf .nil) rfl .nil) (.ro (.ro .nil)) rfl
  refine v_skip ?_
  refine v_seq ?_
  refine v_seq ?_
  refine v_reg ?_
  refine sy (.t ⟨false, [.vp 0 8]⟩) (zfa tabOk rfl rfl rfl (e rfl rfl) rfl rfl) rfl rfl ?_
  refine sy (.t ⟨false, [.d (dI (a.Now))]⟩) (zlv tabOk rfl (e rfl rfl) rfl rfl rfl) rfl rfl ?_
  refine sy (.t ⟨false, [.vp 1 8]⟩) (zfa tabOk rfl rfl rfl (e rfl rfl) rfl rfl) rfl rfl ?_
  refine sy (.t ⟨false, [.d (dI (b.Now))]⟩) (zlv tabOk rfl (e rfl rfl) rfl rfl rfl) rfl rfl ?_
  refine sy (.t ⟨false, [.d (dB (decide ((a.Now) ≠ (b.Now))))]⟩) (y_bin rfl (e rfl rfl) (e rfl rfl) (fun _ => b_neq) rfl) rfl rfl ?_
  refine s_end ?_
  refine v_cond (e rfl rfl) (fun hb2 => ?_) fun hb2 => ?_
  · refine v_seq ?_
    refine v_reg ?_
    refine sy _ (zas rfl (ec rfl)) rfl rfl ?_
    refine s_end ?_
    refine v_ret ?_
    have hr : decide (a = b) = false := by cases a; cases b; simp_all
    rw [hr]
    exact post_ret (rv (.tmp (eg rfl rfl)) rfl (.lf .nil) rfl .nil) (.ro (.ro .nil)) rfl
  refine v_skip ?_
  refine v_seq ?_
  refine v_seq ?_
  refine v_reg ?_
  refine sy (.t ⟨false, [.vp 0 9]⟩) (zfa tabOk rfl rfl rfl (e rfl rfl) rfl rfl) rfl rfl ?_
  refine sy (.t ⟨true, [.d (dI (a.K.Cap)), .d (.sl 6 (a.K.L.map Entry.cells))]⟩) (zlv tabOk rfl (e rfl rfl) rfl rfl rfl) rfl rfl ?_
  refine sy (.t ⟨false, [.vp 1 9]⟩) (zfa tabOk rfl rfl rfl (e rfl rfl) rfl rfl) rfl rfl ?_
  refine sy (.t ⟨true, [.d (dI (b.K.Cap)), .d (.sl 6 (b.K.L.map Entry.cells))]⟩) (zlv tabOk rfl (e rfl rfl) rfl rfl rfl) rfl rfl ?_
  refine sd (.t ⟨false, [.d (dB (decide (a.K = b.K)))]⟩) (zcall 2 (.t ⟨false, [.d (dB (decide (a.K = b.K)))]⟩) [] rfl (tr_eqCache a.K b.K ha.K hb0.K) (ar (e rfl rfl) (.d (.d .nil)) (ar (e rfl rfl) (.d (.d .nil)) .nil)) rfl rfl rfl) rfl rfl rfl rfl ?_
  refine sy (.t ⟨false, [.d (dB (!(decide (a.K = b.K))))]⟩) (y_un rfl (e rfl rfl) (fun _ => u_not) rfl) rfl rfl ?_
  refine s_end ?_
  refine v_cond (e rfl rfl) (fun hb3 => ?_) fun hb3 => ?_
  · refine v_seq ?_
    refine v_reg ?_
    refine sy _ (zas rfl (ec rfl)) rfl rfl ?_
    refine s_end ?_
    refine v_ret ?_
    have hr : decide (a = b) = false := by cases a; cases b; simp_all
    rw [hr]
    exact post_ret (rv (.tmp (eg rfl rfl)) rfl (.lf .nil) rfl .nil) (.ro (.ro .nil)) rfl
  refine v_skip ?_
  refine v_seq ?_
  refine v_seq ?_
  refine v_reg ?_
  refine sy (.t ⟨false, [.vp 0 11]⟩) (zfa tabOk rfl rfl rfl (e rfl rfl) rfl rfl) rfl rfl ?_
  refine sy (.t ⟨false, [.d (.sl 3 (a.Bad.map Lame.cells))]⟩) (zlv tabOk rfl (e rfl rfl) rfl rfl rfl) rfl rfl ?_
  refine sy (.t ⟨false, [.vp 1 11]⟩) (zfa tabOk rfl rfl rfl (e rfl rfl) rfl rfl) rfl rfl ?_
  refine sy (.t ⟨false, [.d (.sl 3 (b.Bad.map Lame.cells))]⟩) (zlv tabOk rfl (e rfl rfl) rfl rfl rfl) rfl rfl ?_
  refine sd (.t ⟨false, [.d (dB (decide (a.Bad = b.Bad)))]⟩) (zcall 2 (.t ⟨false, [.d (dB (decide (a.Bad = b.Bad)))]⟩) [] rfl (tr_eqLameS a.Bad b.Bad ha.Bad hb0.Bad) (ar (e rfl rfl) (.d .nil) (ar (e rfl rfl) (.d .nil) .nil)) rfl rfl rfl) rfl rfl rfl rfl ?_
  refine sy (.t ⟨false, [.d (dB (!(decide (a.Bad = b.Bad))))]⟩) (y_un rfl (e rfl rfl) (fun _ => u_not) rfl) rfl rfl ?_
  refine s_end ?_
  refine v_cond (e rfl rfl) (fun hb4 => ?_) fun hb4 => ?_
  · refine v_seq ?_
    refine v_reg ?_
    refine sy _ (zas rfl (ec rfl)) rfl rfl ?_
    refine s_end ?_
    refine v_ret ?_
    have hr : decide (a = b) = false := by cases a; cases b; simp_all
    rw [hr]
    exact post_ret (rv (.tmp (eg rfl rfl)) rfl (.lf .nil) rfl .nil) (.ro (.ro .nil)) rfl
  refine v_skip ?_
  refine v_seq ?_
  refine v_seq ?_
  refine v_reg ?_
  refine sy (.t ⟨false, [.vp 0 12]⟩) (zfa tabOk rfl rfl rfl (e rfl rfl) rfl rfl) rfl rfl ?_
  refine sy (.t ⟨false, [.d (.sl 7 (a.Jobs.map Job.cells))]⟩) (zlv tabOk rfl (e rfl rfl) rfl rfl rfl) rfl rfl ?_
  refine sy (.t ⟨false, [.vp 1 12]⟩) (zfa tabOk rfl rfl rfl (e rfl rfl) rfl rfl) rfl rfl ?_
  refine sy (.t ⟨false, [.d (.sl 7 (b.Jobs.map Job.cells))]⟩) (zlv tabOk rfl (e rfl rfl) rfl rfl rfl) rfl rfl ?_
  refine sd (.t ⟨false, [.d (dB (decide (a.Jobs = b.Jobs)))]⟩) (zcall 2 (.t ⟨false, [.d (dB (decide (a.Jobs = b.Jobs)))]⟩) [] rfl (tr_eqJobS a.Jobs b.Jobs ha.Jobs hb0.Jobs) (ar (e rfl rfl) (.d .nil) (ar (e rfl rfl) (.d .nil) .nil)) rfl rfl rfl) rfl rfl rfl rfl ?_
  refine sy (.t ⟨false, [.d (dB (!(decide (a.Jobs = b.Jobs))))]⟩) (y_un rfl (e rfl rfl) (fun _ => u_not) rfl) rfl rfl ?_
  refine s_end ?_
  refine v_cond (e rfl rfl) (fun hb5 => ?_) fun hb5 => ?_
  · refine v_seq ?_
    refine v_reg ?_
    refine sy _ (zas rfl (ec rfl)) rfl rfl ?_
    refine s_end ?_
    refine v_ret ?_
    have hr : decide (a = b) = false := by cases a; cases b; simp_all
    rw [hr]
    exact post_ret (rv (.tmp (eg rfl rfl)) rfl (.lf .nil) rfl .nil) (.ro (.ro .nil)) rfl
  refine v_skip ?_
  refine v_seq ?_
  refine v_seq ?_
  refine v_reg ?_
  refine sy (.t ⟨false, [.vp 0 13]⟩) (zfa tabOk rfl rfl rfl (e rfl rfl) rfl rfl) rfl rfl ?_
  refine sy (.t ⟨false, [.d (.sl 2 (a.Outs.map Packet.cells))]⟩) (zlv tabOk rfl (e rfl rfl) rfl rfl rfl) rfl rfl ?_
  refine sy (.t ⟨false, [.vp 1 13]⟩) (zfa tabOk rfl rfl rfl (e rfl rfl) rfl rfl) rfl rfl ?_
  refine sy (.t ⟨false, [.d (.sl 2 (b.Outs.map Packet.cells))]⟩) (zlv tabOk rfl (e rfl rfl) rfl rfl rfl) rfl rfl ?_
  refine sd (.t ⟨false, [.d (dB (decide (a.Outs = b.Outs)))]⟩) (zcall 2 (.t ⟨false, [.d (dB (decide (a.Outs = b.Outs)))]⟩) [] rfl (tr_eqPacketS a.Outs b.Outs ha.Outs hb0.Outs) (ar (e rfl rfl) (.d .nil) (ar (e rfl rfl) (.d .nil) .nil)) rfl rfl rfl) rfl rfl rfl rfl ?_
  refine sy (.t ⟨false, [.d (dB (!(decide (a.Outs = b.Outs))))]⟩) (y_un rfl (e rfl rfl) (fun _ => u_not) rfl) rfl rfl ?_
  refine s_end ?_
  refine v_cond (e rfl rfl) (fun hb6 => ?_) fun hb6 => ?_
  · refine v_seq ?_
    refine v_reg ?_
    refine sy _ (zas rfl (ec rfl)) rfl rfl ?_
    refine s_end ?_
    refine v_ret ?_
    have hr : decide (a = b) = false := by cases a; cases b; simp_all
    rw [hr]
    exact post_ret (rv (.tmp (eg rfl rfl)) rfl (.lf .nil) rfl .nil) (.ro (.ro .nil)) rfl
  refine v_skip ?_
  refine v_seq ?_
  refine v_seq ?_
  refine v_reg ?_
  refine sy (.t ⟨false, [.vp 0 14]⟩) (zfa tabOk rfl rfl rfl (e rfl rfl) rfl rfl) rfl rfl ?_
  refine sy (.t ⟨false, [.d (.sl 8 (a.Reps.map Answer.cells))]⟩) (zlv tabOk rfl (e rfl rfl) rfl rfl rfl) rfl rfl ?_
  refine sy (.t ⟨false, [.vp 1 14]⟩) (zfa tabOk rfl rfl rfl (e rfl rfl) rfl rfl) rfl rfl ?_
  refine sy (.t ⟨false, [.d (.sl 8 (b.Reps.map Answer.cells))]⟩) (zlv tabOk rfl (e rfl rfl) rfl rfl rfl) rfl rfl ?_
  refine sd (.t ⟨false, [.d (dB (decide (a.Reps = b.Reps)))]⟩) (zcall 2 (.t ⟨false, [.d (dB (decide (a.Reps = b.Reps)))]⟩) [] rfl (tr_eqAnswerS a.Reps b.Reps ha.Reps hb0.Reps) (ar (e rfl rfl) (.d .nil) (ar (e rfl rfl) (.d .nil) .nil)) rfl rfl rfl) rfl rfl rfl rfl ?_
  refine sy (.t ⟨false, [.d (dB (!(decide (a.Reps = b.Reps))))]⟩) (y_un rfl (e rfl rfl) (fun _ => u_not) rfl) rfl rfl ?_
  refine s_end ?_
  refine v_cond (e rfl rfl) (fun hb7 => ?_) fun hb7 => ?_
  · refine v_seq ?_
    refine v_reg ?_
    refine sy _ (zas rfl (ec rfl)) rfl rfl ?_
    refine s_end ?_
    refine v_ret ?_
    have hr : decide (a = b) = false := by cases a; cases b; simp_all
    rw [hr]
    exact post_ret (rv (.tmp (eg rfl rfl)) rfl (.lf .nil) rfl .nil) (.ro (.ro .nil)) rfl
  refine v_skip ?_
  refine v_seq ?_
  refine v_seq ?_
  refine v_reg ?_
  refine sy (.t ⟨false, [.vp 0 15]⟩) (zfa tabOk rfl rfl rfl (e rfl rfl) rfl rfl) rfl rfl ?_
  refine sy (.t ⟨false, [.d (dI (a.Next))]⟩) (zlv tabOk rfl (e rfl rfl) rfl rfl rfl) rfl rfl ?_
  refine sy (.t ⟨false, [.vp 1 15]⟩) (zfa tabOk rfl rfl rfl (e rfl rfl) rfl rfl) rfl rfl ?_
  refine sy (.t ⟨false, [.d (dI (b.Next))]⟩) (zlv tabOk rfl (e rfl rfl) rfl rfl rfl) rfl rfl ?_
  refine sy (.t ⟨false, [.d (dB (decide ((a.Next) ≠ (b.Next))))]⟩) (y_bin rfl (e rfl rfl) (e rfl rfl) (fun _ => b_neq) rfl) rfl rfl ?_
  refine s_end ?_
  refine v_cond (e rfl rfl) (fun hb8 => ?_) fun hb8 => ?_
  · refine v_seq ?_
    refine v_reg ?_
    refine sy _ (zas rfl (ec rfl)) rfl rfl ?_
    refine s_end ?_
    refine v_ret ?_
    have hr : decide (a = b) = false := by cases a; cases b; simp_all
    rw [hr]
    exact post_ret (rv (.tmp (eg rfl rfl)) rfl (.lf .nil) rfl .nil) (.ro (.ro .nil)) rfl
  refine v_skip ?_
  refine v_seq ?_
  refine v_reg ?_
  refine sy _ (zas rfl (ec rfl)) rfl rfl ?_
  refine s_end ?_
  refine v_ret ?_
  have hr : decide (a = b) = true := by cases a; cases b; simp_all
  rw [hr]
  exact post_ret (rv (.tmp (eg rfl rfl)) rfl (.lf .nil) rfl .nil) (.ro (.ro .nil)) rfl
end Go.Proofs.Ytkcpbahcnlhmjaa.V
