/-
  The families of laws of World.
-/
import Derived.Test.YtglilpigoocgeaaTAnswerS
import Derived.Test.YtglilpigoocgeaaTCache
import Derived.Test.YtglilpigoocgeaaTConf
import Derived.Test.YtglilpigoocgeaaTJobS
import Derived.Test.YtglilpigoocgeaaTLameS
import Derived.Test.YtglilpigoocgeaaTPacketS
import Derived.Test.YtglilpigoocgeaaN
import Derived.Test.YtglilpigoocgeaaC
import Derived.Test.YtglilpigoocgeaaM
namespace Go.Proofs.Ytglilpigoocgeaa.V
open Go
set_option linter.unusedVariables false
set_option linter.unusedSimpArgs false
set_option maxRecDepth 20000 in
theorem tr_szWorld (a : World) (hb : a.Bnd) (left : Int) (h0 : 0 ≤ left) (hl : left ≤ 1048576) : TrX Try.prog 15 [.ro ⟨true, [dI (a.C.Quota), dI (a.C.Depth), dI (a.C.Chain), dI (a.C.Glue), dI (a.C.Tries), dI (a.C.Addrs), dI (a.C.Cap), .sl 1 (a.C.Roots.map encI), dI (a.Now), dI (a.K.Cap), .sl 6 (a.K.L.map Entry.cells), .sl 3 (a.Bad.map Lame.cells), .sl 7 (a.Jobs.map Job.cells), .sl 2 (a.Outs.map Packet.cells), .sl 8 (a.Reps.map Answer.cells), dI (a.Next)]⟩, .ro (one (dI left))] (resI fun r => 0 ≤ r → r + (a.wt : Int) ≤ left ∧ a.Fit) := by
  refine trX_go tabOk Try.func15 rfl rfl rfl rfl rfl (ov := [(0, .t ⟨true, [.d (dI (a.C.Quota)), .d (dI (a.C.Depth)), .d (dI (a.C.Chain)), .d (dI (a.C.Glue)), .d (dI (a.C.Tries)), .d (dI (a.C.Addrs)), .d (dI (a.C.Cap)), .d (.sl 1 (a.C.Roots.map encI)), .d (dI (a.Now)), .d (dI (a.K.Cap)), .d (.sl 6 (a.K.L.map Entry.cells)), .d (.sl 3 (a.Bad.map Lame.cells)), .d (.sl 7 (a.Jobs.map Job.cells)), .d (.sl 2 (a.Outs.map Packet.cells)), .d (.sl 8 (a.Reps.map Answer.cells)), .d (dI (a.Next))]⟩), (1, .t ⟨false, [.d (dI (left))]⟩)]) (hv := []) rfl rfl ?_
  refine v_seq ?_
  refine v_reg ?_
  refine sr 0 (.t ⟨false, [.vp 0 0]⟩) (.var [.d (dI (a.C.Quota)), .d (dI (a.C.Depth)), .d (dI (a.C.Chain)), .d (dI (a.C.Glue)), .d (dI (a.C.Tries)), .d (dI (a.C.Addrs)), .d (dI (a.C.Cap)), .d (.sl 1 (a.C.Roots.map encI)), .d (dI (a.Now)), .d (dI (a.K.Cap)), .d (.sl 6 (a.K.L.map Entry.cells)), .d (.sl 3 (a.Bad.map Lame.cells)), .d (.sl 7 (a.Jobs.map Job.cells)), .d (.sl 2 (a.Outs.map Packet.cells)), .d (.sl 8 (a.Reps.map Answer.cells)), .d (dI (a.Next))]) (zbx rfl (e rfl rfl) rfl rfl rfl) rfl rfl ?_
  refine sy _ (zas rfl (ec rfl)) rfl rfl ?_
  refine s_end ?_
  refine v_seq ?_
  refine v_reg ?_
  refine sy (.t ⟨false, [.vp 0 0]⟩) (zfa tabOk rfl rfl rfl (e rfl rfl) rfl rfl) rfl rfl ?_
  refine sy (.t ⟨true, [.d (dI (a.C.Quota)), .d (dI (a.C.Depth)), .d (dI (a.C.Chain)), .d (dI (a.C.Glue)), .d (dI (a.C.Tries)), .d (dI (a.C.Addrs)), .d (dI (a.C.Cap)), .d (.sl 1 (a.C.Roots.map encI))]⟩) (zlv tabOk rfl (e rfl rfl) rfl rfl rfl) rfl rfl ?_
  refine sy _ (zmv rfl (e rfl rfl)) rfl rfl ?_
  refine sxI (zcallX rfl (tr_szConf a.C hb.C left (by omega) (by omega)) (ar (e rfl rfl) (.d (.d (.d (.d (.d (.d (.d (.d .nil)))))))) (ar (e rfl rfl) (.d .nil) .nil))) rfl rfl (fun r1 hr1 => ?_)
  refine sy _ (zas rfl (e rfl rfl)) rfl rfl ?_
  refine s_end ?_
  refine v_seq ?_
  refine v_seq ?_
  refine v_reg ?_
  refine sy _ (zmv rfl (e rfl rfl)) rfl rfl ?_
  refine sy (.t ⟨false, [.d (dB (decide ((r1) < (0))))]⟩) (y_bin rfl (e rfl rfl) (ec rfl) (fun _ => b_lss) rfl) rfl rfl ?_
  refine s_end ?_
  refine v_cond (e rfl rfl) (fun hb2 => ?_) fun hb2 => ?_
  · refine v_seq ?_
    refine v_reg ?_
    refine sy _ (zas rfl (ec rfl)) rfl rfl ?_
    refine s_end ?_
    refine v_ret ?_
    exact post_retX [one (dI (-1))] ⟨-1, fun h => by omega, rfl⟩ (rv (.tmp (eg rfl rfl)) rfl (.lf .nil) rfl .nil) (.ro (.ro .nil)) rfl
  have p3 : 0 ≤ r1 := by have := hb2; simp at this; omega
  have p3q := hr1 p3
  have := p3q.1
  refine v_skip ?_
  refine v_seq ?_
  refine v_reg ?_
  refine sy (.t ⟨false, [.vp 0 9]⟩) (zfa tabOk rfl rfl rfl (e rfl rfl) rfl rfl) rfl rfl ?_
  refine sy (.t ⟨true, [.d (dI (a.K.Cap)), .d (.sl 6 (a.K.L.map Entry.cells))]⟩) (zlv tabOk rfl (e rfl rfl) rfl rfl rfl) rfl rfl ?_
  refine sy _ (zmv rfl (e rfl rfl)) rfl rfl ?_
  refine sxI (zcallX rfl (tr_szCache a.K hb.K r1 (by omega) (by omega)) (ar (e rfl rfl) (.d (.d .nil)) (ar (e rfl rfl) (.d .nil) .nil))) rfl rfl (fun r4 hr4 => ?_)
  refine sy _ (zas rfl (e rfl rfl)) rfl rfl ?_
  refine s_end ?_
  refine v_seq ?_
  refine v_seq ?_
  refine v_reg ?_
  refine sy _ (zmv rfl (e rfl rfl)) rfl rfl ?_
  refine sy (.t ⟨false, [.d (dB (decide ((r4) < (0))))]⟩) (y_bin rfl (e rfl rfl) (ec rfl) (fun _ => b_lss) rfl) rfl rfl ?_
  refine s_end ?_
  refine v_cond (e rfl rfl) (fun hb5 => ?_) fun hb5 => ?_
  · refine v_seq ?_
    refine v_reg ?_
    refine sy _ (zas rfl (ec rfl)) rfl rfl ?_
    refine s_end ?_
    refine v_ret ?_
    exact post_retX [one (dI (-1))] ⟨-1, fun h => by omega, rfl⟩ (rv (.tmp (eg rfl rfl)) rfl (.lf .nil) rfl .nil) (.ro (.ro .nil)) rfl
  have p6 : 0 ≤ r4 := by have := hb5; simp at this; omega
  have p6q := hr4 p6
  have := p6q.1
  refine v_skip ?_
  refine v_seq ?_
  refine v_reg ?_
  refine sy (.t ⟨false, [.vp 0 11]⟩) (zfa tabOk rfl rfl rfl (e rfl rfl) rfl rfl) rfl rfl ?_
  refine sy (.t ⟨false, [.d (.sl 3 (a.Bad.map Lame.cells))]⟩) (zlv tabOk rfl (e rfl rfl) rfl rfl rfl) rfl rfl ?_
  refine sy _ (zmv rfl (e rfl rfl)) rfl rfl ?_
  refine sxI (zcallX rfl (tr_szLameS a.Bad hb.Bad r4 (by omega) (by omega)) (ar (e rfl rfl) (.d .nil) (ar (e rfl rfl) (.d .nil) .nil))) rfl rfl (fun r7 hr7 => ?_)
  refine sy _ (zas rfl (e rfl rfl)) rfl rfl ?_
  refine s_end ?_
  refine v_seq ?_
  refine v_seq ?_
  refine v_reg ?_
  refine sy _ (zmv rfl (e rfl rfl)) rfl rfl ?_
  refine sy (.t ⟨false, [.d (dB (decide ((r7) < (0))))]⟩) (y_bin rfl (e rfl rfl) (ec rfl) (fun _ => b_lss) rfl) rfl rfl ?_
  refine s_end ?_
  refine v_cond (e rfl rfl) (fun hb8 => ?_) fun hb8 => ?_
  · refine v_seq ?_
    refine v_reg ?_
    refine sy _ (zas rfl (ec rfl)) rfl rfl ?_
    refine s_end ?_
    refine v_ret ?_
    exact post_retX [one (dI (-1))] ⟨-1, fun h => by omega, rfl⟩ (rv (.tmp (eg rfl rfl)) rfl (.lf .nil) rfl .nil) (.ro (.ro .nil)) rfl
  have p9 : 0 ≤ r7 := by have := hb8; simp at this; omega
  have p9q := hr7 p9
  have := p9q.1
  refine v_skip ?_
  refine v_seq ?_
  refine v_reg ?_
  refine sy (.t ⟨false, [.vp 0 12]⟩) (zfa tabOk rfl rfl rfl (e rfl rfl) rfl rfl) rfl rfl ?_
  refine sy (.t ⟨false, [.d (.sl 7 (a.Jobs.map Job.cells))]⟩) (zlv tabOk rfl (e rfl rfl) rfl rfl rfl) rfl rfl ?_
  refine sy _ (zmv rfl (e rfl rfl)) rfl rfl ?_
  refine sxI (zcallX rfl (tr_szJobS a.Jobs hb.Jobs r7 (by omega) (by omega)) (ar (e rfl rfl) (.d .nil) (ar (e rfl rfl) (.d .nil) .nil))) rfl rfl (fun r10 hr10 => ?_)
  refine sy _ (zas rfl (e rfl rfl)) rfl rfl ?_
  refine s_end ?_
  refine v_seq ?_
  refine v_seq ?_
  refine v_reg ?_
  refine sy _ (zmv rfl (e rfl rfl)) rfl rfl ?_
  refine sy (.t ⟨false, [.d (dB (decide ((r10) < (0))))]⟩) (y_bin rfl (e rfl rfl) (ec rfl) (fun _ => b_lss) rfl) rfl rfl ?_
  refine s_end ?_
  refine v_cond (e rfl rfl) (fun hb11 => ?_) fun hb11 => ?_
  · refine v_seq ?_
    refine v_reg ?_
    refine sy _ (zas rfl (ec rfl)) rfl rfl ?_
    refine s_end ?_
    refine v_ret ?_
    exact post_retX [one (dI (-1))] ⟨-1, fun h => by omega, rfl⟩ (rv (.tmp (eg rfl rfl)) rfl (.lf .nil) rfl .nil) (.ro (.ro .nil)) rfl
  have p12 : 0 ≤ r10 := by have := hb11; simp at this; omega
  have p12q := hr10 p12
  have := p12q.1
  refine v_skip ?_
  refine v_seq ?_
  refine v_reg ?_
  refine sy (.t ⟨false, [.vp 0 13]⟩) (zfa tabOk rfl rfl rfl (e rfl rfl) rfl rfl) rfl rfl ?_
  refine sy (.t ⟨false, [.d (.sl 2 (a.Outs.map Packet.cells))]⟩) (zlv tabOk rfl (e rfl rfl) rfl rfl rfl) rfl rfl ?_
  refine sy _ (zmv rfl (e rfl rfl)) rfl rfl ?_
  refine sxI (zcallX rfl (tr_szPacketS a.Outs hb.Outs r10 (by omega) (by omega)) (ar (e rfl rfl) (.d .nil) (ar (e rfl rfl) (.d .nil) .nil))) rfl rfl (fun r13 hr13 => ?_)
  refine sy _ (zas rfl (e rfl rfl)) rfl rfl ?_
  refine s_end ?_
  refine v_seq ?_
  refine v_seq ?_
  refine v_reg ?_
  refine sy _ (zmv rfl (e rfl rfl)) rfl rfl ?_
  refine sy (.t ⟨false, [.d (dB (decide ((r13) < (0))))]⟩) (y_bin rfl (e rfl rfl) (ec rfl) (fun _ => b_lss) rfl) rfl rfl ?_
  refine s_end ?_
  refine v_cond (e rfl rfl) (fun hb14 => ?_) fun hb14 => ?_
  · refine v_seq ?_
    refine v_reg ?_
    refine sy _ (zas rfl (ec rfl)) rfl rfl ?_
    refine s_end ?_
    refine v_ret ?_
    exact post_retX [one (dI (-1))] ⟨-1, fun h => by omega, rfl⟩ (rv (.tmp (eg rfl rfl)) rfl (.lf .nil) rfl .nil) (.ro (.ro .nil)) rfl
  have p15 : 0 ≤ r13 := by have := hb14; simp at this; omega
  have p15q := hr13 p15
  have := p15q.1
  refine v_skip ?_
  refine v_seq ?_
  refine v_reg ?_
  refine sy (.t ⟨false, [.vp 0 14]⟩) (zfa tabOk rfl rfl rfl (e rfl rfl) rfl rfl) rfl rfl ?_
  refine sy (.t ⟨false, [.d (.sl 8 (a.Reps.map Answer.cells))]⟩) (zlv tabOk rfl (e rfl rfl) rfl rfl rfl) rfl rfl ?_
  refine sy _ (zmv rfl (e rfl rfl)) rfl rfl ?_
  refine sxI (zcallX rfl (tr_szAnswerS a.Reps hb.Reps r13 (by omega) (by omega)) (ar (e rfl rfl) (.d .nil) (ar (e rfl rfl) (.d .nil) .nil))) rfl rfl (fun r16 hr16 => ?_)
  refine sy _ (zas rfl (e rfl rfl)) rfl rfl ?_
  refine s_end ?_
  refine v_seq ?_
  refine v_seq ?_
  refine v_reg ?_
  refine sy _ (zmv rfl (e rfl rfl)) rfl rfl ?_
  refine sy (.t ⟨false, [.d (dB (decide ((r16) < (0))))]⟩) (y_bin rfl (e rfl rfl) (ec rfl) (fun _ => b_lss) rfl) rfl rfl ?_
  refine s_end ?_
  refine v_cond (e rfl rfl) (fun hb17 => ?_) fun hb17 => ?_
  · refine v_seq ?_
    refine v_reg ?_
    refine sy _ (zas rfl (ec rfl)) rfl rfl ?_
    refine s_end ?_
    refine v_ret ?_
    exact post_retX [one (dI (-1))] ⟨-1, fun h => by omega, rfl⟩ (rv (.tmp (eg rfl rfl)) rfl (.lf .nil) rfl .nil) (.ro (.ro .nil)) rfl
  have p18 : 0 ≤ r16 := by have := hb17; simp at this; omega
  have p18q := hr16 p18
  have := p18q.1
  refine v_skip ?_
  refine v_seq ?_
  refine v_reg ?_
  refine sy _ (zmv rfl (e rfl rfl)) rfl rfl ?_
  refine sy _ (zas rfl (e rfl rfl)) rfl rfl ?_
  refine s_end ?_
  refine v_ret ?_
  have := p3q.1
  have := p6q.1
  have := p9q.1
  have := p12q.1
  have := p15q.1
  have := p18q.1
  exact post_retX [one (dI (r16))] ⟨r16, fun h => ⟨by simp only [World.wt]; omega, ⟨p3q.2, p6q.2, p9q.2, p12q.2, p15q.2, p18q.2⟩⟩, rfl⟩ (rv (.tmp (eg rfl rfl)) rfl (.lf .nil) rfl .nil) (.ro (.ro .nil)) rfl
set_option maxRecDepth 20000 in
theorem tr_toWorld (a : World) (ha : a.Fit) : Tr Try.prog 17 [.ro ⟨true, [dI (a.C.Quota), dI (a.C.Depth), dI (a.C.Chain), dI (a.C.Glue), dI (a.C.Tries), dI (a.C.Addrs), dI (a.C.Cap), .sl 1 (a.C.Roots.map encI), dI (a.Now), dI (a.K.Cap), .sl 6 (a.K.L.map Entry.cells), .sl 3 (a.Bad.map Lame.cells), .sl 7 (a.Jobs.map Job.cells), .sl 2 (a.Outs.map Packet.cells), .sl 8 (a.Reps.map Answer.cells), dI (a.Next)]⟩] [⟨true, [dI (a.C.Quota), dI (a.C.Depth), dI (a.C.Chain), dI (a.C.Glue), dI (a.C.Tries), dI (a.C.Addrs), dI (a.C.Cap), .sl 1 (a.C.Roots.map encI), dI (a.Now), dI (a.K.Cap), .sl 6 (a.K.L.map Entry.cells), .sl 3 (a.Bad.map Lame.cells), .sl 7 (a.Jobs.map Job.cells), .sl 2 (a.Outs.map Packet.cells), .sl 8 (a.Reps.map Answer.cells), dI (a.Next)]⟩] := by
  refine tr_go tabOk Try.func17 rfl rfl rfl rfl rfl (ov := [(0, .t ⟨true, [.d (dI (a.C.Quota)), .d (dI (a.C.Depth)), .d (dI (a.C.Chain)), .d (dI (a.C.Glue)), .d (dI (a.C.Tries)), .d (dI (a.C.Addrs)), .d (dI (a.C.Cap)), .d (.sl 1 (a.C.Roots.map encI)), .d (dI (a.Now)), .d (dI (a.K.Cap)), .d (.sl 6 (a.K.L.map Entry.cells)), .d (.sl 3 (a.Bad.map Lame.cells)), .d (.sl 7 (a.Jobs.map Job.cells)), .d (.sl 2 (a.Outs.map Packet.cells)), .d (.sl 8 (a.Reps.map Answer.cells)), .d (dI (a.Next))]⟩)]) (hv := []) rfl rfl ?_
  refine v_seq ?_
  refine v_reg ?_
  refine sr 0 (.t ⟨false, [.vp 0 0]⟩) (.var [.d (dI (a.C.Quota)), .d (dI (a.C.Depth)), .d (dI (a.C.Chain)), .d (dI (a.C.Glue)), .d (dI (a.C.Tries)), .d (dI (a.C.Addrs)), .d (dI (a.C.Cap)), .d (.sl 1 (a.C.Roots.map encI)), .d (dI (a.Now)), .d (dI (a.K.Cap)), .d (.sl 6 (a.K.L.map Entry.cells)), .d (.sl 3 (a.Bad.map Lame.cells)), .d (.sl 7 (a.Jobs.map Job.cells)), .d (.sl 2 (a.Outs.map Packet.cells)), .d (.sl 8 (a.Reps.map Answer.cells)), .d (dI (a.Next))]) (zbx rfl (e rfl rfl) rfl rfl rfl) rfl rfl ?_
  refine sr 1 (.t ⟨false, [.vp 1 0]⟩) (.var [.d (dI (0)), .d (dI (0)), .d (dI (0)), .d (dI (0)), .d (dI (0)), .d (dI (0)), .d (dI (0)), .nl 1, .d (dI (0)), .d (dI (0)), .nl 6, .nl 3, .nl 7, .nl 2, .nl 8, .d (dI (0))]) (zal tabOk rfl rfl rfl rfl) rfl rfl ?_
  refine s_end ?_
  refine v_seq ?_
  refine v_reg ?_
  refine sr 2 (.t ⟨false, [.vp 2 0]⟩) (.var [.d (dI (0)), .d (dI (0)), .d (dI (0)), .d (dI (0)), .d (dI (0)), .d (dI (0)), .d (dI (0)), .nl 1, .d (dI (0)), .d (dI (0)), .nl 6, .nl 3, .nl 7, .nl 2, .nl 8, .d (dI (0))]) (zal tabOk rfl rfl rfl rfl) rfl rfl ?_
  refine s_end ?_
  refine v_seq ?_
  refine v_reg ?_
  refine sy (.t ⟨false, [.vp 0 0]⟩) (zfa tabOk rfl rfl rfl (e rfl rfl) rfl rfl) rfl rfl ?_
  refine sy (.t ⟨true, [.d (dI (a.C.Quota)), .d (dI (a.C.Depth)), .d (dI (a.C.Chain)), .d (dI (a.C.Glue)), .d (dI (a.C.Tries)), .d (dI (a.C.Addrs)), .d (dI (a.C.Cap)), .d (.sl 1 (a.C.Roots.map encI))]⟩) (zlv tabOk rfl (e rfl rfl) rfl rfl rfl) rfl rfl ?_
  refine sd (.t ⟨true, [.d (dI (a.C.Quota)), .d (dI (a.C.Depth)), .d (dI (a.C.Chain)), .d (dI (a.C.Glue)), .d (dI (a.C.Tries)), .d (dI (a.C.Addrs)), .d (dI (a.C.Cap)), .sr 3 1 0 ((a.C.Roots.map encI).length) ((a.C.Roots.map encI).length)]⟩) (zcall 3 (.t ⟨true, [.d (dI (a.C.Quota)), .d (dI (a.C.Depth)), .d (dI (a.C.Chain)), .d (dI (a.C.Glue)), .d (dI (a.C.Tries)), .d (dI (a.C.Addrs)), .d (dI (a.C.Cap)), .sr 3 1 0 ((a.C.Roots.map encI).length) ((a.C.Roots.map encI).length)]⟩) [(3, .row 1 (a.C.Roots.map encI) true 1 0)] rfl (tr_toConf a.C ha.C) (ar (e rfl rfl) (.d (.d (.d (.d (.d (.d (.d (.d .nil)))))))) .nil) rfl rfl rfl) rfl rfl rfl rfl ?_
  refine sy (.t ⟨false, [.vp 2 0]⟩) (zfa tabOk rfl rfl rfl (e rfl rfl) rfl rfl) rfl rfl ?_
  refine sw 2 (.var [.d (dI (a.C.Quota)), .d (dI (a.C.Depth)), .d (dI (a.C.Chain)), .d (dI (a.C.Glue)), .d (dI (a.C.Tries)), .d (dI (a.C.Addrs)), .d (dI (a.C.Cap)), .sr 3 1 0 ((a.C.Roots.map encI).length) ((a.C.Roots.map encI).length), .d (dI (0)), .d (dI (0)), .nl 6, .nl 3, .nl 7, .nl 2, .nl 8, .d (dI (0))]) (zst tabOk rfl (e rfl rfl) rfl (e rfl rfl) rfl rfl rfl) rfl rfl ?_
  refine s_end ?_
  refine v_seq ?_
  refine v_reg ?_
  refine sy (.t ⟨false, [.vp 0 8]⟩) (zfa tabOk rfl rfl rfl (e rfl rfl) rfl rfl) rfl rfl ?_
  refine sy (.t ⟨false, [.d (dI (a.Now))]⟩) (zlv tabOk rfl (e rfl rfl) rfl rfl rfl) rfl rfl ?_
  refine sy (.t ⟨false, [.vp 2 8]⟩) (zfa tabOk rfl rfl rfl (e rfl rfl) rfl rfl) rfl rfl ?_
  refine sw 2 (.var [.d (dI (a.C.Quota)), .d (dI (a.C.Depth)), .d (dI (a.C.Chain)), .d (dI (a.C.Glue)), .d (dI (a.C.Tries)), .d (dI (a.C.Addrs)), .d (dI (a.C.Cap)), .sr 3 1 0 ((a.C.Roots.map encI).length) ((a.C.Roots.map encI).length), .d (dI (a.Now)), .d (dI (0)), .nl 6, .nl 3, .nl 7, .nl 2, .nl 8, .d (dI (0))]) (zst tabOk rfl (e rfl rfl) rfl (e rfl rfl) rfl rfl rfl) rfl rfl ?_
  refine s_end ?_
  refine v_seq ?_
  refine v_reg ?_
  refine sy (.t ⟨false, [.vp 0 9]⟩) (zfa tabOk rfl rfl rfl (e rfl rfl) rfl rfl) rfl rfl ?_
  refine sy (.t ⟨true, [.d (dI (a.K.Cap)), .d (.sl 6 (a.K.L.map Entry.cells))]⟩) (zlv tabOk rfl (e rfl rfl) rfl rfl rfl) rfl rfl ?_
  refine sd (.t ⟨true, [.d (dI (a.K.Cap)), .sr 4 1 0 ((a.K.L.map Entry.cells).length) ((a.K.L.map Entry.cells).length)]⟩) (zcall 4 (.t ⟨true, [.d (dI (a.K.Cap)), .sr 4 1 0 ((a.K.L.map Entry.cells).length) ((a.K.L.map Entry.cells).length)]⟩) [(4, .row 6 (a.K.L.map Entry.cells) true 1 0)] rfl (tr_toCache a.K ha.K) (ar (e rfl rfl) (.d (.d .nil)) .nil) rfl rfl rfl) rfl rfl rfl rfl ?_
  refine sy (.t ⟨false, [.vp 2 9]⟩) (zfa tabOk rfl rfl rfl (e rfl rfl) rfl rfl) rfl rfl ?_
  refine sw 2 (.var [.d (dI (a.C.Quota)), .d (dI (a.C.Depth)), .d (dI (a.C.Chain)), .d (dI (a.C.Glue)), .d (dI (a.C.Tries)), .d (dI (a.C.Addrs)), .d (dI (a.C.Cap)), .sr 3 1 0 ((a.C.Roots.map encI).length) ((a.C.Roots.map encI).length), .d (dI (a.Now)), .d (dI (a.K.Cap)), .sr 4 1 0 ((a.K.L.map Entry.cells).length) ((a.K.L.map Entry.cells).length), .nl 3, .nl 7, .nl 2, .nl 8, .d (dI (0))]) (zst tabOk rfl (e rfl rfl) rfl (e rfl rfl) rfl rfl rfl) rfl rfl ?_
  refine s_end ?_
  refine v_seq ?_
  refine v_reg ?_
  refine sy (.t ⟨false, [.vp 0 11]⟩) (zfa tabOk rfl rfl rfl (e rfl rfl) rfl rfl) rfl rfl ?_
  refine sy (.t ⟨false, [.d (.sl 3 (a.Bad.map Lame.cells))]⟩) (zlv tabOk rfl (e rfl rfl) rfl rfl rfl) rfl rfl ?_
  refine sd (.t ⟨false, [.sr 5 1 0 ((a.Bad.map Lame.cells).length) ((a.Bad.map Lame.cells).length)]⟩) (zcall 5 (.t ⟨false, [.sr 5 1 0 ((a.Bad.map Lame.cells).length) ((a.Bad.map Lame.cells).length)]⟩) [(5, .row 3 (a.Bad.map Lame.cells) true 1 0)] rfl (tr_toLameS a.Bad ha.Bad) (ar (e rfl rfl) (.d .nil) .nil) rfl rfl rfl) rfl rfl rfl rfl ?_
  refine sy (.t ⟨false, [.vp 2 11]⟩) (zfa tabOk rfl rfl rfl (e rfl rfl) rfl rfl) rfl rfl ?_
  refine sw 2 (.var [.d (dI (a.C.Quota)), .d (dI (a.C.Depth)), .d (dI (a.C.Chain)), .d (dI (a.C.Glue)), .d (dI (a.C.Tries)), .d (dI (a.C.Addrs)), .d (dI (a.C.Cap)), .sr 3 1 0 ((a.C.Roots.map encI).length) ((a.C.Roots.map encI).length), .d (dI (a.Now)), .d (dI (a.K.Cap)), .sr 4 1 0 ((a.K.L.map Entry.cells).length) ((a.K.L.map Entry.cells).length), .sr 5 1 0 ((a.Bad.map Lame.cells).length) ((a.Bad.map Lame.cells).length), .nl 7, .nl 2, .nl 8, .d (dI (0))]) (zst tabOk rfl (e rfl rfl) rfl (e rfl rfl) rfl rfl rfl) rfl rfl ?_
  refine s_end ?_
  refine v_seq ?_
  refine v_reg ?_
  refine sy (.t ⟨false, [.vp 0 12]⟩) (zfa tabOk rfl rfl rfl (e rfl rfl) rfl rfl) rfl rfl ?_
  refine sy (.t ⟨false, [.d (.sl 7 (a.Jobs.map Job.cells))]⟩) (zlv tabOk rfl (e rfl rfl) rfl rfl rfl) rfl rfl ?_
  refine sd (.t ⟨false, [.sr 6 1 0 ((a.Jobs.map Job.cells).length) ((a.Jobs.map Job.cells).length)]⟩) (zcall 6 (.t ⟨false, [.sr 6 1 0 ((a.Jobs.map Job.cells).length) ((a.Jobs.map Job.cells).length)]⟩) [(6, .row 7 (a.Jobs.map Job.cells) true 1 0)] rfl (tr_toJobS a.Jobs ha.Jobs) (ar (e rfl rfl) (.d .nil) .nil) rfl rfl rfl) rfl rfl rfl rfl ?_
  refine sy (.t ⟨false, [.vp 2 12]⟩) (zfa tabOk rfl rfl rfl (e rfl rfl) rfl rfl) rfl rfl ?_
  refine sw 2 (.var [.d (dI (a.C.Quota)), .d (dI (a.C.Depth)), .d (dI (a.C.Chain)), .d (dI (a.C.Glue)), .d (dI (a.C.Tries)), .d (dI (a.C.Addrs)), .d (dI (a.C.Cap)), .sr 3 1 0 ((a.C.Roots.map encI).length) ((a.C.Roots.map encI).length), .d (dI (a.Now)), .d (dI (a.K.Cap)), .sr 4 1 0 ((a.K.L.map Entry.cells).length) ((a.K.L.map Entry.cells).length), .sr 5 1 0 ((a.Bad.map Lame.cells).length) ((a.Bad.map Lame.cells).length), .sr 6 1 0 ((a.Jobs.map Job.cells).length) ((a.Jobs.map Job.cells).length), .nl 2, .nl 8, .d (dI (0))]) (zst tabOk rfl (e rfl rfl) rfl (e rfl rfl) rfl rfl rfl) rfl rfl ?_
  refine s_end ?_
  refine v_seq ?_
  refine v_reg ?_
  refine sy (.t ⟨false, [.vp 0 13]⟩) (zfa tabOk rfl rfl rfl (e rfl rfl) rfl rfl) rfl rfl ?_
  refine sy (.t ⟨false, [.d (.sl 2 (a.Outs.map Packet.cells))]⟩) (zlv tabOk rfl (e rfl rfl) rfl rfl rfl) rfl rfl ?_
  refine sd (.t ⟨false, [.sr 7 1 0 ((a.Outs.map Packet.cells).length) ((a.Outs.map Packet.cells).length)]⟩) (zcall 7 (.t ⟨false, [.sr 7 1 0 ((a.Outs.map Packet.cells).length) ((a.Outs.map Packet.cells).length)]⟩) [(7, .row 2 (a.Outs.map Packet.cells) true 1 0)] rfl (tr_toPacketS a.Outs ha.Outs) (ar (e rfl rfl) (.d .nil) .nil) rfl rfl rfl) rfl rfl rfl rfl ?_
  refine sy (.t ⟨false, [.vp 2 13]⟩) (zfa tabOk rfl rfl rfl (e rfl rfl) rfl rfl) rfl rfl ?_
  refine sw 2 (.var [.d (dI (a.C.Quota)), .d (dI (a.C.Depth)), .d (dI (a.C.Chain)), .d (dI (a.C.Glue)), .d (dI (a.C.Tries)), .d (dI (a.C.Addrs)), .d (dI (a.C.Cap)), .sr 3 1 0 ((a.C.Roots.map encI).length) ((a.C.Roots.map encI).length), .d (dI (a.Now)), .d (dI (a.K.Cap)), .sr 4 1 0 ((a.K.L.map Entry.cells).length) ((a.K.L.map Entry.cells).length), .sr 5 1 0 ((a.Bad.map Lame.cells).length) ((a.Bad.map Lame.cells).length), .sr 6 1 0 ((a.Jobs.map Job.cells).length) ((a.Jobs.map Job.cells).length), .sr 7 1 0 ((a.Outs.map Packet.cells).length) ((a.Outs.map Packet.cells).length), .nl 8, .d (dI (0))]) (zst tabOk rfl (e rfl rfl) rfl (e rfl rfl) rfl rfl rfl) rfl rfl ?_
  refine s_end ?_
  refine v_seq ?_
  refine v_reg ?_
  refine sy (.t ⟨false, [.vp 0 14]⟩) (zfa tabOk rfl rfl rfl (e rfl rfl) rfl rfl) rfl rfl ?_
  refine sy (.t ⟨false, [.d (.sl 8 (a.Reps.map Answer.cells))]⟩) (zlv tabOk rfl (e rfl rfl) rfl rfl rfl) rfl rfl ?_
  refine sd (.t ⟨false, [.sr 8 1 0 ((a.Reps.map Answer.cells).length) ((a.Reps.map Answer.cells).length)]⟩) (zcall 8 (.t ⟨false, [.sr 8 1 0 ((a.Reps.map Answer.cells).length) ((a.Reps.map Answer.cells).length)]⟩) [(8, .row 8 (a.Reps.map Answer.cells) true 1 0)] rfl (tr_toAnswerS a.Reps ha.Reps) (ar (e rfl rfl) (.d .nil) .nil) rfl rfl rfl) rfl rfl rfl rfl ?_
  refine sy (.t ⟨false, [.vp 2 14]⟩) (zfa tabOk rfl rfl rfl (e rfl rfl) rfl rfl) rfl rfl ?_
  refine sw 2 (.var [.d (dI (a.C.Quota)), .d (dI (a.C.Depth)), .d (dI (a.C.Chain)), .d (dI (a.C.Glue)), .d (dI (a.C.Tries)), .d (dI (a.C.Addrs)), .d (dI (a.C.Cap)), .sr 3 1 0 ((a.C.Roots.map encI).length) ((a.C.Roots.map encI).length), .d (dI (a.Now)), .d (dI (a.K.Cap)), .sr 4 1 0 ((a.K.L.map Entry.cells).length) ((a.K.L.map Entry.cells).length), .sr 5 1 0 ((a.Bad.map Lame.cells).length) ((a.Bad.map Lame.cells).length), .sr 6 1 0 ((a.Jobs.map Job.cells).length) ((a.Jobs.map Job.cells).length), .sr 7 1 0 ((a.Outs.map Packet.cells).length) ((a.Outs.map Packet.cells).length), .sr 8 1 0 ((a.Reps.map Answer.cells).length) ((a.Reps.map Answer.cells).length), .d (dI (0))]) (zst tabOk rfl (e rfl rfl) rfl (e rfl rfl) rfl rfl rfl) rfl rfl ?_
  refine s_end ?_
  refine v_seq ?_
  refine v_reg ?_
  refine sy (.t ⟨false, [.vp 0 15]⟩) (zfa tabOk rfl rfl rfl (e rfl rfl) rfl rfl) rfl rfl ?_
  refine sy (.t ⟨false, [.d (dI (a.Next))]⟩) (zlv tabOk rfl (e rfl rfl) rfl rfl rfl) rfl rfl ?_
  refine sy (.t ⟨false, [.vp 2 15]⟩) (zfa tabOk rfl rfl rfl (e rfl rfl) rfl rfl) rfl rfl ?_
  refine sw 2 (.var [.d (dI (a.C.Quota)), .d (dI (a.C.Depth)), .d (dI (a.C.Chain)), .d (dI (a.C.Glue)), .d (dI (a.C.Tries)), .d (dI (a.C.Addrs)), .d (dI (a.C.Cap)), .sr 3 1 0 ((a.C.Roots.map encI).length) ((a.C.Roots.map encI).length), .d (dI (a.Now)), .d (dI (a.K.Cap)), .sr 4 1 0 ((a.K.L.map Entry.cells).length) ((a.K.L.map Entry.cells).length), .sr 5 1 0 ((a.Bad.map Lame.cells).length) ((a.Bad.map Lame.cells).length), .sr 6 1 0 ((a.Jobs.map Job.cells).length) ((a.Jobs.map Job.cells).length), .sr 7 1 0 ((a.Outs.map Packet.cells).length) ((a.Outs.map Packet.cells).length), .sr 8 1 0 ((a.Reps.map Answer.cells).length) ((a.Reps.map Answer.cells).length), .d (dI (a.Next))]) (zst tabOk rfl (e rfl rfl) rfl (e rfl rfl) rfl rfl rfl) rfl rfl ?_
  refine s_end ?_
  refine v_seq ?_
  refine v_reg ?_
  refine sy (.t ⟨true, [.d (dI (a.C.Quota)), .d (dI (a.C.Depth)), .d (dI (a.C.Chain)), .d (dI (a.C.Glue)), .d (dI (a.C.Tries)), .d (dI (a.C.Addrs)), .d (dI (a.C.Cap)), .sr 3 1 0 ((a.C.Roots.map encI).length) ((a.C.Roots.map encI).length), .d (dI (a.Now)), .d (dI (a.K.Cap)), .sr 4 1 0 ((a.K.L.map Entry.cells).length) ((a.K.L.map Entry.cells).length), .sr 5 1 0 ((a.Bad.map Lame.cells).length) ((a.Bad.map Lame.cells).length), .sr 6 1 0 ((a.Jobs.map Job.cells).length) ((a.Jobs.map Job.cells).length), .sr 7 1 0 ((a.Outs.map Packet.cells).length) ((a.Outs.map Packet.cells).length), .sr 8 1 0 ((a.Reps.map Answer.cells).length) ((a.Reps.map Answer.cells).length), .d (dI (a.Next))]⟩) (zlv tabOk rfl (e rfl rfl) rfl rfl rfl) rfl rfl ?_
  refine sw 1 (.var [.d (dI (a.C.Quota)), .d (dI (a.C.Depth)), .d (dI (a.C.Chain)), .d (dI (a.C.Glue)), .d (dI (a.C.Tries)), .d (dI (a.C.Addrs)), .d (dI (a.C.Cap)), .sr 3 1 0 ((a.C.Roots.map encI).length) ((a.C.Roots.map encI).length), .d (dI (a.Now)), .d (dI (a.K.Cap)), .sr 4 1 0 ((a.K.L.map Entry.cells).length) ((a.K.L.map Entry.cells).length), .sr 5 1 0 ((a.Bad.map Lame.cells).length) ((a.Bad.map Lame.cells).length), .sr 6 1 0 ((a.Jobs.map Job.cells).length) ((a.Jobs.map Job.cells).length), .sr 7 1 0 ((a.Outs.map Packet.cells).length) ((a.Outs.map Packet.cells).length), .sr 8 1 0 ((a.Reps.map Answer.cells).length) ((a.Reps.map Answer.cells).length), .d (dI (a.Next))]) (zst tabOk rfl (e rfl rfl) rfl (e rfl rfl) rfl rfl rfl) rfl rfl ?_
  refine s_end ?_
  refine v_ret ?_
  exact post_ret (rv (.cell (eg rfl rfl) rfl rfl (.inl rfl) rfl) rfl (.lf (.lf (.lf (.lf (.lf (.lf (.lf (.sr rfl le_all take_all (.lf (.lf (.sr rfl le_all take_all (.sr rfl le_all take_all (.sr rfl le_all take_all (.sr rfl le_all take_all (.sr rfl le_all take_all (.lf .nil)))))))))))))))) rfl .nil) (.ro .nil) rfl
set_option maxRecDepth 20000 in
theorem tr_eqWorld (a b : World) (ha : a.Fit) (hb0 : b.Fit) : Tr Try.prog 10 [.ro ⟨true, [dI (a.C.Quota), dI (a.C.Depth), dI (a.C.Chain), dI (a.C.Glue), dI (a.C.Tries), dI (a.C.Addrs), dI (a.C.Cap), .sl 1 (a.C.Roots.map encI), dI (a.Now), dI (a.K.Cap), .sl 6 (a.K.L.map Entry.cells), .sl 3 (a.Bad.map Lame.cells), .sl 7 (a.Jobs.map Job.cells), .sl 2 (a.Outs.map Packet.cells), .sl 8 (a.Reps.map Answer.cells), dI (a.Next)]⟩, .ro ⟨true, [dI (b.C.Quota), dI (b.C.Depth), dI (b.C.Chain), dI (b.C.Glue), dI (b.C.Tries), dI (b.C.Addrs), dI (b.C.Cap), .sl 1 (b.C.Roots.map encI), dI (b.Now), dI (b.K.Cap), .sl 6 (b.K.L.map Entry.cells), .sl 3 (b.Bad.map Lame.cells), .sl 7 (b.Jobs.map Job.cells), .sl 2 (b.Outs.map Packet.cells), .sl 8 (b.Reps.map Answer.cells), dI (b.Next)]⟩] [one (dB (decide (a = b)))] := by
  refine tr_go tabOk Try.func10 rfl rfl rfl rfl rfl (ov := [(0, .t ⟨true, [.d (dI (a.C.Quota)), .d (dI (a.C.Depth)), .d (dI (a.C.Chain)), .d (dI (a.C.Glue)), .d (dI (a.C.Tries)), .d (dI (a.C.Addrs)), .d (dI (a.C.Cap)), .d (.sl 1 (a.C.Roots.map encI)), .d (dI (a.Now)), .d (dI (a.K.Cap)), .d (.sl 6 (a.K.L.map Entry.cells)), .d (.sl 3 (a.Bad.map Lame.cells)), .d (.sl 7 (a.Jobs.map Job.cells)), .d (.sl 2 (a.Outs.map Packet.cells)), .d (.sl 8 (a.Reps.map Answer.cells)), .d (dI (a.Next))]⟩), (1, .t ⟨true, [.d (dI (b.C.Quota)), .d (dI (b.C.Depth)), .d (dI (b.C.Chain)), .d (dI (b.C.Glue)), .d (dI (b.C.Tries)), .d (dI (b.C.Addrs)), .d (dI (b.C.Cap)), .d (.sl 1 (b.C.Roots.map encI)), .d (dI (b.Now)), .d (dI (b.K.Cap)), .d (.sl 6 (b.K.L.map Entry.cells)), .d (.sl 3 (b.Bad.map Lame.cells)), .d (.sl 7 (b.Jobs.map Job.cells)), .d (.sl 2 (b.Outs.map Packet.cells)), .d (.sl 8 (b.Reps.map Answer.cells)), .d (dI (b.Next))]⟩)]) (hv := []) rfl rfl ?_
  refine v_seq ?_
  refine v_reg ?_
  refine sr 0 (.t ⟨false, [.vp 0 0]⟩) (.var [.d (dI (a.C.Quota)), .d (dI (a.C.Depth)), .d (dI (a.C.Chain)), .d (dI (a.C.Glue)), .d (dI (a.C.Tries)), .d (dI (a.C.Addrs)), .d (dI (a.C.Cap)), .d (.sl 1 (a.C.Roots.map encI)), .d (dI (a.Now)), .d (dI (a.K.Cap)), .d (.sl 6 (a.K.L.map Entry.cells)), .d (.sl 3 (a.Bad.map Lame.cells)), .d (.sl 7 (a.Jobs.map Job.cells)), .d (.sl 2 (a.Outs.map Packet.cells)), .d (.sl 8 (a.Reps.map Answer.cells)), .d (dI (a.Next))]) (zbx rfl (e rfl rfl) rfl rfl rfl) rfl rfl ?_
  refine sr 1 (.t ⟨false, [.vp 1 0]⟩) (.var [.d (dI (b.C.Quota)), .d (dI (b.C.Depth)), .d (dI (b.C.Chain)), .d (dI (b.C.Glue)), .d (dI (b.C.Tries)), .d (dI (b.C.Addrs)), .d (dI (b.C.Cap)), .d (.sl 1 (b.C.Roots.map encI)), .d (dI (b.Now)), .d (dI (b.K.Cap)), .d (.sl 6 (b.K.L.map Entry.cells)), .d (.sl 3 (b.Bad.map Lame.cells)), .d (.sl 7 (b.Jobs.map Job.cells)), .d (.sl 2 (b.Outs.map Packet.cells)), .d (.sl 8 (b.Reps.map Answer.cells)), .d (dI (b.Next))]) (zbx rfl (e rfl rfl) rfl rfl rfl) rfl rfl ?_
  refine sy _ (zas rfl (ec rfl)) rfl rfl ?_
  refine s_end ?_
  refine v_seq ?_
  refine v_seq ?_
  refine v_reg ?_
  refine sy (.t ⟨false, [.vp 0 0]⟩) (zfa tabOk rfl rfl rfl (e rfl rfl) rfl rfl) rfl rfl ?_
  refine sy (.t ⟨true, [.d (dI (a.C.Quota)), .d (dI (a.C.Depth)), .d (dI (a.C.Chain)), .d (dI (a.C.Glue)), .d (dI (a.C.Tries)), .d (dI (a.C.Addrs)), .d (dI (a.C.Cap)), .d (.sl 1 (a.C.Roots.map encI))]⟩) (zlv tabOk rfl (e rfl rfl) rfl rfl rfl) rfl rfl ?_
  refine sy (.t ⟨false, [.vp 1 0]⟩) (zfa tabOk rfl rfl rfl (e rfl rfl) rfl rfl) rfl rfl ?_
  refine sy (.t ⟨true, [.d (dI (b.C.Quota)), .d (dI (b.C.Depth)), .d (dI (b.C.Chain)), .d (dI (b.C.Glue)), .d (dI (b.C.Tries)), .d (dI (b.C.Addrs)), .d (dI (b.C.Cap)), .d (.sl 1 (b.C.Roots.map encI))]⟩) (zlv tabOk rfl (e rfl rfl) rfl rfl rfl) rfl rfl ?_
  refine sd (.t ⟨false, [.d (dB (decide (a.C = b.C)))]⟩) (zcall 2 (.t ⟨false, [.d (dB (decide (a.C = b.C)))]⟩) [] rfl (tr_eqConf a.C b.C ha.C hb0.C) (ar (e rfl rfl) (.d (.d (.d (.d (.d (.d (.d (.d .nil)))))))) (ar (e rfl rfl) (.d (.d (.d (.d (.d (.d (.d (.d .nil)))))))) .nil)) rfl rfl rfl) rfl rfl rfl rfl ?_
  refine sy (.t ⟨false, [.d (dB (!(decide (a.C = b.C))))]⟩) (y_un rfl (e rfl rfl) (fun _ => u_not) rfl) rfl rfl ?_
  refine s_end ?_
  refine v_cond (e rfl rfl) (fun hb1 => ?_) fun hb1 => ?_
  · refine v_seq ?_
    refine v_reg ?_
    refine sy _ (zas rfl (ec rfl)) rfl rfl ?_
    refine s_end ?_
    refine v_ret ?_
    have hr : decide (a = b) = false := by cases a; cases b; simp_all
    rw [hr]
    exact post_ret (rv (.tmp (eg rfl rfl)) rfl (.lf .nil) rfl .nil) (.ro (.ro .nil)) rfl
  refine v_skip ?_
  refine v_seq ?_
  refine v_seq ?_
  refine v_reg ?_
  refine sy (.t ⟨false, [.vp 0 8]⟩) (zfa tabOk rfl rfl rfl (e rfl rfl) rfl rfl) rfl rfl ?_
  refine sy (.t ⟨false, [.d (dI (a.Now))]⟩) (zlv tabOk rfl (e rfl rfl) rfl rfl rfl) rfl rfl ?_
  refine sy (.t ⟨false, [.vp 1 8]⟩) (zfa tabOk rfl rfl rfl (e rfl rfl) rfl rfl) rfl rfl ?_
  refine sy (.t ⟨false, [.d (dI (b.Now))]⟩) (zlv tabOk rfl (e rfl rfl) rfl rfl rfl) rfl rfl ?_
  refine sy (.t ⟨false, [.d (dB (decide ((a.Now) ≠ (b.Now))))]⟩) (y_bin rfl (e rfl rfl) (e rfl rfl) (fun _ => b_neq) rfl) rfl rfl ?_
  refine s_end ?_
  refine v_cond (e rfl rfl) (fun hb2 => ?_) fun hb2 => ?_
  · refine v_seq ?_
    refine v_reg ?_
    refine sy _ (zas rfl (ec rfl)) rfl rfl ?_
    refine s_end ?_
    refine v_ret ?_
    have hr : decide (a = b) = false := by cases a; cases b; simp_all
    rw [hr]
    exact post_ret (rv (.tmp (eg rfl rfl)) rfl (.lf .nil) rfl .nil) (.ro (.ro .nil)) rfl
  refine v_skip ?_
  refine v_seq ?_
  refine v_seq ?_
  refine v_reg ?_
  refine sy (.t ⟨false, [.vp 0 9]⟩) (zfa tabOk rfl rfl rfl (e rfl rfl) rfl rfl) rfl rfl ?_
  refine sy (.t ⟨true, [.d (dI (a.K.Cap)), .d (.sl 6 (a.K.L.map Entry.cells))]⟩) (zlv tabOk rfl (e rfl rfl) rfl rfl rfl) rfl rfl ?_
  refine sy (.t ⟨false, [.vp 1 9]⟩) (zfa tabOk rfl rfl rfl (e rfl rfl) rfl rfl) rfl rfl ?_
  refine sy (.t ⟨true, [.d (dI (b.K.Cap)), .d (.sl 6 (b.K.L.map Entry.cells))]⟩) (zlv tabOk rfl (e rfl rfl) rfl rfl rfl) rfl rfl ?_
  refine sd (.t ⟨false, [.d (dB (decide (a.K = b.K)))]⟩) (zcall 2 (.t ⟨false, [.d (dB (decide (a.K = b.K)))]⟩) [] rfl (tr_eqCache a.K b.K ha.K hb0.K) (ar (e rfl rfl) (.d (.d .nil)) (ar (e rfl rfl) (.d (.d .nil)) .nil)) rfl rfl rfl) rfl rfl rfl rfl ?_
  refine sy (.t ⟨false, [.d (dB (!(decide (a.K = b.K))))]⟩) (y_un rfl (e rfl rfl) (fun _ => u_not) rfl) rfl rfl ?_
  refine s_end ?_
  refine v_cond (e rfl rfl) (fun hb3 => ?_) fun hb3 => ?_
  · refine v_seq ?_
    refine v_reg ?_
    refine sy _ (zas rfl (ec rfl)) rfl rfl ?_
    refine s_end ?_
    refine v_ret ?_
    have hr : decide (a = b) = false := by cases a; cases b; simp_all
    rw [hr]
    exact post_ret (rv (.tmp (eg rfl rfl)) rfl (.lf .nil) rfl .nil) (.ro (.ro .nil)) rfl
  refine v_skip ?_
  refine v_seq ?_
  refine v_seq ?_
  refine v_reg ?_
  refine sy (.t ⟨false, [.vp 0 11]⟩) (zfa tabOk rfl rfl rfl (e rfl rfl) rfl rfl) rfl rfl ?_
  refine sy (.t ⟨false, [.d (.sl 3 (a.Bad.map Lame.cells))]⟩) (zlv tabOk rfl (e rfl rfl) rfl rfl rfl) rfl rfl ?_
  refine sy (.t ⟨false, [.vp 1 11]⟩) (zfa tabOk rfl rfl rfl (e rfl rfl) rfl rfl) rfl rfl ?_
  refine sy (.t ⟨false, [.d (.sl 3 (b.Bad.map Lame.cells))]⟩) (zlv tabOk rfl (e rfl rfl) rfl rfl rfl) rfl rfl ?_
  refine sd (.t ⟨false, [.d (dB (decide (a.Bad = b.Bad)))]⟩) (zcall 2 (.t ⟨false, [.d (dB (decide (a.Bad = b.Bad)))]⟩) [] rfl (tr_eqLameS a.Bad b.Bad ha.Bad hb0.Bad) (ar (e rfl rfl) (.d .nil) (ar (e rfl rfl) (.d .nil) .nil)) rfl rfl rfl) rfl rfl rfl rfl ?_
  refine sy (.t ⟨false, [.d (dB (!(decide (a.Bad = b.Bad))))]⟩) (y_un rfl (e rfl rfl) (fun _ => u_not) rfl) rfl rfl ?_
  refine s_end ?_
  refine v_cond (e rfl rfl) (fun hb4 => ?_) fun hb4 => ?_
  · refine v_seq ?_
    refine v_reg ?_
    refine sy _ (zas rfl (ec rfl)) rfl rfl ?_
    refine s_end ?_
    refine v_ret ?_
    have hr : decide (a = b) = false := by cases a; cases b; simp_all
    rw [hr]
    exact post_ret (rv (.tmp (eg rfl rfl)) rfl (.lf .nil) rfl .nil) (.ro (.ro .nil)) rfl
  refine v_skip ?_
  refine v_seq ?_
  refine v_seq ?_
  refine v_reg ?_
  refine sy (.t ⟨false, [.vp 0 12]⟩) (zfa tabOk rfl rfl rfl (e rfl rfl) rfl rfl) rfl rfl ?_
  refine sy (.t ⟨false, [.d (.sl 7 (a.Jobs.map Job.cells))]⟩) (zlv tabOk rfl (e rfl rfl) rfl rfl rfl) rfl rfl ?_
  refine sy (.t ⟨false, [.vp 1 12]⟩) (zfa tabOk rfl rfl rfl (e rfl rfl) rfl rfl) rfl rfl ?_
  refine sy (.t ⟨false, [.d (.sl 7 (b.Jobs.map Job.cells))]⟩) (zlv tabOk rfl (e rfl rfl) rfl rfl rfl) rfl rfl ?_
  refine sd (.t ⟨false, [.d (dB (decide (a.Jobs = b.Jobs)))]⟩) (zcall 2 (.t ⟨false, [.d (dB (decide (a.Jobs = b.Jobs)))]⟩) [] rfl (tr_eqJobS a.Jobs b.Jobs ha.Jobs hb0.Jobs) (ar (e rfl rfl) (.d .nil) (ar (e rfl rfl) (.d .nil) .nil)) rfl rfl rfl) rfl rfl rfl rfl ?_
  refine sy (.t ⟨false, [.d (dB (!(decide (a.Jobs = b.Jobs))))]⟩) (y_un rfl (e rfl rfl) (fun _ => u_not) rfl) rfl rfl ?_
  refine s_end ?_
  refine v_cond (e rfl rfl) (fun hb5 => ?_) fun hb5 => ?_
  · refine v_seq ?_
    refine v_reg ?_
    refine sy _ (zas rfl (ec rfl)) rfl rfl ?_
    refine s_end ?_
    refine v_ret ?_
    have hr : decide (a = b) = false := by cases a; cases b; simp_all
    rw [hr]
    exact post_ret (rv (.tmp (eg rfl rfl)) rfl (.lf .nil) rfl .nil) (.ro (.ro .nil)) rfl
  refine v_skip ?_
  refine v_seq ?_
  refine v_seq ?_
  refine v_reg ?_
  refine sy (.t ⟨false, [.vp 0 13]⟩) (zfa tabOk rfl rfl rfl (e rfl rfl) rfl rfl) rfl rfl ?_
  refine sy (.t ⟨false, [.d (.sl 2 (a.Outs.map Packet.cells))]⟩) (zlv tabOk rfl (e rfl rfl) rfl rfl rfl) rfl rfl ?_
  refine sy (.t ⟨false, [.vp 1 13]⟩) (zfa tabOk rfl rfl rfl (e rfl rfl) rfl rfl) rfl rfl ?_
  refine sy (.t ⟨false, [.d (.sl 2 (b.Outs.map Packet.cells))]⟩) (zlv tabOk rfl (e rfl rfl) rfl rfl rfl) rfl rfl ?_
  refine sd (.t ⟨false, [.d (dB (decide (a.Outs = b.Outs)))]⟩) (zcall 2 (.t ⟨false, [.d (dB (decide (a.Outs = b.Outs)))]⟩) [] rfl (tr_eqPacketS a.Outs b.Outs ha.Outs hb0.Outs) (ar (e rfl rfl) (.d .nil) (ar (e rfl rfl) (.d .nil) .nil)) rfl rfl rfl) rfl rfl rfl rfl ?_
  refine sy (.t ⟨false, [.d (dB (!(decide (a.Outs = b.Outs))))]⟩) (y_un rfl (e rfl rfl) (fun _ => u_not) rfl) rfl rfl ?_
  refine s_end ?_
  refine v_cond (e rfl rfl) (fun hb6 => ?_) fun hb6 => ?_
  · refine v_seq ?_
    refine v_reg ?_
    refine sy _ (zas rfl (ec rfl)) rfl rfl ?_
    refine s_end ?_
    refine v_ret ?_
    have hr : decide (a = b) = false := by cases a; cases b; simp_all
    rw [hr]
    exact post_ret (rv (.tmp (eg rfl rfl)) rfl (.lf .nil) rfl .nil) (.ro (.ro .nil)) rfl
  refine v_skip ?_
  refine v_seq ?_
  refine v_seq ?_
  refine v_reg ?_
  refine sy (.t ⟨false, [.vp 0 14]⟩) (zfa tabOk rfl rfl rfl (e rfl rfl) rfl rfl) rfl rfl ?_
  refine sy (.t ⟨false, [.d (.sl 8 (a.Reps.map Answer.cells))]⟩) (zlv tabOk rfl (e rfl rfl) rfl rfl rfl) rfl rfl ?_
  refine sy (.t ⟨false, [.vp 1 14]⟩) (zfa tabOk rfl rfl rfl (e rfl rfl) rfl rfl) rfl rfl ?_
  refine sy (.t ⟨false, [.d (.sl 8 (b.Reps.map Answer.cells))]⟩) (zlv tabOk rfl (e rfl rfl) rfl rfl rfl) rfl rfl ?_
  refine sd (.t ⟨false, [.d (dB (decide (a.Reps = b.Reps)))]⟩) (zcall 2 (.t ⟨false, [.d (dB (decide (a.Reps = b.Reps)))]⟩) [] rfl (tr_eqAnswerS a.Reps b.Reps ha.Reps hb0.Reps) (ar (e rfl rfl) (.d .nil) (ar (e rfl rfl) (.d .nil) .nil)) rfl rfl rfl) rfl rfl rfl rfl ?_
  refine sy (.t ⟨false, [.d (dB (!(decide (a.Reps = b.Reps))))]⟩) (y_un rfl (e rfl rfl) (fun _ => u_not) rfl) rfl rfl ?_
  refine s_end ?_
  refine v_cond (e rfl rfl) (fun hb7 => ?_) fun hb7 => ?_
  · refine v_seq ?_
    refine v_reg ?_
    refine sy _ (zas rfl (ec rfl)) rfl rfl ?_
    refine s_end ?_
    refine v_ret ?_
    have hr : decide (a = b) = false := by cases a; cases b; simp_all
    rw [hr]
    exact post_ret (rv (.tmp (eg rfl rfl)) rfl (.lf .nil) rfl .nil) (.ro (.ro .nil)) rfl
  refine v_skip ?_
  refine v_seq ?_
  refine v_seq ?_
  refine v_reg ?_
  refine sy (.t ⟨false, [.vp 0 15]⟩) (zfa tabOk rfl rfl rfl (e rfl rfl) rfl rfl) rfl rfl ?_
  refine sy (.t ⟨false, [.d (dI (a.Next))]⟩) (zlv tabOk rfl (e rfl rfl) rfl rfl rfl) rfl rfl ?_
  refine sy (.t ⟨false, [.vp 1 15]⟩) (zfa tabOk rfl rfl rfl (e rfl rfl) rfl rfl) rfl rfl ?_
  refine sy (.t ⟨false, [.d (dI (b.Next))]⟩) (zlv tabOk rfl (e rfl rfl) rfl rfl rfl) rfl rfl ?_
  refine sy (.t ⟨false, [.d (dB (decide ((a.Next) ≠ (b.Next))))]⟩) (y_bin rfl (e rfl rfl) (e rfl rfl) (fun _ => b_neq) rfl) rfl rfl ?_
  refine s_end ?_
  refine v_cond (e rfl rfl) (fun hb8 => ?_) fun hb8 => ?_
  · refine v_seq ?_
    refine v_reg ?_
    refine sy _ (zas rfl (ec rfl)) rfl rfl ?_
    refine s_end ?_
    refine v_ret ?_
    have hr : decide (a = b) = false := by cases a; cases b; simp_all
    rw [hr]
    exact post_ret (rv (.tmp (eg rfl rfl)) rfl (.lf .nil) rfl .nil) (.ro (.ro .nil)) rfl
  refine v_skip ?_
  refine v_seq ?_
  refine v_reg ?_
  refine sy _ (zas rfl (ec rfl)) rfl rfl ?_
  refine s_end ?_
  refine v_ret ?_
  have hr : decide (a = b) = true := by cases a; cases b; simp_all
  rw [hr]
  exact post_ret (rv (.tmp (eg rfl rfl)) rfl (.lf .nil) rfl .nil) (.ro (.ro .nil)) rfl
set_option maxRecDepth 20000 in
theorem tr_markWorld (a : World) (ha : a.Fit) (k : Int) (hk : k < 9223372036854775808) : Tr Try.prog 13 [.mu ⟨true, [dI (a.C.Quota), dI (a.C.Depth), dI (a.C.Chain), dI (a.C.Glue), dI (a.C.Tries), dI (a.C.Addrs), dI (a.C.Cap), .sl 1 (a.C.Roots.map encI), dI (a.Now), dI (a.K.Cap), .sl 6 (a.K.L.map Entry.cells), .sl 3 (a.Bad.map Lame.cells), .sl 7 (a.Jobs.map Job.cells), .sl 2 (a.Outs.map Packet.cells), .sl 8 (a.Reps.map Answer.cells), dI (a.Next)]⟩ ⟨true, [dI ((((mkvWorld a k).1).C).Quota), dI ((((mkvWorld a k).1).C).Depth), dI ((((mkvWorld a k).1).C).Chain), dI ((((mkvWorld a k).1).C).Glue), dI ((((mkvWorld a k).1).C).Tries), dI ((((mkvWorld a k).1).C).Addrs), dI ((((mkvWorld a k).1).C).Cap), .sl 1 (((((mkvWorld a k).1).C).Roots).map encI), dI (((mkvWorld a k).1).Now), dI ((((mkvWorld a k).1).K).Cap), .sl 6 (((((mkvWorld a k).1).K).L).map Entry.cells), .sl 3 ((((mkvWorld a k).1).Bad).map Lame.cells), .sl 7 ((((mkvWorld a k).1).Jobs).map Job.cells), .sl 2 ((((mkvWorld a k).1).Outs).map Packet.cells), .sl 8 ((((mkvWorld a k).1).Reps).map Answer.cells), dI (((mkvWorld a k).1).Next)]⟩, .ro (one (dI k))] [one (dI (mkvWorld a k).2)] := by
  refine tr_go tabOk Try.func13 rfl rfl rfl rfl rfl (ov := [(0, .t ⟨true, [.d (dI (a.C.Quota)), .d (dI (a.C.Depth)), .d (dI (a.C.Chain)), .d (dI (a.C.Glue)), .d (dI (a.C.Tries)), .d (dI (a.C.Addrs)), .d (dI (a.C.Cap)), .sr 0 0 0 ((a.C.Roots.map encI).length) ((a.C.Roots.map encI).length), .d (dI (a.Now)), .d (dI (a.K.Cap)), .sr 1 0 0 ((a.K.L.map Entry.cells).length) ((a.K.L.map Entry.cells).length), .sr 2 0 0 ((a.Bad.map Lame.cells).length) ((a.Bad.map Lame.cells).length), .sr 3 0 0 ((a.Jobs.map Job.cells).length) ((a.Jobs.map Job.cells).length), .sr 4 0 0 ((a.Outs.map Packet.cells).length) ((a.Outs.map Packet.cells).length), .sr 5 0 0 ((a.Reps.map Answer.cells).length) ((a.Reps.map Answer.cells).length), .d (dI (a.Next))]⟩), (1, .t ⟨false, [.d (dI (k))]⟩)]) (hv := [(0, .row 1 (a.C.Roots.map encI) true 0 0), (1, .row 6 (a.K.L.map Entry.cells) true 0 0), (2, .row 3 (a.Bad.map Lame.cells) true 0 0), (3, .row 7 (a.Jobs.map Job.cells) true 0 0), (4, .row 2 (a.Outs.map Packet.cells) true 0 0), (5, .row 8 (a.Reps.map Answer.cells) true 0 0)]) rfl rfl ?_
  refine v_seq ?_
  refine v_reg ?_
  refine sr 6 (.t ⟨false, [.vp 6 0]⟩) (.var [.d (dI (a.C.Quota)), .d (dI (a.C.Depth)), .d (dI (a.C.Chain)), .d (dI (a.C.Glue)), .d (dI (a.C.Tries)), .d (dI (a.C.Addrs)), .d (dI (a.C.Cap)), .sr 0 0 0 ((a.C.Roots.map encI).length) ((a.C.Roots.map encI).length), .d (dI (a.Now)), .d (dI (a.K.Cap)), .sr 1 0 0 ((a.K.L.map Entry.cells).length) ((a.K.L.map Entry.cells).length), .sr 2 0 0 ((a.Bad.map Lame.cells).length) ((a.Bad.map Lame.cells).length), .sr 3 0 0 ((a.Jobs.map Job.cells).length) ((a.Jobs.map Job.cells).length), .sr 4 0 0 ((a.Outs.map Packet.cells).length) ((a.Outs.map Packet.cells).length), .sr 5 0 0 ((a.Reps.map Answer.cells).length) ((a.Reps.map Answer.cells).length), .d (dI (a.Next))]) (zbx rfl (e rfl rfl) rfl rfl rfl) rfl rfl ?_
  refine sy _ (zas rfl (ec rfl)) rfl rfl ?_
  refine s_end ?_
  refine v_seq ?_
  refine v_reg ?_
  refine sy (.t ⟨false, [.vp 6 0]⟩) (zfa tabOk rfl rfl rfl (e rfl rfl) rfl rfl) rfl rfl ?_
  refine sy (.t ⟨true, [.d (dI (a.C.Quota)), .d (dI (a.C.Depth)), .d (dI (a.C.Chain)), .d (dI (a.C.Glue)), .d (dI (a.C.Tries)), .d (dI (a.C.Addrs)), .d (dI (a.C.Cap)), .sr 0 0 0 ((a.C.Roots.map encI).length) ((a.C.Roots.map encI).length)]⟩) (zlv tabOk rfl (e rfl rfl) rfl rfl rfl) rfl rfl ?_
  refine sy _ (zmv rfl (e rfl rfl)) rfl rfl ?_
  refine sd (.t ⟨false, [.d (dI ((mkvConf a.C k).2))]⟩) (zcall 7 (sc (dI (mkvConf a.C k).2)) [(0, .row 1 ((((mkvConf a.C k).1).Roots).map encI) true 0 1)] rfl (tr_markConf a.C ha.C k hk) (am (e rfl rfl) (.lf (.lf (.lf (.lf (.lf (.lf (.lf (.sr rfl rfl (by simp [mkvConf, mkL_len]) .nil)))))))) (ar (e rfl rfl) (.d .nil) .nil)) rfl rfl rfl) rfl rfl rfl rfl ?_
  have hl1 : (mkvConf a.C k).2 < 9223372036854775808 := mkvConf_lt _ _ hk
  refine sy _ (zas rfl (e rfl rfl)) rfl rfl ?_
  refine s_end ?_
  refine v_seq ?_
  refine v_reg ?_
  refine sy (.t ⟨false, [.vp 6 9]⟩) (zfa tabOk rfl rfl rfl (e rfl rfl) rfl rfl) rfl rfl ?_
  refine sy (.t ⟨true, [.d (dI (a.K.Cap)), .sr 1 0 0 ((a.K.L.map Entry.cells).length) ((a.K.L.map Entry.cells).length)]⟩) (zlv tabOk rfl (e rfl rfl) rfl rfl rfl) rfl rfl ?_
  refine sy _ (zmv rfl (e rfl rfl)) rfl rfl ?_
  refine sd (.t ⟨false, [.d (dI ((mkvCache a.K ((mkvConf a.C k).2)).2))]⟩) (zcall 7 (sc (dI (mkvCache a.K ((mkvConf a.C k).2)).2)) [(1, .row 6 ((((mkvCache a.K ((mkvConf a.C k).2)).1).L).map Entry.cells) true 0 1)] rfl (tr_markCache a.K ha.K ((mkvConf a.C k).2) hl1) (am (e rfl rfl) (.lf (.sr rfl rfl (by simp [mkvCache, mkL_len]) .nil)) (ar (e rfl rfl) (.d .nil) .nil)) rfl rfl rfl) rfl rfl rfl rfl ?_
  have hl2 : (mkvCache a.K ((mkvConf a.C k).2)).2 < 9223372036854775808 := mkvCache_lt _ _ hl1
  refine sy _ (zas rfl (e rfl rfl)) rfl rfl ?_
  refine s_end ?_
  refine v_seq ?_
  refine v_reg ?_
  refine sy (.t ⟨false, [.vp 6 11]⟩) (zfa tabOk rfl rfl rfl (e rfl rfl) rfl rfl) rfl rfl ?_
  refine sy (.t ⟨false, [.sr 2 0 0 ((a.Bad.map Lame.cells).length) ((a.Bad.map Lame.cells).length)]⟩) (zlv tabOk rfl (e rfl rfl) rfl rfl rfl) rfl rfl ?_
  refine sy _ (zmv rfl (e rfl rfl)) rfl rfl ?_
  refine sd (.t ⟨false, [.d (dI ((mkL mkLame a.Bad ((mkvCache a.K ((mkvConf a.C k).2)).2)).2))]⟩) (zcall 7 (sc (dI (mkL mkLame a.Bad ((mkvCache a.K ((mkvConf a.C k).2)).2)).2)) [(2, .row 3 (((mkL mkLame a.Bad ((mkvCache a.K ((mkvConf a.C k).2)).2)).1).map Lame.cells) true 0 1)] rfl (tr_markLameS a.Bad ha.Bad ((mkvCache a.K ((mkvConf a.C k).2)).2) hl2) (am (e rfl rfl) (.sr rfl rfl (by simp [mkL_len]) .nil) (ar (e rfl rfl) (.d .nil) .nil)) rfl rfl rfl) rfl rfl rfl rfl ?_
  have hl3 : (mkL mkLame a.Bad ((mkvCache a.K ((mkvConf a.C k).2)).2)).2 < 9223372036854775808 := mkL_lt mkLame_lt hl2
  refine sy _ (zas rfl (e rfl rfl)) rfl rfl ?_
  refine s_end ?_
  refine v_seq ?_
  refine v_reg ?_
  refine sy (.t ⟨false, [.vp 6 12]⟩) (zfa tabOk rfl rfl rfl (e rfl rfl) rfl rfl) rfl rfl ?_
  refine sy (.t ⟨false, [.sr 3 0 0 ((a.Jobs.map Job.cells).length) ((a.Jobs.map Job.cells).length)]⟩) (zlv tabOk rfl (e rfl rfl) rfl rfl rfl) rfl rfl ?_
  refine sy _ (zmv rfl (e rfl rfl)) rfl rfl ?_
  refine sd (.t ⟨false, [.d (dI ((mkL mkJob a.Jobs ((mkL mkLame a.Bad ((mkvCache a.K ((mkvConf a.C k).2)).2)).2)).2))]⟩) (zcall 7 (sc (dI (mkL mkJob a.Jobs ((mkL mkLame a.Bad ((mkvCache a.K ((mkvConf a.C k).2)).2)).2)).2)) [(3, .row 7 (((mkL mkJob a.Jobs ((mkL mkLame a.Bad ((mkvCache a.K ((mkvConf a.C k).2)).2)).2)).1).map Job.cells) true 0 1)] rfl (tr_markJobS a.Jobs ha.Jobs ((mkL mkLame a.Bad ((mkvCache a.K ((mkvConf a.C k).2)).2)).2) hl3) (am (e rfl rfl) (.sr rfl rfl (by simp [mkL_len]) .nil) (ar (e rfl rfl) (.d .nil) .nil)) rfl rfl rfl) rfl rfl rfl rfl ?_
  have hl4 : (mkL mkJob a.Jobs ((mkL mkLame a.Bad ((mkvCache a.K ((mkvConf a.C k).2)).2)).2)).2 < 9223372036854775808 := mkL_lt mkJob_lt hl3
  refine sy _ (zas rfl (e rfl rfl)) rfl rfl ?_
  refine s_end ?_
  refine v_seq ?_
  refine v_reg ?_
  refine sy (.t ⟨false, [.vp 6 13]⟩) (zfa tabOk rfl rfl rfl (e rfl rfl) rfl rfl) rfl rfl ?_
  refine sy (.t ⟨false, [.sr 4 0 0 ((a.Outs.map Packet.cells).length) ((a.Outs.map Packet.cells).length)]⟩) (zlv tabOk rfl (e rfl rfl) rfl rfl rfl) rfl rfl ?_
  refine sy _ (zmv rfl (e rfl rfl)) rfl rfl ?_
  refine sd (.t ⟨false, [.d (dI ((mkL mkPacket a.Outs ((mkL mkJob a.Jobs ((mkL mkLame a.Bad ((mkvCache a.K ((mkvConf a.C k).2)).2)).2)).2)).2))]⟩) (zcall 7 (sc (dI (mkL mkPacket a.Outs ((mkL mkJob a.Jobs ((mkL mkLame a.Bad ((mkvCache a.K ((mkvConf a.C k).2)).2)).2)).2)).2)) [(4, .row 2 (((mkL mkPacket a.Outs ((mkL mkJob a.Jobs ((mkL mkLame a.Bad ((mkvCache a.K ((mkvConf a.C k).2)).2)).2)).2)).1).map Packet.cells) true 0 1)] rfl (tr_markPacketS a.Outs ha.Outs ((mkL mkJob a.Jobs ((mkL mkLame a.Bad ((mkvCache a.K ((mkvConf a.C k).2)).2)).2)).2) hl4) (am (e rfl rfl) (.sr rfl rfl (by simp [mkL_len]) .nil) (ar (e rfl rfl) (.d .nil) .nil)) rfl rfl rfl) rfl rfl rfl rfl ?_
  have hl5 : (mkL mkPacket a.Outs ((mkL mkJob a.Jobs ((mkL mkLame a.Bad ((mkvCache a.K ((mkvConf a.C k).2)).2)).2)).2)).2 < 9223372036854775808 := mkL_lt mkPacket_lt hl4
  refine sy _ (zas rfl (e rfl rfl)) rfl rfl ?_
  refine s_end ?_
  refine v_seq ?_
  refine v_reg ?_
  refine sy (.t ⟨false, [.vp 6 14]⟩) (zfa tabOk rfl rfl rfl (e rfl rfl) rfl rfl) rfl rfl ?_
  refine sy (.t ⟨false, [.sr 5 0 0 ((a.Reps.map Answer.cells).length) ((a.Reps.map Answer.cells).length)]⟩) (zlv tabOk rfl (e rfl rfl) rfl rfl rfl) rfl rfl ?_
  refine sy _ (zmv rfl (e rfl rfl)) rfl rfl ?_
  refine sd (.t ⟨false, [.d (dI ((mkL mkAnswer a.Reps ((mkL mkPacket a.Outs ((mkL mkJob a.Jobs ((mkL mkLame a.Bad ((mkvCache a.K ((mkvConf a.C k).2)).2)).2)).2)).2)).2))]⟩) (zcall 7 (sc (dI (mkL mkAnswer a.Reps ((mkL mkPacket a.Outs ((mkL mkJob a.Jobs ((mkL mkLame a.Bad ((mkvCache a.K ((mkvConf a.C k).2)).2)).2)).2)).2)).2)) [(5, .row 8 (((mkL mkAnswer a.Reps ((mkL mkPacket a.Outs ((mkL mkJob a.Jobs ((mkL mkLame a.Bad ((mkvCache a.K ((mkvConf a.C k).2)).2)).2)).2)).2)).1).map Answer.cells) true 0 1)] rfl (tr_markAnswerS a.Reps ha.Reps ((mkL mkPacket a.Outs ((mkL mkJob a.Jobs ((mkL mkLame a.Bad ((mkvCache a.K ((mkvConf a.C k).2)).2)).2)).2)).2) hl5) (am (e rfl rfl) (.sr rfl rfl (by simp [mkL_len]) .nil) (ar (e rfl rfl) (.d .nil) .nil)) rfl rfl rfl) rfl rfl rfl rfl ?_
  have hl6 : (mkL mkAnswer a.Reps ((mkL mkPacket a.Outs ((mkL mkJob a.Jobs ((mkL mkLame a.Bad ((mkvCache a.K ((mkvConf a.C k).2)).2)).2)).2)).2)).2 < 9223372036854775808 := mkL_lt mkAnswer_lt hl5
  refine sy _ (zas rfl (e rfl rfl)) rfl rfl ?_
  refine s_end ?_
  refine v_seq ?_
  refine v_reg ?_
  refine sy _ (zmv rfl (e rfl rfl)) rfl rfl ?_
  refine sy _ (zas rfl (e rfl rfl)) rfl rfl ?_
  refine s_end ?_
  refine v_ret ?_
  exact post_ret (rv (.tmp (eg rfl rfl)) rfl (.lf .nil) rfl .nil) (.mu rfl (.lf (.lf (.lf (.lf (.lf (.lf (.lf (.sl rfl (by simp [mkvWorld, mkL_len]) (.lf (.lf (.sl rfl (by simp [mkvWorld, mkL_len]) (.sl rfl (by simp [mkvWorld, mkL_len]) (.sl rfl (by simp [mkvWorld, mkL_len]) (.sl rfl (by simp [mkvWorld, mkL_len]) (.sl rfl (by simp [mkvWorld, mkL_len]) (.lf .nil)))))))))))))))) (.ro .nil)) rfl
set_option maxRecDepth 20000 in
theorem tr_heldWorld (a b : World) (ha : a.Fit) (k : Int) (h0 : 0 ≤ k) (h1 : k + 16 * (a.wt : Int) < 4611686018427387904) (hb : b = (mkvWorld a k).1) : Tr Try.prog 14 [.ro ⟨true, [dI (b.C.Quota), dI (b.C.Depth), dI (b.C.Chain), dI (b.C.Glue), dI (b.C.Tries), dI (b.C.Addrs), dI (b.C.Cap), .sl 1 (b.C.Roots.map encI), dI (b.Now), dI (b.K.Cap), .sl 6 (b.K.L.map Entry.cells), .sl 3 (b.Bad.map Lame.cells), .sl 7 (b.Jobs.map Job.cells), .sl 2 (b.Outs.map Packet.cells), .sl 8 (b.Reps.map Answer.cells), dI (b.Next)]⟩, .ro (one (dI k))] [one (dI (mkvWorld a k).2)] := by
  simp only [World.wt, Conf.wt, Cache.wt] at h1
  refine tr_go tabOk Try.func14 rfl rfl rfl rfl rfl (ov := [(0, .t ⟨true, [.d (dI (b.C.Quota)), .d (dI (b.C.Depth)), .d (dI (b.C.Chain)), .d (dI (b.C.Glue)), .d (dI (b.C.Tries)), .d (dI (b.C.Addrs)), .d (dI (b.C.Cap)), .d (.sl 1 (b.C.Roots.map encI)), .d (dI (b.Now)), .d (dI (b.K.Cap)), .d (.sl 6 (b.K.L.map Entry.cells)), .d (.sl 3 (b.Bad.map Lame.cells)), .d (.sl 7 (b.Jobs.map Job.cells)), .d (.sl 2 (b.Outs.map Packet.cells)), .d (.sl 8 (b.Reps.map Answer.cells)), .d (dI (b.Next))]⟩), (1, .t ⟨false, [.d (dI (k))]⟩)]) (hv := []) rfl rfl ?_
  refine v_seq ?_
  refine v_reg ?_
  refine sr 0 (.t ⟨false, [.vp 0 0]⟩) (.var [.d (dI (b.C.Quota)), .d (dI (b.C.Depth)), .d (dI (b.C.Chain)), .d (dI (b.C.Glue)), .d (dI (b.C.Tries)), .d (dI (b.C.Addrs)), .d (dI (b.C.Cap)), .d (.sl 1 (b.C.Roots.map encI)), .d (dI (b.Now)), .d (dI (b.K.Cap)), .d (.sl 6 (b.K.L.map Entry.cells)), .d (.sl 3 (b.Bad.map Lame.cells)), .d (.sl 7 (b.Jobs.map Job.cells)), .d (.sl 2 (b.Outs.map Packet.cells)), .d (.sl 8 (b.Reps.map Answer.cells)), .d (dI (b.Next))]) (zbx rfl (e rfl rfl) rfl rfl rfl) rfl rfl ?_
  refine sy _ (zas rfl (ec rfl)) rfl rfl ?_
  refine s_end ?_
  refine v_seq ?_
  refine v_reg ?_
  refine sy (.t ⟨false, [.vp 0 0]⟩) (zfa tabOk rfl rfl rfl (e rfl rfl) rfl rfl) rfl rfl ?_
  refine sy (.t ⟨true, [.d (dI (b.C.Quota)), .d (dI (b.C.Depth)), .d (dI (b.C.Chain)), .d (dI (b.C.Glue)), .d (dI (b.C.Tries)), .d (dI (b.C.Addrs)), .d (dI (b.C.Cap)), .d (.sl 1 (b.C.Roots.map encI))]⟩) (zlv tabOk rfl (e rfl rfl) rfl rfl rfl) rfl rfl ?_
  refine sy _ (zmv rfl (e rfl rfl)) rfl rfl ?_
  have hq1 : b.C = (mkvConf a.C k).1 := by rw [hb]; rfl
  have hc1 := mkvConf_ok a.C k (by omega) (by simp only [Conf.wt]; omega)
  simp only [Conf.wt] at hc1
  refine sd (.t ⟨false, [.d (dI ((mkvConf a.C k).2))]⟩) (zcall 1 (sc (dI (mkvConf a.C k).2)) [] rfl (tr_heldConf a.C b.C ha.C k (by omega) (by simp only [Conf.wt]; omega) hq1) (ar (e rfl rfl) (.d (.d (.d (.d (.d (.d (.d (.d .nil)))))))) (ar (e rfl rfl) (.d .nil) .nil)) rfl rfl rfl) rfl rfl rfl rfl ?_
  refine sy _ (zas rfl (e rfl rfl)) rfl rfl ?_
  refine s_end ?_
  refine v_seq ?_
  refine v_seq ?_
  refine v_reg ?_
  refine sy _ (zmv rfl (e rfl rfl)) rfl rfl ?_
  refine sy (.t ⟨false, [.d (dB (decide (((mkvConf a.C k).2) < (0))))]⟩) (y_bin rfl (e rfl rfl) (ec rfl) (fun _ => b_lss) rfl) rfl rfl ?_
  refine s_end ?_
  refine v_cond (e rfl rfl) (fun hb1 => ?_) fun hb1 => ?_
  · exact absurd hb1 (by simp; omega)
  refine v_skip ?_
  refine v_seq ?_
  refine v_reg ?_
  refine sy (.t ⟨false, [.vp 0 9]⟩) (zfa tabOk rfl rfl rfl (e rfl rfl) rfl rfl) rfl rfl ?_
  refine sy (.t ⟨true, [.d (dI (b.K.Cap)), .d (.sl 6 (b.K.L.map Entry.cells))]⟩) (zlv tabOk rfl (e rfl rfl) rfl rfl rfl) rfl rfl ?_
  refine sy _ (zmv rfl (e rfl rfl)) rfl rfl ?_
  have hq2 : b.K = (mkvCache a.K ((mkvConf a.C k).2)).1 := by rw [hb]; rfl
  have hc2 := mkvCache_ok a.K ((mkvConf a.C k).2) (by omega) (by simp only [Cache.wt]; omega)
  simp only [Cache.wt] at hc2
  refine sd (.t ⟨false, [.d (dI ((mkvCache a.K ((mkvConf a.C k).2)).2))]⟩) (zcall 1 (sc (dI (mkvCache a.K ((mkvConf a.C k).2)).2)) [] rfl (tr_heldCache a.K b.K ha.K ((mkvConf a.C k).2) (by omega) (by simp only [Cache.wt]; omega) hq2) (ar (e rfl rfl) (.d (.d .nil)) (ar (e rfl rfl) (.d .nil) .nil)) rfl rfl rfl) rfl rfl rfl rfl ?_
  refine sy _ (zas rfl (e rfl rfl)) rfl rfl ?_
  refine s_end ?_
  refine v_seq ?_
  refine v_seq ?_
  refine v_reg ?_
  refine sy _ (zmv rfl (e rfl rfl)) rfl rfl ?_
  refine sy (.t ⟨false, [.d (dB (decide (((mkvCache a.K ((mkvConf a.C k).2)).2) < (0))))]⟩) (y_bin rfl (e rfl rfl) (ec rfl) (fun _ => b_lss) rfl) rfl rfl ?_
  refine s_end ?_
  refine v_cond (e rfl rfl) (fun hb2 => ?_) fun hb2 => ?_
  · exact absurd hb2 (by simp; omega)
  refine v_skip ?_
  refine v_seq ?_
  refine v_reg ?_
  refine sy (.t ⟨false, [.vp 0 11]⟩) (zfa tabOk rfl rfl rfl (e rfl rfl) rfl rfl) rfl rfl ?_
  refine sy (.t ⟨false, [.d (.sl 3 (b.Bad.map Lame.cells))]⟩) (zlv tabOk rfl (e rfl rfl) rfl rfl rfl) rfl rfl ?_
  refine sy _ (zmv rfl (e rfl rfl)) rfl rfl ?_
  have hq3 : b.Bad = (mkL mkLame a.Bad ((mkvCache a.K ((mkvConf a.C k).2)).2)).1 := by rw [hb]; rfl
  have hc3 := mkL_ge mkLame_ok (xs := a.Bad) (k := (mkvCache a.K ((mkvConf a.C k).2)).2) (by omega) (by omega)
  refine sd (.t ⟨false, [.d (dI ((mkL mkLame a.Bad ((mkvCache a.K ((mkvConf a.C k).2)).2)).2))]⟩) (zcall 1 (sc (dI (mkL mkLame a.Bad ((mkvCache a.K ((mkvConf a.C k).2)).2)).2)) [] rfl (tr_heldLameS a.Bad b.Bad ha.Bad ((mkvCache a.K ((mkvConf a.C k).2)).2) (by omega) (by omega) hq3) (ar (e rfl rfl) (.d .nil) (ar (e rfl rfl) (.d .nil) .nil)) rfl rfl rfl) rfl rfl rfl rfl ?_
  refine sy _ (zas rfl (e rfl rfl)) rfl rfl ?_
  refine s_end ?_
  refine v_seq ?_
  refine v_seq ?_
  refine v_reg ?_
  refine sy _ (zmv rfl (e rfl rfl)) rfl rfl ?_
  refine sy (.t ⟨false, [.d (dB (decide (((mkL mkLame a.Bad ((mkvCache a.K ((mkvConf a.C k).2)).2)).2) < (0))))]⟩) (y_bin rfl (e rfl rfl) (ec rfl) (fun _ => b_lss) rfl) rfl rfl ?_
  refine s_end ?_
  refine v_cond (e rfl rfl) (fun hb3 => ?_) fun hb3 => ?_
  · exact absurd hb3 (by simp; omega)
  refine v_skip ?_
  refine v_seq ?_
  refine v_reg ?_
  refine sy (.t ⟨false, [.vp 0 12]⟩) (zfa tabOk rfl rfl rfl (e rfl rfl) rfl rfl) rfl rfl ?_
  refine sy (.t ⟨false, [.d (.sl 7 (b.Jobs.map Job.cells))]⟩) (zlv tabOk rfl (e rfl rfl) rfl rfl rfl) rfl rfl ?_
  refine sy _ (zmv rfl (e rfl rfl)) rfl rfl ?_
  have hq4 : b.Jobs = (mkL mkJob a.Jobs ((mkL mkLame a.Bad ((mkvCache a.K ((mkvConf a.C k).2)).2)).2)).1 := by rw [hb]; rfl
  have hc4 := mkL_ge mkJob_ok (xs := a.Jobs) (k := (mkL mkLame a.Bad ((mkvCache a.K ((mkvConf a.C k).2)).2)).2) (by omega) (by omega)
  refine sd (.t ⟨false, [.d (dI ((mkL mkJob a.Jobs ((mkL mkLame a.Bad ((mkvCache a.K ((mkvConf a.C k).2)).2)).2)).2))]⟩) (zcall 1 (sc (dI (mkL mkJob a.Jobs ((mkL mkLame a.Bad ((mkvCache a.K ((mkvConf a.C k).2)).2)).2)).2)) [] rfl (tr_heldJobS a.Jobs b.Jobs ha.Jobs ((mkL mkLame a.Bad ((mkvCache a.K ((mkvConf a.C k).2)).2)).2) (by omega) (by omega) hq4) (ar (e rfl rfl) (.d .nil) (ar (e rfl rfl) (.d .nil) .nil)) rfl rfl rfl) rfl rfl rfl rfl ?_
  refine sy _ (zas rfl (e rfl rfl)) rfl rfl ?_
  refine s_end ?_
  refine v_seq ?_
  refine v_seq ?_
  refine v_reg ?_
  refine sy _ (zmv rfl (e rfl rfl)) rfl rfl ?_
  refine sy (.t ⟨false, [.d (dB (decide (((mkL mkJob a.Jobs ((mkL mkLame a.Bad ((mkvCache a.K ((mkvConf a.C k).2)).2)).2)).2) < (0))))]⟩) (y_bin rfl (e rfl rfl) (ec rfl) (fun _ => b_lss) rfl) rfl rfl ?_
  refine s_end ?_
  refine v_cond (e rfl rfl) (fun hb4 => ?_) fun hb4 => ?_
  · exact absurd hb4 (by simp; omega)
  refine v_skip ?_
  refine v_seq ?_
  refine v_reg ?_
  refine sy (.t ⟨false, [.vp 0 13]⟩) (zfa tabOk rfl rfl rfl (e rfl rfl) rfl rfl) rfl rfl ?_
  refine sy (.t ⟨false, [.d (.sl 2 (b.Outs.map Packet.cells))]⟩) (zlv tabOk rfl (e rfl rfl) rfl rfl rfl) rfl rfl ?_
  refine sy _ (zmv rfl (e rfl rfl)) rfl rfl ?_
  have hq5 : b.Outs = (mkL mkPacket a.Outs ((mkL mkJob a.Jobs ((mkL mkLame a.Bad ((mkvCache a.K ((mkvConf a.C k).2)).2)).2)).2)).1 := by rw [hb]; rfl
  have hc5 := mkL_ge mkPacket_ok (xs := a.Outs) (k := (mkL mkJob a.Jobs ((mkL mkLame a.Bad ((mkvCache a.K ((mkvConf a.C k).2)).2)).2)).2) (by omega) (by omega)
  refine sd (.t ⟨false, [.d (dI ((mkL mkPacket a.Outs ((mkL mkJob a.Jobs ((mkL mkLame a.Bad ((mkvCache a.K ((mkvConf a.C k).2)).2)).2)).2)).2))]⟩) (zcall 1 (sc (dI (mkL mkPacket a.Outs ((mkL mkJob a.Jobs ((mkL mkLame a.Bad ((mkvCache a.K ((mkvConf a.C k).2)).2)).2)).2)).2)) [] rfl (tr_heldPacketS a.Outs b.Outs ha.Outs ((mkL mkJob a.Jobs ((mkL mkLame a.Bad ((mkvCache a.K ((mkvConf a.C k).2)).2)).2)).2) (by omega) (by omega) hq5) (ar (e rfl rfl) (.d .nil) (ar (e rfl rfl) (.d .nil) .nil)) rfl rfl rfl) rfl rfl rfl rfl ?_
  refine sy _ (zas rfl (e rfl rfl)) rfl rfl ?_
  refine s_end ?_
  refine v_seq ?_
  refine v_seq ?_
  refine v_reg ?_
  refine sy _ (zmv rfl (e rfl rfl)) rfl rfl ?_
  refine sy (.t ⟨false, [.d (dB (decide (((mkL mkPacket a.Outs ((mkL mkJob a.Jobs ((mkL mkLame a.Bad ((mkvCache a.K ((mkvConf a.C k).2)).2)).2)).2)).2) < (0))))]⟩) (y_bin rfl (e rfl rfl) (ec rfl) (fun _ => b_lss) rfl) rfl rfl ?_
  refine s_end ?_
  refine v_cond (e rfl rfl) (fun hb5 => ?_) fun hb5 => ?_
  · exact absurd hb5 (by simp; omega)
  refine v_skip ?_
  refine v_seq ?_
  refine v_reg ?_
  refine sy (.t ⟨false, [.vp 0 14]⟩) (zfa tabOk rfl rfl rfl (e rfl rfl) rfl rfl) rfl rfl ?_
  refine sy (.t ⟨false, [.d (.sl 8 (b.Reps.map Answer.cells))]⟩) (zlv tabOk rfl (e rfl rfl) rfl rfl rfl) rfl rfl ?_
  refine sy _ (zmv rfl (e rfl rfl)) rfl rfl ?_
  have hq6 : b.Reps = (mkL mkAnswer a.Reps ((mkL mkPacket a.Outs ((mkL mkJob a.Jobs ((mkL mkLame a.Bad ((mkvCache a.K ((mkvConf a.C k).2)).2)).2)).2)).2)).1 := by rw [hb]; rfl
  have hc6 := mkL_ge mkAnswer_ok (xs := a.Reps) (k := (mkL mkPacket a.Outs ((mkL mkJob a.Jobs ((mkL mkLame a.Bad ((mkvCache a.K ((mkvConf a.C k).2)).2)).2)).2)).2) (by omega) (by omega)
  refine sd (.t ⟨false, [.d (dI ((mkL mkAnswer a.Reps ((mkL mkPacket a.Outs ((mkL mkJob a.Jobs ((mkL mkLame a.Bad ((mkvCache a.K ((mkvConf a.C k).2)).2)).2)).2)).2)).2))]⟩) (zcall 1 (sc (dI (mkL mkAnswer a.Reps ((mkL mkPacket a.Outs ((mkL mkJob a.Jobs ((mkL mkLame a.Bad ((mkvCache a.K ((mkvConf a.C k).2)).2)).2)).2)).2)).2)) [] rfl (tr_heldAnswerS a.Reps b.Reps ha.Reps ((mkL mkPacket a.Outs ((mkL mkJob a.Jobs ((mkL mkLame a.Bad ((mkvCache a.K ((mkvConf a.C k).2)).2)).2)).2)).2) (by omega) (by omega) hq6) (ar (e rfl rfl) (.d .nil) (ar (e rfl rfl) (.d .nil) .nil)) rfl rfl rfl) rfl rfl rfl rfl ?_
  refine sy _ (zas rfl (e rfl rfl)) rfl rfl ?_
  refine s_end ?_
  refine v_seq ?_
  refine v_seq ?_
  refine v_reg ?_
  refine sy _ (zmv rfl (e rfl rfl)) rfl rfl ?_
  refine sy (.t ⟨false, [.d (dB (decide (((mkL mkAnswer a.Reps ((mkL mkPacket a.Outs ((mkL mkJob a.Jobs ((mkL mkLame a.Bad ((mkvCache a.K ((mkvConf a.C k).2)).2)).2)).2)).2)).2) < (0))))]⟩) (y_bin rfl (e rfl rfl) (ec rfl) (fun _ => b_lss) rfl) rfl rfl ?_
  refine s_end ?_
  refine v_cond (e rfl rfl) (fun hb6 => ?_) fun hb6 => ?_
  · exact absurd hb6 (by simp; omega)
  refine v_skip ?_
  refine v_seq ?_
  refine v_reg ?_
  refine sy _ (zmv rfl (e rfl rfl)) rfl rfl ?_
  refine sy _ (zas rfl (e rfl rfl)) rfl rfl ?_
  refine s_end ?_
  refine v_ret ?_
  exact post_ret (rv (.tmp (eg rfl rfl)) rfl (.lf .nil) rfl .nil) (.ro (.ro .nil)) rfl
end Go.Proofs.Ytglilpigoocgeaa.V
