/-
  The families of laws of Cache.
-/
import Derived.Test.YtglilpigoocgeaaGreatDoorTEntryS
import Derived.Test.YtglilpigoocgeaaGreatDoorN
import Derived.Test.YtglilpigoocgeaaGreatDoorC
import Derived.Test.YtglilpigoocgeaaGreatDoorM
namespace Go.Proofs.YtglilpigoocgeaaGreatDoor.V
open Go
set_option linter.unusedVariables false
set_option linter.unusedSimpArgs false
set_option maxRecDepth 20000 in
theorem tr_szCache (a : Cache) (hb : a.Bnd) (left : Int) (h0 : 0 ≤ left) (hl : left ≤ 1048576) : TrX Tryz.prog 4 [.ro ⟨true, [dI (a.Cap), .sl 6 (a.L.map Entry.cells)]⟩, .ro (one (dI left))] (resI fun r => 0 ≤ r → r + (a.wt : Int) ≤ left ∧ a.Fit) := by
  refine trX_go tabOk Tryz.func4 rfl rfl rfl rfl rfl (ov := [(0, .t ⟨true, [.d (dI (a.Cap)), .d (.sl 6 (a.L.map Entry.cells))]⟩), (1, .t ⟨false, [.d (dI (left))]⟩)]) (hv := []) rfl rfl ?_
  refine v_seq ?_
  refine v_reg ?_
  refine sr 0 (.t ⟨false, [.vp 0 0]⟩) (.var [.d (dI (a.Cap)), .d (.sl 6 (a.L.map Entry.cells))]) (zbx rfl (e rfl rfl) rfl rfl rfl) rfl rfl ?_
  refine sy _ (zas rfl (ec rfl)) rfl rfl ?_
  refine s_end ?_
  refine v_seq ?_
  refine v_reg ?_
  refine sy (.t ⟨false, [.vp 0 1]⟩) (zfa tabOk rfl rfl rfl (e rfl rfl) rfl rfl) rfl rfl ?_
  refine sy (.t ⟨false, [.d (.sl 6 (a.L.map Entry.cells))]⟩) (zlv tabOk rfl (e rfl rfl) rfl rfl rfl) rfl rfl ?_
  refine sy _ (zmv rfl (e rfl rfl)) rfl rfl ?_
  refine sxI (zcallX rfl (tr_szEntryS a.L hb.L left (by omega) (by omega)) (ar (e rfl rfl) (.d .nil) (ar (e rfl rfl) (.d .nil) .nil))) rfl rfl (fun r1 hr1 => ?_)
  refine sy _ (zas rfl (e rfl rfl)) rfl rfl ?_
  refine s_end ?_
  refine v_seq ?_
  refine v_seq ?_
  refine v_reg ?_
  refine sy _ (zmv rfl (e rfl rfl)) rfl rfl ?_
  refine sy (.t ⟨false, [.d (dB (decide ((r1) < (0))))]⟩) (y_bin rfl (e rfl rfl) (ec rfl) (fun _ => b_lss) rfl) rfl rfl ?_
  refine s_end ?_
  refine v_cond (e rfl rfl) (fun hb2 => ?_) fun hb2 => ?_
  · refine v_seq ?_
    refine v_reg ?_
    refine sy _ (zas rfl (ec rfl)) rfl rfl ?_
    refine s_end ?_
    refine v_ret ?_
    exact post_retX [one (dI (-1))] ⟨-1, fun h => by omega, rfl⟩ (rv (.tmp (eg rfl rfl)) rfl (.lf .nil) rfl .nil) (.ro (.ro .nil)) rfl
  have p3 : 0 ≤ r1 := by have := hb2; simp at this; omega
  have p3q := hr1 p3
  have := p3q.1
  refine v_skip ?_
  refine v_seq ?_
  refine v_reg ?_
  refine sy _ (zmv rfl (e rfl rfl)) rfl rfl ?_
  refine sy _ (zas rfl (e rfl rfl)) rfl rfl ?_
  refine s_end ?_
  refine v_ret ?_
  have := p3q.1
  exact post_retX [one (dI (r1))] ⟨r1, fun h => ⟨by simp only [Cache.wt]; omega, ⟨p3q.2⟩⟩, rfl⟩ (rv (.tmp (eg rfl rfl)) rfl (.lf .nil) rfl .nil) (.ro (.ro .nil)) rfl
set_option maxRecDepth 20000 in
theorem tr_toCache (a : Cache) (ha : a.Fit) : Tr Tryz.prog 6 [.ro ⟨true, [dI (a.Cap), .sl 6 (a.L.map Entry.cells)]⟩] [⟨true, [dI (a.Cap), .sl 6 (a.L.map Entry.cells)]⟩] := by
  refine tr_go tabOk Tryz.func6 rfl rfl rfl rfl rfl (ov := [(0, .t ⟨true, [.d (dI (a.Cap)), .d (.sl 6 (a.L.map Entry.cells))]⟩)]) (hv := []) rfl rfl ?_
  refine v_seq ?_
  refine v_reg ?_
  refine sr 0 (.t ⟨false, [.vp 0 0]⟩) (.var [.d (dI (a.Cap)), .d (.sl 6 (a.L.map Entry.cells))]) (zbx rfl (e rfl rfl) rfl rfl rfl) rfl rfl ?_
  refine sr 1 (.t ⟨false, [.vp 1 0]⟩) (.var [.d (dI (0)), .nl 6]) (zal tabOk rfl rfl rfl rfl) rfl rfl ?_
  refine s_end ?_
  refine v_seq ?_
  refine v_reg ?_
  refine sr 2 (.t ⟨false, [.vp 2 0]⟩) (.var [.d (dI (0)), .nl 6]) (zal tabOk rfl rfl rfl rfl) rfl rfl ?_
  refine s_end ?_
  refine v_seq ?_
  refine v_reg ?_
  refine sy (.t ⟨false, [.vp 0 0]⟩) (zfa tabOk rfl rfl rfl (e rfl rfl) rfl rfl) rfl rfl ?_
  refine sy (.t ⟨false, [.d (dI (a.Cap))]⟩) (zlv tabOk rfl (e rfl rfl) rfl rfl rfl) rfl rfl ?_
  refine sy (.t ⟨false, [.vp 2 0]⟩) (zfa tabOk rfl rfl rfl (e rfl rfl) rfl rfl) rfl rfl ?_
  refine sw 2 (.var [.d (dI (a.Cap)), .nl 6]) (zst tabOk rfl (e rfl rfl) rfl (e rfl rfl) rfl rfl rfl) rfl rfl ?_
  refine s_end ?_
  refine v_seq ?_
  refine v_reg ?_
  refine sy (.t ⟨false, [.vp 0 1]⟩) (zfa tabOk rfl rfl rfl (e rfl rfl) rfl rfl) rfl rfl ?_
  refine sy (.t ⟨false, [.d (.sl 6 (a.L.map Entry.cells))]⟩) (zlv tabOk rfl (e rfl rfl) rfl rfl rfl) rfl rfl ?_
  refine sd (.t ⟨false, [.sr 3 1 0 ((a.L.map Entry.cells).length) ((a.L.map Entry.cells).length)]⟩) (zcall 3 (.t ⟨false, [.sr 3 1 0 ((a.L.map Entry.cells).length) ((a.L.map Entry.cells).length)]⟩) [(3, .row 6 (a.L.map Entry.cells) true 1 0)] rfl (tr_toEntryS a.L ha.L) (ar (e rfl rfl) (.d .nil) .nil) rfl rfl rfl) rfl rfl rfl rfl ?_
  refine sy (.t ⟨false, [.vp 2 1]⟩) (zfa tabOk rfl rfl rfl (e rfl rfl) rfl rfl) rfl rfl ?_
  refine sw 2 (.var [.d (dI (a.Cap)), .sr 3 1 0 ((a.L.map Entry.cells).length) ((a.L.map Entry.cells).length)]) (zst tabOk rfl (e rfl rfl) rfl (e rfl rfl) rfl rfl rfl) rfl rfl ?_
  refine s_end ?_
  refine v_seq ?_
  refine v_reg ?_
  refine sy (.t ⟨true, [.d (dI (a.Cap)), .sr 3 1 0 ((a.L.map Entry.cells).length) ((a.L.map Entry.cells).length)]⟩) (zlv tabOk rfl (e rfl rfl) rfl rfl rfl) rfl rfl ?_
  refine sw 1 (.var [.d (dI (a.Cap)), .sr 3 1 0 ((a.L.map Entry.cells).length) ((a.L.map Entry.cells).length)]) (zst tabOk rfl (e rfl rfl) rfl (e rfl rfl) rfl rfl rfl) rfl rfl ?_
  refine s_end ?_
  refine v_ret ?_
  exact post_ret (rv (.cell (eg rfl rfl) rfl rfl (.inl rfl) rfl) rfl (.lf (.sr rfl le_all take_all .nil)) rfl .nil) (.ro .nil) rfl
set_option maxRecDepth 20000 in
theorem tr_eqCache (a b : Cache) (ha : a.Fit) (hb0 : b.Fit) : Tr Tryz.prog 11 [.ro ⟨true, [dI (a.Cap), .sl 6 (a.L.map Entry.cells)]⟩, .ro ⟨true, [dI (b.Cap), .sl 6 (b.L.map Entry.cells)]⟩] [one (dB (decide (a = b)))] := by
  refine tr_go tabOk Tryz.func11 rfl rfl rfl rfl rfl (ov := [(0, .t ⟨true, [.d (dI (a.Cap)), .d (.sl 6 (a.L.map Entry.cells))]⟩), (1, .t ⟨true, [.d (dI (b.Cap)), .d (.sl 6 (b.L.map Entry.cells))]⟩)]) (hv := []) rfl rfl ?_
  refine v_seq ?_
  refine v_reg ?_
  refine sr 0 (.t ⟨false, [.vp 0 0]⟩) (.var [.d (dI (a.Cap)), .d (.sl 6 (a.L.map Entry.cells))]) (zbx rfl (e rfl rfl) rfl rfl rfl) rfl rfl ?_
  refine sr 1 (.t ⟨false, [.vp 1 0]⟩) (.var [.d (dI (b.Cap)), .d (.sl 6 (b.L.map Entry.cells))]) (zbx rfl (e rfl rfl) rfl rfl rfl) rfl rfl ?_
  refine sy _ (zas rfl (ec rfl)) rfl rfl ?_
  refine s_end ?_
  refine v_seq ?_
  refine v_seq ?_
  refine v_reg ?_
  refine sy (.t ⟨false, [.vp 0 0]⟩) (zfa tabOk rfl rfl rfl (e rfl rfl) rfl rfl) rfl rfl ?_
  refine sy (.t ⟨false, [.d (dI (a.Cap))]⟩) (zlv tabOk rfl (e rfl rfl) rfl rfl rfl) rfl rfl ?_
  refine sy (.t ⟨false, [.vp 1 0]⟩) (zfa tabOk rfl rfl rfl (e rfl rfl) rfl rfl) rfl rfl ?_
  refine sy (.t ⟨false, [.d (dI (b.Cap))]⟩) (zlv tabOk rfl (e rfl rfl) rfl rfl rfl) rfl rfl ?_
  refine sy (.t ⟨false, [.d (dB (decide ((a.Cap) ≠ (b.Cap))))]⟩) (y_bin rfl (e rfl rfl) (e rfl rfl) (fun _ => b_neq) rfl) rfl rfl ?_
  refine s_end ?_
  refine v_cond (e rfl rfl) (fun hb1 => ?_) fun hb1 => ?_
  · refine v_seq ?_
    refine v_reg ?_
    refine sy _ (zas rfl (ec rfl)) rfl rfl ?_
    refine s_end ?_
    refine v_ret ?_
    have hr : decide (a = b) = false := by cases a; cases b; simp_all
    rw [hr]
    exact post_ret (rv (.tmp (eg rfl rfl)) rfl (.lf .nil) rfl .nil) (.ro (.ro .nil)) rfl
  refine v_skip ?_
  refine v_seq ?_
  refine v_seq ?_
  refine v_reg ?_
  refine sy (.t ⟨false, [.vp 0 1]⟩) (zfa tabOk rfl rfl rfl (e rfl rfl) rfl rfl) rfl rfl ?_
  refine sy (.t ⟨false, [.d (.sl 6 (a.L.map Entry.cells))]⟩) (zlv tabOk rfl (e rfl rfl) rfl rfl rfl) rfl rfl ?_
  refine sy (.t ⟨false, [.vp 1 1]⟩) (zfa tabOk rfl rfl rfl (e rfl rfl) rfl rfl) rfl rfl ?_
  refine sy (.t ⟨false, [.d (.sl 6 (b.L.map Entry.cells))]⟩) (zlv tabOk rfl (e rfl rfl) rfl rfl rfl) rfl rfl ?_
  refine sd (.t ⟨false, [.d (dB (decide (a.L = b.L)))]⟩) (zcall 2 (.t ⟨false, [.d (dB (decide (a.L = b.L)))]⟩) [] rfl (tr_eqEntryS a.L b.L ha.L hb0.L) (ar (e rfl rfl) (.d .nil) (ar (e rfl rfl) (.d .nil) .nil)) rfl rfl rfl) rfl rfl rfl rfl ?_
  refine sy (.t ⟨false, [.d (dB (!(decide (a.L = b.L))))]⟩) (y_un rfl (e rfl rfl) (fun _ => u_not) rfl) rfl rfl ?_
  refine s_end ?_
  refine v_cond (e rfl rfl) (fun hb2 => ?_) fun hb2 => ?_
  · refine v_seq ?_
    refine v_reg ?_
    refine sy _ (zas rfl (ec rfl)) rfl rfl ?_
    refine s_end ?_
    refine v_ret ?_
    have hr : decide (a = b) = false := by cases a; cases b; simp_all
    rw [hr]
    exact post_ret (rv (.tmp (eg rfl rfl)) rfl (.lf .nil) rfl .nil) (.ro (.ro .nil)) rfl
  refine v_skip ?_
  refine v_seq ?_
  refine v_reg ?_
  refine sy _ (zas rfl (ec rfl)) rfl rfl ?_
  refine s_end ?_
  refine v_ret ?_
  have hr : decide (a = b) = true := by cases a; cases b; simp_all
  rw [hr]
  exact post_ret (rv (.tmp (eg rfl rfl)) rfl (.lf .nil) rfl .nil) (.ro (.ro .nil)) rfl
set_option maxRecDepth 20000 in
theorem tr_markCache (a : Cache) (ha : a.Fit) (k : Int) (hk : k < 9223372036854775808) : Tr Tryz.prog 12 [.mu ⟨true, [dI (a.Cap), .sl 6 (a.L.map Entry.cells)]⟩ ⟨true, [dI (((mkvCache a k).1).Cap), .sl 6 ((((mkvCache a k).1).L).map Entry.cells)]⟩, .ro (one (dI k))] [one (dI (mkvCache a k).2)] := by
  refine tr_go tabOk Tryz.func12 rfl rfl rfl rfl rfl (ov := [(0, .t ⟨true, [.d (dI (a.Cap)), .sr 0 0 0 ((a.L.map Entry.cells).length) ((a.L.map Entry.cells).length)]⟩), (1, .t ⟨false, [.d (dI (k))]⟩)]) (hv := [(0, .row 6 (a.L.map Entry.cells) true 0 0)]) rfl rfl ?_
  refine v_seq ?_
  refine v_reg ?_
  refine sr 1 (.t ⟨false, [.vp 1 0]⟩) (.var [.d (dI (a.Cap)), .sr 0 0 0 ((a.L.map Entry.cells).length) ((a.L.map Entry.cells).length)]) (zbx rfl (e rfl rfl) rfl rfl rfl) rfl rfl ?_
  refine sy _ (zas rfl (ec rfl)) rfl rfl ?_
  refine s_end ?_
  refine v_seq ?_
  refine v_reg ?_
  refine sy (.t ⟨false, [.vp 1 1]⟩) (zfa tabOk rfl rfl rfl (e rfl rfl) rfl rfl) rfl rfl ?_
  refine sy (.t ⟨false, [.sr 0 0 0 ((a.L.map Entry.cells).length) ((a.L.map Entry.cells).length)]⟩) (zlv tabOk rfl (e rfl rfl) rfl rfl rfl) rfl rfl ?_
  refine sy _ (zmv rfl (e rfl rfl)) rfl rfl ?_
  refine sd (.t ⟨false, [.d (dI ((mkL mkEntry a.L k).2))]⟩) (zcall 2 (sc (dI (mkL mkEntry a.L k).2)) [(0, .row 6 (((mkL mkEntry a.L k).1).map Entry.cells) true 0 1)] rfl (tr_markEntryS a.L ha.L k hk) (am (e rfl rfl) (.sr rfl rfl (by simp [mkL_len]) .nil) (ar (e rfl rfl) (.d .nil) .nil)) rfl rfl rfl) rfl rfl rfl rfl ?_
  have hl1 : (mkL mkEntry a.L k).2 < 9223372036854775808 := mkL_lt mkEntry_lt hk
  refine sy _ (zas rfl (e rfl rfl)) rfl rfl ?_
  refine s_end ?_
  refine v_seq ?_
  refine v_reg ?_
  refine sy _ (zmv rfl (e rfl rfl)) rfl rfl ?_
  refine sy _ (zas rfl (e rfl rfl)) rfl rfl ?_
  refine s_end ?_
  refine v_ret ?_
  exact post_ret (rv (.tmp (eg rfl rfl)) rfl (.lf .nil) rfl .nil) (.mu rfl (.lf (.sl rfl (by simp [mkvCache, mkL_len]) .nil)) (.ro .nil)) rfl
end Go.Proofs.YtglilpigoocgeaaGreatDoor.V
