/-
  Servers and addresses that are known.
-/
import Derived.Test.YtglilpigoocgeaaGreatDoorFK
import Derived.Test.YtglilpigoocgeaaGreatDoorFL
import Derived.Test.YtglilpigoocgeaaGreatDoorVE
import Derived.Test.YtglilpigoocgeaaGreatDoorN
import Derived.Test.YtglilpigoocgeaaGreatDoorFA
namespace Go.Proofs.YtglilpigoocgeaaGreatDoor.V
open Go
set_option linter.unusedVariables false
set_option linter.unusedSimpArgs false
def n_spec_ServersKnown (a0 : Cache) (a1 : Int) (a2 : ByteArray) : List ByteArray := bindv (n_spec_Look a0 a1 (⟨a2, 2⟩ : Quest) (-9223372036854775808)) (fun v1 => cond (!(v1.2)) (([] : List ByteArray)) (bindv (n_spec_Hosts v1.1.L) (fun v2 => v2)))
set_option maxHeartbeats 4000000 in
set_option maxRecDepth 20000 in
theorem tr_n_spec_ServersKnown (a0 : Cache) (a1 : Int) (a2 : ByteArray) (h0 : Cache.Fit a0) (h2 : fitS a2) : Tr Tryz.prog 20 [.ro ⟨true, [dI (a0.Cap), .sl 6 (a0.L.map Entry.cells)]⟩, .ro ⟨false, [dI (a1)]⟩, .ro ⟨false, [dS (a2)]⟩] [⟨false, [.sl 1 (((n_spec_ServersKnown a0 a1 a2)).map encS)]⟩] := by
  obtain ⟨r, hr⟩ : ∃ r, n_spec_ServersKnown a0 a1 a2 = r := ⟨_, rfl⟩
  rw [hr]
  rw [n_spec_ServersKnown] at hr
  refine tr_go tabOk Tryz.func20 rfl rfl rfl rfl rfl (ov := [(0, .t ⟨true, [.d (dI (a0.Cap)), .d (.sl 6 (a0.L.map Entry.cells))]⟩), (1, .t ⟨false, [.d (dI (a1))]⟩), (2, .t ⟨false, [.d (dS (a2))]⟩)]) (hv := []) rfl rfl ?_
  refine v_seq ?_
  refine v_reg ?_
  refine sr 0 (.t ⟨false, [.vp 0 0]⟩) (.var [.d (dI (a0.Cap)), .d (.sl 6 (a0.L.map Entry.cells))]) (zbx rfl (e rfl rfl) rfl rfl rfl) rfl rfl ?_
  refine sy _ (zas rfl (en 1)) rfl rfl ?_
  refine s_end ?_
  refine v_seq ?_
  refine v_reg ?_
  refine sy (.t ⟨true, [.d (dI (a0.Cap)), .d (.sl 6 (a0.L.map Entry.cells))]⟩) (zlv tabOk rfl (e rfl rfl) rfl rfl rfl) rfl rfl ?_
  refine sy _ (zmv rfl (e rfl rfl)) rfl rfl ?_
  refine sy _ (zmv rfl (e rfl rfl)) rfl rfl ?_
  refine sy (.t ⟨true, [.d (dS (a2)), .d (dI (2))]⟩) (zbd tabOk rfl rfl (pv rfl (e rfl rfl) rfl rfl (pv rfl (ec rfl) rfl rfl .nil))) rfl rfl ?_
  obtain ⟨v1, ev1⟩ : ∃ v : Entry × Bool, v = n_spec_Look a0 a1 (⟨a2, 2⟩ : Quest) (-9223372036854775808) := ⟨_, rfl⟩
  replace hr := bv_step ev1 hr
  have hfv1p1 : Entry.Fit v1.1 := by rw [ev1]; exact (fitx_n_spec_Look a0 a1 (⟨a2, 2⟩ : Quest) (-9223372036854775808) h0 (⟨h2⟩))
  refine sd (.tu [⟨true, [.d (dS (v1.1.Q.Name)), .d (dI (v1.1.Q.Typ)), .d (dI (v1.1.Kind)), .d (.sl 6 (v1.1.L.map Record.cells)), .d (dI (v1.1.Rank)), .d (dI (v1.1.Until))]⟩, ⟨false, [.d (dB (v1.2))]⟩]) (zcd (.tu [⟨true, [.d (dS (v1.1.Q.Name)), .d (dI (v1.1.Q.Typ)), .d (dI (v1.1.Kind)), .d (.sl 6 (v1.1.L.map Record.cells)), .d (dI (v1.1.Rank)), .d (dI (v1.1.Until))]⟩, ⟨false, [.d (dB (v1.2))]⟩]) rfl (by rw [ev1]; exact (tr_n_spec_Look a0 a1 (⟨a2, 2⟩ : Quest) (-9223372036854775808) h0 (⟨h2⟩)) : Tr Tryz.prog 37 _ [⟨true, [dS (v1.1.Q.Name), dI (v1.1.Q.Typ), dI (v1.1.Kind), .sl 6 (v1.1.L.map Record.cells), dI (v1.1.Rank), dI (v1.1.Until)]⟩, ⟨false, [dB (v1.2)]⟩]) (ar (e rfl rfl) (.d (.d .nil)) (ar (e rfl rfl) (.d .nil) (ar (e rfl rfl) (.d (.d .nil)) (ar (ec rfl) (.d .nil) .nil)))) rfl) rfl rfl rfl rfl ?_
  refine sy (.tu [⟨true, [.d (dS (v1.1.Q.Name)), .d (dI (v1.1.Q.Typ)), .d (dI (v1.1.Kind)), .d (.sl 6 (v1.1.L.map Record.cells)), .d (dI (v1.1.Rank)), .d (dI (v1.1.Until))]⟩, ⟨false, [.d (dB (v1.2))]⟩]) (zmvt (.inl rfl) (eg rfl rfl)) rfl rfl ?_
  refine sy (.t ⟨true, [.d (dS (v1.1.Q.Name)), .d (dI (v1.1.Q.Typ)), .d (dI (v1.1.Kind)), .d (.sl 6 (v1.1.L.map Record.cells)), .d (dI (v1.1.Rank)), .d (dI (v1.1.Until))]⟩) (y_extract rfl rfl (eg rfl rfl) rfl) rfl rfl ?_
  refine sy (.t ⟨false, [.d (dB (v1.2))]⟩) (y_extract rfl rfl (eg rfl rfl) rfl) rfl rfl ?_
  refine sr 1 (.t ⟨false, [.vp 1 0]⟩) (.var [.d (dS (⟨#[]⟩)), .d (dI (0)), .d (dI (0)), .nl 6, .d (dI (0)), .d (dI (0))]) (zal tabOk rfl rfl rfl rfl) rfl rfl ?_
  refine sw 1 (.var [.d (dS (v1.1.Q.Name)), .d (dI (v1.1.Q.Typ)), .d (dI (v1.1.Kind)), .d (.sl 6 (v1.1.L.map Record.cells)), .d (dI (v1.1.Rank)), .d (dI (v1.1.Until))]) (zst tabOk rfl (e rfl rfl) rfl (e rfl rfl) rfl rfl rfl) rfl rfl ?_
  refine sy _ (zas rfl (e rfl rfl)) rfl rfl ?_
  refine s_end ?_
  refine v_seq ?_
  refine v_seq ?_
  refine v_reg ?_
  refine sy _ (zmv rfl (e rfl rfl)) rfl rfl ?_
  refine sy (.t ⟨false, [.d (dB (!(v1.2)))]⟩) (y_un rfl (e rfl rfl) (fun _ => u_not) rfl) rfl rfl ?_
  refine s_end ?_
  refine v_cond (e rfl rfl) (fun hb1 => ?_) fun hb1 => ?_
  · replace hr := bf_t hb1 hr
    have hn2 := not_t hb1
    refine v_seq ?_
    refine v_reg ?_
    refine sbk 2 (.t ⟨false, [.sr 2 1 0 ((([] : List ByteArray).map encS).length) ((([] : List ByteArray).map encS).length)]⟩) (.row 1 (([] : List ByteArray).map encS) true 1 0) (zbu tabOk rfl rfl rfl rfl .nil rfl rfl) rfl rfl ?_
    refine sy _ (zas rfl (e rfl rfl)) rfl rfl ?_
    refine s_end ?_
    refine v_ret ?_
    subst hr
    exact post_ret (rv (.tmp (eg rfl rfl)) rfl (.sr rfl le_all take_all .nil) rfl .nil) (.ro (.ro (.ro .nil))) rfl
  replace hr := bf_f hb1 hr
  have hn3 := not_f hb1
  refine v_skip ?_
  refine v_seq ?_
  refine v_reg ?_
  refine sy (.t ⟨false, [.vp 1 3]⟩) (zfa tabOk rfl rfl rfl (e rfl rfl) rfl rfl) rfl rfl ?_
  refine sy (.t ⟨false, [.d (.sl 6 (v1.1.L.map Record.cells))]⟩) (zlv tabOk rfl (e rfl rfl) rfl rfl rfl) rfl rfl ?_
  obtain ⟨v2, ev2⟩ : ∃ v : List ByteArray, v = n_spec_Hosts v1.1.L := ⟨_, rfl⟩
  replace hr := bv_step ev2 hr
  have hfv2 : fitL fitS v2 := by rw [ev2]; exact (fitx_n_spec_Hosts v1.1.L hfv1p1.L)
  refine sd (.t ⟨false, [.sr 3 1 0 ((v2.map encS).length) ((v2.map encS).length)]⟩) (zcall 3 (.t ⟨false, [.sr 3 1 0 ((v2.map encS).length) ((v2.map encS).length)]⟩) [(3, .row 1 (v2.map encS) true 1 0)] rfl (by rw [ev2]; exact (tr_n_spec_Hosts v1.1.L hfv1p1.L) : Tr Tryz.prog 38 _ [⟨false, [.sl 1 (v2.map encS)]⟩]) (ar (e rfl rfl) (.d .nil) .nil) rfl rfl rfl) rfl rfl rfl rfl ?_
  refine sy _ (zas rfl (e rfl rfl)) rfl rfl ?_
  refine s_end ?_
  refine v_ret ?_
  subst hr
  exact post_ret (rv (.tmp (eg rfl rfl)) rfl (.sr rfl le_all take_all .nil) rfl .nil) (.ro (.ro (.ro .nil))) rfl
set_option maxHeartbeats 4000000 in
theorem fitx_n_spec_ServersKnown (a0 : Cache) (a1 : Int) (a2 : ByteArray) (h0 : Cache.Fit a0) (h2 : fitS a2) : fitL fitS (n_spec_ServersKnown a0 a1 a2) := by
  obtain ⟨r, hr⟩ : ∃ r, n_spec_ServersKnown a0 a1 a2 = r := ⟨_, rfl⟩
  rw [hr]
  rw [n_spec_ServersKnown] at hr
  obtain ⟨v1, ev1⟩ : ∃ v : Entry × Bool, v = n_spec_Look a0 a1 (⟨a2, 2⟩ : Quest) (-9223372036854775808) := ⟨_, rfl⟩
  replace hr := bv_step ev1 hr
  have hfv1p1 : Entry.Fit v1.1 := by rw [ev1]; exact (fitx_n_spec_Look a0 a1 (⟨a2, 2⟩ : Quest) (-9223372036854775808) h0 (⟨h2⟩))
  rcases Bool.eq_false_or_eq_true (!(v1.2)) with hb1 | hb1
  · replace hr := bf_t hb1 hr
    have hn2 := not_t hb1
    subst hr
    exact fitL_nil
  replace hr := bf_f hb1 hr
  have hn3 := not_f hb1
  obtain ⟨v2, ev2⟩ : ∃ v : List ByteArray, v = n_spec_Hosts v1.1.L := ⟨_, rfl⟩
  replace hr := bv_step ev2 hr
  have hfv2 : fitL fitS v2 := by rw [ev2]; exact (fitx_n_spec_Hosts v1.1.L hfv1p1.L)
  subst hr
  exact hfv2
def n_spec_AddrsKnown (a0 : Cache) (a1 : Int) (a2 : ByteArray) : List Int := bindv (n_spec_Look a0 a1 (⟨a2, 1⟩ : Quest) (-9223372036854775808)) (fun v1 => cond (!(v1.2)) (([] : List Int)) (bindv (n_spec_Addrs v1.1.L a2) (fun v2 => v2)))
set_option maxHeartbeats 4000000 in
set_option maxRecDepth 20000 in
theorem tr_n_spec_AddrsKnown (a0 : Cache) (a1 : Int) (a2 : ByteArray) (h0 : Cache.Fit a0) (h2 : fitS a2) : Tr Tryz.prog 39 [.ro ⟨true, [dI (a0.Cap), .sl 6 (a0.L.map Entry.cells)]⟩, .ro ⟨false, [dI (a1)]⟩, .ro ⟨false, [dS (a2)]⟩] [⟨false, [.sl 1 (((n_spec_AddrsKnown a0 a1 a2)).map encI)]⟩] := by
  obtain ⟨r, hr⟩ : ∃ r, n_spec_AddrsKnown a0 a1 a2 = r := ⟨_, rfl⟩
  rw [hr]
  rw [n_spec_AddrsKnown] at hr
  refine tr_go tabOk Tryz.func39 rfl rfl rfl rfl rfl (ov := [(0, .t ⟨true, [.d (dI (a0.Cap)), .d (.sl 6 (a0.L.map Entry.cells))]⟩), (1, .t ⟨false, [.d (dI (a1))]⟩), (2, .t ⟨false, [.d (dS (a2))]⟩)]) (hv := []) rfl rfl ?_
  refine v_seq ?_
  refine v_reg ?_
  refine sr 0 (.t ⟨false, [.vp 0 0]⟩) (.var [.d (dI (a0.Cap)), .d (.sl 6 (a0.L.map Entry.cells))]) (zbx rfl (e rfl rfl) rfl rfl rfl) rfl rfl ?_
  refine sy _ (zas rfl (en 1)) rfl rfl ?_
  refine s_end ?_
  refine v_seq ?_
  refine v_reg ?_
  refine sy (.t ⟨true, [.d (dI (a0.Cap)), .d (.sl 6 (a0.L.map Entry.cells))]⟩) (zlv tabOk rfl (e rfl rfl) rfl rfl rfl) rfl rfl ?_
  refine sy _ (zmv rfl (e rfl rfl)) rfl rfl ?_
  refine sy _ (zmv rfl (e rfl rfl)) rfl rfl ?_
  refine sy (.t ⟨true, [.d (dS (a2)), .d (dI (1))]⟩) (zbd tabOk rfl rfl (pv rfl (e rfl rfl) rfl rfl (pv rfl (ec rfl) rfl rfl .nil))) rfl rfl ?_
  obtain ⟨v1, ev1⟩ : ∃ v : Entry × Bool, v = n_spec_Look a0 a1 (⟨a2, 1⟩ : Quest) (-9223372036854775808) := ⟨_, rfl⟩
  replace hr := bv_step ev1 hr
  have hfv1p1 : Entry.Fit v1.1 := by rw [ev1]; exact (fitx_n_spec_Look a0 a1 (⟨a2, 1⟩ : Quest) (-9223372036854775808) h0 (⟨h2⟩))
  refine sd (.tu [⟨true, [.d (dS (v1.1.Q.Name)), .d (dI (v1.1.Q.Typ)), .d (dI (v1.1.Kind)), .d (.sl 6 (v1.1.L.map Record.cells)), .d (dI (v1.1.Rank)), .d (dI (v1.1.Until))]⟩, ⟨false, [.d (dB (v1.2))]⟩]) (zcd (.tu [⟨true, [.d (dS (v1.1.Q.Name)), .d (dI (v1.1.Q.Typ)), .d (dI (v1.1.Kind)), .d (.sl 6 (v1.1.L.map Record.cells)), .d (dI (v1.1.Rank)), .d (dI (v1.1.Until))]⟩, ⟨false, [.d (dB (v1.2))]⟩]) rfl (by rw [ev1]; exact (tr_n_spec_Look a0 a1 (⟨a2, 1⟩ : Quest) (-9223372036854775808) h0 (⟨h2⟩)) : Tr Tryz.prog 37 _ [⟨true, [dS (v1.1.Q.Name), dI (v1.1.Q.Typ), dI (v1.1.Kind), .sl 6 (v1.1.L.map Record.cells), dI (v1.1.Rank), dI (v1.1.Until)]⟩, ⟨false, [dB (v1.2)]⟩]) (ar (e rfl rfl) (.d (.d .nil)) (ar (e rfl rfl) (.d .nil) (ar (e rfl rfl) (.d (.d .nil)) (ar (ec rfl) (.d .nil) .nil)))) rfl) rfl rfl rfl rfl ?_
  refine sy (.tu [⟨true, [.d (dS (v1.1.Q.Name)), .d (dI (v1.1.Q.Typ)), .d (dI (v1.1.Kind)), .d (.sl 6 (v1.1.L.map Record.cells)), .d (dI (v1.1.Rank)), .d (dI (v1.1.Until))]⟩, ⟨false, [.d (dB (v1.2))]⟩]) (zmvt (.inl rfl) (eg rfl rfl)) rfl rfl ?_
  refine sy (.t ⟨true, [.d (dS (v1.1.Q.Name)), .d (dI (v1.1.Q.Typ)), .d (dI (v1.1.Kind)), .d (.sl 6 (v1.1.L.map Record.cells)), .d (dI (v1.1.Rank)), .d (dI (v1.1.Until))]⟩) (y_extract rfl rfl (eg rfl rfl) rfl) rfl rfl ?_
  refine sy (.t ⟨false, [.d (dB (v1.2))]⟩) (y_extract rfl rfl (eg rfl rfl) rfl) rfl rfl ?_
  refine sr 1 (.t ⟨false, [.vp 1 0]⟩) (.var [.d (dS (⟨#[]⟩)), .d (dI (0)), .d (dI (0)), .nl 6, .d (dI (0)), .d (dI (0))]) (zal tabOk rfl rfl rfl rfl) rfl rfl ?_
  refine sw 1 (.var [.d (dS (v1.1.Q.Name)), .d (dI (v1.1.Q.Typ)), .d (dI (v1.1.Kind)), .d (.sl 6 (v1.1.L.map Record.cells)), .d (dI (v1.1.Rank)), .d (dI (v1.1.Until))]) (zst tabOk rfl (e rfl rfl) rfl (e rfl rfl) rfl rfl rfl) rfl rfl ?_
  refine sy _ (zas rfl (e rfl rfl)) rfl rfl ?_
  refine s_end ?_
  refine v_seq ?_
  refine v_seq ?_
  refine v_reg ?_
  refine sy _ (zmv rfl (e rfl rfl)) rfl rfl ?_
  refine sy (.t ⟨false, [.d (dB (!(v1.2)))]⟩) (y_un rfl (e rfl rfl) (fun _ => u_not) rfl) rfl rfl ?_
  refine s_end ?_
  refine v_cond (e rfl rfl) (fun hb1 => ?_) fun hb1 => ?_
  · replace hr := bf_t hb1 hr
    have hn2 := not_t hb1
    refine v_seq ?_
    refine v_reg ?_
    refine sbk 2 (.t ⟨false, [.sr 2 1 0 ((([] : List Int).map encI).length) ((([] : List Int).map encI).length)]⟩) (.row 1 (([] : List Int).map encI) true 1 0) (zbu tabOk rfl rfl rfl rfl .nil rfl rfl) rfl rfl ?_
    refine sy _ (zas rfl (e rfl rfl)) rfl rfl ?_
    refine s_end ?_
    refine v_ret ?_
    subst hr
    exact post_ret (rv (.tmp (eg rfl rfl)) rfl (.sr rfl le_all take_all .nil) rfl .nil) (.ro (.ro (.ro .nil))) rfl
  replace hr := bf_f hb1 hr
  have hn3 := not_f hb1
  refine v_skip ?_
  refine v_seq ?_
  refine v_reg ?_
  refine sy (.t ⟨false, [.vp 1 3]⟩) (zfa tabOk rfl rfl rfl (e rfl rfl) rfl rfl) rfl rfl ?_
  refine sy (.t ⟨false, [.d (.sl 6 (v1.1.L.map Record.cells))]⟩) (zlv tabOk rfl (e rfl rfl) rfl rfl rfl) rfl rfl ?_
  refine sy _ (zmv rfl (e rfl rfl)) rfl rfl ?_
  obtain ⟨v2, ev2⟩ : ∃ v : List Int, v = n_spec_Addrs v1.1.L a2 := ⟨_, rfl⟩
  replace hr := bv_step ev2 hr
  have hfv2 : fitL fitU v2 := by rw [ev2]; exact (fitx_n_spec_Addrs v1.1.L a2 hfv1p1.L h2)
  refine sd (.t ⟨false, [.sr 3 1 0 ((v2.map encI).length) ((v2.map encI).length)]⟩) (zcall 3 (.t ⟨false, [.sr 3 1 0 ((v2.map encI).length) ((v2.map encI).length)]⟩) [(3, .row 1 (v2.map encI) true 1 0)] rfl (by rw [ev2]; exact (tr_n_spec_Addrs v1.1.L a2 hfv1p1.L h2) : Tr Tryz.prog 61 _ [⟨false, [.sl 1 (v2.map encI)]⟩]) (ar (e rfl rfl) (.d .nil) (ar (e rfl rfl) (.d .nil) .nil)) rfl rfl rfl) rfl rfl rfl rfl ?_
  refine sy _ (zas rfl (e rfl rfl)) rfl rfl ?_
  refine s_end ?_
  refine v_ret ?_
  subst hr
  exact post_ret (rv (.tmp (eg rfl rfl)) rfl (.sr rfl le_all take_all .nil) rfl .nil) (.ro (.ro (.ro .nil))) rfl
set_option maxHeartbeats 4000000 in
theorem fitx_n_spec_AddrsKnown (a0 : Cache) (a1 : Int) (a2 : ByteArray) (h0 : Cache.Fit a0) (h2 : fitS a2) : fitL fitU (n_spec_AddrsKnown a0 a1 a2) := by
  obtain ⟨r, hr⟩ : ∃ r, n_spec_AddrsKnown a0 a1 a2 = r := ⟨_, rfl⟩
  rw [hr]
  rw [n_spec_AddrsKnown] at hr
  obtain ⟨v1, ev1⟩ : ∃ v : Entry × Bool, v = n_spec_Look a0 a1 (⟨a2, 1⟩ : Quest) (-9223372036854775808) := ⟨_, rfl⟩
  replace hr := bv_step ev1 hr
  have hfv1p1 : Entry.Fit v1.1 := by rw [ev1]; exact (fitx_n_spec_Look a0 a1 (⟨a2, 1⟩ : Quest) (-9223372036854775808) h0 (⟨h2⟩))
  rcases Bool.eq_false_or_eq_true (!(v1.2)) with hb1 | hb1
  · replace hr := bf_t hb1 hr
    have hn2 := not_t hb1
    subst hr
    exact fitL_nil
  replace hr := bf_f hb1 hr
  have hn3 := not_f hb1
  obtain ⟨v2, ev2⟩ : ∃ v : List Int, v = n_spec_Addrs v1.1.L a2 := ⟨_, rfl⟩
  replace hr := bv_step ev2 hr
  have hfv2 : fitL fitU v2 := by rw [ev2]; exact (fitx_n_spec_Addrs v1.1.L a2 hfv1p1.L h2)
  subst hr
  exact hfv2
def n_impl_ServersKnown (a0 : Cache) (a1 : Int) (a2 : ByteArray) : List ByteArray := bindv (n_impl_Look a0 a1 (⟨a2, 2⟩ : Quest) (-9223372036854775808)) (fun v1 => bindv (n_impl_Hosts v1.1.L) (fun v2 => v2))
set_option maxHeartbeats 4000000 in
set_option maxRecDepth 20000 in
theorem tr_n_impl_ServersKnown (a0 : Cache) (a1 : Int) (a2 : ByteArray) (h0 : Cache.Fit a0) (h2 : fitS a2) : Tr Tryz.prog 27 [.ro ⟨true, [dI (a0.Cap), .sl 6 (a0.L.map Entry.cells)]⟩, .ro ⟨false, [dI (a1)]⟩, .ro ⟨false, [dS (a2)]⟩] [⟨false, [.sl 1 (((n_impl_ServersKnown a0 a1 a2)).map encS)]⟩] := by
  obtain ⟨r, hr⟩ : ∃ r, n_impl_ServersKnown a0 a1 a2 = r := ⟨_, rfl⟩
  rw [hr]
  rw [n_impl_ServersKnown] at hr
  refine tr_go tabOk Tryz.func27 rfl rfl rfl rfl rfl (ov := [(0, .t ⟨true, [.d (dI (a0.Cap)), .d (.sl 6 (a0.L.map Entry.cells))]⟩), (1, .t ⟨false, [.d (dI (a1))]⟩), (2, .t ⟨false, [.d (dS (a2))]⟩)]) (hv := []) rfl rfl ?_
  refine v_seq ?_
  refine v_reg ?_
  refine sr 0 (.t ⟨false, [.vp 0 0]⟩) (.var [.d (dI (a0.Cap)), .d (.sl 6 (a0.L.map Entry.cells))]) (zbx rfl (e rfl rfl) rfl rfl rfl) rfl rfl ?_
  refine sy _ (zas rfl (en 1)) rfl rfl ?_
  refine s_end ?_
  refine v_seq ?_
  refine v_reg ?_
  refine sy (.t ⟨true, [.d (dI (a0.Cap)), .d (.sl 6 (a0.L.map Entry.cells))]⟩) (zlv tabOk rfl (e rfl rfl) rfl rfl rfl) rfl rfl ?_
  refine sy _ (zmv rfl (e rfl rfl)) rfl rfl ?_
  refine sy _ (zmv rfl (e rfl rfl)) rfl rfl ?_
  refine sy (.t ⟨true, [.d (dS (a2)), .d (dI (2))]⟩) (zbd tabOk rfl rfl (pv rfl (e rfl rfl) rfl rfl (pv rfl (ec rfl) rfl rfl .nil))) rfl rfl ?_
  obtain ⟨v1, ev1⟩ : ∃ v : Entry × Bool, v = n_impl_Look a0 a1 (⟨a2, 2⟩ : Quest) (-9223372036854775808) := ⟨_, rfl⟩
  replace hr := bv_step ev1 hr
  have hfv1p1 : Entry.Fit v1.1 := by rw [ev1]; exact (fitx_n_impl_Look a0 a1 (⟨a2, 2⟩ : Quest) (-9223372036854775808) h0 (⟨h2⟩))
  refine sd (.tu [⟨true, [.d (dS (v1.1.Q.Name)), .d (dI (v1.1.Q.Typ)), .d (dI (v1.1.Kind)), .d (.sl 6 (v1.1.L.map Record.cells)), .d (dI (v1.1.Rank)), .d (dI (v1.1.Until))]⟩, ⟨false, [.d (dB (v1.2))]⟩]) (zcd (.tu [⟨true, [.d (dS (v1.1.Q.Name)), .d (dI (v1.1.Q.Typ)), .d (dI (v1.1.Kind)), .d (.sl 6 (v1.1.L.map Record.cells)), .d (dI (v1.1.Rank)), .d (dI (v1.1.Until))]⟩, ⟨false, [.d (dB (v1.2))]⟩]) rfl (by rw [ev1]; exact (tr_n_impl_Look a0 a1 (⟨a2, 2⟩ : Quest) (-9223372036854775808) h0 (⟨h2⟩)) : Tr Tryz.prog 44 _ [⟨true, [dS (v1.1.Q.Name), dI (v1.1.Q.Typ), dI (v1.1.Kind), .sl 6 (v1.1.L.map Record.cells), dI (v1.1.Rank), dI (v1.1.Until)]⟩, ⟨false, [dB (v1.2)]⟩]) (ar (e rfl rfl) (.d (.d .nil)) (ar (e rfl rfl) (.d .nil) (ar (e rfl rfl) (.d (.d .nil)) (ar (ec rfl) (.d .nil) .nil)))) rfl) rfl rfl rfl rfl ?_
  refine sy (.tu [⟨true, [.d (dS (v1.1.Q.Name)), .d (dI (v1.1.Q.Typ)), .d (dI (v1.1.Kind)), .d (.sl 6 (v1.1.L.map Record.cells)), .d (dI (v1.1.Rank)), .d (dI (v1.1.Until))]⟩, ⟨false, [.d (dB (v1.2))]⟩]) (zmvt (.inl rfl) (eg rfl rfl)) rfl rfl ?_
  refine sy (.t ⟨true, [.d (dS (v1.1.Q.Name)), .d (dI (v1.1.Q.Typ)), .d (dI (v1.1.Kind)), .d (.sl 6 (v1.1.L.map Record.cells)), .d (dI (v1.1.Rank)), .d (dI (v1.1.Until))]⟩) (y_extract rfl rfl (eg rfl rfl) rfl) rfl rfl ?_
  refine sy (.t ⟨false, [.d (dB (v1.2))]⟩) (y_extract rfl rfl (eg rfl rfl) rfl) rfl rfl ?_
  refine sr 1 (.t ⟨false, [.vp 1 0]⟩) (.var [.d (dS (⟨#[]⟩)), .d (dI (0)), .d (dI (0)), .nl 6, .d (dI (0)), .d (dI (0))]) (zal tabOk rfl rfl rfl rfl) rfl rfl ?_
  refine sw 1 (.var [.d (dS (v1.1.Q.Name)), .d (dI (v1.1.Q.Typ)), .d (dI (v1.1.Kind)), .d (.sl 6 (v1.1.L.map Record.cells)), .d (dI (v1.1.Rank)), .d (dI (v1.1.Until))]) (zst tabOk rfl (e rfl rfl) rfl (e rfl rfl) rfl rfl rfl) rfl rfl ?_
  refine sy _ (zas rfl (e rfl rfl)) rfl rfl ?_
  refine s_end ?_
  refine v_seq ?_
  refine v_reg ?_
  refine sy (.t ⟨false, [.vp 1 3]⟩) (zfa tabOk rfl rfl rfl (e rfl rfl) rfl rfl) rfl rfl ?_
  refine sy (.t ⟨false, [.d (.sl 6 (v1.1.L.map Record.cells))]⟩) (zlv tabOk rfl (e rfl rfl) rfl rfl rfl) rfl rfl ?_
  obtain ⟨v2, ev2⟩ : ∃ v : List ByteArray, v = n_impl_Hosts v1.1.L := ⟨_, rfl⟩
  replace hr := bv_step ev2 hr
  have hfv2 : fitL fitS v2 := by rw [ev2]; exact (fitx_n_impl_Hosts v1.1.L hfv1p1.L)
  refine sd (.t ⟨false, [.sr 2 1 0 ((v2.map encS).length) ((v2.map encS).length)]⟩) (zcall 2 (.t ⟨false, [.sr 2 1 0 ((v2.map encS).length) ((v2.map encS).length)]⟩) [(2, .row 1 (v2.map encS) true 1 0)] rfl (by rw [ev2]; exact (tr_n_impl_Hosts v1.1.L hfv1p1.L) : Tr Tryz.prog 45 _ [⟨false, [.sl 1 (v2.map encS)]⟩]) (ar (e rfl rfl) (.d .nil) .nil) rfl rfl rfl) rfl rfl rfl rfl ?_
  refine sy _ (zas rfl (e rfl rfl)) rfl rfl ?_
  refine s_end ?_
  refine v_ret ?_
  subst hr
  exact post_ret (rv (.tmp (eg rfl rfl)) rfl (.sr rfl le_all take_all .nil) rfl .nil) (.ro (.ro (.ro .nil))) rfl
set_option maxHeartbeats 4000000 in
theorem fitx_n_impl_ServersKnown (a0 : Cache) (a1 : Int) (a2 : ByteArray) (h0 : Cache.Fit a0) (h2 : fitS a2) : fitL fitS (n_impl_ServersKnown a0 a1 a2) := by
  obtain ⟨r, hr⟩ : ∃ r, n_impl_ServersKnown a0 a1 a2 = r := ⟨_, rfl⟩
  rw [hr]
  rw [n_impl_ServersKnown] at hr
  obtain ⟨v1, ev1⟩ : ∃ v : Entry × Bool, v = n_impl_Look a0 a1 (⟨a2, 2⟩ : Quest) (-9223372036854775808) := ⟨_, rfl⟩
  replace hr := bv_step ev1 hr
  have hfv1p1 : Entry.Fit v1.1 := by rw [ev1]; exact (fitx_n_impl_Look a0 a1 (⟨a2, 2⟩ : Quest) (-9223372036854775808) h0 (⟨h2⟩))
  obtain ⟨v2, ev2⟩ : ∃ v : List ByteArray, v = n_impl_Hosts v1.1.L := ⟨_, rfl⟩
  replace hr := bv_step ev2 hr
  have hfv2 : fitL fitS v2 := by rw [ev2]; exact (fitx_n_impl_Hosts v1.1.L hfv1p1.L)
  subst hr
  exact hfv2
def n_impl_AddrsKnown (a0 : Cache) (a1 : Int) (a2 : ByteArray) : List Int := bindv (n_impl_Look a0 a1 (⟨a2, 1⟩ : Quest) (-9223372036854775808)) (fun v1 => bindv (n_impl_Addrs v1.1.L a2) (fun v2 => v2))
set_option maxHeartbeats 4000000 in
set_option maxRecDepth 20000 in
theorem tr_n_impl_AddrsKnown (a0 : Cache) (a1 : Int) (a2 : ByteArray) (h0 : Cache.Fit a0) (h2 : fitS a2) : Tr Tryz.prog 46 [.ro ⟨true, [dI (a0.Cap), .sl 6 (a0.L.map Entry.cells)]⟩, .ro ⟨false, [dI (a1)]⟩, .ro ⟨false, [dS (a2)]⟩] [⟨false, [.sl 1 (((n_impl_AddrsKnown a0 a1 a2)).map encI)]⟩] := by
  obtain ⟨r, hr⟩ : ∃ r, n_impl_AddrsKnown a0 a1 a2 = r := ⟨_, rfl⟩
  rw [hr]
  rw [n_impl_AddrsKnown] at hr
  refine tr_go tabOk Tryz.func46 rfl rfl rfl rfl rfl (ov := [(0, .t ⟨true, [.d (dI (a0.Cap)), .d (.sl 6 (a0.L.map Entry.cells))]⟩), (1, .t ⟨false, [.d (dI (a1))]⟩), (2, .t ⟨false, [.d (dS (a2))]⟩)]) (hv := []) rfl rfl ?_
  refine v_seq ?_
  refine v_reg ?_
  refine sr 0 (.t ⟨false, [.vp 0 0]⟩) (.var [.d (dI (a0.Cap)), .d (.sl 6 (a0.L.map Entry.cells))]) (zbx rfl (e rfl rfl) rfl rfl rfl) rfl rfl ?_
  refine sy _ (zas rfl (en 1)) rfl rfl ?_
  refine s_end ?_
  refine v_seq ?_
  refine v_reg ?_
  refine sy (.t ⟨true, [.d (dI (a0.Cap)), .d (.sl 6 (a0.L.map Entry.cells))]⟩) (zlv tabOk rfl (e rfl rfl) rfl rfl rfl) rfl rfl ?_
  refine sy _ (zmv rfl (e rfl rfl)) rfl rfl ?_
  refine sy _ (zmv rfl (e rfl rfl)) rfl rfl ?_
  refine sy (.t ⟨true, [.d (dS (a2)), .d (dI (1))]⟩) (zbd tabOk rfl rfl (pv rfl (e rfl rfl) rfl rfl (pv rfl (ec rfl) rfl rfl .nil))) rfl rfl ?_
  obtain ⟨v1, ev1⟩ : ∃ v : Entry × Bool, v = n_impl_Look a0 a1 (⟨a2, 1⟩ : Quest) (-9223372036854775808) := ⟨_, rfl⟩
  replace hr := bv_step ev1 hr
  have hfv1p1 : Entry.Fit v1.1 := by rw [ev1]; exact (fitx_n_impl_Look a0 a1 (⟨a2, 1⟩ : Quest) (-9223372036854775808) h0 (⟨h2⟩))
  refine sd (.tu [⟨true, [.d (dS (v1.1.Q.Name)), .d (dI (v1.1.Q.Typ)), .d (dI (v1.1.Kind)), .d (.sl 6 (v1.1.L.map Record.cells)), .d (dI (v1.1.Rank)), .d (dI (v1.1.Until))]⟩, ⟨false, [.d (dB (v1.2))]⟩]) (zcd (.tu [⟨true, [.d (dS (v1.1.Q.Name)), .d (dI (v1.1.Q.Typ)), .d (dI (v1.1.Kind)), .d (.sl 6 (v1.1.L.map Record.cells)), .d (dI (v1.1.Rank)), .d (dI (v1.1.Until))]⟩, ⟨false, [.d (dB (v1.2))]⟩]) rfl (by rw [ev1]; exact (tr_n_impl_Look a0 a1 (⟨a2, 1⟩ : Quest) (-9223372036854775808) h0 (⟨h2⟩)) : Tr Tryz.prog 44 _ [⟨true, [dS (v1.1.Q.Name), dI (v1.1.Q.Typ), dI (v1.1.Kind), .sl 6 (v1.1.L.map Record.cells), dI (v1.1.Rank), dI (v1.1.Until)]⟩, ⟨false, [dB (v1.2)]⟩]) (ar (e rfl rfl) (.d (.d .nil)) (ar (e rfl rfl) (.d .nil) (ar (e rfl rfl) (.d (.d .nil)) (ar (ec rfl) (.d .nil) .nil)))) rfl) rfl rfl rfl rfl ?_
  refine sy (.tu [⟨true, [.d (dS (v1.1.Q.Name)), .d (dI (v1.1.Q.Typ)), .d (dI (v1.1.Kind)), .d (.sl 6 (v1.1.L.map Record.cells)), .d (dI (v1.1.Rank)), .d (dI (v1.1.Until))]⟩, ⟨false, [.d (dB (v1.2))]⟩]) (zmvt (.inl rfl) (eg rfl rfl)) rfl rfl ?_
  refine sy (.t ⟨true, [.d (dS (v1.1.Q.Name)), .d (dI (v1.1.Q.Typ)), .d (dI (v1.1.Kind)), .d (.sl 6 (v1.1.L.map Record.cells)), .d (dI (v1.1.Rank)), .d (dI (v1.1.Until))]⟩) (y_extract rfl rfl (eg rfl rfl) rfl) rfl rfl ?_
  refine sy (.t ⟨false, [.d (dB (v1.2))]⟩) (y_extract rfl rfl (eg rfl rfl) rfl) rfl rfl ?_
  refine sr 1 (.t ⟨false, [.vp 1 0]⟩) (.var [.d (dS (⟨#[]⟩)), .d (dI (0)), .d (dI (0)), .nl 6, .d (dI (0)), .d (dI (0))]) (zal tabOk rfl rfl rfl rfl) rfl rfl ?_
  refine sw 1 (.var [.d (dS (v1.1.Q.Name)), .d (dI (v1.1.Q.Typ)), .d (dI (v1.1.Kind)), .d (.sl 6 (v1.1.L.map Record.cells)), .d (dI (v1.1.Rank)), .d (dI (v1.1.Until))]) (zst tabOk rfl (e rfl rfl) rfl (e rfl rfl) rfl rfl rfl) rfl rfl ?_
  refine sy _ (zas rfl (e rfl rfl)) rfl rfl ?_
  refine s_end ?_
  refine v_seq ?_
  refine v_reg ?_
  refine sy (.t ⟨false, [.vp 1 3]⟩) (zfa tabOk rfl rfl rfl (e rfl rfl) rfl rfl) rfl rfl ?_
  refine sy (.t ⟨false, [.d (.sl 6 (v1.1.L.map Record.cells))]⟩) (zlv tabOk rfl (e rfl rfl) rfl rfl rfl) rfl rfl ?_
  refine sy _ (zmv rfl (e rfl rfl)) rfl rfl ?_
  obtain ⟨v2, ev2⟩ : ∃ v : List Int, v = n_impl_Addrs v1.1.L a2 := ⟨_, rfl⟩
  replace hr := bv_step ev2 hr
  have hfv2 : fitL fitU v2 := by rw [ev2]; exact (fitx_n_impl_Addrs v1.1.L a2 hfv1p1.L h2)
  refine sd (.t ⟨false, [.sr 2 1 0 ((v2.map encI).length) ((v2.map encI).length)]⟩) (zcall 2 (.t ⟨false, [.sr 2 1 0 ((v2.map encI).length) ((v2.map encI).length)]⟩) [(2, .row 1 (v2.map encI) true 1 0)] rfl (by rw [ev2]; exact (tr_n_impl_Addrs v1.1.L a2 hfv1p1.L h2) : Tr Tryz.prog 69 _ [⟨false, [.sl 1 (v2.map encI)]⟩]) (ar (e rfl rfl) (.d .nil) (ar (e rfl rfl) (.d .nil) .nil)) rfl rfl rfl) rfl rfl rfl rfl ?_
  refine sy _ (zas rfl (e rfl rfl)) rfl rfl ?_
  refine s_end ?_
  refine v_ret ?_
  subst hr
  exact post_ret (rv (.tmp (eg rfl rfl)) rfl (.sr rfl le_all take_all .nil) rfl .nil) (.ro (.ro (.ro .nil))) rfl
set_option maxHeartbeats 4000000 in
theorem fitx_n_impl_AddrsKnown (a0 : Cache) (a1 : Int) (a2 : ByteArray) (h0 : Cache.Fit a0) (h2 : fitS a2) : fitL fitU (n_impl_AddrsKnown a0 a1 a2) := by
  obtain ⟨r, hr⟩ : ∃ r, n_impl_AddrsKnown a0 a1 a2 = r := ⟨_, rfl⟩
  rw [hr]
  rw [n_impl_AddrsKnown] at hr
  obtain ⟨v1, ev1⟩ : ∃ v : Entry × Bool, v = n_impl_Look a0 a1 (⟨a2, 1⟩ : Quest) (-9223372036854775808) := ⟨_, rfl⟩
  replace hr := bv_step ev1 hr
  have hfv1p1 : Entry.Fit v1.1 := by rw [ev1]; exact (fitx_n_impl_Look a0 a1 (⟨a2, 1⟩ : Quest) (-9223372036854775808) h0 (⟨h2⟩))
  obtain ⟨v2, ev2⟩ : ∃ v : List Int, v = n_impl_Addrs v1.1.L a2 := ⟨_, rfl⟩
  replace hr := bv_step ev2 hr
  have hfv2 : fitL fitU v2 := by rw [ev2]; exact (fitx_n_impl_Addrs v1.1.L a2 hfv1p1.L h2)
  subst hr
  exact hfv2
def n_spec_AllAddrsL1 (a0 : Cache) (a1 : Int) (a2 : List ByteArray) : Nat → (List Int) → Nat → (List Int)
  | 0, _, _ => default
  | n + 1, l1, i => cond (decide (((i : Int)) < (((a2).length : Int)))) (atL (a2) (i) (fun x1 => bindv (n_spec_AddrsKnown a0 a1 x1) (fun v2 => n_spec_AllAddrsL1 a0 a1 a2 n (l1 ++ v2) (i + 1)))) (bindv (n_spec_Uniq l1) (fun v3 => v3))
def n_spec_AllAddrs (a0 : Cache) (a1 : Int) (a2 : List ByteArray) : List Int := n_spec_AllAddrsL1 a0 a1 a2 ((a2).length + 1) (([] : List Int)) 0
set_option maxHeartbeats 4000000 in
set_option maxRecDepth 20000 in
theorem tr_n_spec_AllAddrs (a0 : Cache) (a1 : Int) (a2 : List ByteArray) (h0 : Cache.Fit a0) (h2 : fitL fitS a2) : Tr Tryz.prog 21 [.ro ⟨true, [dI (a0.Cap), .sl 6 (a0.L.map Entry.cells)]⟩, .ro ⟨false, [dI (a1)]⟩, .ro ⟨false, [.sl 1 (a2.map encS)]⟩] [⟨false, [.sl 1 (((n_spec_AllAddrs a0 a1 a2)).map encI)]⟩] := by
  obtain ⟨r, hr⟩ : ∃ r, n_spec_AllAddrs a0 a1 a2 = r := ⟨_, rfl⟩
  rw [hr]
  rw [n_spec_AllAddrs] at hr
  refine tr_go tabOk Tryz.func21 rfl rfl rfl rfl rfl (ov := [(0, .t ⟨true, [.d (dI (a0.Cap)), .d (.sl 6 (a0.L.map Entry.cells))]⟩), (1, .t ⟨false, [.d (dI (a1))]⟩), (2, .t ⟨false, [.d (.sl 1 (a2.map encS))]⟩)]) (hv := []) rfl rfl ?_
  refine v_seq ?_
  refine v_reg ?_
  refine sr 0 (.t ⟨false, [.vp 0 0]⟩) (.var [.d (dI (a0.Cap)), .d (.sl 6 (a0.L.map Entry.cells))]) (zbx rfl (e rfl rfl) rfl rfl rfl) rfl rfl ?_
  refine sy _ (zas rfl (en 1)) rfl rfl ?_
  refine s_end ?_
  refine v_seq ?_
  refine v_reg ?_
  refine sbk 1 (.t ⟨false, [.sr 1 1 0 ((([] : List Int).map encI).length) ((([] : List Int).map encI).length)]⟩) (.row 1 (([] : List Int).map encI) true 1 0) (zbu tabOk rfl rfl rfl rfl .nil rfl rfl) rfl rfl ?_
  refine sy _ (zas rfl (e rfl rfl)) rfl rfl ?_
  refine s_end ?_
  refine v_seq ?_
  refine v_seq ?_
  refine v_reg ?_
  refine sy _ (zas rfl (ec rfl)) rfl rfl ?_
  refine s_end ?_
  refine v_block ?_
  refine v_lp (fun (q : Nat × List Int × Nat × Nat × Nat) => [(1, .t ⟨false, [.d (dI (a1))]⟩), (2, .t ⟨false, [.d (.sl 1 (a2.map encS))]⟩), (3, .t ⟨false, [.vp 0 0]⟩), (7, .t ⟨false, [.sr 1 q.2.2.2.1 0 (((q.2.1).map encI).length) (((q.2.1).map encI).length)]⟩), (8, .t ⟨false, [.d (dI (q.2.2.1 : Int))]⟩)]) (fun q => [(0, .var [.d (dI (a0.Cap)), .d (.sl 6 (a0.L.map Entry.cells))]), (1, .row 1 ((q.2.1).map encI) true q.2.2.2.1 q.2.2.2.2)]) (fun q => n_spec_AllAddrsL1 a0 a1 a2 q.1 q.2.1 q.2.2.1 = r ∧ (q.2.2.1 ≤ (a2).length) ∧ (q.2.2.1 + q.1 = (a2).length + 1) ∧ (q.2.1.length ≤ q.2.2.1 * 4194304)) (fun q => q.1) ((a2).length + 1, (([] : List Int) : List Int), (0 : Nat), 1, 0) ⟨hr, by (try dsimp only); (try simp only [List.length_nil, List.length_cons, List.length_replicate]); first | done | omega | exact Nat.zero_le _, by (try dsimp only); (try simp only [List.length_nil, List.length_cons, List.length_replicate]); first | done | omega | exact Nat.zero_le _, by (try dsimp only); (try simp only [List.length_nil, List.length_cons, List.length_replicate]); first | done | omega | exact Nat.zero_le _⟩ ⟨rfl, rfl, rfl, rfl, rfl, trivial⟩ ⟨rfl, rfl, trivial⟩ rfl (fun q hq => ?_)
  obtain ⟨n, l1, i, g1, w1⟩ := q
  obtain ⟨hr, hi1x0, hi1x1, hi1x2⟩ := hq
  dsimp only at hr hi1x0 hi1x1 hi1x2
  show VWp _ _ _ (mk [(1, .t ⟨false, [.d (dI (a1))]⟩), (2, .t ⟨false, [.d (.sl 1 (a2.map encS))]⟩), (3, .t ⟨false, [.vp 0 0]⟩), (7, .t ⟨false, [.sr 1 g1 0 (((l1).map encI).length) (((l1).map encI).length)]⟩), (8, .t ⟨false, [.d (dI (i : Int))]⟩)] _ [(0, .var [.d (dI (a0.Cap)), .d (.sl 6 (a0.L.map Entry.cells))]), (1, .row 1 ((l1).map encI) true g1 w1)])
  rcases n with _ | n
  · exfalso; omega
  rw [n_spec_AllAddrsL1] at hr
  refine v_seq ?_
  refine v_seq ?_
  refine v_reg ?_
  refine sy _ (zmv rfl (e rfl rfl)) rfl rfl ?_
  refine sy _ (zmv rfl (e rfl rfl)) rfl rfl ?_
  have hB1 := (h2).1
  refine sy (.t ⟨false, [.d (dI ((a2).length : Int))]⟩) (zlm tabOk rfl rfl (e rfl rfl) .d) rfl rfl ?_
  refine sy (.t ⟨false, [.d (dB (decide (((i : Int)) < (((a2).length : Int)))))]⟩) (y_bin rfl (e rfl rfl) (e rfl rfl) (fun _ => b_lss) rfl) rfl rfl ?_
  refine s_end ?_
  refine v_cond (e rfl rfl) (fun hb1 => ?_) fun hb1 => ?_
  · replace hr := bf_t hb1 hr
    have hb1p := dec_t hb1
    refine v_skip ?_
    refine v_seq ?_
    refine v_block ?_
    obtain ⟨x1, hx1⟩ : ∃ x, (a2)[i]? = some x := some_of_lt (by omega)
    replace hr := at_step hx1 hr
    have hfx1 := h2.2 _ (List.mem_of_getElem? hx1)
    obtain ⟨v2, ev2⟩ : ∃ v : List Int, v = n_spec_AddrsKnown a0 a1 x1 := ⟨_, rfl⟩
    replace hr := bv_step ev2 hr
    have hfv2 : fitL fitU v2 := by rw [ev2]; exact (fitx_n_spec_AddrsKnown a0 a1 x1 h0 hfx1)
    refine v_drw2 [⟨.t ⟨false, [.sr 1 g1 0 (((l1).map encI).length) (((l1).map encI).length)]⟩, [], [7], [], false⟩, ⟨.t ⟨true, [.d (dI (a0.Cap)), .d (.sl 6 (a0.L.map Entry.cells))]⟩, [], [3], [0], false⟩, ⟨.t ⟨false, [.d (dI (a1))]⟩, [], [1], [], false⟩, ⟨.t ⟨false, [.d (.sl 1 (a2.map encS))]⟩, [], [2], [], false⟩, ⟨.t ⟨false, [.d (dI (i : Int))]⟩, [], [8], [], false⟩, ⟨.t ⟨false, [.fe 1 (a2.map encS) i 0]⟩, [], [19, 20], [], false⟩, ⟨.t ⟨false, [.d (dS (x1))]⟩, [], [21], [], false⟩, ⟨.t ⟨false, [.d (.sl 1 (v2.map encI))]⟩, [], [17, 18, 22], [], false⟩] mixed (.c rfl (.c rfl (.c rfl (.c rfl (.c rfl (.c rfl (.c rfl (.c rfl .nil)))))))) (.s rfl (.s rfl (.s rfl (.s rfl (.s rfl (.s rfl (.s rfl (.s rfl .nil)))))))) (by kernel_rfl) (by kernel_rfl) ⟨gN rfl rfl (fun t h A => by exact dy (zmv rfl (A.e rfl rfl rfl))), gN rfl rfl (fun t h A => by exact dy (zlv tabOk rfl (A.e rfl rfl rfl) (A.h rfl rfl) rfl rfl)), gN rfl rfl (fun t h A => by exact dy (zmv rfl (A.e rfl rfl rfl))), gN rfl rfl (fun t h A => by exact dy (zmv rfl (A.e rfl rfl rfl))), gN rfl rfl (fun t h A => by exact dy (zmv rfl (A.e rfl rfl rfl))), gN rfl rfl (fun t h A => by exact dy (zix tabOk rfl rfl rfl (A.e rfl rfl rfl) (A.e rfl rfl rfl) (ltm_of_some hx1))), gN rfl rfl (fun t h A => by exact dy (zle tabOk rfl (A.e rfl rfl rfl) (getm hx1) rfl rfl)), gN rfl rfl (fun t h A => by exact zcd (.t ⟨false, [.d (.sl 1 (v2.map encI))]⟩) rfl (by rw [ev2]; exact (tr_n_spec_AddrsKnown a0 a1 x1 h0 hfx1) : Tr Tryz.prog 39 _ [⟨false, [.sl 1 (v2.map encI)]⟩]) (ar (A.e rfl rfl rfl) (.d (.d .nil)) (ar (A.e rfl rfl rfl) (.d .nil) (ar (A.e rfl rfl rfl) (.d .nil) .nil))) rfl), trivial⟩ ?_
    have hB3 := (hfv2).1
    refine sa 1 (.t ⟨false, [.sr 1 (g1 + 1) 0 (((l1 ++ v2).map encI).length) (((l1 ++ v2).map encI).length)]⟩) (.row 1 ((l1 ++ v2).map encI) true (g1 + 1) (w1 + 1)) (zap tabOk rfl rfl rfl rfl (e rfl rfl) rfl rfl (e rfl rfl) (.d (flat_I _)) (ap_bigI (by simp only [List.length_map, List.length_cons, List.length_nil]; omega) rfl) map_app len_app) rfl rfl ?_
    refine sy _ (zas rfl (e rfl rfl)) rfl rfl ?_
    refine s_end ?_
    refine blk_norm ?_
    refine v_reg ?_
    refine sy _ (zmv rfl (e rfl rfl)) rfl rfl ?_
    refine sy (.t ⟨false, [.d (dI (i + 1 : Int))]⟩) (y_bin rfl (e rfl rfl) (ec rfl) (fun _ => b_addn (by omega) (by omega)) rfl) rfl rfl ?_
    refine sy _ (zas rfl (e rfl rfl)) rfl rfl ?_
    refine s_end ?_
    exact lp_next (n, l1 ++ v2, i + 1, g1 + 1, w1 + 1) ⟨hr, by (try simp only [List.length_append, List.length_cons, List.length_nil, List.length_set]); first | done | omega, by (try simp only [List.length_append, List.length_cons, List.length_nil, List.length_set]); first | done | omega, by (try simp only [List.length_append, List.length_cons, List.length_nil, List.length_set]); first | done | omega⟩ (Nat.lt_succ_self _) ⟨rfl, rfl, rfl, rfl, rfl, trivial⟩ ⟨rfl, rfl, trivial⟩ rfl
  replace hr := bf_f hb1 hr
  have hb1p := dec_f hb1
  refine v_exit ?_
  refine then_exit ?_
  refine loop_exit ?_
  refine blk_hit ?_
  refine v_seq ?_
  refine v_reg ?_
  refine sy _ (zmv rfl (e rfl rfl)) rfl rfl ?_
  obtain ⟨v3, ev3⟩ : ∃ v : List Int, v = n_spec_Uniq l1 := ⟨_, rfl⟩
  replace hr := bv_step ev3 hr
  refine sd (.t ⟨false, [.sr 2 1 0 ((v3.map encI).length) ((v3.map encI).length)]⟩) (zcall 2 (.t ⟨false, [.sr 2 1 0 ((v3.map encI).length) ((v3.map encI).length)]⟩) [(2, .row 1 (v3.map encI) true 1 0)] rfl (by rw [ev3]; exact (tr_n_spec_Uniq l1 ⟨by (try simp only [List.length_append, List.length_cons, List.length_nil]); omega, trivial⟩) : Tr Tryz.prog 19 _ [⟨false, [.sl 1 (v3.map encI)]⟩]) (ar (e rfl rfl) (.sr rfl le_all take_all .nil) .nil) rfl rfl rfl) rfl rfl rfl rfl ?_
  refine sy _ (zas rfl (e rfl rfl)) rfl rfl ?_
  refine s_end ?_
  refine v_ret ?_
  subst hr
  exact post_ret (rv (.tmp (eg rfl rfl)) rfl (.sr rfl le_all take_all .nil) rfl .nil) (.ro (.ro (.ro .nil))) rfl
def n_impl_AllAddrsL1 (a0 : Cache) (a1 : Int) (a2 : List ByteArray) : Nat → (List Int) → Nat → (List Int)
  | 0, _, _ => default
  | n + 1, l1, z13 => cond (decide (((z13 : Int)) < (((a2).length : Int)))) (atL (a2) (z13) (fun x1 => bindv (n_impl_AddrsKnown a0 a1 x1) (fun v2 => n_impl_AllAddrsL1 a0 a1 a2 n (l1 ++ v2) (z13 + 1)))) (bindv (n_impl_Uniq l1) (fun v3 => v3))
def n_impl_AllAddrs (a0 : Cache) (a1 : Int) (a2 : List ByteArray) : List Int := n_impl_AllAddrsL1 a0 a1 a2 ((a2).length + 1) (([] : List Int)) 0
set_option maxHeartbeats 4000000 in
set_option maxRecDepth 20000 in
theorem tr_n_impl_AllAddrs (a0 : Cache) (a1 : Int) (a2 : List ByteArray) (h0 : Cache.Fit a0) (h2 : fitL fitS a2) : Tr Tryz.prog 28 [.ro ⟨true, [dI (a0.Cap), .sl 6 (a0.L.map Entry.cells)]⟩, .ro ⟨false, [dI (a1)]⟩, .ro ⟨false, [.sl 1 (a2.map encS)]⟩] [⟨false, [.sl 1 (((n_impl_AllAddrs a0 a1 a2)).map encI)]⟩] := by
  obtain ⟨r, hr⟩ : ∃ r, n_impl_AllAddrs a0 a1 a2 = r := ⟨_, rfl⟩
  rw [hr]
  rw [n_impl_AllAddrs] at hr
  refine tr_go tabOk Tryz.func28 rfl rfl rfl rfl rfl (ov := [(0, .t ⟨true, [.d (dI (a0.Cap)), .d (.sl 6 (a0.L.map Entry.cells))]⟩), (1, .t ⟨false, [.d (dI (a1))]⟩), (2, .t ⟨false, [.d (.sl 1 (a2.map encS))]⟩)]) (hv := []) rfl rfl ?_
  refine v_seq ?_
  refine v_reg ?_
  refine sr 0 (.t ⟨false, [.vp 0 0]⟩) (.var [.d (dI (a0.Cap)), .d (.sl 6 (a0.L.map Entry.cells))]) (zbx rfl (e rfl rfl) rfl rfl rfl) rfl rfl ?_
  refine sy _ (zas rfl (en 1)) rfl rfl ?_
  refine s_end ?_
  refine v_seq ?_
  refine v_reg ?_
  refine sbk 1 (.t ⟨false, [.sr 1 1 0 ((([] : List Int).map encI).length) ((([] : List Int).map encI).length)]⟩) (.row 1 (([] : List Int).map encI) true 1 0) (zbu tabOk rfl rfl rfl rfl .nil rfl rfl) rfl rfl ?_
  refine sy _ (zas rfl (e rfl rfl)) rfl rfl ?_
  refine s_end ?_
  refine v_seq ?_
  refine v_seq ?_
  refine v_reg ?_
  refine sy _ (zmv rfl (e rfl rfl)) rfl rfl ?_
  have hB1 := (h2).1
  refine sy (.t ⟨false, [.d (dI ((a2).length : Int))]⟩) (zlm tabOk rfl rfl (e rfl rfl) .d) rfl rfl ?_
  refine sy _ (zmv rfl (ec rfl)) rfl rfl ?_
  refine s_end ?_
  refine v_block ?_
  refine v_lp (fun (q : Nat × List Int × Nat × Nat × Nat) => [(1, .t ⟨false, [.d (dI (a1))]⟩), (3, .t ⟨false, [.vp 0 0]⟩), (7, .t ⟨false, [.sr 1 q.2.2.2.1 0 (((q.2.1).map encI).length) (((q.2.1).map encI).length)]⟩), (11, .t ⟨false, [.d (.sl 1 (a2.map encS))]⟩), (12, .t ⟨false, [.d (dI ((a2).length : Int))]⟩), (13, .t ⟨false, [.d (dI (q.2.2.1 : Int))]⟩)]) (fun q => [(0, .var [.d (dI (a0.Cap)), .d (.sl 6 (a0.L.map Entry.cells))]), (1, .row 1 ((q.2.1).map encI) true q.2.2.2.1 q.2.2.2.2)]) (fun q => n_impl_AllAddrsL1 a0 a1 a2 q.1 q.2.1 q.2.2.1 = r ∧ (q.2.2.1 ≤ (a2).length) ∧ (q.2.2.1 + q.1 = (a2).length + 1) ∧ (q.2.1.length ≤ q.2.2.1 * 4194304)) (fun q => q.1) ((a2).length + 1, (([] : List Int) : List Int), (0 : Nat), 1, 0) ⟨hr, by (try dsimp only); (try simp only [List.length_nil, List.length_cons, List.length_replicate]); first | done | omega | exact Nat.zero_le _, by (try dsimp only); (try simp only [List.length_nil, List.length_cons, List.length_replicate]); first | done | omega | exact Nat.zero_le _, by (try dsimp only); (try simp only [List.length_nil, List.length_cons, List.length_replicate]); first | done | omega | exact Nat.zero_le _⟩ ⟨rfl, rfl, rfl, rfl, rfl, rfl, trivial⟩ ⟨rfl, rfl, trivial⟩ rfl (fun q hq => ?_)
  obtain ⟨n, l1, z13, g1, w1⟩ := q
  obtain ⟨hr, hi1x0, hi1x1, hi1x2⟩ := hq
  dsimp only at hr hi1x0 hi1x1 hi1x2
  show VWp _ _ _ (mk [(1, .t ⟨false, [.d (dI (a1))]⟩), (3, .t ⟨false, [.vp 0 0]⟩), (7, .t ⟨false, [.sr 1 g1 0 (((l1).map encI).length) (((l1).map encI).length)]⟩), (11, .t ⟨false, [.d (.sl 1 (a2.map encS))]⟩), (12, .t ⟨false, [.d (dI ((a2).length : Int))]⟩), (13, .t ⟨false, [.d (dI (z13 : Int))]⟩)] _ [(0, .var [.d (dI (a0.Cap)), .d (.sl 6 (a0.L.map Entry.cells))]), (1, .row 1 ((l1).map encI) true g1 w1)])
  rcases n with _ | n
  · exfalso; omega
  rw [n_impl_AllAddrsL1] at hr
  refine v_seq ?_
  refine v_reg ?_
  refine sy (.t ⟨false, [.d (dB (decide (((z13 : Int)) < (((a2).length : Int)))))]⟩) (y_bin rfl (e rfl rfl) (e rfl rfl) (fun _ => b_lss) rfl) rfl rfl ?_
  refine s_end ?_
  refine v_seq ?_
  refine v_cond (e rfl rfl) (fun hb1 => ?_) fun hb1 => ?_
  · replace hr := bf_t hb1 hr
    have hb1p := dec_t hb1
    refine v_skip ?_
    refine v_seq ?_
    refine v_block ?_
    refine v_seq ?_
    refine v_reg ?_
    obtain ⟨x1, hx1⟩ : ∃ x, (a2)[z13]? = some x := some_of_lt (by omega)
    replace hr := at_step hx1 hr
    have hfx1 := h2.2 _ (List.mem_of_getElem? hx1)
    refine sy (.t ⟨false, [.fe 1 (a2.map encS) z13 0]⟩) (zix tabOk rfl rfl rfl (e rfl rfl) (e rfl rfl) (ltm_of_some hx1)) rfl rfl ?_
    refine sy (.t ⟨false, [.d (dS (x1))]⟩) (zle tabOk rfl (e rfl rfl) (getm hx1) rfl rfl) rfl rfl ?_
    refine sy _ (zas rfl (e rfl rfl)) rfl rfl ?_
    refine s_end ?_
    refine v_reg ?_
    refine sy _ (zmv rfl (e rfl rfl)) rfl rfl ?_
    refine sy (.t ⟨true, [.d (dI (a0.Cap)), .d (.sl 6 (a0.L.map Entry.cells))]⟩) (zlv tabOk rfl (e rfl rfl) rfl rfl rfl) rfl rfl ?_
    refine sy _ (zmv rfl (e rfl rfl)) rfl rfl ?_
    refine sy _ (zmv rfl (e rfl rfl)) rfl rfl ?_
    obtain ⟨v2, ev2⟩ : ∃ v : List Int, v = n_impl_AddrsKnown a0 a1 x1 := ⟨_, rfl⟩
    replace hr := bv_step ev2 hr
    have hfv2 : fitL fitU v2 := by rw [ev2]; exact (fitx_n_impl_AddrsKnown a0 a1 x1 h0 hfx1)
    refine sd (.t ⟨false, [.d (.sl 1 (v2.map encI))]⟩) (zcd (.t ⟨false, [.d (.sl 1 (v2.map encI))]⟩) rfl (by rw [ev2]; exact (tr_n_impl_AddrsKnown a0 a1 x1 h0 hfx1) : Tr Tryz.prog 46 _ [⟨false, [.sl 1 (v2.map encI)]⟩]) (ar (e rfl rfl) (.d (.d .nil)) (ar (e rfl rfl) (.d .nil) (ar (e rfl rfl) (.d .nil) .nil))) rfl) rfl rfl rfl rfl ?_
    have hB3 := (hfv2).1
    refine sa 1 (.t ⟨false, [.sr 1 (g1 + 1) 0 (((l1 ++ v2).map encI).length) (((l1 ++ v2).map encI).length)]⟩) (.row 1 ((l1 ++ v2).map encI) true (g1 + 1) (w1 + 1)) (zap tabOk rfl rfl rfl rfl (e rfl rfl) rfl rfl (e rfl rfl) (.d (flat_I _)) (ap_bigI (by simp only [List.length_map, List.length_cons, List.length_nil]; omega) rfl) map_app len_app) rfl rfl ?_
    refine sy _ (zas rfl (e rfl rfl)) rfl rfl ?_
    refine s_end ?_
    refine blk_norm ?_
    refine v_reg ?_
    refine sy (.t ⟨false, [.d (dI (z13 + 1 : Int))]⟩) (y_bin rfl (e rfl rfl) (ec rfl) (fun _ => b_addn (by omega) (by omega)) rfl) rfl rfl ?_
    refine sy _ (zmv rfl (e rfl rfl)) rfl rfl ?_
    refine s_end ?_
    exact lp_next (n, l1 ++ v2, z13 + 1, g1 + 1, w1 + 1) ⟨hr, by (try simp only [List.length_append, List.length_cons, List.length_nil, List.length_set]); first | done | omega, by (try simp only [List.length_append, List.length_cons, List.length_nil, List.length_set]); first | done | omega, by (try simp only [List.length_append, List.length_cons, List.length_nil, List.length_set]); first | done | omega⟩ (Nat.lt_succ_self _) ⟨rfl, rfl, rfl, rfl, rfl, rfl, trivial⟩ ⟨rfl, rfl, trivial⟩ rfl
  replace hr := bf_f hb1 hr
  have hb1p := dec_f hb1
  refine v_exit ?_
  refine then_exit ?_
  refine loop_exit ?_
  refine blk_hit ?_
  refine v_seq ?_
  refine v_reg ?_
  refine sy _ (zmv rfl (e rfl rfl)) rfl rfl ?_
  obtain ⟨v3, ev3⟩ : ∃ v : List Int, v = n_impl_Uniq l1 := ⟨_, rfl⟩
  replace hr := bv_step ev3 hr
  refine sd (.t ⟨false, [.sr 2 1 0 ((v3.map encI).length) ((v3.map encI).length)]⟩) (zcall 2 (.t ⟨false, [.sr 2 1 0 ((v3.map encI).length) ((v3.map encI).length)]⟩) [(2, .row 1 (v3.map encI) true 1 0)] rfl (by rw [ev3]; exact (tr_n_impl_Uniq l1 ⟨by (try simp only [List.length_append, List.length_cons, List.length_nil]); omega, trivial⟩) : Tr Tryz.prog 26 _ [⟨false, [.sl 1 (v3.map encI)]⟩]) (ar (e rfl rfl) (.sr rfl le_all take_all .nil) .nil) rfl rfl rfl) rfl rfl rfl rfl ?_
  refine sy _ (zas rfl (e rfl rfl)) rfl rfl ?_
  refine s_end ?_
  refine v_ret ?_
  subst hr
  exact post_ret (rv (.tmp (eg rfl rfl)) rfl (.sr rfl le_all take_all .nil) rfl .nil) (.ro (.ro (.ro .nil))) rfl
def n_spec_LackingL1 (a0 : Cache) (a1 : Int) (a2 : List ByteArray) : Nat → (List ByteArray) → Nat → (List ByteArray)
  | 0, _, _ => default
  | n + 1, l1, i => cond (decide (((i : Int)) < (((a2).length : Int)))) (atL (a2) (i) (fun x1 => bindv (n_spec_AddrsKnown a0 a1 x1) (fun v2 => cond (decide ((((v2).length : Int)) = (0))) (n_spec_LackingL1 a0 a1 a2 n (l1 ++ ([x1] : List ByteArray)) (i + 1)) (n_spec_LackingL1 a0 a1 a2 n l1 (i + 1))))) (l1)
def n_spec_Lacking (a0 : Cache) (a1 : Int) (a2 : List ByteArray) : List ByteArray := n_spec_LackingL1 a0 a1 a2 ((a2).length + 1) (([] : List ByteArray)) 0
set_option maxHeartbeats 4000000 in
set_option maxRecDepth 20000 in
theorem tr_n_spec_Lacking (a0 : Cache) (a1 : Int) (a2 : List ByteArray) (h0 : Cache.Fit a0) (h2 : fitL fitS a2) : Tr Tryz.prog 23 [.ro ⟨true, [dI (a0.Cap), .sl 6 (a0.L.map Entry.cells)]⟩, .ro ⟨false, [dI (a1)]⟩, .ro ⟨false, [.sl 1 (a2.map encS)]⟩] [⟨false, [.sl 1 (((n_spec_Lacking a0 a1 a2)).map encS)]⟩] := by
  obtain ⟨r, hr⟩ : ∃ r, n_spec_Lacking a0 a1 a2 = r := ⟨_, rfl⟩
  rw [hr]
  rw [n_spec_Lacking] at hr
  refine tr_go tabOk Tryz.func23 rfl rfl rfl rfl rfl (ov := [(0, .t ⟨true, [.d (dI (a0.Cap)), .d (.sl 6 (a0.L.map Entry.cells))]⟩), (1, .t ⟨false, [.d (dI (a1))]⟩), (2, .t ⟨false, [.d (.sl 1 (a2.map encS))]⟩)]) (hv := []) rfl rfl ?_
  refine v_seq ?_
  refine v_reg ?_
  refine sr 0 (.t ⟨false, [.vp 0 0]⟩) (.var [.d (dI (a0.Cap)), .d (.sl 6 (a0.L.map Entry.cells))]) (zbx rfl (e rfl rfl) rfl rfl rfl) rfl rfl ?_
  refine sy _ (zas rfl (en 1)) rfl rfl ?_
  refine s_end ?_
  refine v_seq ?_
  refine v_reg ?_
  refine sbk 1 (.t ⟨false, [.sr 1 1 0 ((([] : List ByteArray).map encS).length) ((([] : List ByteArray).map encS).length)]⟩) (.row 1 (([] : List ByteArray).map encS) true 1 0) (zbu tabOk rfl rfl rfl rfl .nil rfl rfl) rfl rfl ?_
  refine sy _ (zas rfl (e rfl rfl)) rfl rfl ?_
  refine s_end ?_
  refine v_seq ?_
  refine v_seq ?_
  refine v_reg ?_
  refine sy _ (zas rfl (ec rfl)) rfl rfl ?_
  refine s_end ?_
  refine v_block ?_
  refine v_lp (fun (q : Nat × List ByteArray × Nat × Nat × Nat) => [(1, .t ⟨false, [.d (dI (a1))]⟩), (2, .t ⟨false, [.d (.sl 1 (a2.map encS))]⟩), (3, .t ⟨false, [.vp 0 0]⟩), (7, .t ⟨false, [.sr 1 q.2.2.2.1 0 (((q.2.1).map encS).length) (((q.2.1).map encS).length)]⟩), (8, .t ⟨false, [.d (dI (q.2.2.1 : Int))]⟩)]) (fun q => [(0, .var [.d (dI (a0.Cap)), .d (.sl 6 (a0.L.map Entry.cells))]), (1, .row 1 ((q.2.1).map encS) true q.2.2.2.1 q.2.2.2.2)]) (fun q => n_spec_LackingL1 a0 a1 a2 q.1 q.2.1 q.2.2.1 = r ∧ (q.2.2.1 ≤ (a2).length) ∧ (q.2.2.1 + q.1 = (a2).length + 1) ∧ (q.2.1.length ≤ q.2.2.1) ∧ (fitL fitS q.2.1)) (fun q => q.1) ((a2).length + 1, (([] : List ByteArray) : List ByteArray), (0 : Nat), 1, 0) ⟨hr, by (try dsimp only); (try simp only [List.length_nil, List.length_cons, List.length_replicate]); first | done | omega | exact Nat.zero_le _, by (try dsimp only); (try simp only [List.length_nil, List.length_cons, List.length_replicate]); first | done | omega | exact Nat.zero_le _, by (try dsimp only); (try simp only [List.length_nil, List.length_cons, List.length_replicate]); first | done | omega | exact Nat.zero_le _, fitL_nil⟩ ⟨rfl, rfl, rfl, rfl, rfl, trivial⟩ ⟨rfl, rfl, trivial⟩ rfl (fun q hq => ?_)
  obtain ⟨n, l1, i, g1, w1⟩ := q
  obtain ⟨hr, hi1x0, hi1x1, hi1x2, hi1x3⟩ := hq
  dsimp only at hr hi1x0 hi1x1 hi1x2 hi1x3
  show VWp _ _ _ (mk [(1, .t ⟨false, [.d (dI (a1))]⟩), (2, .t ⟨false, [.d (.sl 1 (a2.map encS))]⟩), (3, .t ⟨false, [.vp 0 0]⟩), (7, .t ⟨false, [.sr 1 g1 0 (((l1).map encS).length) (((l1).map encS).length)]⟩), (8, .t ⟨false, [.d (dI (i : Int))]⟩)] _ [(0, .var [.d (dI (a0.Cap)), .d (.sl 6 (a0.L.map Entry.cells))]), (1, .row 1 ((l1).map encS) true g1 w1)])
  rcases n with _ | n
  · exfalso; omega
  rw [n_spec_LackingL1] at hr
  refine v_seq ?_
  refine v_seq ?_
  refine v_reg ?_
  refine sy _ (zmv rfl (e rfl rfl)) rfl rfl ?_
  refine sy _ (zmv rfl (e rfl rfl)) rfl rfl ?_
  have hB1 := (h2).1
  refine sy (.t ⟨false, [.d (dI ((a2).length : Int))]⟩) (zlm tabOk rfl rfl (e rfl rfl) .d) rfl rfl ?_
  refine sy (.t ⟨false, [.d (dB (decide (((i : Int)) < (((a2).length : Int)))))]⟩) (y_bin rfl (e rfl rfl) (e rfl rfl) (fun _ => b_lss) rfl) rfl rfl ?_
  refine s_end ?_
  refine v_cond (e rfl rfl) (fun hb1 => ?_) fun hb1 => ?_
  · replace hr := bf_t hb1 hr
    have hb1p := dec_t hb1
    refine v_skip ?_
    refine v_seq ?_
    refine v_block ?_
    refine v_seq ?_
    obtain ⟨x1, hx1⟩ : ∃ x, (a2)[i]? = some x := some_of_lt (by omega)
    replace hr := at_step hx1 hr
    have hfx1 := h2.2 _ (List.mem_of_getElem? hx1)
    obtain ⟨v2, ev2⟩ : ∃ v : List Int, v = n_spec_AddrsKnown a0 a1 x1 := ⟨_, rfl⟩
    replace hr := bv_step ev2 hr
    have hfv2 : fitL fitU v2 := by rw [ev2]; exact (fitx_n_spec_AddrsKnown a0 a1 x1 h0 hfx1)
    have hB2 := (hfv2).1
    refine v_drw2 [⟨.t ⟨true, [.d (dI (a0.Cap)), .d (.sl 6 (a0.L.map Entry.cells))]⟩, [], [3], [0], false⟩, ⟨.t ⟨false, [.d (dI (a1))]⟩, [], [1], [], false⟩, ⟨.t ⟨false, [.d (.sl 1 (a2.map encS))]⟩, [], [2], [], false⟩, ⟨.t ⟨false, [.d (dI (i : Int))]⟩, [], [8], [], false⟩, ⟨.t ⟨false, [.fe 1 (a2.map encS) i 0]⟩, [], [18, 19], [], false⟩, ⟨.t ⟨false, [.d (dS (x1))]⟩, [], [20], [], false⟩, ⟨.t ⟨false, [.d (.sl 1 (v2.map encI))]⟩, [], [16, 17, 21], [], false⟩, ⟨.t ⟨false, [.d (dI ((v2).length : Int))]⟩, [], [22], [], false⟩, ⟨.t ⟨false, [.d (dB (decide ((((v2).length : Int)) = (0))))]⟩, [], [23], [], false⟩] mixed (.c rfl (.c rfl (.c rfl (.c rfl (.c rfl (.c rfl (.c rfl (.c rfl (.c rfl .nil))))))))) (.s rfl (.s rfl (.s rfl (.s rfl (.s rfl (.s rfl (.s rfl (.s rfl (.s rfl .nil))))))))) (by kernel_rfl) (by kernel_rfl) ⟨gN rfl rfl (fun t h A => by exact dy (zlv tabOk rfl (A.e rfl rfl rfl) (A.h rfl rfl) rfl rfl)), gN rfl rfl (fun t h A => by exact dy (zmv rfl (A.e rfl rfl rfl))), gN rfl rfl (fun t h A => by exact dy (zmv rfl (A.e rfl rfl rfl))), gN rfl rfl (fun t h A => by exact dy (zmv rfl (A.e rfl rfl rfl))), gN rfl rfl (fun t h A => by exact dy (zix tabOk rfl rfl rfl (A.e rfl rfl rfl) (A.e rfl rfl rfl) (ltm_of_some hx1))), gN rfl rfl (fun t h A => by exact dy (zle tabOk rfl (A.e rfl rfl rfl) (getm hx1) rfl rfl)), gN rfl rfl (fun t h A => by exact zcd (.t ⟨false, [.d (.sl 1 (v2.map encI))]⟩) rfl (by rw [ev2]; exact (tr_n_spec_AddrsKnown a0 a1 x1 h0 hfx1) : Tr Tryz.prog 39 _ [⟨false, [.sl 1 (v2.map encI)]⟩]) (ar (A.e rfl rfl rfl) (.d (.d .nil)) (ar (A.e rfl rfl rfl) (.d .nil) (ar (A.e rfl rfl rfl) (.d .nil) .nil))) rfl), gN rfl rfl (fun t h A => by exact dy (zlm tabOk rfl rfl (A.e rfl rfl rfl) .d)), gN rfl rfl (fun t h A => by exact dy (y_bin rfl (A.e rfl rfl rfl) (ec rfl) (fun _ => b_eql) rfl)), trivial⟩ ?_
    refine s_end ?_
    refine v_cond (e rfl rfl) (fun hb2 => ?_) fun hb2 => ?_
    · replace hr := bf_t hb2 hr
      have hb2p := dec_t hb2
      refine v_reg ?_
      refine sy _ (zmv rfl (e rfl rfl)) rfl rfl ?_
      refine sy _ (zmv rfl (e rfl rfl)) rfl rfl ?_
      refine sy _ (zmv rfl (e rfl rfl)) rfl rfl ?_
      refine sy (.t ⟨false, [.fe 1 (a2.map encS) i 0]⟩) (zix tabOk rfl rfl rfl (e rfl rfl) (e rfl rfl) (ltm_of_some hx1)) rfl rfl ?_
      refine sy (.t ⟨false, [.d (dS (x1))]⟩) (zle tabOk rfl (e rfl rfl) (getm hx1) rfl rfl) rfl rfl ?_
      refine sbk 4 (.t ⟨false, [.sr 4 1 0 ((([x1] : List ByteArray).map encS).length) ((([x1] : List ByteArray).map encS).length)]⟩) (.row 1 (([x1] : List ByteArray).map encS) true 1 0) (zbu tabOk rfl rfl rfl rfl (pd0 (e rfl rfl) rfl (.lf .nil) rfl .nil) rfl rfl) rfl rfl ?_
      have hB3 := (hi1x3).1
      refine sa 1 (.t ⟨false, [.sr 1 (g1 + 1) 0 (((l1 ++ ([x1] : List ByteArray)).map encS).length) (((l1 ++ ([x1] : List ByteArray)).map encS).length)]⟩) (.row 1 ((l1 ++ ([x1] : List ByteArray)).map encS) true (g1 + 1) (w1 + 1)) (zap tabOk rfl rfl rfl rfl (e rfl rfl) rfl rfl (e rfl rfl) (.flat rfl le_all take_all (flat_S _)) (ap_big (by simp only [List.length_map, List.length_cons, List.length_nil]; omega) rfl) map_app len_app) rfl rfl ?_
      refine sy _ (zas rfl (e rfl rfl)) rfl rfl ?_
      refine s_end ?_
      refine blk_norm ?_
      refine v_reg ?_
      refine sy _ (zmv rfl (e rfl rfl)) rfl rfl ?_
      refine sy (.t ⟨false, [.d (dI (i + 1 : Int))]⟩) (y_bin rfl (e rfl rfl) (ec rfl) (fun _ => b_addn (by omega) (by omega)) rfl) rfl rfl ?_
      refine sy _ (zas rfl (e rfl rfl)) rfl rfl ?_
      refine s_end ?_
      exact lp_next (n, l1 ++ ([x1] : List ByteArray), i + 1, g1 + 1, w1 + 1) ⟨hr, by (try simp only [List.length_append, List.length_cons, List.length_nil, List.length_set]); first | done | omega, by (try simp only [List.length_append, List.length_cons, List.length_nil, List.length_set]); first | done | omega, by (try simp only [List.length_append, List.length_cons, List.length_nil, List.length_set]); first | done | omega, fitL_snoc hi1x3 (by omega) hfx1⟩ (Nat.lt_succ_self _) ⟨rfl, rfl, rfl, rfl, rfl, trivial⟩ ⟨rfl, rfl, trivial⟩ rfl
    replace hr := bf_f hb2 hr
    have hb2p := dec_f hb2
    refine v_skip ?_
    refine blk_norm ?_
    refine v_reg ?_
    refine sy _ (zmv rfl (e rfl rfl)) rfl rfl ?_
    refine sy (.t ⟨false, [.d (dI (i + 1 : Int))]⟩) (y_bin rfl (e rfl rfl) (ec rfl) (fun _ => b_addn (by omega) (by omega)) rfl) rfl rfl ?_
    refine sy _ (zas rfl (e rfl rfl)) rfl rfl ?_
    refine s_end ?_
    exact lp_next (n, l1, i + 1, g1, w1) ⟨hr, by (try simp only [List.length_append, List.length_cons, List.length_nil, List.length_set]); first | done | omega, by (try simp only [List.length_append, List.length_cons, List.length_nil, List.length_set]); first | done | omega, by (try simp only [List.length_append, List.length_cons, List.length_nil, List.length_set]); first | done | omega, hi1x3⟩ (Nat.lt_succ_self _) ⟨rfl, rfl, rfl, rfl, rfl, trivial⟩ ⟨rfl, rfl, trivial⟩ rfl
  replace hr := bf_f hb1 hr
  have hb1p := dec_f hb1
  refine v_exit ?_
  refine then_exit ?_
  refine loop_exit ?_
  refine blk_hit ?_
  refine v_seq ?_
  refine v_reg ?_
  refine sy _ (zmv rfl (e rfl rfl)) rfl rfl ?_
  refine sy _ (zas rfl (e rfl rfl)) rfl rfl ?_
  refine s_end ?_
  refine v_ret ?_
  subst hr
  exact post_ret (rv (.tmp (eg rfl rfl)) rfl (.sr rfl le_all take_all .nil) rfl .nil) (.ro (.ro (.ro .nil))) rfl
set_option maxHeartbeats 4000000 in
theorem fitx_n_spec_Lacking (a0 : Cache) (a1 : Int) (a2 : List ByteArray) (h0 : Cache.Fit a0) (h2 : fitL fitS a2) : fitL fitS (n_spec_Lacking a0 a1 a2) := by
  obtain ⟨r, hr⟩ : ∃ r, n_spec_Lacking a0 a1 a2 = r := ⟨_, rfl⟩
  rw [hr]
  rw [n_spec_Lacking] at hr
  refine fx_lp (fun (q : Nat × List ByteArray × Nat × Nat × Nat) => n_spec_LackingL1 a0 a1 a2 q.1 q.2.1 q.2.2.1 = r ∧ (q.2.2.1 ≤ (a2).length) ∧ (q.2.2.1 + q.1 = (a2).length + 1) ∧ (q.2.1.length ≤ q.2.2.1) ∧ (fitL fitS q.2.1)) (fun q => q.1) ((a2).length + 1, (([] : List ByteArray) : List ByteArray), (0 : Nat), 1, 0) ⟨hr, by (try dsimp only); (try simp only [List.length_nil, List.length_cons, List.length_replicate]); first | done | omega | exact Nat.zero_le _, by (try dsimp only); (try simp only [List.length_nil, List.length_cons, List.length_replicate]); first | done | omega | exact Nat.zero_le _, by (try dsimp only); (try simp only [List.length_nil, List.length_cons, List.length_replicate]); first | done | omega | exact Nat.zero_le _, fitL_nil⟩ (fun q hq hn1 => ?_)
  obtain ⟨n, l1, i, g1, w1⟩ := q
  obtain ⟨hr, hi1x0, hi1x1, hi1x2, hi1x3⟩ := hq
  dsimp only at hr hi1x0 hi1x1 hi1x2 hi1x3
  rcases n with _ | n
  · exfalso; omega
  rw [n_spec_LackingL1] at hr
  have hB1 : (a2).length ≤ _ := (h2).1
  rcases Bool.eq_false_or_eq_true (decide (((i : Int)) < (((a2).length : Int)))) with hb1 | hb1
  · replace hr := bf_t hb1 hr
    have hb1p := dec_t hb1
    obtain ⟨x1, hx1⟩ : ∃ x, (a2)[i]? = some x := some_of_lt (by omega)
    replace hr := at_step hx1 hr
    have hfx1 := h2.2 _ (List.mem_of_getElem? hx1)
    obtain ⟨v2, ev2⟩ : ∃ v : List Int, v = n_spec_AddrsKnown a0 a1 x1 := ⟨_, rfl⟩
    replace hr := bv_step ev2 hr
    have hfv2 : fitL fitU v2 := by rw [ev2]; exact (fitx_n_spec_AddrsKnown a0 a1 x1 h0 hfx1)
    have hB2 : (v2).length ≤ _ := (hfv2).1
    rcases Bool.eq_false_or_eq_true (decide ((((v2).length : Int)) = (0))) with hb2 | hb2
    · replace hr := bf_t hb2 hr
      have hb2p := dec_t hb2
      have hB3 : (l1).length ≤ _ := (hi1x3).1
      exact hn1 (n, l1 ++ ([x1] : List ByteArray), i + 1, g1 + 1, w1 + 1) (Nat.lt_succ_self _) ⟨hr, by (try simp only [List.length_append, List.length_cons, List.length_nil, List.length_set]); first | done | omega, by (try simp only [List.length_append, List.length_cons, List.length_nil, List.length_set]); first | done | omega, by (try simp only [List.length_append, List.length_cons, List.length_nil, List.length_set]); first | done | omega, fitL_snoc hi1x3 (by omega) hfx1⟩
    replace hr := bf_f hb2 hr
    have hb2p := dec_f hb2
    exact hn1 (n, l1, i + 1, g1, w1) (Nat.lt_succ_self _) ⟨hr, by (try simp only [List.length_append, List.length_cons, List.length_nil, List.length_set]); first | done | omega, by (try simp only [List.length_append, List.length_cons, List.length_nil, List.length_set]); first | done | omega, by (try simp only [List.length_append, List.length_cons, List.length_nil, List.length_set]); first | done | omega, hi1x3⟩
  replace hr := bf_f hb1 hr
  have hb1p := dec_f hb1
  subst hr
  exact hi1x3
def n_impl_LackingL1 (a0 : Cache) (a1 : Int) (a2 : List ByteArray) : Nat → (List ByteArray) → Nat → (List ByteArray)
  | 0, _, _ => default
  | n + 1, l1, z13 => cond (decide (((z13 : Int)) < (((a2).length : Int)))) (atL (a2) (z13) (fun x1 => bindv (n_impl_AddrsKnown a0 a1 x1) (fun v2 => cond (decide ((((v2).length : Int)) = (0))) (n_impl_LackingL1 a0 a1 a2 n (l1 ++ ([x1] : List ByteArray)) (z13 + 1)) (n_impl_LackingL1 a0 a1 a2 n l1 (z13 + 1))))) (l1)
def n_impl_Lacking (a0 : Cache) (a1 : Int) (a2 : List ByteArray) : List ByteArray := n_impl_LackingL1 a0 a1 a2 ((a2).length + 1) (([] : List ByteArray)) 0
set_option maxHeartbeats 4000000 in
set_option maxRecDepth 20000 in
theorem tr_n_impl_Lacking (a0 : Cache) (a1 : Int) (a2 : List ByteArray) (h0 : Cache.Fit a0) (h2 : fitL fitS a2) : Tr Tryz.prog 30 [.ro ⟨true, [dI (a0.Cap), .sl 6 (a0.L.map Entry.cells)]⟩, .ro ⟨false, [dI (a1)]⟩, .ro ⟨false, [.sl 1 (a2.map encS)]⟩] [⟨false, [.sl 1 (((n_impl_Lacking a0 a1 a2)).map encS)]⟩] := by
  obtain ⟨r, hr⟩ : ∃ r, n_impl_Lacking a0 a1 a2 = r := ⟨_, rfl⟩
  rw [hr]
  rw [n_impl_Lacking] at hr
  refine tr_go tabOk Tryz.func30 rfl rfl rfl rfl rfl (ov := [(0, .t ⟨true, [.d (dI (a0.Cap)), .d (.sl 6 (a0.L.map Entry.cells))]⟩), (1, .t ⟨false, [.d (dI (a1))]⟩), (2, .t ⟨false, [.d (.sl 1 (a2.map encS))]⟩)]) (hv := []) rfl rfl ?_
  refine v_seq ?_
  refine v_reg ?_
  refine sr 0 (.t ⟨false, [.vp 0 0]⟩) (.var [.d (dI (a0.Cap)), .d (.sl 6 (a0.L.map Entry.cells))]) (zbx rfl (e rfl rfl) rfl rfl rfl) rfl rfl ?_
  refine sy _ (zas rfl (en 1)) rfl rfl ?_
  refine s_end ?_
  refine v_seq ?_
  refine v_reg ?_
  refine sbk 1 (.t ⟨false, [.sr 1 1 0 ((([] : List ByteArray).map encS).length) ((([] : List ByteArray).map encS).length)]⟩) (.row 1 (([] : List ByteArray).map encS) true 1 0) (zbu tabOk rfl rfl rfl rfl .nil rfl rfl) rfl rfl ?_
  refine sy _ (zas rfl (e rfl rfl)) rfl rfl ?_
  refine s_end ?_
  refine v_seq ?_
  refine v_seq ?_
  refine v_reg ?_
  refine sy _ (zmv rfl (e rfl rfl)) rfl rfl ?_
  have hB1 := (h2).1
  refine sy (.t ⟨false, [.d (dI ((a2).length : Int))]⟩) (zlm tabOk rfl rfl (e rfl rfl) .d) rfl rfl ?_
  refine sy _ (zmv rfl (ec rfl)) rfl rfl ?_
  refine s_end ?_
  refine v_block ?_
  refine v_lp (fun (q : Nat × List ByteArray × Nat × Nat × Nat) => [(1, .t ⟨false, [.d (dI (a1))]⟩), (3, .t ⟨false, [.vp 0 0]⟩), (7, .t ⟨false, [.sr 1 q.2.2.2.1 0 (((q.2.1).map encS).length) (((q.2.1).map encS).length)]⟩), (11, .t ⟨false, [.d (.sl 1 (a2.map encS))]⟩), (12, .t ⟨false, [.d (dI ((a2).length : Int))]⟩), (13, .t ⟨false, [.d (dI (q.2.2.1 : Int))]⟩)]) (fun q => [(0, .var [.d (dI (a0.Cap)), .d (.sl 6 (a0.L.map Entry.cells))]), (1, .row 1 ((q.2.1).map encS) true q.2.2.2.1 q.2.2.2.2)]) (fun q => n_impl_LackingL1 a0 a1 a2 q.1 q.2.1 q.2.2.1 = r ∧ (q.2.2.1 ≤ (a2).length) ∧ (q.2.2.1 + q.1 = (a2).length + 1) ∧ (q.2.1.length ≤ q.2.2.1) ∧ (fitL fitS q.2.1)) (fun q => q.1) ((a2).length + 1, (([] : List ByteArray) : List ByteArray), (0 : Nat), 1, 0) ⟨hr, by (try dsimp only); (try simp only [List.length_nil, List.length_cons, List.length_replicate]); first | done | omega | exact Nat.zero_le _, by (try dsimp only); (try simp only [List.length_nil, List.length_cons, List.length_replicate]); first | done | omega | exact Nat.zero_le _, by (try dsimp only); (try simp only [List.length_nil, List.length_cons, List.length_replicate]); first | done | omega | exact Nat.zero_le _, fitL_nil⟩ ⟨rfl, rfl, rfl, rfl, rfl, rfl, trivial⟩ ⟨rfl, rfl, trivial⟩ rfl (fun q hq => ?_)
  obtain ⟨n, l1, z13, g1, w1⟩ := q
  obtain ⟨hr, hi1x0, hi1x1, hi1x2, hi1x3⟩ := hq
  dsimp only at hr hi1x0 hi1x1 hi1x2 hi1x3
  show VWp _ _ _ (mk [(1, .t ⟨false, [.d (dI (a1))]⟩), (3, .t ⟨false, [.vp 0 0]⟩), (7, .t ⟨false, [.sr 1 g1 0 (((l1).map encS).length) (((l1).map encS).length)]⟩), (11, .t ⟨false, [.d (.sl 1 (a2.map encS))]⟩), (12, .t ⟨false, [.d (dI ((a2).length : Int))]⟩), (13, .t ⟨false, [.d (dI (z13 : Int))]⟩)] _ [(0, .var [.d (dI (a0.Cap)), .d (.sl 6 (a0.L.map Entry.cells))]), (1, .row 1 ((l1).map encS) true g1 w1)])
  rcases n with _ | n
  · exfalso; omega
  rw [n_impl_LackingL1] at hr
  refine v_seq ?_
  refine v_reg ?_
  refine sy (.t ⟨false, [.d (dB (decide (((z13 : Int)) < (((a2).length : Int)))))]⟩) (y_bin rfl (e rfl rfl) (e rfl rfl) (fun _ => b_lss) rfl) rfl rfl ?_
  refine s_end ?_
  refine v_seq ?_
  refine v_cond (e rfl rfl) (fun hb1 => ?_) fun hb1 => ?_
  · replace hr := bf_t hb1 hr
    have hb1p := dec_t hb1
    refine v_skip ?_
    refine v_seq ?_
    refine v_block ?_
    refine v_seq ?_
    refine v_reg ?_
    obtain ⟨x1, hx1⟩ : ∃ x, (a2)[z13]? = some x := some_of_lt (by omega)
    replace hr := at_step hx1 hr
    have hfx1 := h2.2 _ (List.mem_of_getElem? hx1)
    refine sy (.t ⟨false, [.fe 1 (a2.map encS) z13 0]⟩) (zix tabOk rfl rfl rfl (e rfl rfl) (e rfl rfl) (ltm_of_some hx1)) rfl rfl ?_
    refine sy (.t ⟨false, [.d (dS (x1))]⟩) (zle tabOk rfl (e rfl rfl) (getm hx1) rfl rfl) rfl rfl ?_
    refine sy _ (zas rfl (e rfl rfl)) rfl rfl ?_
    refine s_end ?_
    refine v_seq ?_
    refine v_reg ?_
    refine sy (.t ⟨true, [.d (dI (a0.Cap)), .d (.sl 6 (a0.L.map Entry.cells))]⟩) (zlv tabOk rfl (e rfl rfl) rfl rfl rfl) rfl rfl ?_
    refine sy _ (zmv rfl (e rfl rfl)) rfl rfl ?_
    refine sy _ (zmv rfl (e rfl rfl)) rfl rfl ?_
    obtain ⟨v2, ev2⟩ : ∃ v : List Int, v = n_impl_AddrsKnown a0 a1 x1 := ⟨_, rfl⟩
    replace hr := bv_step ev2 hr
    have hfv2 : fitL fitU v2 := by rw [ev2]; exact (fitx_n_impl_AddrsKnown a0 a1 x1 h0 hfx1)
    refine sd (.t ⟨false, [.d (.sl 1 (v2.map encI))]⟩) (zcd (.t ⟨false, [.d (.sl 1 (v2.map encI))]⟩) rfl (by rw [ev2]; exact (tr_n_impl_AddrsKnown a0 a1 x1 h0 hfx1) : Tr Tryz.prog 46 _ [⟨false, [.sl 1 (v2.map encI)]⟩]) (ar (e rfl rfl) (.d (.d .nil)) (ar (e rfl rfl) (.d .nil) (ar (e rfl rfl) (.d .nil) .nil))) rfl) rfl rfl rfl rfl ?_
    have hB2 := (hfv2).1
    refine sy (.t ⟨false, [.d (dI ((v2).length : Int))]⟩) (zlm tabOk rfl rfl (e rfl rfl) .d) rfl rfl ?_
    refine sy (.t ⟨false, [.d (dB (decide ((((v2).length : Int)) = (0))))]⟩) (y_bin rfl (e rfl rfl) (ec rfl) (fun _ => b_eql) rfl) rfl rfl ?_
    refine s_end ?_
    refine v_cond (e rfl rfl) (fun hb2 => ?_) fun hb2 => ?_
    · replace hr := bf_t hb2 hr
      have hb2p := dec_t hb2
      refine v_reg ?_
      refine sy _ (zmv rfl (e rfl rfl)) rfl rfl ?_
      refine sy _ (zmv rfl (e rfl rfl)) rfl rfl ?_
      refine sbk 4 (.t ⟨false, [.sr 4 1 0 ((([x1] : List ByteArray).map encS).length) ((([x1] : List ByteArray).map encS).length)]⟩) (.row 1 (([x1] : List ByteArray).map encS) true 1 0) (zbu tabOk rfl rfl rfl rfl (pd0 (e rfl rfl) rfl (.lf .nil) rfl .nil) rfl rfl) rfl rfl ?_
      have hB3 := (hi1x3).1
      refine sa 1 (.t ⟨false, [.sr 1 (g1 + 1) 0 (((l1 ++ ([x1] : List ByteArray)).map encS).length) (((l1 ++ ([x1] : List ByteArray)).map encS).length)]⟩) (.row 1 ((l1 ++ ([x1] : List ByteArray)).map encS) true (g1 + 1) (w1 + 1)) (zap tabOk rfl rfl rfl rfl (e rfl rfl) rfl rfl (e rfl rfl) (.flat rfl le_all take_all (flat_S _)) (ap_big (by simp only [List.length_map, List.length_cons, List.length_nil]; omega) rfl) map_app len_app) rfl rfl ?_
      refine sy _ (zas rfl (e rfl rfl)) rfl rfl ?_
      refine s_end ?_
      refine blk_norm ?_
      refine v_reg ?_
      refine sy (.t ⟨false, [.d (dI (z13 + 1 : Int))]⟩) (y_bin rfl (e rfl rfl) (ec rfl) (fun _ => b_addn (by omega) (by omega)) rfl) rfl rfl ?_
      refine sy _ (zmv rfl (e rfl rfl)) rfl rfl ?_
      refine s_end ?_
      exact lp_next (n, l1 ++ ([x1] : List ByteArray), z13 + 1, g1 + 1, w1 + 1) ⟨hr, by (try simp only [List.length_append, List.length_cons, List.length_nil, List.length_set]); first | done | omega, by (try simp only [List.length_append, List.length_cons, List.length_nil, List.length_set]); first | done | omega, by (try simp only [List.length_append, List.length_cons, List.length_nil, List.length_set]); first | done | omega, fitL_snoc hi1x3 (by omega) hfx1⟩ (Nat.lt_succ_self _) ⟨rfl, rfl, rfl, rfl, rfl, rfl, trivial⟩ ⟨rfl, rfl, trivial⟩ rfl
    replace hr := bf_f hb2 hr
    have hb2p := dec_f hb2
    refine v_skip ?_
    refine blk_norm ?_
    refine v_reg ?_
    refine sy (.t ⟨false, [.d (dI (z13 + 1 : Int))]⟩) (y_bin rfl (e rfl rfl) (ec rfl) (fun _ => b_addn (by omega) (by omega)) rfl) rfl rfl ?_
    refine sy _ (zmv rfl (e rfl rfl)) rfl rfl ?_
    refine s_end ?_
    exact lp_next (n, l1, z13 + 1, g1, w1) ⟨hr, by (try simp only [List.length_append, List.length_cons, List.length_nil, List.length_set]); first | done | omega, by (try simp only [List.length_append, List.length_cons, List.length_nil, List.length_set]); first | done | omega, by (try simp only [List.length_append, List.length_cons, List.length_nil, List.length_set]); first | done | omega, hi1x3⟩ (Nat.lt_succ_self _) ⟨rfl, rfl, rfl, rfl, rfl, rfl, trivial⟩ ⟨rfl, rfl, trivial⟩ rfl
  replace hr := bf_f hb1 hr
  have hb1p := dec_f hb1
  refine v_exit ?_
  refine then_exit ?_
  refine loop_exit ?_
  refine blk_hit ?_
  refine v_seq ?_
  refine v_reg ?_
  refine sy _ (zmv rfl (e rfl rfl)) rfl rfl ?_
  refine sy _ (zas rfl (e rfl rfl)) rfl rfl ?_
  refine s_end ?_
  refine v_ret ?_
  subst hr
  exact post_ret (rv (.tmp (eg rfl rfl)) rfl (.sr rfl le_all take_all .nil) rfl .nil) (.ro (.ro (.ro .nil))) rfl
set_option maxHeartbeats 4000000 in
theorem fitx_n_impl_Lacking (a0 : Cache) (a1 : Int) (a2 : List ByteArray) (h0 : Cache.Fit a0) (h2 : fitL fitS a2) : fitL fitS (n_impl_Lacking a0 a1 a2) := by
  obtain ⟨r, hr⟩ : ∃ r, n_impl_Lacking a0 a1 a2 = r := ⟨_, rfl⟩
  rw [hr]
  rw [n_impl_Lacking] at hr
  have hB1 : (a2).length ≤ _ := (h2).1
  refine fx_lp (fun (q : Nat × List ByteArray × Nat × Nat × Nat) => n_impl_LackingL1 a0 a1 a2 q.1 q.2.1 q.2.2.1 = r ∧ (q.2.2.1 ≤ (a2).length) ∧ (q.2.2.1 + q.1 = (a2).length + 1) ∧ (q.2.1.length ≤ q.2.2.1) ∧ (fitL fitS q.2.1)) (fun q => q.1) ((a2).length + 1, (([] : List ByteArray) : List ByteArray), (0 : Nat), 1, 0) ⟨hr, by (try dsimp only); (try simp only [List.length_nil, List.length_cons, List.length_replicate]); first | done | omega | exact Nat.zero_le _, by (try dsimp only); (try simp only [List.length_nil, List.length_cons, List.length_replicate]); first | done | omega | exact Nat.zero_le _, by (try dsimp only); (try simp only [List.length_nil, List.length_cons, List.length_replicate]); first | done | omega | exact Nat.zero_le _, fitL_nil⟩ (fun q hq hn1 => ?_)
  obtain ⟨n, l1, z13, g1, w1⟩ := q
  obtain ⟨hr, hi1x0, hi1x1, hi1x2, hi1x3⟩ := hq
  dsimp only at hr hi1x0 hi1x1 hi1x2 hi1x3
  rcases n with _ | n
  · exfalso; omega
  rw [n_impl_LackingL1] at hr
  rcases Bool.eq_false_or_eq_true (decide (((z13 : Int)) < (((a2).length : Int)))) with hb1 | hb1
  · replace hr := bf_t hb1 hr
    have hb1p := dec_t hb1
    obtain ⟨x1, hx1⟩ : ∃ x, (a2)[z13]? = some x := some_of_lt (by omega)
    replace hr := at_step hx1 hr
    have hfx1 := h2.2 _ (List.mem_of_getElem? hx1)
    obtain ⟨v2, ev2⟩ : ∃ v : List Int, v = n_impl_AddrsKnown a0 a1 x1 := ⟨_, rfl⟩
    replace hr := bv_step ev2 hr
    have hfv2 : fitL fitU v2 := by rw [ev2]; exact (fitx_n_impl_AddrsKnown a0 a1 x1 h0 hfx1)
    have hB2 : (v2).length ≤ _ := (hfv2).1
    rcases Bool.eq_false_or_eq_true (decide ((((v2).length : Int)) = (0))) with hb2 | hb2
    · replace hr := bf_t hb2 hr
      have hb2p := dec_t hb2
      have hB3 : (l1).length ≤ _ := (hi1x3).1
      exact hn1 (n, l1 ++ ([x1] : List ByteArray), z13 + 1, g1 + 1, w1 + 1) (Nat.lt_succ_self _) ⟨hr, by (try simp only [List.length_append, List.length_cons, List.length_nil, List.length_set]); first | done | omega, by (try simp only [List.length_append, List.length_cons, List.length_nil, List.length_set]); first | done | omega, by (try simp only [List.length_append, List.length_cons, List.length_nil, List.length_set]); first | done | omega, fitL_snoc hi1x3 (by omega) hfx1⟩
    replace hr := bf_f hb2 hr
    have hb2p := dec_f hb2
    exact hn1 (n, l1, z13 + 1, g1, w1) (Nat.lt_succ_self _) ⟨hr, by (try simp only [List.length_append, List.length_cons, List.length_nil, List.length_set]); first | done | omega, by (try simp only [List.length_append, List.length_cons, List.length_nil, List.length_set]); first | done | omega, by (try simp only [List.length_append, List.length_cons, List.length_nil, List.length_set]); first | done | omega, hi1x3⟩
  replace hr := bf_f hb1 hr
  have hb1p := dec_f hb1
  subst hr
  exact hi1x3
theorem law_ServersKnown (c : Cache) (now : Int) (s : ByteArray) (hc : c.Bnd) (hn : bndI now) : n_impl_ServersKnown c now s = n_spec_ServersKnown c now s := by
  simp only [n_impl_ServersKnown, n_spec_ServersKnown, law_Look c now _ _ hc hn, law_Hosts, bindv]
  cases h : (n_spec_Look c now (⟨s, 2⟩ : Quest) (-9223372036854775808)).2 with
  | true => rfl
  | false => rw [look_none c now _ _ h]; rfl
theorem law_AddrsKnown (c : Cache) (now : Int) (s : ByteArray) (hc : c.Bnd) (hn : bndI now) : n_impl_AddrsKnown c now s = n_spec_AddrsKnown c now s := by
  simp only [n_impl_AddrsKnown, n_spec_AddrsKnown, law_Look c now _ _ hc hn, law_Addrs, bindv]
  cases h : (n_spec_Look c now (⟨s, 1⟩ : Quest) (-9223372036854775808)).2 with
  | true => rfl
  | false => rw [look_none c now _ _ h]; rfl
theorem law_AllAddrs (c : Cache) (now : Int) (l : List ByteArray) (hc : c.Bnd) (hn : bndI now) : n_impl_AllAddrs c now l = n_spec_AllAddrs c now l := by
  have key : ∀ n m i, n_impl_AllAddrsL1 c now l n m i = n_spec_AllAddrsL1 c now l n m i := by
    intro n
    induction n with
    | zero => intro m i; rfl
    | succ n ih => intro m i; simp only [n_impl_AllAddrsL1, n_spec_AllAddrsL1, ih, law_AddrsKnown c now _ hc hn, law_Uniq]
  exact key _ _ _
theorem law_Lacking (c : Cache) (now : Int) (l : List ByteArray) (hc : c.Bnd) (hn : bndI now) : n_impl_Lacking c now l = n_spec_Lacking c now l := by
  have key : ∀ n m i, n_impl_LackingL1 c now l n m i = n_spec_LackingL1 c now l n m i := by
    intro n
    induction n with
    | zero => intro m i; rfl
    | succ n ih => intro m i; simp only [n_impl_LackingL1, n_spec_LackingL1, ih, law_AddrsKnown c now _ hc hn]
  exact key _ _ _
theorem set_loop {α : Type} {g : α → α} {N : Nat} {f : Nat → List α → Nat → List α} (hs : ∀ n l i, l.length = N → f (n + 1) l i = cond (decide ((i : Int) < (N : Int))) (atL l i fun x => f n (l.set i (g x)) (i + 1)) l) :
    ∀ (n : Nat) (l : List α) (i : Nat), l.length = N → i ≤ N → i + n = N + 1 → f n l i = l.take i ++ (l.drop i).map g
  | 0, l, i, hl, h1, h2 => by omega
  | n + 1, l, i, hl, h1, h2 => by
    rw [hs n l i hl]
    rcases Nat.lt_or_ge i N with h | h
    · have e : (decide ((i : Int) < (N : Int))) = true := by simp; omega
      have hi : i < l.length := by omega
      rw [e, cond_true, atL_lt hi, set_loop hs n _ (i + 1) (by rw [List.length_set]; exact hl) (by omega) (by omega), List.drop_eq_getElem_cons hi, List.take_add_one, List.take_set_of_le (Nat.le_refl _), List.drop_set_of_lt (by omega), List.map_cons]
      have e2 : (l.set i (g l[i]))[i]? = some (g l[i]) := by simp [hi]
      rw [e2]; simp only [Option.toList_some, List.append_assoc, List.cons_append, List.nil_append]
    · have e : (decide ((i : Int) < (N : Int))) = false := by simp; omega
      rw [e, cond_false, List.drop_eq_nil_of_le (by omega), List.take_of_length_le (by omega)]; simp
theorem spec_WithTtl_eq (l : List Record) (t : Int) : n_spec_WithTtl l t = l.map fun x => (⟨x.Name, x.Typ, t, x.N, x.Host, x.Text⟩ : Record) := by
  have := set_loop (g := fun x => (⟨x.Name, x.Typ, t, x.N, x.Host, x.Text⟩ : Record)) (N := l.length) (f := fun n l i => n_spec_WithTtlL1 t n l i) (fun n l i hl => by show n_spec_WithTtlL1 t (n + 1) l i = _; rw [n_spec_WithTtlL1, hl]) (l.length + 1) l 0 rfl (Nat.zero_le _) (Nat.zero_add _)
  rw [List.take_zero, List.nil_append, List.drop_zero] at this
  exact this
theorem look_mem (c : Cache) (now : Int) (q : Quest) (r : Int) : (n_spec_Look c now q r).1.L = [] ∨ ∃ e ∈ c.L, ∃ t, (n_spec_Look c now q r).1.L = n_spec_WithTtl e.L t := by
  have key : ∀ n i, (n_spec_LookL1 c now q r n i).1.L = [] ∨ ∃ e ∈ c.L, ∃ t, (n_spec_LookL1 c now q r n i).1.L = n_spec_WithTtl e.L t := by
    intro n
    induction n with
    | zero => intro i; exact .inl rfl
    | succ n ih =>
      intro i
      rw [n_spec_LookL1]
      cases decide ((i : Int) < (c.L.length : Int)) with
      | false => exact .inl rfl
      | true =>
        simp only [cond_true, atL]
        cases hx : c.L[i]? with
        | none => exact .inl rfl
        | some x =>
          have hm := List.mem_of_getElem? hx
          simp only [bindv]
          cases decide (x.Q = q) with
          | false => exact ih _
          | true =>
            cases n_spec_l15Lives x now with
            | false => exact ih _
            | true =>
              cases decide (r ≤ x.Rank) with
              | false => exact ih _
              | true =>
                simp only [cond_true]
                cases decide (0 < now) <;> cases decide (w64 (x.Until - now) < 100000) <;> cases decide (now ≤ 0) <;> cases decide (x.Until < w64 (100000 + now)) <;> exact .inr ⟨x, hm, _, rfl⟩
  exact key _ _
theorem addrs_mem (l : List Record) (s : ByteArray) : ∀ x ∈ n_spec_Addrs l s, ∃ r ∈ l, r.N = x := by
  have key : ∀ n m i, (∀ x ∈ m, ∃ r ∈ l, r.N = x) → ∀ x ∈ n_spec_AddrsL1 l s n m i, ∃ r ∈ l, r.N = x := by
    intro n
    induction n with
    | zero => intro m i hm x hx; exact absurd hx (by simp [n_spec_AddrsL1, default])
    | succ n ih =>
      intro m i hm
      rw [n_spec_AddrsL1]
      cases decide ((i : Int) < (l.length : Int)) with
      | false => exact hm
      | true =>
        simp only [cond_true, atL]
        cases hx : l[i]? with
        | none => intro x hx; exact absurd hx (by simp [default])
        | some r =>
          have hr := List.mem_of_getElem? hx
          have h2 : ∀ x ∈ m ++ [r.N], ∃ r ∈ l, r.N = x := fun x hx => by
            rcases List.mem_append.1 hx with hx | hx
            · exact hm x hx
            · exact ⟨r, hr, (List.mem_singleton.1 hx).symm⟩
          simp only []
          cases decide (r.Typ = 1) with
          | false => exact ih _ _ hm
          | true =>
            cases decide (r.Name = s) with
            | false => exact ih _ _ hm
            | true => cases (!(n_spec_l9HasInt m r.N)) with
              | false => exact ih _ _ hm
              | true => exact ih _ _ h2
  exact key _ _ _ (by simp)
def allN (c : Cache) : List Int := c.L.flatMap fun e => e.L.map (·.N)
theorem known_mem (c : Cache) (now : Int) (s : ByteArray) : ∀ x ∈ n_spec_AddrsKnown c now s, x ∈ allN c := by
  intro x hx
  simp only [n_spec_AddrsKnown, bindv] at hx
  cases hk : (n_spec_Look c now (⟨s, 1⟩ : Quest) (-9223372036854775808)).2 with
  | false => rw [hk] at hx; simp at hx
  | true =>
    rw [hk] at hx
    simp only [Bool.not_true, cond_false] at hx
    obtain ⟨r, hr, e⟩ := addrs_mem _ _ x hx
    rcases look_mem c now (⟨s, 1⟩ : Quest) (-9223372036854775808) with h | ⟨y, hy, t, h⟩
    · rw [h] at hr; simp at hr
    · rw [h, spec_WithTtl_eq] at hr
      obtain ⟨z, hz, rfl⟩ := List.mem_map.1 hr
      exact List.mem_flatMap.2 ⟨y, hy, List.mem_map.2 ⟨z, hz, e⟩⟩
theorem hasint_mem (l : List Int) (x : Int) : n_spec_l9HasInt l x = decide (x ∈ l) := by
  have h2 := loop_any (p := fun y => decide (y = x)) (xs := l) (f := n_spec_l9HasIntL1 l x) (fun n i => rfl) (l.length + 1) 0 (Nat.zero_le _) (Nat.zero_add _)
  rw [List.drop_zero] at h2
  show n_spec_l9HasIntL1 l x (l.length + 1) 0 = _
  rw [h2]
  by_cases h : x ∈ l
  · rw [decide_eq_true h]; exact List.any_eq_true.2 ⟨x, h, by simp⟩
  · rw [decide_eq_false h]
    exact List.any_eq_false.2 fun y hy e => h (by have := of_decide_eq_true e; rwa [← this])
theorem uniq_nodup (l : List Int) : (n_spec_Uniq l).Nodup ∧ ∀ x ∈ n_spec_Uniq l, x ∈ l := by
  have key : ∀ n m i, m.Nodup → (∀ x ∈ m, x ∈ l) → (n_spec_UniqL1 l n m i).Nodup ∧ ∀ x ∈ n_spec_UniqL1 l n m i, x ∈ l := by
    intro n
    induction n with
    | zero => intro m i _ _; exact ⟨by simp [n_spec_UniqL1, default], by simp [n_spec_UniqL1, default]⟩
    | succ n ih =>
      intro m i hm hs
      rw [n_spec_UniqL1]
      cases decide ((i : Int) < (l.length : Int)) with
      | false => exact ⟨hm, hs⟩
      | true =>
        simp only [cond_true, atL]
        cases hx : l[i]? with
        | none => exact ⟨by simp [default], by simp [default]⟩
        | some x =>
          have hr := List.mem_of_getElem? hx
          simp only [hasint_mem]
          by_cases h : x ∈ m
          · rw [decide_eq_true h]; exact ih _ _ hm hs
          · rw [decide_eq_false h]
            refine ih _ _ (List.nodup_append.2 ⟨hm, by simp, fun a ha b hb e => ?_⟩) fun y hy => ?_
            · rw [List.mem_singleton.1 hb] at e; exact h (e ▸ ha)
            · rcases List.mem_append.1 hy with hy | hy
              · exact hs y hy
              · rw [List.mem_singleton.1 hy]; exact hr
  exact key _ _ _ (by simp) (by simp)
theorem all_mem (c : Cache) (now : Int) (l : List ByteArray) : (n_spec_AllAddrs c now l).Nodup ∧ ∀ x ∈ n_spec_AllAddrs c now l, x ∈ allN c := by
  have key : ∀ n m i, (∀ x ∈ m, x ∈ allN c) → (n_spec_AllAddrsL1 c now l n m i).Nodup ∧ ∀ x ∈ n_spec_AllAddrsL1 c now l n m i, x ∈ allN c := by
    intro n
    induction n with
    | zero => intro m i _; exact ⟨by simp [n_spec_AllAddrsL1, default], by simp [n_spec_AllAddrsL1, default]⟩
    | succ n ih =>
      intro m i hm
      rw [n_spec_AllAddrsL1]
      cases decide ((i : Int) < (l.length : Int)) with
      | false => exact ⟨(uniq_nodup m).1, fun x hx => hm x ((uniq_nodup m).2 x hx)⟩
      | true =>
        simp only [cond_true, atL]
        cases hx : l[i]? with
        | none => exact ⟨by simp [default], by simp [default]⟩
        | some x =>
          refine ih _ _ fun y hy => ?_
          rcases List.mem_append.1 hy with hy | hy
          · exact hm y hy
          · exact known_mem c now x y hy
  exact key _ _ _ (by simp)
theorem allN_len (c : Cache) : (allN c).length ≤ c.wt := by
  have key : ∀ l : List Entry, (l.flatMap fun e => e.L.map (·.N)).length ≤ (l.map Entry.wt).sum := by
    intro l
    induction l with
    | nil => simp
    | cons e l ih =>
      rw [List.flatMap_cons, List.length_append, List.length_map, List.map_cons, List.sum_cons]
      have : e.L.length ≤ e.wt := by simp only [Entry.wt, wtL]; omega
      omega
  have := key c.L
  simp only [allN, Cache.wt, wtL]; omega
theorem all_len (c : Cache) (now : Int) (l : List ByteArray) : (n_spec_AllAddrs c now l).length ≤ c.wt := by
  obtain ⟨h1, h2⟩ := all_mem c now l
  exact Nat.le_trans (h1.length_le_of_subset h2) (allN_len c)
end Go.Proofs.YtglilpigoocgeaaGreatDoor.V
