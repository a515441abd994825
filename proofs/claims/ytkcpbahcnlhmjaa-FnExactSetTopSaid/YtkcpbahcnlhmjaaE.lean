/-
  Equality of values, field by field.
-/
import Derived.Test.YtkcpbahcnlhmjaaN
namespace Go.Proofs.Ytkcpbahcnlhmjaa.V
open Go
set_option linter.unusedVariables false
set_option linter.unusedSimpArgs false
set_option maxRecDepth 20000 in
theorem tr_eqQuest (a b : Quest) (ha : a.Fit) (hb0 : b.Fit) : Tr Try.prog 32 [.ro ⟨true, [dS (a.Name), dI (a.Typ)]⟩, .ro ⟨true, [dS (b.Name), dI (b.Typ)]⟩] [one (dB (decide (a = b)))] := by
  refine tr_go tabOk Try.func32 rfl rfl rfl rfl rfl (ov := [(0, .t ⟨true, [.d (dS (a.Name)), .d (dI (a.Typ))]⟩), (1, .t ⟨true, [.d (dS (b.Name)), .d (dI (b.Typ))]⟩)]) (hv := []) rfl rfl ?_
  refine v_seq ?_
  refine v_reg ?_
  refine sr 0 (.t ⟨false, [.vp 0 0]⟩) (.var [.d (dS (a.Name)), .d (dI (a.Typ))]) (zbx rfl (e rfl rfl) rfl rfl rfl) rfl rfl ?_
  refine sr 1 (.t ⟨false, [.vp 1 0]⟩) (.var [.d (dS (b.Name)), .d (dI (b.Typ))]) (zbx rfl (e rfl rfl) rfl rfl rfl) rfl rfl ?_
  refine sy _ (zas rfl (ec rfl)) rfl rfl ?_
  refine s_end ?_
  refine v_seq ?_
  refine v_seq ?_
  refine v_reg ?_
  refine sy (.t ⟨false, [.vp 0 0]⟩) (zfa tabOk rfl rfl rfl (e rfl rfl) rfl rfl) rfl rfl ?_
  refine sy (.t ⟨false, [.d (dS (a.Name))]⟩) (zlv tabOk rfl (e rfl rfl) rfl rfl rfl) rfl rfl ?_
  refine sy (.t ⟨false, [.vp 1 0]⟩) (zfa tabOk rfl rfl rfl (e rfl rfl) rfl rfl) rfl rfl ?_
  refine sy (.t ⟨false, [.d (dS (b.Name))]⟩) (zlv tabOk rfl (e rfl rfl) rfl rfl rfl) rfl rfl ?_
  refine sy (.t ⟨false, [.d (dB (decide ((a.Name) ≠ (b.Name))))]⟩) (y_bin rfl (e rfl rfl) (e rfl rfl) (fun _ => b_sneq) rfl) rfl rfl ?_
  refine s_end ?_
  refine v_cond (e rfl rfl) (fun hb1 => ?_) fun hb1 => ?_
  · refine v_seq ?_
    refine v_reg ?_
    refine sy _ (zas rfl (ec rfl)) rfl rfl ?_
    refine s_end ?_
    refine v_ret ?_
    have hr : decide (a = b) = false := by cases a; cases b; simp_all
    rw [hr]
    exact post_ret (rv (.tmp (eg rfl rfl)) rfl (.lf .nil) rfl .nil) (.ro (.ro .nil)) rfl
  refine v_skip ?_
  refine v_seq ?_
  refine v_seq ?_
  refine v_reg ?_
  refine sy (.t ⟨false, [.vp 0 1]⟩) (zfa tabOk rfl rfl rfl (e rfl rfl) rfl rfl) rfl rfl ?_
  refine sy (.t ⟨false, [.d (dI (a.Typ))]⟩) (zlv tabOk rfl (e rfl rfl) rfl rfl rfl) rfl rfl ?_
  refine sy (.t ⟨false, [.vp 1 1]⟩) (zfa tabOk rfl rfl rfl (e rfl rfl) rfl rfl) rfl rfl ?_
  refine sy (.t ⟨false, [.d (dI (b.Typ))]⟩) (zlv tabOk rfl (e rfl rfl) rfl rfl rfl) rfl rfl ?_
  refine sy (.t ⟨false, [.d (dB (decide ((a.Typ) ≠ (b.Typ))))]⟩) (y_bin rfl (e rfl rfl) (e rfl rfl) (fun _ => b_neq) rfl) rfl rfl ?_
  refine s_end ?_
  refine v_cond (e rfl rfl) (fun hb2 => ?_) fun hb2 => ?_
  · refine v_seq ?_
    refine v_reg ?_
    refine sy _ (zas rfl (ec rfl)) rfl rfl ?_
    refine s_end ?_
    refine v_ret ?_
    have hr : decide (a = b) = false := by cases a; cases b; simp_all
    rw [hr]
    exact post_ret (rv (.tmp (eg rfl rfl)) rfl (.lf .nil) rfl .nil) (.ro (.ro .nil)) rfl
  refine v_skip ?_
  refine v_seq ?_
  refine v_reg ?_
  refine sy _ (zas rfl (ec rfl)) rfl rfl ?_
  refine s_end ?_
  refine v_ret ?_
  have hr : decide (a = b) = true := by cases a; cases b; simp_all
  rw [hr]
  exact post_ret (rv (.tmp (eg rfl rfl)) rfl (.lf .nil) rfl .nil) (.ro (.ro .nil)) rfl
set_option maxRecDepth 20000 in
theorem tr_eqIntS (xs ys : List Int) (hx : fitL fitU xs) (hy : fitL fitU ys) : Tr Try.prog 46 [.ro ⟨false, [.sl 1 (xs.map encI)]⟩, .ro ⟨false, [.sl 1 (ys.map encI)]⟩] [one (dB (decide (xs = ys)))] := by
  refine tr_go tabOk Try.func46 rfl rfl rfl rfl rfl (ov := [(0, .t ⟨false, [.d (.sl 1 (xs.map encI))]⟩), (1, .t ⟨false, [.d (.sl 1 (ys.map encI))]⟩)]) (hv := []) rfl rfl ?_
  refine v_seq ?_
  refine v_reg ?_
  refine sy _ (zas rfl (ec rfl)) rfl rfl ?_
  refine s_end ?_
  refine v_seq ?_
  refine v_seq ?_
  refine v_reg ?_
  refine sy _ (zmv rfl (e rfl rfl)) rfl rfl ?_
  refine sy (.t ⟨false, [.d (dI ((xs.map encI).length : Int))]⟩) (zln tabOk rfl rfl (e rfl rfl) .d) rfl rfl ?_
  refine sy _ (zmv rfl (e rfl rfl)) rfl rfl ?_
  refine sy (.t ⟨false, [.d (dI ((ys.map encI).length : Int))]⟩) (zln tabOk rfl rfl (e rfl rfl) .d) rfl rfl ?_
  refine sy (.t ⟨false, [.d (dB (decide ((((xs.map encI).length : Int)) ≠ (((ys.map encI).length : Int)))))]⟩) (y_bin rfl (e rfl rfl) (e rfl rfl) (fun _ => b_neq) rfl) rfl rfl ?_
  refine s_end ?_
  refine v_cond (e rfl rfl) (fun hb1 => ?_) fun hb1 => ?_
  · refine v_seq ?_
    refine v_reg ?_
    refine sy _ (zas rfl (ec rfl)) rfl rfl ?_
    refine s_end ?_
    refine v_ret ?_
    have hr : decide (xs = ys) = false := by simp at hb1 ⊢; intro h; subst h; exact hb1 rfl
    rw [hr]
    exact post_ret (rv (.tmp (eg rfl rfl)) rfl (.lf .nil) rfl .nil) (.ro (.ro .nil)) rfl
  have hlen : xs.length = ys.length := by have := hb1; simp at this; omega
  refine v_skip ?_
  refine v_seq ?_
  refine v_seq ?_
  refine v_reg ?_
  refine sy _ (zas rfl (ec rfl)) rfl rfl ?_
  refine s_end ?_
  refine v_block ?_
  have hB := hx.1
  refine v_lp (fun (i : Nat) => [(0, .t ⟨false, [.d (.sl 1 (xs.map encI))]⟩), (1, .t ⟨false, [.d (.sl 1 (ys.map encI))]⟩), (5, .t ⟨false, [.d (dI (i : Int))]⟩)]) (fun _ => []) (fun i => i ≤ xs.length ∧ xs.take i = ys.take i) (fun i => xs.length - i) 0 ⟨Nat.zero_le _, rfl⟩ ⟨rfl, rfl, rfl, trivial⟩ trivial rfl (fun i hi => ?_)
  refine v_seq ?_
  refine v_seq ?_
  refine v_reg ?_
  refine sy _ (zmv rfl (e rfl rfl)) rfl rfl ?_
  refine sy _ (zmv rfl (e rfl rfl)) rfl rfl ?_
  refine sy (.t ⟨false, [.d (dI ((xs.map encI).length : Int))]⟩) (zln tabOk rfl rfl (e rfl rfl) .d) rfl rfl ?_
  refine sy (.t ⟨false, [.d (dB (decide (((i : Int)) < (((xs.map encI).length : Int)))))]⟩) (y_bin rfl (e rfl rfl) (e rfl rfl) (fun _ => b_lss) rfl) rfl rfl ?_
  refine s_end ?_
  refine v_cond (e rfl rfl) (fun hb2 => ?_) fun hb2 => ?_
  · have hlt : i < xs.length := by simpa using hb2
    obtain ⟨x, hxi⟩ := some_of_lt hlt
    obtain ⟨y, hyi⟩ := some_of_lt (l := ys) (i := i) (by omega)
    refine v_skip ?_
    refine v_seq ?_
    refine v_block ?_
    refine v_seq ?_
    refine v_drw [⟨.t ⟨false, [.d (.sl 1 (xs.map encI))]⟩, [], [0], []⟩, ⟨.t ⟨false, [.d (dI (i : Int))]⟩, [], [5], []⟩, ⟨.t ⟨false, [.fe 1 (xs.map encI) i 0]⟩, [], [17, 18], []⟩, ⟨.t ⟨false, [.d (dI (x))]⟩, [], [19], []⟩, ⟨.t ⟨false, [.d (.sl 1 (ys.map encI))]⟩, [], [1], []⟩, ⟨.t ⟨false, [.d (dI (i : Int))]⟩, [], [5], []⟩, ⟨.t ⟨false, [.fe 1 (ys.map encI) i 0]⟩, [], [21, 22], []⟩, ⟨.t ⟨false, [.d (dI (y))]⟩, [], [23], []⟩, ⟨.t ⟨false, [.d (dB (decide ((x) ≠ (y))))]⟩, [], [20, 24], []⟩] mixed rfl rfl rfl rfl ⟨fun t h A => dy (zmv rfl (A.e rfl rfl rfl)), fun t h A => dy (zmv rfl (A.e rfl rfl rfl)), fun t h A => dy (zix tabOk rfl rfl rfl (A.e rfl rfl rfl) (A.e rfl rfl rfl) (ltm_of_some hxi)), fun t h A => dy (zle tabOk rfl (A.e rfl rfl rfl) (getm hxi) rfl rfl), fun t h A => dy (zmv rfl (A.e rfl rfl rfl)), fun t h A => dy (zmv rfl (A.e rfl rfl rfl)), fun t h A => dy (zix tabOk rfl rfl rfl (A.e rfl rfl rfl) (A.e rfl rfl rfl) (ltm_of_some hyi)), fun t h A => dy (zle tabOk rfl (A.e rfl rfl rfl) (getm hyi) rfl rfl), fun t h A => dy (y_bin rfl (A.e rfl rfl rfl) (A.e rfl rfl rfl) (fun _ => b_neq) rfl), trivial⟩ ?_
    refine s_end ?_
    refine v_cond (e rfl rfl) (fun hb3 => ?_) fun hb3 => ?_
    · refine v_seq ?_
      refine v_reg ?_
      refine sy _ (zas rfl (ec rfl)) rfl rfl ?_
      refine s_end ?_
      refine v_ret ?_
      have hr : decide (xs = ys) = false := by
        have hne : x ≠ y := by have := hb3; simpa using this
        simp only [decide_eq_false_iff_not]; intro h; subst h; rw [hxi] at hyi; injection hyi with hyi; exact hne hyi
      rw [hr]
      exact post_ret (rv (.tmp (eg rfl rfl)) rfl (.lf .nil) rfl .nil) (.ro (.ro .nil)) rfl
    refine v_skip ?_
    refine blk_norm ?_
    refine v_reg ?_
    refine sy _ (zmv rfl (e rfl rfl)) rfl rfl ?_
    refine sy (.t ⟨false, [.d (dI ((i : Int) + 1))]⟩) (y_bin rfl (e rfl rfl) (ec rfl) (fun _ => b_addn (by omega) (by omega)) rfl) rfl rfl ?_
    refine sy _ (zas rfl (e rfl rfl)) rfl rfl ?_
    refine s_end ?_
    have hxy : x = y := by have := hb3; simpa using this
    subst hxy
    exact lp_next (i + 1) ⟨hlt, by rw [List.take_add_one, List.take_add_one, hi.2, hxi, hyi]⟩ (by omega) ⟨rfl, rfl, rfl, trivial⟩ trivial rfl
  refine v_exit ?_
  refine then_exit ?_
  refine loop_exit ?_
  refine blk_hit ?_
  refine v_seq ?_
  refine v_reg ?_
  refine sy _ (zas rfl (ec rfl)) rfl rfl ?_
  refine s_end ?_
  refine v_ret ?_
  have hr : decide (xs = ys) = true := by
    have : i = xs.length := by have := hb2; simp at this; omega
    subst this
    have h5 := hi.2; rw [List.take_length, hlen, List.take_length] at h5; simpa using h5
  rw [hr]
  exact post_ret (rv (.tmp (eg rfl rfl)) rfl (.lf .nil) rfl .nil) (.ro (.ro .nil)) rfl
set_option maxRecDepth 20000 in
theorem tr_eqStringS (xs ys : List ByteArray) (hx : fitL fitS xs) (hy : fitL fitS ys) : Tr Try.prog 47 [.ro ⟨false, [.sl 1 (xs.map encS)]⟩, .ro ⟨false, [.sl 1 (ys.map encS)]⟩] [one (dB (decide (xs = ys)))] := by
  refine tr_go tabOk Try.func47 rfl rfl rfl rfl rfl (ov := [(0, .t ⟨false, [.d (.sl 1 (xs.map encS))]⟩), (1, .t ⟨false, [.d (.sl 1 (ys.map encS))]⟩)]) (hv := []) rfl rfl ?_
  refine v_seq ?_
  refine v_reg ?_
  refine sy _ (zas rfl (ec rfl)) rfl rfl ?_
  refine s_end ?_
  refine v_seq ?_
  refine v_seq ?_
  refine v_reg ?_
  refine sy _ (zmv rfl (e rfl rfl)) rfl rfl ?_
  refine sy (.t ⟨false, [.d (dI ((xs.map encS).length : Int))]⟩) (zln tabOk rfl rfl (e rfl rfl) .d) rfl rfl ?_
  refine sy _ (zmv rfl (e rfl rfl)) rfl rfl ?_
  refine sy (.t ⟨false, [.d (dI ((ys.map encS).length : Int))]⟩) (zln tabOk rfl rfl (e rfl rfl) .d) rfl rfl ?_
  refine sy (.t ⟨false, [.d (dB (decide ((((xs.map encS).length : Int)) ≠ (((ys.map encS).length : Int)))))]⟩) (y_bin rfl (e rfl rfl) (e rfl rfl) (fun _ => b_neq) rfl) rfl rfl ?_
  refine s_end ?_
  refine v_cond (e rfl rfl) (fun hb1 => ?_) fun hb1 => ?_
  · refine v_seq ?_
    refine v_reg ?_
    refine sy _ (zas rfl (ec rfl)) rfl rfl ?_
    refine s_end ?_
    refine v_ret ?_
    have hr : decide (xs = ys) = false := by simp at hb1 ⊢; intro h; subst h; exact hb1 rfl
    rw [hr]
    exact post_ret (rv (.tmp (eg rfl rfl)) rfl (.lf .nil) rfl .nil) (.ro (.ro .nil)) rfl
  have hlen : xs.length = ys.length := by have := hb1; simp at this; omega
  refine v_skip ?_
  refine v_seq ?_
  refine v_seq ?_
  refine v_reg ?_
  refine sy _ (zas rfl (ec rfl)) rfl rfl ?_
  refine s_end ?_
  refine v_block ?_
  have hB := hx.1
  refine v_lp (fun (i : Nat) => [(0, .t ⟨false, [.d (.sl 1 (xs.map encS))]⟩), (1, .t ⟨false, [.d (.sl 1 (ys.map encS))]⟩), (5, .t ⟨false, [.d (dI (i : Int))]⟩)]) (fun _ => []) (fun i => i ≤ xs.length ∧ xs.take i = ys.take i) (fun i => xs.length - i) 0 ⟨Nat.zero_le _, rfl⟩ ⟨rfl, rfl, rfl, trivial⟩ trivial rfl (fun i hi => ?_)
  refine v_seq ?_
  refine v_seq ?_
  refine v_reg ?_
  refine sy _ (zmv rfl (e rfl rfl)) rfl rfl ?_
  refine sy _ (zmv rfl (e rfl rfl)) rfl rfl ?_
  refine sy (.t ⟨false, [.d (dI ((xs.map encS).length : Int))]⟩) (zln tabOk rfl rfl (e rfl rfl) .d) rfl rfl ?_
  refine sy (.t ⟨false, [.d (dB (decide (((i : Int)) < (((xs.map encS).length : Int)))))]⟩) (y_bin rfl (e rfl rfl) (e rfl rfl) (fun _ => b_lss) rfl) rfl rfl ?_
  refine s_end ?_
  refine v_cond (e rfl rfl) (fun hb2 => ?_) fun hb2 => ?_
  · have hlt : i < xs.length := by simpa using hb2
    obtain ⟨x, hxi⟩ := some_of_lt hlt
    obtain ⟨y, hyi⟩ := some_of_lt (l := ys) (i := i) (by omega)
    refine v_skip ?_
    refine v_seq ?_
    refine v_block ?_
    refine v_seq ?_
    refine v_drw [⟨.t ⟨false, [.d (.sl 1 (xs.map encS))]⟩, [], [0], []⟩, ⟨.t ⟨false, [.d (dI (i : Int))]⟩, [], [5], []⟩, ⟨.t ⟨false, [.fe 1 (xs.map encS) i 0]⟩, [], [17, 18], []⟩, ⟨.t ⟨false, [.d (dS (x))]⟩, [], [19], []⟩, ⟨.t ⟨false, [.d (.sl 1 (ys.map encS))]⟩, [], [1], []⟩, ⟨.t ⟨false, [.d (dI (i : Int))]⟩, [], [5], []⟩, ⟨.t ⟨false, [.fe 1 (ys.map encS) i 0]⟩, [], [21, 22], []⟩, ⟨.t ⟨false, [.d (dS (y))]⟩, [], [23], []⟩, ⟨.t ⟨false, [.d (dB (decide ((x) ≠ (y))))]⟩, [], [20, 24], []⟩] mixed rfl rfl rfl rfl ⟨fun t h A => dy (zmv rfl (A.e rfl rfl rfl)), fun t h A => dy (zmv rfl (A.e rfl rfl rfl)), fun t h A => dy (zix tabOk rfl rfl rfl (A.e rfl rfl rfl) (A.e rfl rfl rfl) (ltm_of_some hxi)), fun t h A => dy (zle tabOk rfl (A.e rfl rfl rfl) (getm hxi) rfl rfl), fun t h A => dy (zmv rfl (A.e rfl rfl rfl)), fun t h A => dy (zmv rfl (A.e rfl rfl rfl)), fun t h A => dy (zix tabOk rfl rfl rfl (A.e rfl rfl rfl) (A.e rfl rfl rfl) (ltm_of_some hyi)), fun t h A => dy (zle tabOk rfl (A.e rfl rfl rfl) (getm hyi) rfl rfl), fun t h A => dy (y_bin rfl (A.e rfl rfl rfl) (A.e rfl rfl rfl) (fun _ => b_sneq) rfl), trivial⟩ ?_
    refine s_end ?_
    refine v_cond (e rfl rfl) (fun hb3 => ?_) fun hb3 => ?_
    · refine v_seq ?_
      refine v_reg ?_
      refine sy _ (zas rfl (ec rfl)) rfl rfl ?_
      refine s_end ?_
      refine v_ret ?_
      have hr : decide (xs = ys) = false := by
        have hne : x ≠ y := by have := hb3; simpa using this
        simp only [decide_eq_false_iff_not]; intro h; subst h; rw [hxi] at hyi; injection hyi with hyi; exact hne hyi
      rw [hr]
      exact post_ret (rv (.tmp (eg rfl rfl)) rfl (.lf .nil) rfl .nil) (.ro (.ro .nil)) rfl
    refine v_skip ?_
    refine blk_norm ?_
    refine v_reg ?_
    refine sy _ (zmv rfl (e rfl rfl)) rfl rfl ?_
    refine sy (.t ⟨false, [.d (dI ((i : Int) + 1))]⟩) (y_bin rfl (e rfl rfl) (ec rfl) (fun _ => b_addn (by omega) (by omega)) rfl) rfl rfl ?_
    refine sy _ (zas rfl (e rfl rfl)) rfl rfl ?_
    refine s_end ?_
    have hxy : x = y := by have := hb3; simpa using this
    subst hxy
    exact lp_next (i + 1) ⟨hlt, by rw [List.take_add_one, List.take_add_one, hi.2, hxi, hyi]⟩ (by omega) ⟨rfl, rfl, rfl, trivial⟩ trivial rfl
  refine v_exit ?_
  refine then_exit ?_
  refine loop_exit ?_
  refine blk_hit ?_
  refine v_seq ?_
  refine v_reg ?_
  refine sy _ (zas rfl (ec rfl)) rfl rfl ?_
  refine s_end ?_
  refine v_ret ?_
  have hr : decide (xs = ys) = true := by
    have : i = xs.length := by have := hb2; simp at this; omega
    subst this
    have h5 := hi.2; rw [List.take_length, hlen, List.take_length] at h5; simpa using h5
  rw [hr]
  exact post_ret (rv (.tmp (eg rfl rfl)) rfl (.lf .nil) rfl .nil) (.ro (.ro .nil)) rfl
set_option maxRecDepth 20000 in
theorem tr_eqExch (a b : Exch) (ha : a.Fit) (hb0 : b.Fit) : Tr Try.prog 48 [.ro ⟨true, [dI (a.Id), dI (a.Addr), dI (a.Try), dI (a.Due)]⟩, .ro ⟨true, [dI (b.Id), dI (b.Addr), dI (b.Try), dI (b.Due)]⟩] [one (dB (decide (a = b)))] := by
  refine tr_go tabOk Try.func48 rfl rfl rfl rfl rfl (ov := [(0, .t ⟨true, [.d (dI (a.Id)), .d (dI (a.Addr)), .d (dI (a.Try)), .d (dI (a.Due))]⟩), (1, .t ⟨true, [.d (dI (b.Id)), .d (dI (b.Addr)), .d (dI (b.Try)), .d (dI (b.Due))]⟩)]) (hv := []) rfl rfl ?_
  refine v_seq ?_
  refine v_reg ?_
  refine sr 0 (.t ⟨false, [.vp 0 0]⟩) (.var [.d (dI (a.Id)), .d (dI (a.Addr)), .d (dI (a.Try)), .d (dI (a.Due))]) (zbx rfl (e rfl rfl) rfl rfl rfl) rfl rfl ?_
  refine sr 1 (.t ⟨false, [.vp 1 0]⟩) (.var [.d (dI (b.Id)), .d (dI (b.Addr)), .d (dI (b.Try)), .d (dI (b.Due))]) (zbx rfl (e rfl rfl) rfl rfl rfl) rfl rfl ?_
  refine sy _ (zas rfl (ec rfl)) rfl rfl ?_
  refine s_end ?_
  refine v_seq ?_
  refine v_seq ?_
  refine v_reg ?_
  refine sy (.t ⟨false, [.vp 0 0]⟩) (zfa tabOk rfl rfl rfl (e rfl rfl) rfl rfl) rfl rfl ?_
  refine sy (.t ⟨false, [.d (dI (a.Id))]⟩) (zlv tabOk rfl (e rfl rfl) rfl rfl rfl) rfl rfl ?_
  refine sy (.t ⟨false, [.vp 1 0]⟩) (zfa tabOk rfl rfl rfl (e rfl rfl) rfl rfl) rfl rfl ?_
  refine sy (.t ⟨false, [.d (dI (b.Id))]⟩) (zlv tabOk rfl (e rfl rfl) rfl rfl rfl) rfl rfl ?_
  refine sy (.t ⟨false, [.d (dB (decide ((a.Id) ≠ (b.Id))))]⟩) (y_bin rfl (e rfl rfl) (e rfl rfl) (fun _ => b_neq) rfl) rfl rfl ?_
  refine s_end ?_
  refine v_cond (e rfl rfl) (fun hb1 => ?_) fun hb1 => ?_
  · refine v_seq ?_
    refine v_reg ?_
    refine sy _ (zas rfl (ec rfl)) rfl rfl ?_
    refine s_end ?_
    refine v_ret ?_
    have hr : decide (a = b) = false := by cases a; cases b; simp_all
    rw [hr]
    exact post_ret (rv (.tmp (eg rfl rfl)) rfl (.lf .nil) rfl .nil) (.ro (.ro .nil)) rfl
  refine v_skip ?_
  refine v_seq ?_
  refine v_seq ?_
  refine v_reg ?_
  refine sy (.t ⟨false, [.vp 0 1]⟩) (zfa tabOk rfl rfl rfl (e rfl rfl) rfl rfl) rfl rfl ?_
  refine sy (.t ⟨false, [.d (dI (a.Addr))]⟩) (zlv tabOk rfl (e rfl rfl) rfl rfl rfl) rfl rfl ?_
  refine sy (.t ⟨false, [.vp 1 1]⟩) (zfa tabOk rfl rfl rfl (e rfl rfl) rfl rfl) rfl rfl ?_
  refine sy (.t ⟨false, [.d (dI (b.Addr))]⟩) (zlv tabOk rfl (e rfl rfl) rfl rfl rfl) rfl rfl ?_
  refine sy (.t ⟨false, [.d (dB (decide ((a.Addr) ≠ (b.Addr))))]⟩) (y_bin rfl (e rfl rfl) (e rfl rfl) (fun _ => b_neq) rfl) rfl rfl ?_
  refine s_end ?_
  refine v_cond (e rfl rfl) (fun hb2 => ?_) fun hb2 => ?_
  · refine v_seq ?_
    refine v_reg ?_
    refine sy _ (zas rfl (ec rfl)) rfl rfl ?_
    refine s_end ?_
    refine v_ret ?_
    have hr : decide (a = b) = false := by cases a; cases b; simp_all
    rw [hr]
    exact post_ret (rv (.tmp (eg rfl rfl)) rfl (.lf .nil) rfl .nil) (.ro (.ro .nil)) rfl
  refine v_skip ?_
  refine v_seq ?_
  refine v_seq ?_
  refine v_reg ?_
  refine sy (.t ⟨false, [.vp 0 2]⟩) (zfa tabOk rfl rfl rfl (e rfl rfl) rfl rfl) rfl rfl ?_
  refine sy (.t ⟨false, [.d (dI (a.Try))]⟩) (zlv tabOk rfl (e rfl rfl) rfl rfl rfl) rfl rfl ?_
  refine sy (.t ⟨false, [.vp 1 2]⟩) (zfa tabOk rfl rfl rfl (e rfl rfl) rfl rfl) rfl rfl ?_
  refine sy (.t ⟨false, [.d (dI (b.Try))]⟩) (zlv tabOk rfl (e rfl rfl) rfl rfl rfl) rfl rfl ?_
  refine sy (.t ⟨false, [.d (dB (decide ((a.Try) ≠ (b.Try))))]⟩) (y_bin rfl (e rfl rfl) (e rfl rfl) (fun _ => b_neq) rfl) rfl rfl ?_
  refine s_end ?_
  refine v_cond (e rfl rfl) (fun hb3 => ?_) fun hb3 => ?_
  · refine v_seq ?_
    refine v_reg ?_
    refine sy _ (zas rfl (ec rfl)) rfl rfl ?_
    refine s_end ?_
    refine v_ret ?_
    have hr : decide (a = b) = false := by cases a; cases b; simp_all
    rw [hr]
    exact post_ret (rv (.tmp (eg rfl rfl)) rfl (.lf .nil) rfl .nil) (.ro (.ro .nil)) rfl
  refine v_skip ?_
  refine v_seq ?_
  refine v_seq ?_
  refine v_reg ?_
  refine sy (.t ⟨false, [.vp 0 3]⟩) (zfa tabOk rfl rfl rfl (e rfl rfl) rfl rfl) rfl rfl ?_
  refine sy (.t ⟨false, [.d (dI (a.Due))]⟩) (zlv tabOk rfl (e rfl rfl) rfl rfl rfl) rfl rfl ?_
  refine sy (.t ⟨false, [.vp 1 3]⟩) (zfa tabOk rfl rfl rfl (e rfl rfl) rfl rfl) rfl rfl ?_
  refine sy (.t ⟨false, [.d (dI (b.Due))]⟩) (zlv tabOk rfl (e rfl rfl) rfl rfl rfl) rfl rfl ?_
  refine sy (.t ⟨false, [.d (dB (decide ((a.Due) ≠ (b.Due))))]⟩) (y_bin rfl (e rfl rfl) (e rfl rfl) (fun _ => b_neq) rfl) rfl rfl ?_
  refine s_end ?_
  refine v_cond (e rfl rfl) (fun hb4 => ?_) fun hb4 => ?_
  · refine v_seq ?_
    refine v_reg ?_
    refine sy _ (zas rfl (ec rfl)) rfl rfl ?_
    refine s_end ?_
    refine v_ret ?_
    have hr : decide (a = b) = false := by cases a; cases b; simp_all
    rw [hr]
    exact post_ret (rv (.tmp (eg rfl rfl)) rfl (.lf .nil) rfl .nil) (.ro (.ro .nil)) rfl
  refine v_skip ?_
  refine v_seq ?_
  refine v_reg ?_
  refine sy _ (zas rfl (ec rfl)) rfl rfl ?_
  refine s_end ?_
  refine v_ret ?_
  have hr : decide (a = b) = true := by cases a; cases b; simp_all
  rw [hr]
  exact post_ret (rv (.tmp (eg rfl rfl)) rfl (.lf .nil) rfl .nil) (.ro (.ro .nil)) rfl
set_option maxRecDepth 20000 in
theorem tr_eqConf (a b : Conf) (ha : a.Fit) (hb0 : b.Fit) : Tr Try.prog 66 [.ro ⟨true, [dI (a.Quota), dI (a.Depth), dI (a.Chain), dI (a.Glue), dI (a.Tries), dI (a.Addrs), dI (a.Cap), .sl 1 (a.Roots.map encI)]⟩, .ro ⟨true, [dI (b.Quota), dI (b.Depth), dI (b.Chain), dI (b.Glue), dI (b.Tries), dI (b.Addrs), dI (b.Cap), .sl 1 (b.Roots.map encI)]⟩] [one (dB (decide (a = b)))] := by
  refine tr_go tabOk Try.func66 rfl rfl rfl rfl rfl (ov := [(0, .t ⟨true, [.d (dI (a.Quota)), .d (dI (a.Depth)), .d (dI (a.Chain)), .d (dI (a.Glue)), .d (dI (a.Tries)), .d (dI (a.Addrs)), .d (dI (a.Cap)), .d (.sl 1 (a.Roots.map encI))]⟩), (1, .t ⟨true, [.d (dI (b.Quota)), .d (dI (b.Depth)), .d (dI (b.Chain)), .d (dI (b.Glue)), .d (dI (b.Tries)), .d (dI (b.Addrs)), .d (dI (b.Cap)), .d (.sl 1 (b.Roots.map encI))]⟩)]) (hv := []) rfl rfl ?_
  refine v_seq ?_
  refine v_reg ?_
  refine sr 0 (.t ⟨false, [.vp 0 0]⟩) (.var [.d (dI (a.Quota)), .d (dI (a.Depth)), .d (dI (a.Chain)), .d (dI (a.Glue)), .d (dI (a.Tries)), .d (dI (a.Addrs)), .d (dI (a.Cap)), .d (.sl 1 (a.Roots.map encI))]) (zbx rfl (e rfl rfl) rfl rfl rfl) rfl rfl ?_
  refine sr 1 (.t ⟨false, [.vp 1 0]⟩) (.var [.d (dI (b.Quota)), .d (dI (b.Depth)), .d (dI (b.Chain)), .d (dI (b.Glue)), .d (dI (b.Tries)), .d (dI (b.Addrs)), .d (dI (b.Cap)), .d (.sl 1 (b.Roots.map encI))]) (zbx rfl (e rfl rfl) rfl rfl rfl) rfl rfl ?_
  refine sy _ (zas rfl (ec rfl)) rfl rfl ?_
  refine s_end ?_
  refine v_seq ?_
  refine v_seq ?_
  refine v_reg ?_
  refine sy (.t ⟨false, [.vp 0 0]⟩) (zfa tabOk rfl rfl rfl (e rfl rfl) rfl rfl) rfl rfl ?_
  refine sy (.t ⟨false, [.d (dI (a.Quota))]⟩) (zlv tabOk rfl (e rfl rfl) rfl rfl rfl) rfl rfl ?_
  refine sy (.t ⟨false, [.vp 1 0]⟩) (zfa tabOk rfl rfl rfl (e rfl rfl) rfl rfl) rfl rfl ?_
  refine sy (.t ⟨false, [.d (dI (b.Quota))]⟩) (zlv tabOk rfl (e rfl rfl) rfl rfl rfl) rfl rfl ?_
  refine sy (.t ⟨false, [.d (dB (decide ((a.Quota) ≠ (b.Quota))))]⟩) (y_bin rfl (e rfl rfl) (e rfl rfl) (fun _ => b_neq) rfl) rfl rfl ?_
  refine s_end ?_
  refine v_cond (e rfl rfl) (fun hb1 => ?_) fun hb1 => ?_
  · refine v_seq ?_
    refine v_reg ?_
    refine sy _ (zas rfl (ec rfl)) rfl rfl ?_
    refine s_end ?_
    refine v_ret ?_
    have hr : decide (a = b) = false := by cases a; cases b; simp_all
    rw [hr]
    exact post_ret (rv (.tmp (eg rfl rfl)) rfl (.lf .nil) rfl .nil) (.ro (.ro .nil)) rfl
  refine v_skip ?_
  refine v_seq ?_
  refine v_seq ?_
  refine v_reg ?_
  refine sy (.t ⟨false, [.vp 0 1]⟩) (zfa tabOk rfl rfl rfl (e rfl rfl) rfl rfl) rfl rfl ?_
  refine sy (.t ⟨false, [.d (dI (a.Depth))]⟩) (zlv tabOk rfl (e rfl rfl) rfl rfl rfl) rfl rfl ?_
  refine sy (.t ⟨false, [.vp 1 1]⟩) (zfa tabOk rfl rfl rfl (e rfl rfl) rfl rfl) rfl rfl ?_
  refine sy (.t ⟨false, [.d (dI (b.Depth))]⟩) (zlv tabOk rfl (e rfl rfl) rfl rfl rfl) rfl rfl ?_
  refine sy (.t ⟨false, [.d (dB (decide ((a.Depth) ≠ (b.Depth))))]⟩) (y_bin rfl (e rfl rfl) (e rfl rfl) (fun _ => b_neq) rfl) rfl rfl ?_
  refine s_end ?_
  refine v_cond (e rfl rfl) (fun hb2 => ?_) fun hb2 => ?_
  · refine v_seq ?_
    refine v_reg ?_
    refine sy _ (zas rfl (ec rfl)) rfl rfl ?_
    refine s_end ?_
    refine v_ret ?_
    have hr : decide (a = b) = false := by cases a; cases b; simp_all
    rw [hr]
    exact post_ret (rv (.tmp (eg rfl rfl)) rfl (.lf .nil) rfl .nil) (.ro (.ro .nil)) rfl
  refine v_skip ?_
  refine v_seq ?_
  refine v_seq ?_
  refine v_reg ?_
  refine sy (.t ⟨false, [.vp 0 2]⟩) (zfa tabOk rfl rfl rfl (e rfl rfl) rfl rfl) rfl rfl ?_
  refine sy (.t ⟨false, [.d (dI (a.Chain))]⟩) (zlv tabOk rfl (e rfl rfl) rfl rfl rfl) rfl rfl ?_
  refine sy (.t ⟨false, [.vp 1 2]⟩) (zfa tabOk rfl rfl rfl (e rfl rfl) rfl rfl) rfl rfl ?_
  refine sy (.t ⟨false, [.d (dI (b.Chain))]⟩) (zlv tabOk rfl (e rfl rfl) rfl rfl rfl) rfl rfl ?_
  refine sy (.t ⟨false, [.d (dB (decide ((a.Chain) ≠ (b.Chain))))]⟩) (y_bin rfl (e rfl rfl) (e rfl rfl) (fun _ => b_neq) rfl) rfl rfl ?_
  refine s_end ?_
  refine v_cond (e rfl rfl) (fun hb3 => ?_) fun hb3 => ?_
  · refine v_seq ?_
    refine v_reg ?_
    refine sy _ (zas rfl (ec rfl)) rfl rfl ?_
    refine s_end ?_
    refine v_ret ?_
    have hr : decide (a = b) = false := by cases a; cases b; simp_all
    rw [hr]
    exact post_ret (rv (.tmp (eg rfl rfl)) rfl (.lf .nil) rfl .nil) (.ro (.ro .nil)) rfl
  refine v_skip ?_
  refine v_seq ?_
  refine v_seq ?_
  refine v_reg ?_
  refine sy (.t ⟨false, [.vp 0 3]⟩) (zfa tabOk rfl rfl rfl (e rfl rfl) rfl rfl) rfl rfl ?_
  refine sy (.t ⟨false, [.d (dI (a.Glue))]⟩) (zlv tabOk rfl (e rfl rfl) rfl rfl rfl) rfl rfl ?_
  refine sy (.t ⟨false, [.vp 1 3]⟩) (zfa tabOk rfl rfl rfl (e rfl rfl) rfl rfl) rfl rfl ?_
  refine sy (.t ⟨false, [.d (dI (b.Glue))]⟩) (zlv tabOk rfl (e rfl rfl) rfl rfl rfl) rfl rfl ?_
  refine sy (.t ⟨false, [.d (dB (decide ((a.Glue) ≠ (b.Glue))))]⟩) (y_bin rfl (e rfl rfl) (e rfl rfl) (fun _ => b_neq) rfl) rfl rfl ?_
  refine s_end ?_
  refine v_cond (e rfl rfl) (fun hb4 => ?_) fun hb4 => ?_
  · refine v_seq ?_
    refine v_reg ?_
    refine sy _ (zas rfl (ec rfl)) rfl rfl ?_
    refine s_end ?_
    refine v_ret ?_
    have hr : decide (a = b) = false := by cases a; cases b; simp_all
    rw [hr]
    exact post_ret (rv (.tmp (eg rfl rfl)) rfl (.lf .nil) rfl .nil) (.ro (.ro .nil)) rfl
  refine v_skip ?_
  refine v_seq ?_
  refine v_seq ?_
  refine v_reg ?_
  refine sy (.t ⟨false, [.vp 0 4]⟩) (zfa tabOk rfl rfl rfl (e rfl rfl) rfl rfl) rfl rfl ?_
  refine sy (.t ⟨false, [.d (dI (a.Tries))]⟩) (zlv tabOk rfl (e rfl rfl) rfl rfl rfl) rfl rfl ?_
  refine sy (.t ⟨false, [.vp 1 4]⟩) (zfa tabOk rfl rfl rfl (e rfl rfl) rfl rfl) rfl rfl ?_
  refine sy (.t ⟨false, [.d (dI (b.Tries))]⟩) (zlv tabOk rfl (e rfl rfl) rfl rfl rfl) rfl rfl ?_
  refine sy (.t ⟨false, [.d (dB (decide ((a.Tries) ≠ (b.Tries))))]⟩) (y_bin rfl (e rfl rfl) (e rfl rfl) (fun _ => b_neq) rfl) rfl rfl ?_
  refine s_end ?_
  refine v_cond (e rfl rfl) (fun hb5 => ?_) fun hb5 => ?_
  · refine v_seq ?_
    refine v_reg ?_
    refine sy _ (zas rfl (ec rfl)) rfl rfl ?_
    refine s_end ?_
    refine v_ret ?_
    have hr : decide (a = b) = false := by cases a; cases b; simp_all
    rw [hr]
    exact post_ret (rv (.tmp (eg rfl rfl)) rfl (.lf .nil) rfl .nil) (.ro (.ro .nil)) rfl
  refine v_skip ?_
  refine v_seq ?_
  refine v_seq ?_
  refine v_reg ?_
  refine sy (.t ⟨false, [.vp 0 5]⟩) (zfa tabOk rfl rfl rfl (e rfl rfl) rfl rfl) rfl rfl ?_
  refine sy (.t ⟨false, [.d (dI (a.Addrs))]⟩) (zlv tabOk rfl (e rfl rfl) rfl rfl rfl) rfl rfl ?_
  refine sy (.t ⟨false, [.vp 1 5]⟩) (zfa tabOk rfl rfl rfl (e rfl rfl) rfl rfl) rfl rfl ?_
  refine sy (.t ⟨false, [.d (dI (b.Addrs))]⟩) (zlv tabOk rfl (e rfl rfl) rfl rfl rfl) rfl rfl ?_
  refine sy (.t ⟨false, [.d (dB (decide ((a.Addrs) ≠ (b.Addrs))))]⟩) (y_bin rfl (e rfl rfl) (e rfl rfl) (fun _ => b_neq) rfl) rfl rfl ?_
  refine s_end ?_
  refine v_cond (e rfl rfl) (fun hb6 => ?_) fun hb6 => ?_
  · refine v_seq ?_
    refine v_reg ?_
    refine sy _ (zas rfl (ec rfl)) rfl rfl ?_
    refine s_end ?_
    refine v_ret ?_
    have hr : decide (a = b) = false := by cases a; cases b; simp_all
    rw [hr]
    exact post_ret (rv (.tmp (eg rfl rfl)) rfl (.lf .nil) rfl .nil) (.ro (.ro .nil)) rfl
  refine v_skip ?_
  refine v_seq ?_
  refine v_seq ?_
  refine v_reg ?_
  refine sy (.t ⟨false, [.vp 0 6]⟩) (zfa tabOk rfl rfl rfl (e rfl rfl) rfl rfl) rfl rfl ?_
  refine sy (.t ⟨false, [.d (dI (a.Cap))]⟩) (zlv tabOk rfl (e rfl rfl) rfl rfl rfl) rfl rfl ?_
  refine sy (.t ⟨false, [.vp 1 6]⟩) (zfa tabOk rfl rfl rfl (e rfl rfl) rfl rfl) rfl rfl ?_
  refine sy (.t ⟨false, [.d (dI (b.Cap))]⟩) (zlv tabOk rfl (e rfl rfl) rfl rfl rfl) rfl rfl ?_
  refine sy (.t ⟨false, [.d (dB (decide ((a.Cap) ≠ (b.Cap))))]⟩) (y_bin rfl (e rfl rfl) (e rfl rfl) (fun _ => b_neq) rfl) rfl rfl ?_
  refine s_end ?_
  refine v_cond (e rfl rfl) (fun hb7 => ?_) fun hb7 => ?_
  · refine v_seq ?_
    refine v_reg ?_
    refine sy _ (zas rfl (ec rfl)) rfl rfl ?_
    refine s_end ?_
    refine v_ret ?_
    have hr : decide (a = b) = false := by cases a; cases b; simp_all
    rw [hr]
    exact post_ret (rv (.tmp (eg rfl rfl)) rfl (.lf .nil) rfl .nil) (.ro (.ro .nil)) rfl
  refine v_skip ?_
  refine v_seq ?_
  refine v_seq ?_
  refine v_reg ?_
  refine sy (.t ⟨false, [.vp 0 7]⟩) (zfa tabOk rfl rfl rfl (e rfl rfl) rfl rfl) rfl rfl ?_
  refine sy (.t ⟨false, [.d (.sl 1 (a.Roots.map encI))]⟩) (zlv tabOk rfl (e rfl rfl) rfl rfl rfl) rfl rfl ?_
  refine sy (.t ⟨false, [.vp 1 7]⟩) (zfa tabOk rfl rfl rfl (e rfl rfl) rfl rfl) rfl rfl ?_
  refine sy (.t ⟨false, [.d (.sl 1 (b.Roots.map encI))]⟩) (zlv tabOk rfl (e rfl rfl) rfl rfl rfl) rfl rfl ?_
  refine sd (.t ⟨false, [.d (dB (decide (a.Roots = b.Roots)))]⟩) (zcall 2 (.t ⟨false, [.d (dB (decide (a.Roots = b.Roots)))]⟩) [] rfl (tr_eqIntS a.Roots b.Roots ha.Roots hb0.Roots) (ar (e rfl rfl) (.d .nil) (ar (e rfl rfl) (.d .nil) .nil)) rfl rfl rfl) rfl rfl rfl rfl ?_
  refine sy (.t ⟨false, [.d (dB (!(decide (a.Roots = b.Roots))))]⟩) (y_un rfl (e rfl rfl) (fun _ => u_not) rfl) rfl rfl ?_
  refine s_end ?_
  refine v_cond (e rfl rfl) (fun hb8 => ?_) fun hb8 => ?_
  · refine v_seq ?_
    refine v_reg ?_
    refine sy _ (zas rfl (ec rfl)) rfl rfl ?_
    refine s_end ?_
    refine v_ret ?_
    have hr : decide (a = b) = false := by cases a; cases b; simp_all
    rw [hr]
    exact post_ret (rv (.tmp (eg rfl rfl)) rfl (.lf .nil) rfl .nil) (.ro (.ro .nil)) rfl
  refine v_skip ?_
  refine v_seq ?_
  refine v_reg ?_
  refine sy _ (zas rfl (ec rfl)) rfl rfl ?_
  refine s_end ?_
  refine v_ret ?_
  have hr : decide (a = b) = true := by cases a; cases b; simp_all
  rw [hr]
  exact post_ret (rv (.tmp (eg rfl rfl)) rfl (.lf .nil) rfl .nil) (.ro (.ro .nil)) rfl
set_option maxRecDepth 20000 in
theorem tr_eqRecord (a b : Record) (ha : a.Fit) (hb0 : b.Fit) : Tr Try.prog 82 [.ro ⟨true, [dS (a.Name), dI (a.Typ), dI (a.Ttl), dI (a.N), dS (a.Host), dS (a.Text)]⟩, .ro ⟨true, [dS (b.Name), dI (b.Typ), dI (b.Ttl), dI (b.N), dS (b.Host), dS (b.Text)]⟩] [one (dB (decide (a = b)))] := by
  refine tr_go tabOk Try.func82 rfl rfl rfl rfl rfl (ov := [(0, .t ⟨true, [.d (dS (a.Name)), .d (dI (a.Typ)), .d (dI (a.Ttl)), .d (dI (a.N)), .d (dS (a.Host)), .d (dS (a.Text))]⟩), (1, .t ⟨true, [.d (dS (b.Name)), .d (dI (b.Typ)), .d (dI (b.Ttl)), .d (dI (b.N)), .d (dS (b.Host)), .d (dS (b.Text))]⟩)]) (hv := []) rfl rfl ?_
  refine v_seq ?_
  refine v_reg ?_
  refine sr 0 (.t ⟨false, [.vp 0 0]⟩) (.var [.d (dS (a.Name)), .d (dI (a.Typ)), .d (dI (a.Ttl)), .d (dI (a.N)), .d (dS (a.Host)), .d (dS (a.Text))]) (zbx rfl (e rfl rfl) rfl rfl rfl) rfl rfl ?_
  refine sr 1 (.t ⟨false, [.vp 1 0]⟩) (.var [.d (dS (b.Name)), .d (dI (b.Typ)), .d (dI (b.Ttl)), .d (dI (b.N)), .d (dS (b.Host)), .d (dS (b.Text))]) (zbx rfl (e rfl rfl) rfl rfl rfl) rfl rfl ?_
  refine sy _ (zas rfl (ec rfl)) rfl rfl ?_
  refine s_end ?_
  refine v_seq ?_
  refine v_seq ?_
  refine v_reg ?_
  refine sy (.t ⟨false, [.vp 0 0]⟩) (zfa tabOk rfl rfl rfl (e rfl rfl) rfl rfl) rfl rfl ?_
  refine sy (.t ⟨false, [.d (dS (a.Name))]⟩) (zlv tabOk rfl (e rfl rfl) rfl rfl rfl) rfl rfl ?_
  refine sy (.t ⟨false, [.vp 1 0]⟩) (zfa tabOk rfl rfl rfl (e rfl rfl) rfl rfl) rfl rfl ?_
  refine sy (.t ⟨false, [.d (dS (b.Name))]⟩) (zlv tabOk rfl (e rfl rfl) rfl rfl rfl) rfl rfl ?_
  refine sy (.t ⟨false, [.d (dB (decide ((a.Name) ≠ (b.Name))))]⟩) (y_bin rfl (e rfl rfl) (e rfl rfl) (fun _ => b_sneq) rfl) rfl rfl ?_
  refine s_end ?_
  refine v_cond (e rfl rfl) (fun hb1 => ?_) fun hb1 => ?_
  · refine v_seq ?_
    refine v_reg ?_
    refine sy _ (zas rfl (ec rfl)) rfl rfl ?_
    refine s_end ?_
    refine v_ret ?_
    have hr : decide (a = b) = false := by cases a; cases b; simp_all
    rw [hr]
    exact post_ret (rv (.tmp (eg rfl rfl)) rfl (.lf .nil) rfl .nil) (.ro (.ro .nil)) rfl
  refine v_skip ?_
  refine v_seq ?_
  refine v_seq ?_
  refine v_reg ?_
  refine sy (.t ⟨false, [.vp 0 1]⟩) (zfa tabOk rfl rfl rfl (e rfl rfl) rfl rfl) rfl rfl ?_
  refine sy (.t ⟨false, [.d (dI (a.Typ))]⟩) (zlv tabOk rfl (e rfl rfl) rfl rfl rfl) rfl rfl ?_
  refine sy (.t ⟨false, [.vp 1 1]⟩) (zfa tabOk rfl rfl rfl (e rfl rfl) rfl rfl) rfl rfl ?_
  refine sy (.t ⟨false, [.d (dI (b.Typ))]⟩) (zlv tabOk rfl (e rfl rfl) rfl rfl rfl) rfl rfl ?_
  refine sy (.t ⟨false, [.d (dB (decide ((a.Typ) ≠ (b.Typ))))]⟩) (y_bin rfl (e rfl rfl) (e rfl rfl) (fun _ => b_neq) rfl) rfl rfl ?_
  refine s_end ?_
  refine v_cond (e rfl rfl) (fun hb2 => ?_) fun hb2 => ?_
  · refine v_seq ?_
    refine v_reg ?_
    refine sy _ (zas rfl (ec rfl)) rfl rfl ?_
    refine s_end ?_
    refine v_ret ?_
    have hr : decide (a = b) = false := by cases a; cases b; simp_all
    rw [hr]
    exact post_ret (rv (.tmp (eg rfl rfl)) rfl (.lf .nil) rfl .nil) (.ro (.ro .nil)) rfl
  refine v_skip ?_
  refine v_seq ?_
  refine v_seq ?_
  refine v_reg ?_
  refine sy (.t ⟨false, [.vp 0 2]⟩) (zfa tabOk rfl rfl rfl (e rfl rfl) rfl rfl) rfl rfl ?_
  refine sy (.t ⟨false, [.d (dI (a.Ttl))]⟩) (zlv tabOk rfl (e rfl rfl) rfl rfl rfl) rfl rfl ?_
  refine sy (.t ⟨false, [.vp 1 2]⟩) (zfa tabOk rfl rfl rfl (e rfl rfl) rfl rfl) rfl rfl ?_
  refine sy (.t ⟨false, [.d (dI (b.Ttl))]⟩) (zlv tabOk rfl (e rfl rfl) rfl rfl rfl) rfl rfl ?_
  refine sy (.t ⟨false, [.d (dB (decide ((a.Ttl) ≠ (b.Ttl))))]⟩) (y_bin rfl (e rfl rfl) (e rfl rfl) (fun _ => b_neq) rfl) rfl rfl ?_
  refine s_end ?_
  refine v_cond (e rfl rfl) (fun hb3 => ?_) fun hb3 => ?_
  · refine v_seq ?_
    refine v_reg ?_
    refine sy _ (zas rfl (ec rfl)) rfl rfl ?_
    refine s_end ?_
    refine v_ret ?_
    have hr : decide (a = b) = false := by cases a; cases b; simp_all
    rw [hr]
    exact post_ret (rv (.tmp (eg rfl rfl)) rfl (.lf .nil) rfl .nil) (.ro (.ro .nil)) rfl
  refine v_skip ?_
  refine v_seq ?_
  refine v_seq ?_
  refine v_reg ?_
  refine sy (.t ⟨false, [.vp 0 3]⟩) (zfa tabOk rfl rfl rfl (e rfl rfl) rfl rfl) rfl rfl ?_
  refine sy (.t ⟨false, [.d (dI (a.N))]⟩) (zlv tabOk rfl (e rfl rfl) rfl rfl rfl) rfl rfl ?_
  refine sy (.t ⟨false, [.vp 1 3]⟩) (zfa tabOk rfl rfl rfl (e rfl rfl) rfl rfl) rfl rfl ?_
  refine sy (.t ⟨false, [.d (dI (b.N))]⟩) (zlv tabOk rfl (e rfl rfl) rfl rfl rfl) rfl rfl ?_
  refine sy (.t ⟨false, [.d (dB (decide ((a.N) ≠ (b.N))))]⟩) (y_bin rfl (e rfl rfl) (e rfl rfl) (fun _ => b_neq) rfl) rfl rfl ?_
  refine s_end ?_
  refine v_cond (e rfl rfl) (fun hb4 => ?_) fun hb4 => ?_
  · refine v_seq ?_
    refine v_reg ?_
    refine sy _ (zas rfl (ec rfl)) rfl rfl ?_
    refine s_end ?_
    refine v_ret ?_
    have hr : decide (a = b) = false := by cases a; cases b; simp_all
    rw [hr]
    exact post_ret (rv (.tmp (eg rfl rfl)) rfl (.lf .nil) rfl .nil) (.ro (.ro .nil)) rfl
  refine v_skip ?_
  refine v_seq ?_
  refine v_seq ?_
  refine v_reg ?_
  refine sy (.t ⟨false, [.vp 0 4]⟩) (zfa tabOk rfl rfl rfl (e rfl rfl) rfl rfl) rfl rfl ?_
  refine sy (.t ⟨false, [.d (dS (a.Host))]⟩) (zlv tabOk rfl (e rfl rfl) rfl rfl rfl) rfl rfl ?_
  refine sy (.t ⟨false, [.vp 1 4]⟩) (zfa tabOk rfl rfl rfl (e rfl rfl) rfl rfl) rfl rfl ?_
  refine sy (.t ⟨false, [.d (dS (b.Host))]⟩) (zlv tabOk rfl (e rfl rfl) rfl rfl rfl) rfl rfl ?_
  refine sy (.t ⟨false, [.d (dB (decide ((a.Host) ≠ (b.Host))))]⟩) (y_bin rfl (e rfl rfl) (e rfl rfl) (fun _ => b_sneq) rfl) rfl rfl ?_
  refine s_end ?_
  refine v_cond (e rfl rfl) (fun hb5 => ?_) fun hb5 => ?_
  · refine v_seq ?_
    refine v_reg ?_
    refine sy _ (zas rfl (ec rfl)) rfl rfl ?_
    refine s_end ?_
    refine v_ret ?_
    have hr : decide (a = b) = false := by cases a; cases b; simp_all
    rw [hr]
    exact post_ret (rv (.tmp (eg rfl rfl)) rfl (.lf .nil) rfl .nil) (.ro (.ro .nil)) rfl
  refine v_skip ?_
  refine v_seq ?_
  refine v_seq ?_
  refine v_reg ?_
  refine sy (.t ⟨false, [.vp 0 5]⟩) (zfa tabOk rfl rfl rfl (e rfl rfl) rfl rfl) rfl rfl ?_
  refine sy (.t ⟨false, [.d (dS (a.Text))]⟩) (zlv tabOk rfl (e rfl rfl) rfl rfl rfl) rfl rfl ?_
  refine sy (.t ⟨false, [.vp 1 5]⟩) (zfa tabOk rfl rfl rfl (e rfl rfl) rfl rfl) rfl rfl ?_
  refine sy (.t ⟨false, [.d (dS (b.Text))]⟩) (zlv tabOk rfl (e rfl rfl) rfl rfl rfl) rfl rfl ?_
  refine sy (.t ⟨false, [.d (dB (decide ((a.Text) ≠ (b.Text))))]⟩) (y_bin rfl (e rfl rfl) (e rfl rfl) (fun _ => b_sneq) rfl) rfl rfl ?_
  refine s_end ?_
  refine v_cond (e rfl rfl) (fun hb6 => ?_) fun hb6 => ?_
  · refine v_seq ?_
    refine v_reg ?_
    refine sy _ (zas rfl (ec rfl)) rfl rfl ?_
    refine s_end ?_
    refine v_ret ?_
    have hr : decide (a = b) = false := by cases a; cases b; simp_all
    rw [hr]
    exact post_ret (rv (.tmp (eg rfl rfl)) rfl (.lf .nil) rfl .nil) (.ro (.ro .nil)) rfl
  refine v_skip ?_
  refine v_seq ?_
  refine v_reg ?_
  refine sy _ (zas rfl (ec rfl)) rfl rfl ?_
  refine s_end ?_
  refine v_ret ?_
  have hr : decide (a = b) = true := by cases a; cases b; simp_all
  rw [hr]
  exact post_ret (rv (.tmp (eg rfl rfl)) rfl (.lf .nil) rfl .nil) (.ro (.ro .nil)) rfl
set_option maxRecDepth 20000 in
theorem tr_eqRecordS (xs ys : List Record) (hx : fitL Record.Fit xs) (hy : fitL Record.Fit ys) : Tr Try.prog 45 [.ro ⟨false, [.sl 6 (xs.map Record.cells)]⟩, .ro ⟨false, [.sl 6 (ys.map Record.cells)]⟩] [one (dB (decide (xs = ys)))] := by
  refine tr_go tabOk Try.func45 rfl rfl rfl rfl rfl (ov := [(0, .t ⟨false, [.d (.sl 6 (xs.map Record.cells))]⟩), (1, .t ⟨false, [.d (.sl 6 (ys.map Record.cells))]⟩)]) (hv := []) rfl rfl ?_
  refine v_seq ?_
  refine v_reg ?_
  refine sy _ (zas rfl (ec rfl)) rfl rfl ?_
  refine s_end ?_
  refine v_seq ?_
  refine v_seq ?_
  refine v_reg ?_
  refine sy _ (zmv rfl (e rfl rfl)) rfl rfl ?_
  refine sy (.t ⟨false, [.d (dI ((xs.map Record.cells).length : Int))]⟩) (zln tabOk rfl rfl (e rfl rfl) .d) rfl rfl ?_
  refine sy _ (zmv rfl (e rfl rfl)) rfl rfl ?_
  refine sy (.t ⟨false, [.d (dI ((ys.map Record.cells).length : Int))]⟩) (zln tabOk rfl rfl (e rfl rfl) .d) rfl rfl ?_
  refine sy (.t ⟨false, [.d (dB (decide ((((xs.map Record.cells).length : Int)) ≠ (((ys.map Record.cells).length : Int)))))]⟩) (y_bin rfl (e rfl rfl) (e rfl rfl) (fun _ => b_neq) rfl) rfl rfl ?_
  refine s_end ?_
  refine v_cond (e rfl rfl) (fun hb1 => ?_) fun hb1 => ?_
  · refine v_seq ?_
    refine v_reg ?_
    refine sy _ (zas rfl (ec rfl)) rfl rfl ?_
    refine s_end ?_
    refine v_ret ?_
    have hr : decide (xs = ys) = false := by simp at hb1 ⊢; intro h; subst h; exact hb1 rfl
    rw [hr]
    exact post_ret (rv (.tmp (eg rfl rfl)) rfl (.lf .nil) rfl .nil) (.ro (.ro .nil)) rfl
  have hlen : xs.length = ys.length := by have := hb1; simp at this; omega
  refine v_skip ?_
  refine v_seq ?_
  refine v_seq ?_
  refine v_reg ?_
  refine sy _ (zas rfl (ec rfl)) rfl rfl ?_
  refine s_end ?_
  refine v_block ?_
  have hB := hx.1
  refine v_lp (fun (i : Nat) => [(0, .t ⟨false, [.d (.sl 6 (xs.map Record.cells))]⟩), (1, .t ⟨false, [.d (.sl 6 (ys.map Record.cells))]⟩), (5, .t ⟨false, [.d (dI (i : Int))]⟩)]) (fun _ => []) (fun i => i ≤ xs.length ∧ xs.take i = ys.take i) (fun i => xs.length - i) 0 ⟨Nat.zero_le _, rfl⟩ ⟨rfl, rfl, rfl, trivial⟩ trivial rfl (fun i hi => ?_)
  refine v_seq ?_
  refine v_seq ?_
  refine v_reg ?_
  refine sy _ (zmv rfl (e rfl rfl)) rfl rfl ?_
  refine sy _ (zmv rfl (e rfl rfl)) rfl rfl ?_
  refine sy (.t ⟨false, [.d (dI ((xs.map Record.cells).length : Int))]⟩) (zln tabOk rfl rfl (e rfl rfl) .d) rfl rfl ?_
  refine sy (.t ⟨false, [.d (dB (decide (((i : Int)) < (((xs.map Record.cells).length : Int)))))]⟩) (y_bin rfl (e rfl rfl) (e rfl rfl) (fun _ => b_lss) rfl) rfl rfl ?_
  refine s_end ?_
  refine v_cond (e rfl rfl) (fun hb2 => ?_) fun hb2 => ?_
  · have hlt : i < xs.length := by simpa using hb2
    obtain ⟨x, hxi⟩ := some_of_lt hlt
    obtain ⟨y, hyi⟩ := some_of_lt (l := ys) (i := i) (by omega)
    refine v_skip ?_
    refine v_seq ?_
    refine v_block ?_
    refine v_seq ?_
    refine v_drw [⟨.t ⟨false, [.d (.sl 6 (xs.map Record.cells))]⟩, [], [0], []⟩, ⟨.t ⟨false, [.d (dI (i : Int))]⟩, [], [5], []⟩, ⟨.t ⟨false, [.fe 6 (xs.map Record.cells) i 0]⟩, [], [17, 18], []⟩, ⟨.t ⟨true, [.d (dS (x.Name)), .d (dI (x.Typ)), .d (dI (x.Ttl)), .d (dI (x.N)), .d (dS (x.Host)), .d (dS (x.Text))]⟩, [], [19], []⟩, ⟨.t ⟨false, [.d (.sl 6 (ys.map Record.cells))]⟩, [], [1], []⟩, ⟨.t ⟨false, [.d (dI (i : Int))]⟩, [], [5], []⟩, ⟨.t ⟨false, [.fe 6 (ys.map Record.cells) i 0]⟩, [], [21, 22], []⟩, ⟨.t ⟨true, [.d (dS (y.Name)), .d (dI (y.Typ)), .d (dI (y.Ttl)), .d (dI (y.N)), .d (dS (y.Host)), .d (dS (y.Text))]⟩, [], [23], []⟩, ⟨.t ⟨false, [.d (dB (decide (x = y)))]⟩, [], [20, 24], []⟩, ⟨.t ⟨false, [.d (dB (!(decide (x = y))))]⟩, [], [25], []⟩] mixed rfl rfl rfl rfl ⟨fun t h A => dy (zmv rfl (A.e rfl rfl rfl)), fun t h A => dy (zmv rfl (A.e rfl rfl rfl)), fun t h A => dy (zix tabOk rfl rfl rfl (A.e rfl rfl rfl) (A.e rfl rfl rfl) (ltm_of_some hxi)), fun t h A => dy (zle tabOk rfl (A.e rfl rfl rfl) (getm hxi) rfl rfl), fun t h A => dy (zmv rfl (A.e rfl rfl rfl)), fun t h A => dy (zmv rfl (A.e rfl rfl rfl)), fun t h A => dy (zix tabOk rfl rfl rfl (A.e rfl rfl rfl) (A.e rfl rfl rfl) (ltm_of_some hyi)), fun t h A => dy (zle tabOk rfl (A.e rfl rfl rfl) (getm hyi) rfl rfl), fun t h A => zcallA 0 (.t ⟨false, [.d (dB (decide (x = y)))]⟩) [] rfl (tr_eqRecord x y ((hx.2 _ (List.mem_of_getElem? hxi))) ((hy.2 _ (List.mem_of_getElem? hyi)))) (ar (A.e rfl rfl rfl) (.d (.d (.d (.d (.d (.d .nil)))))) (ar (A.e rfl rfl rfl) (.d (.d (.d (.d (.d (.d .nil)))))) .nil)) rfl (free0 rfl) rfl rfl, fun t h A => dy (y_un rfl (A.e rfl rfl rfl) (fun _ => u_not) rfl), trivial⟩ ?_
    refine s_end ?_
    refine v_cond (e rfl rfl) (fun hb3 => ?_) fun hb3 => ?_
    · refine v_seq ?_
      refine v_reg ?_
      refine sy _ (zas rfl (ec rfl)) rfl rfl ?_
      refine s_end ?_
      refine v_ret ?_
      have hr : decide (xs = ys) = false := by
        have hne : x ≠ y := by have := hb3; simpa using this
        simp only [decide_eq_false_iff_not]; intro h; subst h; rw [hxi] at hyi; injection hyi with hyi; exact hne hyi
      rw [hr]
      exact post_ret (rv (.tmp (eg rfl rfl)) rfl (.lf .nil) rfl .nil) (.ro (.ro .nil)) rfl
    refine v_skip ?_
    refine blk_norm ?_
    refine v_reg ?_
    refine sy _ (zmv rfl (e rfl rfl)) rfl rfl ?_
    refine sy (.t ⟨false, [.d (dI ((i : Int) + 1))]⟩) (y_bin rfl (e rfl rfl) (ec rfl) (fun _ => b_addn (by omega) (by omega)) rfl) rfl rfl ?_
    refine sy _ (zas rfl (e rfl rfl)) rfl rfl ?_
    refine s_end ?_
    have hxy : x = y := by have := hb3; simpa using this
    subst hxy
    exact lp_next (i + 1) ⟨hlt, by rw [List.take_add_one, List.take_add_one, hi.2, hxi, hyi]⟩ (by omega) ⟨rfl, rfl, rfl, trivial⟩ trivial rfl
  refine v_exit ?_
  refine then_exit ?_
  refine loop_exit ?_
  refine blk_hit ?_
  refine v_seq ?_
  refine v_reg ?_
  refine sy _ (zas rfl (ec rfl)) rfl rfl ?_
  refine s_end ?_
  refine v_ret ?_
  have hr : decide (xs = ys) = true := by
    have : i = xs.length := by have := hb2; simp at this; omega
    subst this
    have h5 := hi.2; rw [List.take_length, hlen, List.take_length] at h5; simpa using h5
  rw [hr]
  exact post_ret (rv (.tmp (eg rfl rfl)) rfl (.lf .nil) rfl .nil) (.ro (.ro .nil)) rfl
set_option maxRecDepth 20000 in
theorem tr_eqFrame (a b : Frame) (ha : a.Fit) (hb0 : b.Fit) : Tr Try.prog 19 [.ro ⟨true, [dS (a.Ask.Name), dI (a.Ask.Typ), dS (a.Q.Name), dI (a.Q.Typ), .sl 6 (a.Links.map Record.cells), dS (a.Apex), .sl 1 (a.Servers.map encI), .sl 1 (a.Need.map encS), dI (a.Down), dI (a.Left), dI (a.Pc), dI (a.X.Id), dI (a.X.Addr), dI (a.X.Try), dI (a.X.Due)]⟩, .ro ⟨true, [dS (b.Ask.Name), dI (b.Ask.Typ), dS (b.Q.Name), dI (b.Q.Typ), .sl 6 (b.Links.map Record.cells), dS (b.Apex), .sl 1 (b.Servers.map encI), .sl 1 (b.Need.map encS), dI (b.Down), dI (b.Left), dI (b.Pc), dI (b.X.Id), dI (b.X.Addr), dI (b.X.Try), dI (b.X.Due)]⟩] [one (dB (decide (a = b)))] := by
  refine tr_go tabOk Try.func19 rfl rfl rfl rfl rfl (ov := [(0, .t ⟨true, [.d (dS (a.Ask.Name)), .d (dI (a.Ask.Typ)), .d (dS (a.Q.Name)), .d (dI (a.Q.Typ)), .d (.sl 6 (a.Links.map Record.cells)), .d (dS (a.Apex)), .d (.sl 1 (a.Servers.map encI)), .d (.sl 1 (a.Need.map encS)), .d (dI (a.Down)), .d (dI (a.Left)), .d (dI (a.Pc)), .d (dI (a.X.Id)), .d (dI (a.X.Addr)), .d (dI (a.X.Try)), .d (dI (a.X.Due))]⟩), (1, .t ⟨true, [.d (dS (b.Ask.Name)), .d (dI (b.Ask.Typ)), .d (dS (b.Q.Name)), .d (dI (b.Q.Typ)), .d (.sl 6 (b.Links.map Record.cells)), .d (dS (b.Apex)), .d (.sl 1 (b.Servers.map encI)), .d (.sl 1 (b.Need.map encS)), .d (dI (b.Down)), .d (dI (b.Left)), .d (dI (b.Pc)), .d (dI (b.X.Id)), .d (dI (b.X.Addr)), .d (dI (b.X.Try)), .d (dI (b.X.Due))]⟩)]) (hv := []) rfl rfl ?_
  refine v_seq ?_
  refine v_reg ?_
  refine sr 0 (.t ⟨false, [.vp 0 0]⟩) (.var [.d (dS (a.Ask.Name)), .d (dI (a.Ask.Typ)), .d (dS (a.Q.Name)), .d (dI (a.Q.Typ)), .d (.sl 6 (a.Links.map Record.cells)), .d (dS (a.Apex)), .d (.sl 1 (a.Servers.map encI)), .d (.sl 1 (a.Need.map encS)), .d (dI (a.Down)), .d (dI (a.Left)), .d (dI (a.Pc)), .d (dI (a.X.Id)), .d (dI (a.X.Addr)), .d (dI (a.X.Try)), .d (dI (a.X.Due))]) (zbx rfl (e rfl rfl) rfl rfl rfl) rfl rfl ?_
  refine sr 1 (.t ⟨false, [.vp 1 0]⟩) (.var [.d (dS (b.Ask.Name)), .d (dI (b.Ask.Typ)), .d (dS (b.Q.Name)), .d (dI (b.Q.Typ)), .d (.sl 6 (b.Links.map Record.cells)), .d (dS (b.Apex)), .d (.sl 1 (b.Servers.map encI)), .d (.sl 1 (b.Need.map encS)), .d (dI (b.Down)), .d (dI (b.Left)), .d (dI (b.Pc)), .d (dI (b.X.Id)), .d (dI (b.X.Addr)), .d (dI (b.X.Try)), .d (dI (b.X.Due))]) (zbx rfl (e rfl rfl) rfl rfl rfl) rfl rfl ?_
  refine sy _ (zas rfl (ec rfl)) rfl rfl ?_
  refine s_end ?_
  refine v_seq ?_
  refine v_seq ?_
  refine v_reg ?_
  refine sy (.t ⟨false, [.vp 0 0]⟩) (zfa tabOk rfl rfl rfl (e rfl rfl) rfl rfl) rfl rfl ?_
  refine sy (.t ⟨true, [.d (dS (a.Ask.Name)), .d (dI (a.Ask.Typ))]⟩) (zlv tabOk rfl (e rfl rfl) rfl rfl rfl) rfl rfl ?_
  refine sy (.t ⟨false, [.vp 1 0]⟩) (zfa tabOk rfl rfl rfl (e rfl rfl) rfl rfl) rfl rfl ?_
  refine sy (.t ⟨true, [.d (dS (b.Ask.Name)), .d (dI (b.Ask.Typ))]⟩) (zlv tabOk rfl (e rfl rfl) rfl rfl rfl) rfl rfl ?_
  refine sd (.t ⟨false, [.d (dB (decide (a.Ask = b.Ask)))]⟩) (zcall 2 (.t ⟨false, [.d (dB (decide (a.Ask = b.Ask)))]⟩) [] rfl (tr_eqQuest a.Ask b.Ask ha.Ask hb0.Ask) (ar (e rfl rfl) (.d (.d .nil)) (ar (e rfl rfl) (.d (.d .nil)) .nil)) rfl rfl rfl) rfl rfl rfl rfl ?_
  refine sy (.t ⟨false, [.d (dB (!(decide (a.Ask = b.Ask))))]⟩) (y_un rfl (e rfl rfl) (fun _ => u_not) rfl) rfl rfl ?_
  refine s_end ?_
  refine v_cond (e rfl rfl) (fun hb1 => ?_) fun hb1 => ?_
  · refine v_seq ?_
    refine v_reg ?_
    refine sy _ (zas rfl (ec rfl)) rfl rfl ?_
    refine s_end ?_
    refine v_ret ?_
    have hr : decide (a = b) = false := by cases a; cases b; simp_all
    rw [hr]
    exact post_ret (rv (.tmp (eg rfl rfl)) rfl (.lf .nil) rfl .nil) (.ro (.ro .nil)) rfl
  refine v_skip ?_
  refine v_seq ?_
  refine v_seq ?_
  refine v_reg ?_
  refine sy (.t ⟨false, [.vp 0 2]⟩) (zfa tabOk rfl rfl rfl (e rfl rfl) rfl rfl) rfl rfl ?_
  refine sy (.t ⟨true, [.d (dS (a.Q.Name)), .d (dI (a.Q.Typ))]⟩) (zlv tabOk rfl (e rfl rfl) rfl rfl rfl) rfl rfl ?_
  refine sy (.t ⟨false, [.vp 1 2]⟩) (zfa tabOk rfl rfl rfl (e rfl rfl) rfl rfl) rfl rfl ?_
  refine sy (.t ⟨true, [.d (dS (b.Q.Name)), .d (dI (b.Q.Typ))]⟩) (zlv tabOk rfl (e rfl rfl) rfl rfl rfl) rfl rfl ?_
  refine sd (.t ⟨false, [.d (dB (decide (a.Q = b.Q)))]⟩) (zcall 2 (.t ⟨false, [.d (dB (decide (a.Q = b.Q)))]⟩) [] rfl (tr_eqQuest a.Q b.Q ha.Q hb0.Q) (ar (e rfl rfl) (.d (.d .nil)) (ar (e rfl rfl) (.d (.d .nil)) .nil)) rfl rfl rfl) rfl rfl rfl rfl ?_
  refine sy (.t ⟨false, [.d (dB (!(decide (a.Q = b.Q))))]⟩) (y_un rfl (e rfl rfl) (fun _ => u_not) rfl) rfl rfl ?_
  refine s_end ?_
  refine v_cond (e rfl rfl) (fun hb2 => ?_) fun hb2 => ?_
  · refine v_seq ?_
    refine v_reg ?_
    refine sy _ (zas rfl (ec rfl)) rfl rfl ?_
    refine s_end ?_
    refine v_ret ?_
    have hr : decide (a = b) = false := by cases a; cases b; simp_all
    rw [hr]
    exact post_ret (rv (.tmp (eg rfl rfl)) rfl (.lf .nil) rfl .nil) (.ro (.ro .nil)) rfl
  refine v_skip ?_
  refine v_seq ?_
  refine v_seq ?_
  refine v_reg ?_
  refine sy (.t ⟨false, [.vp 0 4]⟩) (zfa tabOk rfl rfl rfl (e rfl rfl) rfl rfl) rfl rfl ?_
  refine sy (.t ⟨false, [.d (.sl 6 (a.Links.map Record.cells))]⟩) (zlv tabOk rfl (e rfl rfl) rfl rfl rfl) rfl rfl ?_
  refine sy (.t ⟨false, [.vp 1 4]⟩) (zfa tabOk rfl rfl rfl (e rfl rfl) rfl rfl) rfl rfl ?_
  refine sy (.t ⟨false, [.d (.sl 6 (b.Links.map Record.cells))]⟩) (zlv tabOk rfl (e rfl rfl) rfl rfl rfl) rfl rfl ?_
  refine sd (.t ⟨false, [.d (dB (decide (a.Links = b.Links)))]⟩) (zcall 2 (.t ⟨false, [.d (dB (decide (a.Links = b.Links)))]⟩) [] rfl (tr_eqRecordS a.Links b.Links ha.Links hb0.Links) (ar (e rfl rfl) (.d .nil) (ar (e rfl rfl) (.d .nil) .nil)) rfl rfl rfl) rfl rfl rfl rfl ?_
  refine sy (.t ⟨false, [.d (dB (!(decide (a.Links = b.Links))))]⟩) (y_un rfl (e rfl rfl) (fun _ => u_not) rfl) rfl rfl ?_
  refine s_end ?_
  refine v_cond (e rfl rfl) (fun hb3 => ?_) fun hb3 => ?_
  · refine v_seq ?_
    refine v_reg ?_
    refine sy _ (zas rfl (ec rfl)) rfl rfl ?_
    refine s_end ?_
    refine v_ret ?_
    have hr : decide (a = b) = false := by cases a; cases b; simp_all
    rw [hr]
    exact post_ret (rv (.tmp (eg rfl rfl)) rfl (.lf .nil) rfl .nil) (.ro (.ro .nil)) rfl
  refine v_skip ?_
  refine v_seq ?_
  refine v_seq ?_
  refine v_reg ?_
  refine sy (.t ⟨false, [.vp 0 5]⟩) (zfa tabOk rfl rfl rfl (e rfl rfl) rfl rfl) rfl rfl ?_
  refine sy (.t ⟨false, [.d (dS (a.Apex))]⟩) (zlv tabOk rfl (e rfl rfl) rfl rfl rfl) rfl rfl ?_
  refine sy (.t ⟨false, [.vp 1 5]⟩) (zfa tabOk rfl rfl rfl (e rfl rfl) rfl rfl) rfl rfl ?_
  refine sy (.t ⟨false, [.d (dS (b.Apex))]⟩) (zlv tabOk rfl (e rfl rfl) rfl rfl rfl) rfl rfl ?_
  refine sy (.t ⟨false, [.d (dB (decide ((a.Apex) ≠ (b.Apex))))]⟩) (y_bin rfl (e rfl rfl) (e rfl rfl) (fun _ => b_sneq) rfl) rfl rfl ?_
  refine s_end ?_
  refine v_cond (e rfl rfl) (fun hb4 => ?_) fun hb4 => ?_
  · refine v_seq ?_
    refine v_reg ?_
    refine sy _ (zas rfl (ec rfl)) rfl rfl ?_
    refine s_end ?_
    refine v_ret ?_
    have hr : decide (a = b) = false := by cases a; cases b; simp_all
    rw [hr]
    exact post_ret (rv (.tmp (eg rfl rfl)) rfl (.lf .nil) rfl .nil) (.ro (.ro .nil)) rfl
  refine v_skip ?_
  refine v_seq ?_
  refine v_seq ?_
  refine v_reg ?_
  refine sy (.t ⟨false, [.vp 0 6]⟩) (zfa tabOk rfl rfl rfl (e rfl rfl) rfl rfl) rfl rfl ?_
  refine sy (.t ⟨false, [.d (.sl 1 (a.Servers.map encI))]⟩) (zlv tabOk rfl (e rfl rfl) rfl rfl rfl) rfl rfl ?_
  refine sy (.t ⟨false, [.vp 1 6]⟩) (zfa tabOk rfl rfl rfl (e rfl rfl) rfl rfl) rfl rfl ?_
  refine sy (.t ⟨false, [.d (.sl 1 (b.Servers.map encI))]⟩) (zlv tabOk rfl (e rfl rfl) rfl rfl rfl) rfl rfl ?_
  refine sd (.t ⟨false, [.d (dB (decide (a.Servers = b.Servers)))]⟩) (zcall 2 (.t ⟨false, [.d (dB (decide (a.Servers = b.Servers)))]⟩) [] rfl (tr_eqIntS a.Servers b.Servers ha.Servers hb0.Servers) (ar (e rfl rfl) (.d .nil) (ar (e rfl rfl) (.d .nil) .nil)) rfl rfl rfl) rfl rfl rfl rfl ?_
  refine sy (.t ⟨false, [.d (dB (!(decide (a.Servers = b.Servers))))]⟩) (y_un rfl (e rfl rfl) (fun _ => u_not) rfl) rfl rfl ?_
  refine s_end ?_
  refine v_cond (e rfl rfl) (fun hb5 => ?_) fun hb5 => ?_
  · refine v_seq ?_
    refine v_reg ?_
    refine sy _ (zas rfl (ec rfl)) rfl rfl ?_
    refine s_end ?_
    refine v_ret ?_
    have hr : decide (a = b) = false := by cases a; cases b; simp_all
    rw [hr]
    exact post_ret (rv (.tmp (eg rfl rfl)) rfl (.lf .nil) rfl .nil) (.ro (.ro .nil)) rfl
  refine v_skip ?_
  refine v_seq ?_
  refine v_seq ?_
  refine v_reg ?_
  refine sy (.t ⟨false, [.vp 0 7]⟩) (zfa tabOk rfl rfl rfl (e rfl rfl) rfl rfl) rfl rfl ?_
  refine sy (.t ⟨false, [.d (.sl 1 (a.Need.map encS))]⟩) (zlv tabOk rfl (e rfl rfl) rfl rfl rfl) rfl rfl ?_
  refine sy (.t ⟨false, [.vp 1 7]⟩) (zfa tabOk rfl rfl rfl (e rfl rfl) rfl rfl) rfl rfl ?_
  refine sy (.t ⟨false, [.d (.sl 1 (b.Need.map encS))]⟩) (zlv tabOk rfl (e rfl rfl) rfl rfl rfl) rfl rfl ?_
  refine sd (.t ⟨false, [.d (dB (decide (a.Need = b.Need)))]⟩) (zcall 2 (.t ⟨false, [.d (dB (decide (a.Need = b.Need)))]⟩) [] rfl (tr_eqStringS a.Need b.Need ha.Need hb0.Need) (ar (e rfl rfl) (.d .nil) (ar (e rfl rfl) (.d .nil) .nil)) rfl rfl rfl) rfl rfl rfl rfl ?_
  refine sy (.t ⟨false, [.d (dB (!(decide (a.Need = b.Need))))]⟩) (y_un rfl (e rfl rfl) (fun _ => u_not) rfl) rfl rfl ?_
  refine s_end ?_
  refine v_cond (e rfl rfl) (fun hb6 => ?_) fun hb6 => ?_
  · refine v_seq ?_
    refine v_reg ?_
    refine sy _ (zas rfl (ec rfl)) rfl rfl ?_
    refine s_end ?_
    refine v_ret ?_
    have hr : decide (a = b) = false := by cases a; cases b; simp_all
    rw [hr]
    exact post_ret (rv (.tmp (eg rfl rfl)) rfl (.lf .nil) rfl .nil) (.ro (.ro .nil)) rfl
  refine v_skip ?_
  refine v_seq ?_
  refine v_seq ?_
  refine v_reg ?_
  refine sy (.t ⟨false, [.vp 0 8]⟩) (zfa tabOk rfl rfl rfl (e rfl rfl) rfl rfl) rfl rfl ?_
  refine sy (.t ⟨false, [.d (dI (a.Down))]⟩) (zlv tabOk rfl (e rfl rfl) rfl rfl rfl) rfl rfl ?_
  refine sy (.t ⟨false, [.vp 1 8]⟩) (zfa tabOk rfl rfl rfl (e rfl rfl) rfl rfl) rfl rfl ?_
  refine sy (.t ⟨false, [.d (dI (b.Down))]⟩) (zlv tabOk rfl (e rfl rfl) rfl rfl rfl) rfl rfl ?_
  refine sy (.t ⟨false, [.d (dB (decide ((a.Down) ≠ (b.Down))))]⟩) (y_bin rfl (e rfl rfl) (e rfl rfl) (fun _ => b_neq) rfl) rfl rfl ?_
  refine s_end ?_
  refine v_cond (e rfl rfl) (fun hb7 => ?_) fun hb7 => ?_
  · refine v_seq ?_
    refine v_reg ?_
    refine sy _ (zas rfl (ec rfl)) rfl rfl ?_
    refine s_end ?_
    refine v_ret ?_
    have hr : decide (a = b) = false := by cases a; cases b; simp_all
    rw [hr]
    exact post_ret (rv (.tmp (eg rfl rfl)) rfl (.lf .nil) rfl .nil) (.ro (.ro .nil)) rfl
  refine v_skip ?_
  refine v_seq ?_
  refine v_seq ?_
  refine v_reg ?_
  refine sy (.t ⟨false, [.vp 0 9]⟩) (zfa tabOk rfl rfl rfl (e rfl rfl) rfl rfl) rfl rfl ?_
  refine sy (.t ⟨false, [.d (dI (a.Left))]⟩) (zlv tabOk rfl (e rfl rfl) rfl rfl rfl) rfl rfl ?_
  refine sy (.t ⟨false, [.vp 1 9]⟩) (zfa tabOk rfl rfl rfl (e rfl rfl) rfl rfl) rfl rfl ?_
  refine sy (.t ⟨false, [.d (dI (b.Left))]⟩) (zlv tabOk rfl (e rfl rfl) rfl rfl rfl) rfl rfl ?_
  refine sy (.t ⟨false, [.d (dB (decide ((a.Left) ≠ (b.Left))))]⟩) (y_bin rfl (e rfl rfl) (e rfl rfl) (fun _ => b_neq) rfl) rfl rfl ?_
  refine s_end ?_
  refine v_cond (e rfl rfl) (fun hb8 => ?_) fun hb8 => ?_
  · refine v_seq ?_
    refine v_reg ?_
    refine sy _ (zas rfl (ec rfl)) rfl rfl ?_
    refine s_end ?_
    refine v_ret ?_
    have hr : decide (a = b) = false := by cases a; cases b; simp_all
    rw [hr]
    exact post_ret (rv (.tmp (eg rfl rfl)) rfl (.lf .nil) rfl .nil) (.ro (.ro .nil)) rfl
  refine v_skip ?_
  refine v_seq ?_
  refine v_seq ?_
  refine v_reg ?_
  refine sy (.t ⟨false, [.vp 0 10]⟩) (zfa tabOk rfl rfl rfl (e rfl rfl) rfl rfl) rfl rfl ?_
  refine sy (.t ⟨false, [.d (dI (a.Pc))]⟩) (zlv tabOk rfl (e rfl rfl) rfl rfl rfl) rfl rfl ?_
  refine sy (.t ⟨false, [.vp 1 10]⟩) (zfa tabOk rfl rfl rfl (e rfl rfl) rfl rfl) rfl rfl ?_
  refine sy (.t ⟨false, [.d (dI (b.Pc))]⟩) (zlv tabOk rfl (e rfl rfl) rfl rfl rfl) rfl rfl ?_
  refine sy (.t ⟨false, [.d (dB (decide ((a.Pc) ≠ (b.Pc))))]⟩) (y_bin rfl (e rfl rfl) (e rfl rfl) (fun _ => b_neq) rfl) rfl rfl ?_
  refine s_end ?_
  refine v_cond (e rfl rfl) (fun hb9 => ?_) fun hb9 => ?_
  · refine v_seq ?_
    refine v_reg ?_
    refine sy _ (zas rfl (ec rfl)) rfl rfl ?_
    refine s_end ?_
    refine v_ret ?_
    have hr : decide (a = b) = false := by cases a; cases b; simp_all
    rw [hr]
    exact post_ret (rv (.tmp (eg rfl rfl)) rfl (.lf .nil) rfl .nil) (.ro (.ro .nil)) rfl
  refine v_skip ?_
  refine v_seq ?_
  refine v_seq ?_
  refine v_reg ?_
  refine sy (.t ⟨false, [.vp 0 11]⟩) (zfa tabOk rfl rfl rfl (e rfl rfl) rfl rfl) rfl rfl ?_
  refine sy (.t ⟨true, [.d (dI (a.X.Id)), .d (dI (a.X.Addr)), .d (dI (a.X.Try)), .d (dI (a.X.Due))]⟩) (zlv tabOk rfl (e rfl rfl) rfl rfl rfl) rfl rfl ?_
  refine sy (.t ⟨false, [.vp 1 11]⟩) (zfa tabOk rfl rfl rfl (e rfl rfl) rfl rfl) rfl rfl ?_
  refine sy (.t ⟨true, [.d (dI (b.X.Id)), .d (dI (b.X.Addr)), .d (dI (b.X.Try)), .d (dI (b.X.Due))]⟩) (zlv tabOk rfl (e rfl rfl) rfl rfl rfl) rfl rfl ?_
  refine sd (.t ⟨false, [.d (dB (decide (a.X = b.X)))]⟩) (zcall 2 (.t ⟨false, [.d (dB (decide (a.X = b.X)))]⟩) [] rfl (tr_eqExch a.X b.X ha.X hb0.X) (ar (e rfl rfl) (.d (.d (.d (.d .nil)))) (ar (e rfl rfl) (.d (.d (.d (.d .nil)))) .nil)) rfl rfl rfl) rfl rfl rfl rfl ?_
  refine sy (.t ⟨false, [.d (dB (!(decide (a.X = b.X))))]⟩) (y_un rfl (e rfl rfl) (fun _ => u_not) rfl) rfl rfl ?_
  refine s_end ?_
  refine v_cond (e rfl rfl) (fun hb10 => ?_) fun hb10 => ?_
  · refine v_seq ?_
    refine v_reg ?_
    refine sy _ (zas rfl (ec rfl)) rfl rfl ?_
    refine s_end ?_
    refine v_ret ?_
    have hr : decide (a = b) = false := by cases a; cases b; simp_all
    rw [hr]
    exact post_ret (rv (.tmp (eg rfl rfl)) rfl (.lf .nil) rfl .nil) (.ro (.ro .nil)) rfl
  refine v_skip ?_
  refine v_seq ?_
  refine v_reg ?_
  refine sy _ (zas rfl (ec rfl)) rfl rfl ?_
  refine s_end ?_
  refine v_ret ?_
  have hr : decide (a = b) = true := by cases a; cases b; simp_all
  rw [hr]
  exact post_ret (rv (.tmp (eg rfl rfl)) rfl (.lf .nil) rfl .nil) (.ro (.ro .nil)) rfl
set_option maxRecDepth 20000 in
theorem tr_eqFrameS (xs ys : List Frame) (hx : fitL Frame.Fit xs) (hy : fitL Frame.Fit ys) : Tr Try.prog 33 [.ro ⟨false, [.sl 15 (xs.map Frame.cells)]⟩, .ro ⟨false, [.sl 15 (ys.map Frame.cells)]⟩] [one (dB (decide (xs = ys)))] := by
  refine tr_go tabOk Try.func33 rfl rfl rfl rfl rfl (ov := [(0, .t ⟨false, [.d (.sl 15 (xs.map Frame.cells))]⟩), (1, .t ⟨false, [.d (.sl 15 (ys.map Frame.cells))]⟩)]) (hv := []) rfl rfl ?_
  refine v_seq ?_
  refine v_reg ?_
  refine sy _ (zas rfl (ec rfl)) rfl rfl ?_
  refine s_end ?_
  refine v_seq ?_
  refine v_seq ?_
  refine v_reg ?_
  refine sy _ (zmv rfl (e rfl rfl)) rfl rfl ?_
  refine sy (.t ⟨false, [.d (dI ((xs.map Frame.cells).length : Int))]⟩) (zln tabOk rfl rfl (e rfl rfl) .d) rfl rfl ?_
  refine sy _ (zmv rfl (e rfl rfl)) rfl rfl ?_
  refine sy (.t ⟨false, [.d (dI ((ys.map Frame.cells).length : Int))]⟩) (zln tabOk rfl rfl (e rfl rfl) .d) rfl rfl ?_
  refine sy (.t ⟨false, [.d (dB (decide ((((xs.map Frame.cells).length : Int)) ≠ (((ys.map Frame.cells).length : Int)))))]⟩) (y_bin rfl (e rfl rfl) (e rfl rfl) (fun _ => b_neq) rfl) rfl rfl ?_
  refine s_end ?_
  refine v_cond (e rfl rfl) (fun hb1 => ?_) fun hb1 => ?_
  · refine v_seq ?_
    refine v_reg ?_
    refine sy _ (zas rfl (ec rfl)) rfl rfl ?_
    refine s_end ?_
    refine v_ret ?_
    have hr : decide (xs = ys) = false := by simp at hb1 ⊢; intro h; subst h; exact hb1 rfl
    rw [hr]
    exact post_ret (rv (.tmp (eg rfl rfl)) rfl (.lf .nil) rfl .nil) (.ro (.ro .nil)) rfl
  have hlen : xs.length = ys.length := by have := hb1; simp at this; omega
  refine v_skip ?_
  refine v_seq ?_
  refine v_seq ?_
  refine v_reg ?_
  refine sy _ (zas rfl (ec rfl)) rfl rfl ?_
  refine s_end ?_
  refine v_block ?_
  have hB := hx.1
  refine v_lp (fun (i : Nat) => [(0, .t ⟨false, [.d (.sl 15 (xs.map Frame.cells))]⟩), (1, .t ⟨false, [.d (.sl 15 (ys.map Frame.cells))]⟩), (5, .t ⟨false, [.d (dI (i : Int))]⟩)]) (fun _ => []) (fun i => i ≤ xs.length ∧ xs.take i = ys.take i) (fun i => xs.length - i) 0 ⟨Nat.zero_le _, rfl⟩ ⟨rfl, rfl, rfl, trivial⟩ trivial rfl (fun i hi => ?_)
  refine v_seq ?_
  refine v_seq ?_
  refine v_reg ?_
  refine sy _ (zmv rfl (e rfl rfl)) rfl rfl ?_
  refine sy _ (zmv rfl (e rfl rfl)) rfl rfl ?_
  refine sy (.t ⟨false, [.d (dI ((xs.map Frame.cells).length : Int))]⟩) (zln tabOk rfl rfl (e rfl rfl) .d) rfl rfl ?_
  refine sy (.t ⟨false, [.d (dB (decide (((i : Int)) < (((xs.map Frame.cells).length : Int)))))]⟩) (y_bin rfl (e rfl rfl) (e rfl rfl) (fun _ => b_lss) rfl) rfl rfl ?_
  refine s_end ?_
  refine v_cond (e rfl rfl) (fun hb2 => ?_) fun hb2 => ?_
  · have hlt : i < xs.length := by simpa using hb2
    obtain ⟨x, hxi⟩ := some_of_lt hlt
    obtain ⟨y, hyi⟩ := some_of_lt (l := ys) (i := i) (by omega)
    refine v_skip ?_
    refine v_seq ?_
    refine v_block ?_
    refine v_seq ?_
    refine v_drw [⟨.t ⟨false, [.d (.sl 15 (xs.map Frame.cells))]⟩, [], [0], []⟩, ⟨.t ⟨false, [.d (dI (i : Int))]⟩, [], [5], []⟩, ⟨.t ⟨false, [.fe 15 (xs.map Frame.cells) i 0]⟩, [], [17, 18], []⟩, ⟨.t ⟨true, [.d (dS (x.Ask.Name)), .d (dI (x.Ask.Typ)), .d (dS (x.Q.Name)), .d (dI (x.Q.Typ)), .d (.sl 6 (x.Links.map Record.cells)), .d (dS (x.Apex)), .d (.sl 1 (x.Servers.map encI)), .d (.sl 1 (x.Need.map encS)), .d (dI (x.Down)), .d (dI (x.Left)), .d (dI (x.Pc)), .d (dI (x.X.Id)), .d (dI (x.X.Addr)), .d (dI (x.X.Try)), .d (dI (x.X.Due))]⟩, [], [19], []⟩, ⟨.t ⟨false, [.d (.sl 15 (ys.map Frame.cells))]⟩, [], [1], []⟩, ⟨.t ⟨false, [.d (dI (i : Int))]⟩, [], [5], []⟩, ⟨.t ⟨false, [.fe 15 (ys.map Frame.cells) i 0]⟩, [], [21, 22], []⟩, ⟨.t ⟨true, [.d (dS (y.Ask.Name)), .d (dI (y.Ask.Typ)), .d (dS (y.Q.Name)), .d (dI (y.Q.Typ)), .d (.sl 6 (y.Links.map Record.cells)), .d (dS (y.Apex)), .d (.sl 1 (y.Servers.map encI)), .d (.sl 1 (y.Need.map encS)), .d (dI (y.Down)), .d (dI (y.Left)), .d (dI (y.Pc)), .d (dI (y.X.Id)), .d (dI (y.X.Addr)), .d (dI (y.X.Try)), .d (dI (y.X.Due))]⟩, [], [23], []⟩, ⟨.t ⟨false, [.d (dB (decide (x = y)))]⟩, [], [20, 24], []⟩, ⟨.t ⟨false, [.d (dB (!(decide (x = y))))]⟩, [], [25], []⟩] mixed rfl rfl rfl rfl ⟨fun t h A => dy (zmv rfl (A.e rfl rfl rfl)), fun t h A => dy (zmv rfl (A.e rfl rfl rfl)), fun t h A => dy (zix tabOk rfl rfl rfl (A.e rfl rfl rfl) (A.e rfl rfl rfl) (ltm_of_some hxi)), fun t h A => dy (zle tabOk rfl (A.e rfl rfl rfl) (getm hxi) rfl rfl), fun t h A => dy (zmv rfl (A.e rfl rfl rfl)), fun t h A => dy (zmv rfl (A.e rfl rfl rfl)), fun t h A => dy (zix tabOk rfl rfl rfl (A.e rfl rfl rfl) (A.e rfl rfl rfl) (ltm_of_some hyi)), fun t h A => dy (zle tabOk rfl (A.e rfl rfl rfl) (getm hyi) rfl rfl), fun t h A => zcallA 0 (.t ⟨false, [.d (dB (decide (x = y)))]⟩) [] rfl (tr_eqFrame x y ((hx.2 _ (List.mem_of_getElem? hxi))) ((hy.2 _ (List.mem_of_getElem? hyi)))) (ar (A.e rfl rfl rfl) (.d (.d (.d (.d (.d (.d (.d (.d (.d (.d (.d (.d (.d (.d (.d .nil))))))))))))))) (ar (A.e rfl rfl rfl) (.d (.d (.d (.d (.d (.d (.d (.d (.d (.d (.d (.d (.d (.d (.d .nil))))))))))))))) .nil)) rfl (free0 rfl) rfl rfl, fun t h A => dy (y_un rfl (A.e rfl rfl rfl) (fun _ => u_not) rfl), trivial⟩ ?_
    refine s_end ?_
    refine v_cond (e rfl rfl) (fun hb3 => ?_) fun hb3 => ?_
    · refine v_seq ?_
      refine v_reg ?_
      refine sy _ (zas rfl (ec rfl)) rfl rfl ?_
      refine s_end ?_
      refine v_ret ?_
      have hr : decide (xs = ys) = false := by
        have hne : x ≠ y := by have := hb3; simpa using this
        simp only [decide_eq_false_iff_not]; intro h; subst h; rw [hxi] at hyi; injection hyi with hyi; exact hne hyi
      rw [hr]
      exact post_ret (rv (.tmp (eg rfl rfl)) rfl (.lf .nil) rfl .nil) (.ro (.ro .nil)) rfl
    refine v_skip ?_
    refine blk_norm ?_
    refine v_reg ?_
    refine sy _ (zmv rfl (e rfl rfl)) rfl rfl ?_
    refine sy (.t ⟨false, [.d (dI ((i : Int) + 1))]⟩) (y_bin rfl (e rfl rfl) (ec rfl) (fun _ => b_addn (by omega) (by omega)) rfl) rfl rfl ?_
    refine sy _ (zas rfl (e rfl rfl)) rfl rfl ?_
    refine s_end ?_
    have hxy : x = y := by have := hb3; simpa using this
    subst hxy
    exact lp_next (i + 1) ⟨hlt, by rw [List.take_add_one, List.take_add_one, hi.2, hxi, hyi]⟩ (by omega) ⟨rfl, rfl, rfl, trivial⟩ trivial rfl
  refine v_exit ?_
  refine then_exit ?_
  refine loop_exit ?_
  refine blk_hit ?_
  refine v_seq ?_
  refine v_reg ?_
  refine sy _ (zas rfl (ec rfl)) rfl rfl ?_
  refine s_end ?_
  refine v_ret ?_
  have hr : decide (xs = ys) = true := by
    have : i = xs.length := by have := hb2; simp at this; omega
    subst this
    have h5 := hi.2; rw [List.take_length, hlen, List.take_length] at h5; simpa using h5
  rw [hr]
  exact post_ret (rv (.tmp (eg rfl rfl)) rfl (.lf .nil) rfl .nil) (.ro (.ro .nil)) rfl
set_option maxRecDepth 20000 in
theorem tr_eqJob (a b : Job) (ha : a.Fit) (hb0 : b.Fit) : Tr Try.prog 12 [.ro ⟨true, [dI (a.No), dI (a.Client), dS (a.Ask.Name), dI (a.Ask.Typ), dI (a.Sent), dI (a.Fetched), .sl 15 (a.Stack.map Frame.cells)]⟩, .ro ⟨true, [dI (b.No), dI (b.Client), dS (b.Ask.Name), dI (b.Ask.Typ), dI (b.Sent), dI (b.Fetched), .sl 15 (b.Stack.map Frame.cells)]⟩] [one (dB (decide (a = b)))] := by
  refine tr_go tabOk Try.func12 rfl rfl rfl rfl rfl (ov := [(0, .t ⟨true, [.d (dI (a.No)), .d (dI (a.Client)), .d (dS (a.Ask.Name)), .d (dI (a.Ask.Typ)), .d (dI (a.Sent)), .d (dI (a.Fetched)), .d (.sl 15 (a.Stack.map Frame.cells))]⟩), (1, .t ⟨true, [.d (dI (b.No)), .d (dI (b.Client)), .d (dS (b.Ask.Name)), .d (dI (b.Ask.Typ)), .d (dI (b.Sent)), .d (dI (b.Fetched)), .d (.sl 15 (b.Stack.map Frame.cells))]⟩)]) (hv := []) rfl rfl ?_
  refine v_seq ?_
  refine v_reg ?_
  refine sr 0 (.t ⟨false, [.vp 0 0]⟩) (.var [.d (dI (a.No)), .d (dI (a.Client)), .d (dS (a.Ask.Name)), .d (dI (a.Ask.Typ)), .d (dI (a.Sent)), .d (dI (a.Fetched)), .d (.sl 15 (a.Stack.map Frame.cells))]) (zbx rfl (e rfl rfl) rfl rfl rfl) rfl rfl ?_
  refine sr 1 (.t ⟨false, [.vp 1 0]⟩) (.var [.d (dI (b.No)), .d (dI (b.Client)), .d (dS (b.Ask.Name)), .d (dI (b.Ask.Typ)), .d (dI (b.Sent)), .d (dI (b.Fetched)), .d (.sl 15 (b.Stack.map Frame.cells))]) (zbx rfl (e rfl rfl) rfl rfl rfl) rfl rfl ?_
  refine sy _ (zas rfl (ec rfl)) rfl rfl ?_
  refine s_end ?_
  refine v_seq ?_
  refine v_seq ?_
  refine v_reg ?_
  refine sy (.t ⟨false, [.vp 0 0]⟩) (zfa tabOk rfl rfl rfl (e rfl rfl) rfl rfl) rfl rfl ?_
  refine sy (.t ⟨false, [.d (dI (a.No))]⟩) (zlv tabOk rfl (e rfl rfl) rfl rfl rfl) rfl rfl ?_
  refine sy (.t ⟨false, [.vp 1 0]⟩) (zfa tabOk rfl rfl rfl (e rfl rfl) rfl rfl) rfl rfl ?_
  refine sy (.t ⟨false, [.d (dI (b.No))]⟩) (zlv tabOk rfl (e rfl rfl) rfl rfl rfl) rfl rfl ?_
  refine sy (.t ⟨false, [.d (dB (decide ((a.No) ≠ (b.No))))]⟩) (y_bin rfl (e rfl rfl) (e rfl rfl) (fun _ => b_neq) rfl) rfl rfl ?_
  refine s_end ?_
  refine v_cond (e rfl rfl) (fun hb1 => ?_) fun hb1 => ?_
  · refine v_seq ?_
    refine v_reg ?_
    refine sy _ (zas rfl (ec rfl)) rfl rfl ?_
    refine s_end ?_
    refine v_ret ?_
    have hr : decide (a = b) = false := by cases a; cases b; simp_all
    rw [hr]
    exact post_ret (rv (.tmp (eg rfl rfl)) rfl (.lf .nil) rfl .nil) (.ro (.ro .nil)) rfl
  refine v_skip ?_
  refine v_seq ?_
  refine v_seq ?_
  refine v_reg ?_
  refine sy (.t ⟨false, [.vp 0 1]⟩) (zfa tabOk rfl rfl rfl (e rfl rfl) rfl rfl) rfl rfl ?_
  refine sy (.t ⟨false, [.d (dI (a.Client))]⟩) (zlv tabOk rfl (e rfl rfl) rfl rfl rfl) rfl rfl ?_
  refine sy (.t ⟨false, [.vp 1 1]⟩) (zfa tabOk rfl rfl rfl (e rfl rfl) rfl rfl) rfl rfl ?_
  refine sy (.t ⟨false, [.d (dI (b.Client))]⟩) (zlv tabOk rfl (e rfl rfl) rfl rfl rfl) rfl rfl ?_
  refine sy (.t ⟨false, [.d (dB (decide ((a.Client) ≠ (b.Client))))]⟩) (y_bin rfl (e rfl rfl) (e rfl rfl) (fun _ => b_neq) rfl) rfl rfl ?_
  refine s_end ?_
  refine v_cond (e rfl rfl) (fun hb2 => ?_) fun hb2 => ?_
  · refine v_seq ?_
    refine v_reg ?_
    refine sy _ (zas rfl (ec rfl)) rfl rfl ?_
    refine s_end ?_
    refine v_ret ?_
    have hr : decide (a = b) = false := by cases a; cases b; simp_all
    rw [hr]
    exact post_ret (rv (.tmp (eg rfl rfl)) rfl (.lf .nil) rfl .nil) (.ro (.ro .nil)) rfl
  refine v_skip ?_
  refine v_seq ?_
  refine v_seq ?_
  refine v_reg ?_
  refine sy (.t ⟨false, [.vp 0 2]⟩) (zfa tabOk rfl rfl rfl (e rfl rfl) rfl rfl) rfl rfl ?_
  refine sy (.t ⟨true, [.d (dS (a.Ask.Name)), .d (dI (a.Ask.Typ))]⟩) (zlv tabOk rfl (e rfl rfl) rfl rfl rfl) rfl rfl ?_
  refine sy (.t ⟨false, [.vp 1 2]⟩) (zfa tabOk rfl rfl rfl (e rfl rfl) rfl rfl) rfl rfl ?_
  refine sy (.t ⟨true, [.d (dS (b.Ask.Name)), .d (dI (b.Ask.Typ))]⟩) (zlv tabOk rfl (e rfl rfl) rfl rfl rfl) rfl rfl ?_
  refine sd (.t ⟨false, [.d (dB (decide (a.Ask = b.Ask)))]⟩) (zcall 2 (.t ⟨false, [.d (dB (decide (a.Ask = b.Ask)))]⟩) [] rfl (tr_eqQuest a.Ask b.Ask ha.Ask hb0.Ask) (ar (e rfl rfl) (.d (.d .nil)) (ar (e rfl rfl) (.d (.d .nil)) .nil)) rfl rfl rfl) rfl rfl rfl rfl ?_
  refine sy (.t ⟨false, [.d (dB (!(decide (a.Ask = b.Ask))))]⟩) (y_un rfl (e rfl rfl) (fun _ => u_not) rfl) rfl rfl ?_
  refine s_end ?_
  refine v_cond (e rfl rfl) (fun hb3 => ?_) fun hb3 => ?_
  · refine v_seq ?_
    refine v_reg ?_
    refine sy _ (zas rfl (ec rfl)) rfl rfl ?_
    refine s_end ?_
    refine v_ret ?_
    have hr : decide (a = b) = false := by cases a; cases b; simp_all
    rw [hr]
    exact post_ret (rv (.tmp (eg rfl rfl)) rfl (.lf .nil) rfl .nil) (.ro (.ro .nil)) rfl
  refine v_skip ?_
  refine v_seq ?_
  refine v_seq ?_
  refine v_reg ?_
  refine sy (.t ⟨false, [.vp 0 4]⟩) (zfa tabOk rfl rfl rfl (e rfl rfl) rfl rfl) rfl rfl ?_
  refine sy (.t ⟨false, [.d (dI (a.Sent))]⟩) (zlv tabOk rfl (e rfl rfl) rfl rfl rfl) rfl rfl ?_
  refine sy (.t ⟨false, [.vp 1 4]⟩) (zfa tabOk rfl rfl rfl (e rfl rfl) rfl rfl) rfl rfl ?_
  refine sy (.t ⟨false, [.d (dI (b.Sent))]⟩) (zlv tabOk rfl (e rfl rfl) rfl rfl rfl) rfl rfl ?_
  refine sy (.t ⟨false, [.d (dB (decide ((a.Sent) ≠ (b.Sent))))]⟩) (y_bin rfl (e rfl rfl) (e rfl rfl) (fun _ => b_neq) rfl) rfl rfl ?_
  refine s_end ?_
  refine v_cond (e rfl rfl) (fun hb4 => ?_) fun hb4 => ?_
  · refine v_seq ?_
    refine v_reg ?_
    refine sy _ (zas rfl (ec rfl)) rfl rfl ?_
    refine s_end ?_
    refine v_ret ?_
    have hr : decide (a = b) = false := by cases a; cases b; simp_all
    rw [hr]
    exact post_ret (rv (.tmp (eg rfl rfl)) rfl (.lf .nil) rfl .nil) (.ro (.ro .nil)) rfl
  refine v_skip ?_
  refine v_seq ?_
  refine v_seq ?_
  refine v_reg ?_
  refine sy (.t ⟨false, [.vp 0 5]⟩) (zfa tabOk rfl rfl rfl (e rfl rfl) rfl rfl) rfl rfl ?_
  refine sy (.t ⟨false, [.d (dI (a.Fetched))]⟩) (zlv tabOk rfl (e rfl rfl) rfl rfl rfl) rfl rfl ?_
  refine sy (.t ⟨false, [.vp 1 5]⟩) (zfa tabOk rfl rfl rfl (e rfl rfl) rfl rfl) rfl rfl ?_
  refine sy (.t ⟨false, [.d (dI (b.Fetched))]⟩) (zlv tabOk rfl (e rfl rfl) rfl rfl rfl) rfl rfl ?_
  refine sy (.t ⟨false, [.d (dB (decide ((a.Fetched) ≠ (b.Fetched))))]⟩) (y_bin rfl (e rfl rfl) (e rfl rfl) (fun _ => b_neq) rfl) rfl rfl ?_
  refine s_end ?_
  refine v_cond (e rfl rfl) (fun hb5 => ?_) fun hb5 => ?_
  · refine v_seq ?_
    refine v_reg ?_
    refine sy _ (zas rfl (ec rfl)) rfl rfl ?_
    refine s_end ?_
    refine v_ret ?_
    have hr : decide (a = b) = false := by cases a; cases b; simp_all
    rw [hr]
    exact post_ret (rv (.tmp (eg rfl rfl)) rfl (.lf .nil) rfl .nil) (.ro (.ro .nil)) rfl
  refine v_skip ?_
  refine v_seq ?_
  refine v_seq ?_
  refine v_reg ?_
  refine sy (.t ⟨false, [.vp 0 6]⟩) (zfa tabOk rfl rfl rfl (e rfl rfl) rfl rfl) rfl rfl ?_
  refine sy (.t ⟨false, [.d (.sl 15 (a.Stack.map Frame.cells))]⟩) (zlv tabOk rfl (e rfl rfl) rfl rfl rfl) rfl rfl ?_
  refine sy (.t ⟨false, [.vp 1 6]⟩) (zfa tabOk rfl rfl rfl (e rfl rfl) rfl rfl) rfl rfl ?_
  refine sy (.t ⟨false, [.d (.sl 15 (b.Stack.map Frame.cells))]⟩) (zlv tabOk rfl (e rfl rfl) rfl rfl rfl) rfl rfl ?_
  refine sd (.t ⟨false, [.d (dB (decide (a.Stack = b.Stack)))]⟩) (zcall 2 (.t ⟨false, [.d (dB (decide (a.Stack = b.Stack)))]⟩) [] rfl (tr_eqFrameS a.Stack b.Stack ha.Stack hb0.Stack) (ar (e rfl rfl) (.d .nil) (ar (e rfl rfl) (.d .nil) .nil)) rfl rfl rfl) rfl rfl rfl rfl ?_
  refine sy (.t ⟨false, [.d (dB (!(decide (a.Stack = b.Stack))))]⟩) (y_un rfl (e rfl rfl) (fun _ => u_not) rfl) rfl rfl ?_
  refine s_end ?_
  refine v_cond (e rfl rfl) (fun hb6 => ?_) fun hb6 => ?_
  · refine v_seq ?_
    refine v_reg ?_
    refine sy _ (zas rfl (ec rfl)) rfl rfl ?_
    refine s_end ?_
    refine v_ret ?_
    have hr : decide (a = b) = false := by cases a; cases b; simp_all
    rw [hr]
    exact post_ret (rv (.tmp (eg rfl rfl)) rfl (.lf .nil) rfl .nil) (.ro (.ro .nil)) rfl
  refine v_skip ?_
  refine v_seq ?_
  refine v_reg ?_
  refine sy _ (zas rfl (ec rfl)) rfl rfl ?_
  refine s_end ?_
  refine v_ret ?_
  have hr : decide (a = b) = true := by cases a; cases b; simp_all
  rw [hr]
  exact post_ret (rv (.tmp (eg rfl rfl)) rfl (.lf .nil) rfl .nil) (.ro (.ro .nil)) rfl
set_option maxRecDepth 20000 in
theorem tr_eqJobS (xs ys : List Job) (hx : fitL Job.Fit xs) (hy : fitL Job.Fit ys) : Tr Try.prog 69 [.ro ⟨false, [.sl 7 (xs.map Job.cells)]⟩, .ro ⟨false, [.sl 7 (ys.map Job.cells)]⟩] [one (dB (decide (xs = ys)))] := by
  refine tr_go tabOk Try.func69 rfl rfl rfl rfl rfl (ov := [(0, .t ⟨false, [.d (.sl 7 (xs.map Job.cells))]⟩), (1, .t ⟨false, [.d (.sl 7 (ys.map Job.cells))]⟩)]) (hv := []) rfl rfl ?_
  refine v_seq ?_
  refine v_reg ?_
  refine sy _ (zas rfl (ec rfl)) rfl rfl ?_
  refine s_end ?_
  refine v_seq ?_
  refine v_seq ?_
  refine v_reg ?_
  refine sy _ (zmv rfl (e rfl rfl)) rfl rfl ?_
  refine sy (.t ⟨false, [.d (dI ((xs.map Job.cells).length : Int))]⟩) (zln tabOk rfl rfl (e rfl rfl) .d) rfl rfl ?_
  refine sy _ (zmv rfl (e rfl rfl)) rfl rfl ?_
  refine sy (.t ⟨false, [.d (dI ((ys.map Job.cells).length : Int))]⟩) (zln tabOk rfl rfl (e rfl rfl) .d) rfl rfl ?_
  refine sy (.t ⟨false, [.d (dB (decide ((((xs.map Job.cells).length : Int)) ≠ (((ys.map Job.cells).length : Int)))))]⟩) (y_bin rfl (e rfl rfl) (e rfl rfl) (fun _ => b_neq) rfl) rfl rfl ?_
  refine s_end ?_
  refine v_cond (e rfl rfl) (fun hb1 => ?_) fun hb1 => ?_
  · refine v_seq ?_
    refine v_reg ?_
    refine sy _ (zas rfl (ec rfl)) rfl rfl ?_
    refine s_end ?_
    refine v_ret ?_
    have hr : decide (xs = ys) = false := by simp at hb1 ⊢; intro h; subst h; exact hb1 rfl
    rw [hr]
    exact post_ret (rv (.tmp (eg rfl rfl)) rfl (.lf .nil) rfl .nil) (.ro (.ro .nil)) rfl
  have hlen : xs.length = ys.length := by have := hb1; simp at this; omega
  refine v_skip ?_
  refine v_seq ?_
  refine v_seq ?_
  refine v_reg ?_
  refine sy _ (zas rfl (ec rfl)) rfl rfl ?_
  refine s_end ?_
  refine v_block ?_
  have hB := hx.1
  refine v_lp (fun (i : Nat) => [(0, .t ⟨false, [.d (.sl 7 (xs.map Job.cells))]⟩), (1, .t ⟨false, [.d (.sl 7 (ys.map Job.cells))]⟩), (5, .t ⟨false, [.d (dI (i : Int))]⟩)]) (fun _ => []) (fun i => i ≤ xs.length ∧ xs.take i = ys.take i) (fun i => xs.length - i) 0 ⟨Nat.zero_le _, rfl⟩ ⟨rfl, rfl, rfl, trivial⟩ trivial rfl (fun i hi => ?_)
  refine v_seq ?_
  refine v_seq ?_
  refine v_reg ?_
  refine sy _ (zmv rfl (e rfl rfl)) rfl rfl ?_
  refine sy _ (zmv rfl (e rfl rfl)) rfl rfl ?_
  refine sy (.t ⟨false, [.d (dI ((xs.map Job.cells).length : Int))]⟩) (zln tabOk rfl rfl (e rfl rfl) .d) rfl rfl ?_
  refine sy (.t ⟨false, [.d (dB (decide (((i : Int)) < (((xs.map Job.cells).length : Int)))))]⟩) (y_bin rfl (e rfl rfl) (e rfl rfl) (fun _ => b_lss) rfl) rfl rfl ?_
  refine s_end ?_
  refine v_cond (e rfl rfl) (fun hb2 => ?_) fun hb2 => ?_
  · have hlt : i < xs.length := by simpa using hb2
    obtain ⟨x, hxi⟩ := some_of_lt hlt
    obtain ⟨y, hyi⟩ := some_of_lt (l := ys) (i := i) (by omega)
    refine v_skip ?_
    refine v_seq ?_
    refine v_block ?_
    refine v_seq ?_
    refine v_drw [⟨.t ⟨false, [.d (.sl 7 (xs.map Job.cells))]⟩, [], [0], []⟩, ⟨.t ⟨false, [.d (dI (i : Int))]⟩, [], [5], []⟩, ⟨.t ⟨false, [.fe 7 (xs.map Job.cells) i 0]⟩, [], [17, 18], []⟩, ⟨.t ⟨true, [.d (dI (x.No)), .d (dI (x.Client)), .d (dS (x.Ask.Name)), .d (dI (x.Ask.Typ)), .d (dI (x.Sent)), .d (dI (x.Fetched)), .d (.sl 15 (x.Stack.map Frame.cells))]⟩, [], [19], []⟩, ⟨.t ⟨false, [.d (.sl 7 (ys.map Job.cells))]⟩, [], [1], []⟩, ⟨.t ⟨false, [.d (dI (i : Int))]⟩, [], [5], []⟩, ⟨.t ⟨false, [.fe 7 (ys.map Job.cells) i 0]⟩, [], [21, 22], []⟩, ⟨.t ⟨true, [.d (dI (y.No)), .d (dI (y.Client)), .d (dS (y.Ask.Name)), .d (dI (y.Ask.Typ)), .d (dI (y.Sent)), .d (dI (y.Fetched)), .d (.sl 15 (y.Stack.map Frame.cells))]⟩, [], [23], []⟩, ⟨.t ⟨false, [.d (dB (decide (x = y)))]⟩, [], [20, 24], []⟩, ⟨.t ⟨false, [.d (dB (!(decide (x = y))))]⟩, [], [25], []⟩] mixed rfl rfl rfl rfl ⟨fun t h A => dy (zmv rfl (A.e rfl rfl rfl)), fun t h A => dy (zmv rfl (A.e rfl rfl rfl)), fun t h A => dy (zix tabOk rfl rfl rfl (A.e rfl rfl rfl) (A.e rfl rfl rfl) (ltm_of_some hxi)), fun t h A => dy (zle tabOk rfl (A.e rfl rfl rfl) (getm hxi) rfl rfl), fun t h A => dy (zmv rfl (A.e rfl rfl rfl)), fun t h A => dy (zmv rfl (A.e rfl rfl rfl)), fun t h A => dy (zix tabOk rfl rfl rfl (A.e rfl rfl rfl) (A.e rfl rfl rfl) (ltm_of_some hyi)), fun t h A => dy (zle tabOk rfl (A.e rfl rfl rfl) (getm hyi) rfl rfl), fun t h A => zcallA 0 (.t ⟨false, [.d (dB (decide (x = y)))]⟩) [] rfl (tr_eqJob x y ((hx.2 _ (List.mem_of_getElem? hxi))) ((hy.2 _ (List.mem_of_getElem? hyi)))) (ar (A.e rfl rfl rfl) (.d (.d (.d (.d (.d (.d (.d .nil))))))) (ar (A.e rfl rfl rfl) (.d (.d (.d (.d (.d (.d (.d .nil))))))) .nil)) rfl (free0 rfl) rfl rfl, fun t h A => dy (y_un rfl (A.e rfl rfl rfl) (fun _ => u_not) rfl), trivial⟩ ?_
    refine s_end ?_
    refine v_cond (e rfl rfl) (fun hb3 => ?_) fun hb3 => ?_
    · refine v_seq ?_
      refine v_reg ?_
      refine sy _ (zas rfl (ec rfl)) rfl rfl ?_
      refine s_end ?_
      refine v_ret ?_
      have hr : decide (xs = ys) = false := by
        have hne : x ≠ y := by have := hb3; simpa using this
        simp only [decide_eq_false_iff_not]; intro h; subst h; rw [hxi] at hyi; injection hyi with hyi; exact hne hyi
      rw [hr]
      exact post_ret (rv (.tmp (eg rfl rfl)) rfl (.lf .nil) rfl .nil) (.ro (.ro .nil)) rfl
    refine v_skip ?_
    refine blk_norm ?_
    refine v_reg ?_
    refine sy _ (zmv rfl (e rfl rfl)) rfl rfl ?_
    refine sy (.t ⟨false, [.d (dI ((i : Int) + 1))]⟩) (y_bin rfl (e rfl rfl) (ec rfl) (fun _ => b_addn (by omega) (by omega)) rfl) rfl rfl ?_
    refine sy _ (zas rfl (e rfl rfl)) rfl rfl ?_
    refine s_end ?_
    have hxy : x = y := by have := hb3; simpa using this
    subst hxy
    exact lp_next (i + 1) ⟨hlt, by rw [List.take_add_one, List.take_add_one, hi.2, hxi, hyi]⟩ (by omega) ⟨rfl, rfl, rfl, trivial⟩ trivial rfl
  refine v_exit ?_
  refine then_exit ?_
  refine loop_exit ?_
  refine blk_hit ?_
  refine v_seq ?_
  refine v_reg ?_
  refine sy _ (zas rfl (ec rfl)) rfl rfl ?_
  refine s_end ?_
  refine v_ret ?_
  have hr : decide (xs = ys) = true := by
    have : i = xs.length := by have := hb2; simp at this; omega
    subst this
    have h5 := hi.2; rw [List.take_length, hlen, List.take_length] at h5; simpa using h5
  rw [hr]
  exact post_ret (rv (.tmp (eg rfl rfl)) rfl (.lf .nil) rfl .nil) (.ro (.ro .nil)) rfl
set_option maxRecDepth 20000 in
theorem tr_eqLame (a b : Lame) (ha : a.Fit) (hb0 : b.Fit) : Tr Try.prog 92 [.ro ⟨true, [dI (a.Addr), dS (a.Apex), dI (a.Until)]⟩, .ro ⟨true, [dI (b.Addr), dS (b.Apex), dI (b.Until)]⟩] [one (dB (decide (a = b)))] := by
  refine tr_go tabOk Try.func92 rfl rfl rfl rfl rfl (ov := [(0, .t ⟨true, [.d (dI (a.Addr)), .d (dS (a.Apex)), .d (dI (a.Until))]⟩), (1, .t ⟨true, [.d (dI (b.Addr)), .d (dS (b.Apex)), .d (dI (b.Until))]⟩)]) (hv := []) rfl rfl ?_
  refine v_seq ?_
  refine v_reg ?_
  refine sr 0 (.t ⟨false, [.vp 0 0]⟩) (.var [.d (dI (a.Addr)), .d (dS (a.Apex)), .d (dI (a.Until))]) (zbx rfl (e rfl rfl) rfl rfl rfl) rfl rfl ?_
  refine sr 1 (.t ⟨false, [.vp 1 0]⟩) (.var [.d (dI (b.Addr)), .d (dS (b.Apex)), .d (dI (b.Until))]) (zbx rfl (e rfl rfl) rfl rfl rfl) rfl rfl ?_
  refine sy _ (zas rfl (ec rfl)) rfl rfl ?_
  refine s_end ?_
  refine v_seq ?_
  refine v_seq ?_
  refine v_reg ?_
  refine sy (.t ⟨false, [.vp 0 0]⟩) (zfa tabOk rfl rfl rfl (e rfl rfl) rfl rfl) rfl rfl ?_
  refine sy (.t ⟨false, [.d (dI (a.Addr))]⟩) (zlv tabOk rfl (e rfl rfl) rfl rfl rfl) rfl rfl ?_
  refine sy (.t ⟨false, [.vp 1 0]⟩) (zfa tabOk rfl rfl rfl (e rfl rfl) rfl rfl) rfl rfl ?_
  refine sy (.t ⟨false, [.d (dI (b.Addr))]⟩) (zlv tabOk rfl (e rfl rfl) rfl rfl rfl) rfl rfl ?_
  refine sy (.t ⟨false, [.d (dB (decide ((a.Addr) ≠ (b.Addr))))]⟩) (y_bin rfl (e rfl rfl) (e rfl rfl) (fun _ => b_neq) rfl) rfl rfl ?_
  refine s_end ?_
  refine v_cond (e rfl rfl) (fun hb1 => ?_) fun hb1 => ?_
  · refine v_seq ?_
    refine v_reg ?_
    refine sy _ (zas rfl (ec rfl)) rfl rfl ?_
    refine s_end ?_
    refine v_ret ?_
    have hr : decide (a = b) = false := by cases a; cases b; simp_all
    rw [hr]
    exact post_ret (rv (.tmp (eg rfl rfl)) rfl (.lf .nil) rfl .nil) (.ro (.ro .nil)) rfl
  refine v_skip ?_
  refine v_seq ?_
  refine v_seq ?_
  refine v_reg ?_
  refine sy (.t ⟨false, [.vp 0 1]⟩) (zfa tabOk rfl rfl rfl (e rfl rfl) rfl rfl) rfl rfl ?_
  refine sy (.t ⟨false, [.d (dS (a.Apex))]⟩) (zlv tabOk rfl (e rfl rfl) rfl rfl rfl) rfl rfl ?_
  refine sy (.t ⟨false, [.vp 1 1]⟩) (zfa tabOk rfl rfl rfl (e rfl rfl) rfl rfl) rfl rfl ?_
  refine sy (.t ⟨false, [.d (dS (b.Apex))]⟩) (zlv tabOk rfl (e rfl rfl) rfl rfl rfl) rfl rfl ?_
  refine sy (.t ⟨false, [.d (dB (decide ((a.Apex) ≠ (b.Apex))))]⟩) (y_bin rfl (e rfl rfl) (e rfl rfl) (fun _ => b_sneq) rfl) rfl rfl ?_
  refine s_end ?_
  refine v_cond (e rfl rfl) (fun hb2 => ?_) fun hb2 => ?_
  · refine v_seq ?_
    refine v_reg ?_
    refine sy _ (zas rfl (ec rfl)) rfl rfl ?_
    refine s_end ?_
    refine v_ret ?_
    have hr : decide (a = b) = false := by cases a; cases b; simp_all
    rw [hr]
    exact post_ret (rv (.tmp (eg rfl rfl)) rfl (.lf .nil) rfl .nil) (.ro (.ro .nil)) rfl
  refine v_skip ?_
  refine v_seq ?_
  refine v_seq ?_
  refine v_reg ?_
  refine sy (.t ⟨false, [.vp 0 2]⟩) (zfa tabOk rfl rfl rfl (e rfl rfl) rfl rfl) rfl rfl ?_
  refine sy (.t ⟨false, [.d (dI (a.Until))]⟩) (zlv tabOk rfl (e rfl rfl) rfl rfl rfl) rfl rfl ?_
  refine sy (.t ⟨false, [.vp 1 2]⟩) (zfa tabOk rfl rfl rfl (e rfl rfl) rfl rfl) rfl rfl ?_
  refine sy (.t ⟨false, [.d (dI (b.Until))]⟩) (zlv tabOk rfl (e rfl rfl) rfl rfl rfl) rfl rfl ?_
  refine sy (.t ⟨false, [.d (dB (decide ((a.Until) ≠ (b.Until))))]⟩) (y_bin rfl (e rfl rfl) (e rfl rfl) (fun _ => b_neq) rfl) rfl rfl ?_
  refine s_end ?_
  refine v_cond (e rfl rfl) (fun hb3 => ?_) fun hb3 => ?_
  · refine v_seq ?_
    refine v_reg ?_
    refine sy _ (zas rfl (ec rfl)) rfl rfl ?_
    refine s_end ?_
    refine v_ret ?_
    have hr : decide (a = b) = false := by cases a; cases b; simp_all
    rw [hr]
    exact post_ret (rv (.tmp (eg rfl rfl)) rfl (.lf .nil) rfl .nil) (.ro (.ro .nil)) rfl
  refine v_skip ?_
  refine v_seq ?_
  refine v_reg ?_
  refine sy _ (zas rfl (ec rfl)) rfl rfl ?_
  refine s_end ?_
  refine v_ret ?_
  have hr : decide (a = b) = true := by cases a; cases b; simp_all
  rw [hr]
  exact post_ret (rv (.tmp (eg rfl rfl)) rfl (.lf .nil) rfl .nil) (.ro (.ro .nil)) rfl
set_option maxRecDepth 20000 in
theorem tr_eqLameS (xs ys : List Lame) (hx : fitL Lame.Fit xs) (hy : fitL Lame.Fit ys) : Tr Try.prog 68 [.ro ⟨false, [.sl 3 (xs.map Lame.cells)]⟩, .ro ⟨false, [.sl 3 (ys.map Lame.cells)]⟩] [one (dB (decide (xs = ys)))] := by
  refine tr_go tabOk Try.func68 rfl rfl rfl rfl rfl (ov := [(0, .t ⟨false, [.d (.sl 3 (xs.map Lame.cells))]⟩), (1, .t ⟨false, [.d (.sl 3 (ys.map Lame.cells))]⟩)]) (hv := []) rfl rfl ?_
  refine v_seq ?_
  refine v_reg ?_
  refine sy _ (zas rfl (ec rfl)) rfl rfl ?_
  refine s_end ?_
  refine v_seq ?_
  refine v_seq ?_
  refine v_reg ?_
  refine sy _ (zmv rfl (e rfl rfl)) rfl rfl ?_
  refine sy (.t ⟨false, [.d (dI ((xs.map Lame.cells).length : Int))]⟩) (zln tabOk rfl rfl (e rfl rfl) .d) rfl rfl ?_
  refine sy _ (zmv rfl (e rfl rfl)) rfl rfl ?_
  refine sy (.t ⟨false, [.d (dI ((ys.map Lame.cells).length : Int))]⟩) (zln tabOk rfl rfl (e rfl rfl) .d) rfl rfl ?_
  refine sy (.t ⟨false, [.d (dB (decide ((((xs.map Lame.cells).length : Int)) ≠ (((ys.map Lame.cells).length : Int)))))]⟩) (y_bin rfl (e rfl rfl) (e rfl rfl) (fun _ => b_neq) rfl) rfl rfl ?_
  refine s_end ?_
  refine v_cond (e rfl rfl) (fun hb1 => ?_) fun hb1 => ?_
  · refine v_seq ?_
    refine v_reg ?_
    refine sy _ (zas rfl (ec rfl)) rfl rfl ?_
    refine s_end ?_
    refine v_ret ?_
    have hr : decide (xs = ys) = false := by simp at hb1 ⊢; intro h; subst h; exact hb1 rfl
    rw [hr]
    exact post_ret (rv (.tmp (eg rfl rfl)) rfl (.lf .nil) rfl .nil) (.ro (.ro .nil)) rfl
  have hlen : xs.length = ys.length := by have := hb1; simp at this; omega
  refine v_skip ?_
  refine v_seq ?_
  refine v_seq ?_
  refine v_reg ?_
  refine sy _ (zas rfl (ec rfl)) rfl rfl ?_
  refine s_end ?_
  refine v_block ?_
  have hB := hx.1
  refine v_lp (fun (i : Nat) => [(0, .t ⟨false, [.d (.sl 3 (xs.map Lame.cells))]⟩), (1, .t ⟨false, [.d (.sl 3 (ys.map Lame.cells))]⟩), (5, .t ⟨false, [.d (dI (i : Int))]⟩)]) (fun _ => []) (fun i => i ≤ xs.length ∧ xs.take i = ys.take i) (fun i => xs.length - i) 0 ⟨Nat.zero_le _, rfl⟩ ⟨rfl, rfl, rfl, trivial⟩ trivial rfl (fun i hi => ?_)
  refine v_seq ?_
  refine v_seq ?_
  refine v_reg ?_
  refine sy _ (zmv rfl (e rfl rfl)) rfl rfl ?_
  refine sy _ (zmv rfl (e rfl rfl)) rfl rfl ?_
  refine sy (.t ⟨false, [.d (dI ((xs.map Lame.cells).length : Int))]⟩) (zln tabOk rfl rfl (e rfl rfl) .d) rfl rfl ?_
  refine sy (.t ⟨false, [.d (dB (decide (((i : Int)) < (((xs.map Lame.cells).length : Int)))))]⟩) (y_bin rfl (e rfl rfl) (e rfl rfl) (fun _ => b_lss) rfl) rfl rfl ?_
  refine s_end ?_
  refine v_cond (e rfl rfl) (fun hb2 => ?_) fun hb2 => ?_
  · have hlt : i < xs.length := by simpa using hb2
    obtain ⟨x, hxi⟩ := some_of_lt hlt
    obtain ⟨y, hyi⟩ := some_of_lt (l := ys) (i := i) (by omega)
    refine v_skip ?_
    refine v_seq ?_
    refine v_block ?_
    refine v_seq ?_
    refine v_drw [⟨.t ⟨false, [.d (.sl 3 (xs.map Lame.cells))]⟩, [], [0], []⟩, ⟨.t ⟨false, [.d (dI (i : Int))]⟩, [], [5], []⟩, ⟨.t ⟨false, [.fe 3 (xs.map Lame.cells) i 0]⟩, [], [17, 18], []⟩, ⟨.t ⟨true, [.d (dI (x.Addr)), .d (dS (x.Apex)), .d (dI (x.Until))]⟩, [], [19], []⟩, ⟨.t ⟨false, [.d (.sl 3 (ys.map Lame.cells))]⟩, [], [1], []⟩, ⟨.t ⟨false, [.d (dI (i : Int))]⟩, [], [5], []⟩, ⟨.t ⟨false, [.fe 3 (ys.map Lame.cells) i 0]⟩, [], [21, 22], []⟩, ⟨.t ⟨true, [.d (dI (y.Addr)), .d (dS (y.Apex)), .d (dI (y.Until))]⟩, [], [23], []⟩, ⟨.t ⟨false, [.d (dB (decide (x = y)))]⟩, [], [20, 24], []⟩, ⟨.t ⟨false, [.d (dB (!(decide (x = y))))]⟩, [], [25], []⟩] mixed rfl rfl rfl rfl ⟨fun t h A => dy (zmv rfl (A.e rfl rfl rfl)), fun t h A => dy (zmv rfl (A.e rfl rfl rfl)), fun t h A => dy (zix tabOk rfl rfl rfl (A.e rfl rfl rfl) (A.e rfl rfl rfl) (ltm_of_some hxi)), fun t h A => dy (zle tabOk rfl (A.e rfl rfl rfl) (getm hxi) rfl rfl), fun t h A => dy (zmv rfl (A.e rfl rfl rfl)), fun t h A => dy (zmv rfl (A.e rfl rfl rfl)), fun t h A => dy (zix tabOk rfl rfl rfl (A.e rfl rfl rfl) (A.e rfl rfl rfl) (ltm_of_some hyi)), fun t h A => dy (zle tabOk rfl (A.e rfl rfl rfl) (getm hyi) rfl rfl), fun t h A => zcallA 0 (.t ⟨false, [.d (dB (decide (x = y)))]⟩) [] rfl (tr_eqLame x y ((hx.2 _ (List.mem_of_getElem? hxi))) ((hy.2 _ (List.mem_of_getElem? hyi)))) (ar (A.e rfl rfl rfl) (.d (.d (.d .nil))) (ar (A.e rfl rfl rfl) (.d (.d (.d .nil))) .nil)) rfl (free0 rfl) rfl rfl, fun t h A => dy (y_un rfl (A.e rfl rfl rfl) (fun _ => u_not) rfl), trivial⟩ ?_
    refine s_end ?_
    refine v_cond (e rfl rfl) (fun hb3 => ?_) fun hb3 => ?_
    · refine v_seq ?_
      refine v_reg ?_
      refine sy _ (zas rfl (ec rfl)) rfl rfl ?_
      refine s_end ?_
      refine v_ret ?_
      have hr : decide (xs = ys) = false := by
        have hne : x ≠ y := by have := hb3; simpa using this
        simp only [decide_eq_false_iff_not]; intro h; subst h; rw [hxi] at hyi; injection hyi with hyi; exact hne hyi
      rw [hr]
      exact post_ret (rv (.tmp (eg rfl rfl)) rfl (.lf .nil) rfl .nil) (.ro (.ro .nil)) rfl
    refine v_skip ?_
    refine blk_norm ?_
    refine v_reg ?_
    refine sy _ (zmv rfl (e rfl rfl)) rfl rfl ?_
    refine sy (.t ⟨false, [.d (dI ((i : Int) + 1))]⟩) (y_bin rfl (e rfl rfl) (ec rfl) (fun _ => b_addn (by omega) (by omega)) rfl) rfl rfl ?_
    refine sy _ (zas rfl (e rfl rfl)) rfl rfl ?_
    refine s_end ?_
    have hxy : x = y := by have := hb3; simpa using this
    subst hxy
    exact lp_next (i + 1) ⟨hlt, by rw [List.take_add_one, List.take_add_one, hi.2, hxi, hyi]⟩ (by omega) ⟨rfl, rfl, rfl, trivial⟩ trivial rfl
  refine v_exit ?_
  refine then_exit ?_
  refine loop_exit ?_
  refine blk_hit ?_
  refine v_seq ?_
  refine v_reg ?_
  refine sy _ (zas rfl (ec rfl)) rfl rfl ?_
  refine s_end ?_
  refine v_ret ?_
  have hr : decide (xs = ys) = true := by
    have : i = xs.length := by have := hb2; simp at this; omega
    subst this
    have h5 := hi.2; rw [List.take_length, hlen, List.take_length] at h5; simpa using h5
  rw [hr]
  exact post_ret (rv (.tmp (eg rfl rfl)) rfl (.lf .nil) rfl .nil) (.ro (.ro .nil)) rfl
set_option maxRecDepth 20000 in
theorem tr_eqAnswer (a b : Answer) (ha : a.Fit) (hb0 : b.Fit) : Tr Try.prog 94 [.ro ⟨true, [dI (a.No), dI (a.Client), dI (a.Code), dS (a.Q.Name), dI (a.Q.Typ), .sl 6 (a.Links.map Record.cells), .sl 6 (a.L.map Record.cells), dI (a.Sent)]⟩, .ro ⟨true, [dI (b.No), dI (b.Client), dI (b.Code), dS (b.Q.Name), dI (b.Q.Typ), .sl 6 (b.Links.map Record.cells), .sl 6 (b.L.map Record.cells), dI (b.Sent)]⟩] [one (dB (decide (a = b)))] := by
  refine tr_go tabOk Try.func94 rfl rfl rfl rfl rfl (ov := [(0, .t ⟨true, [.d (dI (a.No)), .d (dI (a.Client)), .d (dI (a.Code)), .d (dS (a.Q.Name)), .d (dI (a.Q.Typ)), .d (.sl 6 (a.Links.map Record.cells)), .d (.sl 6 (a.L.map Record.cells)), .d (dI (a.Sent))]⟩), (1, .t ⟨true, [.d (dI (b.No)), .d (dI (b.Client)), .d (dI (b.Code)), .d (dS (b.Q.Name)), .d (dI (b.Q.Typ)), .d (.sl 6 (b.Links.map Record.cells)), .d (.sl 6 (b.L.map Record.cells)), .d (dI (b.Sent))]⟩)]) (hv := []) rfl rfl ?_
  refine v_seq ?_
  refine v_reg ?_
  refine sr 0 (.t ⟨false, [.vp 0 0]⟩) (.var [.d (dI (a.No)), .d (dI (a.Client)), .d (dI (a.Code)), .d (dS (a.Q.Name)), .d (dI (a.Q.Typ)), .d (.sl 6 (a.Links.map Record.cells)), .d (.sl 6 (a.L.map Record.cells)), .d (dI (a.Sent))]) (zbx rfl (e rfl rfl) rfl rfl rfl) rfl rfl ?_
  refine sr 1 (.t ⟨false, [.vp 1 0]⟩) (.var [.d (dI (b.No)), .d (dI (b.Client)), .d (dI (b.Code)), .d (dS (b.Q.Name)), .d (dI (b.Q.Typ)), .d (.sl 6 (b.Links.map Record.cells)), .d (.sl 6 (b.L.map Record.cells)), .d (dI (b.Sent))]) (zbx rfl (e rfl rfl) rfl rfl rfl) rfl rfl ?_
  refine sy _ (zas rfl (ec rfl)) rfl rfl ?_
  refine s_end ?_
  refine v_seq ?_
  refine v_seq ?_
  refine v_reg ?_
  refine sy (.t ⟨false, [.vp 0 0]⟩) (zfa tabOk rfl rfl rfl (e rfl rfl) rfl rfl) rfl rfl ?_
  refine sy (.t ⟨false, [.d (dI (a.No))]⟩) (zlv tabOk rfl (e rfl rfl) rfl rfl rfl) rfl rfl ?_
  refine sy (.t ⟨false, [.vp 1 0]⟩) (zfa tabOk rfl rfl rfl (e rfl rfl) rfl rfl) rfl rfl ?_
  refine sy (.t ⟨false, [.d (dI (b.No))]⟩) (zlv tabOk rfl (e rfl rfl) rfl rfl rfl) rfl rfl ?_
  refine sy (.t ⟨false, [.d (dB (decide ((a.No) ≠ (b.No))))]⟩) (y_bin rfl (e rfl rfl) (e rfl rfl) (fun _ => b_neq) rfl) rfl rfl ?_
  refine s_end ?_
  refine v_cond (e rfl rfl) (fun hb1 => ?_) fun hb1 => ?_
  · refine v_seq ?_
    refine v_reg ?_
    refine sy _ (zas rfl (ec rfl)) rfl rfl ?_
    refine s_end ?_
    refine v_ret ?_
    have hr : decide (a = b) = false := by cases a; cases b; simp_all
    rw [hr]
    exact post_ret (rv (.tmp (eg rfl rfl)) rfl (.lf .nil) rfl .nil) (.ro (.ro .nil)) rfl
  refine v_skip ?_
  refine v_seq ?_
  refine v_seq ?_
  refine v_reg ?_
  refine sy (.t ⟨false, [.vp 0 1]⟩) (zfa tabOk rfl rfl rfl (e rfl rfl) rfl rfl) rfl rfl ?_
  refine sy (.t ⟨false, [.d (dI (a.Client))]⟩) (zlv tabOk rfl (e rfl rfl) rfl rfl rfl) rfl rfl ?_
  refine sy (.t ⟨false, [.vp 1 1]⟩) (zfa tabOk rfl rfl rfl (e rfl rfl) rfl rfl) rfl rfl ?_
  refine sy (.t ⟨false, [.d (dI (b.Client))]⟩) (zlv tabOk rfl (e rfl rfl) rfl rfl rfl) rfl rfl ?_
  refine sy (.t ⟨false, [.d (dB (decide ((a.Client) ≠ (b.Client))))]⟩) (y_bin rfl (e rfl rfl) (e rfl rfl) (fun _ => b_neq) rfl) rfl rfl ?_
  refine s_end ?_
  refine v_cond (e rfl rfl) (fun hb2 => ?_) fun hb2 => ?_
  · refine v_seq ?_
    refine v_reg ?_
    refine sy _ (zas rfl (ec rfl)) rfl rfl ?_
    refine s_end ?_
    refine v_ret ?_
    have hr : decide (a = b) = false := by cases a; cases b; simp_all
    rw [hr]
    exact post_ret (rv (.tmp (eg rfl rfl)) rfl (.lf .nil) rfl .nil) (.ro (.ro .nil)) rfl
  refine v_skip ?_
  refine v_seq ?_
  refine v_seq ?_
  refine v_reg ?_
  refine sy (.t ⟨false, [.vp 0 2]⟩) (zfa tabOk rfl rfl rfl (e rfl rfl) rfl rfl) rfl rfl ?_
  refine sy (.t ⟨false, [.d (dI (a.Code))]⟩) (zlv tabOk rfl (e rfl rfl) rfl rfl rfl) rfl rfl ?_
  refine sy (.t ⟨false, [.vp 1 2]⟩) (zfa tabOk rfl rfl rfl (e rfl rfl) rfl rfl) rfl rfl ?_
  refine sy (.t ⟨false, [.d (dI (b.Code))]⟩) (zlv tabOk rfl (e rfl rfl) rfl rfl rfl) rfl rfl ?_
  refine sy (.t ⟨false, [.d (dB (decide ((a.Code) ≠ (b.Code))))]⟩) (y_bin rfl (e rfl rfl) (e rfl rfl) (fun _ => b_neq) rfl) rfl rfl ?_
  refine s_end ?_
  refine v_cond (e rfl rfl) (fun hb3 => ?_) fun hb3 => ?_
  · refine v_seq ?_
    refine v_reg ?_
    refine sy _ (zas rfl (ec rfl)) rfl rfl ?_
    refine s_end ?_
    refine v_ret ?_
    have hr : decide (a = b) = false := by cases a; cases b; simp_all
    rw [hr]
    exact post_ret (rv (.tmp (eg rfl rfl)) rfl (.lf .nil) rfl .nil) (.ro (.ro .nil)) rfl
  refine v_skip ?_
  refine v_seq ?_
  refine v_seq ?_
  refine v_reg ?_
  refine sy (.t ⟨false, [.vp 0 3]⟩) (zfa tabOk rfl rfl rfl (e rfl rfl) rfl rfl) rfl rfl ?_
  refine sy (.t ⟨true, [.d (dS (a.Q.Name)), .d (dI (a.Q.Typ))]⟩) (zlv tabOk rfl (e rfl rfl) rfl rfl rfl) rfl rfl ?_
  refine sy (.t ⟨false, [.vp 1 3]⟩) (zfa tabOk rfl rfl rfl (e rfl rfl) rfl rfl) rfl rfl ?_
  refine sy (.t ⟨true, [.d (dS (b.Q.Name)), .d (dI (b.Q.Typ))]⟩) (zlv tabOk rfl (e rfl rfl) rfl rfl rfl) rfl rfl ?_
  refine sd (.t ⟨false, [.d (dB (decide (a.Q = b.Q)))]⟩) (zcall 2 (.t ⟨false, [.d (dB (decide (a.Q = b.Q)))]⟩) [] rfl (tr_eqQuest a.Q b.Q ha.Q hb0.Q) (ar (e rfl rfl) (.d (.d .nil)) (ar (e rfl rfl) (.d (.d .nil)) .nil)) rfl rfl rfl) rfl rfl rfl rfl ?_
  refine sy (.t ⟨false, [.d (dB (!(decide (a.Q = b.Q))))]⟩) (y_un rfl (e rfl rfl) (fun _ => u_not) rfl) rfl rfl ?_
  refine s_end ?_
  refine v_cond (e rfl rfl) (fun hb4 => ?_) fun hb4 => ?_
  · refine v_seq ?_
    refine v_reg ?_
    refine sy _ (zas rfl (ec rfl)) rfl rfl ?_
    refine s_end ?_
    refine v_ret ?_
    have hr : decide (a = b) = false := by cases a; cases b; simp_all
    rw [hr]
    exact post_ret (rv (.tmp (eg rfl rfl)) rfl (.lf .nil) rfl .nil) (.ro (.ro .nil)) rfl
  refine v_skip ?_
  refine v_seq ?_
  refine v_seq ?_
  refine v_reg ?_
  refine sy (.t ⟨false, [.vp 0 5]⟩) (zfa tabOk rfl rfl rfl (e rfl rfl) rfl rfl) rfl rfl ?_
  refine sy (.t ⟨false, [.d (.sl 6 (a.Links.map Record.cells))]⟩) (zlv tabOk rfl (e rfl rfl) rfl rfl rfl) rfl rfl ?_
  refine sy (.t ⟨false, [.vp 1 5]⟩) (zfa tabOk rfl rfl rfl (e rfl rfl) rfl rfl) rfl rfl ?_
  refine sy (.t ⟨false, [.d (.sl 6 (b.Links.map Record.cells))]⟩) (zlv tabOk rfl (e rfl rfl) rfl rfl rfl) rfl rfl ?_
  refine sd (.t ⟨false, [.d (dB (decide (a.Links = b.Links)))]⟩) (zcall 2 (.t ⟨false, [.d (dB (decide (a.Links = b.Links)))]⟩) [] rfl (tr_eqRecordS a.Links b.Links ha.Links hb0.Links) (ar (e rfl rfl) (.d .nil) (ar (e rfl rfl) (.d .nil) .nil)) rfl rfl rfl) rfl rfl rfl rfl ?_
  refine sy (.t ⟨false, [.d (dB (!(decide (a.Links = b.Links))))]⟩) (y_un rfl (e rfl rfl) (fun _ => u_not) rfl) rfl rfl ?_
  refine s_end ?_
  refine v_cond (e rfl rfl) (fun hb5 => ?_) fun hb5 => ?_
  · refine v_seq ?_
    refine v_reg ?_
    refine sy _ (zas rfl (ec rfl)) rfl rfl ?_
    refine s_end ?_
    refine v_ret ?_
    have hr : decide (a = b) = false := by cases a; cases b; simp_all
    rw [hr]
    exact post_ret (rv (.tmp (eg rfl rfl)) rfl (.lf .nil) rfl .nil) (.ro (.ro .nil)) rfl
  refine v_skip ?_
  refine v_seq ?_
  refine v_seq ?_
  refine v_reg ?_
  refine sy (.t ⟨false, [.vp 0 6]⟩) (zfa tabOk rfl rfl rfl (e rfl rfl) rfl rfl) rfl rfl ?_
  refine sy (.t ⟨false, [.d (.sl 6 (a.L.map Record.cells))]⟩) (zlv tabOk rfl (e rfl rfl) rfl rfl rfl) rfl rfl ?_
  refine sy (.t ⟨false, [.vp 1 6]⟩) (zfa tabOk rfl rfl rfl (e rfl rfl) rfl rfl) rfl rfl ?_
  refine sy (.t ⟨false, [.d (.sl 6 (b.L.map Record.cells))]⟩) (zlv tabOk rfl (e rfl rfl) rfl rfl rfl) rfl rfl ?_
  refine sd (.t ⟨false, [.d (dB (decide (a.L = b.L)))]⟩) (zcall 2 (.t ⟨false, [.d (dB (decide (a.L = b.L)))]⟩) [] rfl (tr_eqRecordS a.L b.L ha.L hb0.L) (ar (e rfl rfl) (.d .nil) (ar (e rfl rfl) (.d .nil) .nil)) rfl rfl rfl) rfl rfl rfl rfl ?_
  refine sy (.t ⟨false, [.d (dB (!(decide (a.L = b.L))))]⟩) (y_un rfl (e rfl rfl) (fun _ => u_not) rfl) rfl rfl ?_
  refine s_end ?_
  refine v_cond (e rfl rfl) (fun hb6 => ?_) fun hb6 => ?_
  · refine v_seq ?_
    refine v_reg ?_
    refine sy _ (zas rfl (ec rfl)) rfl rfl ?_
    refine s_end ?_
    refine v_ret ?_
    have hr : decide (a = b) = false := by cases a; cases b; simp_all
    rw [hr]
    exact post_ret (rv (.tmp (eg rfl rfl)) rfl (.lf .nil) rfl .nil) (.ro (.ro .nil)) rfl
  refine v_skip ?_
  refine v_seq ?_
  refine v_seq ?_
  refine v_reg ?_
  refine sy (.t ⟨false, [.vp 0 7]⟩) (zfa tabOk rfl rfl rfl (e rfl rfl) rfl rfl) rfl rfl ?_
  refine sy (.t ⟨false, [.d (dI (a.Sent))]⟩) (zlv tabOk rfl (e rfl rfl) rfl rfl rfl) rfl rfl ?_
  refine sy (.t ⟨false, [.vp 1 7]⟩) (zfa tabOk rfl rfl rfl (e rfl rfl) rfl rfl) rfl rfl ?_
  refine sy (.t ⟨false, [.d (dI (b.Sent))]⟩) (zlv tabOk rfl (e rfl rfl) rfl rfl rfl) rfl rfl ?_
  refine sy (.t ⟨false, [.d (dB (decide ((a.Sent) ≠ (b.Sent))))]⟩) (y_bin rfl (e rfl rfl) (e rfl rfl) (fun _ => b_neq) rfl) rfl rfl ?_
  refine s_end ?_
  refine v_cond (e rfl rfl) (fun hb7 => ?_) fun hb7 => ?_
  · refine v_seq ?_
    refine v_reg ?_
    refine sy _ (zas rfl (ec rfl)) rfl rfl ?_
    refine s_end ?_
    refine v_ret ?_
    have hr : decide (a = b) = false := by cases a; cases b; simp_all
    rw [hr]
    exact post_ret (rv (.tmp (eg rfl rfl)) rfl (.lf .nil) rfl .nil) (.ro (.ro .nil)) rfl
  refine v_skip ?_
  refine v_seq ?_
  refine v_reg ?_
  refine sy _ (zas rfl (ec rfl)) rfl rfl ?_
  refine s_end ?_
  refine v_ret ?_
  have hr : decide (a = b) = true := by cases a; cases b; simp_all
  rw [hr]
  exact post_ret (rv (.tmp (eg rfl rfl)) rfl (.lf .nil) rfl .nil) (.ro (.ro .nil)) rfl
set_option maxRecDepth 20000 in
theorem tr_eqAnswerS (xs ys : List Answer) (hx : fitL Answer.Fit xs) (hy : fitL Answer.Fit ys) : Tr Try.prog 71 [.ro ⟨false, [.sl 8 (xs.map Answer.cells)]⟩, .ro ⟨false, [.sl 8 (ys.map Answer.cells)]⟩] [one (dB (decide (xs = ys)))] := by
  refine tr_go tabOk Try.func71 rfl rfl rfl rfl rfl (ov := [(0, .t ⟨false, [.d (.sl 8 (xs.map Answer.cells))]⟩), (1, .t ⟨false, [.d (.sl 8 (ys.map Answer.cells))]⟩)]) (hv := []) rfl rfl ?_
  refine v_seq ?_
  refine v_reg ?_
  refine sy _ (zas rfl (ec rfl)) rfl rfl ?_
  refine s_end ?_
  refine v_seq ?_
  refine v_seq ?_
  refine v_reg ?_
  refine sy _ (zmv rfl (e rfl rfl)) rfl rfl ?_
  refine sy (.t ⟨false, [.d (dI ((xs.map Answer.cells).length : Int))]⟩) (zln tabOk rfl rfl (e rfl rfl) .d) rfl rfl ?_
  refine sy _ (zmv rfl (e rfl rfl)) rfl rfl ?_
  refine sy (.t ⟨false, [.d (dI ((ys.map Answer.cells).length : Int))]⟩) (zln tabOk rfl rfl (e rfl rfl) .d) rfl rfl ?_
  refine sy (.t ⟨false, [.d (dB (decide ((((xs.map Answer.cells).length : Int)) ≠ (((ys.map Answer.cells).length : Int)))))]⟩) (y_bin rfl (e rfl rfl) (e rfl rfl) (fun _ => b_neq) rfl) rfl rfl ?_
  refine s_end ?_
  refine v_cond (e rfl rfl) (fun hb1 => ?_) fun hb1 => ?_
  · refine v_seq ?_
    refine v_reg ?_
    refine sy _ (zas rfl (ec rfl)) rfl rfl ?_
    refine s_end ?_
    refine v_ret ?_
    have hr : decide (xs = ys) = false := by simp at hb1 ⊢; intro h; subst h; exact hb1 rfl
    rw [hr]
    exact post_ret (rv (.tmp (eg rfl rfl)) rfl (.lf .nil) rfl .nil) (.ro (.ro .nil)) rfl
  have hlen : xs.length = ys.length := by have := hb1; simp at this; omega
  refine v_skip ?_
  refine v_seq ?_
  refine v_seq ?_
  refine v_reg ?_
  refine sy _ (zas rfl (ec rfl)) rfl rfl ?_
  refine s_end ?_
  refine v_block ?_
  have hB := hx.1
  refine v_lp (fun (i : Nat) => [(0, .t ⟨false, [.d (.sl 8 (xs.map Answer.cells))]⟩), (1, .t ⟨false, [.d (.sl 8 (ys.map Answer.cells))]⟩), (5, .t ⟨false, [.d (dI (i : Int))]⟩)]) (fun _ => []) (fun i => i ≤ xs.length ∧ xs.take i = ys.take i) (fun i => xs.length - i) 0 ⟨Nat.zero_le _, rfl⟩ ⟨rfl, rfl, rfl, trivial⟩ trivial rfl (fun i hi => ?_)
  refine v_seq ?_
  refine v_seq ?_
  refine v_reg ?_
  refine sy _ (zmv rfl (e rfl rfl)) rfl rfl ?_
  refine sy _ (zmv rfl (e rfl rfl)) rfl rfl ?_
  refine sy (.t ⟨false, [.d (dI ((xs.map Answer.cells).length : Int))]⟩) (zln tabOk rfl rfl (e rfl rfl) .d) rfl rfl ?_
  refine sy (.t ⟨false, [.d (dB (decide (((i : Int)) < (((xs.map Answer.cells).length : Int)))))]⟩) (y_bin rfl (e rfl rfl) (e rfl rfl) (fun _ => b_lss) rfl) rfl rfl ?_
  refine s_end ?_
  refine v_cond (e rfl rfl) (fun hb2 => ?_) fun hb2 => ?_
  · have hlt : i < xs.length := by simpa using hb2
    obtain ⟨x, hxi⟩ := some_of_lt hlt
    obtain ⟨y, hyi⟩ := some_of_lt (l := ys) (i := i) (by omega)
    refine v_skip ?_
    refine v_seq ?_
    refine v_block ?_
    refine v_seq ?_
    refine v_drw [⟨.t ⟨false, [.d (.sl 8 (xs.map Answer.cells))]⟩, [], [0], []⟩, ⟨.t ⟨false, [.d (dI (i : Int))]⟩, [], [5], []⟩, ⟨.t ⟨false, [.fe 8 (xs.map Answer.cells) i 0]⟩, [], [17, 18], []⟩, ⟨.t ⟨true, [.d (dI (x.No)), .d (dI (x.Client)), .d (dI (x.Code)), .d (dS (x.Q.Name)), .d (dI (x.Q.Typ)), .d (.sl 6 (x.Links.map Record.cells)), .d (.sl 6 (x.L.map Record.cells)), .d (dI (x.Sent))]⟩, [], [19], []⟩, ⟨.t ⟨false, [.d (.sl 8 (ys.map Answer.cells))]⟩, [], [1], []⟩, ⟨.t ⟨false, [.d (dI (i : Int))]⟩, [], [5], []⟩, ⟨.t ⟨false, [.fe 8 (ys.map Answer.cells) i 0]⟩, [], [21, 22], []⟩, ⟨.t ⟨true, [.d (dI (y.No)), .d (dI (y.Client)), .d (dI (y.Code)), .d (dS (y.Q.Name)), .d (dI (y.Q.Typ)), .d (.sl 6 (y.Links.map Record.cells)), .d (.sl 6 (y.L.map Record.cells)), .d (dI (y.Sent))]⟩, [], [23], []⟩, ⟨.t ⟨false, [.d (dB (decide (x = y)))]⟩, [], [20, 24], []⟩, ⟨.t ⟨false, [.d (dB (!(decide (x = y))))]⟩, [], [25], []⟩] mixed rfl rfl rfl rfl ⟨fun t h A => dy (zmv rfl (A.e rfl rfl rfl)), fun t h A => dy (zmv rfl (A.e rfl rfl rfl)), fun t h A => dy (zix tabOk rfl rfl rfl (A.e rfl rfl rfl) (A.e rfl rfl rfl) (ltm_of_some hxi)), fun t h A => dy (zle tabOk rfl (A.e rfl rfl rfl) (getm hxi) rfl rfl), fun t h A => dy (zmv rfl (A.e rfl rfl rfl)), fun t h A => dy (zmv rfl (A.e rfl rfl rfl)), fun t h A => dy (zix tabOk rfl rfl rfl (A.e rfl rfl rfl) (A.e rfl rfl rfl) (ltm_of_some hyi)), fun t h A => dy (zle tabOk rfl (A.e rfl rfl rfl) (getm hyi) rfl rfl), fun t h A => zcallA 0 (.t ⟨false, [.d (dB (decide (x = y)))]⟩) [] rfl (tr_eqAnswer x y ((hx.2 _ (List.mem_of_getElem? hxi))) ((hy.2 _ (List.mem_of_getElem? hyi)))) (ar (A.e rfl rfl rfl) (.d (.d (.d (.d (.d (.d (.d (.d .nil)))))))) (ar (A.e rfl rfl rfl) (.d (.d (.d (.d (.d (.d (.d (.d .nil)))))))) .nil)) rfl (free0 rfl) rfl rfl, fun t h A => dy (y_un rfl (A.e rfl rfl rfl) (fun _ => u_not) rfl), trivial⟩ ?_
    refine s_end ?_
    refine v_cond (e rfl rfl) (fun hb3 => ?_) fun hb3 => ?_
    · refine v_seq ?_
      refine v_reg ?_
      refine sy _ (zas rfl (ec rfl)) rfl rfl ?_
      refine s_end ?_
      refine v_ret ?_
      have hr : decide (xs = ys) = false := by
        have hne : x ≠ y := by have := hb3; simpa using this
        simp only [decide_eq_false_iff_not]; intro h; subst h; rw [hxi] at hyi; injection hyi with hyi; exact hne hyi
      rw [hr]
      exact post_ret (rv (.tmp (eg rfl rfl)) rfl (.lf .nil) rfl .nil) (.ro (.ro .nil)) rfl
    refine v_skip ?_
    refine blk_norm ?_
    refine v_reg ?_
    refine sy _ (zmv rfl (e rfl rfl)) rfl rfl ?_
    refine sy (.t ⟨false, [.d (dI ((i : Int) + 1))]⟩) (y_bin rfl (e rfl rfl) (ec rfl) (fun _ => b_addn (by omega) (by omega)) rfl) rfl rfl ?_
    refine sy _ (zas rfl (e rfl rfl)) rfl rfl ?_
    refine s_end ?_
    have hxy : x = y := by have := hb3; simpa using this
    subst hxy
    exact lp_next (i + 1) ⟨hlt, by rw [List.take_add_one, List.take_add_one, hi.2, hxi, hyi]⟩ (by omega) ⟨rfl, rfl, rfl, trivial⟩ trivial rfl
  refine v_exit ?_
  refine then_exit ?_
  refine loop_exit ?_
  refine blk_hit ?_
  refine v_seq ?_
  refine v_reg ?_
  refine sy _ (zas rfl (ec rfl)) rfl rfl ?_
  refine s_end ?_
  refine v_ret ?_
  have hr : decide (xs = ys) = true := by
    have : i = xs.length := by have := hb2; simp at this; omega
    subst this
    have h5 := hi.2; rw [List.take_length, hlen, List.take_length] at h5; simpa using h5
  rw [hr]
  exact post_ret (rv (.tmp (eg rfl rfl)) rfl (.lf .nil) rfl .nil) (.ro (.ro .nil)) rfl
set_option maxRecDepth 20000 in
theorem tr_eqEntry (a b : Entry) (ha : a.Fit) (hb0 : b.Fit) : Tr Try.prog 99 [.ro ⟨true, [dS (a.Q.Name), dI (a.Q.Typ), dI (a.Kind), .sl 6 (a.L.map Record.cells), dI (a.Rank), dI (a.Until)]⟩, .ro ⟨true, [dS (b.Q.Name), dI (b.Q.Typ), dI (b.Kind), .sl 6 (b.L.map Record.cells), dI (b.Rank), dI (b.Until)]⟩] [one (dB (decide (a = b)))] := by
  refine tr_go tabOk Try.func99 rfl rfl rfl rfl rfl (ov := [(0, .t ⟨true, [.d (dS (a.Q.Name)), .d (dI (a.Q.Typ)), .d (dI (a.Kind)), .d (.sl 6 (a.L.map Record.cells)), .d (dI (a.Rank)), .d (dI (a.Until))]⟩), (1, .t ⟨true, [.d (dS (b.Q.Name)), .d (dI (b.Q.Typ)), .d (dI (b.Kind)), .d (.sl 6 (b.L.map Record.cells)), .d (dI (b.Rank)), .d (dI (b.Until))]⟩)]) (hv := []) rfl rfl ?_
  refine v_seq ?_
  refine v_reg ?_
  refine sr 0 (.t ⟨false, [.vp 0 0]⟩) (.var [.d (dS (a.Q.Name)), .d (dI (a.Q.Typ)), .d (dI (a.Kind)), .d (.sl 6 (a.L.map Record.cells)), .d (dI (a.Rank)), .d (dI (a.Until))]) (zbx rfl (e rfl rfl) rfl rfl rfl) rfl rfl ?_
  refine sr 1 (.t ⟨false, [.vp 1 0]⟩) (.var [.d (dS (b.Q.Name)), .d (dI (b.Q.Typ)), .d (dI (b.Kind)), .d (.sl 6 (b.L.map Record.cells)), .d (dI (b.Rank)), .d (dI (b.Until))]) (zbx rfl (e rfl rfl) rfl rfl rfl) rfl rfl ?_
  refine sy _ (zas rfl (ec rfl)) rfl rfl ?_
  refine s_end ?_
  refine v_seq ?_
  refine v_seq ?_
  refine v_reg ?_
  refine sy (.t ⟨false, [.vp 0 0]⟩) (zfa tabOk rfl rfl rfl (e rfl rfl) rfl rfl) rfl rfl ?_
  refine sy (.t ⟨true, [.d (dS (a.Q.Name)), .d (dI (a.Q.Typ))]⟩) (zlv tabOk rfl (e rfl rfl) rfl rfl rfl) rfl rfl ?_
  refine sy (.t ⟨false, [.vp 1 0]⟩) (zfa tabOk rfl rfl rfl (e rfl rfl) rfl rfl) rfl rfl ?_
  refine sy (.t ⟨true, [.d (dS (b.Q.Name)), .d (dI (b.Q.Typ))]⟩) (zlv tabOk rfl (e rfl rfl) rfl rfl rfl) rfl rfl ?_
  refine sd (.t ⟨false, [.d (dB (decide (a.Q = b.Q)))]⟩) (zcall 2 (.t ⟨false, [.d (dB (decide (a.Q = b.Q)))]⟩) [] rfl (tr_eqQuest a.Q b.Q ha.Q hb0.Q) (ar (e rfl rfl) (.d (.d .nil)) (ar (e rfl rfl) (.d (.d .nil)) .nil)) rfl rfl rfl) rfl rfl rfl rfl ?_
  refine sy (.t ⟨false, [.d (dB (!(decide (a.Q = b.Q))))]⟩) (y_un rfl (e rfl rfl) (fun _ => u_not) rfl) rfl rfl ?_
  refine s_end ?_
  refine v_cond (e rfl rfl) (fun hb1 => ?_) fun hb1 => ?_
  · refine v_seq ?_
    refine v_reg ?_
    refine sy _ (zas rfl (ec rfl)) rfl rfl ?_
    refine s_end ?_
    refine v_ret ?_
    have hr : decide (a = b) = false := by cases a; cases b; simp_all
    rw [hr]
    exact post_ret (rv (.tmp (eg rfl rfl)) rfl (.lf .nil) rfl .nil) (.ro (.ro .nil)) rfl
  refine v_skip ?_
  refine v_seq ?_
  refine v_seq ?_
  refine v_reg ?_
  refine sy (.t ⟨false, [.vp 0 2]⟩) (zfa tabOk rfl rfl rfl (e rfl rfl) rfl rfl) rfl rfl ?_
  refine sy (.t ⟨false, [.d (dI (a.Kind))]⟩) (zlv tabOk rfl (e rfl rfl) rfl rfl rfl) rfl rfl ?_
  refine sy (.t ⟨false, [.vp 1 2]⟩) (zfa tabOk rfl rfl rfl (e rfl rfl) rfl rfl) rfl rfl ?_
  refine sy (.t ⟨false, [.d (dI (b.Kind))]⟩) (zlv tabOk rfl (e rfl rfl) rfl rfl rfl) rfl rfl ?_
  refine sy (.t ⟨false, [.d (dB (decide ((a.Kind) ≠ (b.Kind))))]⟩) (y_bin rfl (e rfl rfl) (e rfl rfl) (fun _ => b_neq) rfl) rfl rfl ?_
  refine s_end ?_
  refine v_cond (e rfl rfl) (fun hb2 => ?_) fun hb2 => ?_
  · refine v_seq ?_
    refine v_reg ?_
    refine sy _ (zas rfl (ec rfl)) rfl rfl ?_
    refine s_end ?_
    refine v_ret ?_
    have hr : decide (a = b) = false := by cases a; cases b; simp_all
    rw [hr]
    exact post_ret (rv (.tmp (eg rfl rfl)) rfl (.lf .nil) rfl .nil) (.ro (.ro .nil)) rfl
  refine v_skip ?_
  refine v_seq ?_
  refine v_seq ?_
  refine v_reg ?_
  refine sy (.t ⟨false, [.vp 0 3]⟩) (zfa tabOk rfl rfl rfl (e rfl rfl) rfl rfl) rfl rfl ?_
  refine sy (.t ⟨false, [.d (.sl 6 (a.L.map Record.cells))]⟩) (zlv tabOk rfl (e rfl rfl) rfl rfl rfl) rfl rfl ?_
  refine sy (.t ⟨false, [.vp 1 3]⟩) (zfa tabOk rfl rfl rfl (e rfl rfl) rfl rfl) rfl rfl ?_
  refine sy (.t ⟨false, [.d (.sl 6 (b.L.map Record.cells))]⟩) (zlv tabOk rfl (e rfl rfl) rfl rfl rfl) rfl rfl ?_
  refine sd (.t ⟨false, [.d (dB (decide (a.L = b.L)))]⟩) (zcall 2 (.t ⟨false, [.d (dB (decide (a.L = b.L)))]⟩) [] rfl (tr_eqRecordS a.L b.L ha.L hb0.L) (ar (e rfl rfl) (.d .nil) (ar (e rfl rfl) (.d .nil) .nil)) rfl rfl rfl) rfl rfl rfl rfl ?_
  refine sy (.t ⟨false, [.d (dB (!(decide (a.L = b.L))))]⟩) (y_un rfl (e rfl rfl) (fun _ => u_not) rfl) rfl rfl ?_
  refine s_end ?_
  refine v_cond (e rfl rfl) (fun hb3 => ?_) fun hb3 => ?_
  · refine v_seq ?_
    refine v_reg ?_
    refine sy _ (zas rfl (ec rfl)) rfl rfl ?_
    refine s_end ?_
    refine v_ret ?_
    have hr : decide (a = b) = false := by cases a; cases b; simp_all
    rw [hr]
    exact post_ret (rv (.tmp (eg rfl rfl)) rfl (.lf .nil) rfl .nil) (.ro (.ro .nil)) rfl
  refine v_skip ?_
  refine v_seq ?_
  refine v_seq ?_
  refine v_reg ?_
  refine sy (.t ⟨false, [.vp 0 4]⟩) (zfa tabOk rfl rfl rfl (e rfl rfl) rfl rfl) rfl rfl ?_
  refine sy (.t ⟨false, [.d (dI (a.Rank))]⟩) (zlv tabOk rfl (e rfl rfl) rfl rfl rfl) rfl rfl ?_
  refine sy (.t ⟨false, [.vp 1 4]⟩) (zfa tabOk rfl rfl rfl (e rfl rfl) rfl rfl) rfl rfl ?_
  refine sy (.t ⟨false, [.d (dI (b.Rank))]⟩) (zlv tabOk rfl (e rfl rfl) rfl rfl rfl) rfl rfl ?_
  refine sy (.t ⟨false, [.d (dB (decide ((a.Rank) ≠ (b.Rank))))]⟩) (y_bin rfl (e rfl rfl) (e rfl rfl) (fun _ => b_neq) rfl) rfl rfl ?_
  refine s_end ?_
  refine v_cond (e rfl rfl) (fun hb4 => ?_) fun hb4 => ?_
  · refine v_seq ?_
    refine v_reg ?_
    refine sy _ (zas rfl (ec rfl)) rfl rfl ?_
    refine s_end ?_
    refine v_ret ?_
    have hr : decide (a = b) = false := by cases a; cases b; simp_all
    rw [hr]
    exact post_ret (rv (.tmp (eg rfl rfl)) rfl (.lf .nil) rfl .nil) (.ro (.ro .nil)) rfl
  refine v_skip ?_
  refine v_seq ?_
  refine v_seq ?_
  refine v_reg ?_
  refine sy (.t ⟨false, [.vp 0 5]⟩) (zfa tabOk rfl rfl rfl (e rfl rfl) rfl rfl) rfl rfl ?_
  refine sy (.t ⟨false, [.d (dI (a.Until))]⟩) (zlv tabOk rfl (e rfl rfl) rfl rfl rfl) rfl rfl ?_
  refine sy (.t ⟨false, [.vp 1 5]⟩) (zfa tabOk rfl rfl rfl (e rfl rfl) rfl rfl) rfl rfl ?_
  refine sy (.t ⟨false, [.d (dI (b.Until))]⟩) (zlv tabOk rfl (e rfl rfl) rfl rfl rfl) rfl rfl ?_
  refine sy (.t ⟨false, [.d (dB (decide ((a.Until) ≠ (b.Until))))]⟩) (y_bin rfl (e rfl rfl) (e rfl rfl) (fun _ => b_neq) rfl) rfl rfl ?_
  refine s_end ?_
  refine v_cond (e rfl rfl) (fun hb5 => ?_) fun hb5 => ?_
  · refine v_seq ?_
    refine v_reg ?_
    refine sy _ (zas rfl (ec rfl)) rfl rfl ?_
    refine s_end ?_
    refine v_ret ?_
    have hr : decide (a = b) = false := by cases a; cases b; simp_all
    rw [hr]
    exact post_ret (rv (.tmp (eg rfl rfl)) rfl (.lf .nil) rfl .nil) (.ro (.ro .nil)) rfl
  refine v_skip ?_
  refine v_seq ?_
  refine v_reg ?_
  refine sy _ (zas rfl (ec rfl)) rfl rfl ?_
  refine s_end ?_
  refine v_ret ?_
  have hr : decide (a = b) = true := by cases a; cases b; simp_all
  rw [hr]
  exact post_ret (rv (.tmp (eg rfl rfl)) rfl (.lf .nil) rfl .nil) (.ro (.ro .nil)) rfl
set_option maxRecDepth 20000 in
theorem tr_eqEntryS (xs ys : List Entry) (hx : fitL Entry.Fit xs) (hy : fitL Entry.Fit ys) : Tr Try.prog 91 [.ro ⟨false, [.sl 6 (xs.map Entry.cells)]⟩, .ro ⟨false, [.sl 6 (ys.map Entry.cells)]⟩] [one (dB (decide (xs = ys)))] := by
  refine tr_go tabOk Try.func91 rfl rfl rfl rfl rfl (ov := [(0, .t ⟨false, [.d (.sl 6 (xs.map Entry.cells))]⟩), (1, .t ⟨false, [.d (.sl 6 (ys.map Entry.cells))]⟩)]) (hv := []) rfl rfl ?_
  refine v_seq ?_
  refine v_reg ?_
  refine sy _ (zas rfl (ec rfl)) rfl rfl ?_
  refine s_end ?_
  refine v_seq ?_
  refine v_seq ?_
  refine v_reg ?_
  refine sy _ (zmv rfl (e rfl rfl)) rfl rfl ?_
  refine sy (.t ⟨false, [.d (dI ((xs.map Entry.cells).length : Int))]⟩) (zln tabOk rfl rfl (e rfl rfl) .d) rfl rfl ?_
  refine sy _ (zmv rfl (e rfl rfl)) rfl rfl ?_
  refine sy (.t ⟨false, [.d (dI ((ys.map Entry.cells).length : Int))]⟩) (zln tabOk rfl rfl (e rfl rfl) .d) rfl rfl ?_
  refine sy (.t ⟨false, [.d (dB (decide ((((xs.map Entry.cells).length : Int)) ≠ (((ys.map Entry.cells).length : Int)))))]⟩) (y_bin rfl (e rfl rfl) (e rfl rfl) (fun _ => b_neq) rfl) rfl rfl ?_
  refine s_end ?_
  refine v_cond (e rfl rfl) (fun hb1 => ?_) fun hb1 => ?_
  · refine v_seq ?_
    refine v_reg ?_
    refine sy _ (zas rfl (ec rfl)) rfl rfl ?_
    refine s_end ?_
    refine v_ret ?_
    have hr : decide (xs = ys) = false := by simp at hb1 ⊢; intro h; subst h; exact hb1 rfl
    rw [hr]
    exact post_ret (rv (.tmp (eg rfl rfl)) rfl (.lf .nil) rfl .nil) (.ro (.ro .nil)) rfl
  have hlen : xs.length = ys.length := by have := hb1; simp at this; omega
  refine v_skip ?_
  refine v_seq ?_
  refine v_seq ?_
  refine v_reg ?_
  refine sy _ (zas rfl (ec rfl)) rfl rfl ?_
  refine s_end ?_
  refine v_block ?_
  have hB := hx.1
  refine v_lp (fun (i : Nat) => [(0, .t ⟨false, [.d (.sl 6 (xs.map Entry.cells))]⟩), (1, .t ⟨false, [.d (.sl 6 (ys.map Entry.cells))]⟩), (5, .t ⟨false, [.d (dI (i : Int))]⟩)]) (fun _ => []) (fun i => i ≤ xs.length ∧ xs.take i = ys.take i) (fun i => xs.length - i) 0 ⟨Nat.zero_le _, rfl⟩ ⟨rfl, rfl, rfl, trivial⟩ trivial rfl (fun i hi => ?_)
  refine v_seq ?_
  refine v_seq ?_
  refine v_reg ?_
  refine sy _ (zmv rfl (e rfl rfl)) rfl rfl ?_
  refine sy _ (zmv rfl (e rfl rfl)) rfl rfl ?_
  refine sy (.t ⟨false, [.d (dI ((xs.map Entry.cells).length : Int))]⟩) (zln tabOk rfl rfl (e rfl rfl) .d) rfl rfl ?_
  refine sy (.t ⟨false, [.d (dB (decide (((i : Int)) < (((xs.map Entry.cells).length : Int)))))]⟩) (y_bin rfl (e rfl rfl) (e rfl rfl) (fun _ => b_lss) rfl) rfl rfl ?_
  refine s_end ?_
  refine v_cond (e rfl rfl) (fun hb2 => ?_) fun hb2 => ?_
  · have hlt : i < xs.length := by simpa using hb2
    obtain ⟨x, hxi⟩ := some_of_lt hlt
    obtain ⟨y, hyi⟩ := some_of_lt (l := ys) (i := i) (by omega)
    refine v_skip ?_
    refine v_seq ?_
    refine v_block ?_
    refine v_seq ?_
    refine v_drw [⟨.t ⟨false, [.d (.sl 6 (xs.map Entry.cells))]⟩, [], [0], []⟩, ⟨.t ⟨false, [.d (dI (i : Int))]⟩, [], [5], []⟩, ⟨.t ⟨false, [.fe 6 (xs.map Entry.cells) i 0]⟩, [], [17, 18], []⟩, ⟨.t ⟨true, [.d (dS (x.Q.Name)), .d (dI (x.Q.Typ)), .d (dI (x.Kind)), .d (.sl 6 (x.L.map Record.cells)), .d (dI (x.Rank)), .d (dI (x.Until))]⟩, [], [19], []⟩, ⟨.t ⟨false, [.d (.sl 6 (ys.map Entry.cells))]⟩, [], [1], []⟩, ⟨.t ⟨false, [.d (dI (i : Int))]⟩, [], [5], []⟩, ⟨.t ⟨false, [.fe 6 (ys.map Entry.cells) i 0]⟩, [], [21, 22], []⟩, ⟨.t ⟨true, [.d (dS (y.Q.Name)), .d (dI (y.Q.Typ)), .d (dI (y.Kind)), .d (.sl 6 (y.L.map Record.cells)), .d (dI (y.Rank)), .d (dI (y.Until))]⟩, [], [23], []⟩, ⟨.t ⟨false, [.d (dB (decide (x = y)))]⟩, [], [20, 24], []⟩, ⟨.t ⟨false, [.d (dB (!(decide (x = y))))]⟩, [], [25], []⟩] mixed rfl rfl rfl rfl ⟨fun t h A => dy (zmv rfl (A.e rfl rfl rfl)), fun t h A => dy (zmv rfl (A.e rfl rfl rfl)), fun t h A => dy (zix tabOk rfl rfl rfl (A.e rfl rfl rfl) (A.e rfl rfl rfl) (ltm_of_some hxi)), fun t h A => dy (zle tabOk rfl (A.e rfl rfl rfl) (getm hxi) rfl rfl), fun t h A => dy (zmv rfl (A.e rfl rfl rfl)), fun t h A => dy (zmv rfl (A.e rfl rfl rfl)), fun t h A => dy (zix tabOk rfl rfl rfl (A.e rfl rfl rfl) (A.e rfl rfl rfl) (ltm_of_some hyi)), fun t h A => dy (zle tabOk rfl (A.e rfl rfl rfl) (getm hyi) rfl rfl), fun t h A => zcallA 0 (.t ⟨false, [.d (dB (decide (x = y)))]⟩) [] rfl (tr_eqEntry x y ((hx.2 _ (List.mem_of_getElem? hxi))) ((hy.2 _ (List.mem_of_getElem? hyi)))) (ar (A.e rfl rfl rfl) (.d (.d (.d (.d (.d (.d .nil)))))) (ar (A.e rfl rfl rfl) (.d (.d (.d (.d (.d (.d .nil)))))) .nil)) rfl (free0 rfl) rfl rfl, fun t h A => dy (y_un rfl (A.e rfl rfl rfl) (fun _ => u_not) rfl), trivial⟩ ?_
    refine s_end ?_
    refine v_cond (e rfl rfl) (fun hb3 => ?_) fun hb3 => ?_
    · refine v_seq ?_
      refine v_reg ?_
      refine sy _ (zas rfl (ec rfl)) rfl rfl ?_
      refine s_end ?_
      refine v_ret ?_
      have hr : decide (xs = ys) = false := by
        have hne : x ≠ y := by have := hb3; simpa using this
        simp only [decide_eq_false_iff_not]; intro h; subst h; rw [hxi] at hyi; injection hyi with hyi; exact hne hyi
      rw [hr]
      exact post_ret (rv (.tmp (eg rfl rfl)) rfl (.lf .nil) rfl .nil) (.ro (.ro .nil)) rfl
    refine v_skip ?_
    refine blk_norm ?_
    refine v_reg ?_
    refine sy _ (zmv rfl (e rfl rfl)) rfl rfl ?_
    refine sy (.t ⟨false, [.d (dI ((i : Int) + 1))]⟩) (y_bin rfl (e rfl rfl) (ec rfl) (fun _ => b_addn (by omega) (by omega)) rfl) rfl rfl ?_
    refine sy _ (zas rfl (e rfl rfl)) rfl rfl ?_
    refine s_end ?_
    have hxy : x = y := by have := hb3; simpa using this
    subst hxy
    exact lp_next (i + 1) ⟨hlt, by rw [List.take_add_one, List.take_add_one, hi.2, hxi, hyi]⟩ (by omega) ⟨rfl, rfl, rfl, trivial⟩ trivial rfl
  refine v_exit ?_
  refine then_exit ?_
  refine loop_exit ?_
  refine blk_hit ?_
  refine v_seq ?_
  refine v_reg ?_
  refine sy _ (zas rfl (ec rfl)) rfl rfl ?_
  refine s_end ?_
  refine v_ret ?_
  have hr : decide (xs = ys) = true := by
    have : i = xs.length := by have := hb2; simp at this; omega
    subst this
    have h5 := hi.2; rw [List.take_length, hlen, List.take_length] at h5; simpa using h5
  rw [hr]
  exact post_ret (rv (.tmp (eg rfl rfl)) rfl (.lf .nil) rfl .nil) (.ro (.ro .nil)) rfl
set_option maxRecDepth 20000 in
theorem tr_eqCache (a b : Cache) (ha : a.Fit) (hb0 : b.Fit) : Tr Try.prog 67 [.ro ⟨true, [dI (a.Cap), .sl 6 (a.L.map Entry.cells)]⟩, .ro ⟨true, [dI (b.Cap), .sl 6 (b.L.map Entry.cells)]⟩] [one (dB (decide (a = b)))] := by
  refine tr_go tabOk Try.func67 rfl rfl rfl rfl rfl (ov := [(0, .t ⟨true, [.d (dI (a.Cap)), .d (.sl 6 (a.L.map Entry.cells))]⟩), (1, .t ⟨true, [.d (dI (b.Cap)), .d (.sl 6 (b.L.map Entry.cells))]⟩)]) (hv := []) rfl rfl ?_
  refine v_seq ?_
  refine v_reg ?_
  refine sr 0 (.t ⟨false, [.vp 0 0]⟩) (.var [.d (dI (a.Cap)), .d (.sl 6 (a.L.map Entry.cells))]) (zbx rfl (e rfl rfl) rfl rfl rfl) rfl rfl ?_
  refine sr 1 (.t ⟨false, [.vp 1 0]⟩) (.var [.d (dI (b.Cap)), .d (.sl 6 (b.L.map Entry.cells))]) (zbx rfl (e rfl rfl) rfl rfl rfl) rfl rfl ?_
  refine sy _ (zas rfl (ec rfl)) rfl rfl ?_
  refine s_end ?_
  refine v_seq ?_
  refine v_seq ?_
  refine v_reg ?_
  refine sy (.t ⟨false, [.vp 0 0]⟩) (zfa tabOk rfl rfl rfl (e rfl rfl) rfl rfl) rfl rfl ?_
  refine sy (.t ⟨false, [.d (dI (a.Cap))]⟩) (zlv tabOk rfl (e rfl rfl) rfl rfl rfl) rfl rfl ?_
  refine sy (.t ⟨false, [.vp 1 0]⟩) (zfa tabOk rfl rfl rfl (e rfl rfl) rfl rfl) rfl rfl ?_
  refine sy (.t ⟨false, [.d (dI (b.Cap))]⟩) (zlv tabOk rfl (e rfl rfl) rfl rfl rfl) rfl rfl ?_
  refine sy (.t ⟨false, [.d (dB (decide ((a.Cap) ≠ (b.Cap))))]⟩) (y_bin rfl (e rfl rfl) (e rfl rfl) (fun _ => b_neq) rfl) rfl rfl ?_
  refine s_end ?_
  refine v_cond (e rfl rfl) (fun hb1 => ?_) fun hb1 => ?_
  · refine v_seq ?_
    refine v_reg ?_
    refine sy _ (zas rfl (ec rfl)) rfl rfl ?_
    refine s_end ?_
    refine v_ret ?_
    have hr : decide (a = b) = false := by cases a; cases b; simp_all
    rw [hr]
    exact post_ret (rv (.tmp (eg rfl rfl)) rfl (.lf .nil) rfl .nil) (.ro (.ro .nil)) rfl
  refine v_skip ?_
  refine v_seq ?_
  refine v_seq ?_
  refine v_reg ?_
  refine sy (.t ⟨false, [.vp 0 1]⟩) (zfa tabOk rfl rfl rfl (e rfl rfl) rfl rfl) rfl rfl ?_
  refine sy (.t ⟨false, [.d (.sl 6 (a.L.map Entry.cells))]⟩) (zlv tabOk rfl (e rfl rfl) rfl rfl rfl) rfl rfl ?_
  refine sy (.t ⟨false, [.vp 1 1]⟩) (zfa tabOk rfl rfl rfl (e rfl rfl) rfl rfl) rfl rfl ?_
  refine sy (.t ⟨false, [.d (.sl 6 (b.L.map Entry.cells))]⟩) (zlv tabOk rfl (e rfl rfl) rfl rfl rfl) rfl rfl ?_
  refine sd (.t ⟨false, [.d (dB (decide (a.L = b.L)))]⟩) (zcall 2 (.t ⟨false, [.d (dB (decide (a.L = b.L)))]⟩) [] rfl (tr_eqEntryS a.L b.L ha.L hb0.L) (ar (e rfl rfl) (.d .nil) (ar (e rfl rfl) (.d .nil) .nil)) rfl rfl rfl) rfl rfl rfl rfl ?_
  refine sy (.t ⟨false, [.d (dB (!(decide (a.L = b.L))))]⟩) (y_un rfl (e rfl rfl) (fun _ => u_not) rfl) rfl rfl ?_
  refine s_end ?_
  refine v_cond (e rfl rfl) (fun hb2 => ?_) fun hb2 => ?_
  · refine v_seq ?_
    refine v_reg ?_
    refine sy _ (zas rfl (ec rfl)) rfl rfl ?_
    refine s_end ?_
    refine v_ret ?_
    have hr : decide (a = b) = false := by cases a; cases b; simp_all
    rw [hr]
    exact post_ret (rv (.tmp (eg rfl rfl)) rfl (.lf .nil) rfl .nil) (.ro (.ro .nil)) rfl
  refine v_skip ?_
  refine v_seq ?_
  refine v_reg ?_
  refine sy _ (zas rfl (ec rfl)) rfl rfl ?_
  refine s_end ?_
  refine v_ret ?_
  have hr : decide (a = b) = true := by cases a; cases b; simp_all
  rw [hr]
  exact post_ret (rv (.tmp (eg rfl rfl)) rfl (.lf .nil) rfl .nil) (.ro (.ro .nil)) rfl
set_option maxRecDepth 20000 in
theorem tr_eqByteS (xs ys : List Int) (hx : fitL fitU xs) (hy : fitL fitU ys) : Tr Try.prog 100 [.ro ⟨false, [.sl 1 (xs.map encY)]⟩, .ro ⟨false, [.sl 1 (ys.map encY)]⟩] [one (dB (decide (xs = ys)))] := by
  refine tr_go tabOk Try.func100 rfl rfl rfl rfl rfl (ov := [(0, .t ⟨false, [.d (.sl 1 (xs.map encY))]⟩), (1, .t ⟨false, [.d (.sl 1 (ys.map encY))]⟩)]) (hv := []) rfl rfl ?_
  refine v_seq ?_
  refine v_reg ?_
  refine sy _ (zas rfl (ec rfl)) rfl rfl ?_
  refine s_end ?_
  refine v_seq ?_
  refine v_seq ?_
  refine v_reg ?_
  refine sy _ (zmv rfl (e rfl rfl)) rfl rfl ?_
  refine sy (.t ⟨false, [.d (dI ((xs.map encY).length : Int))]⟩) (zln tabOk rfl rfl (e rfl rfl) .d) rfl rfl ?_
  refine sy _ (zmv rfl (e rfl rfl)) rfl rfl ?_
  refine sy (.t ⟨false, [.d (dI ((ys.map encY).length : Int))]⟩) (zln tabOk rfl rfl (e rfl rfl) .d) rfl rfl ?_
  refine sy (.t ⟨false, [.d (dB (decide ((((xs.map encY).length : Int)) ≠ (((ys.map encY).length : Int)))))]⟩) (y_bin rfl (e rfl rfl) (e rfl rfl) (fun _ => b_neq) rfl) rfl rfl ?_
  refine s_end ?_
  refine v_cond (e rfl rfl) (fun hb1 => ?_) fun hb1 => ?_
  · refine v_seq ?_
    refine v_reg ?_
    refine sy _ (zas rfl (ec rfl)) rfl rfl ?_
    refine s_end ?_
    refine v_ret ?_
    have hr : decide (xs = ys) = false := by simp at hb1 ⊢; intro h; subst h; exact hb1 rfl
    rw [hr]
    exact post_ret (rv (.tmp (eg rfl rfl)) rfl (.lf .nil) rfl .nil) (.ro (.ro .nil)) rfl
  have hlen : xs.length = ys.length := by have := hb1; simp at this; omega
  refine v_skip ?_
  refine v_seq ?_
  refine v_seq ?_
  refine v_reg ?_
  refine sy _ (zas rfl (ec rfl)) rfl rfl ?_
  refine s_end ?_
  refine v_block ?_
  have hB := hx.1
  refine v_lp (fun (i : Nat) => [(0, .t ⟨false, [.d (.sl 1 (xs.map encY))]⟩), (1, .t ⟨false, [.d (.sl 1 (ys.map encY))]⟩), (5, .t ⟨false, [.d (dI (i : Int))]⟩)]) (fun _ => []) (fun i => i ≤ xs.length ∧ xs.take i = ys.take i) (fun i => xs.length - i) 0 ⟨Nat.zero_le _, rfl⟩ ⟨rfl, rfl, rfl, trivial⟩ trivial rfl (fun i hi => ?_)
  refine v_seq ?_
  refine v_seq ?_
  refine v_reg ?_
  refine sy _ (zmv rfl (e rfl rfl)) rfl rfl ?_
  refine sy _ (zmv rfl (e rfl rfl)) rfl rfl ?_
  refine sy (.t ⟨false, [.d (dI ((xs.map encY).length : Int))]⟩) (zln tabOk rfl rfl (e rfl rfl) .d) rfl rfl ?_
  refine sy (.t ⟨false, [.d (dB (decide (((i : Int)) < (((xs.map encY).length : Int)))))]⟩) (y_bin rfl (e rfl rfl) (e rfl rfl) (fun _ => b_lss) rfl) rfl rfl ?_
  refine s_end ?_
  refine v_cond (e rfl rfl) (fun hb2 => ?_) fun hb2 => ?_
  · have hlt : i < xs.length := by simpa using hb2
    obtain ⟨x, hxi⟩ := some_of_lt hlt
    obtain ⟨y, hyi⟩ := some_of_lt (l := ys) (i := i) (by omega)
    refine v_skip ?_
    refine v_seq ?_
    refine v_block ?_
    refine v_seq ?_
    refine v_drw [⟨.t ⟨false, [.d (.sl 1 (xs.map encY))]⟩, [], [0], []⟩, ⟨.t ⟨false, [.d (dI (i : Int))]⟩, [], [5], []⟩, ⟨.t ⟨false, [.fe 1 (xs.map encY) i 0]⟩, [], [17, 18], []⟩, ⟨.t ⟨false, [.d (.lf (.int .u8 (x)))]⟩, [], [19], []⟩, ⟨.t ⟨false, [.d (.sl 1 (ys.map encY))]⟩, [], [1], []⟩, ⟨.t ⟨false, [.d (dI (i : Int))]⟩, [], [5], []⟩, ⟨.t ⟨false, [.fe 1 (ys.map encY) i 0]⟩, [], [21, 22], []⟩, ⟨.t ⟨false, [.d (.lf (.int .u8 (y)))]⟩, [], [23], []⟩, ⟨.t ⟨false, [.d (dB (decide ((x) ≠ (y))))]⟩, [], [20, 24], []⟩] mixed rfl rfl rfl rfl ⟨fun t h A => dy (zmv rfl (A.e rfl rfl rfl)), fun t h A => dy (zmv rfl (A.e rfl rfl rfl)), fun t h A => dy (zix tabOk rfl rfl rfl (A.e rfl rfl rfl) (A.e rfl rfl rfl) (ltm_of_some hxi)), fun t h A => dy (zle tabOk rfl (A.e rfl rfl rfl) (getm hxi) rfl rfl), fun t h A => dy (zmv rfl (A.e rfl rfl rfl)), fun t h A => dy (zmv rfl (A.e rfl rfl rfl)), fun t h A => dy (zix tabOk rfl rfl rfl (A.e rfl rfl rfl) (A.e rfl rfl rfl) (ltm_of_some hyi)), fun t h A => dy (zle tabOk rfl (A.e rfl rfl rfl) (getm hyi) rfl rfl), fun t h A => dy (y_bin rfl (A.e rfl rfl rfl) (A.e rfl rfl rfl) (fun _ => b_neq) rfl), trivial⟩ ?_
    refine s_end ?_
    refine v_cond (e rfl rfl) (fun hb3 => ?_) fun hb3 => ?_
    · refine v_seq ?_
      refine v_reg ?_
      refine sy _ (zas rfl (ec rfl)) rfl rfl ?_
      refine s_end ?_
      refine v_ret ?_
      have hr : decide (xs = ys) = false := by
        have hne : x ≠ y := by have := hb3; simpa using this
        simp only [decide_eq_false_iff_not]; intro h; subst h; rw [hxi] at hyi; injection hyi with hyi; exact hne hyi
      rw [hr]
      exact post_ret (rv (.tmp (eg rfl rfl)) rfl (.lf .nil) rfl .nil) (.ro (.ro .nil)) rfl
    refine v_skip ?_
    refine blk_norm ?_
    refine v_reg ?_
    refine sy _ (zmv rfl (e rfl rfl)) rfl rfl ?_
    refine sy (.t ⟨false, [.d (dI ((i : Int) + 1))]⟩) (y_bin rfl (e rfl rfl) (ec rfl) (fun _ => b_addn (by omega) (by omega)) rfl) rfl rfl ?_
    refine sy _ (zas rfl (e rfl rfl)) rfl rfl ?_
    refine s_end ?_
    have hxy : x = y := by have := hb3; simpa using this
    subst hxy
    exact lp_next (i + 1) ⟨hlt, by rw [List.take_add_one, List.take_add_one, hi.2, hxi, hyi]⟩ (by omega) ⟨rfl, rfl, rfl, trivial⟩ trivial rfl
  refine v_exit ?_
  refine then_exit ?_
  refine loop_exit ?_
  refine blk_hit ?_
  refine v_seq ?_
  refine v_reg ?_
  refine sy _ (zas rfl (ec rfl)) rfl rfl ?_
  refine s_end ?_
  refine v_ret ?_
  have hr : decide (xs = ys) = true := by
    have : i = xs.length := by have := hb2; simp at this; omega
    subst this
    have h5 := hi.2; rw [List.take_length, hlen, List.take_length] at h5; simpa using h5
  rw [hr]
  exact post_ret (rv (.tmp (eg rfl rfl)) rfl (.lf .nil) rfl .nil) (.ro (.ro .nil)) rfl
set_option maxRecDepth 20000 in
theorem tr_eqPacket (a b : Packet) (ha : a.Fit) (hb0 : b.Fit) : Tr Try.prog 93 [.ro ⟨true, [dI (a.Addr), .sl 1 (a.B.map encY)]⟩, .ro ⟨true, [dI (b.Addr), .sl 1 (b.B.map encY)]⟩] [one (dB (decide (a = b)))] := by
  refine tr_go tabOk Try.func93 rfl rfl rfl rfl rfl (ov := [(0, .t ⟨true, [.d (dI (a.Addr)), .d (.sl 1 (a.B.map encY))]⟩), (1, .t ⟨true, [.d (dI (b.Addr)), .d (.sl 1 (b.B.map encY))]⟩)]) (hv := []) rfl rfl ?_
  refine v_seq ?_
  refine v_reg ?_
  refine sr 0 (.t ⟨false, [.vp 0 0]⟩) (.var [.d (dI (a.Addr)), .d (.sl 1 (a.B.map encY))]) (zbx rfl (e rfl rfl) rfl rfl rfl) rfl rfl ?_
  refine sr 1 (.t ⟨false, [.vp 1 0]⟩) (.var [.d (dI (b.Addr)), .d (.sl 1 (b.B.map encY))]) (zbx rfl (e rfl rfl) rfl rfl rfl) rfl rfl ?_
  refine sy _ (zas rfl (ec rfl)) rfl rfl ?_
  refine s_end ?_
  refine v_seq ?_
  refine v_seq ?_
  refine v_reg ?_
  refine sy (.t ⟨false, [.vp 0 0]⟩) (zfa tabOk rfl rfl rfl (e rfl rfl) rfl rfl) rfl rfl ?_
  refine sy (.t ⟨false, [.d (dI (a.Addr))]⟩) (zlv tabOk rfl (e rfl rfl) rfl rfl rfl) rfl rfl ?_
  refine sy (.t ⟨false, [.vp 1 0]⟩) (zfa tabOk rfl rfl rfl (e rfl rfl) rfl rfl) rfl rfl ?_
  refine sy (.t ⟨false, [.d (dI (b.Addr))]⟩) (zlv tabOk rfl (e rfl rfl) rfl rfl rfl) rfl rfl ?_
  refine sy (.t ⟨false, [.d (dB (decide ((a.Addr) ≠ (b.Addr))))]⟩) (y_bin rfl (e rfl rfl) (e rfl rfl) (fun _ => b_neq) rfl) rfl rfl ?_
  refine s_end ?_
  refine v_cond (e rfl rfl) (fun hb1 => ?_) fun hb1 => ?_
  · refine v_seq ?_
    refine v_reg ?_
    refine sy _ (zas rfl (ec rfl)) rfl rfl ?_
    refine s_end ?_
    refine v_ret ?_
    have hr : decide (a = b) = false := by cases a; cases b; simp_all
    rw [hr]
    exact post_ret (rv (.tmp (eg rfl rfl)) rfl (.lf .nil) rfl .nil) (.ro (.ro .nil)) rfl
  refine v_skip ?_
  refine v_seq ?_
  refine v_seq ?_
  refine v_reg ?_
  refine sy (.t ⟨false, [.vp 0 1]⟩) (zfa tabOk rfl rfl rfl (e rfl rfl) rfl rfl) rfl rfl ?_
  refine sy (.t ⟨false, [.d (.sl 1 (a.B.map encY))]⟩) (zlv tabOk rfl (e rfl rfl) rfl rfl rfl) rfl rfl ?_
  refine sy (.t ⟨false, [.vp 1 1]⟩) (zfa tabOk rfl rfl rfl (e rfl rfl) rfl rfl) rfl rfl ?_
  refine sy (.t ⟨false, [.d (.sl 1 (b.B.map encY))]⟩) (zlv tabOk rfl (e rfl rfl) rfl rfl rfl) rfl rfl ?_
  refine sd (.t ⟨false, [.d (dB (decide (a.B = b.B)))]⟩) (zcall 2 (.t ⟨false, [.d (dB (decide (a.B = b.B)))]⟩) [] rfl (tr_eqByteS a.B b.B ha.B hb0.B) (ar (e rfl rfl) (.d .nil) (ar (e rfl rfl) (.d .nil) .nil)) rfl rfl rfl) rfl rfl rfl rfl ?_
  refine sy (.t ⟨false, [.d (dB (!(decide (a.B = b.B))))]⟩) (y_un rfl (e rfl rfl) (fun _ => u_not) rfl) rfl rfl ?_
  refine s_end ?_
  refine v_cond (e rfl rfl) (fun hb2 => ?_) fun hb2 => ?_
  · refine v_seq ?_
    refine v_reg ?_
    refine sy _ (zas rfl (ec rfl)) rfl rfl ?_
    refine s_end ?_
    refine v_ret ?_
    have hr : decide (a = b) = false := by cases a; cases b; simp_all
    rw [hr]
    exact post_ret (rv (.tmp (eg rfl rfl)) rfl (.lf .nil) rfl .nil) (.ro (.ro .nil)) rfl
  refine v_skip ?_
  refine v_seq ?_
  refine v_reg ?_
  refine sy _ (zas rfl (ec rfl)) rfl rfl ?_
  refine s_end ?_
  refine v_ret ?_
  have hr : decide (a = b) = true := by cases a; cases b; simp_all
  rw [hr]
  exact post_ret (rv (.tmp (eg rfl rfl)) rfl (.lf .nil) rfl .nil) (.ro (.ro .nil)) rfl
set_option maxRecDepth 20000 in
theorem tr_eqPacketS (xs ys : List Packet) (hx : fitL Packet.Fit xs) (hy : fitL Packet.Fit ys) : Tr Try.prog 70 [.ro ⟨false, [.sl 2 (xs.map Packet.cells)]⟩, .ro ⟨false, [.sl 2 (ys.map Packet.cells)]⟩] [one (dB (decide (xs = ys)))] := by
  refine tr_go tabOk Try.func70 rfl rfl rfl rfl rfl (ov := [(0, .t ⟨false, [.d (.sl 2 (xs.map Packet.cells))]⟩), (1, .t ⟨false, [.d (.sl 2 (ys.map Packet.cells))]⟩)]) (hv := []) rfl rfl ?_
  refine v_seq ?_
  refine v_reg ?_
  refine sy _ (zas rfl (ec rfl)) rfl rfl ?_
  refine s_end ?_
  refine v_seq ?_
  refine v_seq ?_
  refine v_reg ?_
  refine sy _ (zmv rfl (e rfl rfl)) rfl rfl ?_
  refine sy (.t ⟨false, [.d (dI ((xs.map Packet.cells).length : Int))]⟩) (zln tabOk rfl rfl (e rfl rfl) .d) rfl rfl ?_
  refine sy _ (zmv rfl (e rfl rfl)) rfl rfl ?_
  refine sy (.t ⟨false, [.d (dI ((ys.map Packet.cells).length : Int))]⟩) (zln tabOk rfl rfl (e rfl rfl) .d) rfl rfl ?_
  refine sy (.t ⟨false, [.d (dB (decide ((((xs.map Packet.cells).length : Int)) ≠ (((ys.map Packet.cells).length : Int)))))]⟩) (y_bin rfl (e rfl rfl) (e rfl rfl) (fun _ => b_neq) rfl) rfl rfl ?_
  refine s_end ?_
  refine v_cond (e rfl rfl) (fun hb1 => ?_) fun hb1 => ?_
  · refine v_seq ?_
    refine v_reg ?_
    refine sy _ (zas rfl (ec rfl)) rfl rfl ?_
    refine s_end ?_
    refine v_ret ?_
    have hr : decide (xs = ys) = false := by simp at hb1 ⊢; intro h; subst h; exact hb1 rfl
    rw [hr]
    exact post_ret (rv (.tmp (eg rfl rfl)) rfl (.lf .nil) rfl .nil) (.ro (.ro .nil)) rfl
  have hlen : xs.length = ys.length := by have := hb1; simp at this; omega
  refine v_skip ?_
  refine v_seq ?_
  refine v_seq ?_
  refine v_reg ?_
  refine sy _ (zas rfl (ec rfl)) rfl rfl ?_
  refine s_end ?_
  refine v_block ?_
  have hB := hx.1
  refine v_lp (fun (i : Nat) => [(0, .t ⟨false, [.d (.sl 2 (xs.map Packet.cells))]⟩), (1, .t ⟨false, [.d (.sl 2 (ys.map Packet.cells))]⟩), (5, .t ⟨false, [.d (dI (i : Int))]⟩)]) (fun _ => []) (fun i => i ≤ xs.length ∧ xs.take i = ys.take i) (fun i => xs.length - i) 0 ⟨Nat.zero_le _, rfl⟩ ⟨rfl, rfl, rfl, trivial⟩ trivial rfl (fun i hi => ?_)
  refine v_seq ?_
  refine v_seq ?_
  refine v_reg ?_
  refine sy _ (zmv rfl (e rfl rfl)) rfl rfl ?_
  refine sy _ (zmv rfl (e rfl rfl)) rfl rfl ?_
  refine sy (.t ⟨false, [.d (dI ((xs.map Packet.cells).length : Int))]⟩) (zln tabOk rfl rfl (e rfl rfl) .d) rfl rfl ?_
  refine sy (.t ⟨false, [.d (dB (decide (((i : Int)) < (((xs.map Packet.cells).length : Int)))))]⟩) (y_bin rfl (e rfl rfl) (e rfl rfl) (fun _ => b_lss) rfl) rfl rfl ?_
  refine s_end ?_
  refine v_cond (e rfl rfl) (fun hb2 => ?_) fun hb2 => ?_
  · have hlt : i < xs.length := by simpa using hb2
    obtain ⟨x, hxi⟩ := some_of_lt hlt
    obtain ⟨y, hyi⟩ := some_of_lt (l := ys) (i := i) (by omega)
    refine v_skip ?_
    refine v_seq ?_
    refine v_block ?_
    refine v_seq ?_
    refine v_drw [⟨.t ⟨false, [.d (.sl 2 (xs.map Packet.cells))]⟩, [], [0], []⟩, ⟨.t ⟨false, [.d (dI (i : Int))]⟩, [], [5], []⟩, ⟨.t ⟨false, [.fe 2 (xs.map Packet.cells) i 0]⟩, [], [17, 18], []⟩, ⟨.t ⟨true, [.d (dI (x.Addr)), .d (.sl 1 (x.B.map encY))]⟩, [], [19], []⟩, ⟨.t ⟨false, [.d (.sl 2 (ys.map Packet.cells))]⟩, [], [1], []⟩, ⟨.t ⟨false, [.d (dI (i : Int))]⟩, [], [5], []⟩, ⟨.t ⟨false, [.fe 2 (ys.map Packet.cells) i 0]⟩, [], [21, 22], []⟩, ⟨.t ⟨true, [.d (dI (y.Addr)), .d (.sl 1 (y.B.map encY))]⟩, [], [23], []⟩, ⟨.t ⟨false, [.d (dB (decide (x = y)))]⟩, [], [20, 24], []⟩, ⟨.t ⟨false, [.d (dB (!(decide (x = y))))]⟩, [], [25], []⟩] mixed rfl rfl rfl rfl ⟨fun t h A => dy (zmv rfl (A.e rfl rfl rfl)), fun t h A => dy (zmv rfl (A.e rfl rfl rfl)), fun t h A => dy (zix tabOk rfl rfl rfl (A.e rfl rfl rfl) (A.e rfl rfl rfl) (ltm_of_some hxi)), fun t h A => dy (zle tabOk rfl (A.e rfl rfl rfl) (getm hxi) rfl rfl), fun t h A => dy (zmv rfl (A.e rfl rfl rfl)), fun t h A => dy (zmv rfl (A.e rfl rfl rfl)), fun t h A => dy (zix tabOk rfl rfl rfl (A.e rfl rfl rfl) (A.e rfl rfl rfl) (ltm_of_some hyi)), fun t h A => dy (zle tabOk rfl (A.e rfl rfl rfl) (getm hyi) rfl rfl), fun t h A => zcallA 0 (.t ⟨false, [.d (dB (decide (x = y)))]⟩) [] rfl (tr_eqPacket x y ((hx.2 _ (List.mem_of_getElem? hxi))) ((hy.2 _ (List.mem_of_getElem? hyi)))) (ar (A.e rfl rfl rfl) (.d (.d .nil)) (ar (A.e rfl rfl rfl) (.d (.d .nil)) .nil)) rfl (free0 rfl) rfl rfl, fun t h A => dy (y_un rfl (A.e rfl rfl rfl) (fun _ => u_not) rfl), trivial⟩ ?_
    refine s_end ?_
    refine v_cond (e rfl rfl) (fun hb3 => ?_) fun hb3 => ?_
    · refine v_seq ?_
      refine v_reg ?_
      refine sy _ (zas rfl (ec rfl)) rfl rfl ?_
      refine s_end ?_
      refine v_ret ?_
      have hr : decide (xs = ys) = false := by
        have hne : x ≠ y := by have := hb3; simpa using this
        simp only [decide_eq_false_iff_not]; intro h; subst h; rw [hxi] at hyi; injection hyi with hyi; exact hne hyi
      rw [hr]
      exact post_ret (rv (.tmp (eg rfl rfl)) rfl (.lf .nil) rfl .nil) (.ro (.ro .nil)) rfl
    refine v_skip ?_
    refine blk_norm ?_
    refine v_reg ?_
    refine sy _ (zmv rfl (e rfl rfl)) rfl rfl ?_
    refine sy (.t ⟨false, [.d (dI ((i : Int) + 1))]⟩) (y_bin rfl (e rfl rfl) (ec rfl) (fun _ => b_addn (by omega) (by omega)) rfl) rfl rfl ?_
    refine sy _ (zas rfl (e rfl rfl)) rfl rfl ?_
    refine s_end ?_
    have hxy : x = y := by have := hb3; simpa using this
    subst hxy
    exact lp_next (i + 1) ⟨hlt, by rw [List.take_add_one, List.take_add_one, hi.2, hxi, hyi]⟩ (by omega) ⟨rfl, rfl, rfl, trivial⟩ trivial rfl
  refine v_exit ?_
  refine then_exit ?_
  refine loop_exit ?_
  refine blk_hit ?_
  refine v_seq ?_
  refine v_reg ?_
  refine sy _ (zas rfl (ec rfl)) rfl rfl ?_
  refine s_end ?_
  refine v_ret ?_
  have hr : decide (xs = ys) = true := by
    have : i = xs.length := by have := hb2; simp at this; omega
    subst this
    have h5 := hi.2; rw [List.take_length, hlen, List.take_length] at h5; simpa using h5
  rw [hr]
  exact post_ret (rv (.tmp (eg rfl rfl)) rfl (.lf .nil) rfl .nil) (.ro (.ro .nil)) rfl
set_option maxRecDepth 20000 in
theorem tr_eqWorld (a b : World) (ha : a.Fit) (hb0 : b.Fit) : Tr Try.prog 25 [.ro ⟨true, [dI (a.C.Quota), dI (a.C.Depth), dI (a.C.Chain), dI (a.C.Glue), dI (a.C.Tries), dI (a.C.Addrs), dI (a.C.Cap), .sl 1 (a.C.Roots.map encI), dI (a.Now), dI (a.K.Cap), .sl 6 (a.K.L.map Entry.cells), .sl 3 (a.Bad.map Lame.cells), .sl 7 (a.Jobs.map Job.cells), .sl 2 (a.Outs.map Packet.cells), .sl 8 (a.Reps.map Answer.cells), dI (a.Next)]⟩, .ro ⟨true, [dI (b.C.Quota), dI (b.C.Depth), dI (b.C.Chain), dI (b.C.Glue), dI (b.C.Tries), dI (b.C.Addrs), dI (b.C.Cap), .sl 1 (b.C.Roots.map encI), dI (b.Now), dI (b.K.Cap), .sl 6 (b.K.L.map Entry.cells), .sl 3 (b.Bad.map Lame.cells), .sl 7 (b.Jobs.map Job.cells), .sl 2 (b.Outs.map Packet.cells), .sl 8 (b.Reps.map Answer.cells), dI (b.Next)]⟩] [one (dB (decide (a = b)))] := by
  refine tr_go tabOk Try.func25 rfl rfl rfl rfl rfl (ov := [(0, .t ⟨true, [.d (dI (a.C.Quota)), .d (dI (a.C.Depth)), .d (dI (a.C.Chain)), .d (dI (a.C.Glue)), .d (dI (a.C.Tries)), .d (dI (a.C.Addrs)), .d (dI (a.C.Cap)), .d (.sl 1 (a.C.Roots.map encI)), .d (dI (a.Now)), .d (dI (a.K.Cap)), .d (.sl 6 (a.K.L.map Entry.cells)), .d (.sl 3 (a.Bad.map Lame.cells)), .d (.sl 7 (a.Jobs.map Job.cells)), .d (.sl 2 (a.Outs.map Packet.cells)), .d (.sl 8 (a.Reps.map Answer.cells)), .d (dI (a.Next))]⟩), (1, .t ⟨true, [.d (dI (b.C.Quota)), .d (dI (b.C.Depth)), .d (dI (b.C.Chain)), .d (dI (b.C.Glue)), .d (dI (b.C.Tries)), .d (dI (b.C.Addrs)), .d (dI (b.C.Cap)), .d (.sl 1 (b.C.Roots.map encI)), .d (dI (b.Now)), .d (dI (b.K.Cap)), .d (.sl 6 (b.K.L.map Entry.cells)), .d (.sl 3 (b.Bad.map Lame.cells)), .d (.sl 7 (b.Jobs.map Job.cells)), .d (.sl 2 (b.Outs.map Packet.cells)), .d (.sl 8 (b.Reps.map Answer.cells)), .d (dI (b.Next))]⟩)]) (hv := []) rfl rfl ?_
  refine v_seq ?_
  refine v_reg ?_
  refine sr 0 (.t ⟨false, [.vp 0 0]⟩) (.var [.d (dI (a.C.Quota)), .d (dI (a.C.Depth)), .d (dI (a.C.Chain)), .d (dI (a.C.Glue)), .d (dI (a.C.Tries)), .d (dI (a.C.Addrs)), .d (dI (a.C.Cap)), .d (.sl 1 (a.C.Roots.map encI)), .d (dI (a.Now)), .d (dI (a.K.Cap)), .d (.sl 6 (a.K.L.map Entry.cells)), .d (.sl 3 (a.Bad.map Lame.cells)), .d (.sl 7 (a.Jobs.map Job.cells)), .d (.sl 2 (a.Outs.map Packet.cells)), .d (.sl 8 (a.Reps.map Answer.cells)), .d (dI (a.Next))]) (zbx rfl (e rfl rfl) rfl rfl rfl) rfl rfl ?_
  refine sr 1 (.t ⟨false, [.vp 1 0]⟩) (.var [.d (dI (b.C.Quota)), .d (dI (b.C.Depth)), .d (dI (b.C.Chain)), .d (dI (b.C.Glue)), .d (dI (b.C.Tries)), .d (dI (b.C.Addrs)), .d (dI (b.C.Cap)), .d (.sl 1 (b.C.Roots.map encI)), .d (dI (b.Now)), .d (dI (b.K.Cap)), .d (.sl 6 (b.K.L.map Entry.cells)), .d (.sl 3 (b.Bad.map Lame.cells)), .d (.sl 7 (b.Jobs.map Job.cells)), .d (.sl 2 (b.Outs.map Packet.cells)), .d (.sl 8 (b.Reps.map Answer.cells)), .d (dI (b.Next))]) (zbx rfl (e rfl rfl) rfl rfl rfl) rfl rfl ?_
  refine sy _ (zas rfl (ec rfl)) rfl rfl ?_
  refine s_end ?_
  refine v_seq ?_
  refine v_seq ?_
  refine v_reg ?_
  refine sy (.t ⟨false, [.vp 0 0]⟩) (zfa tabOk rfl rfl rfl (e rfl rfl) rfl rfl) rfl rfl ?_
  refine sy (.t ⟨true, [.d (dI (a.C.Quota)), .d (dI (a.C.Depth)), .d (dI (a.C.Chain)), .d (dI (a.C.Glue)), .d (dI (a.C.Tries)), .d (dI (a.C.Addrs)), .d (dI (a.C.Cap)), .d (.sl 1 (a.C.Roots.map encI))]⟩) (zlv tabOk rfl (e rfl rfl) rfl rfl rfl) rfl rfl ?_
  refine sy (.t ⟨false, [.vp 1 0]⟩) (zfa tabOk rfl rfl rfl (e rfl rfl) rfl rfl) rfl rfl ?_
  refine sy (.t ⟨true, [.d (dI (b.C.Quota)), .d (dI (b.C.Depth)), .d (dI (b.C.Chain)), .d (dI (b.C.Glue)), .d (dI (b.C.Tries)), .d (dI (b.C.Addrs)), .d (dI (b.C.Cap)), .d (.sl 1 (b.C.Roots.map encI))]⟩) (zlv tabOk rfl (e rfl rfl) rfl rfl rfl) rfl rfl ?_
  refine sd (.t ⟨false, [.d (dB (decide (a.C = b.C)))]⟩) (zcall 2 (.t ⟨false, [.d (dB (decide (a.C = b.C)))]⟩) [] rfl (tr_eqConf a.C b.C ha.C hb0.C) (ar (e rfl rfl) (.d (.d (.d (.d (.d (.d (.d (.d .nil)))))))) (ar (e rfl rfl) (.d (.d (.d (.d (.d (.d (.d (.d .nil)))))))) .nil)) rfl rfl rfl) rfl rfl rfl rfl ?_
  refine sy (.t ⟨false, [.d (dB (!(decide (a.C = b.C))))]⟩) (y_un rfl (e rfl rfl) (fun _ => u_not) rfl) rfl rfl ?_
  refine s_end ?_
  refine v_cond (e rfl rfl) (fun hb1 => ?_) fun hb1 => ?_
  · refine v_seq ?_
    refine v_reg ?_
    refine sy _ (zas rfl (ec rfl)) rfl rfl ?_
    refine s_end ?_
    refine v_ret ?_
    have hr : decide (a = b) = false := by cases a; cases b; simp_all
    rw [hr]
    exact post_ret (rv (.tmp (eg rfl rfl)) rfl (.lf .nil) rfl .nil) (.ro (.ro .nil)) rfl
  refine v_skip ?_
  refine v_seq ?_
  refine v_seq ?_
  refine v_reg ?_
  refine sy (.t ⟨false, [.vp 0 8]⟩) (zfa tabOk rfl rfl rfl (e rfl rfl) rfl rfl) rfl rfl ?_
  refine sy (.t ⟨false, [.d (dI (a.Now))]⟩) (zlv tabOk rfl (e rfl rfl) rfl rfl rfl) rfl rfl ?_
  refine sy (.t ⟨false, [.vp 1 8]⟩) (zfa tabOk rfl rfl rfl (e rfl rfl) rfl rfl) rfl rfl ?_
  refine sy (.t ⟨false, [.d (dI (b.Now))]⟩) (zlv tabOk rfl (e rfl rfl) rfl rfl rfl) rfl rfl ?_
  refine sy (.t ⟨false, [.d (dB (decide ((a.Now) ≠ (b.Now))))]⟩) (y_bin rfl (e rfl rfl) (e rfl rfl) (fun _ => b_neq) rfl) rfl rfl ?_
  refine s_end ?_
  refine v_cond (e rfl rfl) (fun hb2 => ?_) fun hb2 => ?_
  · refine v_seq ?_
    refine v_reg ?_
    refine sy _ (zas rfl (ec rfl)) rfl rfl ?_
    refine s_end ?_
    refine v_ret ?_
    have hr : decide (a = b) = false := by cases a; cases b; simp_all
    rw [hr]
    exact post_ret (rv (.tmp (eg rfl rfl)) rfl (.lf .nil) rfl .nil) (.ro (.ro .nil)) rfl
  refine v_skip ?_
  refine v_seq ?_
  refine v_seq ?_
  refine v_reg ?_
  refine sy (.t ⟨false, [.vp 0 9]⟩) (zfa tabOk rfl rfl rfl (e rfl rfl) rfl rfl) rfl rfl ?_
  refine sy (.t ⟨true, [.d (dI (a.K.Cap)), .d (.sl 6 (a.K.L.map Entry.cells))]⟩) (zlv tabOk rfl (e rfl rfl) rfl rfl rfl) rfl rfl ?_
  refine sy (.t ⟨false, [.vp 1 9]⟩) (zfa tabOk rfl rfl rfl (e rfl rfl) rfl rfl) rfl rfl ?_
  refine sy (.t ⟨true, [.d (dI (b.K.Cap)), .d (.sl 6 (b.K.L.map Entry.cells))]⟩) (zlv tabOk rfl (e rfl rfl) rfl rfl rfl) rfl rfl ?_
  refine sd (.t ⟨false, [.d (dB (decide (a.K = b.K)))]⟩) (zcall 2 (.t ⟨false, [.d (dB (decide (a.K = b.K)))]⟩) [] rfl (tr_eqCache a.K b.K ha.K hb0.K) (ar (e rfl rfl) (.d (.d .nil)) (ar (e rfl rfl) (.d (.d .nil)) .nil)) rfl rfl rfl) rfl rfl rfl rfl ?_
  refine sy (.t ⟨false, [.d (dB (!(decide (a.K = b.K))))]⟩) (y_un rfl (e rfl rfl) (fun _ => u_not) rfl) rfl rfl ?_
  refine s_end ?_
  refine v_cond (e rfl rfl) (fun hb3 => ?_) fun hb3 => ?_
  · refine v_seq ?_
    refine v_reg ?_
    refine sy _ (zas rfl (ec rfl)) rfl rfl ?_
    refine s_end ?_
    refine v_ret ?_
    have hr : decide (a = b) = false := by cases a; cases b; simp_all
    rw [hr]
    exact post_ret (rv (.tmp (eg rfl rfl)) rfl (.lf .nil) rfl .nil) (.ro (.ro .nil)) rfl
  refine v_skip ?_
  refine v_seq ?_
  refine v_seq ?_
  refine v_reg ?_
  refine sy (.t ⟨false, [.vp 0 11]⟩) (zfa tabOk rfl rfl rfl (e rfl rfl) rfl rfl) rfl rfl ?_
  refine sy (.t ⟨false, [.d (.sl 3 (a.Bad.map Lame.cells))]⟩) (zlv tabOk rfl (e rfl rfl) rfl rfl rfl) rfl rfl ?_
  refine sy (.t ⟨false, [.vp 1 11]⟩) (zfa tabOk rfl rfl rfl (e rfl rfl) rfl rfl) rfl rfl ?_
  refine sy (.t ⟨false, [.d (.sl 3 (b.Bad.map Lame.cells))]⟩) (zlv tabOk rfl (e rfl rfl) rfl rfl rfl) rfl rfl ?_
  refine sd (.t ⟨false, [.d (dB (decide (a.Bad = b.Bad)))]⟩) (zcall 2 (.t ⟨false, [.d (dB (decide (a.Bad = b.Bad)))]⟩) [] rfl (tr_eqLameS a.Bad b.Bad ha.Bad hb0.Bad) (ar (e rfl rfl) (.d .nil) (ar (e rfl rfl) (.d .nil) .nil)) rfl rfl rfl) rfl rfl rfl rfl ?_
  refine sy (.t ⟨false, [.d (dB (!(decide (a.Bad = b.Bad))))]⟩) (y_un rfl (e rfl rfl) (fun _ => u_not) rfl) rfl rfl ?_
  refine s_end ?_
  refine v_cond (e rfl rfl) (fun hb4 => ?_) fun hb4 => ?_
  · refine v_seq ?_
    refine v_reg ?_
    refine sy _ (zas rfl (ec rfl)) rfl rfl ?_
    refine s_end ?_
    refine v_ret ?_
    have hr : decide (a = b) = false := by cases a; cases b; simp_all
    rw [hr]
    exact post_ret (rv (.tmp (eg rfl rfl)) rfl (.lf .nil) rfl .nil) (.ro (.ro .nil)) rfl
  refine v_skip ?_
  refine v_seq ?_
  refine v_seq ?_
  refine v_reg ?_
  refine sy (.t ⟨false, [.vp 0 12]⟩) (zfa tabOk rfl rfl rfl (e rfl rfl) rfl rfl) rfl rfl ?_
  refine sy (.t ⟨false, [.d (.sl 7 (a.Jobs.map Job.cells))]⟩) (zlv tabOk rfl (e rfl rfl) rfl rfl rfl) rfl rfl ?_
  refine sy (.t ⟨false, [.vp 1 12]⟩) (zfa tabOk rfl rfl rfl (e rfl rfl) rfl rfl) rfl rfl ?_
  refine sy (.t ⟨false, [.d (.sl 7 (b.Jobs.map Job.cells))]⟩) (zlv tabOk rfl (e rfl rfl) rfl rfl rfl) rfl rfl ?_
  refine sd (.t ⟨false, [.d (dB (decide (a.Jobs = b.Jobs)))]⟩) (zcall 2 (.t ⟨false, [.d (dB (decide (a.Jobs = b.Jobs)))]⟩) [] rfl (tr_eqJobS a.Jobs b.Jobs ha.Jobs hb0.Jobs) (ar (e rfl rfl) (.d .nil) (ar (e rfl rfl) (.d .nil) .nil)) rfl rfl rfl) rfl rfl rfl rfl ?_
  refine sy (.t ⟨false, [.d (dB (!(decide (a.Jobs = b.Jobs))))]⟩) (y_un rfl (e rfl rfl) (fun _ => u_not) rfl) rfl rfl ?_
  refine s_end ?_
  refine v_cond (e rfl rfl) (fun hb5 => ?_) fun hb5 => ?_
  · refine v_seq ?_
    refine v_reg ?_
    refine sy _ (zas rfl (ec rfl)) rfl rfl ?_
    refine s_end ?_
    refine v_ret ?_
    have hr : decide (a = b) = false := by cases a; cases b; simp_all
    rw [hr]
    exact post_ret (rv (.tmp (eg rfl rfl)) rfl (.lf .nil) rfl .nil) (.ro (.ro .nil)) rfl
  refine v_skip ?_
  refine v_seq ?_
  refine v_seq ?_
  refine v_reg ?_
  refine sy (.t ⟨false, [.vp 0 13]⟩) (zfa tabOk rfl rfl rfl (e rfl rfl) rfl rfl) rfl rfl ?_
  refine sy (.t ⟨false, [.d (.sl 2 (a.Outs.map Packet.cells))]⟩) (zlv tabOk rfl (e rfl rfl) rfl rfl rfl) rfl rfl ?_
  refine sy (.t ⟨false, [.vp 1 13]⟩) (zfa tabOk rfl rfl rfl (e rfl rfl) rfl rfl) rfl rfl ?_
  refine sy (.t ⟨false, [.d (.sl 2 (b.Outs.map Packet.cells))]⟩) (zlv tabOk rfl (e rfl rfl) rfl rfl rfl) rfl rfl ?_
  refine sd (.t ⟨false, [.d (dB (decide (a.Outs = b.Outs)))]⟩) (zcall 2 (.t ⟨false, [.d (dB (decide (a.Outs = b.Outs)))]⟩) [] rfl (tr_eqPacketS a.Outs b.Outs ha.Outs hb0.Outs) (ar (e rfl rfl) (.d .nil) (ar (e rfl rfl) (.d .nil) .nil)) rfl rfl rfl) rfl rfl rfl rfl ?_
  refine sy (.t ⟨false, [.d (dB (!(decide (a.Outs = b.Outs))))]⟩) (y_un rfl (e rfl rfl) (fun _ => u_not) rfl) rfl rfl ?_
  refine s_end ?_
  refine v_cond (e rfl rfl) (fun hb6 => ?_) fun hb6 => ?_
  · refine v_seq ?_
    refine v_reg ?_
    refine sy _ (zas rfl (ec rfl)) rfl rfl ?_
    refine s_end ?_
    refine v_ret ?_
    have hr : decide (a = b) = false := by cases a; cases b; simp_all
    rw [hr]
    exact post_ret (rv (.tmp (eg rfl rfl)) rfl (.lf .nil) rfl .nil) (.ro (.ro .nil)) rfl
  refine v_skip ?_
  refine v_seq ?_
  refine v_seq ?_
  refine v_reg ?_
  refine sy (.t ⟨false, [.vp 0 14]⟩) (zfa tabOk rfl rfl rfl (e rfl rfl) rfl rfl) rfl rfl ?_
  refine sy (.t ⟨false, [.d (.sl 8 (a.Reps.map Answer.cells))]⟩) (zlv tabOk rfl (e rfl rfl) rfl rfl rfl) rfl rfl ?_
  refine sy (.t ⟨false, [.vp 1 14]⟩) (zfa tabOk rfl rfl rfl (e rfl rfl) rfl rfl) rfl rfl ?_
  refine sy (.t ⟨false, [.d (.sl 8 (b.Reps.map Answer.cells))]⟩) (zlv tabOk rfl (e rfl rfl) rfl rfl rfl) rfl rfl ?_
  refine sd (.t ⟨false, [.d (dB (decide (a.Reps = b.Reps)))]⟩) (zcall 2 (.t ⟨false, [.d (dB (decide (a.Reps = b.Reps)))]⟩) [] rfl (tr_eqAnswerS a.Reps b.Reps ha.Reps hb0.Reps) (ar (e rfl rfl) (.d .nil) (ar (e rfl rfl) (.d .nil) .nil)) rfl rfl rfl) rfl rfl rfl rfl ?_
  refine sy (.t ⟨false, [.d (dB (!(decide (a.Reps = b.Reps))))]⟩) (y_un rfl (e rfl rfl) (fun _ => u_not) rfl) rfl rfl ?_
  refine s_end ?_
  refine v_cond (e rfl rfl) (fun hb7 => ?_) fun hb7 => ?_
  · refine v_seq ?_
    refine v_reg ?_
    refine sy _ (zas rfl (ec rfl)) rfl rfl ?_
    refine s_end ?_
    refine v_ret ?_
    have hr : decide (a = b) = false := by cases a; cases b; simp_all
    rw [hr]
    exact post_ret (rv (.tmp (eg rfl rfl)) rfl (.lf .nil) rfl .nil) (.ro (.ro .nil)) rfl
  refine v_skip ?_
  refine v_seq ?_
  refine v_seq ?_
  refine v_reg ?_
  refine sy (.t ⟨false, [.vp 0 15]⟩) (zfa tabOk rfl rfl rfl (e rfl rfl) rfl rfl) rfl rfl ?_
  refine sy (.t ⟨false, [.d (dI (a.Next))]⟩) (zlv tabOk rfl (e rfl rfl) rfl rfl rfl) rfl rfl ?_
  refine sy (.t ⟨false, [.vp 1 15]⟩) (zfa tabOk rfl rfl rfl (e rfl rfl) rfl rfl) rfl rfl ?_
  refine sy (.t ⟨false, [.d (dI (b.Next))]⟩) (zlv tabOk rfl (e rfl rfl) rfl rfl rfl) rfl rfl ?_
  refine sy (.t ⟨false, [.d (dB (decide ((a.Next) ≠ (b.Next))))]⟩) (y_bin rfl (e rfl rfl) (e rfl rfl) (fun _ => b_neq) rfl) rfl rfl ?_
  refine s_end ?_
  refine v_cond (e rfl rfl) (fun hb8 => ?_) fun hb8 => ?_
  · refine v_seq ?_
    refine v_reg ?_
    refine sy _ (zas rfl (ec rfl)) rfl rfl ?_
    refine s_end ?_
    refine v_ret ?_
    have hr : decide (a = b) = false := by cases a; cases b; simp_all
    rw [hr]
    exact post_ret (rv (.tmp (eg rfl rfl)) rfl (.lf .nil) rfl .nil) (.ro (.ro .nil)) rfl
  refine v_skip ?_
  refine v_seq ?_
  refine v_reg ?_
  refine sy _ (zas rfl (ec rfl)) rfl rfl ?_
  refine s_end ?_
  refine v_ret ?_
  have hr : decide (a = b) = true := by cases a; cases b; simp_all
  rw [hr]
  exact post_ret (rv (.tmp (eg rfl rfl)) rfl (.lf .nil) rfl .nil) (.ro (.ro .nil)) rfl
end Go.Proofs.Ytkcpbahcnlhmjaa.V
