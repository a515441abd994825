/-
  Configurations and worlds: the plain laws.
-/
import Derived.Test.YtglilpigoocgeaaFW
import Derived.Test.YtglilpigoocgeaaFD
import Derived.Test.YtglilpigoocgeaaFA
import Derived.Test.YtglilpigoocgeaaN
namespace Go.Proofs.Ytglilpigoocgeaa.V
open Go
set_option linter.unusedVariables false
set_option linter.unusedSimpArgs false
theorem law_isFrom (a b c : Int) : n_impl_isFrom a b c = n_spec_l1In a b c := rfl
theorem any_int (xs : List Int) (p : Int → Bool) : n_slices_ContainsFunc_int xs p = xs.any p := by
  have := loop_idx (p := p) (xs := xs) (f := n_slices_IndexFunc_intL1 xs p) (fun n i => rfl) (xs.length + 1) 0 (Nat.zero_le _) (Nat.zero_add _)
  rw [List.drop_zero] at this
  exact this
theorem wall_not_any {α : Type} {xs : List α} {p : α → Bool} : (!(xs.any fun x => !(p x))) = xs.all p := by
  induction xs with
  | nil => rfl
  | cons x l ih => simp only [List.any_cons, List.all_cons, ← ih]; cases p x <;> simp
theorem law_ConfOk (a : Conf) : n_impl_ConfOk a = n_spec_ConfOk a := by
  have h := loop_all (q := fun x => n_spec_l1In x 0 2147483647) (xs := a.Roots) (f := n_spec_ConfOkL1 a) (fun n i => rfl) (a.Roots.length + 1) 0 (Nat.zero_le _) (Nat.zero_add _)
  rw [List.drop_zero] at h
  unfold n_spec_ConfOk n_impl_ConfOk
  rw [h]
  have e : (!(n_slices_ContainsFunc_int a.Roots fun x0 => n_impl_ConfOk_c1 x0)) = a.Roots.all fun x => n_spec_l1In x 0 2147483647 := by
    rw [any_int]
    exact wall_not_any (p := fun x => n_spec_l1In x 0 2147483647)
  simp only [law_isFrom, e]
  generalize (a.Roots.all fun x => n_spec_l1In x 0 2147483647) = z
  cases n_spec_l1In a.Quota 1 200 <;> cases n_spec_l1In a.Depth 1 6 <;> cases n_spec_l1In a.Chain 0 6 <;> cases n_spec_l1In a.Glue 0 4 <;> cases n_spec_l1In a.Tries 1 4 <;> cases n_spec_l1In a.Addrs 1 4 <;> cases n_spec_l1In a.Cap 1 60 <;> cases n_spec_l1In (a.Roots.length : Int) 1 4 <;> cases z <;> rfl
theorem law_CacheNew (k : Int) : n_impl_CacheNew k = n_spec_CacheNew k := by
  unfold n_impl_CacheNew n_spec_CacheNew n_spec_l1In
  by_cases h1 : k < 1
  · have e : decide (1 ≤ k) = false := by simp; omega
    simp [h1, e]
  · have e : decide (1 ≤ k) = true := by simp; omega
    by_cases h2 : 60 < k
    · have e2 : decide (k ≤ 60) = false := by simp; omega
      simp [h1, h2, e, e2]
    · have e2 : decide (k ≤ 60) = true := by simp; omega
      simp [h1, h2, e, e2]
theorem law_WorldNew (a : Conf) : n_impl_WorldNew a = n_spec_WorldNew a := by
  simp only [n_impl_WorldNew, n_spec_WorldNew, law_ConfOk, law_CacheNew]
theorem fit_nil {α : Type} {f : α → Prop} : fitL f ([] : List α) := ⟨Nat.zero_le _, fun _ h => absurd h List.not_mem_nil⟩
theorem cache_new (k : Int) : (n_spec_CacheNew k).L = [] := by unfold n_spec_CacheNew; cases n_spec_l1In k 1 60 <;> rfl
theorem fit_WorldNew (a : Conf) (h : a.Fit) : (n_spec_WorldNew a).Fit := by
  unfold n_spec_WorldNew
  cases n_spec_ConfOk a with
  | false => exact ⟨⟨fit_nil⟩, ⟨fit_nil⟩, fit_nil, fit_nil, fit_nil, fit_nil⟩
  | true => exact ⟨h, ⟨by show fitL _ (n_spec_CacheNew a.Cap).L; rw [cache_new]; exact fit_nil⟩, fit_nil, fit_nil, fit_nil, fit_nil⟩
theorem wt_WorldNew (a : Conf) : (n_spec_WorldNew a).wt ≤ a.wt := by
  unfold n_spec_WorldNew
  cases n_spec_ConfOk a with
  | false => simp [World.wt, Conf.wt, Cache.wt, wtL]
  | true => simp [bindv, World.wt, Conf.wt, Cache.wt, wtL, cache_new]
theorem law_Top (j : Job) : n_impl_Top j = n_spec_Top j := rfl
theorem top_pc (j : Job) (h : (n_spec_Top j).2 = false) : decide ((n_spec_Top j).1.Pc = 3) = false := by
  have key : ∀ v : Frame × Bool, v = n_spec_Top j → v.2 = false → ¬ v.1.Pc = 3 := by
    intro v hv
    unfold n_spec_Top at hv
    cases hc : decide ((j.Stack.length : Int) = 0) with
    | true => rw [hc, cond_true] at hv; subst hv; intro _; show ¬ (0 : Int) = 3; decide
    | false =>
      rw [hc, cond_false] at hv
      simp only [atL] at hv
      cases hx : j.Stack[((j.Stack.length : Int) - 1).toNat]? with
      | none => rw [hx] at hv; subst hv; intro _; show ¬ (0 : Int) = 3; decide
      | some x => rw [hx] at hv; subst hv; intro h; cases h
  exact decide_eq_false (key _ rfl h)
theorem law_Waiting (a : World) : n_impl_Waiting a = n_spec_Waiting a := by
  have h1 := loop_iter (xs := a.Jobs) (f := fun n s i => n_impl_WaitingL1 a n s i) (step := fun x s _ c => cond (n_impl_waits x) (c (s ++ [x.No])) (c s)) (done := fun s => s) (fun n s i => rfl) (a.Jobs.length + 1) 0 [] (Nat.zero_le _) (Nat.zero_add _)
  have h2 := loop_iter (xs := a.Jobs) (f := fun n s i => n_spec_WaitingL1 a n s i) (step := fun x s _ c => bindv (n_spec_Top x) fun v => cond v.2 (cond (decide (v.1.Pc = 3)) (c (s ++ [x.No])) (c s)) (c s)) (done := fun s => s) (fun n s i => rfl) (a.Jobs.length + 1) 0 [] (Nat.zero_le _) (Nat.zero_add _)
  have e : (fun (x : Job) (s : List Int) (_ : Nat) (c : List Int → List Int) => cond (n_impl_waits x) (c (s ++ [x.No])) (c s)) = fun x s _ c => bindv (n_spec_Top x) fun v => cond v.2 (cond (decide (v.1.Pc = 3)) (c (s ++ [x.No])) (c s)) (c s) := by
    funext x s i c
    simp only [n_impl_waits, bindv, law_Top]
    cases h : (n_spec_Top x).2 with
    | true => rfl
    | false => have hp := of_decide_eq_false (top_pc x h); simp [hp]
  rw [e] at h1
  exact h1.trans h2.symm
theorem wait_len (a : World) : (n_spec_Waiting a).length ≤ a.Jobs.length := by
  have key : ∀ (n : Nat) (l : List Int) (i : Nat), i ≤ a.Jobs.length → i + n = a.Jobs.length + 1 → l.length ≤ i → (n_spec_WaitingL1 a n l i).length ≤ a.Jobs.length := by
    intro n
    induction n with
    | zero => intro l i h1 h2; omega
    | succ n ih =>
      intro l i h1 h2 h3
      rw [n_spec_WaitingL1]
      rcases Nat.lt_or_ge i a.Jobs.length with h | h
      · have e : (decide ((i : Int) < (a.Jobs.length : Int))) = true := by simp; omega
        rw [e, cond_true, atL_lt h]
        simp only [bindv]
        have ha := ih (l ++ [a.Jobs[i].No]) (i + 1) (by omega) (by omega) (by simp; omega)
        have hb := ih l (i + 1) (by omega) (by omega) (by omega)
        cases (n_spec_Top a.Jobs[i]).2 <;> cases decide ((n_spec_Top a.Jobs[i]).1.Pc = 3) <;> assumption
      · have e : (decide ((i : Int) < (a.Jobs.length : Int))) = false := by simp; omega
        rw [e, cond_false]; omega
  exact key _ _ _ (Nat.zero_le _) (Nat.zero_add _) (Nat.le_refl _)
theorem fit_Waiting (a : World) (h : a.Fit) : fitL fitU (n_spec_Waiting a) := ⟨Nat.le_trans (wait_len a) h.Jobs.1, fun _ _ => trivial⟩
theorem law_AnswerTo (a : World) (k : Int) : n_impl_AnswerTo a k = n_spec_AnswerTo a k := by
  have key : ∀ (n i : Nat), i ≤ a.Reps.length → i + n = a.Reps.length + 1 → n_impl_AnswerToL1 a k n i = cond (decide (n_spec_l23AtL1 a k n i < 0)) (((⟨0, 0, 0, ⟨⟨#[]⟩, 0⟩, [], [], 0⟩ : Answer), false)) (atL a.Reps (n_spec_l23AtL1 a k n i).toNat (fun x1 => bindv (n_spec_l23Answer x1) (fun v2 => (v2, true)))) := by
    intro n
    induction n with
    | zero => intro i h1 h2; omega
    | succ n ih =>
      intro i h1 h2
      rw [n_impl_AnswerToL1, n_spec_l23AtL1]
      rcases Nat.lt_or_ge i a.Reps.length with h | h
      · have e : (decide ((i : Int) < (a.Reps.length : Int))) = true := by simp; omega
        rw [e]
        simp only [cond_true]
        rw [atL_lt h, atL_lt h]
        cases decide (a.Reps[i].No = k) with
        | true =>
          have e2 : decide ((i : Int) < 0) = false := by simp
          simp only [cond_true, e2, cond_false, Int.toNat_natCast]
          rw [atL_lt h]; rfl
        | false => simp only [cond_false]; exact ih (i + 1) (by omega) (by omega)
      · have e : (decide ((i : Int) < (a.Reps.length : Int))) = false := by simp; omega
        rw [e]; rfl
  exact key _ _ (Nat.zero_le _) (Nat.zero_add _)
theorem fit_AnswerTo (a : World) (k : Int) (h : a.Fit) : (n_spec_AnswerTo a k).1.Fit := by
  unfold n_spec_AnswerTo
  cases decide (n_spec_l23At a k < 0) with
  | true => exact ⟨⟨Nat.zero_le _⟩, ⟨Nat.zero_le _, fun _ h => absurd h List.not_mem_nil⟩, ⟨Nat.zero_le _, fun _ h => absurd h List.not_mem_nil⟩⟩
  | false =>
    simp only [cond_false, atL]
    cases hx : a.Reps[(n_spec_l23At a k).toNat]? with
    | none => exact ⟨⟨Nat.zero_le _⟩, ⟨Nat.zero_le _, fun _ h => absurd h List.not_mem_nil⟩, ⟨Nat.zero_le _, fun _ h => absurd h List.not_mem_nil⟩⟩
    | some x => exact h.Reps.2 x (List.mem_of_getElem? hx)
theorem tr2_n_impl_WorldNew (a0 : Conf) (h0 : Conf.Fit a0) : Tr Try.prog 9 [.ro ⟨true, [dI (a0.Quota), dI (a0.Depth), dI (a0.Chain), dI (a0.Glue), dI (a0.Tries), dI (a0.Addrs), dI (a0.Cap), .sl 1 (a0.Roots.map encI)]⟩] [⟨true, [dI ((((n_spec_WorldNew a0)).C).Quota), dI ((((n_spec_WorldNew a0)).C).Depth), dI ((((n_spec_WorldNew a0)).C).Chain), dI ((((n_spec_WorldNew a0)).C).Glue), dI ((((n_spec_WorldNew a0)).C).Tries), dI ((((n_spec_WorldNew a0)).C).Addrs), dI ((((n_spec_WorldNew a0)).C).Cap), .sl 1 (((((n_spec_WorldNew a0)).C).Roots).map encI), dI (((n_spec_WorldNew a0)).Now), dI ((((n_spec_WorldNew a0)).K).Cap), .sl 6 (((((n_spec_WorldNew a0)).K).L).map Entry.cells), .sl 3 ((((n_spec_WorldNew a0)).Bad).map Lame.cells), .sl 7 ((((n_spec_WorldNew a0)).Jobs).map Job.cells), .sl 2 ((((n_spec_WorldNew a0)).Outs).map Packet.cells), .sl 8 ((((n_spec_WorldNew a0)).Reps).map Answer.cells), dI (((n_spec_WorldNew a0)).Next)]⟩] := by
  have := tr_n_impl_WorldNew a0 h0
  rwa [law_WorldNew a0] at this
theorem tr2_n_impl_Waiting (a0 : World) (h0 : World.Fit a0) : Tr Try.prog 18 [.ro ⟨true, [dI (a0.C.Quota), dI (a0.C.Depth), dI (a0.C.Chain), dI (a0.C.Glue), dI (a0.C.Tries), dI (a0.C.Addrs), dI (a0.C.Cap), .sl 1 (a0.C.Roots.map encI), dI (a0.Now), dI (a0.K.Cap), .sl 6 (a0.K.L.map Entry.cells), .sl 3 (a0.Bad.map Lame.cells), .sl 7 (a0.Jobs.map Job.cells), .sl 2 (a0.Outs.map Packet.cells), .sl 8 (a0.Reps.map Answer.cells), dI (a0.Next)]⟩] [⟨false, [.sl 1 (((n_spec_Waiting a0)).map encI)]⟩] := by
  have := tr_n_impl_Waiting a0 h0
  rwa [law_Waiting a0] at this
theorem tr2_n_impl_AnswerTo (a0 : World) (a1 : Int) (h0 : World.Fit a0) : Tr Try.prog 23 [.ro ⟨true, [dI (a0.C.Quota), dI (a0.C.Depth), dI (a0.C.Chain), dI (a0.C.Glue), dI (a0.C.Tries), dI (a0.C.Addrs), dI (a0.C.Cap), .sl 1 (a0.C.Roots.map encI), dI (a0.Now), dI (a0.K.Cap), .sl 6 (a0.K.L.map Entry.cells), .sl 3 (a0.Bad.map Lame.cells), .sl 7 (a0.Jobs.map Job.cells), .sl 2 (a0.Outs.map Packet.cells), .sl 8 (a0.Reps.map Answer.cells), dI (a0.Next)]⟩, .ro ⟨false, [dI (a1)]⟩] [⟨true, [dI (((n_spec_AnswerTo a0 a1).1).No), dI (((n_spec_AnswerTo a0 a1).1).Client), dI (((n_spec_AnswerTo a0 a1).1).Code), dS ((((n_spec_AnswerTo a0 a1).1).Q).Name), dI ((((n_spec_AnswerTo a0 a1).1).Q).Typ), .sl 6 ((((n_spec_AnswerTo a0 a1).1).Links).map Record.cells), .sl 6 ((((n_spec_AnswerTo a0 a1).1).L).map Record.cells), dI (((n_spec_AnswerTo a0 a1).1).Sent)]⟩, ⟨false, [dB ((n_spec_AnswerTo a0 a1).2)]⟩] := by
  have := tr_n_impl_AnswerTo a0 a1 h0
  rwa [law_AnswerTo a0 a1] at this
end Go.Proofs.Ytglilpigoocgeaa.V
