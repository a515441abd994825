/-
  Code over states: 'VWp', its rules: sequences, tests, blocks, loops, regions whose order is the text's; 'Weak'.
-/
import Derived.Test.YtkcpbahcnlhmjaaV10
namespace Go.Proofs.Ytkcpbahcnlhmjaa.V
open Go
set_option linter.unusedVariables false
set_option linter.unusedSimpArgs false

def VWp (P : Program) (c : Code) (Q : Exit → St → Prop) (st : St) : Prop :=
  ∀ (w0 : World) (M0 : Nat → Prop) (A0 : Cx) (a : Act) (w : World), Rel w0 M0 A0 st a w → c.wp P (fun e a' w' => ∃ st', Q e st' ∧ Rel w0 M0 A0 st' a' w') a w

def thenQ (P : Program) (y : Code) (Q : Exit → St → Prop) : Exit → St → Prop
  | .normal, s => VWp P y Q s
  | e, s => Q e s

def blockQ (id : Nat) (Q : Exit → St → Prop) : Exit → St → Prop
  | .exit id', s => if id' = id then Q .normal s else Q (.exit id') s
  | e, s => Q e s

section
variable {P : Program} {Q : Exit → St → Prop} {st : St}

theorem v_mono {c : Code} {Q' : Exit → St → Prop} (h : VWp P c Q st) (hq : ∀ e s, Q e s → Q' e s) : VWp P c Q' st :=
  fun w0 M0 A0 a w hr => wp_mono (h w0 M0 A0 a w hr) fun e a w ⟨s, h1, h2⟩ => ⟨s, hq e s h1, h2⟩
theorem v_skip (h : Q .normal st) : VWp P .skip Q st := fun _ _ _ _ _ hr => wp_skip ⟨st, h, hr⟩
theorem v_exit {id : Nat} (h : Q (.exit id) st) : VWp P (.exit id) Q st := fun _ _ _ _ _ hr => wp_exit ⟨st, h, hr⟩
theorem v_ret (h : Q .ret st) : VWp P .ret Q st := fun _ _ _ _ _ hr => wp_ret ⟨st, h, hr⟩
theorem v_seq {x y : Code} (h : VWp P x (thenQ P y Q) st) : VWp P (.seq x y) Q st := by
  intro w0 M0 A0 a w hr
  refine wp_seq (wp_mono (h w0 M0 A0 a w hr) fun e a w hh => ?_)
  obtain ⟨s, h1, h2⟩ := hh
  cases e with
  | normal => exact h1 w0 M0 A0 a w h2
  | _ => exact ⟨s, h1, h2⟩
theorem v_block {id : Nat} {c : Code} (h : VWp P c (blockQ id Q) st) : VWp P (.block id c) Q st := by
  intro w0 M0 A0 a w hr
  refine wp_block (wp_mono (h w0 M0 A0 a w hr) fun e a w hh => ?_)
  obtain ⟨s, h1, h2⟩ := hh
  cases e with
  | exit id' =>
    simp only [Exit.inBlock, blockQ] at h1 ⊢
    split
    · rename_i e; rw [if_pos e] at h1; exact ⟨s, h1, h2⟩
    · rename_i e; rw [if_neg e] at h1; exact ⟨s, h1, h2⟩
  | _ => exact ⟨s, h1, h2⟩
theorem v_cond {c : Operand} {x y : Code} {b : Bool} (hc : Ev st.t c ⟨false, [.d (.lf (.bool b))]⟩) (ht : b = true → VWp P x Q st) (hf : b = false → VWp P y Q st) : VWp P (.cond c x y) Q st := by
  intro w0 M0 A0 a w hr
  obtain ⟨locs, RO, hg, hm⟩ := hr
  have hb := (Tmps.evlf hm hc).1
  cases b with
  | true => exact wp_cond_true hb (ht rfl w0 M0 A0 a w ⟨locs, RO, hg, hm⟩)
  | false => exact wp_cond_false hb (hf rfl w0 M0 A0 a w ⟨locs, RO, hg, hm⟩)
theorem v_cond_unk {c : Operand} {x y : Code} (hc : Ev st.t c ⟨false, [.unk]⟩) (ht : VWp P x Q st) (hf : VWp P y Q st) : VWp P (.cond c x y) Q st := by
  intro w0 M0 A0 a w hr
  obtain ⟨locs, RO, hg, hm⟩ := hr
  obtain ⟨b, hb⟩ := (Tmps.ev1 hm hc).1
  cases b with
  | true => exact wp_cond_true hb (ht w0 M0 A0 a w ⟨locs, RO, hg, hm⟩)
  | false => exact wp_cond_false hb (hf w0 M0 A0 a w ⟨locs, RO, hg, hm⟩)

/-- Less is known, less is there. -/
structure Weak (st st' : St) : Prop where
  len : st'.t.length = st.t.length
  t : ∀ i, getT st'.t i = getT st.t i ∨ getT st'.t i = .dead
  h : ∀ k, st'.h k = st.h k ∨ st'.h k = .gone
  live : ∀ i, ∀ o ∈ (getT st'.t i).refs, st'.h o ≠ .gone
  cells : ∀ k cs, st'.h k = .var cs → ∀ x ∈ cs, ∀ o ∈ x.refs, st'.h o ≠ .gone

theorem Weak.refl_of (hl : ∀ i, ∀ o ∈ (getT st.t i).refs, st.h o ≠ .gone) (hc : ∀ k cs, st.h k = .var cs → ∀ x ∈ cs, ∀ o ∈ x.refs, st.h o ≠ .gone) : Weak st st :=
  ⟨rfl, fun _ => .inl rfl, fun _ => .inl rfl, hl, hc⟩

theorem Weak.rel {st' : St} (hw : Weak st st') {w0 : World} {M0 : Nat → Prop} {A0 : Cx} {a : Act} {w : World} (hr : Rel w0 M0 A0 st a w) : Rel w0 M0 A0 st' a w := by
  obtain ⟨locs, RO, hg, hm⟩ := hr
  have hd : ∀ k, Decidable (st'.h k = .gone) := fun k => Classical.propDecidable _
  let locs' : Locs := fun k => @ite _ (st'.h k = .gone) (hd k) { locs k with foot := [] } (locs k)
  have hgone : ∀ k, st'.h k = .gone → (locs' k).foot = [] := fun k hk => by simp only [locs']; rw [if_pos hk]
  have hkeep : ∀ k, st'.h k ≠ .gone → locs' k = locs k ∧ st'.h k = st.h k := fun k hk => ⟨by simp only [locs']; rw [if_neg hk], (hw.h k).resolve_right hk⟩
  have hst : ∀ o, st'.h o ≠ .gone → OStep locs st.h w locs' st'.h w o := fun o ho =>
    ostep_of (hkeep o ho).2 (.inl (hkeep o ho).1) (hg.obj o) fun _ _ => rfl
  have hsub : ∀ k, ∀ b ∈ (locs' k).foot, b ∈ (locs k).foot := by
    intro k b hb
    by_cases hk : st'.h k = .gone
    · rw [hgone k hk] at hb; simp at hb
    · rw [(hkeep k hk).1] at hb; exact hb
  refine ⟨locs', RO, ?_, hm.1, by rw [hw.len]; exact hm.2.1, fun i => ?_, hw.live⟩
  · exact {
      obj := fun k => by
        by_cases hk : st'.h k = .gone
        · rw [hk]; exact hgone k hk
        · rw [(hkeep k hk).1, (hkeep k hk).2]; exact hg.obj k
      cells := fun k cs hk arr ty fr hb => by
        have hk' : st'.h k ≠ .gone := by rw [hk]; simp
        rw [(hkeep k hk').1] at hb
        have h1 := hk
        rw [(hkeep k hk').2] at h1
        exact (hg.cells k cs h1 arr ty fr hb).mono fun a b ha hr => hr.carry (fun b hb => ⟨hb, rfl⟩) fun o ho => hst o (hw.cells k cs hk a ha o ho)
      live := hw.cells
      nodup := fun k => by
        by_cases hk : st'.h k = .gone
        · rw [hgone k hk]; exact List.nodup_nil
        · rw [(hkeep k hk).1]; exact hg.nodup k
      disj := fun k l hkl b hb hbl => hg.disj k l hkl b (hsub k b hb) (hsub l b hbl)
      noro := fun k b hb => hg.noro k b (hsub k b hb)
      rolt := hg.rolt
      kept := hg.kept
      mfoot := fun k b hb => hg.mfoot k b (hsub k b hb)
      share := hg.share
      pin := fun k L hL n es dp ver hk => by
        have hk' : st'.h k ≠ .gone := by rw [hk]; simp
        rw [(hkeep k hk').1]
        rw [(hkeep k hk').2] at hk
        exact hg.pin k L hL n es dp ver hk }
  · rcases hw.t i with h1 | h1
    · rw [h1]
      exact (hm.2.2.1 i).carry (fun b hb => ⟨hb, rfl⟩) fun o ho => hst o (hw.live i o (by rw [h1]; exact ho))
    · rw [h1]; exact Slot.dead_rel

theorem v_weak {c : Code} {st' : St} (hw : Weak st st') (h : VWp P c Q st') : VWp P c Q st := fun w0 M0 A0 a w hr => h w0 M0 A0 a w (hw.rel hr)

def loopQ {ι : Type} (T : ι → St) (I : ι → Prop) (μ : ι → Nat) (x : ι) (Q : Exit → St → Prop) : Exit → St → Prop
  | .normal, s => ∃ y, I y ∧ μ y < μ x ∧ Weak s (T y)
  | e, s => Q e s

theorem v_loop {ι : Type} {c : Code} (T : ι → St) (I : ι → Prop) (μ : ι → Nat) (x0 : ι) (h0 : I x0) (hw0 : Weak st (T x0)) (round : ∀ x, I x → VWp P c (loopQ T I μ x Q) (T x)) : VWp P (.loop c) Q st := by
  intro w0 M0 A0 a w hr b k cs
  have key : ∀ n x a w, μ x = n → I x → Rel w0 M0 A0 (T x) a w →
      ∃ e a' w', (∃ st', Q e st' ∧ Rel w0 M0 A0 st' a' w') ∧ Arrives P (lone (b.at a (.code c :: .inLoop c :: k)) cs w) b k cs e a' w' := by
    intro n
    induction n using Nat.strongRecOn with
    | _ n ih =>
      intro x a w hn hI hrx
      obtain ⟨e, a₁, w₁, ⟨s, hq, hrs⟩, harr⟩ := round x hI w0 M0 A0 a w hrx b (.inLoop c :: k) cs
      cases e with
      | normal =>
        obtain ⟨y, hy, hlt, hwk⟩ := hq
        obtain ⟨e₂, a₂, w₂, hq₂, harr₂⟩ := ih (μ y) (hn ▸ hlt) y a₁ w₁ rfl hy (hwk.rel hrs)
        exact ⟨e₂, a₂, w₂, hq₂, .of_steps (Steps.trans harr (.one step_inLoop)) harr₂⟩
      | exit id => exact ⟨_, a₁, w₁, ⟨s, hq, hrs⟩, .pass (x := .inLoop c) rfl (fun _ _ => .inl (by simp)) harr⟩
      | goto l => exact ⟨_, a₁, w₁, ⟨s, hq, hrs⟩, .pass (x := .inLoop c) rfl (fun _ _ => .inl (by simp)) harr⟩
      | ret => exact ⟨_, a₁, w₁, ⟨s, hq, hrs⟩, .pass (x := .inLoop c) rfl (fun _ _ => .inl (by simp)) harr⟩
      | panic ch => exact ⟨_, a₁, w₁, ⟨s, hq, hrs⟩, .pass (x := .inLoop c) rfl (fun _ _ => .inl (by simp)) harr⟩
      | outgrown => exact ⟨_, a₁, w₁, ⟨s, hq, hrs⟩, .pass (x := .inLoop c) rfl (fun _ _ => .inl (by simp)) harr⟩
  obtain ⟨e, a', w', hq, harr⟩ := key _ x0 a w rfl h0 (hw0.rel hr)
  exact ⟨e, a', w', hq, .of_steps (.one step_loop) harr⟩

/-- Operations one behind the other. -/
def Ops (P : Program) (ops : Array Oper) : List Nat → St → (St → Prop) → Prop
  | [], st, K => K st
  | i :: l, st, K => ∃ o, ops[i]? = some o ∧
      ((o.guard = none ∧ ∃ S : St → Prop, DoesS P o st S ∧ ∀ st', S st' → Ops P ops l st' K) ∨
       (∃ j want oj d b, o.guard = some (j, want) ∧ ops[j]? = some oj ∧ oj.dst = some d ∧ getT st.t d = .t ⟨false, [.d (.lf (.bool b))]⟩ ∧
        (b = want → ∃ S : St → Prop, DoesS P o st S ∧ ∀ st', S st' → Ops P ops l st' K) ∧ (b ≠ want → Ops P ops l ⟨putT st.t o.dst .dead, st.h⟩ K)))

theorem put_dead {w0 : World} {M0 : Nat → Prop} {A0 : Cx} {a : Act} {w : World} {d : Option Nat} {v : Value} (hr : Rel w0 M0 A0 st a w) : Rel w0 M0 A0 ⟨putT st.t d .dead, st.h⟩ (a.put d v) w := by
  obtain ⟨locs, RO, hg, hm⟩ := hr
  exact ⟨locs, RO, hg, Tmps.put hm d Slot.dead_rel (by simp [Slot.dead, Slot.refs, TV.refs, VC.refs])⟩

theorem yielded_of {w0 : World} {M0 : Nat → Prop} {A0 : Cx} {a : Act} {w : World} {ops : Array Oper} {j d : Nat} {oj : Oper} {b : Bool} (hr : Rel w0 M0 A0 st a w) (hj : ops[j]? = some oj) (hd : oj.dst = some d)
    (hb : getT st.t d = .t ⟨false, [.d (.lf (.bool b))]⟩) : yielded ops a.tmps j = some b := by
  obtain ⟨locs, RO, hg, hm⟩ := hr
  have hv : a.tmps.getD d undef = .bool b := (Tmps.evlf (x := .tmp d) hm hb).1
  have hv' : a.tmps[d]? = some (.bool b) := by
    rw [Array.getD_eq_getD_getElem?] at hv
    cases h : a.tmps[d]? with
    | none => rw [h] at hv; cases hv
    | some v => rw [h] at hv; simp at hv; rw [hv]
  simp [yielded, hj, hd, hv']

theorem ops_sound {ops : Array Oper} {w0 : World} {M0 : Nat → Prop} {A0 : Cx} {R : Exit → Act → World → Prop} : ∀ {l : List Nat} {st : St} {K : St → Prop} {a : Act} {w : World}, Ops P ops l st K → Rel w0 M0 A0 st a w →
    (∀ st' a' w', K st' → Rel w0 M0 A0 st' a' w' → R .normal a' w') → wpOps P ops R l a w
  | [], st, K, a, w, h, hr, hK => hK st a w h hr
  | i :: l, st, K, a, w, h, hr, hK => by
    obtain ⟨o, ho, h⟩ := h
    simp only [wpOps, ho]
    rcases h with ⟨hg, S, hd, h⟩ | ⟨j, want, oj, d, b, hg, hj, hdst, hb, h1, h2⟩
    · have hw : Region.wanted o (yielded ops a.tmps) = true := by simp [Region.wanted, hg]
      rw [if_pos hw]
      exact .inl (hd w0 M0 A0 a w _ _ hr fun st' a' w' hS hr' => ops_sound (h st' hS) hr' hK)
    · have hy := yielded_of hr hj hdst hb
      by_cases hbw : b = want
      · have hw : Region.wanted o (yielded ops a.tmps) = true := by simp [Region.wanted, hg, hy, hbw]
        rw [if_pos hw]
        obtain ⟨S, hd, h⟩ := h1 hbw
        exact .inl (hd w0 M0 A0 a w _ _ hr fun st' a' w' hS hr' => ops_sound (h st' hS) hr' hK)
      · have hw : ¬ (Region.wanted o (yielded ops a.tmps) = true) := by simp [Region.wanted, hg, hy, hbw]
        rw [if_neg hw]
        exact ops_sound (h2 hbw) (put_dead hr) hK

theorem v_region {id : Nat} {ops : Array Oper} (h : Ops P ops (List.range ops.size) st (fun s => Q .normal s)) : VWp P (.region id ops false) Q st :=
  fun w0 M0 A0 a w hr => wp_region (ops_sound h hr fun st' a' w' hq hr' => ⟨st', hq, hr'⟩)
end

end Go.Proofs.Ytkcpbahcnlhmjaa.V
