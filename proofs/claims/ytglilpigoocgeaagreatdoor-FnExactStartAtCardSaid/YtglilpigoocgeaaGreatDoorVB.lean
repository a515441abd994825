/-
  Code over states: 'VWp', its rules: sequences, tests, blocks, loops, regions whose order is the text's; 'Weak'.
  The contract of a function in terms of data ('Tr'), and that a body which meets its post proves it.
  From a body's walk to the contract: results, what the written arguments hold behind; 'tr_of'.
  A call, by the callee's contract: what is handed over, what comes back ('does_call').
  A call, by the callee's contract ('does_call').
  A call, by the callee's contract: the results as new objects; 'does_call'.
  A call, by the callee's contract: 'does_call'.
  Regions whose order is drawn: operations that read or make commute ('v_draw').
-/
import Derived.Test.YtglilpigoocgeaaGreatDoorVA
set_option linter.unusedVariables false
set_option linter.unusedSimpArgs false
namespace Go.Proofs.YtglilpigoocgeaaGreatDoor.V
open Go
set_option linter.unusedVariables false
set_option linter.unusedSimpArgs false

def VWp (P : Program) (c : Code) (Q : Exit → St → Prop) (st : St) : Prop :=
  ∀ (w0 : World) (M0 : Nat → Prop) (A0 : Cx) (a : Act) (w : World), Rel w0 M0 A0 st a w → c.wp P (fun e a' w' => ∃ st', Q e st' ∧ Rel w0 M0 A0 st' a' w') a w

def thenQ (P : Program) (y : Code) (Q : Exit → St → Prop) : Exit → St → Prop
  | .normal, s => VWp P y Q s
  | e, s => Q e s

def blockQ (id : Nat) (Q : Exit → St → Prop) : Exit → St → Prop
  | .exit id', s => if id' = id then Q .normal s else Q (.exit id') s
  | e, s => Q e s

section
variable {P : Program} {Q : Exit → St → Prop} {st : St}

theorem v_mono {c : Code} {Q' : Exit → St → Prop} (h : VWp P c Q st) (hq : ∀ e s, Q e s → Q' e s) : VWp P c Q' st :=
  fun w0 M0 A0 a w hr => wp_mono (h w0 M0 A0 a w hr) fun e a w ⟨s, h1, h2⟩ => ⟨s, hq e s h1, h2⟩
theorem v_skip (h : Q .normal st) : VWp P .skip Q st := fun _ _ _ _ _ hr => wp_skip ⟨st, h, hr⟩
theorem v_exit {id : Nat} (h : Q (.exit id) st) : VWp P (.exit id) Q st := fun _ _ _ _ _ hr => wp_exit ⟨st, h, hr⟩
theorem v_ret (h : Q .ret st) : VWp P .ret Q st := fun _ _ _ _ _ hr => wp_ret ⟨st, h, hr⟩
theorem v_seq {x y : Code} (h : VWp P x (thenQ P y Q) st) : VWp P (.seq x y) Q st := by
  intro w0 M0 A0 a w hr
  refine wp_seq (wp_mono (h w0 M0 A0 a w hr) fun e a w hh => ?_)
  obtain ⟨s, h1, h2⟩ := hh
  cases e with
  | normal => exact h1 w0 M0 A0 a w h2
  | _ => exact ⟨s, h1, h2⟩
theorem v_block {id : Nat} {c : Code} (h : VWp P c (blockQ id Q) st) : VWp P (.block id c) Q st := by
  intro w0 M0 A0 a w hr
  refine wp_block (wp_mono (h w0 M0 A0 a w hr) fun e a w hh => ?_)
  obtain ⟨s, h1, h2⟩ := hh
  cases e with
  | exit id' =>
    simp only [Exit.inBlock, blockQ] at h1 ⊢
    split
    · rename_i e; rw [if_pos e] at h1; exact ⟨s, h1, h2⟩
    · rename_i e; rw [if_neg e] at h1; exact ⟨s, h1, h2⟩
  | _ => exact ⟨s, h1, h2⟩
theorem v_cond {c : Operand} {x y : Code} {b : Bool} (hc : Ev st.t c ⟨false, [.d (.lf (.bool b))]⟩) (ht : b = true → VWp P x Q st) (hf : b = false → VWp P y Q st) : VWp P (.cond c x y) Q st := by
  intro w0 M0 A0 a w hr
  obtain ⟨locs, RO, hg, hm⟩ := hr
  have hb := (Tmps.evlf hm hc).1
  cases b with
  | true => exact wp_cond_true hb (ht rfl w0 M0 A0 a w ⟨locs, RO, hg, hm⟩)
  | false => exact wp_cond_false hb (hf rfl w0 M0 A0 a w ⟨locs, RO, hg, hm⟩)
theorem v_cond_unk {c : Operand} {x y : Code} (hc : Ev st.t c ⟨false, [.unk]⟩) (ht : VWp P x Q st) (hf : VWp P y Q st) : VWp P (.cond c x y) Q st := by
  intro w0 M0 A0 a w hr
  obtain ⟨locs, RO, hg, hm⟩ := hr
  obtain ⟨b, hb⟩ := (Tmps.ev1 hm hc).1
  cases b with
  | true => exact wp_cond_true hb (ht w0 M0 A0 a w ⟨locs, RO, hg, hm⟩)
  | false => exact wp_cond_false hb (hf w0 M0 A0 a w ⟨locs, RO, hg, hm⟩)

/-- Less is known, less is there. -/
structure Weak (st st' : St) : Prop where
  len : st'.t.length = st.t.length
  t : ∀ i, getT st'.t i = getT st.t i ∨ getT st'.t i = .dead
  h : ∀ k, st'.h k = st.h k ∨ st'.h k = .gone
  live : ∀ i, ∀ o ∈ (getT st'.t i).refs, st'.h o ≠ .gone
  cells : ∀ k cs, st'.h k = .var cs → ∀ x ∈ cs, ∀ o ∈ x.refs, st'.h o ≠ .gone

theorem Weak.refl_of (hl : ∀ i, ∀ o ∈ (getT st.t i).refs, st.h o ≠ .gone) (hc : ∀ k cs, st.h k = .var cs → ∀ x ∈ cs, ∀ o ∈ x.refs, st.h o ≠ .gone) : Weak st st :=
  ⟨rfl, fun _ => .inl rfl, fun _ => .inl rfl, hl, hc⟩

theorem Weak.rel {st' : St} (hw : Weak st st') {w0 : World} {M0 : Nat → Prop} {A0 : Cx} {a : Act} {w : World} (hr : Rel w0 M0 A0 st a w) : Rel w0 M0 A0 st' a w := by
  obtain ⟨locs, RO, hg, hm⟩ := hr
  have hd : ∀ k, Decidable (st'.h k = .gone) := fun k => Classical.propDecidable _
  let locs' : Locs := fun k => @ite _ (st'.h k = .gone) (hd k) { locs k with foot := [] } (locs k)
  have hgone : ∀ k, st'.h k = .gone → (locs' k).foot = [] := fun k hk => by simp only [locs']; rw [if_pos hk]
  have hkeep : ∀ k, st'.h k ≠ .gone → locs' k = locs k ∧ st'.h k = st.h k := fun k hk => ⟨by simp only [locs']; rw [if_neg hk], (hw.h k).resolve_right hk⟩
  have hst : ∀ o, st'.h o ≠ .gone → OStep locs st.h w locs' st'.h w o := fun o ho =>
    ostep_of (hkeep o ho).2 (.inl (hkeep o ho).1) (hg.obj o) fun _ _ => rfl
  have hsub : ∀ k, ∀ b ∈ (locs' k).foot, b ∈ (locs k).foot := by
    intro k b hb
    by_cases hk : st'.h k = .gone
    · rw [hgone k hk] at hb; simp at hb
    · rw [(hkeep k hk).1] at hb; exact hb
  refine ⟨locs', RO, ?_, hm.1, by rw [hw.len]; exact hm.2.1, fun i => ?_, hw.live⟩
  · exact {
      obj := fun k => by
        by_cases hk : st'.h k = .gone
        · rw [hk]; exact hgone k hk
        · rw [(hkeep k hk).1, (hkeep k hk).2]; exact hg.obj k
      cells := fun k cs hk arr ty fr hb => by
        have hk' : st'.h k ≠ .gone := by rw [hk]; simp
        rw [(hkeep k hk').1] at hb
        have h1 := hk
        rw [(hkeep k hk').2] at h1
        exact (hg.cells k cs h1 arr ty fr hb).mono fun a b ha hr => hr.carry (fun b hb => ⟨hb, rfl⟩) fun o ho => hst o (hw.cells k cs hk a ha o ho)
      live := hw.cells
      nodup := fun k => by
        by_cases hk : st'.h k = .gone
        · rw [hgone k hk]; exact List.nodup_nil
        · rw [(hkeep k hk).1]; exact hg.nodup k
      disj := fun k l hkl b hb hbl => hg.disj k l hkl b (hsub k b hb) (hsub l b hbl)
      noro := fun k b hb => hg.noro k b (hsub k b hb)
      rolt := hg.rolt
      kept := hg.kept
      mfoot := fun k b hb => hg.mfoot k b (hsub k b hb)
      share := hg.share
      pin := fun k L hL n es dp ver hk => by
        have hk' : st'.h k ≠ .gone := by rw [hk]; simp
        rw [(hkeep k hk').1]
        rw [(hkeep k hk').2] at hk
        exact hg.pin k L hL n es dp ver hk }
  · rcases hw.t i with h1 | h1
    · rw [h1]
      exact (hm.2.2.1 i).carry (fun b hb => ⟨hb, rfl⟩) fun o ho => hst o (hw.live i o (by rw [h1]; exact ho))
    · rw [h1]; exact Slot.dead_rel

theorem v_weak {c : Code} {st' : St} (hw : Weak st st') (h : VWp P c Q st') : VWp P c Q st := fun w0 M0 A0 a w hr => h w0 M0 A0 a w (hw.rel hr)

def loopQ {ι : Type} (T : ι → St) (I : ι → Prop) (μ : ι → Nat) (x : ι) (Q : Exit → St → Prop) : Exit → St → Prop
  | .normal, s => ∃ y, I y ∧ μ y < μ x ∧ Weak s (T y)
  | e, s => Q e s

theorem v_loop {ι : Type} {c : Code} (T : ι → St) (I : ι → Prop) (μ : ι → Nat) (x0 : ι) (h0 : I x0) (hw0 : Weak st (T x0)) (round : ∀ x, I x → VWp P c (loopQ T I μ x Q) (T x)) : VWp P (.loop c) Q st := by
  intro w0 M0 A0 a w hr b k cs
  have key : ∀ n x a w, μ x = n → I x → Rel w0 M0 A0 (T x) a w →
      ∃ e a' w', (∃ st', Q e st' ∧ Rel w0 M0 A0 st' a' w') ∧ Arrives P (lone (b.at a (.code c :: .inLoop c :: k)) cs w) b k cs e a' w' := by
    intro n
    induction n using Nat.strongRecOn with
    | _ n ih =>
      intro x a w hn hI hrx
      obtain ⟨e, a₁, w₁, ⟨s, hq, hrs⟩, harr⟩ := round x hI w0 M0 A0 a w hrx b (.inLoop c :: k) cs
      cases e with
      | normal =>
        obtain ⟨y, hy, hlt, hwk⟩ := hq
        obtain ⟨e₂, a₂, w₂, hq₂, harr₂⟩ := ih (μ y) (hn ▸ hlt) y a₁ w₁ rfl hy (hwk.rel hrs)
        exact ⟨e₂, a₂, w₂, hq₂, .of_steps (Steps.trans harr (.one step_inLoop)) harr₂⟩
      | exit id => exact ⟨_, a₁, w₁, ⟨s, hq, hrs⟩, .pass (x := .inLoop c) rfl (fun _ _ => .inl (by simp)) harr⟩
      | goto l => exact ⟨_, a₁, w₁, ⟨s, hq, hrs⟩, .pass (x := .inLoop c) rfl (fun _ _ => .inl (by simp)) harr⟩
      | ret => exact ⟨_, a₁, w₁, ⟨s, hq, hrs⟩, .pass (x := .inLoop c) rfl (fun _ _ => .inl (by simp)) harr⟩
      | panic ch => exact ⟨_, a₁, w₁, ⟨s, hq, hrs⟩, .pass (x := .inLoop c) rfl (fun _ _ => .inl (by simp)) harr⟩
      | outgrown => exact ⟨_, a₁, w₁, ⟨s, hq, hrs⟩, .pass (x := .inLoop c) rfl (fun _ _ => .inl (by simp)) harr⟩
  obtain ⟨e, a', w', hq, harr⟩ := key _ x0 a w rfl h0 (hw0.rel hr)
  exact ⟨e, a', w', hq, .of_steps (.one step_loop) harr⟩

/-- Operations one behind the other. -/
def Ops (P : Program) (ops : Array Oper) : List Nat → St → (St → Prop) → Prop
  | [], st, K => K st
  | i :: l, st, K => ∃ o, ops[i]? = some o ∧
      ((o.guard = none ∧ ∃ S : St → Prop, DoesS P o st S ∧ ∀ st', S st' → Ops P ops l st' K) ∨
       (∃ j want oj d b, o.guard = some (j, want) ∧ ops[j]? = some oj ∧ oj.dst = some d ∧ getT st.t d = .t ⟨false, [.d (.lf (.bool b))]⟩ ∧
        (b = want → ∃ S : St → Prop, DoesS P o st S ∧ ∀ st', S st' → Ops P ops l st' K) ∧ (b ≠ want → Ops P ops l ⟨putT st.t o.dst (.tu []), st.h⟩ K)) ∨
       (∃ j want oj d, o.guard = some (j, want) ∧ ops[j]? = some oj ∧ oj.dst = some d ∧ getT st.t d = .tu [] ∧ Ops P ops l ⟨putT st.t o.dst (.tu []), st.h⟩ K))

theorem put_dead {w0 : World} {M0 : Nat → Prop} {A0 : Cx} {a : Act} {w : World} {d : Option Nat} {v : Value} (hr : Rel w0 M0 A0 st a w) : Rel w0 M0 A0 ⟨putT st.t d .dead, st.h⟩ (a.put d v) w := by
  obtain ⟨locs, RO, hg, hm⟩ := hr
  exact ⟨locs, RO, hg, Tmps.put hm d Slot.dead_rel (by simp [Slot.dead, Slot.refs, TV.refs, VC.refs])⟩

theorem put_skip {w0 : World} {M0 : Nat → Prop} {A0 : Cx} {a : Act} {w : World} {d : Option Nat} (hr : Rel w0 M0 A0 st a w) : Rel w0 M0 A0 ⟨putT st.t d (.tu []), st.h⟩ (a.put d undef) w := by
  obtain ⟨locs, RO, hg, hm⟩ := hr
  exact ⟨locs, RO, hg, Tmps.put hm d ⟨#[], rfl, .nil⟩ (by simp [Slot.refs])⟩

theorem yielded_none {w0 : World} {M0 : Nat → Prop} {A0 : Cx} {a : Act} {w : World} {ops : Array Oper} {j d : Nat} {oj : Oper} (hr : Rel w0 M0 A0 st a w) (hj : ops[j]? = some oj) (hd : oj.dst = some d)
    (hb : getT st.t d = .tu []) : yielded ops a.tmps j = none := by
  obtain ⟨locs, RO, hg, hm⟩ := hr
  have h2 := hm.2.2.1 d
  rw [hb] at h2
  obtain ⟨vs, hv, _⟩ := h2
  rw [Array.getD_eq_getD_getElem?] at hv
  cases h : a.tmps[d]? with
  | none => simp [yielded, hj, hd, h]
  | some v =>
    rw [h] at hv
    simp only [Option.getD_some] at hv
    subst hv
    simp [yielded, hj, hd, h]

theorem yielded_of {w0 : World} {M0 : Nat → Prop} {A0 : Cx} {a : Act} {w : World} {ops : Array Oper} {j d : Nat} {oj : Oper} {b : Bool} (hr : Rel w0 M0 A0 st a w) (hj : ops[j]? = some oj) (hd : oj.dst = some d)
    (hb : getT st.t d = .t ⟨false, [.d (.lf (.bool b))]⟩) : yielded ops a.tmps j = some b := by
  obtain ⟨locs, RO, hg, hm⟩ := hr
  have hv : a.tmps.getD d undef = .bool b := (Tmps.evlf (x := .tmp d) hm hb).1
  have hv' : a.tmps[d]? = some (.bool b) := by
    rw [Array.getD_eq_getD_getElem?] at hv
    cases h : a.tmps[d]? with
    | none => rw [h] at hv; cases hv
    | some v => rw [h] at hv; simp at hv; rw [hv]
  simp [yielded, hj, hd, hv']

theorem ops_sound {ops : Array Oper} {w0 : World} {M0 : Nat → Prop} {A0 : Cx} {R : Exit → Act → World → Prop} : ∀ {l : List Nat} {st : St} {K : St → Prop} {a : Act} {w : World}, Ops P ops l st K → Rel w0 M0 A0 st a w →
    (∀ st' a' w', K st' → Rel w0 M0 A0 st' a' w' → R .normal a' w') → wpOps P ops R l a w
  | [], st, K, a, w, h, hr, hK => hK st a w h hr
  | i :: l, st, K, a, w, h, hr, hK => by
    obtain ⟨o, ho, h⟩ := h
    simp only [wpOps, ho]
    rcases h with ⟨hg, S, hd, h⟩ | ⟨j, want, oj, d, b, hg, hj, hdst, hb, h1, h2⟩ | ⟨j, want, oj, d, hg, hj, hdst, hb, h⟩
    · have hw : Region.wanted o (yielded ops a.tmps) = true := by simp [Region.wanted, hg]
      rw [if_pos hw]
      exact .inl (hd w0 M0 A0 a w _ _ hr fun st' a' w' hS hr' => ops_sound (h st' hS) hr' hK)
    · have hy := yielded_of hr hj hdst hb
      by_cases hbw : b = want
      · have hw : Region.wanted o (yielded ops a.tmps) = true := by simp [Region.wanted, hg, hy, hbw]
        rw [if_pos hw]
        obtain ⟨S, hd, h⟩ := h1 hbw
        exact .inl (hd w0 M0 A0 a w _ _ hr fun st' a' w' hS hr' => ops_sound (h st' hS) hr' hK)
      · have hw : ¬ (Region.wanted o (yielded ops a.tmps) = true) := by simp [Region.wanted, hg, hy, hbw]
        rw [if_neg hw]
        exact ops_sound (h2 hbw) (put_skip hr) hK
    · have hy := yielded_none hr hj hdst hb
      have hw : ¬ (Region.wanted o (yielded ops a.tmps) = true) := by simp [Region.wanted, hg, hy]
      rw [if_neg hw]
      exact ops_sound h (put_skip hr) hK

theorem v_region {id : Nat} {ops : Array Oper} (h : Ops P ops (List.range ops.size) st (fun s => Q .normal s)) : VWp P (.region id ops false) Q st :=
  fun w0 M0 A0 a w hr => wp_region (ops_sound h hr fun st' a' w' hq hr' => ⟨st', hq, hr'⟩)
end

end Go.Proofs.YtglilpigoocgeaaGreatDoor.V
namespace Go.Proofs.YtglilpigoocgeaaGreatDoor.V
open Go
set_option linter.unusedVariables false
set_option linter.unusedSimpArgs false

/-- A value as data: one cell, or a struct's cells. -/
structure DV where
  ag : Bool
  cs : List Dat
  deriving Inhabited

def Cells (ag : Bool) (v : Value) (vs : List Value) : Prop :=
  match ag with
  | true => ∃ arr, v = .agg arr ∧ vs = arr.toList
  | false => vs = [v]

def DVRel (wr : Bool) (w : World) (x : DV) (v : Value) (F : List Nat) : Prop := ∃ vs, Cells x.ag v vs ∧ Reps wr w x.cs vs F

inductive Arg where
  | ro (x : DV)
  | mu (x x' : DV)
  | own (x : DV)

inductive ArgsIn (w : World) : List Arg → List Value → List Nat → List Nat → Prop
  | nil : ArgsIn w [] [] [] []
  | ro {x : DV} {v : Value} {F FA M : List Nat} {as : List Arg} {vs : List Value} (h : DVRel false w x v F) (t : ArgsIn w as vs FA M) : ArgsIn w (.ro x :: as) (v :: vs) (F ++ FA) M
  | mu {x x' : DV} {v : Value} {F FA M : List Nat} {as : List Arg} {vs : List Value} (h : DVRel true w x v F) (t : ArgsIn w as vs FA M) : ArgsIn w (.mu x x' :: as) (v :: vs) FA (F ++ M)
  | own {x : DV} {v : Value} {F FA M : List Nat} {as : List Arg} {vs : List Value} (h : DVRel true w x v F) (t : ArgsIn w as vs FA M) : ArgsIn w (.own x :: as) (v :: vs) FA (F ++ M)

/-- How many cells a block holds. -/
def bsz (w : World) (b : Nat) : Nat := match w.heap[b]? with
  | some (.cells arr _ _) => arr.size
  | _ => 0
def szOk (w w' : World) (u : Value) : Prop := ∀ a n c, u = .slice (some a) n c → bsz w' a.block = bsz w a.block

inductive ArgsOut (w0 w : World) : List Arg → List Value → List Nat → Prop
  | nil : ArgsOut w0 w [] [] []
  | ro {x : DV} {v : Value} {FO : List Nat} {as : List Arg} {vs : List Value} (t : ArgsOut w0 w as vs FO) : ArgsOut w0 w (.ro x :: as) (v :: vs) FO
  | mu {x x' : DV} {v : Value} {us : List Value} {F FO : List Nat} {as : List Arg} {vs : List Value} (ha : x'.ag = x.ag) (hc : Cells x.ag v us) (h : Reps true w x'.cs us F) (hz : ∀ u ∈ us, szOk w0 w u) (t : ArgsOut w0 w as vs FO) :
      ArgsOut w0 w (.mu x x' :: as) (v :: vs) (F ++ FO)
  | own {x : DV} {v : Value} {FO : List Nat} {as : List Arg} {vs : List Value} (t : ArgsOut w0 w as vs FO) : ArgsOut w0 w (.own x :: as) (v :: vs) FO

inductive DVs (w : World) : List DV → List Value → List Nat → Prop
  | nil : DVs w [] [] []
  | cons {x : DV} {v : Value} {F FR : List Nat} {xs : List DV} {vs : List Value} (h : DVRel true w x v F) (t : DVs w xs vs FR) : DVs w (x :: xs) (v :: vs) (F ++ FR)

def IsRes (v : Value) (rs : List Value) : Prop :=
  match rs with
  | [x] => v = x
  | _ => v = .tuple rs.toArray

/-- The contract: called with values that show the arguments, it returns values that show the results, in memory of their own; what may be written shows the outs; nothing else has turned. -/
def TrB (P : Program) (f : FuncId) (args : List Arg) (res : List DV) : Prop :=
  ∀ (w : World) (vs : List Value) (FA M : List Nat), ArgsIn w args vs FA M → M.Nodup → (∀ b ∈ M, b ∉ FA) →
    Calls P f vs.toArray w fun e w' => ∃ v rs FR FO, e = .returned v ∧ IsRes v rs ∧ DVs w' res rs FR ∧ ArgsOut w w' args vs FO ∧ (FR ++ FO).Nodup ∧ (∀ b ∈ FR ++ FO, b ∈ M ∨ w.heap.size ≤ b) ∧ Kept (· ∈ M) w w'

/-- The function has a body, and a plain name. -/
def Enter (P : Program) (f : FuncId) : Prop := ∃ fn c, P.funcs[f]? = some fn ∧ (fn.name == "runtime.NumGoroutine") = false ∧ fn.body = some c
structure Tr (P : Program) (f : FuncId) (args : List Arg) (res : List DV) : Prop where
  ent : Enter P f
  tr : TrB P f args res

/-- The contract, where the results are told by a condition alone. -/
structure TrX (P : Program) (f : FuncId) (args : List Arg) (Φ : List DV → Prop) : Prop where
  ent : Enter P f
  tr : ∀ (w : World) (vs : List Value) (FA M : List Nat), ArgsIn w args vs FA M → M.Nodup → (∀ b ∈ M, b ∉ FA) →
    Calls P f vs.toArray w fun e w' => ∃ res, Φ res ∧ ∃ v rs FR FO, e = .returned v ∧ IsRes v rs ∧ DVs w' res rs FR ∧ ArgsOut w w' args vs FO ∧ (FR ++ FO).Nodup ∧ (∀ b ∈ FR ++ FO, b ∈ M ∨ w.heap.size ≤ b) ∧ Kept (· ∈ M) w w'

theorem Enter.run {P : Program} {f : FuncId} (he : Enter P f) (args : Array Value) (w : World) : (callFunc f args).run P w = .ok (.enter f args) w := by
  obtain ⟨fn, c, hf, hn, hb⟩ := he
  have hn' : ¬ fn.name = "runtime.NumGoroutine" := by simpa using hn
  simp [callFunc, hf, hn', hb]

/-! ### arguments as a state -/
def simple : Dat → Bool
  | .lf _ | .sl _ _ => true
  | _ => false
def objs (g : Nat) : List Dat → List VO
  | [] => []
  | .sl n es :: l => .row n es true g 0 :: objs g l
  | _ :: l => objs g l
def injC (g : Nat) : Nat → List Dat → List VC
  | _, [] => []
  | k, .lf v :: l => .d (.lf v) :: injC g k l
  | k, .sl n es :: l => .sr k g 0 es.length es.length :: injC g (k + 1) l
  | k, _ :: l => .dead :: injC g k l

inductive InC (w : World) (RO : Nat → Prop) (g : Nat) : List Dat → List Value → List Loc → Prop
  | nil : InC w RO g [] [] []
  | lf {v : Value} {l : List Dat} {vs : List Value} {Ls : List Loc} (h : sca v = true) (t : InC w RO g l vs Ls) : InC w RO g (.lf v :: l) (v :: vs) Ls
  | sl {n : Nat} {es : List (List Dat)} {v : Value} {l : List Dat} {vs : List Value} {L : Loc} {Ls : List Loc} (ho : ObjOk w RO (.row n es true g 0) L) (hs : SlRel L n 0 es.length es.length v) (h1 : v.oneCell' = true)
      (t : InC w RO g l vs Ls) : InC w RO g (.sl n es :: l) (v :: vs) (L :: Ls)

theorem inC_of {w : World} {RO : Nat → Prop} {g : Nat} : ∀ {cs : List Dat} {vs : List Value} {F : List Nat}, Reps true w cs vs F → cs.all simple = true → ∃ Ls, InC w RO g cs vs Ls ∧ Ls.flatMap (·.foot) = F
  | [], _, _, h, _ => by cases h; exact ⟨[], .nil, rfl⟩
  | d :: cs, _, _, h, hs => by
    have hs2 : cs.all simple = true := by simp only [List.all_cons, Bool.and_eq_true] at hs; exact hs.2
    cases h with
    | lf h r => obtain ⟨Ls, h1, h2⟩ := inC_of r hs2; exact ⟨Ls, .lf h h1, h2⟩
    | nl r =>
      obtain ⟨Ls, h1, h2⟩ := inC_of r hs2
      refine ⟨⟨true, 0, 0, 0, []⟩ :: Ls, .sl ⟨by simp, .inl ⟨rfl, rfl, rfl⟩⟩ (.inl ⟨rfl, rfl, rfl, rfl⟩) rfl h1, by simpa using h2⟩
    | sl hb hc he hsz hw gg r =>
      rename_i F' G b off cap arr ty fr
      obtain ⟨Ls, h1, h2⟩ := inC_of r hs2
      obtain ⟨e1, e2⟩ := hw rfl
      subst e1
      refine ⟨⟨false, _, off, arr.size, b :: G⟩ :: Ls, .sl ⟨he, .inr ⟨rfl, arr, _, _, hb, rfl, hsz, gg, fun _ => rfl, by simp⟩⟩ (.inr ⟨rfl, cap, by simp, hc, Nat.le_refl _, by simpa using e2⟩) rfl h1, ?_⟩
      simp [h2]
    | pt _ _ _ _ _ => simp [simple] at hs
    | cl _ _ => simp [simple] at hs
    | hole _ _ => simp [simple] at hs
    | em h _ => cases h

theorem InC.len {w : World} {RO : Nat → Prop} {g : Nat} {cs : List Dat} {vs : List Value} {Ls : List Loc} (h : InC w RO g cs vs Ls) : Ls.length = (objs g cs).length := by
  induction h <;> simp_all [objs]

theorem InC.objs {w : World} {RO : Nat → Prop} {g : Nat} {cs : List Dat} {vs : List Value} {Ls : List Loc} (h : InC w RO g cs vs Ls) : ∀ (i : Nat) (o : VO), (objs g cs)[i]? = some o → ∃ L, Ls[i]? = some L ∧ ObjOk w RO o L := by
  induction h with
  | nil => intro i o ho; simp [V.objs] at ho
  | lf _ _ ih => intro i o ho; exact ih i o ho
  | sl ho hs h1 t ih =>
    intro i o hoo
    cases i with
    | zero => simp [V.objs] at hoo; subst hoo; exact ⟨_, rfl, ho⟩
    | succ i => simp only [V.objs, List.getElem?_cons_succ] at hoo ⊢; exact ih i o hoo

theorem InC.vrel {w : World} {RO : Nat → Prop} {g : Nat} {cs : List Dat} {vs : List Value} {Ls : List Loc} (hi : InC w RO g cs vs Ls) : ∀ (k : Nat) (locs : Locs) (h : Heap), (∀ i L, Ls[i]? = some L → locs (k + i) = L) →
    (∀ i o, (V.objs g cs)[i]? = some o → h (k + i) = o) → All2 (VRel locs h w RO) (injC g k cs) vs := by
  induction hi with
  | nil => intro k locs h _ _; exact .nil
  | lf hs _ ih => intro k locs h h1 h2; exact .cons (vrel_lf hs) (ih k locs h h1 h2)
  | sl ho hs h1 t ih =>
    intro k locs h hl hh
    have e1 : h k = _ := hh 0 _ rfl
    have e2 : locs k = _ := hl 0 _ rfl
    refine .cons ⟨_, _, _, _, _, e1, Nat.le_refl _, h1, fun _ => by rw [e2]; exact hs⟩ (ih (k + 1) locs h (fun i L hL => ?_) (fun i o ho' => ?_))
    · have := hl (i + 1) L (by simpa using hL); rwa [Nat.add_assoc, Nat.add_comm 1]
    · have := hh (i + 1) o (by simpa [V.objs] using ho'); rwa [Nat.add_assoc, Nat.add_comm 1]

theorem injC_refs {g : Nat} : ∀ {cs : List Dat} {k : Nat}, ∀ x ∈ injC g k cs, ∀ o ∈ x.refs, k ≤ o ∧ o < k + (objs g cs).length
  | [], k, x, hx => by simp [injC] at hx
  | d :: cs, k, x, hx => by
    intro o ho
    cases d with
    | sl n es =>
      simp only [injC, List.mem_cons] at hx
      rcases hx with rfl | hx
      · simp [VC.refs] at ho; subst ho; simp [objs]
      · have := injC_refs x hx o ho
        simp only [objs, List.length_cons]; omega
    | lf v =>
      simp only [injC, List.mem_cons] at hx
      rcases hx with rfl | hx
      · simp [VC.refs] at ho
      · exact injC_refs x hx o ho
    | pt c =>
      simp only [injC, List.mem_cons] at hx
      rcases hx with rfl | hx
      · simp [VC.refs] at ho
      · exact injC_refs x hx o ho
    | cl f c =>
      simp only [injC, List.mem_cons] at hx
      rcases hx with rfl | hx
      · simp [VC.refs] at ho
      · exact injC_refs x hx o ho
    | hole =>
      simp only [injC, List.mem_cons] at hx
      rcases hx with rfl | hx
      · simp [VC.refs] at ho
      · exact injC_refs x hx o ho

theorem objs_row {g : Nat} : ∀ {cs : List Dat} {o : VO}, o ∈ objs g cs → ∃ n es, o = .row n es true g 0
  | d :: cs, o, ho => by
    cases d with
    | sl n es =>
      simp only [objs, List.mem_cons] at ho
      rcases ho with rfl | ho
      · exact ⟨n, es, rfl⟩
      · exact objs_row ho
    | lf v => exact objs_row (cs := cs) ho
    | pt c => exact objs_row (cs := cs) ho
    | cl f c => exact objs_row (cs := cs) ho
    | hole => exact objs_row (cs := cs) ho

/-- The slots of the arguments, and their objects. -/
def injA : Nat → List Arg → List Slot
  | _, [] => []
  | k, .ro x :: l => .t ⟨x.ag, x.cs.map .d⟩ :: injA k l
  | k, .mu x _ :: l => .t ⟨x.ag, injC 0 k x.cs⟩ :: injA (k + (objs 0 x.cs).length) l
  | k, .own x :: l => .t ⟨x.ag, injC 0 k x.cs⟩ :: injA (k + (objs 0 x.cs).length) l
def objsA : List Arg → List VO
  | [] => []
  | .ro _ :: l => objsA l
  | .mu x _ :: l => objs 0 x.cs ++ objsA l
  | .own x :: l => objs 0 x.cs ++ objsA l
def simpleA : List Arg → Bool
  | [] => true
  | .ro _ :: l => simpleA l
  | .mu x _ :: l => x.cs.all simple && simpleA l
  | .own x :: l => x.cs.all simple && simpleA l

theorem trel_iff {locs : Locs} {h : Heap} {w : World} {RO : Nat → Prop} {t : TV} {v : Value} : TRel locs h w RO t v ↔ ∃ vs, Cells t.ag v vs ∧ All2 (VRel locs h w RO) t.cs vs := by
  obtain ⟨ag, cs⟩ := t
  cases ag with
  | true => exact ⟨fun ⟨arr, e, h⟩ => ⟨_, ⟨arr, e, rfl⟩, h⟩, fun ⟨vs, ⟨arr, e, e2⟩, h⟩ => ⟨arr, e, e2 ▸ h⟩⟩
  | false => exact ⟨fun h => ⟨_, rfl, h⟩, fun ⟨vs, e, h⟩ => by simp only [Cells] at e; subst e; exact h⟩

inductive InA (w : World) (RO : Nat → Prop) : List Arg → List Value → List Loc → Prop
  | nil : InA w RO [] [] []
  | ro {x : DV} {v : Value} {F : List Nat} {as : List Arg} {vs : List Value} {Ls : List Loc} (h : DVRel false w x v F) (hF : ∀ b ∈ F, RO b) (t : InA w RO as vs Ls) : InA w RO (.ro x :: as) (v :: vs) Ls
  | mu {x x' : DV} {v : Value} {us : List Value} {as : List Arg} {vs : List Value} {L1 Ls : List Loc} (hc : Cells x.ag v us) (h : InC w RO 0 x.cs us L1) (t : InA w RO as vs Ls) : InA w RO (.mu x x' :: as) (v :: vs) (L1 ++ Ls)
  | own {x : DV} {v : Value} {us : List Value} {as : List Arg} {vs : List Value} {L1 Ls : List Loc} (hc : Cells x.ag v us) (h : InC w RO 0 x.cs us L1) (t : InA w RO as vs Ls) : InA w RO (.own x :: as) (v :: vs) (L1 ++ Ls)

theorem inA_of {w : World} {RO : Nat → Prop} {args : List Arg} {vs : List Value} {FA M : List Nat} (ha : ArgsIn w args vs FA M) (hs : simpleA args = true) (hro : ∀ b ∈ FA, RO b) : ∃ Ls, InA w RO args vs Ls ∧ Ls.flatMap (·.foot) = M := by
  induction ha with
  | nil => exact ⟨[], .nil, rfl⟩
  | ro h t ih =>
    obtain ⟨Ls, h1, h2⟩ := ih (by simpa [simpleA] using hs) fun b hb => hro b (by simp [hb])
    exact ⟨Ls, .ro h (fun b hb => hro b (by simp [hb])) h1, h2⟩
  | mu h t ih =>
    simp only [simpleA, Bool.and_eq_true] at hs
    obtain ⟨Ls, h1, h2⟩ := ih hs.2 hro
    obtain ⟨us, hc, hr⟩ := h
    obtain ⟨L1, h3, h4⟩ := inC_of hr hs.1
    exact ⟨L1 ++ Ls, .mu hc h3 h1, by simp [h2, h4]⟩
  | own h t ih =>
    simp only [simpleA, Bool.and_eq_true] at hs
    obtain ⟨Ls, h1, h2⟩ := ih hs.2 hro
    obtain ⟨us, hc, hr⟩ := h
    obtain ⟨L1, h3, h4⟩ := inC_of hr hs.1
    exact ⟨L1 ++ Ls, .own hc h3 h1, by simp [h2, h4]⟩

theorem InA.objs {w : World} {RO : Nat → Prop} {as : List Arg} {vs : List Value} {Ls : List Loc} (h : InA w RO as vs Ls) : Ls.length = (objsA as).length ∧ ∀ (i : Nat) (o : VO), (objsA as)[i]? = some o → ∃ L, Ls[i]? = some L ∧ ObjOk w RO o L := by
  induction h with
  | nil => exact ⟨rfl, fun i o ho => by simp [objsA] at ho⟩
  | ro h hF t ih => exact ih
  | mu hc h t ih =>
    refine ⟨by simp [objsA, h.len, ih.1], fun i o ho => ?_⟩
    simp only [objsA, List.getElem?_append] at ho ⊢
    rw [h.len]
    split at ho
    · rename_i hlt; rw [if_pos hlt]; exact h.objs i o ho
    · rename_i hlt; rw [if_neg hlt]; exact ih.2 _ o ho
  | own hc h t ih =>
    refine ⟨by simp [objsA, h.len, ih.1], fun i o ho => ?_⟩
    simp only [objsA, List.getElem?_append] at ho ⊢
    rw [h.len]
    split at ho
    · rename_i hlt; rw [if_pos hlt]; exact h.objs i o ho
    · rename_i hlt; rw [if_neg hlt]; exact ih.2 _ o ho

theorem InA.srel {w : World} {RO : Nat → Prop} {as : List Arg} {vs : List Value} {Ls : List Loc} (hi : InA w RO as vs Ls) : ∀ (k : Nat) (locs : Locs) (h : Heap), (∀ i L, Ls[i]? = some L → locs (k + i) = L) →
    (∀ i o, (objsA as)[i]? = some o → h (k + i) = o) → All2 (SRel locs h w RO) (injA k as) vs := by
  have shift : ∀ {L1 Ls : List Loc} {k : Nat} {locs : Locs}, (∀ i L, (L1 ++ Ls)[i]? = some L → locs (k + i) = L) → ∀ i L, Ls[i]? = some L → locs (k + L1.length + i) = L := by
    intro L1 Ls k locs h i L hL
    have := h (L1.length + i) L (by rw [List.getElem?_append_right (by omega)]; simpa using hL)
    rwa [← Nat.add_assoc] at this
  have shift2 : ∀ {L1 Ls : List VO} {k : Nat} {h : Heap}, (∀ i L, (L1 ++ Ls)[i]? = some L → h (k + i) = L) → ∀ i L, Ls[i]? = some L → h (k + L1.length + i) = L := by
    intro L1 Ls k locs h i L hL
    have := h (L1.length + i) L (by rw [List.getElem?_append_right (by omega)]; simpa using hL)
    rwa [← Nat.add_assoc] at this
  have first : ∀ {α : Type} {L1 Ls : List α} {i : Nat} {L : α}, L1[i]? = some L → (L1 ++ Ls)[i]? = some L := by
    intro α L1 Ls i L h
    rw [List.getElem?_append_left (List.getElem?_eq_some_iff.1 h).1]; exact h
  induction hi with
  | nil => intro k locs h _ _; exact .nil
  | ro hd hF t ih =>
    intro k locs h h1 h2
    obtain ⟨us, hc, hr⟩ := hd
    exact .cons (trel_iff.2 ⟨us, hc, reps_vrels hr hF⟩) (ih k locs h h1 h2)
  | mu hc hin t ih =>
    intro k locs h h1 h2
    refine .cons (trel_iff.2 ⟨_, hc, hin.vrel k locs h (fun i L hL => h1 i L (first hL)) fun i o ho => h2 i o (first ho)⟩) (ih _ locs h ?_ (shift2 h2))
    rw [← hin.len]; exact shift h1
  | own hc hin t ih =>
    intro k locs h h1 h2
    refine .cons (trel_iff.2 ⟨_, hc, hin.vrel k locs h (fun i L hL => h1 i L (first hL)) fun i o ho => h2 i o (first ho)⟩) (ih _ locs h ?_ (shift2 h2))
    rw [← hin.len]; exact shift h1

theorem injA_refs : ∀ {as : List Arg} {k : Nat}, ∀ x ∈ injA k as, ∀ o ∈ x.refs, k ≤ o ∧ o < k + (objsA as).length
  | [], k, x, hx => by simp [injA] at hx
  | .ro y :: as, k, x, hx => by
    intro o ho
    simp only [injA, List.mem_cons] at hx
    rcases hx with rfl | hx
    · rw [d_refs] at ho; simp at ho
    · exact injA_refs x hx o ho
  | .mu y y' :: as, k, x, hx => by
    intro o ho
    simp only [injA, List.mem_cons] at hx
    simp only [objsA, List.length_append]
    rcases hx with rfl | hx
    · simp only [Slot.refs, TV.refs, List.mem_flatMap] at ho
      obtain ⟨c, hc, ho⟩ := ho
      have := injC_refs c hc o ho; omega
    · have := injA_refs x hx o ho; omega
  | .own y :: as, k, x, hx => by
    intro o ho
    simp only [injA, List.mem_cons] at hx
    simp only [objsA, List.length_append]
    rcases hx with rfl | hx
    · simp only [Slot.refs, TV.refs, List.mem_flatMap] at ho
      obtain ⟨c, hc, ho⟩ := ho
      have := injC_refs c hc o ho; omega
    · have := injA_refs x hx o ho; omega
theorem objsA_row : ∀ {as : List Arg} {o : VO}, o ∈ objsA as → ∃ n es, o = .row n es true 0 0
  | .ro y :: as, o, ho => objsA_row (as := as) ho
  | .mu y y' :: as, o, ho => by
    simp only [objsA, List.mem_append] at ho
    rcases ho with ho | ho
    · exact objs_row ho
    · exact objsA_row ho
  | .own y :: as, o, ho => by
    simp only [objsA, List.mem_append] at ho
    rcases ho with ho | ho
    · exact objs_row ho
    · exact objsA_row ho

theorem flat_nodup {α : Type} {f : α → List Nat} : ∀ {l : List α}, (l.flatMap f).Nodup → (∀ (i : Nat) a, l[i]? = some a → (f a).Nodup) ∧ ∀ (i j : Nat) a b, l[i]? = some a → l[j]? = some b → i ≠ j → ∀ x ∈ f a, x ∉ f b
  | [], _ => ⟨fun i a h => by simp at h, fun i j a b h => by simp at h⟩
  | c :: l, h => by
    rw [List.flatMap_cons, List.nodup_append] at h
    obtain ⟨h1, h2, h3⟩ := h
    obtain ⟨h4, h5⟩ := flat_nodup h2
    have hm : ∀ {i : Nat} {a : α} {x : Nat}, l[i]? = some a → x ∈ f a → x ∈ l.flatMap f := fun hi hx => List.mem_flatMap.2 ⟨_, List.mem_of_getElem? hi, hx⟩
    refine ⟨fun i a hi => ?_, fun i j a b hi hj hij x hx => ?_⟩
    · cases i with
      | zero => simp at hi; subst hi; exact h1
      | succ i => exact h4 i a (by simpa using hi)
    · cases i with
      | zero =>
        simp at hi; subst hi
        cases j with
        | zero => omega
        | succ j => exact fun hb => h3 x hx x (hm (by simpa using hj) hb) rfl
      | succ i =>
        cases j with
        | zero => simp at hj; subst hj; exact fun hb => h3 x hb x (hm (by simpa using hi) hx) rfl
        | succ j => exact h5 i j a b (by simpa using hi) (by simpa using hj) (by omega) x hx

def heapOf (l : List VO) : Heap := fun k => l.getD k .gone
def initSt (fn : Func) (args : List Arg) : St := ⟨injA 0 args ++ List.replicate (fn.ntmps - args.length) .dead, heapOf (objsA args)⟩

theorem init_rel {w : World} {args : List Arg} {vs : List Value} {FA M : List Nat} {Ls : List Loc} (fn : Func) (hi : InA w (· ∈ FA) args vs Ls) (hf : Ls.flatMap (·.foot) = M) (hlen : vs.length = args.length) (hM : M.Nodup) (hd : ∀ b ∈ M, b ∉ FA)
    (hlt : ∀ b ∈ FA, b < w.heap.size) : Rel w (· ∈ M) ⟨(· ∈ FA), fun k => Ls[k]?⟩ (initSt fn args) { tmps := vs.toArray ++ Array.replicate (fn.ntmps - vs.toArray.size) undef, defers := [] } w := by
  obtain ⟨hl, ho⟩ := hi.objs
  obtain ⟨hn1, hn2⟩ := flat_nodup (hf ▸ hM)
  let locs : Locs := fun k => Ls.getD k ⟨false, 0, 0, 0, []⟩
  have hloc : ∀ (i : Nat) L, Ls[i]? = some L → locs i = L := fun i L h => by simp [locs, List.getD_eq_getElem?_getD, h]
  have hloc0 : ∀ i : Nat, Ls[i]? = none → (locs i).foot = [] := fun i h => by simp [locs, List.getD_eq_getElem?_getD, h]
  have hh : ∀ (i : Nat) o, (objsA args)[i]? = some o → heapOf (objsA args) i = o := fun i o h => by simp [heapOf, List.getD_eq_getElem?_getD, h]
  have hh0 : ∀ i : Nat, (objsA args)[i]? = none → heapOf (objsA args) i = .gone := fun i h => by simp [heapOf, List.getD_eq_getElem?_getD, h]
  have hnone : ∀ i : Nat, (objsA args)[i]? = none → Ls[i]? = none := fun i h => by
    rw [List.getElem?_eq_none_iff] at h ⊢; omega
  have hnovar : ∀ k cs, heapOf (objsA args) k ≠ .var cs := by
    intro k cs h
    cases ho' : (objsA args)[k]? with
    | none => rw [hh0 k ho'] at h; cases h
    | some o =>
      rw [hh k o ho'] at h
      obtain ⟨n, es, e⟩ := objsA_row (List.mem_of_getElem? ho')
      rw [e] at h; cases h
  have hsl := hi.srel 0 locs (heapOf (objsA args)) (fun i L h => by rw [Nat.zero_add]; exact hloc i L h) (fun i o h => by rw [Nat.zero_add]; exact hh i o h)
  have hinj : (injA 0 args).length = vs.length := hsl.length.symm
  have hfm : ∀ k b, b ∈ (locs k).foot → b ∈ M := by
    intro k b hb
    cases hL : Ls[k]? with
    | none => rw [hloc0 k hL] at hb; simp at hb
    | some L => rw [hloc k L hL] at hb; rw [← hf]; exact List.mem_flatMap.2 ⟨L, List.mem_of_getElem? hL, hb⟩
  refine ⟨locs, (· ∈ FA), ?_, rfl, ?_, fun i => ?_, fun i o hor => ?_⟩
  · exact {
      obj := fun k => by
        cases ho' : (objsA args)[k]? with
        | none => show ObjOk _ _ (heapOf _ k) _; rw [hh0 k ho']; exact hloc0 k (hnone k ho')
        | some o =>
          obtain ⟨L, hL, hok⟩ := ho k o ho'
          show ObjOk _ _ (heapOf _ k) _
          rw [hh k o ho', hloc k L hL]; exact hok
      cells := fun k cs hk => absurd hk (hnovar k cs)
      live := fun k cs hk => absurd hk (hnovar k cs)
      nodup := fun k => by
        cases hL : Ls[k]? with
        | none => rw [hloc0 k hL]; exact List.nodup_nil
        | some L => rw [hloc k L hL]; exact hn1 k L hL
      disj := fun k l hkl b hb => by
        cases hL : Ls[k]? with
        | none => rw [hloc0 k hL] at hb; simp at hb
        | some L =>
          cases hL' : Ls[l]? with
          | none => rw [hloc0 l hL']; simp
          | some L' =>
            rw [hloc k L hL] at hb
            rw [hloc l L' hL']
            exact hn2 k l L L' hL hL' hkl b hb
      noro := fun k b hb => hd b (hfm k b hb)
      rolt := hlt
      kept := Kept.refl _ _
      mfoot := fun k b hb => .inl (hfm k b hb)
      share := fun b hb => .inl hb
      pin := fun k L hL n es dp ver _ => by rw [hloc k L hL]; exact ⟨rfl, rfl, rfl, rfl⟩ }
  · simp [initSt, hinj, hlen]
  · simp only [initSt, getT, List.getD_eq_getElem?_getD, Array.getD_eq_getD_getElem?, Array.getElem?_append, List.getElem?_append, hinj, List.size_toArray]
    by_cases hlt' : i < vs.length
    · rw [if_pos hlt', if_pos hlt']
      have hii : i < (injA 0 args).length := by omega
      obtain ⟨v, hv, hr⟩ := hsl.get (List.getElem?_eq_getElem hii)
      rw [List.getElem?_eq_getElem hii, List.getElem?_toArray, hv]
      exact hr
    · rw [if_neg hlt', if_neg hlt']
      have e1 : ∀ (m j : Nat), ((List.replicate m Slot.dead)[j]?).getD .dead = .dead := fun m j => by
        rw [List.getElem?_replicate]; split <;> rfl
      rw [e1]; exact Slot.dead_rel
  · simp only [initSt, getT, List.getD_eq_getElem?_getD, List.getElem?_append] at hor
    split at hor
    · rename_i hlt'
      rw [List.getElem?_eq_getElem hlt'] at hor
      have := injA_refs _ (List.getElem_mem hlt') o hor
      have hlt2 : o < (objsA args).length := by omega
      show heapOf _ o ≠ _
      rw [hh o _ (List.getElem?_eq_getElem hlt2)]
      obtain ⟨n, es, e⟩ := objsA_row (List.getElem_mem hlt2)
      rw [e]; simp
    · have e1 : ∀ (m j : Nat), ((List.replicate m Slot.dead)[j]?).getD .dead = .dead := fun m j => by
        rw [List.getElem?_replicate]; split <;> rfl
      rw [e1] at hor
      simp [Slot.dead, Slot.refs, TV.refs, VC.refs] at hor

end Go.Proofs.YtglilpigoocgeaaGreatDoor.V
namespace Go.Proofs.YtglilpigoocgeaaGreatDoor.V
open Go
set_option linter.unusedVariables false
set_option linter.unusedSimpArgs false

/-- A result variable's value. -/
inductive ResE (tab : List TyI) (t : List Slot) (h : Heap) : ResultVar → TV → Prop
  | tmp {i : Nat} {y : TV} (he : getT t i = .t y) : ResE tab t h (.tmp i) y
  | cell {a T k : Nat} {cs : List VC} (he : getT t a = .t ⟨false, [.vp k 0]⟩) (hh : h k = .var cs) (hk : (ty tab T).ok = true) (h1 : (ty tab T).ag = true ∨ (ty tab T).sz = 1) (hs : (ty tab T).sz = cs.length) :
      ResE tab t h (.cell a T) ⟨(ty tab T).ag, cs⟩

inductive ResV (tab : List TyI) (t : List Slot) (h : Heap) : List ResultVar → List DV → List Nat → Prop
  | nil : ResV tab t h [] [] []
  | cons {r : ResultVar} {y : TV} {ds : List Dat} {K K' : List Nat} {rs : List ResultVar} {xs : List DV} (he : ResE tab t h r y) (hy : okCells y) (ha : AbsD h y.cs ds K) (tl : ResV tab t h rs xs K') :
      ResV tab t h (r :: rs) (⟨y.ag, ds⟩ :: xs) (K ++ K')

/-- The written arguments' rows, behind. -/
inductive OutC (h : Heap) : Nat → List Dat → List Dat → Prop
  | nil {k : Nat} : OutC h k [] []
  | lf {k : Nat} {v : Value} {l l' : List Dat} (t : OutC h k l l') : OutC h k (.lf v :: l) (.lf v :: l')
  | sl {k n ver : Nat} {es es' : List (List Dat)} {l l' : List Dat} (hh : h k = .row n es' true 0 ver) (hl : es'.length = es.length) (t : OutC h (k + 1) l l') : OutC h k (.sl n es :: l) (.sl n es' :: l')
inductive OutA (h : Heap) : Nat → List Arg → List Nat → Prop
  | nil {k : Nat} : OutA h k [] []
  | ro {k : Nat} {x : DV} {as : List Arg} {G : List Nat} (t : OutA h k as G) : OutA h k (.ro x :: as) G
  | mu {k : Nat} {x x' : DV} {as : List Arg} {G : List Nat} (ha : x'.ag = x.ag) (hc : OutC h k x.cs x'.cs) (t : OutA h (k + (objs 0 x.cs).length) as G) :
      OutA h k (.mu x x' :: as) ((List.range (objs 0 x.cs).length).map (k + ·) ++ G)
  | own {k : Nat} {x : DV} {as : List Arg} {G : List Nat} (t : OutA h (k + (objs 0 x.cs).length) as G) : OutA h k (.own x :: as) G

def postQ (tab : List TyI) (fn : Func) (args : List Arg) (res : List DV) : Exit → St → Prop
  | .normal, s | .ret, s => ∃ K G, ResV tab s.t s.h fn.results.toList res K ∧ OutA s.h 0 args G ∧ (K ++ G).Nodup
  | _, _ => False

def postX (tab : List TyI) (fn : Func) (args : List Arg) (Φ : List DV → Prop) : Exit → St → Prop
  | .normal, s | .ret, s => ∃ res K G, Φ res ∧ ResV tab s.t s.h fn.results.toList res K ∧ OutA s.h 0 args G ∧ (K ++ G).Nodup
  | _, _ => False

section
variable {P : Program} {tab : List TyI} {w0 : World} {M0 : Nat → Prop} {A0 : Cx} {h : Heap} {w : World} {locs : Locs} {RO : Nat → Prop} {t : List Slot} {a : Act}

def resOne (tmps : Array Value) : ResultVar → Sem Value
  | .tmp t => pure (tmps.getD t undef)
  | .cell c T => do loadVar T (← asAddr (tmps.getD c undef))

theorem resE_sound (hT : TabOk P tab) (hg : Good w0 M0 A0 h w locs RO) (hm : Tmps locs h w RO t a) {r : ResultVar} {y : TV} (he : ResE tab t h r y) :
    ∃ v, (resOne a.tmps r).run P w = .ok v w ∧ TRel locs h w RO y v := by
  cases he with
  | tmp he =>
    rename_i i
    have h1 := hm.2.2.1 i
    rw [he] at h1
    exact ⟨_, rfl, h1⟩
  | cell he hh hk h1 hs =>
    rename_i c T k cs
    have h2 := hm.2.2.1 c
    rw [he] at h2
    obtain ⟨_, e⟩ := TRel.single.1 h2
    have hob := hg.obj k
    rw [hh] at hob
    obtain ⟨_, arr, aty, hb, hsz⟩ := hob
    obtain ⟨v, hrun, hrel⟩ := run_loadVar (hT T hk) (off := 0) hb (by omega) h1
    have hc := hg.cells k cs hh arr aty _ hb
    have h3 := hrel locs h RO _ ((hc.drop 0).take _)
    rw [List.drop_zero, hs, List.take_length] at h3
    refine ⟨v, ?_, h3⟩
    simp [resOne, e, asAddr, hrun]

theorem tcells {ag : Bool} {cs : List VC} {v : Value} (h1 : TRel locs h w RO ⟨ag, cs⟩ v) : ∃ vs, Cells ag v vs ∧ All2 (VRel locs h w RO) cs vs := trel_iff.1 h1

theorem resV_sound (hT : TabOk P tab) (hg : Good w0 M0 A0 h w locs RO) (hm : Tmps locs h w RO t a) {rs : List ResultVar} {xs : List DV} {K : List Nat} (hr : ResV tab t h rs xs K) : K.Nodup →
    ∃ vs F, (rs.mapM (resOne a.tmps)).run P w = .ok vs w ∧ DVs w xs vs F ∧ F.Nodup ∧ ∀ b ∈ F, ∃ k ∈ K, b ∈ (locs k).foot := by
  induction hr with
  | nil => exact fun _ => ⟨[], [], by simp, .nil, List.nodup_nil, by simp⟩
  | cons he hy ha tl ih =>
    rename_i r y ds K K' rs xs
    intro hK
    obtain ⟨h1, h2, h3⟩ := List.nodup_append.1 hK
    obtain ⟨vs, F, hrun, hd, hn, hF⟩ := ih h2
    obtain ⟨v, hrun1, hrel⟩ := resE_sound hT hg hm he
    obtain ⟨us, hc, hall⟩ := trel_iff.1 hrel
    obtain ⟨F1, hr1, hn1, hF1⟩ := ha.sound hg hall h1
    refine ⟨v :: vs, F1 ++ F, ?_, .cons ⟨us, hc, hr1⟩ hd, List.nodup_append.2 ⟨hn1, hn, fun b hb c hcc e => ?_⟩, fun b hb => ?_⟩
    · rw [List.mapM_cons]
      simp only [Sem.run_bind, hrun1, Result.andThen_ok, hrun]
      rfl
    · subst e
      obtain ⟨k1, hk1, hb1⟩ := hF1 b hb
      obtain ⟨k2, hk2, hb2⟩ := hF b hcc
      exact hg.disj k1 k2 (fun e => h3 k1 hk1 k2 hk2 e) b hb1 hb2
    · rcases List.mem_append.1 hb with hb | hb
      · obtain ⟨k1, hk1, hb1⟩ := hF1 b hb; exact ⟨k1, by simp [hk1], hb1⟩
      · obtain ⟨k1, hk1, hb1⟩ := hF b hb; exact ⟨k1, by simp [hk1], hb1⟩

theorem results_run {fn : Func} {tmps : Array Value} {vs : List Value} (hr : (fn.results.toList.mapM (resOne tmps)).run P w = .ok vs w) :
    ∃ v, (results fn tmps).run P w = .ok v w ∧ IsRes v vs := by
  have e : (fn.results.mapM (resOne tmps)).run P w = .ok vs.toArray w := by
    rw [Array.mapM_eq_mapM_toList]
    simp [hr]
  have e2 : results fn tmps = (do
      let vs ← fn.results.mapM (resOne tmps)
      pure (if h : vs.size = 1 then vs[0] else .tuple vs)) := by
    unfold results
    congr 1
  rw [e2, Sem.run_bind, e]
  simp only [Result.andThen_ok]
  refine ⟨_, rfl, ?_⟩
  unfold IsRes
  split
  · simp
  · rename_i hne
    rw [dif_neg]
    intro hs
    simp only [List.size_toArray] at hs
    obtain ⟨x, rfl⟩ := List.length_eq_one_iff.1 hs
    exact hne x rfl
/-- The written arguments' cells, behind. -/
theorem outC_sound {wa : World} {RO' : Nat → Prop} (hg : Good w0 M0 A0 h w locs RO) {cs cs' : List Dat} {us : List Value} {Ls : List Loc} (hi : InC wa RO' 0 cs us Ls) : ∀ {k : Nat}, OutC h k cs cs' → (∀ i L, Ls[i]? = some L → A0.pin (k + i) = some L) →
    ∃ F, Reps true w cs' us F ∧ F.Nodup ∧ (∀ b ∈ F, ∃ i, i < (objs 0 cs).length ∧ b ∈ (locs (k + i)).foot) ∧ ∀ u ∈ us, szOk wa w u := by
  induction hi generalizing cs' with
  | nil => intro k ho _; cases ho; exact ⟨[], .nil, List.nodup_nil, by simp, by simp⟩
  | lf hs _ ih =>
    intro k ho hp
    cases ho with
    | lf t =>
      obtain ⟨F, h1, h2, h3, h4⟩ := ih t hp
      refine ⟨F, .lf hs h1, h2, h3, fun u hu => ?_⟩
      rcases List.mem_cons.1 hu with rfl | hu
      · intro a n c e; subst e; simp [sca] at hs
      · exact h4 u hu
  | sl hob hsr h1 t ih =>
    rename_i n es v l vs L Ls
    intro k ho hp
    cases ho with
    | sl hh hl t =>
      rename_i ver es' l'
      obtain ⟨F, q1, q2, q3, q4⟩ := ih t fun i L' hL' => by
        have := hp (i + 1) L' (by simpa using hL')
        rwa [Nat.add_assoc, Nat.add_comm 1]
      have hpin := hg.pin k L (by simpa using hp 0 L rfl) _ _ _ _ hh
      have hob' := hg.obj k
      rw [hh] at hob'
      have hsr' := hsr.same hpin
      rw [← hl] at hsr'
      obtain ⟨F1, r1, r2, _⟩ := view_reps (off := 0) (len := es'.length) hob' (hg.nodup k) hsr' (by simp)
      obtain ⟨r3, r4⟩ := r2 rfl
      rw [List.drop_zero, List.take_length] at r1
      have hsl : (objs 0 (.sl n es :: l)).length = (objs 0 l).length + 1 := by simp [V.objs]
      refine ⟨F1 ++ F, r1.append q1, List.nodup_append.2 ⟨r3, q2, fun b hb c hc e => ?_⟩, fun b hb => ?_, fun u hu => ?_⟩
      · subst e
        obtain ⟨i, hi, hb2⟩ := q3 b hc
        exact hg.disj k (k + 1 + i) (by omega) b (r4 b hb) hb2
      · rcases List.mem_append.1 hb with hb | hb
        · exact ⟨0, by omega, by simpa using r4 b hb⟩
        · obtain ⟨i, hi, hb2⟩ := q3 b hb
          exact ⟨i + 1, by omega, by rwa [← Nat.add_assoc, Nat.add_right_comm]⟩
      · rcases List.mem_cons.1 hu with rfl | hu
        · intro a m c e
          subst e
          rcases hsr with ⟨_, _, _, e⟩ | ⟨h0, cap, e, _⟩
          · cases e
          · injection e with e _ _
            injection e with e
            subst e
            obtain ⟨_, hx | ⟨_, arr, ty, G, hb, hsz, _⟩⟩ := hob
            · rw [h0] at hx; cases hx.1
            · obtain ⟨_, hx | ⟨_, arr', ty', G', hb', hsz', _⟩⟩ := hob'
              · rw [hpin.1, h0] at hx; cases hx.1
              · rw [hpin.2.1] at hb'
                simp only [bsz, hb, hb', hsz, hsz', hpin.2.2.2]
        · exact q4 u hu

theorem outA_sound {wa : World} {RO' : Nat → Prop} (hg : Good w0 M0 A0 h w locs RO) {args : List Arg} {vs : List Value} {Ls : List Loc} (hi : InA wa RO' args vs Ls) : ∀ {k : Nat} {G : List Nat}, OutA h k args G → (∀ i L, Ls[i]? = some L → A0.pin (k + i) = some L) →
    ∃ F, ArgsOut wa w args vs F ∧ F.Nodup ∧ (∀ b ∈ F, ∃ j ∈ G, b ∈ (locs j).foot) ∧ ∀ j ∈ G, k ≤ j := by
  induction hi with
  | nil => intro k G ho _; cases ho; exact ⟨[], .nil, List.nodup_nil, by simp, by simp⟩
  | ro hd hF t ih =>
    intro k G ho hp
    cases ho with
    | ro t => obtain ⟨F, h1, h2, h3, h4⟩ := ih t hp; exact ⟨F, .ro h1, h2, h3, h4⟩
  | mu hc hin t ih =>
    rename_i x x' v us as vs L1 Ls
    intro k G ho hp
    cases ho with
    | mu ha hoc t =>
      rename_i G
      obtain ⟨F, h1, h2, h3, h4⟩ := ih t fun i L hL => by
        have := hp (L1.length + i) L (by rw [List.getElem?_append_right (by omega)]; simpa using hL)
        rwa [hin.len, ← Nat.add_assoc] at this
      obtain ⟨F1, q1, q2, q3, q4⟩ := outC_sound hg hin hoc fun i L hL => hp i L (by rw [List.getElem?_append_left (List.getElem?_eq_some_iff.1 hL).1]; exact hL)
      refine ⟨F1 ++ F, .mu ha hc q1 q4 h1, List.nodup_append.2 ⟨q2, h2, fun b hb c hcc e => ?_⟩, fun b hb => ?_, fun j hj => ?_⟩
      · subst e
        obtain ⟨i, hi, hb1⟩ := q3 b hb
        obtain ⟨j, hj, hb2⟩ := h3 b hcc
        have := h4 j hj
        exact hg.disj (k + i) j (by omega) b hb1 hb2
      · rcases List.mem_append.1 hb with hb | hb
        · obtain ⟨i, hi, hb1⟩ := q3 b hb
          exact ⟨k + i, by simp only [List.mem_append, List.mem_map, List.mem_range]; exact .inl ⟨i, hi, rfl⟩, hb1⟩
        · obtain ⟨j, hj, hb2⟩ := h3 b hb
          exact ⟨j, by simp [hj], hb2⟩
      · simp only [List.mem_append, List.mem_map, List.mem_range] at hj
        rcases hj with ⟨i, _, rfl⟩ | hj
        · omega
        · have := h4 j hj; omega
  | own hc hin t ih =>
    rename_i x v us as vs L1 Ls
    intro k G ho hp
    cases ho with
    | own t =>
      obtain ⟨F, h1, h2, h3, h4⟩ := ih t fun i L hL => by
        have := hp (L1.length + i) L (by rw [List.getElem?_append_right (by omega)]; simpa using hL)
        rwa [hin.len, ← Nat.add_assoc] at this
      exact ⟨F, .own h1, h2, h3, fun j hj => by have := h4 j hj; omega⟩
end

theorem InA.lens {w : World} {RO : Nat → Prop} {as : List Arg} {vs : List Value} {Ls : List Loc} (h : InA w RO as vs Ls) : vs.length = as.length := by
  induction h <;> simp_all
theorem ArgsIn.lt {w : World} {as : List Arg} {vs : List Value} {FA M : List Nat} (h : ArgsIn w as vs FA M) : ∀ b ∈ FA, b < w.heap.size := by
  induction h with
  | nil => simp
  | ro hd _ ih =>
    obtain ⟨_, _, hr⟩ := hd
    intro b hb
    rcases List.mem_append.1 hb with hb | hb
    · exact hr.lt b hb
    · exact ih b hb
  | mu _ _ ih => exact ih
  | own _ _ ih => exact ih

theorem tr_of {P : Program} {tab : List TyI} (hT : TabOk P tab) {f : FuncId} {fn : Func} {c : Code} {args : List Arg} {res : List DV} (hf : P.funcs[f]? = some fn) (hname : (fn.name == "runtime.NumGoroutine") = false) (hb : fn.body = some c) (hs : simpleA args = true)
    (hwp : VWp P c (postQ tab fn args res) (initSt fn args)) : Tr P f args res := by
  refine ⟨⟨fn, c, hf, hname, hb⟩, ?_⟩
  intro w vs FA M ha hM hd
  obtain ⟨Ls, hi, hfl⟩ := inA_of ha hs (RO := (· ∈ FA)) fun b hb => hb
  have hrel := init_rel fn hi hfl hi.lens hM hd ha.lt
  refine calls_of_wp hf hb (wp_mono (hwp w _ _ _ _ hrel) fun e a' w' hq => ?_)
  obtain ⟨s, hq, locs, RO, hg, hm⟩ := hq
  have key : (∃ K G, ResV tab s.t s.h fn.results.toList res K ∧ OutA s.h 0 args G ∧ (K ++ G).Nodup) → a'.defers = [] ∧ ∃ v, (results fn a'.tmps).run P w' = .ok v w' ∧
      ∃ v' rs FR FO, Ending.returned v = .returned v' ∧ IsRes v' rs ∧ DVs w' res rs FR ∧ ArgsOut w w' args vs FO ∧ (FR ++ FO).Nodup ∧ (∀ b ∈ FR ++ FO, b ∈ M ∨ w.heap.size ≤ b) ∧ Kept (· ∈ M) w w' := by
    rintro ⟨K, G, hres, hout, hKG⟩
    obtain ⟨hK, hG, hKGd⟩ := List.nodup_append.1 hKG
    obtain ⟨rs, FR, hrun, hdv, hn, hFR⟩ := resV_sound hT hg hm hres hK
    obtain ⟨v, hv, hir⟩ := results_run hrun
    obtain ⟨FO, ho, hno, hFO, _⟩ := outA_sound hg hi hout fun i L hL => by simpa using hL
    refine ⟨hm.1, v, hv, v, rs, FR, FO, rfl, hir, hdv, ho, List.nodup_append.2 ⟨hn, hno, fun b hb c hc e => ?_⟩, fun b hb => ?_, hg.kept⟩
    · subst e
      obtain ⟨k, hk, hb1⟩ := hFR b hb
      obtain ⟨j, hj, hb2⟩ := hFO b hc
      exact hg.disj k j (hKGd k hk j hj) b hb1 hb2
    · rcases List.mem_append.1 hb with hb | hb
      · obtain ⟨k, _, hb1⟩ := hFR b hb; exact hg.mfoot k b hb1
      · obtain ⟨k, _, hb1⟩ := hFO b hb; exact hg.mfoot k b hb1
  cases e with
  | normal => exact key hq
  | ret => exact key hq
  | exit id => exact hq.elim
  | goto l => exact hq.elim
  | panic ch => exact hq.elim
  | outgrown => exact hq.elim

theorem trX_of {P : Program} {tab : List TyI} (hT : TabOk P tab) {f : FuncId} {fn : Func} {c : Code} {args : List Arg} {Φ : List DV → Prop} (hf : P.funcs[f]? = some fn) (hname : (fn.name == "runtime.NumGoroutine") = false) (hb : fn.body = some c) (hs : simpleA args = true)
    (hwp : VWp P c (postX tab fn args Φ) (initSt fn args)) : TrX P f args Φ := by
  refine ⟨⟨fn, c, hf, hname, hb⟩, ?_⟩
  intro w vs FA M ha hM hd
  obtain ⟨Ls, hi, hfl⟩ := inA_of ha hs (RO := (· ∈ FA)) fun b hb => hb
  have hrel := init_rel fn hi hfl hi.lens hM hd ha.lt
  refine calls_of_wp hf hb (wp_mono (hwp w _ _ _ _ hrel) fun e a' w' hq => ?_)
  obtain ⟨s, hq, locs, RO, hg, hm⟩ := hq
  have key : (∃ res K G, Φ res ∧ ResV tab s.t s.h fn.results.toList res K ∧ OutA s.h 0 args G ∧ (K ++ G).Nodup) → a'.defers = [] ∧ ∃ v, (results fn a'.tmps).run P w' = .ok v w' ∧
      ∃ res, Φ res ∧ ∃ v' rs FR FO, Ending.returned v = .returned v' ∧ IsRes v' rs ∧ DVs w' res rs FR ∧ ArgsOut w w' args vs FO ∧ (FR ++ FO).Nodup ∧ (∀ b ∈ FR ++ FO, b ∈ M ∨ w.heap.size ≤ b) ∧ Kept (· ∈ M) w w' := by
    rintro ⟨res, K, G, hΦ, hres, hout, hKG⟩
    obtain ⟨hK, hG, hKGd⟩ := List.nodup_append.1 hKG
    obtain ⟨rs, FR, hrun, hdv, hn, hFR⟩ := resV_sound hT hg hm hres hK
    obtain ⟨v, hv, hir⟩ := results_run hrun
    obtain ⟨FO, ho, hno, hFO, _⟩ := outA_sound hg hi hout fun i L hL => by simpa using hL
    refine ⟨hm.1, v, hv, res, hΦ, v, rs, FR, FO, rfl, hir, hdv, ho, List.nodup_append.2 ⟨hn, hno, fun b hb c hc e => ?_⟩, fun b hb => ?_, hg.kept⟩
    · subst e
      obtain ⟨k, hk, hb1⟩ := hFR b hb
      obtain ⟨j, hj, hb2⟩ := hFO b hc
      exact hg.disj k j (hKGd k hk j hj) b hb1 hb2
    · rcases List.mem_append.1 hb with hb | hb
      · obtain ⟨k, _, hb1⟩ := hFR b hb; exact hg.mfoot k b hb1
      · obtain ⟨k, _, hb1⟩ := hFO b hb; exact hg.mfoot k b hb1
  cases e with
  | normal => exact key hq
  | ret => exact key hq
  | exit id => exact hq.elim
  | goto l => exact hq.elim
  | panic ch => exact hq.elim
  | outgrown => exact hq.elim


end Go.Proofs.YtglilpigoocgeaaGreatDoor.V
namespace Go.Proofs.YtglilpigoocgeaaGreatDoor.V
open Go
set_option linter.unusedVariables false
set_option linter.unusedSimpArgs false

/-! ### read by the callee -/
inductive RdL (h : Heap) : List VC → List Dat → List Nat → Prop
  | nil : RdL h [] [] []
  | d {x : Dat} {cs : List VC} {ds : List Dat} {R : List Nat} (t : RdL h cs ds R) : RdL h (.d x :: cs) (x :: ds) R
  | nl {n : Nat} {cs : List VC} {ds : List Dat} {R : List Nat} (t : RdL h cs ds R) : RdL h (.nl n :: cs) (.sl n [] :: ds) R
  | sr {k g off len room n ver : Nat} {es u : List (List Dat)} {dp : Bool} {cs : List VC} {ds : List Dat} {R : List Nat} (hk : h k = .row n es dp g ver) (hl : off + len ≤ es.length) (hu : (es.drop off).take len = u)
      (t : RdL h cs ds R) : RdL h (.sr k g off len room :: cs) (.sl n u :: ds) (k :: R)
  | nr {k ver i j n g m : Nat} {es us : List (List Dat)} {e : List Dat} {cs : List VC} {ds : List Dat} {R : List Nat} (hk : h k = .row n es true g ver) (he : es[i]? = some e) (hj : e[j]? = some (.sl m us))
      (t : RdL h cs ds R) : RdL h (.nr k ver i j :: cs) (.sl m us :: ds) (k :: R)
  | vp {k : Nat} {xs cs : List VC} {dx ds : List Dat} {R' R : List Nat} (hk : h k = .var xs) (hr : RdL h xs dx R') (t : RdL h cs ds R) : RdL h (.vp k 0 :: cs) (.pt dx :: ds) (k :: (R' ++ R))
  | cl {f : FuncId} {caps : List Nat} {cs : List VC} {dc ds : List Dat} {R' R : List Nat} (hr : RdL h (caps.map (.vp · 0)) dc R') (t : RdL h cs ds R) : RdL h (.cl f caps :: cs) (.cl f dc :: ds) (R' ++ R)

section
variable {w0 : World} {M0 : Nat → Prop} {A0 : Cx} {h : Heap} {w : World} {locs : Locs} {RO : Nat → Prop}

theorem RdL.sound (hg : Good w0 M0 A0 h w locs RO) {cs : List VC} {ds : List Dat} {R : List Nat} (hr : RdL h cs ds R) : ∀ {vs : List Value}, All2 (VRel locs h w RO) cs vs →
    ∃ F, Reps false w ds vs F ∧ ∀ b ∈ F, RO b ∨ ∃ k ∈ R, b ∈ (locs k).foot := by
  induction hr with
  | nil => intro vs hv; cases hv; exact ⟨[], .nil, by simp⟩
  | d t ih =>
    intro vs hv
    cases hv with
    | cons h1 h2 =>
      obtain ⟨F, q1, q2⟩ := ih h2
      obtain ⟨F1, q3, q4⟩ := h1
      refine ⟨F1 ++ F, q3.append q1, fun b hb => ?_⟩
      rcases List.mem_append.1 hb with hb | hb
      · exact .inl (q4 b hb)
      · exact q2 b hb
  | nl t ih =>
    intro vs hv
    cases hv with
    | cons h1 h2 =>
      obtain ⟨F, q1, q2⟩ := ih h2
      cases h1
      exact ⟨F, .nl q1, q2⟩
  | sr hk hl hu t ih =>
    rename_i k g off len room n ver es u dp cs ds R
    intro vs hv
    cases hv with
    | cons h1 h2 =>
      obtain ⟨F, q1, q2⟩ := ih h2
      obtain ⟨n', es', dp', g0, ver', hc, hle, hone, hp⟩ := h1
      rw [hk] at hc
      injection hc with a1 a2 a3 a4 a5
      subst a1
      have hob := hg.obj k
      rw [hk] at hob
      obtain ⟨F1, q3, q4, q5⟩ := view_reps hob (hg.nodup k) (hp a4) hl
      rw [hu] at q3
      refine ⟨F1 ++ F, q3.ro.append q1, fun b hb => ?_⟩
      rcases List.mem_append.1 hb with hb | hb
      · cases dp with
        | true => exact .inr ⟨k, by simp, (q4 rfl).2 b hb⟩
        | false =>
          rcases q5 rfl b hb with h1 | h1
          · exact .inr ⟨k, by simp, h1⟩
          · exact .inl h1
      · rcases q2 b hb with h1 | ⟨k', h1, h3⟩
        · exact .inl h1
        · exact .inr ⟨k', by simp [h1], h3⟩
  | nr hk he hj t ih =>
    rename_i k ver i j n g m es us e cs ds R
    intro vs hv
    cases hv with
    | cons h1 h2 =>
      rename_i v vs
      obtain ⟨F, q1, q2⟩ := ih h2
      obtain ⟨n', es', dp', g0, ver', hc, hle, hone, hp⟩ := h1
      rw [hk] at hc
      injection hc with a1 a2 a3 a4 a5
      obtain ⟨_, hcell⟩ := hp a3.symm a5
      rw [← a1] at hcell
      have hob := hg.obj k
      rw [hk] at hob
      obtain ⟨hn, hx | ⟨_, arr, aty, G, hb, ha, hbs, hrr, k1, _⟩⟩ := hob
      · rw [hx.2.1] at he; simp at he
      · have hi : i < es.length := (List.getElem?_eq_some_iff.1 he).1
        have hel : e.length = n := hn e (List.mem_of_getElem? he)
        have hjl : j < n := by rw [← hel]; exact (List.getElem?_eq_some_iff.1 hj).1
        obtain ⟨u, G1, hu, hr1, hG1⟩ := hrr.one (i := i * n + j) (d := .sl m us) (by rw [flat_get hn he hjl]; exact hj)
        rw [seg_get (idx_lt hi hjl), ← Nat.add_assoc] at hu
        rw [cell_block hb, hu] at hcell
        injection hcell with e3
        subst e3
        refine ⟨G1 ++ F, hr1.ro.append q1, fun b hbb => ?_⟩
        rcases List.mem_append.1 hbb with hbb | hbb
        · exact .inr ⟨k, by simp, by rw [k1 rfl]; simp [hG1 b hbb]⟩
        · rcases q2 b hbb with h1 | ⟨k', h1, h3⟩
          · exact .inl h1
          · exact .inr ⟨k', by simp [h1], h3⟩
  | vp hk hr t ih1 ih =>
    rename_i k xs cs dx ds R' R
    intro vs hv
    cases hv with
    | cons h1 h2 =>
      obtain ⟨F, q1, q2⟩ := ih h2
      obtain ⟨_, e⟩ := h1
      subst e
      have hob := hg.obj k
      rw [hk] at hob
      obtain ⟨hft, arr, aty, hb, hsa⟩ := hob
      have hall := hg.cells k xs hk arr aty _ hb
      obtain ⟨F1, q3, q4⟩ := ih1 hall
      have hl : dx.length = arr.size := by have := q3.length; simpa using this.symm
      refine ⟨(locs k).b :: (F1 ++ F), .pt hb (by omega) (by simp) ?_ q1, fun b hbb => ?_⟩
      · rw [hl, seg_all]; exact q3
      · rcases List.mem_cons.1 hbb with rfl | hbb
        · exact .inr ⟨k, by simp, by rw [hft]; simp⟩
        · rcases List.mem_append.1 hbb with hbb | hbb
          · rcases q4 b hbb with h1 | ⟨k', h1, h3⟩
            · exact .inl h1
            · exact .inr ⟨k', by simp [h1], h3⟩
          · rcases q2 b hbb with h1 | ⟨k', h1, h3⟩
            · exact .inl h1
            · exact .inr ⟨k', by simp [h1], h3⟩
  | cl hr t ih1 ih =>
    rename_i f caps cs dc ds R' R
    intro vs hv
    cases hv with
    | cons h1 h2 =>
      obtain ⟨F, q1, q2⟩ := ih h2
      obtain ⟨us, e, hall⟩ := h1
      subst e
      obtain ⟨F1, q3, q4⟩ := ih1 (vs := us.toList) (hall.map_left fun a b hab => hab)
      refine ⟨F1 ++ F, .cl q3 q1, fun b hbb => ?_⟩
      rcases List.mem_append.1 hbb with hbb | hbb
      · rcases q4 b hbb with h1 | ⟨k', h1, h3⟩
        · exact .inl h1
        · exact .inr ⟨k', by simp [h1], h3⟩
      · rcases q2 b hbb with h1 | ⟨k', h1, h3⟩
        · exact .inl h1
        · exact .inr ⟨k', by simp [h1], h3⟩
end

/-! ### written by the callee -/
/-- What became of a written row. -/
structure EOk (h : Heap) (w : World) (locs : Locs) (w' : World) (RO : Nat → Prop) (k : Nat) (o : VO) (L : Loc) (Fk Mk : List Nat) : Prop where
  obj : ObjOk w' RO o L
  same : (locs k).same L
  row : ∃ n es g ver es' ver', h k = .row n es true g ver ∧ o = .row n es' true g ver' ∧ ver ≤ ver' ∧
    (ver' = ver → ∀ (i j : Nat) e m us v, es[i]? = some e → e[j]? = some (.sl m us) → w.cell? ⟨(locs k).b, (locs k).base + i * n + j, none⟩ = some v →
      (∃ e' m' us', es'[i]? = some e' ∧ e'[j]? = some (.sl m' us')) ∧ w'.cell? ⟨L.b, L.base + i * n + j, none⟩ = some v)
  nodup : L.foot.Nodup
  foot : ∀ b ∈ L.foot, b ∈ Fk ∨ (b ∈ (locs k).foot ∧ b ∉ Mk)
  mine : ∀ b ∈ Mk, b ∈ (locs k).foot

inductive EsOk (h : Heap) (w : World) (locs : Locs) (w' : World) (RO : Nat → Prop) : List (Nat × VO) → List Loc → List Nat → List Nat → Prop
  | nil : EsOk h w locs w' RO [] [] [] []
  | cons {k : Nat} {o : VO} {L : Loc} {Fk Mk F M : List Nat} {E : List (Nat × VO)} {Ls : List Loc} (h1 : EOk h w locs w' RO k o L Fk Mk) (t : EsOk h w locs w' RO E Ls F M) :
      EsOk h w locs w' RO ((k, o) :: E) (L :: Ls) (Fk ++ F) (Mk ++ M)

inductive MuC (h : Heap) : List VC → List Dat → List Dat → List (Nat × VO) → Prop
  | nil : MuC h [] [] [] []
  | lf {v : Value} {cs : List VC} {ds ds' : List Dat} {E : List (Nat × VO)} (t : MuC h cs ds ds' E) : MuC h (.d (.lf v) :: cs) (.lf v :: ds) (.lf v :: ds') E
  | nl {n : Nat} {cs : List VC} {ds ds' : List Dat} {E : List (Nat × VO)} (t : MuC h cs ds ds' E) : MuC h (.nl n :: cs) (.sl n [] :: ds) (.sl n [] :: ds') E
  | sr {k g len room n ver : Nat} {es es' : List (List Dat)} {cs : List VC} {ds ds' : List Dat} {E : List (Nat × VO)} (hk : h k = .row n es true g ver) (hlen : es.length = len) (hl : es'.length = len)
      (t : MuC h cs ds ds' E) : MuC h (.sr k g 0 len room :: cs) (.sl n es :: ds) (.sl n es' :: ds') ((k, .row n es' true g (ver + 1)) :: E)

def keys (E : List (Nat × VO)) : List Nat := E.map (·.1)

section
variable {w0 : World} {M0 : Nat → Prop} {A0 : Cx} {h : Heap} {w : World} {locs : Locs} {RO : Nat → Prop}

theorem MuC.sound (hg : Good w0 M0 A0 h w locs RO) {cs : List VC} {ds ds' : List Dat} {E : List (Nat × VO)} (hm : MuC h cs ds ds' E) : ∀ {vs : List Value}, All2 (VRel locs h w RO) cs vs → (keys E).Nodup →
    ∃ M, Reps true w ds vs M ∧ M.Nodup ∧ (∀ b ∈ M, ∃ k ∈ keys E, b ∈ (locs k).foot) ∧
      ∀ w' F, Reps true w' ds' vs F → F.Nodup → (∀ u ∈ vs, szOk w w' u) → ∃ Ls, EsOk h w locs w' RO E Ls F M := by
  induction hm with
  | nil => intro vs hv _; cases hv; exact ⟨[], .nil, List.nodup_nil, by simp, fun w' F hr _ _ => by cases hr; exact ⟨[], .nil⟩⟩
  | lf t ih =>
    intro vs hv hK
    cases hv with
    | cons h1 h2 =>
      obtain ⟨M, q1, q2, q3, q4⟩ := ih h2 hK
      obtain ⟨e, hs⟩ := vrel_lf_eq h1
      subst e
      refine ⟨M, .lf hs q1, q2, q3, fun w' F hr hn hz => ?_⟩
      cases hr with
      | lf _ r => exact q4 w' F r hn fun u hu => hz u (by simp [hu])
  | nl t ih =>
    intro vs hv hK
    cases hv with
    | cons h1 h2 =>
      obtain ⟨M, q1, q2, q3, q4⟩ := ih h2 hK
      cases h1
      refine ⟨M, .nl q1, q2, q3, fun w' F hr hn hz => ?_⟩
      cases hr with
      | nl r => exact q4 w' F r hn fun u hu => hz u (by simp [hu])
  | sr hk hlen hl t ih =>
    rename_i k g len room n ver es es' cs ds ds' E
    intro vs hv hK
    cases hv with
    | cons h1 h2 =>
      rename_i v vs
      simp only [keys, List.map_cons, List.nodup_cons] at hK
      obtain ⟨M, q1, q2, q3, q4⟩ := ih h2 hK.2
      obtain ⟨n', es0, dp', g0, ver', hc, hle, hone, hp⟩ := h1
      rw [hk] at hc
      injection hc with a1 a2 a3 a4 a5
      subst a1
      have hs := hp a4
      have hob := hg.obj k
      rw [hk] at hob
      subst hlen
      obtain ⟨F1, r1, r2, _⟩ := view_reps hob (hg.nodup k) hs (by simp)
      obtain ⟨r3, r4⟩ := r2 rfl
      rw [List.drop_zero, List.take_length] at r1
      refine ⟨F1 ++ M, r1.append q1, List.nodup_append.2 ⟨r3, q2, fun b hb c hc e => ?_⟩, fun b hb => ?_, fun w' F hr hn hz => ?_⟩
      · subst e
        obtain ⟨k', hk', hb'⟩ := q3 b hc
        exact hg.disj k k' (fun e => hK.1 (e ▸ hk')) b (r4 b hb) hb'
      · rcases List.mem_append.1 hb with hb | hb
        · exact ⟨k, by simp [keys], r4 b hb⟩
        · obtain ⟨k', hk', hb'⟩ := q3 b hb
          exact ⟨k', by simp only [keys, List.map_cons, List.mem_cons]; exact .inr hk', hb'⟩
      · have hrow : ∀ (w' : World) (L : Loc), ∃ n0 es0 g0 ver0 es0' ver0', h k = .row n0 es0 true g0 ver0 ∧ (VO.row n es' true g (ver + 1)) = .row n0 es0' true g0 ver0' ∧ ver0 ≤ ver0' ∧
            (ver0' = ver0 → ∀ (i j : Nat) e m us v, es0[i]? = some e → e[j]? = some (.sl m us) → w.cell? ⟨(locs k).b, (locs k).base + i * n0 + j, none⟩ = some v →
              (∃ e' m' us', es0'[i]? = some e' ∧ e'[j]? = some (.sl m' us')) ∧ w'.cell? ⟨L.b, L.base + i * n0 + j, none⟩ = some v) :=
          fun w' L => ⟨n, es, g, ver, es', ver + 1, hk, rfl, Nat.le_succ _, fun e => by omega⟩
        have hz1 := hz v (by simp)
        rcases hs with ⟨b1, b2, b3, rfl⟩ | ⟨b1, cap, rfl, b2, b3, b4⟩
        · have e0 : es' = [] := List.eq_nil_of_length_eq_zero (by omega)
          have e1 : es = [] := List.eq_nil_of_length_eq_zero (by omega)
          subst e0; subst e1
          cases hr with
          | nl r =>
            obtain ⟨Ls, h3⟩ := q4 w' F r hn fun u hu => hz u (by simp [hu])
            have hF1 : F1 = [] := by cases r1 with | nl r => cases r; rfl
            subst hF1
            refine ⟨_, .cons (Fk := []) (Mk := []) (L := { locs k with foot := [] }) ⟨⟨by simp, .inl ⟨b1, rfl, rfl⟩⟩, ⟨rfl, rfl, rfl, rfl⟩, hrow _ _, List.nodup_nil, by simp, by simp⟩ h3⟩
        · have hb0 : bsz w (locs k).b = (locs k).tot := by
            obtain ⟨_, hx | ⟨_, arr, ty, G, hb, hsz, _⟩⟩ := hob
            · rw [b1] at hx; cases hx.1
            · simp [bsz, hb, hsz]
          have hz2 := hz1 _ _ _ rfl
          simp only at hz2
          rw [show es.length = es'.length from hl.symm] at hr
          cases hr with
          | sl hb hcc he hsz hw gg r =>
            rename_i F' G arr ty fr
            obtain ⟨e1, e2⟩ := hw rfl
            subst e1
            have hn' : (((locs k).b :: G) ++ F').Nodup := hn
            obtain ⟨hn1, hn2, _⟩ := List.nodup_append.1 hn'
            obtain ⟨Ls, h3⟩ := q4 w' F' r hn2 fun u hu => hz u (by simp [hu])
            have hbz : arr.size = (locs k).tot := by rw [← hb0, ← hz2]; simp [bsz, hb]
            refine ⟨_, .cons (Fk := (locs k).b :: G) (Mk := F1) (L := { locs k with foot := (locs k).b :: G }) ⟨⟨he, .inr ⟨b1, arr, ty, G, hb, hbz, by simp only at hsz ⊢; rw [Nat.zero_mul, Nat.add_zero] at hsz; omega, ?_, fun _ => rfl, by simp⟩⟩,
              ⟨rfl, rfl, rfl, rfl⟩, hrow _ _, hn1, fun b hb => .inl hb, r4⟩ h3⟩
            simp only [Nat.zero_mul, Nat.add_zero] at gg
            exact gg
          | em h _ => cases h
theorem EsOk.append {w' : World} {E E' : List (Nat × VO)} {Ls Ls' : List Loc} {F F' M M' : List Nat} (h1 : EsOk h w locs w' RO E Ls F M) (h2 : EsOk h w locs w' RO E' Ls' F' M') :
    EsOk h w locs w' RO (E ++ E') (Ls ++ Ls') (F ++ F') (M ++ M') := by
  induction h1 with
  | nil => exact h2
  | cons hh t ih => simp only [List.cons_append, List.append_assoc]; exact .cons hh ih

/-- A part of a row's element is written. -/
theorem el_sound (hg : Good w0 M0 A0 h w locs RO) {k n i j g ver : Nat} {es : List (List Dat)} {e ds ds' : List Dat} (hk : h k = .row n es true g ver) (he : es[i]? = some e) (hds : (e.drop j).take ds.length = ds)
    (hl : ds'.length = ds.length) (hsh : ∀ (q : Nat) m us, ds[q]? = some (.sl m us) → ∃ m' us', ds'[q]? = some (.sl m' us')) {vs : List Value} (hv : All2 (VRel locs h w RO) (rcells k ver true i j ds) vs)
    (hno : ∀ d ∈ ds, simple d = true) :
    ∃ M, Reps true w ds vs M ∧ M.Nodup ∧ (∀ b ∈ M, b ∈ (locs k).foot) ∧
      ∀ w' F, (∀ b, b ∈ (locs k).foot → b ∉ M → w'.heap[b]? = w.heap[b]?) → (∀ b ∈ F, b ∈ (locs k).foot → b ∈ M) → Reps true w' ds' vs F → F.Nodup → ∃ L, EOk h w locs w' RO k (.row n (es.set i (patch e j ds')) true g ver) L F M := by
  have hob := hg.obj k
  have hnd := hg.nodup k
  rw [hk] at hob
  obtain ⟨hn, hx | ⟨hnl, arr, aty, G, hb, hat, hbs, hrr, k1, _⟩⟩ := hob
  · rw [hx.2.1] at he; simp at he
  · have hi : i < es.length := (List.getElem?_eq_some_iff.1 he).1
    have hel : e.length = n := hn e (List.mem_of_getElem? he)
    have hft := k1 rfl
    rw [hft] at hnd
    obtain ⟨hbG, hGn⟩ := List.nodup_cons.1 hnd
    have hdl : ds.length ≤ n - j := by have := congrArg List.length hds; rw [List.length_take, List.length_drop, hel] at this; omega
    by_cases hd0 : ds.length = 0
    · have e0 : ds = [] := List.eq_nil_of_length_eq_zero hd0
      have e1 : ds' = [] := List.eq_nil_of_length_eq_zero (by omega)
      subst e0; subst e1
      cases hv
      refine ⟨[], .nil, List.nodup_nil, by simp, fun w' F hfr hF hr hFn => ?_⟩
      cases hr
      have hp : patch e j [] = e := by simp [patch]
      have hset : es.set i e = es := by
        apply List.ext_getElem?
        intro q
        rw [List.getElem?_set]
        split
        · rename_i hq; subst hq; exact he.symm
        · rfl
      rw [hp, hset]
      have hun : ∀ b ∈ (locs k).foot, w'.heap[b]? = w.heap[b]? := fun b hb => hfr b hb (by simp)
      refine ⟨locs k, ⟨hn, .inr ⟨hnl, arr, aty, G, by rw [hun _ (by rw [hft]; simp)]; exact hb, hat, hbs, hrr.frame fun b hb => hun b (by rw [hft]; simp [hb]), k1, by simp⟩⟩, ⟨rfl, rfl, rfl, rfl⟩,
        ⟨n, es, g, ver, es, ver, hk, rfl, Nat.le_refl _, fun _ i' j' e' m us v h1 h2 h3 => ⟨⟨e', m, us, h1, h2⟩, ?_⟩⟩, hg.nodup k, fun b hb => .inr ⟨hb, by simp⟩, by simp⟩
      rw [cell_same (hun _ (by rw [hft]; simp))]; exact h3
    have hjn : j + ds.length ≤ n := by omega
    have hin : i * n + j + ds.length ≤ es.length * n := by
      have : (i + 1) * n ≤ es.length * n := Nat.mul_le_mul_right n hi
      rw [Nat.succ_mul] at this; omega
    obtain ⟨F1, F2, F3, hG, hr1, hr2, hr3⟩ := hrr.part (k := i * n + j) (l := ds.length)
    -- the data of the part
    have hpart : (es.flatten.drop (i * n + j)).take ds.length = ds := by
      rw [flat_split (n := n) he]
      have hl1 : ((es.take i).flatten).length = i * n := by rw [flat_len (n := n) fun x hx => hn x (List.mem_of_mem_take hx), List.length_take, Nat.min_eq_left (by omega)]
      rw [← hl1, List.drop_append, List.drop_eq_nil_of_le (by omega : ((es.take i).flatten).length ≤ _), List.nil_append, Nat.add_sub_cancel_left, List.drop_append_of_le_length (by omega), List.take_append_of_le_length (by rw [List.length_drop]; omega)]
      exact hds
    rw [hpart, seg_seg (by omega)] at hr2
    -- the values of the part
    have hvs : vs = seg arr ((locs k).base + (i * n + j)) ds.length := by
      apply List.ext_getElem?
      intro q
      by_cases hq : q < ds.length
      · rw [seg_get hq]
        have hdq : ds[q]? = some ds[q] := List.getElem?_eq_getElem hq
        obtain ⟨v, hvq, hrel⟩ := hv.get (i := q) (a := rcell k ver true i (j + q) ds[q]) (by rw [rcells_get, hdq]; rfl)
        rw [hvq]
        have hflat : es.flatten[i * n + (j + q)]? = some ds[q] := by
          rw [flat_get hn he (by omega), ← hdq]
          conv => rhs; rw [← hds]
          rw [List.getElem?_take, if_pos hq, List.getElem?_drop]
        obtain ⟨u, G1, hu, hr4, _⟩ := hrr.one hflat
        rw [seg_get (idx_lt hi (by omega))] at hu
        have hidx : (locs k).base + (i * n + j) + q = (locs k).base + (i * n + (j + q)) := by omega
        rw [hidx, hu]
        have hsim := hno _ (List.getElem_mem hq)
        cases hdd : ds[q] with
        | lf x =>
          rw [hdd] at hrel hr4
          obtain ⟨e1, _⟩ := vrel_lf_eq (v := x) (u := v) hrel
          obtain ⟨e2, _, _⟩ := reps_one_lf hr4
          rw [e1, e2]
        | sl m us =>
          rw [hdd] at hrel
          obtain ⟨n', es', dp', g0, ver', hc, hle, hone, hp⟩ := hrel
          rw [hk] at hc
          injection hc with a1 a2 a3 a4 a5
          obtain ⟨_, hcell⟩ := hp a3.symm a5
          rw [cell_block hb, ← a1] at hcell
          rw [show (locs k).base + (i * n + (j + q)) = (locs k).base + i * n + (j + q) by omega] at hu
          rw [hu] at hcell
          exact hcell.symm
        | pt c => rw [hdd] at hsim; simp [simple] at hsim
        | cl f c => rw [hdd] at hsim; simp [simple] at hsim
        | hole => rw [hdd] at hsim; simp [simple] at hsim
      · rw [List.getElem?_eq_none, List.getElem?_eq_none]
        · rw [seg_length (by omega)]; omega
        · rw [hv.length, rcells_length]; omega
    rw [← hvs] at hr2
    rw [hG] at hGn hbG
    obtain ⟨g1, g23, g4⟩ := List.nodup_append.1 hGn
    obtain ⟨g2, g3, g5⟩ := List.nodup_append.1 g23
    refine ⟨F2, hr2, g2, fun b hb => by rw [hft, hG]; simp [hb], fun w' F hfr hF hr hFn => ?_⟩
    have hb2 : (locs k).b ∉ F2 := fun hh => hbG (by simp [hh])
    have hbu := hfr (locs k).b (by rw [hft]; simp) hb2
    have hnew : Reps true w' (es.set i (patch e j ds')).flatten (seg arr (locs k).base ((es.set i (patch e j ds')).length * n)) (F1 ++ (F ++ F3)) := by
      rw [set_flat (n := n) hn he (by rw [hl]; omega), List.length_set]
      have h1 : seg arr (locs k).base (es.length * n) = (seg arr (locs k).base (es.length * n)).take (i * n + j) ++ (vs ++ ((seg arr (locs k).base (es.length * n)).drop (i * n + j)).drop ds.length) := by
        rw [hvs, ← seg_seg (off := (locs k).base) (k := es.length * n) (a := i * n + j) (l := ds.length) (by omega), List.take_append_drop, List.take_append_drop]
      rw [h1]
      unfold patch
      rw [hl, ← List.drop_drop]
      refine (hr1.frame fun b hb => hfr b (by rw [hft, hG]; simp [hb]) fun h2 => g4 b hb b (by simp [h2]) rfl).append (hr.append (hr3.frame fun b hb => hfr b (by rw [hft, hG]; simp [hb]) fun h2 => g5 b h2 b hb rfl))
    have hFold : ∀ b ∈ F, ∀ c, c ∈ (locs k).foot → c ∉ F2 → b ≠ c := by
      intro b hb c hc hc2 e
      subst e
      exact hc2 (hF b hb hc)
    refine ⟨{ locs k with foot := (locs k).b :: (F1 ++ (F ++ F3)) }, ⟨set_len (n := n) hn he (by rw [hl]; omega), .inr ⟨hnl, arr, aty, _, by rw [hbu]; exact hb, hat, by rw [List.length_set]; exact hbs, hnew, fun _ => rfl, by simp⟩⟩, ⟨rfl, rfl, rfl, rfl⟩,
      ⟨n, es, g, ver, _, ver, hk, rfl, Nat.le_refl _, fun _ i' j' e' m us v h1 h2 h3 => ⟨?_, ?_⟩⟩, ?_, fun b hb => ?_, fun b hb => by rw [hft, hG]; simp [hb]⟩
    · by_cases hii : i' = i
      · subst hii
        rw [he] at h1
        injection h1 with h1; subst h1
        refine ⟨patch e j ds', ?_⟩
        by_cases hjj : j ≤ j' ∧ j' < j + ds.length
        · have hdq : ds[j' - j]? = some (.sl m us) := by
            rw [← hds, List.getElem?_take, if_pos (by omega), List.getElem?_drop, ← h2]; congr 1; omega
          obtain ⟨m', us', h4⟩ := hsh _ _ _ hdq
          refine ⟨m', us', by simp [List.getElem?_set, hi], ?_⟩
          unfold patch
          rw [List.getElem?_append_right (by rw [List.length_take]; omega), List.length_take, List.getElem?_append_left (by rw [hl]; omega), ← h4]; congr 1; omega
        · refine ⟨m, us, by simp [List.getElem?_set, hi], ?_⟩
          unfold patch
          by_cases hlt : j' < j
          · rw [List.getElem?_append_left (by rw [List.length_take]; omega), List.getElem?_take, if_pos hlt]; exact h2
          · rw [List.getElem?_append_right (by rw [List.length_take]; omega), List.length_take, List.getElem?_append_right (by rw [hl]; omega), List.getElem?_drop, ← h2]; congr 1; omega
      · exact ⟨e', m, us, by rw [List.getElem?_set, if_neg (fun hh => hii hh.symm)]; exact h1, h2⟩
    · rw [cell_same hbu]; exact h3
    · refine List.nodup_cons.2 ⟨fun hh => ?_, List.nodup_append.2 ⟨g1, List.nodup_append.2 ⟨hFn, g3, fun b hb c hc e => ?_⟩, fun b hb c hc e => ?_⟩⟩
      · rcases List.mem_append.1 hh with h1 | h1
        · exact hbG (by simp [h1])
        · rcases List.mem_append.1 h1 with h1 | h1
          · exact hFold _ h1 (locs k).b (by rw [hft]; simp) hb2 rfl
          · exact hbG (by simp [h1])
      · exact hFold b hb c (by rw [hft, hG]; simp [hc]) (fun h2 => g5 c h2 c hc rfl) e
      · subst e
        rcases List.mem_append.1 hc with h1 | h1
        · exact hFold b h1 b (by rw [hft, hG]; simp [hb]) (fun h2 => g4 b hb b (by simp [h2]) rfl) rfl
        · exact g4 b hb b (by simp [h1]) rfl
    · rcases List.mem_cons.1 hb with rfl | hb
      · exact .inr ⟨by rw [hft]; simp, hb2⟩
      · rcases List.mem_append.1 hb with h1 | h1
        · exact .inr ⟨by rw [hft, hG]; simp [h1], fun h2 => g4 b h1 b (by simp [h2]) rfl⟩
        · rcases List.mem_append.1 h1 with h1 | h1
          · exact .inl h1
          · exact .inr ⟨by rw [hft, hG]; simp [h1], fun h2 => g5 b h2 b h1 rfl⟩
end

end Go.Proofs.YtglilpigoocgeaaGreatDoor.V
namespace Go.Proofs.YtglilpigoocgeaaGreatDoor.V
open Go
set_option linter.unusedVariables false
set_option linter.unusedSimpArgs false

/-- What is handed over: read ('R': the objects), written ('E': what becomes of them). -/
inductive ArgsV (t : List Slot) (h : Heap) : List Operand → List Arg → List Nat → List (Nat × VO) → Prop
  | nil : ArgsV t h [] [] [] []
  | ro {x : Operand} {y : TV} {ds : List Dat} {R R' : List Nat} {E : List (Nat × VO)} {xs : List Operand} {as : List Arg} (he : Ev t x y) (hr : RdL h y.cs ds R) (tl : ArgsV t h xs as R' E) :
      ArgsV t h (x :: xs) (.ro ⟨y.ag, ds⟩ :: as) (R ++ R') E
  | mu {x : Operand} {y : TV} {ds ds' : List Dat} {R' : List Nat} {E1 E : List (Nat × VO)} {xs : List Operand} {as : List Arg} (he : Ev t x y) (hm : MuC h y.cs ds ds' E1) (tl : ArgsV t h xs as R' E) :
      ArgsV t h (x :: xs) (.mu ⟨y.ag, ds⟩ ⟨y.ag, ds'⟩ :: as) R' (E1 ++ E)
  | el {x : Operand} {y : TV} {k n i j g ver : Nat} {es : List (List Dat)} {e ds ds' : List Dat} {R' : List Nat} {E : List (Nat × VO)} {xs : List Operand} {as : List Arg} (he : Ev t x y) (hy : y.cs = rcells k ver true i j ds)
      (hk : h k = .row n es true g ver) (hi : es[i]? = some e) (hds : (e.drop j).take ds.length = ds) (hl : ds'.length = ds.length) (hsh : ∀ (q : Nat) m us, ds[q]? = some (.sl m us) → ∃ m' us', ds'[q]? = some (.sl m' us'))
      (hno : ∀ d ∈ ds, simple d = true) (tl : ArgsV t h xs as R' E) : ArgsV t h (x :: xs) (.mu ⟨y.ag, ds⟩ ⟨y.ag, ds'⟩ :: as) R' ((k, .row n (es.set i (patch e j ds')) true g ver) :: E)

section
variable {w0 : World} {M0 : Nat → Prop} {A0 : Cx} {h : Heap} {w : World} {locs : Locs} {RO : Nat → Prop} {t : List Slot} {a : Act}

theorem EsOk.mine {w' : World} {E : List (Nat × VO)} {Ls : List Loc} {F M : List Nat} (hE : EsOk h w locs w' RO E Ls F M) : ∀ b ∈ M, ∃ k ∈ keys E, b ∈ (locs k).foot := by
  induction hE with
  | nil => simp
  | cons h1 t ih =>
    intro b hb
    rcases List.mem_append.1 hb with hb | hb
    · exact ⟨_, by simp [keys], h1.mine b hb⟩
    · obtain ⟨k, hk, hb⟩ := ih b hb
      exact ⟨k, by simp only [keys, List.map_cons, List.mem_cons]; exact .inr hk, hb⟩

theorem cells_of_trel {y : TV} {v : Value} (h1 : TRel locs h w RO y v) : ∃ vs, Cells y.ag v vs ∧ All2 (VRel locs h w RO) y.cs vs := trel_iff.1 h1

theorem cells_inj {ag : Bool} {v : Value} {us vs : List Value} (h1 : Cells ag v us) (h2 : Cells ag v vs) : us = vs := by
  cases ag with
  | true =>
    obtain ⟨arr, e, rfl⟩ := h1
    obtain ⟨brr, e2, rfl⟩ := h2
    rw [e] at e2
    injection e2 with e2; rw [e2]
  | false => simp only [Cells] at h1 h2; rw [h1, h2]

theorem ArgsV.sound (hg : Good w0 M0 A0 h w locs RO) (hm : Tmps locs h w RO t a) {xs : List Operand} {as : List Arg} {R : List Nat} {E : List (Nat × VO)} (ha : ArgsV t h xs as R E) : (keys E).Nodup →
    ∃ FA M, ArgsIn w as (xs.map a.eval) FA M ∧ (∀ b ∈ FA, RO b ∨ ∃ k ∈ R, b ∈ (locs k).foot) ∧ M.Nodup ∧ (∀ b ∈ M, ∃ k ∈ keys E, b ∈ (locs k).foot) ∧
      ∀ w' F, (∀ k ∈ keys E, ∀ b ∈ (locs k).foot, b ∉ M → w'.heap[b]? = w.heap[b]?) → (∀ b ∈ F, ∀ k ∈ keys E, b ∈ (locs k).foot → b ∈ M) → ArgsOut w w' as (xs.map a.eval) F → F.Nodup → ∃ Ls, EsOk h w locs w' RO E Ls F M := by
  induction ha with
  | nil => exact fun _ => ⟨[], [], .nil, by simp, List.nodup_nil, by simp, fun w' F _ _ ho _ => by cases ho; exact ⟨[], .nil⟩⟩
  | ro he hr tl ih =>
    intro hK
    obtain ⟨FA, M, q1, q2, q3, q4, q5⟩ := ih hK
    obtain ⟨e1, _⟩ := hm.ev he
    obtain ⟨vs, hc, hall⟩ := cells_of_trel e1
    obtain ⟨F, r1, r2⟩ := hr.sound hg hall
    refine ⟨F ++ FA, M, .ro ⟨vs, hc, r1⟩ q1, fun b hb => ?_, q3, q4, fun w' F' h1 h2 ho hn => ?_⟩
    · rcases List.mem_append.1 hb with hb | hb
      · rcases r2 b hb with h1 | ⟨k, h1, h3⟩
        · exact .inl h1
        · exact .inr ⟨k, by simp [h1], h3⟩
      · rcases q2 b hb with h1 | ⟨k, h1, h3⟩
        · exact .inl h1
        · exact .inr ⟨k, by simp [h1], h3⟩
    · cases ho with
      | ro t => exact q5 w' F' h1 h2 t hn
  | mu he hmu tl ih =>
    rename_i x y ds ds' R' E1 E xs as
    intro hK
    have hK' : (keys E1 ++ keys E).Nodup := by simpa [keys] using hK
    obtain ⟨k1, k2, k3⟩ := List.nodup_append.1 hK'
    obtain ⟨FA, M, q1, q2, q3, q4, q5⟩ := ih k2
    obtain ⟨e1, _⟩ := hm.ev he
    obtain ⟨vs, hc, hall⟩ := cells_of_trel e1
    obtain ⟨M1, r1, r2, r3, r4⟩ := hmu.sound hg hall k1
    have hdis : ∀ b ∈ M1, b ∉ M := fun b hb hbm => by
      obtain ⟨k, hk, hb1⟩ := r3 b hb
      obtain ⟨l, hl, hb2⟩ := q4 b hbm
      exact hg.disj k l (k3 k hk l hl) b hb1 hb2
    refine ⟨FA, M1 ++ M, .mu ⟨vs, hc, r1⟩ q1, q2, List.nodup_append.2 ⟨r2, q3, fun b hb c hcc e => hdis b hb (e ▸ hcc)⟩, fun b hb => ?_, fun w' F' h1 h2 ho hn => ?_⟩
    · rcases List.mem_append.1 hb with hb | hb
      · obtain ⟨k, hk, hb1⟩ := r3 b hb; exact ⟨k, by simp only [keys, List.map_append, List.mem_append]; exact .inl hk, hb1⟩
      · obtain ⟨k, hk, hb1⟩ := q4 b hb; exact ⟨k, by simp only [keys, List.map_append, List.mem_append]; exact .inr hk, hb1⟩
    · generalize hv : a.eval x = v at ho
      simp only [List.map_cons] at ho
      rw [hv] at ho hc
      cases ho with
      | mu hag hc2 hr2 hz t =>
        rename_i us F1 F2
        have := cells_inj hc2 hc
        subst this
        obtain ⟨n1, n2, n3⟩ := List.nodup_append.1 hn
        -- each part's blocks are its own
        obtain ⟨Ls1, s1⟩ := r4 w' F1 hr2 n1 hz
        have hF2 : ∀ b ∈ F2, ∀ k ∈ keys E, b ∈ (locs k).foot → b ∈ M := fun b hb k hk hbk => by
          rcases List.mem_append.1 (h2 b (by simp [hb]) k (by simp only [keys, List.map_append, List.mem_append]; exact .inr hk) hbk) with h3 | h3
          · obtain ⟨k', hk', hb'⟩ := r3 b h3
            exact absurd hbk (hg.disj k' k (k3 k' hk' k hk) b hb')
          · exact h3
        obtain ⟨Ls, s2⟩ := q5 w' F2 (fun k hk b hb hbm => h1 k (by simp only [keys, List.map_append, List.mem_append]; exact .inr hk) b hb fun h3 => by
          rcases List.mem_append.1 h3 with h3 | h3
          · obtain ⟨k', hk', hb'⟩ := r3 b h3
            exact hg.disj k' k (k3 k' hk' k hk) b hb' hb
          · exact hbm h3) hF2 t n2
        exact ⟨Ls1 ++ Ls, s1.append s2⟩
  | el he hy hk hi hds hl hsh hno tl ih =>
    rename_i x y k n i j g ver es e ds ds' R' E xs as
    intro hK
    simp only [keys, List.map_cons, List.nodup_cons] at hK
    obtain ⟨FA, M, q1, q2, q3, q4, q5⟩ := ih hK.2
    obtain ⟨e1, _⟩ := hm.ev he
    obtain ⟨vs, hc, hall⟩ := cells_of_trel e1
    rw [hy] at hall
    obtain ⟨M1, r1, r2, r3, r4⟩ := el_sound hg hk hi hds hl hsh hall hno
    have hdis : ∀ b ∈ M1, b ∉ M := fun b hb hbm => by
      obtain ⟨l, hl, hb2⟩ := q4 b hbm
      exact hg.disj k l (fun e => hK.1 (e ▸ hl)) b (r3 b hb) hb2
    refine ⟨FA, M1 ++ M, .mu ⟨vs, hc, r1⟩ q1, q2, List.nodup_append.2 ⟨r2, q3, fun b hb c hcc e => hdis b hb (e ▸ hcc)⟩, fun b hb => ?_, fun w' F' h1 h2 ho hn => ?_⟩
    · rcases List.mem_append.1 hb with hb | hb
      · exact ⟨k, by simp [keys], r3 b hb⟩
      · obtain ⟨k', hk', hb1⟩ := q4 b hb; exact ⟨k', by simp only [keys, List.map_cons, List.mem_cons]; exact .inr hk', hb1⟩
    · generalize hv : a.eval x = v at ho
      simp only [List.map_cons] at ho
      rw [hv] at ho hc
      cases ho with
      | mu hag hc2 hr2 hz t =>
        rename_i us F1 F2
        have := cells_inj hc2 hc
        subst this
        obtain ⟨n1, n2, n3⟩ := List.nodup_append.1 hn
        obtain ⟨L1, s1⟩ := r4 w' F1 (fun b hb hbm => h1 k (by simp [keys]) b hb fun h3 => by
          rcases List.mem_append.1 h3 with h3 | h3
          · exact hbm h3
          · obtain ⟨l, hl, hb2⟩ := q4 b h3
            exact hg.disj k l (fun e => hK.1 (e ▸ hl)) b hb hb2) (fun b hb hbk => by
          rcases List.mem_append.1 (h2 b (by simp [hb]) k (by simp [keys]) hbk) with h3 | h3
          · exact h3
          · obtain ⟨l, hl, hb2⟩ := q4 b h3
            exact absurd hb2 (hg.disj k l (fun e => hK.1 (e ▸ hl)) b hbk)) hr2 n1
        have hF2 : ∀ b ∈ F2, ∀ k ∈ keys E, b ∈ (locs k).foot → b ∈ M := fun b hb l hl hbk => by
          rcases List.mem_append.1 (h2 b (by simp [hb]) l (by simp only [keys, List.map_cons, List.mem_cons]; exact .inr hl) hbk) with h3 | h3
          · exact absurd hbk (hg.disj k l (fun e => hK.1 (e ▸ hl)) b (r3 b h3))
          · exact h3
        obtain ⟨Ls, s2⟩ := q5 w' F2 (fun l hl b hb hbm => h1 l (by simp only [keys, List.map_cons, List.mem_cons]; exact .inr hl) b hb fun h3 => by
          rcases List.mem_append.1 h3 with h3 | h3
          · exact hg.disj k l (fun e => hK.1 (e ▸ hl)) b (r3 b h3) hb
          · exact hbm h3) hF2 t n2
        exact ⟨_, .cons s1 s2⟩
end

end Go.Proofs.YtglilpigoocgeaaGreatDoor.V
namespace Go.Proofs.YtglilpigoocgeaaGreatDoor.V
open Go
set_option linter.unusedVariables false
set_option linter.unusedSimpArgs false

def newsAt : Nat → List VO → List (Nat × VO)
  | _, [] => []
  | k, o :: l => (k, o) :: newsAt (k + 1) l
def injRs : Nat → List DV → List TV
  | _, [] => []
  | k, x :: l => ⟨x.ag, injC 1 k x.cs⟩ :: injRs (k + (objs 1 x.cs).length) l
def objsR : List DV → List VO
  | [] => []
  | x :: l => objs 1 x.cs ++ objsR l
def resSlot (k : Nat) : List DV → Slot
  | [x] => .t ⟨x.ag, injC 1 k x.cs⟩
  | xs => .tu (injRs k xs)
def simpleR (l : List DV) : Bool := l.all fun x => x.cs.all simple

inductive InR (w : World) (RO : Nat → Prop) : List DV → List Value → List Loc → Prop
  | nil : InR w RO [] [] []
  | cons {x : DV} {v : Value} {us : List Value} {xs : List DV} {vs : List Value} {L1 Ls : List Loc} (hc : Cells x.ag v us) (h : InC w RO 1 x.cs us L1) (t : InR w RO xs vs Ls) : InR w RO (x :: xs) (v :: vs) (L1 ++ Ls)

theorem inR_of {w : World} {RO : Nat → Prop} {res : List DV} {rs : List Value} {F : List Nat} (hd : DVs w res rs F) (hs : simpleR res = true) : ∃ Ls, InR w RO res rs Ls ∧ Ls.flatMap (·.foot) = F := by
  induction hd with
  | nil => exact ⟨[], .nil, rfl⟩
  | cons h t ih =>
    simp only [simpleR, List.all_cons, Bool.and_eq_true] at hs
    obtain ⟨Ls, h1, h2⟩ := ih hs.2
    obtain ⟨us, hc, hr⟩ := h
    obtain ⟨L1, h3, h4⟩ := inC_of hr hs.1
    exact ⟨L1 ++ Ls, .cons hc h3 h1, by simp [h2, h4]⟩

theorem InR.objs {w : World} {RO : Nat → Prop} {xs : List DV} {vs : List Value} {Ls : List Loc} (h : InR w RO xs vs Ls) : Ls.length = (objsR xs).length ∧ ∀ (i : Nat) (o : VO), (objsR xs)[i]? = some o → ∃ L, Ls[i]? = some L ∧ ObjOk w RO o L := by
  induction h with
  | nil => exact ⟨rfl, fun i o ho => by simp [objsR] at ho⟩
  | cons hc h t ih =>
    refine ⟨by simp [objsR, h.len, ih.1], fun i o ho => ?_⟩
    simp only [objsR, List.getElem?_append] at ho ⊢
    rw [h.len]
    split at ho
    · rename_i hlt; rw [if_pos hlt]; exact h.objs i o ho
    · rename_i hlt; rw [if_neg hlt]; exact ih.2 _ o ho

theorem InR.trel {w : World} {RO : Nat → Prop} {xs : List DV} {vs : List Value} {Ls : List Loc} (hi : InR w RO xs vs Ls) : ∀ (k : Nat) (locs : Locs) (h : Heap), (∀ i L, Ls[i]? = some L → locs (k + i) = L) →
    (∀ i o, (objsR xs)[i]? = some o → h (k + i) = o) → All2 (TRel locs h w RO) (injRs k xs) vs := by
  have shift : ∀ {α : Type} {L1 Ls : List α} {k : Nat} {g : Nat → α}, (∀ i L, (L1 ++ Ls)[i]? = some L → g (k + i) = L) → ∀ i L, Ls[i]? = some L → g (k + L1.length + i) = L := by
    intro α L1 Ls k g h i L hL
    have := h (L1.length + i) L (by rw [List.getElem?_append_right (by omega)]; simpa using hL)
    rwa [← Nat.add_assoc] at this
  have first : ∀ {α : Type} {L1 Ls : List α} {i : Nat} {L : α}, L1[i]? = some L → (L1 ++ Ls)[i]? = some L := by
    intro α L1 Ls i L h
    rw [List.getElem?_append_left (List.getElem?_eq_some_iff.1 h).1]; exact h
  induction hi with
  | nil => intro k locs h _ _; exact .nil
  | cons hc hin t ih =>
    intro k locs h h1 h2
    refine .cons (trel_iff.2 ⟨_, hc, hin.vrel k locs h (fun i L hL => h1 i L (first hL)) fun i o ho => h2 i o (first ho)⟩) (ih _ locs h ?_ (shift h2))
    rw [← hin.len]; exact shift h1

theorem injRs_refs : ∀ {xs : List DV} {k : Nat}, ∀ x ∈ injRs k xs, ∀ o ∈ x.refs, k ≤ o ∧ o < k + (objsR xs).length
  | [], k, x, hx => by simp [injRs] at hx
  | y :: xs, k, x, hx => by
    intro o ho
    simp only [injRs, List.mem_cons] at hx
    simp only [objsR, List.length_append]
    rcases hx with rfl | hx
    · simp only [TV.refs, List.mem_flatMap] at ho
      obtain ⟨c, hc, ho⟩ := ho
      have := injC_refs c hc o ho; omega
    · have := injRs_refs x hx o ho; omega

theorem objsR_row : ∀ {xs : List DV} {o : VO}, o ∈ objsR xs → ∃ n es, o = .row n es true 1 0
  | x :: xs, o, ho => by
    simp only [objsR, List.mem_append] at ho
    rcases ho with ho | ho
    · exact objs_row ho
    · exact objsR_row ho

theorem resSlot_rel {locs : Locs} {h : Heap} {w : World} {RO : Nat → Prop} {k : Nat} {res : List DV} {rs : List Value} {v : Value} (hv : IsRes v rs) (ha : All2 (TRel locs h w RO) (injRs k res) rs) : SRel locs h w RO (resSlot k res) v := by
  match res, rs, hv, ha with
  | [], [], hv, _ => exact ⟨#[], hv, .nil⟩
  | [x], [u], hv, .cons h1 .nil =>
    simp only [IsRes] at hv
    subst hv
    exact h1
  | x :: y :: res, u :: v' :: rs, hv, ha => exact ⟨_, hv, ha⟩

theorem resSlot_refs {k : Nat} {res : List DV} : ∀ o ∈ (resSlot k res).refs, k ≤ o ∧ o < k + (objsR res).length := by
  intro o ho
  match res with
  | [] => simp [resSlot, injRs, Slot.refs] at ho
  | [x] =>
    have : o ∈ (⟨x.ag, injC 1 k x.cs⟩ : TV).refs := ho
    exact injRs_refs (xs := [x]) ⟨x.ag, injC 1 k x.cs⟩ (by simp [injRs]) o this
  | x :: y :: res =>
    simp only [resSlot, Slot.refs, List.mem_flatMap] at ho
    obtain ⟨t, ht, ho⟩ := ho
    exact injRs_refs t ht o ho

/-! ### lists of turned objects -/
def updLs (locs : Locs) : List (Nat × VO) → List Loc → Locs
  | (k, _) :: E, L :: Ls => updLs (updL locs k L) E Ls
  | _, _ => locs

inductive Zs (Pk : Nat → VO → Loc → List Nat → Prop) : List (Nat × VO) → List Loc → List Nat → Prop
  | nil : Zs Pk [] [] []
  | cons {k : Nat} {o : VO} {L : Loc} {Fk F : List Nat} {E : List (Nat × VO)} {Ls : List Loc} (h1 : Pk k o L Fk) (t : Zs Pk E Ls F) : Zs Pk ((k, o) :: E) (L :: Ls) (Fk ++ F)

section
variable {Pk : Nat → VO → Loc → List Nat → Prop} {E E' : List (Nat × VO)} {Ls Ls' : List Loc} {F F' : List Nat}
theorem Zs.append (h1 : Zs Pk E Ls F) (h2 : Zs Pk E' Ls' F') : Zs Pk (E ++ E') (Ls ++ Ls') (F ++ F') := by
  induction h1 with
  | nil => exact h2
  | cons hh t ih => simp only [List.cons_append, List.append_assoc]; exact .cons hh ih
theorem updAll_not {h : Heap} {k : Nat} (hk : k ∉ keys E) : updAll h E k = h k := by
  induction E generalizing h with
  | nil => rfl
  | cons x E ih =>
    obtain ⟨j, o⟩ := x
    simp only [keys, List.map_cons, List.mem_cons, not_or] at hk
    simp only [updAll]
    rw [ih hk.2, upd_ne hk.1]
theorem updLs_not {locs : Locs} {k : Nat} (hk : k ∉ keys E) : updLs locs E Ls k = locs k := by
  induction E generalizing locs Ls with
  | nil => cases Ls <;> rfl
  | cons x E ih =>
    obtain ⟨j, o⟩ := x
    simp only [keys, List.map_cons, List.mem_cons, not_or] at hk
    cases Ls with
    | nil => rfl
    | cons L Ls => simp only [updLs]; rw [ih hk.2, updL_ne hk.1]
theorem Zs.get (hz : Zs Pk E Ls F) (hn : (keys E).Nodup) (h : Heap) (locs : Locs) {k : Nat} (hk : k ∈ keys E) : ∃ o L Fk, updAll h E k = o ∧ updLs locs E Ls k = L ∧ Pk k o L Fk ∧ ∀ b ∈ Fk, b ∈ F := by
  induction hz generalizing h locs with
  | nil => simp [keys] at hk
  | cons h1 t ih =>
    rename_i j o L Fk F E Ls
    simp only [keys, List.map_cons, List.nodup_cons] at hn
    simp only [keys, List.map_cons, List.mem_cons] at hk
    by_cases e : k = j
    · subst e
      refine ⟨o, L, Fk, ?_, ?_, h1, fun b hb => by simp [hb]⟩
      · simp only [updAll]; rw [updAll_not hn.1, upd_same]
      · simp only [updLs]; rw [updLs_not hn.1, updL_same]
    · obtain ⟨o', L', Fk', q1, q2, q3, q4⟩ := ih hn.2 (upd h j o) (updL locs j L) (hk.resolve_left e)
      exact ⟨o', L', Fk', q1, q2, q3, fun b hb => by simp [q4 b hb]⟩
theorem Zs.two (hz : Zs Pk E Ls F) (hn : (keys E).Nodup) (hF : F.Nodup) (h : Heap) (locs : Locs) {k l : Nat} (hk : k ∈ keys E) (hl : l ∈ keys E) (hkl : k ≠ l) : ∃ o L Fk o' L' Fl, updAll h E k = o ∧ updLs locs E Ls k = L ∧ Pk k o L Fk ∧ (∀ b ∈ Fk, b ∈ F) ∧
    updAll h E l = o' ∧ updLs locs E Ls l = L' ∧ Pk l o' L' Fl ∧ (∀ b ∈ Fl, b ∈ F) ∧ ∀ b ∈ Fk, b ∉ Fl := by
  induction hz generalizing h locs with
  | nil => simp [keys] at hk
  | cons h1 t ih =>
    rename_i j o L Fk F E Ls
    obtain ⟨f1, f2, f3⟩ := List.nodup_append.1 hF
    have hn' := hn
    simp only [keys, List.map_cons, List.nodup_cons] at hn
    have hk' := hk
    have hl' := hl
    simp only [keys, List.map_cons, List.mem_cons] at hk hl
    by_cases e : k = j
    · subst e
      have hl2 := hl.resolve_left (fun e => hkl e.symm)
      obtain ⟨o', L', Fl, q1, q2, q3, q4⟩ := t.get hn.2 (upd h k o) (updL locs k L) hl2
      refine ⟨o, L, Fk, o', L', Fl, ?_, ?_, h1, fun b hb => by simp [hb], q1, q2, q3, fun b hb => by simp [q4 b hb], fun b hb hb2 => f3 b hb b (q4 b hb2) rfl⟩
      · simp only [updAll]; rw [updAll_not hn.1, upd_same]
      · simp only [updLs]; rw [updLs_not hn.1, updL_same]
    · by_cases e' : l = j
      · subst e'
        have hk2 := hk.resolve_left e
        obtain ⟨o', L', Fl, q1, q2, q3, q4⟩ := t.get hn.2 (upd h l o) (updL locs l L) hk2
        refine ⟨o', L', Fl, o, L, Fk, q1, q2, q3, fun b hb => by simp [q4 b hb], ?_, ?_, h1, fun b hb => by simp [hb], fun b hb hb2 => f3 b hb2 b (q4 b hb) rfl⟩
        · simp only [updAll]; rw [updAll_not hn.1, upd_same]
        · simp only [updLs]; rw [updLs_not hn.1, updL_same]
      · obtain ⟨o1, L1, F1, o2, L2, F2, q1, q2, q3, q4, q5, q6, q7, q8, q9⟩ := ih hn.2 f2 (upd h j o) (updL locs j L) (hk.resolve_left e) (hl.resolve_left e')
        exact ⟨o1, L1, F1, o2, L2, F2, q1, q2, q3, fun b hb => by simp [q4 b hb], q5, q6, q7, fun b hb => by simp [q8 b hb], q9⟩
end

theorem newsAt_keys : ∀ {os : List VO} {k j : Nat}, j ∈ keys (newsAt k os) ↔ k ≤ j ∧ j < k + os.length
  | [], k, j => by simp [newsAt, keys]
  | o :: os, k, j => by
    have := newsAt_keys (os := os) (k := k + 1) (j := j)
    simp only [keys] at this
    simp only [newsAt, keys, List.map_cons, List.mem_cons, this, List.length_cons]; omega
theorem newsAt_nodup : ∀ {os : List VO} {k : Nat}, (keys (newsAt k os)).Nodup
  | [], k => by simp [newsAt, keys]
  | o :: os, k => by
    have h2 := newsAt_nodup (os := os) (k := k + 1)
    simp only [newsAt, keys, List.map_cons, List.nodup_cons]
    refine ⟨fun h => ?_, h2⟩
    have := (newsAt_keys (os := os) (k := k + 1) (j := k)).1 h
    omega
theorem zs_news {Pk : Nat → VO → Loc → List Nat → Prop} : ∀ {os : List VO} {Ls : List Loc} {k : Nat}, Ls.length = os.length → (∀ i o L, os[i]? = some o → Ls[i]? = some L → Pk (k + i) o L L.foot) → Zs Pk (newsAt k os) Ls (Ls.flatMap (·.foot))
  | [], [], k, _, _ => .nil
  | [], L :: Ls, k, hl, _ => by simp at hl
  | o :: os, [], k, hl, _ => by simp at hl
  | o :: os, L :: Ls, k, hl, h => .cons (h 0 o L rfl rfl) (zs_news (by simpa using hl) fun i o' L' h1 h2 => by
      have := h (i + 1) o' L' (by simpa using h1) (by simpa using h2)
      rwa [Nat.add_assoc, Nat.add_comm 1])
theorem news_get : ∀ {os : List VO} {k : Nat} (h : Heap) (i : Nat) (o : VO), os[i]? = some o → updAll h (newsAt k os) (k + i) = o
  | [], k, h, i, o, ho => by simp at ho
  | x :: os, k, h, 0, o, ho => by
    simp at ho; subst ho
    simp only [newsAt, updAll]
    rw [updAll_not, Nat.add_zero, upd_same]
    rw [newsAt_keys]; omega
  | x :: os, k, h, i + 1, o, ho => by
    simp only [newsAt, updAll]
    have := news_get (os := os) (k := k + 1) (upd h k x) i o (by simpa using ho)
    rwa [Nat.add_assoc, Nat.add_comm 1] at this
theorem newsL_get : ∀ {os : List VO} {Ls : List Loc} {k : Nat} (l : Locs) (i : Nat) (L : Loc), Ls.length = os.length → Ls[i]? = some L → updLs l (newsAt k os) Ls (k + i) = L
  | [], [], k, l, i, L, hl, ho => by simp at ho
  | [], x :: Ls, k, l, i, L, hl, ho => by simp at hl
  | x :: os, [], k, l, i, L, hl, ho => by simp at hl
  | x :: os, y :: Ls, k, l, 0, L, hl, ho => by
    simp at ho; subst ho
    simp only [newsAt, updLs]
    rw [updLs_not, Nat.add_zero, updL_same]
    rw [newsAt_keys]; omega
  | x :: os, y :: Ls, k, l, i + 1, L, hl, ho => by
    simp only [newsAt, updLs]
    have := newsL_get (os := os) (Ls := Ls) (k := k + 1) (updL l k y) i L (by simpa using hl) (by simpa using ho)
    rwa [Nat.add_assoc, Nat.add_comm 1] at this
theorem updAll_append {h : Heap} : ∀ {E E' : List (Nat × VO)}, updAll h (E ++ E') = updAll (updAll h E) E'
  | [], E' => rfl
  | (k, o) :: E, E' => by simp only [List.cons_append, updAll]; exact updAll_append
theorem updLs_append {locs : Locs} : ∀ {E E' : List (Nat × VO)} {Ls Ls' : List Loc}, Ls.length = E.length → updLs locs (E ++ E') (Ls ++ Ls') = updLs (updLs locs E Ls) E' Ls'
  | [], E', [], Ls', _ => by cases E' <;> cases Ls' <;> rfl
  | [], E', L :: Ls, Ls', hl => by simp at hl
  | (k, o) :: E, E', [], Ls', hl => by simp at hl
  | (k, o) :: E, E', L :: Ls, Ls', hl => by simp only [List.cons_append, updLs]; exact updLs_append (by simpa using hl)

end Go.Proofs.YtglilpigoocgeaaGreatDoor.V
namespace Go.Proofs.YtglilpigoocgeaaGreatDoor.V
open Go
set_option linter.unusedVariables false
set_option linter.unusedSimpArgs false

structure TOk (h : Heap) (w : World) (locs : Locs) (w' : World) (RO : Nat → Prop) (M : List Nat) (k : Nat) (o : VO) (L : Loc) (Fk : List Nat) : Prop where
  obj : ObjOk w' RO o L
  row : ∃ n es dp g ver, o = .row n es dp g ver ∧ (h k = .gone → g ≠ 0)
  nodup : L.foot.Nodup
  foot : ∀ b ∈ L.foot, b ∈ Fk ∨ (b ∈ (locs k).foot ∧ b ∉ M)
  step : ∀ (h' : Heap) (locs' : Locs), h' k = o → locs' k = L → OStep locs h w locs' h' w' k

section
variable {w0 : World} {M0 : Nat → Prop} {A0 : Cx} {h : Heap} {w : World} {locs : Locs} {RO : Nat → Prop}

theorem es_zs (hg : Good w0 M0 A0 h w locs RO) {w' : World} {E : List (Nat × VO)} {Ls : List Loc} {F M : List Nat} (hE : EsOk h w locs w' RO E Ls F M) : ∀ (Mt : List Nat), (keys E).Nodup → (∀ b ∈ Mt, b ∈ M ∨ ∀ k ∈ keys E, b ∉ (locs k).foot) →
    Zs (TOk h w locs w' RO Mt) E Ls F := by
  induction hE with
  | nil => intro Mt _ _; exact .nil
  | cons h1 t ih =>
    rename_i k o L Fk Mk F M E Ls
    intro Mt hn hM
    simp only [keys, List.map_cons, List.nodup_cons] at hn
    refine .cons ⟨h1.obj, ?_, h1.nodup, fun b hb => ?_, fun h' locs' e1 e2 => ?_⟩ (ih Mt hn.2 fun b hb => ?_)
    · obtain ⟨n, es, g, ver, es', ver', e1, e2, _⟩ := h1.row
      exact ⟨n, es', true, g, ver', e2, fun hh => by rw [e1] at hh; cases hh⟩
    · rcases h1.foot b hb with h2 | ⟨h2, h3⟩
      · exact .inl h2
      · refine .inr ⟨h2, fun hm => ?_⟩
        rcases hM b hm with h4 | h4
        · rcases List.mem_append.1 h4 with h4 | h4
          · exact h3 h4
          · obtain ⟨l, hl, hb2⟩ := t.mine b h4
            exact hg.disj k l (fun e => hn.1 (e ▸ hl)) b h2 hb2
        · exact h4 k (by simp [keys]) h2
    · obtain ⟨n, es, g, ver, es', ver', e3, e4, e5, e6⟩ := h1.row
      unfold OStep
      rw [e3]
      refine ⟨es', true, g, ver', by rw [e1, e4], Nat.le_refl _, e5, fun _ => by rw [e2]; exact h1.same, fun _ hv => ⟨rfl, fun i j e m us v k1 k2 k3 => ?_⟩⟩
      rw [e2]
      exact e6 hv i j e m us v k1 k2 k3
    · rcases hM b hb with h4 | h4
      · rcases List.mem_append.1 h4 with h4 | h4
        · refine .inr fun l hl hb2 => ?_
          exact hg.disj k l (fun e => hn.1 (e ▸ hl)) b (h1.mine b h4) hb2
        · exact .inl h4
      · exact .inr fun l hl => h4 l (by simp only [keys, List.map_cons, List.mem_cons]; exact .inr hl)

theorem EsOk.lens {w' : World} {E : List (Nat × VO)} {Ls : List Loc} {F M : List Nat} (hE : EsOk h w locs w' RO E Ls F M) : Ls.length = E.length := by
  induction hE <;> simp_all

/-- Many objects are turned at once, and new ones made. -/
theorem touch_zs (hg : Good w0 M0 A0 h w locs RO) {w' : World} {M : List Nat} {E : List (Nat × VO)} {Ls : List Loc} {F : List Nat} (hkept : Kept (· ∈ M) w w') (hM : ∀ b ∈ M, ∃ k ∈ keys E, b ∈ (locs k).foot)
    (hz : Zs (TOk h w locs w' RO M) E Ls F) (hn : (keys E).Nodup) (hF : F.Nodup) (hFM : ∀ b ∈ F, b ∈ M ∨ w.heap.size ≤ b) :
    Touch h w locs (updAll h E) w' (updLs locs E Ls) RO (· ∈ keys E) (· ∈ M) (fun _ => False) where
  kept := hkept
  only b hb := hM b hb
  same k hk := ⟨updAll_not hk, updLs_not hk⟩
  obj k hk := by
    obtain ⟨o, L, Fk, e1, e2, ht, _⟩ := hz.get hn h locs hk
    rw [e1, e2]; exact ht.obj
  cells k hk cs hc := by
    obtain ⟨o, L, Fk, e1, e2, ht, _⟩ := hz.get hn h locs hk
    obtain ⟨n, es, dp, g, ver, e3, _⟩ := ht.row
    rw [e1, e3] at hc; cases hc
  live k hk cs hc := by
    obtain ⟨o, L, Fk, e1, e2, ht, _⟩ := hz.get hn h locs hk
    obtain ⟨n, es, dp, g, ver, e3, _⟩ := ht.row
    rw [e1, e3] at hc; cases hc
  nodup k hk := by
    obtain ⟨o, L, Fk, e1, e2, ht, _⟩ := hz.get hn h locs hk
    rw [e2]; exact ht.nodup
  foot k hk b hb := by
    obtain ⟨o, L, Fk, e1, e2, ht, hs⟩ := hz.get hn h locs hk
    rw [e2] at hb
    rcases ht.foot b hb with h1 | ⟨h1, _⟩
    · rcases hFM b (hs b h1) with h2 | h2
      · exact .inr (hM b h2)
      · exact .inl h2
    · exact .inr ⟨k, hk, h1⟩
  disj k l hk hl hkl b hb hb2 := by
    obtain ⟨o, L, Fk, o', L', Fl, e1, e2, ht, hs, e3, e4, ht', hs', hd⟩ := hz.two hn hF h locs hk hl hkl
    rw [e2] at hb
    rw [e4] at hb2
    have key : ∀ {k : Nat} {Fl : List Nat}, b ∈ (locs k).foot → b ∉ M → (∀ b ∈ Fl, b ∈ F) → b ∈ Fl → False := by
      intro k Fl h1 h2 h3 h4
      rcases hFM b (h3 b h4) with h5 | h5
      · exact h2 h5
      · have := hg.lt h1; omega
    rcases ht.foot b hb with h1 | ⟨h1, h2⟩
    · rcases ht'.foot b hb2 with h3 | ⟨h3, h4⟩
      · exact hd b h1 h3
      · exact key h3 h4 hs h1
    · rcases ht'.foot b hb2 with h3 | ⟨h3, h4⟩
      · exact key h1 h2 hs' h3
      · exact hg.disj k l hkl b h1 h3
  step k hk _ := by
    obtain ⟨o, L, Fk, e1, e2, ht, _⟩ := hz.get hn h locs hk
    exact ht.step _ _ e1 e2
  sub o ho := ho.elim
  fresh k hk hgo n es dp ver := by
    obtain ⟨o, L, Fk, e1, e2, ht, _⟩ := hz.get hn h locs hk
    obtain ⟨n', es', dp', g, ver', e3, e4⟩ := ht.row
    rw [e1, e3]
    intro e
    injection e with _ _ _ e _
    exact e4 hgo e
  killed o ho := ho.elim
  clean _ _ _ _ _ _ _ := not_false
end

section
variable {P : Program} {o : Oper} {t : List Slot} {h : Heap}

/-- What is asked of an operation that enters a function with values that show the arguments. -/
def Enters (P : Program) (o : Oper) (t : List Slot) (h : Heap) (f : FuncId) (as : List Arg) (R : List Nat) (E : List (Nat × VO)) : Prop :=
  ∀ (w0 : World) (M0 : Nat → Prop) (A0 : Cx) (locs : Locs) (RO : Nat → Prop) (a : Act) (w : World), Good w0 M0 A0 h w locs RO → Tmps locs h w RO t a →
    ∃ vs FA M, (execOp a.eval o).run P w = .ok (.enter f vs.toArray) w ∧ ArgsIn w as vs FA M ∧ (∀ b ∈ FA, RO b ∨ ∃ k ∈ R, b ∈ (locs k).foot) ∧ M.Nodup ∧ (∀ b ∈ M, ∃ k ∈ keys E, b ∈ (locs k).foot) ∧
      ∀ w' F, (∀ k ∈ keys E, ∀ b ∈ (locs k).foot, b ∉ M → w'.heap[b]? = w.heap[b]?) → (∀ b ∈ F, ∀ k ∈ keys E, b ∈ (locs k).foot → b ∈ M) → ArgsOut w w' as vs F → F.Nodup → ∃ Ls, EsOk h w locs w' RO E Ls F M
theorem does_enterG {f : FuncId} {as : List Arg} {res : List DV} {R : List Nat} {E : List (Nat × VO)} {k : Nat} (htr : Tr P f as res) (hs : Enters P o t h f as R E) (hk : (keys E).Nodup)
    (hR : ∀ r ∈ R, r ∉ keys E) (hres : simpleR res = true) (hfree : ∀ i, i < (objsR res).length → h (k + i) = .gone) :
    Does P o ⟨t, h⟩ ⟨putT t o.dst (resSlot k res), updAll h (E ++ newsAt k (objsR res))⟩ := by
  intro w0 M0 A0 a w K Q ⟨locs, RO, hg, hm⟩ hK
  obtain ⟨vs, FA, M, hop, q1, q2, q3, q4, q5⟩ := hs w0 M0 A0 locs RO a w hg hm
  have hdis : ∀ b ∈ M, b ∉ FA := fun b hb hbf => by
    obtain ⟨j, hj, hbj⟩ := q4 b hb
    rcases q2 b hbf with h1 | ⟨r, hr, h1⟩
    · exact hg.noro j b hbj h1
    · exact hg.disj j r (fun e => hR r hr (e ▸ hj)) b hbj h1
  simp only [Oper.wp, hop, Oper.upon]
  refine Calls.mono (htr.tr w _ FA M q1 q3 hdis) fun e w' ⟨v, rs, FR, FO, e1, e2, e3, e4, e5, e6, e7⟩ => ?_
  subst e1
  obtain ⟨n1, n2, n3⟩ := List.nodup_append.1 e5
  obtain ⟨LsE, hE⟩ := q5 w' FO (fun j hj b hb hbm => e7.blk b (hg.lt hb) hbm) (fun b hb j hj hbj => (e6 b (by simp [hb])).resolve_right (by have := hg.lt hbj; omega)) e4 n2
  obtain ⟨LsR, hin, hfl⟩ := inR_of (RO := RO) e3 hres
  obtain ⟨hlen, hobjs⟩ := hin.objs
  obtain ⟨fn1, fn2⟩ := flat_nodup (hfl ▸ n1)
  have hkk : ∀ j, j ∈ keys E → j ∉ keys (newsAt k (objsR res)) := by
    intro j hj hj2
    obtain ⟨h1, h2⟩ := newsAt_keys.1 hj2
    have h3 := hfree (j - k) (by omega)
    rw [Nat.add_sub_cancel' h1] at h3
    have key : ∀ {E : List (Nat × VO)} {Ls : List Loc} {F M : List Nat}, EsOk h w locs w' RO E Ls F M → j ∈ keys E → h j ≠ .gone := by
      intro E Ls F M hE
      induction hE with
      | nil => intro hh; simp [keys] at hh
      | cons h1 t ih =>
        intro hh
        simp only [keys, List.map_cons, List.mem_cons] at hh
        rcases hh with rfl | hh
        · obtain ⟨n, es, g, ver, es', ver', e1, _⟩ := h1.row
          rw [e1]; simp
        · exact ih hh
    exact key hE hj h3
  have hnk : (keys (E ++ newsAt k (objsR res))).Nodup := by
    simp only [keys, List.map_append]
    exact List.nodup_append.2 ⟨hk, newsAt_nodup, fun j hj l hl e => hkk j hj (e ▸ hl)⟩
  have hz : Zs (TOk h w locs w' RO M) (E ++ newsAt k (objsR res)) (LsE ++ LsR) (FO ++ FR) := by
    refine (es_zs hg hE M hk fun b hb => .inl hb).append ?_
    rw [← hfl]
    refine zs_news hlen fun i o' L h1 h2 => ?_
    obtain ⟨L', h3, h4⟩ := hobjs i o' h1
    rw [h2] at h3
    injection h3 with h3
    subst h3
    obtain ⟨n, es, e⟩ := objsR_row (List.mem_of_getElem? h1)
    have hgo := hfree i (List.getElem?_eq_some_iff.1 h1).1
    refine ⟨h4, ⟨n, es, true, 1, 0, e, fun _ => by simp⟩, fn1 i L h2, fun b hb => .inl hb, fun h' locs' _ _ => ?_⟩
    unfold OStep
    show (match h (k + i) with | .gone => True | .var _ => _ | .row .. => _)
    rw [hgo]; trivial
  have hnF : (FO ++ FR).Nodup := List.nodup_append.2 ⟨n2, n1, fun b hb c hc e => n3 c hc b hb e.symm⟩
  have ht := touch_zs hg e7 (fun b hb => by
    obtain ⟨j, hj, hbj⟩ := q4 b hb
    exact ⟨j, by simp only [keys, List.map_append, List.mem_append]; exact .inl hj, hbj⟩) hz hnk hnF (fun b hb => e6 b (by
      rcases List.mem_append.1 hb with hb | hb
      · simp [hb]
      · simp [hb]))
  have hloc : ∀ i L, LsR[i]? = some L → updLs locs (E ++ newsAt k (objsR res)) (LsE ++ LsR) (k + i) = L := fun i L hL => by
    rw [updLs_append hE.lens]; exact newsL_get _ i L hlen hL
  have hhp : ∀ i o', (objsR res)[i]? = some o' → updAll h (E ++ newsAt k (objsR res)) (k + i) = o' := fun i o' ho' => by
    rw [updAll_append]; exact news_get _ i o' ho'
  refine hK _ _ ⟨_, RO, hg.step ht, (Tmps.step hg ht hm fun _ _ _ => not_false).put _ (resSlot_rel e2 (hin.trel k _ _ hloc hhp)) fun j hj => ?_⟩
  obtain ⟨h1, h2⟩ := resSlot_refs j hj
  have hlt : j - k < (objsR res).length := by omega
  have h3 := hhp (j - k) _ (List.getElem?_eq_getElem hlt)
  rw [Nat.add_sub_cancel' h1] at h3
  obtain ⟨n, es, e⟩ := objsR_row (List.getElem_mem hlt)
  simp only
  rw [h3, e]; simp

theorem does_enter {f : FuncId} {xs : List Operand} {as : List Arg} {res : List DV} {R : List Nat} {E : List (Nat × VO)} {k : Nat} (htr : Tr P f as res) (ha : ArgsV t h xs as R E) (hk : (keys E).Nodup)
    (hR : ∀ r ∈ R, r ∉ keys E) (hres : simpleR res = true) (hfree : ∀ i, i < (objsR res).length → h (k + i) = .gone)
    (hop : ∀ (w0 : World) (M0 : Nat → Prop) (A0 : Cx) (locs : Locs) (RO : Nat → Prop) (a : Act) (w : World), Good w0 M0 A0 h w locs RO → Tmps locs h w RO t a → (execOp a.eval o).run P w = .ok (.enter f (xs.map a.eval).toArray) w) :
    Does P o ⟨t, h⟩ ⟨putT t o.dst (resSlot k res), updAll h (E ++ newsAt k (objsR res))⟩ :=
  does_enterG htr (fun w0 M0 A0 locs RO a w hg hm => by
    obtain ⟨FA, M, q1, q2, q3, q4, q5⟩ := ha.sound hg hm hk
    exact ⟨_, FA, M, hop w0 M0 A0 locs RO a w hg hm, q1, q2, q3, q4, q5⟩) hk hR hres hfree

theorem does_enterX {f : FuncId} {xs : List Operand} {as : List Arg} {Φ : List DV → Prop} {R : List Nat} {E : List (Nat × VO)} {k : Nat} (htr : TrX P f as Φ) (ha : ArgsV t h xs as R E) (hk : (keys E).Nodup)
    (hR : ∀ r ∈ R, r ∉ keys E) (hΦ : ∀ res, Φ res → simpleR res = true ∧ objsR res = [])
    (hop : ∀ (w0 : World) (M0 : Nat → Prop) (A0 : Cx) (locs : Locs) (RO : Nat → Prop) (a : Act) (w : World), Good w0 M0 A0 h w locs RO → Tmps locs h w RO t a → (execOp a.eval o).run P w = .ok (.enter f (xs.map a.eval).toArray) w) :
    DoesS P o ⟨t, h⟩ (fun st => ∃ res, Φ res ∧ st = ⟨putT t o.dst (resSlot k res), updAll h E⟩) := by
  intro w0 M0 A0 a w K Q ⟨locs, RO, hg, hm⟩ hK
  obtain ⟨FA, M, q1, q2, q3, q4, q5⟩ := ha.sound hg hm hk
  have hdis : ∀ b ∈ M, b ∉ FA := fun b hb hbf => by
    obtain ⟨j, hj, hbj⟩ := q4 b hb
    rcases q2 b hbf with h1 | ⟨r, hr, h1⟩
    · exact hg.noro j b hbj h1
    · exact hg.disj j r (fun e => hR r hr (e ▸ hj)) b hbj h1
  simp only [Oper.wp, hop w0 M0 A0 locs RO a w hg hm, Oper.upon]
  refine Calls.mono (htr.tr w _ FA M q1 q3 hdis) fun e w' ⟨res, hph, v, rs, FR, FO, e1, e2, e3, e4, e5, e6, e7⟩ => ?_
  subst e1
  obtain ⟨hres, hno⟩ := hΦ res hph
  have hfree : ∀ i, i < (objsR res).length → h (k + i) = .gone := by rw [hno]; intro i hi; simp at hi
  obtain ⟨n1, n2, n3⟩ := List.nodup_append.1 e5
  obtain ⟨LsE, hE⟩ := q5 w' FO (fun j hj b hb hbm => e7.blk b (hg.lt hb) hbm) (fun b hb j hj hbj => (e6 b (by simp [hb])).resolve_right (by have := hg.lt hbj; omega)) e4 n2
  obtain ⟨LsR, hin, hfl⟩ := inR_of (RO := RO) e3 hres
  obtain ⟨hlen, hobjs⟩ := hin.objs
  obtain ⟨fn1, fn2⟩ := flat_nodup (hfl ▸ n1)
  have hkk : ∀ j, j ∈ keys E → j ∉ keys (newsAt k (objsR res)) := by
    intro j hj hj2
    obtain ⟨h1, h2⟩ := newsAt_keys.1 hj2
    have h3 := hfree (j - k) (by omega)
    rw [Nat.add_sub_cancel' h1] at h3
    have key : ∀ {E : List (Nat × VO)} {Ls : List Loc} {F M : List Nat}, EsOk h w locs w' RO E Ls F M → j ∈ keys E → h j ≠ .gone := by
      intro E Ls F M hE
      induction hE with
      | nil => intro hh; simp [keys] at hh
      | cons h1 t ih =>
        intro hh
        simp only [keys, List.map_cons, List.mem_cons] at hh
        rcases hh with rfl | hh
        · obtain ⟨n, es, g, ver, es', ver', e1, _⟩ := h1.row
          rw [e1]; simp
        · exact ih hh
    exact key hE hj h3
  have hnk : (keys (E ++ newsAt k (objsR res))).Nodup := by
    simp only [keys, List.map_append]
    exact List.nodup_append.2 ⟨hk, newsAt_nodup, fun j hj l hl e => hkk j hj (e ▸ hl)⟩
  have hz : Zs (TOk h w locs w' RO M) (E ++ newsAt k (objsR res)) (LsE ++ LsR) (FO ++ FR) := by
    refine (es_zs hg hE M hk fun b hb => .inl hb).append ?_
    rw [← hfl]
    refine zs_news hlen fun i o' L h1 h2 => ?_
    obtain ⟨L', h3, h4⟩ := hobjs i o' h1
    rw [h2] at h3
    injection h3 with h3
    subst h3
    obtain ⟨n, es, e⟩ := objsR_row (List.mem_of_getElem? h1)
    have hgo := hfree i (List.getElem?_eq_some_iff.1 h1).1
    refine ⟨h4, ⟨n, es, true, 1, 0, e, fun _ => by simp⟩, fn1 i L h2, fun b hb => .inl hb, fun h' locs' _ _ => ?_⟩
    unfold OStep
    show (match h (k + i) with | .gone => True | .var _ => _ | .row .. => _)
    rw [hgo]; trivial
  have hnF : (FO ++ FR).Nodup := List.nodup_append.2 ⟨n2, n1, fun b hb c hc e => n3 c hc b hb e.symm⟩
  have ht := touch_zs hg e7 (fun b hb => by
    obtain ⟨j, hj, hbj⟩ := q4 b hb
    exact ⟨j, by simp only [keys, List.map_append, List.mem_append]; exact .inl hj, hbj⟩) hz hnk hnF (fun b hb => e6 b (by
      rcases List.mem_append.1 hb with hb | hb
      · simp [hb]
      · simp [hb]))
  have hloc : ∀ i L, LsR[i]? = some L → updLs locs (E ++ newsAt k (objsR res)) (LsE ++ LsR) (k + i) = L := fun i L hL => by
    rw [updLs_append hE.lens]; exact newsL_get _ i L hlen hL
  have hhp : ∀ i o', (objsR res)[i]? = some o' → updAll h (E ++ newsAt k (objsR res)) (k + i) = o' := fun i o' ho' => by
    rw [updAll_append]; exact news_get _ i o' ho'
  refine hK _ _ _ ⟨res, hph, rfl⟩ (by
   have e9 : updAll h E = updAll h (E ++ newsAt k (objsR res)) := by rw [hno]; simp [newsAt]
   rw [e9]
   exact ⟨_, RO, hg.step ht, (Tmps.step hg ht hm fun _ _ _ => not_false).put _ (resSlot_rel e2 (hin.trel k _ _ hloc hhp)) fun j hj => by
    obtain ⟨h1, h2⟩ := resSlot_refs j hj
    rw [hno] at h2; simp at h2; omega⟩)

theorem does_callX {f : FuncId} {args : Array Operand} {ats : Array TypeId} {as : List Arg} {Φ : List DV → Prop} {R : List Nat} {E : List (Nat × VO)} (k : Nat) (ho : o.op = .call { callee := .value (.func f), args := args, argTypes := ats })
    (htr : TrX P f as Φ) (ha : ArgsV t h args.toList as R E) (hk : (keys E).Nodup) (hR : ∀ r ∈ R, r ∉ keys E) (hΦ : ∀ res, Φ res → simpleR res = true ∧ objsR res = []) :
    DoesS P o ⟨t, h⟩ (fun st => ∃ res, Φ res ∧ st = ⟨putT t o.dst (resSlot k res), updAll h E⟩) :=
  does_enterX htr ha hk hR hΦ fun w0 M0 A0 locs RO a w hg hm => by
    simp only [execOp, ho, resolve, Deferred.ofValue, Act.eval, Sem.run_bind, Sem.run_pure, Result.andThen_ok, invoke, Array.append_empty, Array.empty_append]
    rw [htr.ent.run]
    have e : Array.map a.eval args = (List.map a.eval args.toList).toArray := by rw [← Array.toList_map]
    rw [← e]
theorem does_call {f : FuncId} {args : Array Operand} {ats : Array TypeId} {as : List Arg} {res : List DV} {R : List Nat} {E : List (Nat × VO)} (k : Nat) (ho : o.op = .call { callee := .value (.func f), args := args, argTypes := ats })
    (htr : Tr P f as res) (ha : ArgsV t h args.toList as R E) (hk : (keys E).Nodup) (hR : ∀ r ∈ R, r ∉ keys E) (hres : simpleR res = true) (hfree : ∀ i, i < (objsR res).length → h (k + i) = .gone) :
    Does P o ⟨t, h⟩ ⟨putT t o.dst (resSlot k res), updAll h (E ++ newsAt k (objsR res))⟩ :=
  does_enter htr ha hk hR hres hfree fun w0 M0 A0 locs RO a w hg hm => by
    simp only [execOp, ho, resolve, Deferred.ofValue, Act.eval, Sem.run_bind, Sem.run_pure, Result.andThen_ok, invoke, Array.append_empty, Array.empty_append]
    rw [htr.ent.run]
    have e : Array.map a.eval args = (List.map a.eval args.toList).toArray := by rw [← Array.toList_map]
    rw [← e]
end

end Go.Proofs.YtglilpigoocgeaaGreatDoor.V
namespace Go.Proofs.YtglilpigoocgeaaGreatDoor.V
open Go
set_option linter.unusedVariables false
set_option linter.unusedSimpArgs false

/-- What an operation of a drawn region does: its result, its new objects; the temporaries and objects that it looks at. -/
structure MOp where
  r : Slot
  news : List (Nat × VO)
  reads : List Nat
  objs : List Nat
  skip : Bool

def finT (ops : Array Oper) : Nat → List MOp → List Slot → List Slot
  | _, [], t => t
  | i, m :: l, t => finT ops (i + 1) l (putT t ((ops[i]?).bind (·.dst)) m.r)
def finH : List MOp → Heap → Heap
  | [], h => h
  | m :: l, h => finH l (updAll h m.news)

def predF (ops : Array Oper) : Nat → Nat → Nat → Bool
  | 0, _, _ => false
  | n + 1, i, p => match ops[i]? with
    | some o => o.after.toList.any fun e => Region.binds .any e && (e.on == p || predF ops n e.on p)
    | none => false
/-- Is 'p' asked for ahead of 'i', straight or through others? -/
def isPred (ops : Array Oper) (i p : Nat) : Bool := predF ops 6 i p

def dstOf (ops : Array Oper) (i : Nat) : Option Nat := (ops[i]?).bind (·.dst)

/-- What is asked of a drawn region's plan (to be reckoned). -/
def drawOk (ops : Array Oper) (plan : List MOp) (len : Nat) : Bool :=
  decide (plan.length ≤ ops.size) &&
  (List.range ops.size).all (fun i => match ops[i]? with
    | some o => o.after.toList.all fun e => decide (e.on < i)
    | none => false) &&
  (List.range plan.length).all (fun i => match plan[i]?, ops[i]? with
    | some m, some o => (m.skip || !m.skip) && (match o.dst with | some d => decide (d < len) | none => true) &&
      (List.range ops.size).all (fun p => (decide (p = i) || decide (plan.length ≤ p) || (match dstOf ops p with | some d => !(m.reads.contains d) || isPred ops i p | none => true)) &&
        (decide (p = i) || decide (plan.length ≤ p) || (dstOf ops p != o.dst) || o.dst.isNone)) &&
      (match o.dst with | some d => !(m.reads.contains d) | none => true) &&
      (List.range plan.length).all (fun p => match plan[p]? with
        | some m' => (decide (p = i) || (keys m'.news).all (fun k => !((keys m.news).contains k) && (!(m.objs.contains k) || isPred ops i p))) && (decide (p ≠ i) || (keys m'.news).all fun k => !(m.objs.contains k))
        | none => true)
    | _, _ => false) &&
  (List.range ops.size).all (fun q => decide (q < plan.length) || (List.range q).all fun p => isPred ops q p)

structure DrawOk (ops : Array Oper) (plan : List MOp) (len : Nat) : Prop where
  size : plan.length ≤ ops.size
  back : ∀ (i : Nat) (o : Oper), ops[i]? = some o → ∀ e ∈ o.after, e.on < i
  dlt : ∀ (i : Nat) (m : MOp) (o : Oper) (d : Nat), plan[i]? = some m → ops[i]? = some o → o.dst = some d → d < len
  reads : ∀ (i : Nat) (m : MOp) (p : Nat) (o : Oper) (d : Nat), p < plan.length → plan[i]? = some m → ops[p]? = some o → o.dst = some d → d ∈ m.reads → p ≠ i ∧ isPred ops i p = true
  dsts : ∀ (i p : Nat) (m m' : MOp) (o o' : Oper) (d : Nat), plan[i]? = some m → plan[p]? = some m' → ops[i]? = some o → ops[p]? = some o' → o.dst = some d → o'.dst = some d → p = i
  news : ∀ (i p : Nat) (m m' : MOp) (k : Nat), plan[i]? = some m → plan[p]? = some m' → k ∈ keys m.news → k ∈ keys m'.news → p = i
  objs : ∀ (i p : Nat) (m m' : MOp) (k : Nat), plan[i]? = some m → plan[p]? = some m' → k ∈ m.objs → k ∈ keys m'.news → p ≠ i ∧ isPred ops i p = true
  tail : ∀ q p, plan.length ≤ q → q < ops.size → p < q → isPred ops q p = true

theorem drawOk_of {ops : Array Oper} {plan : List MOp} {len : Nat} (h : drawOk ops plan len = true) : DrawOk ops plan len := by
  unfold drawOk at h
  simp only [Bool.and_eq_true, decide_eq_true_eq, List.all_eq_true, List.mem_range] at h
  obtain ⟨⟨⟨h1, h2⟩, h3⟩, h4⟩ := h
  have hlt : ∀ {α : Type} {l : List α} {i : Nat} {x : α}, l[i]? = some x → i < l.length := fun h => (List.getElem?_eq_some_iff.1 h).1
  have hlta : ∀ {i : Nat} {x : Oper}, ops[i]? = some x → i < ops.size := fun h => (Array.getElem?_eq_some_iff.1 h).1
  have key : ∀ {i : Nat} {m : MOp} {o : Oper}, plan[i]? = some m → ops[i]? = some o → _ := fun {i m o} hm ho => by
    have := h3 i (hlt hm)
    rw [hm, ho] at this
    simp only [Bool.and_eq_true, List.all_eq_true, List.mem_range] at this
    exact this
  refine ⟨h1, fun i o ho e he => ?_, fun i m o d hm ho hd => ?_, fun i m p o d hpl hm ho hd hr => ?_, fun i p m m' o o' d hm hm' ho ho' hd hd' => ?_, fun i p m m' k hm hm' hk hk' => ?_, fun i p m m' k hm hm' hk hk' => ?_, fun q p hq hq' hp => ?_⟩
  · have := h2 i (hlta ho)
    rw [ho] at this
    simp only [List.all_eq_true, decide_eq_true_eq] at this
    exact this e (by simpa using he)
  · have := (key hm ho).1.1.1.2
    rw [hd] at this
    simpa using this
  · obtain ⟨oi, hoi⟩ : ∃ oi, ops[i]? = some oi := ⟨_, Array.getElem?_eq_getElem (Nat.lt_of_lt_of_le (hlt hm) h1)⟩
    have hkk := key hm hoi
    have h5 := (hkk.1.1.2 p (hlta ho)).1
    have hne : p ≠ i := by
      intro e
      subst e
      rw [hoi] at ho
      injection ho with ho
      have := hkk.1.2
      rw [ho, hd] at this
      simp [hr] at this
    refine ⟨hne, ?_⟩
    simp only [dstOf, ho, Option.bind_some, hd] at h5
    simpa [hne, hr, Nat.not_le.2 hpl] using h5
  · have h5 := ((key hm ho).1.1.2 p (hlta ho')).2
    simp only [dstOf, ho', Option.bind_some, hd, hd'] at h5
    have h6 := hlt hm'
    by_cases e : p = i
    · exact e
    · simp [e] at h5; omega
  · obtain ⟨oi, hoi⟩ : ∃ oi, ops[i]? = some oi := ⟨_, Array.getElem?_eq_getElem (Nat.lt_of_lt_of_le (hlt hm) h1)⟩
    have h5 := (key hm hoi).2 p (hlt hm')
    rw [hm'] at h5
    simp only [Bool.and_eq_true, Bool.or_eq_true, decide_eq_true_eq, List.all_eq_true] at h5
    rcases h5.1 with h6 | h6
    · exact h6
    · have := (h6 k hk').1
      simp at this
      exact absurd hk this
  · obtain ⟨oi, hoi⟩ : ∃ oi, ops[i]? = some oi := ⟨_, Array.getElem?_eq_getElem (Nat.lt_of_lt_of_le (hlt hm) h1)⟩
    have h5 := (key hm hoi).2 p (hlt hm')
    rw [hm'] at h5
    simp only [Bool.and_eq_true, Bool.or_eq_true, decide_eq_true_eq, List.all_eq_true] at h5
    have hne : p ≠ i := by
      intro e
      rcases h5.2 with h6 | h6
      · exact h6 e
      · have := h6 k hk'
        simp at this
        exact this hk
    refine ⟨hne, ?_⟩
    rcases h5.1 with h6 | h6
    · exact absurd h6 hne
    · rcases (h6 k hk').2 with h7 | h7
      · simp at h7; exact absurd hk h7
      · exact h7
  · have := h4 q hq'
    simp only [Bool.or_eq_true, decide_eq_true_eq, List.all_eq_true, List.mem_range] at this
    rcases this with h5 | h5
    · omega
    · exact h5 p hp

/-! ### the state where some have been done -/
structure AtS (ops : Array Oper) (plan : List MOp) (t0 : List Slot) (h0 : Heap) (L : Array Bool) (st : St) : Prop where
  len : st.t.length = t0.length
  slot : ∀ (i : Nat) (m : MOp) (o : Oper) (d : Nat), plan[i]? = some m → ops[i]? = some o → L.getD i false = true → o.dst = some d → getT st.t d = m.r
  rest : ∀ (d : Nat), (∀ (i : Nat) (m : MOp) (o : Oper), plan[i]? = some m → ops[i]? = some o → L.getD i false = true → o.dst ≠ some d) → getT st.t d = getT t0 d
  new : ∀ (i : Nat) (m : MOp) (k : Nat), plan[i]? = some m → L.getD i false = true → k ∈ keys m.news → st.h k = updAll h0 m.news k
  old : ∀ (k : Nat), (∀ (i : Nat) (m : MOp), plan[i]? = some m → L.getD i false = true → k ∉ keys m.news) → st.h k = h0 k

theorem updAll_congr {E : List (Nat × VO)} {h h' : Heap} {k : Nat} (hk : k ∈ keys E) : updAll h E k = updAll h' E k := by
  induction E generalizing h h' with
  | nil => simp [keys] at hk
  | cons x E ih =>
    obtain ⟨j, o⟩ := x
    simp only [updAll]
    by_cases hm : k ∈ keys E
    · exact ih hm
    · rw [updAll_not hm, updAll_not hm]
      simp only [keys, List.map_cons, List.mem_cons] at hk
      have e := hk.resolve_right hm
      subst e
      rw [upd_same, upd_same]

theorem finT_len {ops : Array Oper} : ∀ {plan : List MOp} {i : Nat} {t : List Slot}, (finT ops i plan t).length = t.length
  | [], _, _ => rfl
  | m :: l, i, t => by
    simp only [finT]
    rw [finT_len]
    unfold putT
    split <;> simp
theorem finT_rest {ops : Array Oper} {d : Nat} : ∀ {plan : List MOp} {i : Nat} {t : List Slot}, (∀ (q : Nat) (m : MOp), plan[q]? = some m → dstOf ops (i + q) ≠ some d) → getT (finT ops i plan t) d = getT t d
  | [], _, _, _ => rfl
  | m :: l, i, t, h => by
    simp only [finT]
    rw [finT_rest fun q m' hm => by have := h (q + 1) m' (by simpa using hm); rwa [Nat.add_assoc, Nat.add_comm 1]]
    have h0 := h 0 m rfl
    simp only [Nat.add_zero, dstOf] at h0
    cases hd : (ops[i]?).bind (·.dst) with
    | none => rfl
    | some d' =>
      rw [hd] at h0
      simp only [putT, getT_set]
      rw [if_neg]
      intro hh
      exact h0 (by rw [hh.1])
theorem finT_slot {ops : Array Oper} {d : Nat} : ∀ {plan : List MOp} {i : Nat} {t : List Slot} {q : Nat} {m : MOp}, plan[q]? = some m → dstOf ops (i + q) = some d → d < t.length → (∀ (p : Nat) (m' : MOp), plan[p]? = some m' → dstOf ops (i + p) = some d → p = q) →
    getT (finT ops i plan t) d = m.r
  | [], _, _, q, m, hm, _, _, _ => by simp at hm
  | m0 :: l, i, t, 0, m, hm, hd, hl, hu => by
    simp at hm; subst hm
    simp only [finT]
    rw [finT_rest fun q m' hm' hdd => by
      have := hu (q + 1) m' (by simpa using hm') (by rwa [Nat.add_comm q 1, ← Nat.add_assoc])
      omega]
    simp only [Nat.add_zero, dstOf] at hd
    rw [hd]
    simp only [putT, getT_set]
    simp [hl]
  | m0 :: l, i, t, q + 1, m, hm, hd, hl, hu => by
    simp only [finT]
    refine finT_slot (q := q) (by simpa using hm) (by rwa [Nat.add_assoc, Nat.add_comm 1]) ?_ fun p m' hp hdp => ?_
    · unfold putT; split <;> simpa using hl
    · have := hu (p + 1) m' (by simpa using hp) (by rwa [Nat.add_comm p 1, ← Nat.add_assoc])
      omega
theorem finH_old {k : Nat} : ∀ {plan : List MOp} {h : Heap}, (∀ (q : Nat) (m : MOp), plan[q]? = some m → k ∉ keys m.news) → finH plan h k = h k
  | [], _, _ => rfl
  | m :: l, h, hk => by
    simp only [finH]
    rw [finH_old fun q m' hm => hk (q + 1) m' (by simpa using hm), updAll_not (hk 0 m rfl)]
theorem finH_new {k : Nat} : ∀ {plan : List MOp} {h : Heap} {q : Nat} {m : MOp}, plan[q]? = some m → k ∈ keys m.news → (∀ (p : Nat) (m' : MOp), plan[p]? = some m' → k ∈ keys m'.news → p = q) → ∀ h', finH plan h k = updAll h' m.news k
  | [], _, q, m, hm, _, _, _ => by simp at hm
  | m0 :: l, h, 0, m, hm, hk, hu, h' => by
    simp at hm; subst hm
    simp only [finH]
    rw [finH_old fun q m' hm' hkk => by have := hu (q + 1) m' (by simpa using hm') hkk; omega]
    exact updAll_congr hk
  | m0 :: l, h, q + 1, m, hm, hk, hu, h' => by
    simp only [finH]
    exact finH_new (q := q) (by simpa using hm) hk (fun p m' hp hkk => by have := hu (p + 1) m' (by simpa using hp) hkk; omega) h'

theorem touch_drew {h : Heap} {w : World} {locs : Locs} {RO : Nat → Prop} (n : Nat) : Touch h w locs h { w with drawn := n } locs RO (· ∈ ([] : List Nat)) (fun _ => False) (fun _ => False) where
  kept := ⟨rfl, rfl, rfl, Nat.le_refl _, fun _ _ _ => rfl⟩
  only b hb := hb.elim
  same j hj := ⟨rfl, rfl⟩
  obj j hj := by simp at hj
  cells j hj := by simp at hj
  live j hj := by simp at hj
  nodup j hj := by simp at hj
  foot j hj := by simp at hj
  disj j l hj := by simp at hj
  step j hj := by simp at hj
  sub o ho := ho.elim
  clean _ _ _ _ _ _ _ := not_false
  fresh o ho := by simp at ho
  killed o ho := ho.elim
theorem rel_drew {w0 : World} {M0 : Nat → Prop} {A0 : Cx} {st : St} {a : Act} {w : World} (hr : Rel w0 M0 A0 st a w) (n : Nat) : Rel w0 M0 A0 st a { w with drawn := n } := by
  obtain ⟨locs, RO, hg, hm⟩ := hr
  exact ⟨locs, RO, hg.step (touch_drew n), Tmps.step hg (touch_drew n) hm fun _ _ _ => not_false⟩

/-! ### counting what is listed -/
def cnt (L : Array Bool) : Nat → Nat
  | 0 => 0
  | n + 1 => cnt L n + if L.getD n false = true then 1 else 0
theorem getD_set {L : Array Bool} {i j : Nat} (hi : i < L.size) (d : Bool) : (L.setIfInBounds i true).getD j d = if i = j then true else L.getD j d := by
  simp only [Array.getD_eq_getD_getElem?, Array.getElem?_setIfInBounds]
  by_cases e : i = j
  · subst e; simp [hi]
  · simp [e]
theorem cnt_le (L : Array Bool) : ∀ n, cnt L n ≤ n
  | 0 => Nat.le_refl _
  | n + 1 => by
    have := cnt_le L n
    simp only [cnt]; split <;> omega
theorem cnt_set {L : Array Bool} {i : Nat} (hi : i < L.size) (hf : L.getD i false = false) : ∀ n, cnt (L.setIfInBounds i true) n = cnt L n + if i < n then 1 else 0
  | 0 => by simp [cnt]
  | n + 1 => by
    simp only [cnt, getD_set hi, cnt_set hi hf n]
    by_cases e : i = n
    · subst e; simp [hf]
    · by_cases hl : i < n
      · simp [e, hl, Nat.lt_succ_of_lt hl]; omega
      · have : ¬ i < n + 1 := by omega
        simp [e, hl, this]
theorem cnt_first {L : Array Bool} {m : Nat} (h1 : ∀ p, p < m → L.getD p false = true) (h2 : ∀ p, m ≤ p → L.getD p false = false) : ∀ n, cnt L n = min m n
  | 0 => by simp [cnt]
  | n + 1 => by
    simp only [cnt, cnt_first h1 h2 n]
    by_cases e : n < m
    · rw [if_pos (h1 n e)]; omega
    · rw [h2 n (by omega)]; simp; omega
theorem cnt_full {L : Array Bool} : ∀ {n : Nat}, cnt L n = n → ∀ p, p < n → L.getD p false = true
  | 0, _, p, hp => by omega
  | n + 1, h, p, hp => by
    simp only [cnt] at h
    have := cnt_le L n
    split at h
    · rename_i hn
      by_cases e : p = n
      · subst e; exact hn
      · exact cnt_full (n := n) (by omega) p (by omega)
    · omega

section
variable {P : Program} {ops : Array Oper} {R : Exit → Act → World → Prop}

theorem getD_both {L : Array Bool} {i : Nat} (hi : i < L.size) : L.getD i true = L.getD i false := by simp [Array.getD, hi]

def Closed (ops : Array Oper) (L : Array Bool) : Prop := ∀ (i : Nat) (o : Oper), ops[i]? = some o → L.getD i false = true → ∀ e ∈ o.after, Region.binds .any e = true → L.getD e.on false = true
theorem predF_of {L : Array Bool} (hc : Closed ops L) : ∀ {n i p : Nat} {o : Oper}, ops[i]? = some o → (∀ e ∈ o.after, Region.binds .any e = true → L.getD e.on false = true) → predF ops n i p = true → L.getD p false = true
  | 0, i, p, o, _, _, h => by simp [predF] at h
  | n + 1, i, p, o, ho, hall, h => by
    simp only [predF, ho, List.any_eq_true, Bool.and_eq_true, Bool.or_eq_true, beq_iff_eq] at h
    obtain ⟨e, he, hb, h⟩ := h
    have hl := hall e (by simpa using he) hb
    rcases h with h | h
    · rw [← h]; exact hl
    · cases ho2 : ops[e.on]? with
      | none => cases n <;> simp [predF, ho2] at h
      | some o2 => exact predF_of hc ho2 (hc e.on o2 ho2 hl) h
theorem isPred_of {L : Array Bool} (hc : Closed ops L) {i p : Nat} {o : Oper} (ho : ops[i]? = some o) (hall : ∀ e ∈ o.after, Region.binds .any e = true → L.getD e.on false = true) (h : isPred ops i p = true) : L.getD p false = true :=
  predF_of hc ho hall h
theorem closed_set {L : Array Bool} (hc : Closed ops L) {i : Nat} {o : Oper} (hi : i < L.size) (ho : ops[i]? = some o) (hall : ∀ e ∈ o.after, Region.binds .any e = true → L.getD e.on false = true) : Closed ops (L.setIfInBounds i true) := by
  intro j oj hoj hl e he hb
  rw [getD_set hi] at hl ⊢
  split
  · rfl
  · split at hl
    · rename_i hij
      subst hij
      rw [ho] at hoj; injection hoj with hoj; subst hoj
      exact hall e he hb
    · exact hc j oj hoj hl e he hb

theorem any_tail {plan : List MOp} {len : Nat} (hok : DrawOk ops plan len) : ∀ (fuel n : Nat) (L : Array Bool) (a : Act) (w : World), L.size = ops.size → plan.length ≤ n → (∀ p, p < n → L.getD p false = true) → (∀ p, n ≤ p → L.getD p false = false) →
    fuel + n = ops.size → wpOps P ops R (List.range' n (ops.size - n)) a w → wpAny P .any ops R fuel L a w := by
  intro fuel
  induction fuel with
  | zero =>
    intro n L a w hs hp h1 h2 hf hw
    have e : n = ops.size := by omega
    subst e
    refine ⟨?_, by simpa [wpOps] using hw⟩
    apply List.eq_nil_iff_forall_not_mem.2
    intro j hj
    obtain ⟨hj1, o, ho, _⟩ := mem_ready.1 hj
    have hlt := (Array.getElem?_eq_some_iff.1 ho).1
    rw [getD_both (by omega), h1 j hlt] at hj1
    cases hj1
  | succ fuel ih =>
    intro n L a w hs hp h1 h2 hf hw
    have hn : n < ops.size := by omega
    obtain ⟨on, hon⟩ : ∃ o, ops[n]? = some o := ⟨_, Array.getElem?_eq_getElem hn⟩
    have hmem : n ∈ Region.ready .any ops L := mem_ready.2 ⟨by rw [getD_both (by omega)]; exact h2 n (Nat.le_refl _), on, hon, fun e he _ => h1 _ (hok.back n on hon e he)⟩
    refine ⟨fun hnil => (by rw [hnil] at hmem; cases hmem), fun i hi => ?_⟩
    obtain ⟨hj1, o, ho, hall⟩ := mem_ready.1 hi
    have hlt := (Array.getElem?_eq_some_iff.1 ho).1
    rw [getD_both (by omega)] at hj1
    have hin : i = n := by
      rcases Nat.lt_trichotomy i n with hl | hl | hl
      · rw [h1 i hl] at hj1; cases hj1
      · exact hl
      · have hcl : Closed ops L := fun j oj hoj hlj e he hb => by
          have hjn : j < n := by
            rcases Nat.lt_or_ge j n with h3 | h3
            · exact h3
            · rw [h2 j h3] at hlj; cases hlj
          exact h1 _ (by have := hok.back j oj hoj e he; omega)
        have := isPred_of hcl ho hall (hok.tail i n (by omega) hlt hl)
        rw [h2 n (Nat.le_refl _)] at this; cases this
    subst hin
    rw [show ops.size - i = (ops.size - (i + 1)) + 1 by omega, List.range'_succ, wpOps_cons] at hw
    refine wpOp_mono (fun a' w' hw' => ih (i + 1) _ a' w' (by simp [hs]) (by omega) (fun p hp' => ?_) (fun p hp' => ?_) (by omega) hw') hw
    · rw [getD_set (by omega)]
      split
      · rfl
      · exact h1 p (by omega)
    · rw [getD_set (by omega), if_neg (by omega)]
      exact h2 p (by omega)

/-- What a guard says of an operation of the plan: it is run, or it is passed by. -/
def GOk (ops : Array Oper) (tF : List Slot) (o : Oper) (m : MOp) : Prop := match o.guard with
  | none => m.skip = false
  | some (j, want) => ∃ oj d, ops[j]? = some oj ∧ oj.dst = some d ∧ d ∈ m.reads ∧ ((∃ b, getT tF d = .t ⟨false, [.d (.lf (.bool b))]⟩ ∧ b = (if m.skip = true then !want else want)) ∨ (getT tF d = .tu [] ∧ m.skip = true)) ∧ (m.skip = true → m.r = .tu [] ∧ m.news = [])
theorem wanted_of {tF : List Slot} {o : Oper} {m : MOp} {w0 : World} {M0 : Nat → Prop} {A0 : Cx} {st : St} {a : Act} {w : World} (hg : GOk ops tF o m) (hr : Rel w0 M0 A0 st a w) (hd : ∀ j ∈ m.reads, getT st.t j = getT tF j) :
    Region.wanted o (yielded ops a.tmps) = !m.skip := by
  unfold GOk at hg
  split at hg
  · rename_i h
    simp [Region.wanted, h, hg]
  · rename_i j want h
    obtain ⟨oj, d, e1, e2, e3, ⟨b, e4, e5⟩ | ⟨e4, e5⟩, _⟩ := hg
    · have hy := yielded_of hr e1 e2 ((hd d e3).trans e4)
      simp only [Region.wanted, h, hy, e5]
      cases m.skip <;> cases want <;> rfl
    · have hy := yielded_none hr e1 e2 ((hd d e3).trans e4)
      simp only [Region.wanted, h, hy, e5]
      cases want <;> rfl
def EachOp (P : Program) (ops : Array Oper) (len : Nat) (tF : List Slot) (hF : Heap) : Nat → List MOp → Prop
  | _, [] => True
  | i, m :: l => (∀ o, ops[i]? = some o → GOk ops tF o m ∧ (m.skip = false → ∀ t h, t.length = len → (∀ j ∈ m.reads, getT t j = getT tF j) → (∀ k ∈ m.objs, h k = hF k) → (∀ k ∈ keys m.news, h k = .gone) → Does P o ⟨t, h⟩ ⟨putT t o.dst m.r, updAll h m.news⟩)) ∧
      EachOp P ops len tF hF (i + 1) l

theorem EachOp.get {len : Nat} {tF : List Slot} {hF : Heap} : ∀ {plan : List MOp} {i : Nat}, EachOp P ops len tF hF i plan → ∀ (q : Nat) (m : MOp), plan[q]? = some m → ∀ o, ops[i + q]? = some o → GOk ops tF o m ∧ (m.skip = false → ∀ t h, t.length = len → (∀ j ∈ m.reads, getT t j = getT tF j) →
    (∀ k ∈ m.objs, h k = hF k) → (∀ k ∈ keys m.news, h k = .gone) → Does P o ⟨t, h⟩ ⟨putT t o.dst m.r, updAll h m.news⟩)
  | [], i, _, q, m, hm => by simp at hm
  | m0 :: l, i, he, 0, m, hm => by simp at hm; subst hm; exact he.1
  | m0 :: l, i, he, q + 1, m, hm => by
    have := EachOp.get he.2 q m (by simpa using hm)
    rwa [Nat.add_assoc, Nat.add_comm 1] at this

theorem atS_fin {plan : List MOp} {t0 : List Slot} {h0 : Heap} {L : Array Bool} {st : St} (hok : DrawOk ops plan t0.length) (hat : AtS ops plan t0 h0 L st) (hall : ∀ p, p < plan.length → L.getD p false = true) :
    st = ⟨finT ops 0 plan t0, finH plan h0⟩ := by
  have hlt : ∀ {i : Nat} {x : MOp}, plan[i]? = some x → i < plan.length := fun h => (List.getElem?_eq_some_iff.1 h).1
  obtain ⟨t, h⟩ := st
  have e1 : t = finT ops 0 plan t0 := by
    apply List.ext_getElem
    · rw [finT_len]; exact hat.len
    · intro d hd1 hd2
      have key : getT t d = getT (finT ops 0 plan t0) d := by
        by_cases hex : ∃ (i : Nat) (m : MOp) (o : Oper), plan[i]? = some m ∧ ops[i]? = some o ∧ o.dst = some d
        · obtain ⟨i, m, o, hm, ho, hd⟩ := hex
          rw [hat.slot i m o d hm ho (hall i (hlt hm)) hd, finT_slot (q := i) hm (by simp [dstOf, ho, hd]) (by rw [← hat.len]; exact hd1) fun p m' hp hdp => ?_]
          simp only [dstOf, Nat.zero_add] at hdp
          obtain ⟨o', ho', hd'⟩ := Option.bind_eq_some_iff.1 hdp
          exact hok.dsts i p m m' o o' d hm hp ho ho' hd hd'
        · rw [hat.rest d fun i m o hm ho _ hd => hex ⟨i, m, o, hm, ho, hd⟩, finT_rest fun q m hm hd => ?_]
          simp only [dstOf, Nat.zero_add] at hd
          obtain ⟨o', ho', hd'⟩ := Option.bind_eq_some_iff.1 hd
          exact hex ⟨q, m, o', hm, ho', hd'⟩
      simpa [getT, List.getD_eq_getElem?_getD, hd1, hd2] using key
  have e2 : h = finH plan h0 := by
    funext k
    by_cases hex : ∃ (i : Nat) (m : MOp), plan[i]? = some m ∧ k ∈ keys m.news
    · obtain ⟨i, m, hm, hk⟩ := hex
      rw [finH_new hm hk (fun p m' hp hk' => hok.news i p m m' k hm hp hk hk') h0]
      exact hat.new i m k hm (hall i (hlt hm)) hk
    · rw [finH_old fun q m hm hk => hex ⟨q, m, hm, hk⟩]
      exact hat.old k fun i m hm _ hk => hex ⟨i, m, hm, hk⟩
  rw [e1, e2]

theorem least_unlisted {L : Array Bool} : ∀ {n : Nat}, (∃ p, p < n ∧ L.getD p false = false) → ∃ p, p < n ∧ L.getD p false = false ∧ ∀ q, q < p → L.getD q false = true
  | 0, ⟨p, hp, _⟩ => by omega
  | n + 1, ⟨p, hp, hf⟩ => by
    by_cases hex : ∃ p, p < n ∧ L.getD p false = false
    · obtain ⟨q, h1, h2, h3⟩ := least_unlisted hex
      exact ⟨q, by omega, h2, h3⟩
    · have e : p = n := by
        rcases Nat.lt_or_ge p n with h1 | h1
        · exact absurd ⟨p, h1, hf⟩ hex
        · omega
      subst e
      refine ⟨p, by omega, hf, fun q hq => ?_⟩
      cases hl : L.getD q false with
      | true => rfl
      | false => exact absurd ⟨q, hq, hl⟩ hex

theorem any_head {plan : List MOp} {t0 : List Slot} {h0 : Heap} {w0 : World} {M0 : Nat → Prop} {A0 : Cx} {K : St → Prop} (hok : DrawOk ops plan t0.length) (hfree : ∀ (i : Nat) (m : MOp), plan[i]? = some m → ∀ k ∈ keys m.news, h0 k = .gone)
    (hops : EachOp P ops t0.length (finT ops 0 plan t0) (finH plan h0) 0 plan) (htail : Ops P ops (List.range' plan.length (ops.size - plan.length)) ⟨finT ops 0 plan t0, finH plan h0⟩ K)
    (hK : ∀ st' a' w', K st' → Rel w0 M0 A0 st' a' w' → R .normal a' w') : ∀ (fuel : Nat) (L : Array Bool) (a : Act) (w : World) (st : St), L.size = ops.size → Closed ops L → fuel + cnt L ops.size = ops.size → AtS ops plan t0 h0 L st → Rel w0 M0 A0 st a w →
      (∀ q, plan.length ≤ q → L.getD q false = false) → wpAny P .any ops R fuel L a w := by
  have hlt : ∀ {i : Nat} {x : MOp}, plan[i]? = some x → i < plan.length := fun h => (List.getElem?_eq_some_iff.1 h).1
  intro fuel
  induction fuel with
  | zero =>
    intro L a w st hs hcl hc hat hr hq
    have hall := cnt_full (L := L) (n := ops.size) (by omega)
    have hps := hok.size
    have e : plan.length = ops.size := by
      rcases Nat.lt_or_ge plan.length ops.size with h1 | h1
      · have := hall _ h1; rw [hq _ (Nat.le_refl _)] at this; cases this
      · omega
    have := atS_fin hok hat fun p hp => hall p (by omega)
    subst this
    exact any_tail hok 0 plan.length L a w hs (Nat.le_refl _) (fun p hp => hall p (by omega)) hq (by omega) (ops_sound htail hr hK)
  | succ fuel ih =>
    intro L a w st hs hcl hc hat hr hq
    by_cases hex : ∃ p, p < plan.length ∧ L.getD p false = false
    · obtain ⟨p, hp1, hp2, hp3⟩ := least_unlisted hex
      have hps := hok.size
      obtain ⟨op, hop⟩ : ∃ o, ops[p]? = some o := ⟨_, Array.getElem?_eq_getElem (by omega)⟩
      have hmem : p ∈ Region.ready .any ops L := mem_ready.2 ⟨by rw [getD_both (by omega)]; exact hp2, op, hop, fun e he _ => hp3 _ (hok.back p op hop e he)⟩
      refine ⟨fun hnil => (by rw [hnil] at hmem; cases hmem), fun i hi => ?_⟩
      obtain ⟨hj1, o, ho, hpre⟩ := mem_ready.1 hi
      have hlti := (Array.getElem?_eq_some_iff.1 ho).1
      rw [getD_both (by omega)] at hj1
      have hi2 : i < plan.length := by
        rcases Nat.lt_or_ge i plan.length with h1 | h1
        · exact h1
        · have := isPred_of hcl ho hpre (hok.tail i p h1 hlti (by omega))
          rw [hp2] at this; cases this
      obtain ⟨m, hm⟩ : ∃ m, plan[i]? = some m := ⟨_, List.getElem?_eq_getElem hi2⟩
      have hpred : ∀ p, isPred ops i p = true → L.getD p false = true := fun p hp => by
        exact isPred_of hcl ho hpre hp
      have hgone : ∀ k ∈ keys m.news, st.h k = .gone := fun k hk => by
        rw [hat.old k fun q m' hm' hl hk' => ?_]
        · exact hfree i m hm k hk
        · have := hok.news i q m m' k hm hm' hk hk'
          subst this
          rw [hj1] at hl; cases hl
      have hreads : ∀ j ∈ m.reads, getT st.t j = getT (finT ops 0 plan t0) j := fun j hj => by
        by_cases hw : ∃ (q : Nat) (m' : MOp) (o' : Oper), plan[q]? = some m' ∧ ops[q]? = some o' ∧ o'.dst = some j
        · obtain ⟨q, m', o', hm', ho', hd'⟩ := hw
          have hlq := hpred q (hok.reads i m q o' j (hlt hm') hm ho' hd' hj).2
          rw [hat.slot q m' o' j hm' ho' hlq hd', finT_slot (q := q) hm' (by simp [dstOf, ho', hd']) (hok.dlt q m' o' j hm' ho' hd') fun p m2 hp hdp => ?_]
          simp only [dstOf, Nat.zero_add] at hdp
          obtain ⟨o2, ho2, hd2⟩ := Option.bind_eq_some_iff.1 hdp
          exact hok.dsts q p m' m2 o' o2 j hm' hp ho' ho2 hd' hd2
        · rw [hat.rest j fun q m' o' hm' ho' _ hd => hw ⟨q, m', o', hm', ho', hd⟩, finT_rest fun q m' hm' hd => ?_]
          simp only [dstOf, Nat.zero_add] at hd
          obtain ⟨o', ho', hd'⟩ := Option.bind_eq_some_iff.1 hd
          exact hw ⟨q, m', o', hm', ho', hd'⟩
      have hobjs : ∀ k ∈ m.objs, st.h k = finH plan h0 k := fun k hk => by
        by_cases hw : ∃ (q : Nat) (m' : MOp), plan[q]? = some m' ∧ k ∈ keys m'.news
        · obtain ⟨q, m', hm', hk'⟩ := hw
          have hlq := hpred q (hok.objs i q m m' k hm hm' hk hk').2
          rw [hat.new q m' k hm' hlq hk', finH_new hm' hk' (fun p m2 hp hk2 => hok.news q p m' m2 k hm' hp hk' hk2) h0]
        · rw [hat.old k fun q m' hm' _ hk' => hw ⟨q, m', hm', hk'⟩, finH_old fun q m' hm' hk' => hw ⟨q, m', hm', hk'⟩]
      obtain ⟨hgok, hrun⟩ := hops.get i m hm o (by simpa using ho)
      have hwant := wanted_of hgok hr hreads
      suffices hnext : ∀ a' w', Rel w0 M0 A0 ⟨putT st.t o.dst m.r, updAll st.h m.news⟩ a' w' → wpAny P .any ops R fuel (L.setIfInBounds i true) a' w' by
        unfold wpOp
        simp only [ho]
        cases hsk : m.skip with
        | false =>
          rw [hsk] at hwant
          rw [if_pos (by simpa using hwant)]
          exact .inl (hrun hsk st.t st.h hat.len hreads hobjs hgone w0 M0 A0 a w _ _ hr hnext)
        | true =>
          rw [hsk] at hwant
          rw [if_neg (by simp [hwant])]
          have hdd : m.r = .tu [] ∧ m.news = [] := by
            unfold GOk at hgok
            split at hgok
            · rw [hsk] at hgok; cases hgok
            · obtain ⟨_, _, _, _, _, _, e⟩ := hgok; exact e hsk
          refine hnext _ _ ?_
          rw [hdd.1, hdd.2]
          exact put_skip hr
      intro a' w' hr'
      have hLi : ∀ q, (L.setIfInBounds i true).getD q false = true → q = i ∨ L.getD q false = true := fun q hq' => by
        rw [getD_set (by omega)] at hq'
        split at hq'
        · rename_i e; exact .inl e.symm
        · exact .inr hq'
      refine ih _ a' w' _ (by simp [hs]) (closed_set hcl (by omega) ho hpre) ?_ ?_ hr' fun q hq' => ?_
      · rw [cnt_set (by omega) hj1, if_pos hlti]; omega
      · exact {
          len := by
            have := hat.len
            simp only [putT]
            split
            · rw [List.length_set]; exact this
            · exact this
          slot := fun q m' o' d hm' ho' hl hd => by
            by_cases e : q = i
            · subst e
              rw [ho] at ho'; injection ho' with ho'; subst ho'
              rw [hm] at hm'; injection hm' with hm'; subst hm'
              simp only [hd, putT, getT_set]
              have := hok.dlt q m o d hm ho hd
              rw [hat.len]; simp [this]
            · have hl2 := (hLi q hl).resolve_left e
              cases hdd : o.dst with
              | none => simp only [putT]; exact hat.slot q m' o' d hm' ho' hl2 hd
              | some d' =>
                simp only [putT, getT_set]
                rw [if_neg, hat.slot q m' o' d hm' ho' hl2 hd]
                intro hh
                exact e (hok.dsts i q m m' o o' d hm hm' ho ho' (by rw [hdd, hh.1]) hd)
          rest := fun d hd => by
            have hdi : o.dst ≠ some d := hd i m o hm ho (by rw [getD_set (by omega)]; simp)
            have hold := hat.rest d fun q m' o' hm' ho' hl => hd q m' o' hm' ho' (by rw [getD_set (by omega)]; split <;> simp [hl])
            cases hdd : o.dst with
            | none => simp only [putT]; exact hold
            | some d' =>
              simp only [putT, getT_set]
              rw [if_neg, hold]
              intro hh
              exact hdi (by rw [hdd, hh.1])
          new := fun q m' k hm' hl hk => by
            by_cases e : q = i
            · subst e
              rw [hm] at hm'; injection hm' with hm'; subst hm'
              exact updAll_congr hk
            · have hl2 := (hLi q hl).resolve_left e
              show updAll st.h m.news k = _
              rw [updAll_not fun hk2 => e (hok.news i q m m' k hm hm' hk2 hk)]
              exact hat.new q m' k hm' hl2 hk
          old := fun k hk => by
            show updAll st.h m.news k = _
            rw [updAll_not (hk i m hm (by rw [getD_set (by omega)]; simp))]
            exact hat.old k fun q m' hm' hl => hk q m' hm' (by rw [getD_set (by omega)]; split <;> simp [hl]) }
      · rw [getD_set (by omega), if_neg (by omega)]
        exact hq q hq'
    · have hall : ∀ p, p < plan.length → L.getD p false = true := fun p hp => by
        cases hl : L.getD p false with
        | true => rfl
        | false => exact absurd ⟨p, hp, hl⟩ hex
      have hps := hok.size
      have hcn := cnt_first hall hq ops.size
      have := atS_fin hok hat hall
      subst this
      exact any_tail hok (fuel + 1) plan.length L a w hs (Nat.le_refl _) hall hq (by omega) (ops_sound htail hr hK)

/-- A region whose order is drawn. -/
theorem v_draw {id : Nat} {st : St} {Q : Exit → St → Prop} (plan : List MOp) (hmix : P.follows .mixedOrders = true) (hok : drawOk ops plan st.t.length = true) (hfree : ∀ (i : Nat) (m : MOp), plan[i]? = some m → ∀ k ∈ keys m.news, st.h k = .gone)
    (hops : EachOp P ops st.t.length (finT ops 0 plan st.t) (finH plan st.h) 0 plan) (htail : Ops P ops (List.range' plan.length (ops.size - plan.length)) ⟨finT ops 0 plan st.t, finH plan st.h⟩ (fun s => Q .normal s)) :
    VWp P (.region id ops true) Q st := by
  intro w0 M0 A0 a w hr
  have hz : ∀ q, (Array.replicate ops.size false).getD q false = false := fun q => by
    simp only [Array.getD_eq_getD_getElem?, Array.getElem?_replicate]; split <;> rfl
  refine wp_region_any hmix (any_head (drawOk_of hok) hfree hops htail (fun st' a' w' h1 h2 => ⟨st', h1, h2⟩) ops.size _ a _ st (by simp) (fun j oj _ hl => absurd hl (by rw [hz]; simp)) ?_ ?_ (rel_drew hr _) fun q _ => hz q)
  · rw [cnt_first (m := 0) (fun p hp => by omega) fun p _ => hz p]; simp
  · exact ⟨rfl, fun i m o d _ _ hl => absurd hl (by rw [hz]; simp), fun d _ => rfl, fun i m k _ hl => absurd hl (by rw [hz]; simp), fun k _ => rfl⟩
end

end Go.Proofs.YtglilpigoocgeaaGreatDoor.V
