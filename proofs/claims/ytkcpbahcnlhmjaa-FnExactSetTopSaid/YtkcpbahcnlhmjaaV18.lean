/-
  Regions whose order is drawn: operations that read or make commute ('v_draw').
-/
import Derived.Test.YtkcpbahcnlhmjaaV17
namespace Go.Proofs.Ytkcpbahcnlhmjaa.V
open Go
set_option linter.unusedVariables false
set_option linter.unusedSimpArgs false

/-- What an operation of a drawn region does: its result, its new objects; the temporaries and objects that it looks at. -/
structure MOp where
  r : Slot
  news : List (Nat × VO)
  reads : List Nat
  objs : List Nat

def finT (ops : Array Oper) : Nat → List MOp → List Slot → List Slot
  | _, [], t => t
  | i, m :: l, t => finT ops (i + 1) l (putT t ((ops[i]?).bind (·.dst)) m.r)
def finH : List MOp → Heap → Heap
  | [], h => h
  | m :: l, h => finH l (updAll h m.news)

def predF (ops : Array Oper) : Nat → Nat → Nat → Bool
  | 0, _, _ => false
  | n + 1, i, p => match ops[i]? with
    | some o => o.after.toList.any fun e => Region.binds .any e && (e.on == p || predF ops n e.on p)
    | none => false
/-- Is 'p' asked for ahead of 'i', straight or through others? -/
def isPred (ops : Array Oper) (i p : Nat) : Bool := predF ops 6 i p

def dstOf (ops : Array Oper) (i : Nat) : Option Nat := (ops[i]?).bind (·.dst)

/-- What is asked of a drawn region's plan (to be reckoned). -/
def drawOk (ops : Array Oper) (plan : List MOp) (len : Nat) : Bool :=
  decide (plan.length ≤ ops.size) &&
  (List.range ops.size).all (fun i => match ops[i]? with
    | some o => o.after.toList.all fun e => decide (e.on < i)
    | none => false) &&
  (List.range plan.length).all (fun i => match plan[i]?, ops[i]? with
    | some m, some o => o.guard.isNone && (match o.dst with | some d => decide (d < len) | none => true) &&
      (List.range ops.size).all (fun p => (decide (p = i) || (match dstOf ops p with | some d => !(m.reads.contains d) || isPred ops i p | none => true)) &&
        (decide (p = i) || decide (plan.length ≤ p) || (dstOf ops p != o.dst) || o.dst.isNone)) &&
      (match o.dst with | some d => !(m.reads.contains d) | none => true) &&
      (List.range plan.length).all (fun p => match plan[p]? with
        | some m' => (decide (p = i) || (keys m'.news).all (fun k => !((keys m.news).contains k) && (!(m.objs.contains k) || isPred ops i p))) && (decide (p ≠ i) || (keys m'.news).all fun k => !(m.objs.contains k))
        | none => true)
    | _, _ => false) &&
  (List.range ops.size).all (fun q => decide (q < plan.length) || (List.range q).all fun p => isPred ops q p)

structure DrawOk (ops : Array Oper) (plan : List MOp) (len : Nat) : Prop where
  size : plan.length ≤ ops.size
  back : ∀ (i : Nat) (o : Oper), ops[i]? = some o → ∀ e ∈ o.after, e.on < i
  guard : ∀ (i : Nat) (m : MOp) (o : Oper), plan[i]? = some m → ops[i]? = some o → o.guard = none
  dlt : ∀ (i : Nat) (m : MOp) (o : Oper) (d : Nat), plan[i]? = some m → ops[i]? = some o → o.dst = some d → d < len
  reads : ∀ (i : Nat) (m : MOp) (p : Nat) (o : Oper) (d : Nat), plan[i]? = some m → ops[p]? = some o → o.dst = some d → d ∈ m.reads → p ≠ i ∧ isPred ops i p = true
  dsts : ∀ (i p : Nat) (m m' : MOp) (o o' : Oper) (d : Nat), plan[i]? = some m → plan[p]? = some m' → ops[i]? = some o → ops[p]? = some o' → o.dst = some d → o'.dst = some d → p = i
  news : ∀ (i p : Nat) (m m' : MOp) (k : Nat), plan[i]? = some m → plan[p]? = some m' → k ∈ keys m.news → k ∈ keys m'.news → p = i
  objs : ∀ (i p : Nat) (m m' : MOp) (k : Nat), plan[i]? = some m → plan[p]? = some m' → k ∈ m.objs → k ∈ keys m'.news → p ≠ i ∧ isPred ops i p = true
  tail : ∀ q p, plan.length ≤ q → q < ops.size → p < q → isPred ops q p = true

theorem drawOk_of {ops : Array Oper} {plan : List MOp} {len : Nat} (h : drawOk ops plan len = true) : DrawOk ops plan len := by
  unfold drawOk at h
  simp only [Bool.and_eq_true, decide_eq_true_eq, List.all_eq_true, List.mem_range] at h
  obtain ⟨⟨⟨h1, h2⟩, h3⟩, h4⟩ := h
  have hlt : ∀ {α : Type} {l : List α} {i : Nat} {x : α}, l[i]? = some x → i < l.length := fun h => (List.getElem?_eq_some_iff.1 h).1
  have hlta : ∀ {i : Nat} {x : Oper}, ops[i]? = some x → i < ops.size := fun h => (Array.getElem?_eq_some_iff.1 h).1
  have key : ∀ {i : Nat} {m : MOp} {o : Oper}, plan[i]? = some m → ops[i]? = some o → _ := fun {i m o} hm ho => by
    have := h3 i (hlt hm)
    rw [hm, ho] at this
    simp only [Bool.and_eq_true, List.all_eq_true, List.mem_range] at this
    exact this
  refine ⟨h1, fun i o ho e he => ?_, fun i m o hm ho => ?_, fun i m o d hm ho hd => ?_, fun i m p o d hm ho hd hr => ?_, fun i p m m' o o' d hm hm' ho ho' hd hd' => ?_, fun i p m m' k hm hm' hk hk' => ?_, fun i p m m' k hm hm' hk hk' => ?_, fun q p hq hq' hp => ?_⟩
  · have := h2 i (hlta ho)
    rw [ho] at this
    simp only [List.all_eq_true, decide_eq_true_eq] at this
    exact this e (by simpa using he)
  · have := (key hm ho).1.1.1.1
    simpa using this
  · have := (key hm ho).1.1.1.2
    rw [hd] at this
    simpa using this
  · obtain ⟨oi, hoi⟩ : ∃ oi, ops[i]? = some oi := ⟨_, Array.getElem?_eq_getElem (Nat.lt_of_lt_of_le (hlt hm) h1)⟩
    have hkk := key hm hoi
    have h5 := (hkk.1.1.2 p (hlta ho)).1
    have hne : p ≠ i := by
      intro e
      subst e
      rw [hoi] at ho
      injection ho with ho
      have := hkk.1.2
      rw [ho, hd] at this
      simp [hr] at this
    refine ⟨hne, ?_⟩
    simp only [dstOf, ho, Option.bind_some, hd] at h5
    simpa [hne, hr] using h5
  · have h5 := ((key hm ho).1.1.2 p (hlta ho')).2
    simp only [dstOf, ho', Option.bind_some, hd, hd'] at h5
    have h6 := hlt hm'
    by_cases e : p = i
    · exact e
    · simp [e] at h5; omega
  · obtain ⟨oi, hoi⟩ : ∃ oi, ops[i]? = some oi := ⟨_, Array.getElem?_eq_getElem (Nat.lt_of_lt_of_le (hlt hm) h1)⟩
    have h5 := (key hm hoi).2 p (hlt hm')
    rw [hm'] at h5
    simp only [Bool.and_eq_true, Bool.or_eq_true, decide_eq_true_eq, List.all_eq_true] at h5
    rcases h5.1 with h6 | h6
    · exact h6
    · have := (h6 k hk').1
      simp at this
      exact absurd hk this
  · obtain ⟨oi, hoi⟩ : ∃ oi, ops[i]? = some oi := ⟨_, Array.getElem?_eq_getElem (Nat.lt_of_lt_of_le (hlt hm) h1)⟩
    have h5 := (key hm hoi).2 p (hlt hm')
    rw [hm'] at h5
    simp only [Bool.and_eq_true, Bool.or_eq_true, decide_eq_true_eq, List.all_eq_true] at h5
    have hne : p ≠ i := by
      intro e
      rcases h5.2 with h6 | h6
      · exact h6 e
      · have := h6 k hk'
        simp at this
        exact this hk
    refine ⟨hne, ?_⟩
    rcases h5.1 with h6 | h6
    · exact absurd h6 hne
    · rcases (h6 k hk').2 with h7 | h7
      · simp at h7; exact absurd hk h7
      · exact h7
  · have := h4 q hq'
    simp only [Bool.or_eq_true, decide_eq_true_eq, List.all_eq_true, List.mem_range] at this
    rcases this with h5 | h5
    · omega
    · exact h5 p hp

/-! ### the state where some have been done -/
structure AtS (ops : Array Oper) (plan : List MOp) (t0 : List Slot) (h0 : Heap) (L : Array Bool) (st : St) : Prop where
  len : st.t.length = t0.length
  slot : ∀ (i : Nat) (m : MOp) (o : Oper) (d : Nat), plan[i]? = some m → ops[i]? = some o → L.getD i false = true → o.dst = some d → getT st.t d = m.r
  rest : ∀ (d : Nat), (∀ (i : Nat) (m : MOp) (o : Oper), plan[i]? = some m → ops[i]? = some o → L.getD i false = true → o.dst ≠ some d) → getT st.t d = getT t0 d
  new : ∀ (i : Nat) (m : MOp) (k : Nat), plan[i]? = some m → L.getD i false = true → k ∈ keys m.news → st.h k = updAll h0 m.news k
  old : ∀ (k : Nat), (∀ (i : Nat) (m : MOp), plan[i]? = some m → L.getD i false = true → k ∉ keys m.news) → st.h k = h0 k

theorem updAll_congr {E : List (Nat × VO)} {h h' : Heap} {k : Nat} (hk : k ∈ keys E) : updAll h E k = updAll h' E k := by
  induction E generalizing h h' with
  | nil => simp [keys] at hk
  | cons x E ih =>
    obtain ⟨j, o⟩ := x
    simp only [updAll]
    by_cases hm : k ∈ keys E
    · exact ih hm
    · rw [updAll_not hm, updAll_not hm]
      simp only [keys, List.map_cons, List.mem_cons] at hk
      have e := hk.resolve_right hm
      subst e
      rw [upd_same, upd_same]

theorem finT_len {ops : Array Oper} : ∀ {plan : List MOp} {i : Nat} {t : List Slot}, (finT ops i plan t).length = t.length
  | [], _, _ => rfl
  | m :: l, i, t => by
    simp only [finT]
    rw [finT_len]
    unfold putT
    split <;> simp
theorem finT_rest {ops : Array Oper} {d : Nat} : ∀ {plan : List MOp} {i : Nat} {t : List Slot}, (∀ (q : Nat) (m : MOp), plan[q]? = some m → dstOf ops (i + q) ≠ some d) → getT (finT ops i plan t) d = getT t d
  | [], _, _, _ => rfl
  | m :: l, i, t, h => by
    simp only [finT]
    rw [finT_rest fun q m' hm => by have := h (q + 1) m' (by simpa using hm); rwa [Nat.add_assoc, Nat.add_comm 1]]
    have h0 := h 0 m rfl
    simp only [Nat.add_zero, dstOf] at h0
    cases hd : (ops[i]?).bind (·.dst) with
    | none => rfl
    | some d' =>
      rw [hd] at h0
      simp only [putT, getT_set]
      rw [if_neg]
      intro hh
      exact h0 (by rw [hh.1])
theorem finT_slot {ops : Array Oper} {d : Nat} : ∀ {plan : List MOp} {i : Nat} {t : List Slot} {q : Nat} {m : MOp}, plan[q]? = some m → dstOf ops (i + q) = some d → d < t.length → (∀ (p : Nat) (m' : MOp), plan[p]? = some m' → dstOf ops (i + p) = some d → p = q) →
    getT (finT ops i plan t) d = m.r
  | [], _, _, q, m, hm, _, _, _ => by simp at hm
  | m0 :: l, i, t, 0, m, hm, hd, hl, hu => by
    simp at hm; subst hm
    simp only [finT]
    rw [finT_rest fun q m' hm' hdd => by
      have := hu (q + 1) m' (by simpa using hm') (by rwa [Nat.add_comm q 1, ← Nat.add_assoc])
      omega]
    simp only [Nat.add_zero, dstOf] at hd
    rw [hd]
    simp only [putT, getT_set]
    simp [hl]
  | m0 :: l, i, t, q + 1, m, hm, hd, hl, hu => by
    simp only [finT]
    refine finT_slot (q := q) (by simpa using hm) (by rwa [Nat.add_assoc, Nat.add_comm 1]) ?_ fun p m' hp hdp => ?_
    · unfold putT; split <;> simpa using hl
    · have := hu (p + 1) m' (by simpa using hp) (by rwa [Nat.add_comm p 1, ← Nat.add_assoc])
      omega
theorem finH_old {k : Nat} : ∀ {plan : List MOp} {h : Heap}, (∀ (q : Nat) (m : MOp), plan[q]? = some m → k ∉ keys m.news) → finH plan h k = h k
  | [], _, _ => rfl
  | m :: l, h, hk => by
    simp only [finH]
    rw [finH_old fun q m' hm => hk (q + 1) m' (by simpa using hm), updAll_not (hk 0 m rfl)]
theorem finH_new {k : Nat} : ∀ {plan : List MOp} {h : Heap} {q : Nat} {m : MOp}, plan[q]? = some m → k ∈ keys m.news → (∀ (p : Nat) (m' : MOp), plan[p]? = some m' → k ∈ keys m'.news → p = q) → ∀ h', finH plan h k = updAll h' m.news k
  | [], _, q, m, hm, _, _, _ => by simp at hm
  | m0 :: l, h, 0, m, hm, hk, hu, h' => by
    simp at hm; subst hm
    simp only [finH]
    rw [finH_old fun q m' hm' hkk => by have := hu (q + 1) m' (by simpa using hm') hkk; omega]
    exact updAll_congr hk
  | m0 :: l, h, q + 1, m, hm, hk, hu, h' => by
    simp only [finH]
    exact finH_new (q := q) (by simpa using hm) hk (fun p m' hp hkk => by have := hu (p + 1) m' (by simpa using hp) hkk; omega) h'

theorem touch_drew {h : Heap} {w : World} {locs : Locs} {RO : Nat → Prop} (n : Nat) : Touch h w locs h { w with drawn := n } locs RO (· ∈ ([] : List Nat)) (fun _ => False) (fun _ => False) where
  kept := ⟨rfl, rfl, rfl, Nat.le_refl _, fun _ _ _ => rfl⟩
  only b hb := hb.elim
  same j hj := ⟨rfl, rfl⟩
  obj j hj := by simp at hj
  cells j hj := by simp at hj
  live j hj := by simp at hj
  nodup j hj := by simp at hj
  foot j hj := by simp at hj
  disj j l hj := by simp at hj
  step j hj := by simp at hj
  sub o ho := ho.elim
  clean _ _ _ _ _ _ _ := not_false
  fresh o ho := by simp at ho
  killed o ho := ho.elim
theorem rel_drew {w0 : World} {M0 : Nat → Prop} {A0 : Cx} {st : St} {a : Act} {w : World} (hr : Rel w0 M0 A0 st a w) (n : Nat) : Rel w0 M0 A0 st a { w with drawn := n } := by
  obtain ⟨locs, RO, hg, hm⟩ := hr
  exact ⟨locs, RO, hg.step (touch_drew n), Tmps.step hg (touch_drew n) hm fun _ _ _ => not_false⟩

/-! ### counting what is listed -/
def cnt (L : Array Bool) : Nat → Nat
  | 0 => 0
  | n + 1 => cnt L n + if L.getD n false = true then 1 else 0
theorem getD_set {L : Array Bool} {i j : Nat} (hi : i < L.size) (d : Bool) : (L.setIfInBounds i true).getD j d = if i = j then true else L.getD j d := by
  simp only [Array.getD_eq_getD_getElem?, Array.getElem?_setIfInBounds]
  by_cases e : i = j
  · subst e; simp [hi]
  · simp [e]
theorem cnt_le (L : Array Bool) : ∀ n, cnt L n ≤ n
  | 0 => Nat.le_refl _
  | n + 1 => by
    have := cnt_le L n
    simp only [cnt]; split <;> omega
theorem cnt_set {L : Array Bool} {i : Nat} (hi : i < L.size) (hf : L.getD i false = false) : ∀ n, cnt (L.setIfInBounds i true) n = cnt L n + if i < n then 1 else 0
  | 0 => by simp [cnt]
  | n + 1 => by
    simp only [cnt, getD_set hi, cnt_set hi hf n]
    by_cases e : i = n
    · subst e; simp [hf]
    · by_cases hl : i < n
      · simp [e, hl, Nat.lt_succ_of_lt hl]; omega
      · have : ¬ i < n + 1 := by omega
        simp [e, hl, this]
theorem cnt_first {L : Array Bool} {m : Nat} (h1 : ∀ p, p < m → L.getD p false = true) (h2 : ∀ p, m ≤ p → L.getD p false = false) : ∀ n, cnt L n = min m n
  | 0 => by simp [cnt]
  | n + 1 => by
    simp only [cnt, cnt_first h1 h2 n]
    by_cases e : n < m
    · rw [if_pos (h1 n e)]; omega
    · rw [h2 n (by omega)]; simp; omega
theorem cnt_full {L : Array Bool} : ∀ {n : Nat}, cnt L n = n → ∀ p, p < n → L.getD p false = true
  | 0, _, p, hp => by omega
  | n + 1, h, p, hp => by
    simp only [cnt] at h
    have := cnt_le L n
    split at h
    · rename_i hn
      by_cases e : p = n
      · subst e; exact hn
      · exact cnt_full (n := n) (by omega) p (by omega)
    · omega

section
variable {P : Program} {ops : Array Oper} {R : Exit → Act → World → Prop}

theorem getD_both {L : Array Bool} {i : Nat} (hi : i < L.size) : L.getD i true = L.getD i false := by simp [Array.getD, hi]

def Closed (ops : Array Oper) (L : Array Bool) : Prop := ∀ (i : Nat) (o : Oper), ops[i]? = some o → L.getD i false = true → ∀ e ∈ o.after, Region.binds .any e = true → L.getD e.on false = true
theorem predF_of {L : Array Bool} (hc : Closed ops L) : ∀ {n i p : Nat} {o : Oper}, ops[i]? = some o → (∀ e ∈ o.after, Region.binds .any e = true → L.getD e.on false = true) → predF ops n i p = true → L.getD p false = true
  | 0, i, p, o, _, _, h => by simp [predF] at h
  | n + 1, i, p, o, ho, hall, h => by
    simp only [predF, ho, List.any_eq_true, Bool.and_eq_true, Bool.or_eq_true, beq_iff_eq] at h
    obtain ⟨e, he, hb, h⟩ := h
    have hl := hall e (by simpa using he) hb
    rcases h with h | h
    · rw [← h]; exact hl
    · cases ho2 : ops[e.on]? with
      | none => cases n <;> simp [predF, ho2] at h
      | some o2 => exact predF_of hc ho2 (hc e.on o2 ho2 hl) h
theorem isPred_of {L : Array Bool} (hc : Closed ops L) {i p : Nat} {o : Oper} (ho : ops[i]? = some o) (hall : ∀ e ∈ o.after, Region.binds .any e = true → L.getD e.on false = true) (h : isPred ops i p = true) : L.getD p false = true :=
  predF_of hc ho hall h
theorem closed_set {L : Array Bool} (hc : Closed ops L) {i : Nat} {o : Oper} (hi : i < L.size) (ho : ops[i]? = some o) (hall : ∀ e ∈ o.after, Region.binds .any e = true → L.getD e.on false = true) : Closed ops (L.setIfInBounds i true) := by
  intro j oj hoj hl e he hb
  rw [getD_set hi] at hl ⊢
  split
  · rfl
  · split at hl
    · rename_i hij
      subst hij
      rw [ho] at hoj; injection hoj with hoj; subst hoj
      exact hall e he hb
    · exact hc j oj hoj hl e he hb

theorem any_tail {plan : List MOp} {len : Nat} (hok : DrawOk ops plan len) : ∀ (fuel n : Nat) (L : Array Bool) (a : Act) (w : World), L.size = ops.size → plan.length ≤ n → (∀ p, p < n → L.getD p false = true) → (∀ p, n ≤ p → L.getD p false = false) →
    fuel + n = ops.size → wpOps P ops R (List.range' n (ops.size - n)) a w → wpAny P .any ops R fuel L a w := by
  intro fuel
  induction fuel with
  | zero =>
    intro n L a w hs hp h1 h2 hf hw
    have e : n = ops.size := by omega
    subst e
    refine ⟨?_, by simpa [wpOps] using hw⟩
    apply List.eq_nil_iff_forall_not_mem.2
    intro j hj
    obtain ⟨hj1, o, ho, _⟩ := mem_ready.1 hj
    have hlt := (Array.getElem?_eq_some_iff.1 ho).1
    rw [getD_both (by omega), h1 j hlt] at hj1
    cases hj1
  | succ fuel ih =>
    intro n L a w hs hp h1 h2 hf hw
    have hn : n < ops.size := by omega
    obtain ⟨on, hon⟩ : ∃ o, ops[n]? = some o := ⟨_, Array.getElem?_eq_getElem hn⟩
    have hmem : n ∈ Region.ready .any ops L := mem_ready.2 ⟨by rw [getD_both (by omega)]; exact h2 n (Nat.le_refl _), on, hon, fun e he _ => h1 _ (hok.back n on hon e he)⟩
    refine ⟨fun hnil => (by rw [hnil] at hmem; cases hmem), fun i hi => ?_⟩
    obtain ⟨hj1, o, ho, hall⟩ := mem_ready.1 hi
    have hlt := (Array.getElem?_eq_some_iff.1 ho).1
    rw [getD_both (by omega)] at hj1
    have hin : i = n := by
      rcases Nat.lt_trichotomy i n with hl | hl | hl
      · rw [h1 i hl] at hj1; cases hj1
      · exact hl
      · have hcl : Closed ops L := fun j oj hoj hlj e he hb => by
          have hjn : j < n := by
            rcases Nat.lt_or_ge j n with h3 | h3
            · exact h3
            · rw [h2 j h3] at hlj; cases hlj
          exact h1 _ (by have := hok.back j oj hoj e he; omega)
        have := isPred_of hcl ho hall (hok.tail i n (by omega) hlt hl)
        rw [h2 n (Nat.le_refl _)] at this; cases this
    subst hin
    rw [show ops.size - i = (ops.size - (i + 1)) + 1 by omega, List.range'_succ, wpOps_cons] at hw
    refine wpOp_mono (fun a' w' hw' => ih (i + 1) _ a' w' (by simp [hs]) (by omega) (fun p hp' => ?_) (fun p hp' => ?_) (by omega) hw') hw
    · rw [getD_set (by omega)]
      split
      · rfl
      · exact h1 p (by omega)
    · rw [getD_set (by omega), if_neg (by omega)]
      exact h2 p (by omega)

def EachOp (P : Program) (ops : Array Oper) (len : Nat) (tF : List Slot) (hF : Heap) : Nat → List MOp → Prop
  | _, [] => True
  | i, m :: l => (∀ o, ops[i]? = some o → ∀ t h, t.length = len → (∀ j ∈ m.reads, getT t j = getT tF j) → (∀ k ∈ m.objs, h k = hF k) → (∀ k ∈ keys m.news, h k = .gone) → Does P o ⟨t, h⟩ ⟨putT t o.dst m.r, updAll h m.news⟩) ∧
      EachOp P ops len tF hF (i + 1) l

theorem EachOp.get {len : Nat} {tF : List Slot} {hF : Heap} : ∀ {plan : List MOp} {i : Nat}, EachOp P ops len tF hF i plan → ∀ (q : Nat) (m : MOp), plan[q]? = some m → ∀ o, ops[i + q]? = some o → ∀ t h, t.length = len → (∀ j ∈ m.reads, getT t j = getT tF j) →
    (∀ k ∈ m.objs, h k = hF k) → (∀ k ∈ keys m.news, h k = .gone) → Does P o ⟨t, h⟩ ⟨putT t o.dst m.r, updAll h m.news⟩
  | [], i, _, q, m, hm => by simp at hm
  | m0 :: l, i, he, 0, m, hm => by simp at hm; subst hm; exact he.1
  | m0 :: l, i, he, q + 1, m, hm => by
    have := EachOp.get he.2 q m (by simpa using hm)
    rwa [Nat.add_assoc, Nat.add_comm 1] at this

theorem atS_fin {plan : List MOp} {t0 : List Slot} {h0 : Heap} {L : Array Bool} {st : St} (hok : DrawOk ops plan t0.length) (hat : AtS ops plan t0 h0 L st) (hall : ∀ p, p < plan.length → L.getD p false = true) :
    st = ⟨finT ops 0 plan t0, finH plan h0⟩ := by
  have hlt : ∀ {i : Nat} {x : MOp}, plan[i]? = some x → i < plan.length := fun h => (List.getElem?_eq_some_iff.1 h).1
  obtain ⟨t, h⟩ := st
  have e1 : t = finT ops 0 plan t0 := by
    apply List.ext_getElem
    · rw [finT_len]; exact hat.len
    · intro d hd1 hd2
      have key : getT t d = getT (finT ops 0 plan t0) d := by
        by_cases hex : ∃ (i : Nat) (m : MOp) (o : Oper), plan[i]? = some m ∧ ops[i]? = some o ∧ o.dst = some d
        · obtain ⟨i, m, o, hm, ho, hd⟩ := hex
          rw [hat.slot i m o d hm ho (hall i (hlt hm)) hd, finT_slot (q := i) hm (by simp [dstOf, ho, hd]) (by rw [← hat.len]; exact hd1) fun p m' hp hdp => ?_]
          simp only [dstOf, Nat.zero_add] at hdp
          obtain ⟨o', ho', hd'⟩ := Option.bind_eq_some_iff.1 hdp
          exact hok.dsts i p m m' o o' d hm hp ho ho' hd hd'
        · rw [hat.rest d fun i m o hm ho _ hd => hex ⟨i, m, o, hm, ho, hd⟩, finT_rest fun q m hm hd => ?_]
          simp only [dstOf, Nat.zero_add] at hd
          obtain ⟨o', ho', hd'⟩ := Option.bind_eq_some_iff.1 hd
          exact hex ⟨q, m, o', hm, ho', hd'⟩
      simpa [getT, List.getD_eq_getElem?_getD, hd1, hd2] using key
  have e2 : h = finH plan h0 := by
    funext k
    by_cases hex : ∃ (i : Nat) (m : MOp), plan[i]? = some m ∧ k ∈ keys m.news
    · obtain ⟨i, m, hm, hk⟩ := hex
      rw [finH_new hm hk (fun p m' hp hk' => hok.news i p m m' k hm hp hk hk') h0]
      exact hat.new i m k hm (hall i (hlt hm)) hk
    · rw [finH_old fun q m hm hk => hex ⟨q, m, hm, hk⟩]
      exact hat.old k fun i m hm _ hk => hex ⟨i, m, hm, hk⟩
  rw [e1, e2]

theorem least_unlisted {L : Array Bool} : ∀ {n : Nat}, (∃ p, p < n ∧ L.getD p false = false) → ∃ p, p < n ∧ L.getD p false = false ∧ ∀ q, q < p → L.getD q false = true
  | 0, ⟨p, hp, _⟩ => by omega
  | n + 1, ⟨p, hp, hf⟩ => by
    by_cases hex : ∃ p, p < n ∧ L.getD p false = false
    · obtain ⟨q, h1, h2, h3⟩ := least_unlisted hex
      exact ⟨q, by omega, h2, h3⟩
    · have e : p = n := by
        rcases Nat.lt_or_ge p n with h1 | h1
        · exact absurd ⟨p, h1, hf⟩ hex
        · omega
      subst e
      refine ⟨p, by omega, hf, fun q hq => ?_⟩
      cases hl : L.getD q false with
      | true => rfl
      | false => exact absurd ⟨q, hq, hl⟩ hex

theorem any_head {plan : List MOp} {t0 : List Slot} {h0 : Heap} {w0 : World} {M0 : Nat → Prop} {A0 : Cx} {K : St → Prop} (hok : DrawOk ops plan t0.length) (hfree : ∀ (i : Nat) (m : MOp), plan[i]? = some m → ∀ k ∈ keys m.news, h0 k = .gone)
    (hops : EachOp P ops t0.length (finT ops 0 plan t0) (finH plan h0) 0 plan) (htail : Ops P ops (List.range' plan.length (ops.size - plan.length)) ⟨finT ops 0 plan t0, finH plan h0⟩ K)
    (hK : ∀ st' a' w', K st' → Rel w0 M0 A0 st' a' w' → R .normal a' w') : ∀ (fuel : Nat) (L : Array Bool) (a : Act) (w : World) (st : St), L.size = ops.size → Closed ops L → fuel + cnt L ops.size = ops.size → AtS ops plan t0 h0 L st → Rel w0 M0 A0 st a w →
      (∀ q, plan.length ≤ q → L.getD q false = false) → wpAny P .any ops R fuel L a w := by
  have hlt : ∀ {i : Nat} {x : MOp}, plan[i]? = some x → i < plan.length := fun h => (List.getElem?_eq_some_iff.1 h).1
  intro fuel
  induction fuel with
  | zero =>
    intro L a w st hs hcl hc hat hr hq
    have hall := cnt_full (L := L) (n := ops.size) (by omega)
    have hps := hok.size
    have e : plan.length = ops.size := by
      rcases Nat.lt_or_ge plan.length ops.size with h1 | h1
      · have := hall _ h1; rw [hq _ (Nat.le_refl _)] at this; cases this
      · omega
    have := atS_fin hok hat fun p hp => hall p (by omega)
    subst this
    exact any_tail hok 0 plan.length L a w hs (Nat.le_refl _) (fun p hp => hall p (by omega)) hq (by omega) (ops_sound htail hr hK)
  | succ fuel ih =>
    intro L a w st hs hcl hc hat hr hq
    by_cases hex : ∃ p, p < plan.length ∧ L.getD p false = false
    · obtain ⟨p, hp1, hp2, hp3⟩ := least_unlisted hex
      have hps := hok.size
      obtain ⟨op, hop⟩ : ∃ o, ops[p]? = some o := ⟨_, Array.getElem?_eq_getElem (by omega)⟩
      have hmem : p ∈ Region.ready .any ops L := mem_ready.2 ⟨by rw [getD_both (by omega)]; exact hp2, op, hop, fun e he _ => hp3 _ (hok.back p op hop e he)⟩
      refine ⟨fun hnil => (by rw [hnil] at hmem; cases hmem), fun i hi => ?_⟩
      obtain ⟨hj1, o, ho, hpre⟩ := mem_ready.1 hi
      have hlti := (Array.getElem?_eq_some_iff.1 ho).1
      rw [getD_both (by omega)] at hj1
      have hi2 : i < plan.length := by
        rcases Nat.lt_or_ge i plan.length with h1 | h1
        · exact h1
        · have := isPred_of hcl ho hpre (hok.tail i p h1 hlti (by omega))
          rw [hp2] at this; cases this
      obtain ⟨m, hm⟩ : ∃ m, plan[i]? = some m := ⟨_, List.getElem?_eq_getElem hi2⟩
      have hpred : ∀ p, isPred ops i p = true → L.getD p false = true := fun p hp => by
        exact isPred_of hcl ho hpre hp
      have hgone : ∀ k ∈ keys m.news, st.h k = .gone := fun k hk => by
        rw [hat.old k fun q m' hm' hl hk' => ?_]
        · exact hfree i m hm k hk
        · have := hok.news i q m m' k hm hm' hk hk'
          subst this
          rw [hj1] at hl; cases hl
      have hdoes := hops.get i m hm o (by simpa using ho) st.t st.h hat.len (fun j hj => by
        by_cases hw : ∃ (q : Nat) (m' : MOp) (o' : Oper), plan[q]? = some m' ∧ ops[q]? = some o' ∧ o'.dst = some j
        · obtain ⟨q, m', o', hm', ho', hd'⟩ := hw
          have hlq := hpred q (hok.reads i m q o' j hm ho' hd' hj).2
          rw [hat.slot q m' o' j hm' ho' hlq hd', finT_slot (q := q) hm' (by simp [dstOf, ho', hd']) (hok.dlt q m' o' j hm' ho' hd') fun p m2 hp hdp => ?_]
          simp only [dstOf, Nat.zero_add] at hdp
          obtain ⟨o2, ho2, hd2⟩ := Option.bind_eq_some_iff.1 hdp
          exact hok.dsts q p m' m2 o' o2 j hm' hp ho' ho2 hd' hd2
        · rw [hat.rest j fun q m' o' hm' ho' _ hd => hw ⟨q, m', o', hm', ho', hd⟩, finT_rest fun q m' hm' hd => ?_]
          simp only [dstOf, Nat.zero_add] at hd
          obtain ⟨o', ho', hd'⟩ := Option.bind_eq_some_iff.1 hd
          exact hw ⟨q, m', o', hm', ho', hd'⟩) (fun k hk => by
        by_cases hw : ∃ (q : Nat) (m' : MOp), plan[q]? = some m' ∧ k ∈ keys m'.news
        · obtain ⟨q, m', hm', hk'⟩ := hw
          have hlq := hpred q (hok.objs i q m m' k hm hm' hk hk').2
          rw [hat.new q m' k hm' hlq hk', finH_new hm' hk' (fun p m2 hp hk2 => hok.news q p m' m2 k hm' hp hk' hk2) h0]
        · rw [hat.old k fun q m' hm' _ hk' => hw ⟨q, m', hm', hk'⟩, finH_old fun q m' hm' hk' => hw ⟨q, m', hm', hk'⟩]) hgone
      have hwant : Region.wanted o (yielded ops a.tmps) = true := by simp [Region.wanted, hok.guard i m o hm ho]
      unfold wpOp
      simp only [ho, if_pos hwant]
      refine .inl (hdoes w0 M0 A0 a w _ _ hr fun a' w' hr' => ?_)
      have hLi : ∀ q, (L.setIfInBounds i true).getD q false = true → q = i ∨ L.getD q false = true := fun q hq' => by
        rw [getD_set (by omega)] at hq'
        split at hq'
        · rename_i e; exact .inl e.symm
        · exact .inr hq'
      refine ih _ a' w' _ (by simp [hs]) (closed_set hcl (by omega) ho hpre) ?_ ?_ hr' fun q hq' => ?_
      · rw [cnt_set (by omega) hj1, if_pos hlti]; omega
      · exact {
          len := by
            have := hat.len
            simp only [putT]
            split
            · rw [List.length_set]; exact this
            · exact this
          slot := fun q m' o' d hm' ho' hl hd => by
            by_cases e : q = i
            · subst e
              rw [ho] at ho'; injection ho' with ho'; subst ho'
              rw [hm] at hm'; injection hm' with hm'; subst hm'
              simp only [hd, putT, getT_set]
              have := hok.dlt q m o d hm ho hd
              rw [hat.len]; simp [this]
            · have hl2 := (hLi q hl).resolve_left e
              cases hdd : o.dst with
              | none => simp only [putT]; exact hat.slot q m' o' d hm' ho' hl2 hd
              | some d' =>
                simp only [putT, getT_set]
                rw [if_neg, hat.slot q m' o' d hm' ho' hl2 hd]
                intro hh
                exact e (hok.dsts i q m m' o o' d hm hm' ho ho' (by rw [hdd, hh.1]) hd)
          rest := fun d hd => by
            have hdi : o.dst ≠ some d := hd i m o hm ho (by rw [getD_set (by omega)]; simp)
            have hold := hat.rest d fun q m' o' hm' ho' hl => hd q m' o' hm' ho' (by rw [getD_set (by omega)]; split <;> simp [hl])
            cases hdd : o.dst with
            | none => simp only [putT]; exact hold
            | some d' =>
              simp only [putT, getT_set]
              rw [if_neg, hold]
              intro hh
              exact hdi (by rw [hdd, hh.1])
          new := fun q m' k hm' hl hk => by
            by_cases e : q = i
            · subst e
              rw [hm] at hm'; injection hm' with hm'; subst hm'
              exact updAll_congr hk
            · have hl2 := (hLi q hl).resolve_left e
              show updAll st.h m.news k = _
              rw [updAll_not fun hk2 => e (hok.news i q m m' k hm hm' hk2 hk)]
              exact hat.new q m' k hm' hl2 hk
          old := fun k hk => by
            show updAll st.h m.news k = _
            rw [updAll_not (hk i m hm (by rw [getD_set (by omega)]; simp))]
            exact hat.old k fun q m' hm' hl => hk q m' hm' (by rw [getD_set (by omega)]; split <;> simp [hl]) }
      · rw [getD_set (by omega), if_neg (by omega)]
        exact hq q hq'
    · have hall : ∀ p, p < plan.length → L.getD p false = true := fun p hp => by
        cases hl : L.getD p false with
        | true => rfl
        | false => exact absurd ⟨p, hp, hl⟩ hex
      have hps := hok.size
      have hcn := cnt_first hall hq ops.size
      have := atS_fin hok hat hall
      subst this
      exact any_tail hok (fuel + 1) plan.length L a w hs (Nat.le_refl _) hall hq (by omega) (ops_sound htail hr hK)

/-- A region whose order is drawn. -/
theorem v_draw {id : Nat} {st : St} {Q : Exit → St → Prop} (plan : List MOp) (hmix : P.follows .mixedOrders = true) (hok : drawOk ops plan st.t.length = true) (hfree : ∀ (i : Nat) (m : MOp), plan[i]? = some m → ∀ k ∈ keys m.news, st.h k = .gone)
    (hops : EachOp P ops st.t.length (finT ops 0 plan st.t) (finH plan st.h) 0 plan) (htail : Ops P ops (List.range' plan.length (ops.size - plan.length)) ⟨finT ops 0 plan st.t, finH plan st.h⟩ (fun s => Q .normal s)) :
    VWp P (.region id ops true) Q st := by
  intro w0 M0 A0 a w hr
  have hz : ∀ q, (Array.replicate ops.size false).getD q false = false := fun q => by
    simp only [Array.getD_eq_getD_getElem?, Array.getElem?_replicate]; split <;> rfl
  refine wp_region_any hmix (any_head (drawOk_of hok) hfree hops htail (fun st' a' w' h1 h2 => ⟨st', h1, h2⟩) ops.size _ a _ st (by simp) (fun j oj _ hl => absurd hl (by rw [hz]; simp)) ?_ ?_ (rel_drew hr _) fun q _ => hz q)
  · rw [cnt_first (m := 0) (fun p hp => by omega) fun p _ => hz p]; simp
  · exact ⟨rfl, fun i m o d _ _ hl => absurd hl (by rw [hz]; simp), fun d _ => rfl, fun i m k _ hl => absurd hl (by rw [hz]; simp), fun k _ => rfl⟩
end

end Go.Proofs.Ytkcpbahcnlhmjaa.V
