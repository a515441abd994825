/-
  Steps of the world under a state: what has not been touched lives on ('Good.step', 'Rel.step'); new blocks, stores.
-/
import Derived.Test.YtkcpbahcnlhmjaaV2
namespace Go.Proofs.Ytkcpbahcnlhmjaa.V
open Go
set_option linter.unusedVariables false

section
variable {w0 : World} {M0 : Nat → Prop} {A0 : Cx} {h h' : Heap} {w w' : World} {locs locs' : Locs} {RO : Nat → Prop}

theorem cell_block {w : World} {b j : Nat} {arr : Array Value} {ty : TypeId} {fr : Nat × Nat} (h : w.heap[b]? = some (.cells arr ty fr)) : w.cell? ⟨b, j, none⟩ = arr[j]? := by
  simp [World.cell?, h]

theorem cell_same {w w' : World} {b j : Nat} (h : w'.heap[b]? = w.heap[b]?) : w'.cell? ⟨b, j, none⟩ = w.cell? ⟨b, j, none⟩ := by
  simp only [World.cell?, h]

/-- What has been touched: 'T'; the blocks that have turned: 'N'; what is gone: 'K' (no value names it any more). -/
structure Touch (h : Heap) (w : World) (locs : Locs) (h' : Heap) (w' : World) (locs' : Locs) (RO : Nat → Prop) (T N K : Nat → Prop) : Prop where
  kept : Kept N w w'
  only : ∀ b, N b → ∃ k, T k ∧ b ∈ (locs k).foot
  same : ∀ k, ¬ T k → h' k = h k ∧ locs' k = locs k
  obj : ∀ k, T k → ObjOk w' RO (h' k) (locs' k)
  cells : ∀ k, T k → ∀ cs, h' k = .var cs → ∀ arr ty fr, w'.heap[(locs' k).b]? = some (.cells arr ty fr) → All2 (VRel locs' h' w' RO) cs arr.toList
  live : ∀ k, T k → ∀ cs, h' k = .var cs → ∀ x ∈ cs, ∀ o ∈ x.refs, h' o ≠ .gone
  nodup : ∀ k, T k → (locs' k).foot.Nodup
  foot : ∀ k, T k → ∀ b ∈ (locs' k).foot, w.heap.size ≤ b ∨ ∃ l, T l ∧ b ∈ (locs l).foot
  disj : ∀ k l, T k → T l → k ≠ l → ∀ b ∈ (locs' k).foot, b ∉ (locs' l).foot
  step : ∀ o, T o → ¬ K o → OStep locs h w locs' h' w' o
  sub : ∀ o, K o → T o
  fresh : ∀ o, T o → h o = .gone → ∀ n es dp ver, h' o ≠ .row n es dp 0 ver
  killed : ∀ o, K o → h' o = .gone
  clean : ∀ k cs, h k = .var cs → ∀ x ∈ cs, ∀ o ∈ x.refs, ¬ K o

variable {T N K : Nat → Prop}

theorem Good.unturned (hg : Good w0 M0 A0 h w locs RO) (ht : Touch h w locs h' w' locs' RO T N K) {k : Nat} (hk : ¬ T k) : ∀ b ∈ (locs k).foot, w'.heap[b]? = w.heap[b]? := by
  intro b hb
  refine ht.kept.blk b (hg.lt hb) fun hn => ?_
  obtain ⟨l, hl, hbl⟩ := ht.only b hn
  exact hg.disj k l (fun e => hk (e ▸ hl)) b hb hbl

theorem Good.roStays (hg : Good w0 M0 A0 h w locs RO) (ht : Touch h w locs h' w' locs' RO T N K) : ∀ b, RO b → RO b ∧ w'.heap[b]? = w.heap[b]? := by
  intro b hb
  refine ⟨hb, ht.kept.blk b (hg.rolt b hb) fun hn => ?_⟩
  obtain ⟨l, _, hbl⟩ := ht.only b hn
  exact hg.noro l b hbl hb

theorem Good.ostep (hg : Good w0 M0 A0 h w locs RO) (ht : Touch h w locs h' w' locs' RO T N K) {o : Nat} (hK : ¬ K o) : OStep locs h w locs' h' w' o := by
  by_cases hT : T o
  · exact ht.step o hT hK
  · obtain ⟨e1, e2⟩ := ht.same o hT
    unfold OStep
    have hob := hg.obj o
    have hun := hg.unturned ht hT
    cases hh : h o with
    | gone => trivial
    | var cs => exact ⟨⟨cs, by rw [e1, hh]⟩, by rw [e2]⟩
    | row n es dp g ver =>
      refine ⟨es, dp, g, ver, by rw [e1, hh], Nat.le_refl _, Nat.le_refl _, fun _ => by rw [e2]; exact ⟨rfl, rfl, rfl, rfl⟩, fun hd _ => ⟨hd, fun i j e m us v h1 h2 h3 => ⟨⟨e, m, us, h1, h2⟩, ?_⟩⟩⟩
      rw [e2]
      rw [hh] at hob
      obtain ⟨he, hx | ⟨h0, arr, ty, G, hb, _, _, _, k1, k2⟩⟩ := hob
      · rw [hx.2.1] at h1; simp at h1
      · rw [cell_same (hun _ _)]
        · exact h3
        · cases dp with
          | true => rw [k1 rfl]; simp
          | false => rw [(k2 rfl).1]; simp

theorem Good.step (hg : Good w0 M0 A0 h w locs RO) (ht : Touch h w locs h' w' locs' RO T N K) : Good w0 M0 A0 h' w' locs' RO where
  obj k := by
    by_cases hT : T k
    · exact ht.obj k hT
    · obtain ⟨e1, e2⟩ := ht.same k hT
      rw [e1, e2]
      exact (hg.obj k).frame (hg.unturned ht hT) (hg.roStays ht)
  cells k cs hk arr ty fr hb := by
    by_cases hT : T k
    · exact ht.cells k hT cs hk arr ty fr hb
    · obtain ⟨e1, e2⟩ := ht.same k hT
      rw [e1] at hk
      rw [e2] at hb
      have hob := hg.obj k
      rw [hk] at hob
      rw [hg.unturned ht hT _ (by rw [hob.1]; simp)] at hb
      exact (hg.cells k cs hk arr ty fr hb).mono fun a b ha hr => hr.carry (hg.roStays ht) fun o ho => hg.ostep ht (ht.clean k cs hk a ha o ho)
  live k cs hk x hx o ho := by
    by_cases hT : T k
    · exact ht.live k hT cs hk x hx o ho
    · obtain ⟨e1, e2⟩ := ht.same k hT
      rw [e1] at hk
      have h1 := hg.live k cs hk x hx o ho
      have h2 := hg.ostep ht (ht.clean k cs hk x hx o ho)
      unfold OStep at h2
      intro e
      cases hh : h o with
      | gone => exact h1 hh
      | var cs => rw [hh] at h2; obtain ⟨⟨_, h3⟩, _⟩ := h2; rw [e] at h3; cases h3
      | row n es dp g ver => rw [hh] at h2; obtain ⟨_, _, _, _, h3, _⟩ := h2; rw [e] at h3; cases h3
  nodup k := by
    by_cases hT : T k
    · exact ht.nodup k hT
    · rw [(ht.same k hT).2]; exact hg.nodup k
  disj k l hkl b hb := by
    by_cases hk : T k
    · by_cases hl : T l
      · exact ht.disj k l hk hl hkl b hb
      · rw [(ht.same l hl).2]
        intro hbl
        rcases ht.foot k hk b hb with h1 | ⟨m, hm, h1⟩
        · have := hg.lt hbl; omega
        · exact hg.disj m l (fun e => hl (e ▸ hm)) b h1 hbl
    · rw [(ht.same k hk).2] at hb
      by_cases hl : T l
      · intro hbl
        rcases ht.foot l hl b hbl with h1 | ⟨m, hm, h1⟩
        · have := hg.lt hb; omega
        · exact hg.disj k m (fun e => hk (e ▸ hm)) b hb h1
      · rw [(ht.same l hl).2]; exact hg.disj k l hkl b hb
  noro k b hb hro := by
    by_cases hT : T k
    · rcases ht.foot k hT b hb with h1 | ⟨m, hm, h1⟩
      · have := hg.rolt b hro; omega
      · exact hg.noro m b h1 hro
    · rw [(ht.same k hT).2] at hb
      exact hg.noro k b hb hro
  rolt b hb := Nat.lt_of_lt_of_le (hg.rolt b hb) ht.kept.size
  kept := hg.kept.step ht.kept fun i hi hn => by
    obtain ⟨k, _, hb⟩ := ht.only i hn
    rcases hg.mfoot k i hb with h1 | h1
    · exact h1
    · omega
  mfoot k b hb := by
    by_cases hT : T k
    · rcases ht.foot k hT b hb with h1 | ⟨m, hm, h1⟩
      · have := hg.kept.size; right; omega
      · exact hg.mfoot m b h1
    · rw [(ht.same k hT).2] at hb
      exact hg.mfoot k b hb
  share b hb := hg.share b hb
  pin k L hL n es dp ver hk := by
    by_cases hT : T k
    · by_cases hK : K k
      · rw [ht.killed k hK] at hk; cases hk
      · have h1 := ht.step k hT hK
        unfold OStep at h1
        cases hh : h k with
        | gone => exact absurd hk (ht.fresh k hT hh n es dp ver)
        | var cs => rw [hh] at h1; obtain ⟨⟨_, h3⟩, _⟩ := h1; rw [hk] at h3; cases h3
        | row n' es' dp' g' ver' =>
          rw [hh] at h1
          obtain ⟨_, _, g2, _, h3, h4, _, h5, _⟩ := h1
          rw [hk] at h3
          injection h3 with a1 a2 a3 a4 a5
          have e0 : g' = 0 := by omega
          subst e0
          obtain ⟨b1, b2, b3, b4⟩ := hg.pin k L hL n' es' dp' ver' hh
          obtain ⟨c1, c2, c3, c4⟩ := h5 a4.symm
          exact ⟨c1.trans b1, c2.trans b2, c3.trans b3, c4.trans b4⟩
    · obtain ⟨e1, e2⟩ := ht.same k hT
      rw [e1] at hk
      rw [e2]
      exact hg.pin k L hL n es dp ver hk

theorem ostep_live {o : Nat} (h1 : h o ≠ .gone) (h2 : OStep locs h w locs' h' w' o) : h' o ≠ .gone := by
  unfold OStep at h2
  intro e
  cases hh : h o with
  | gone => exact h1 hh
  | var cs => rw [hh] at h2; obtain ⟨⟨_, h3⟩, _⟩ := h2; rw [e] at h3; cases h3
  | row n es dp g ver => rw [hh] at h2; obtain ⟨_, _, _, _, h3, _⟩ := h2; rw [e] at h3; cases h3

/-- A slot lives on. -/
theorem Good.slot (hg : Good w0 M0 A0 h w locs RO) (ht : Touch h w locs h' w' locs' RO T N K) {x : Slot} {v : Value} (hv : SRel locs h w RO x v) (hx : ∀ o ∈ x.refs, ¬ K o) : SRel locs' h' w' RO x v :=
  hv.carry (hg.roStays ht) fun o ho => hg.ostep ht (hx o ho)

theorem Good.cellv (hg : Good w0 M0 A0 h w locs RO) (ht : Touch h w locs h' w' locs' RO T N K) {x : VC} {v : Value} (hv : VRel locs h w RO x v) (hx : ∀ o ∈ x.refs, ¬ K o) : VRel locs' h' w' RO x v :=
  hv.carry (hg.roStays ht) fun o ho => hg.ostep ht (hx o ho)

/-- The tmps of a state: a shorthand. -/
def Tmps (locs : Locs) (h : Heap) (w : World) (RO : Nat → Prop) (t : List Slot) (a : Act) : Prop :=
  a.defers = [] ∧ a.tmps.size = t.length ∧ (∀ i, SRel locs h w RO (getT t i) (a.tmps.getD i undef)) ∧ (∀ i, ∀ o ∈ (getT t i).refs, h o ≠ .gone)

theorem rel_iff {st : St} {a : Act} : Rel w0 M0 A0 st a w ↔ ∃ locs RO, Good w0 M0 A0 st.h w locs RO ∧ Tmps locs st.h w RO st.t a := Iff.rfl

theorem Tmps.step {t : List Slot} {a : Act} (hg : Good w0 M0 A0 h w locs RO) (ht : Touch h w locs h' w' locs' RO T N K) (hm : Tmps locs h w RO t a) (hx : ∀ i, ∀ o ∈ (getT t i).refs, ¬ K o) : Tmps locs' h' w' RO t a :=
  ⟨hm.1, hm.2.1, fun i => hg.slot ht (hm.2.2.1 i) (hx i), fun i o ho => ostep_live (hm.2.2.2 i o ho) (hg.ostep ht (hx i o ho))⟩

def putT (t : List Slot) (d : Option Nat) (x : Slot) : List Slot := match d with | some i => t.set i x | none => t

theorem getT_set {t : List Slot} {i j : Nat} {x : Slot} : getT (t.set i x) j = if i = j ∧ j < t.length then x else getT t j := by
  simp only [getT, List.getD_eq_getElem?_getD, List.getElem?_set]
  by_cases e : i = j
  · subst e
    by_cases hl : i < t.length <;> simp [hl]
  · simp [e]

theorem Tmps.put {t : List Slot} {a : Act} (hm : Tmps locs h w RO t a) (d : Option Nat) {x : Slot} {v : Value} (hv : SRel locs h w RO x v) (hr : ∀ o ∈ x.refs, h o ≠ .gone) :
    Tmps locs h w RO (putT t d x) (a.put d v) := by
  cases d with
  | none => exact hm
  | some i =>
    refine ⟨hm.1, by simp [putT, Act.put, hm.2.1], fun j => ?_, fun j o ho => ?_⟩
    · simp only [putT, getT_set, Act.put]
      by_cases hc : i = j ∧ j < t.length
      · rw [if_pos hc]
        obtain ⟨rfl, hl⟩ := hc
        have : (a.tmps.setIfInBounds i v).getD i undef = v := by
          simp [Array.getD, hm.2.1, hl]
        rw [this]; exact hv
      · rw [if_neg hc]
        have : (a.tmps.setIfInBounds i v).getD j undef = a.tmps.getD j undef := by
          simp only [Array.getD_eq_getD_getElem?, Array.getElem?_setIfInBounds]
          by_cases e : i = j
          · subst e
            have : ¬ i < a.tmps.size := by rw [hm.2.1]; exact fun hl => hc ⟨rfl, hl⟩
            simp [this]
          · simp [e]
        rw [this]; exact hm.2.2.1 j
    · simp only [putT, getT_set] at ho
      by_cases hc : i = j ∧ j < t.length
      · rw [if_pos hc] at ho; exact hr o ho
      · rw [if_neg hc] at ho; exact hm.2.2.2 j o ho
end

def upd (h : Heap) (k : Nat) (o : VO) : Heap := fun j => if j = k then o else h j
def updL (l : Locs) (k : Nat) (x : Loc) : Locs := fun j => if j = k then x else l j
theorem upd_same {h : Heap} {k : Nat} {o : VO} : upd h k o k = o := if_pos rfl
theorem upd_ne {h : Heap} {k j : Nat} {o : VO} (e : j ≠ k) : upd h k o j = h j := if_neg e
theorem updL_same {h : Locs} {k : Nat} {o : Loc} : updL h k o k = o := if_pos rfl
theorem updL_ne {h : Locs} {k j : Nat} {o : Loc} (e : j ≠ k) : updL h k o j = h j := if_neg e

theorem heap_alloc_old {w : World} {o : Obj} {k : Nat} (h : k < w.heap.size) : (w.alloc o).heap[k]? = w.heap[k]? := by
  show (w.heap.push o)[k]? = _
  rw [Array.getElem?_push, if_neg (by omega)]
theorem heap_alloc_new {w : World} {o : Obj} : (w.alloc o).heap[w.heap.size]? = some o := by
  show (w.heap.push o)[w.heap.size]? = _
  simp
theorem kept_alloc (w : World) (o : Obj) : Kept (fun _ => False) w (w.alloc o) :=
  ⟨rfl, rfl, rfl, by simp, fun k hk _ => heap_alloc_old hk⟩

section
variable {w0 : World} {M0 : Nat → Prop} {A0 : Cx} {h : Heap} {w : World} {locs : Locs} {RO : Nat → Prop}

/-- A new variable. -/
theorem touch_var (hg : Good w0 M0 A0 h w locs RO) {k : Nat} (hk : h k = .gone) {cs : List VC} {arr : Array Value} (ty : TypeId) (hr : All2 (VRel locs h w RO) cs arr.toList)
    (hl : ∀ x ∈ cs, ∀ o ∈ x.refs, h o ≠ .gone) :
    Touch h w locs (upd h k (.var cs)) (w.alloc (.cells arr ty)) (updL locs k ⟨false, w.heap.size, 0, 0, [w.heap.size]⟩) RO (· = k) (fun _ => False) (fun _ => False) where
  kept := kept_alloc _ _
  only b hb := hb.elim
  same j hj := ⟨upd_ne hj, updL_ne hj⟩
  obj j hj := by
    subst hj
    rw [upd_same, updL_same]
    exact ⟨rfl, arr, ty, heap_alloc_new, by simpa using hr.length⟩
  cells j hj cs' hc arr' ty' fr' hb := by
    subst hj
    rw [upd_same] at hc
    rw [updL_same] at hb
    simp only at hb
    rw [heap_alloc_new] at hb
    injection hc with hc; subst hc
    injection hb with hb; injection hb with hb; subst hb
    refine hr.mono fun a b ha hab => hab.carry (fun b hb => ⟨hb, heap_alloc_old (hg.rolt b hb)⟩) fun o ho => ?_
    have hne : o ≠ j := fun e => hl a ha o ho (e ▸ hk)
    unfold OStep
    cases hh : h o with
    | gone => trivial
    | var c => exact ⟨⟨c, by rw [upd_ne hne, hh]⟩, by rw [updL_ne hne]⟩
    | row n es dp g ver =>
      refine ⟨es, dp, g, ver, by rw [upd_ne hne, hh], Nat.le_refl _, Nat.le_refl _, fun _ => by rw [updL_ne hne]; exact ⟨rfl, rfl, rfl, rfl⟩, fun hd _ => ⟨hd, fun i j e m us v h1 h2 h3 => ⟨⟨e, m, us, h1, h2⟩, ?_⟩⟩⟩
      rw [updL_ne hne, World.cell?_alloc_lt]
      · exact h3
      · exact World.block_lt_of_cell? w _ h3
  live j hj cs' hc x hx o ho := by
    subst hj
    rw [upd_same] at hc
    injection hc with hc; subst hc
    have h1 := hl x hx o ho
    by_cases e : o = j
    · subst e; exact absurd hk h1
    · rw [upd_ne e]; exact h1
  nodup j hj := by subst hj; rw [updL_same]; simp
  foot j hj b hb := by
    subst hj
    rw [updL_same] at hb
    simp at hb; subst hb; exact .inl (Nat.le_refl _)
  disj j l hj hl hne := absurd (hj.trans hl.symm) hne
  step o ho _ := by
    subst ho
    unfold OStep
    rw [hk]
    trivial
  sub o ho := ho.elim
  clean _ _ _ _ _ _ _ := not_false
  fresh o ho _ n es dp ver := by subst ho; rw [upd_same]; simp
  killed o ho := ho.elim

/-- A new row, in a block of its own or none. -/
theorem touch_row (hg : Good w0 M0 A0 h w locs RO) {k : Nat} (hk : h k = .gone) {o : VO} {L : Loc} {w' : World} (hkept : Kept (fun _ => False) w w') (ho : ObjOk w' RO o L)
    (hrow : ∃ n es dp g ver, o = .row n es dp (g + 1) ver) (hn : L.foot.Nodup) (hf : ∀ b ∈ L.foot, w.heap.size ≤ b) :
    Touch h w locs (upd h k o) w' (updL locs k L) RO (· = k) (fun _ => False) (fun _ => False) where
  kept := hkept
  only b hb := hb.elim
  same j hj := ⟨upd_ne hj, updL_ne hj⟩
  obj j hj := by subst hj; rw [upd_same, updL_same]; exact ho
  cells j hj cs' hc := by
    subst hj
    rw [upd_same] at hc
    obtain ⟨n, es, dp, g, ver, e⟩ := hrow
    rw [e] at hc; cases hc
  live j hj cs' hc := by
    subst hj
    rw [upd_same] at hc
    obtain ⟨n, es, dp, g, ver, e⟩ := hrow
    rw [e] at hc; cases hc
  nodup j hj := by subst hj; rw [updL_same]; exact hn
  foot j hj b hb := by subst hj; rw [updL_same] at hb; exact .inl (hf b hb)
  disj j l hj hl hne := absurd (hj.trans hl.symm) hne
  step o' ho' _ := by
    subst ho'
    unfold OStep
    rw [hk]
    trivial
  sub o ho := ho.elim
  clean _ _ _ _ _ _ _ := not_false
  fresh o' ho _ n es dp ver := by
    subst ho
    obtain ⟨n', es', dp', g, ver', e⟩ := hrow
    rw [upd_same, e]; simp
  killed o ho := ho.elim
end

/-! ### what is let go -/
def eraseC (K : List Nat) (x : VC) : VC := if x.refs.any (K.contains ·) then .dead else x
def eraseV (K : List Nat) (x : TV) : TV := if x.refs.any (K.contains ·) then ⟨x.ag, x.cs.map (eraseC K)⟩ else x
def eraseS (K : List Nat) : Slot → Slot
  | .t x => .t (eraseV K x)
  | .tu l => .tu (l.map (eraseV K))
def eraseH (K : List Nat) (h : Heap) : Heap := fun k => match h k with
  | .var cs => .var (cs.map (eraseC K))
  | o => o
def killH (K : List Nat) (h : Heap) : Heap := fun k => if K.contains k then .gone else h k

theorem eraseC_refs {K : List Nat} {x : VC} : ∀ o ∈ (eraseC K x).refs, o ∈ x.refs ∧ o ∉ K := by
  intro o ho
  unfold eraseC at ho
  split at ho
  · simp [VC.refs] at ho
  · rename_i hn
    refine ⟨ho, fun hk => hn ?_⟩
    simp only [List.any_eq_true]
    exact ⟨o, ho, by simpa using hk⟩
theorem eraseV_refs {K : List Nat} {x : TV} : ∀ o ∈ (eraseV K x).refs, o ∈ x.refs ∧ o ∉ K := by
  intro o ho
  unfold eraseV at ho
  split at ho
  · simp only [TV.refs, List.mem_flatMap, List.mem_map] at ho
    obtain ⟨_, ⟨y, hy, rfl⟩, ho⟩ := ho
    exact ⟨List.mem_flatMap.2 ⟨y, hy, (eraseC_refs o ho).1⟩, (eraseC_refs o ho).2⟩
  · rename_i hn
    refine ⟨ho, fun hk => hn ?_⟩
    simp only [List.any_eq_true]
    exact ⟨o, ho, by simpa using hk⟩
theorem eraseS_refs {K : List Nat} {x : Slot} : ∀ o ∈ (eraseS K x).refs, o ∈ x.refs ∧ o ∉ K := by
  intro o ho
  cases x with
  | t x => exact eraseV_refs o ho
  | tu l =>
    simp only [eraseS, Slot.refs, List.mem_flatMap, List.mem_map] at ho
    obtain ⟨_, ⟨y, hy, rfl⟩, ho⟩ := ho
    exact ⟨List.mem_flatMap.2 ⟨y, hy, (eraseV_refs o ho).1⟩, (eraseV_refs o ho).2⟩

section
variable {w0 : World} {M0 : Nat → Prop} {A0 : Cx} {h : Heap} {w : World} {locs : Locs} {RO : Nat → Prop} {K : List Nat}

theorem ostep_erase (o : Nat) : OStep locs h w locs (eraseH K h) w o := by
  unfold OStep
  cases hh : h o with
  | gone => trivial
  | var cs => exact ⟨⟨_, by simp only [eraseH, hh]; rfl⟩, rfl⟩
  | row n es dp g ver => exact ⟨es, dp, g, ver, by simp only [eraseH, hh], Nat.le_refl _, Nat.le_refl _, fun _ => ⟨rfl, rfl, rfl, rfl⟩, fun hd _ => ⟨hd, fun i j e m us v h1 h2 h3 => ⟨⟨e, m, us, h1, h2⟩, h3⟩⟩⟩

theorem eraseH_gone {k : Nat} (hk : h k ≠ .gone) : eraseH K h k ≠ .gone := by
  unfold eraseH
  cases hh : h k with
  | gone => exact absurd hh hk
  | var cs => simp
  | row n es dp g ver => simp

theorem VRel.erase {x : VC} {v : Value} (hv : VRel locs h w RO x v) : VRel locs (eraseH K h) w RO (eraseC K x) v := by
  unfold eraseC
  split
  · trivial
  · exact hv.carry (fun b hb => ⟨hb, rfl⟩) fun o _ => ostep_erase o
theorem All2.map_left {α β γ : Type} {R : α → β → Prop} {S : γ → β → Prop} {f : α → γ} {l : List α} {m : List β} (h : All2 R l m) (hi : ∀ a b, R a b → S (f a) b) : All2 S (l.map f) m := by
  induction h with
  | nil => exact .nil
  | cons h _ ih => exact .cons (hi _ _ h) ih
theorem TRel.erase {x : TV} {v : Value} (hv : TRel locs h w RO x v) : TRel locs (eraseH K h) w RO (eraseV K x) v := by
  unfold eraseV
  split
  · obtain ⟨ag, cs⟩ := x
    cases ag with
    | true => obtain ⟨arr, e, ha⟩ := hv; exact ⟨arr, e, ha.map_left fun a b hr => hr.erase⟩
    | false => exact All2.map_left hv fun a b hr => hr.erase
  · exact hv.carry (fun b hb => ⟨hb, rfl⟩) fun o _ => ostep_erase o
theorem SRel.erase {x : Slot} {v : Value} (hv : SRel locs h w RO x v) : SRel locs (eraseH K h) w RO (eraseS K x) v := by
  cases x with
  | t x => exact TRel.erase hv
  | tu l => obtain ⟨vs, e, ha⟩ := hv; exact ⟨vs, e, ha.map_left fun a b hr => hr.erase⟩

theorem Good.erase (hg : Good w0 M0 A0 h w locs RO) : Good w0 M0 A0 (eraseH K h) w locs RO where
  obj k := by
    have := hg.obj k
    unfold eraseH
    cases hh : h k with
    | gone => rw [hh] at this; exact this
    | var cs => rw [hh] at this; obtain ⟨h1, arr, ty, h2, h3⟩ := this; exact ⟨h1, arr, ty, h2, by simpa using h3⟩
    | row n es dp g ver => rw [hh] at this; exact this
  cells k cs hk arr ty fr hb := by
    unfold eraseH at hk
    cases hh : h k with
    | gone => rw [hh] at hk; cases hk
    | var cs' => rw [hh] at hk; injection hk with hk; subst hk; exact (hg.cells k cs' hh arr ty fr hb).map_left fun a b hr => hr.erase
    | row n es dp g ver => rw [hh] at hk; cases hk
  live k cs hk x hx o ho := by
    unfold eraseH at hk
    cases hh : h k with
    | gone => rw [hh] at hk; cases hk
    | var cs' =>
      rw [hh] at hk; injection hk with hk; subst hk
      obtain ⟨y, hy, rfl⟩ := List.mem_map.1 hx
      exact eraseH_gone (hg.live k cs' hh y hy o (eraseC_refs o ho).1)
    | row n es dp g ver => rw [hh] at hk; cases hk
  nodup := hg.nodup
  disj := hg.disj
  noro := hg.noro
  rolt := hg.rolt
  kept := hg.kept
  mfoot := hg.mfoot
  share := hg.share
  pin k L hL n es dp ver hk := by
    unfold eraseH at hk
    cases hh : h k with
    | gone => rw [hh] at hk; cases hk
    | var cs' => rw [hh] at hk; cases hk
    | row n' es' dp' g' ver' => rw [hh] at hk; exact hg.pin k L hL n es dp ver (hh.trans hk)

theorem getT_map {t : List Slot} {i : Nat} {f : Slot → Slot} (hf : f .dead = .dead) : getT (t.map f) i = f (getT t i) := by
  simp only [getT, List.getD_eq_getElem?_getD, List.getElem?_map]
  cases t[i]? <;> simp [hf]

theorem Tmps.erase {t : List Slot} {a : Act} (hm : Tmps locs h w RO t a) : Tmps locs (eraseH K h) w RO (t.map (eraseS K)) a := by
  have hd : eraseS K .dead = .dead := by simp [eraseS, Slot.dead, eraseV, TV.refs, VC.refs]
  refine ⟨hm.1, by simpa using hm.2.1, fun i => ?_, fun i o ho => ?_⟩
  · rw [getT_map hd]; exact (hm.2.2.1 i).erase
  · rw [getT_map hd] at ho; exact eraseH_gone (hm.2.2.2 i o (eraseS_refs o ho).1)
theorem erase_clean {t : List Slot} {i : Nat} : ∀ o ∈ (getT (t.map (eraseS K)) i).refs, ¬ (o ∈ K) := by
  have hd : eraseS K .dead = .dead := by simp [eraseS, Slot.dead, eraseV, TV.refs, VC.refs]
  intro o ho
  rw [getT_map hd] at ho
  exact (eraseS_refs o ho).2
theorem eraseH_clean : ∀ k cs, eraseH K h k = .var cs → ∀ x ∈ cs, ∀ o ∈ x.refs, ¬ (o ∈ K) := by
  intro k cs hk x hx o ho
  unfold eraseH at hk
  cases hh : h k with
  | gone => rw [hh] at hk; cases hk
  | var cs' =>
    rw [hh] at hk; injection hk with hk; subst hk
    obtain ⟨y, hy, rfl⟩ := List.mem_map.1 hx
    exact (eraseC_refs o ho).2
  | row n es dp g ver => rw [hh] at hk; cases hk
end

end Go.Proofs.Ytkcpbahcnlhmjaa.V
