/-
  States of the pure machine: slots, objects; 'Rel': what it says that an act and a world are in such a state; its first lemmas.
-/
import Derived.Test.YtkcpbahcnlhmjaaV1
namespace Go.Proofs.Ytkcpbahcnlhmjaa.V
open Go
set_option linter.unusedVariables false

/-- Two lists, place by place. -/
inductive All2 {α β : Type} (R : α → β → Prop) : List α → List β → Prop
  | nil : All2 R [] []
  | cons {a : α} {b : β} {l : List α} {m : List β} (h : R a b) (t : All2 R l m) : All2 R (a :: l) (b :: m)

section
variable {α β : Type} {R S : α → β → Prop} {l l' : List α} {m m' : List β}
theorem All2.length (h : All2 R l m) : m.length = l.length := by induction h <;> simp_all
theorem All2.mono (h : All2 R l m) (hi : ∀ a b, a ∈ l → R a b → S a b) : All2 S l m := by
  induction h with
  | nil => exact .nil
  | cons h _ ih => exact .cons (hi _ _ (by simp) h) (ih fun a b ha => hi a b (by simp [ha]))
theorem All2.append (h : All2 R l m) (h' : All2 R l' m') : All2 R (l ++ l') (m ++ m') := by
  induction h with
  | nil => exact h'
  | cons h _ ih => exact .cons h ih
theorem All2.get (h : All2 R l m) {i : Nat} {a : α} (ha : l[i]? = some a) : ∃ b, m[i]? = some b ∧ R a b := by
  induction h generalizing i with
  | nil => simp at ha
  | cons h _ ih =>
    cases i with
    | zero => simp at ha; subst ha; exact ⟨_, rfl, h⟩
    | succ i => simp at ha; simpa using ih ha
theorem All2.take (h : All2 R l m) (k : Nat) : All2 R (l.take k) (m.take k) := by
  induction h generalizing k with
  | nil => simp; exact .nil
  | cons h _ ih =>
    cases k with
    | zero => exact .nil
    | succ k => exact .cons h (ih k)
theorem All2.drop (h : All2 R l m) (k : Nat) : All2 R (l.drop k) (m.drop k) := by
  induction h generalizing k with
  | nil => simp; exact .nil
  | cons h t ih =>
    cases k with
    | zero => exact .cons h t
    | succ k => exact ih k
theorem All2.set (h : All2 R l m) (i : Nat) {a : α} {b : β} (hr : R a b) : All2 R (l.set i a) (m.set i b) := by
  induction h generalizing i with
  | nil => exact .nil
  | cons h t ih =>
    cases i with
    | zero => exact .cons hr t
    | succ i => exact .cons h (ih i)
theorem All2.of_get {l : List α} {m : List β} (hl : m.length = l.length) (h : ∀ (i : Nat) (a : α), l[i]? = some a → ∃ b : β, m[i]? = some b ∧ R a b) : All2 R l m := by
  induction l generalizing m with
  | nil => cases m with
    | nil => exact .nil
    | cons b m => simp at hl
  | cons a l ih => cases m with
    | nil => simp at hl
    | cons b m =>
      refine .cons ?_ (ih (by simpa using hl) fun i a ha => by simpa using h (i + 1) a (by simpa using ha))
      obtain ⟨b', hb, hr⟩ := h 0 a rfl
      simp at hb; subst hb; exact hr
end

/-- The value of one cell. -/
inductive VC where
  | d (x : Dat)
  | nl (n : Nat)
  | fp (cells : List Dat) (off : Nat)
  | fe (n : Nat) (es : List (List Dat)) (i j : Nat)
  | vp (o off : Nat)
  | ep (o g i j : Nat)
  | sr (o g off len room : Nat)
  | nr (o v i j : Nat)
  | cl (f : FuncId) (caps : List Nat)
  | unk
  | dead
  deriving Inhabited

/-- A value: one cell, or a struct's cells. -/
structure TV where
  ag : Bool
  cs : List VC
  deriving Inhabited

/-- What a temporary holds. -/
inductive Slot where
  | t (x : TV)
  | tu (l : List TV)
  deriving Inhabited

def Slot.dead : Slot := .t ⟨false, [.dead]⟩

/-- An object: a variable; a row of elements of 'n' cells ('deep': what its elements lead to is the row's own; 'g': turned by an append; 'v': turned where an element's slice is replaced). -/
inductive VO where
  | gone
  | var (cs : List VC)
  | row (n : Nat) (es : List (List Dat)) (deep : Bool) (g v : Nat)
  deriving Inhabited

structure Loc where
  nl : Bool
  b : Nat
  base : Nat
  tot : Nat
  foot : List Nat
  deriving Inhabited

def VC.refs : VC → List Nat
  | .vp o _ | .ep o _ _ _ | .sr o _ _ _ _ | .nr o _ _ _ => [o]
  | .cl _ caps => caps
  | _ => []
def TV.refs (t : TV) : List Nat := t.cs.flatMap VC.refs
def Slot.refs : Slot → List Nat
  | .t x => x.refs
  | .tu l => l.flatMap TV.refs

abbrev Heap := Nat → VO
abbrev Locs := Nat → Loc

/-- The block and the beginning of an object stay, whatever it holds. -/
def Loc.same (L L' : Loc) : Prop := L'.nl = L.nl ∧ L'.b = L.b ∧ L'.base = L.base ∧ L'.tot = L.tot

def SlRel (L : Loc) (n off len room : Nat) (v : Value) : Prop :=
  (L.nl = true ∧ len = 0 ∧ room = 0 ∧ v = .slice none 0 0) ∨
  (L.nl = false ∧ ∃ cap, v = .slice (some ⟨L.b, L.base + off * n, none⟩) len cap ∧ room ≤ cap ∧ len ≤ room ∧ L.base + off * n + cap * n ≤ L.tot)

def VRel (locs : Locs) (h : Heap) (w : World) (RO : Nat → Prop) : VC → Value → Prop
  | .d x, v => ∃ F, Reps false w [x] [v] F ∧ ∀ b ∈ F, RO b
  | .nl n, v => v = .slice none 0 0
  | .fp cells off, v => ∃ b base arr ty fr F, v = .pointer (some ⟨b, base + off, none⟩) ∧ w.heap[b]? = some (.cells arr ty fr) ∧ RO b ∧ base + cells.length ≤ arr.size ∧
      Reps false w cells (seg arr base cells.length) F ∧ ∀ b ∈ F, RO b
  | .fe n es i j, v => ∃ b base arr ty fr F, v = .pointer (some ⟨b, base + i * n + j, none⟩) ∧ w.heap[b]? = some (.cells arr ty fr) ∧ RO b ∧ base + es.length * n ≤ arr.size ∧
      (∀ e ∈ es, e.length = n) ∧ Reps false w es.flatten (seg arr base (es.length * n)) F ∧ ∀ b ∈ F, RO b
  | .vp o off, v => (∃ cs, h o = .var cs) ∧ v = .pointer (some ⟨(locs o).b, off, none⟩)
  | .ep o g i j, v => ∃ n es dp g0 ver, h o = .row n es dp g0 ver ∧ g ≤ g0 ∧ ∃ p, v = .pointer (some p) ∧ (g = g0 → p = ⟨(locs o).b, (locs o).base + i * n + j, none⟩)
  | .sr o g off len room, v => ∃ n es dp g0 ver, h o = .row n es dp g0 ver ∧ g ≤ g0 ∧ v.oneCell' = true ∧ (g = g0 → SlRel (locs o) n off len room v)
  | .nr o ver i j, v => ∃ n es dp g0 ver0, h o = .row n es dp g0 ver0 ∧ ver ≤ ver0 ∧ v.oneCell' = true ∧ (dp = true → ver = ver0 →
      (∃ e m us, es[i]? = some e ∧ e[j]? = some (.sl m us)) ∧ w.cell? ⟨(locs o).b, (locs o).base + i * n + j, none⟩ = some v)
  | .cl f caps, v => ∃ vs, v = .func (.func f) #[] vs ∧ All2 (fun o u => (∃ cs, h o = .var cs) ∧ u = .pointer (some ⟨(locs o).b, 0, none⟩)) caps vs.toList
  | .unk, v => ∃ t, v = .bool t
  | .dead, _ => True

def TRel (locs : Locs) (h : Heap) (w : World) (RO : Nat → Prop) (t : TV) (v : Value) : Prop :=
  match t.ag with
  | true => ∃ arr, v = .agg arr ∧ All2 (VRel locs h w RO) t.cs arr.toList
  | false => All2 (VRel locs h w RO) t.cs [v]

def SRel (locs : Locs) (h : Heap) (w : World) (RO : Nat → Prop) : Slot → Value → Prop
  | .t x, v => TRel locs h w RO x v
  | .tu l, v => ∃ vs, v = .tuple vs ∧ All2 (TRel locs h w RO) l vs.toList

def ObjOk (w : World) (RO : Nat → Prop) : VO → Loc → Prop
  | .gone, L => L.foot = []
  | .var cs, L => L.foot = [L.b] ∧ ∃ arr ty, w.heap[L.b]? = some (.cells arr ty (0, 0)) ∧ arr.size = cs.length
  | .row n es deep g v, L => (∀ e ∈ es, e.length = n) ∧
      ((L.nl = true ∧ es = [] ∧ L.foot = []) ∨
       (L.nl = false ∧ ∃ arr ty G, w.heap[L.b]? = some (.cells arr ty (0, 0)) ∧ arr.size = L.tot ∧ L.base + es.length * n ≤ L.tot ∧
        Reps deep w es.flatten (seg arr L.base (es.length * n)) G ∧
        (deep = true → L.foot = L.b :: G) ∧ (deep = false → L.foot = [L.b] ∧ ∀ x ∈ G, RO x)))

/-- 'w'' is as 'w', but for the blocks that 'M' names, and new ones. -/
structure Kept (M : Nat → Prop) (w w' : World) : Prop where
  os : w'.os = w.os
  tape : w'.tape = w.tape
  output : w'.output = w.output
  size : w.heap.size ≤ w'.heap.size
  blk : ∀ k, k < w.heap.size → ¬ M k → w'.heap[k]? = w.heap[k]?

theorem Kept.refl (M : Nat → Prop) (w : World) : Kept M w w := ⟨rfl, rfl, rfl, Nat.le_refl _, fun _ _ _ => rfl⟩
theorem Kept.trans {M : Nat → Prop} {a b c : World} (h : Kept M a b) (k : Kept M b c) : Kept M a c :=
  ⟨k.os.trans h.os, k.tape.trans h.tape, k.output.trans h.output, Nat.le_trans h.size k.size, fun i hi hm => (k.blk i (Nat.lt_of_lt_of_le hi h.size) hm).trans (h.blk i hi hm)⟩
theorem Kept.mono {M N : Nat → Prop} {w w' : World} (h : Kept M w w') (hm : ∀ k, k < w.heap.size → M k → N k) : Kept N w w' :=
  ⟨h.os, h.tape, h.output, h.size, fun k hk hn => h.blk k hk fun hmk => hn (hm k hk hmk)⟩
/-- One step further, which turns blocks of its own alone. -/
theorem Kept.step {M N : Nat → Prop} {a b c : World} (h : Kept M a b) (k : Kept N b c) (hn : ∀ i, i < a.heap.size → N i → M i) : Kept M a c :=
  ⟨k.os.trans h.os, k.tape.trans h.tape, k.output.trans h.output, Nat.le_trans h.size k.size, fun i hi hm => (k.blk i (Nat.lt_of_lt_of_le hi h.size) fun e => hm (hn i hi e)).trans (h.blk i hi hm)⟩

/-- What the context of a call asks: 'A': blocks that its results may share; 'pin': where the rows lie that came in to be written. -/
structure Cx where
  A : Nat → Prop
  pin : Nat → Option Loc

/-- The world's side of a state: 'w0' the world when the call began, 'M0' the blocks that it may write, 'A0' those that its results may share. -/
structure Good (w0 : World) (M0 : Nat → Prop) (A0 : Cx) (h : Heap) (w : World) (locs : Locs) (RO : Nat → Prop) : Prop where
  obj : ∀ k, ObjOk w RO (h k) (locs k)
  cells : ∀ k cs, h k = .var cs → ∀ arr ty fr, w.heap[(locs k).b]? = some (.cells arr ty fr) → All2 (VRel locs h w RO) cs arr.toList
  live : ∀ k cs, h k = .var cs → ∀ x ∈ cs, ∀ o ∈ x.refs, h o ≠ .gone
  nodup : ∀ k, (locs k).foot.Nodup
  disj : ∀ k l, k ≠ l → ∀ b ∈ (locs k).foot, b ∉ (locs l).foot
  noro : ∀ k, ∀ b ∈ (locs k).foot, ¬ RO b
  rolt : ∀ b, RO b → b < w.heap.size
  kept : Kept M0 w0 w
  mfoot : ∀ k, ∀ b ∈ (locs k).foot, M0 b ∨ w0.heap.size ≤ b
  share : ∀ b, RO b → A0.A b ∨ w0.heap.size ≤ b
  pin : ∀ k L, A0.pin k = some L → ∀ n es dp ver, h k = .row n es dp 0 ver → L.same (locs k)

structure St where
  t : List Slot
  h : Heap

def getT (t : List Slot) (i : Nat) : Slot := t.getD i .dead

/-- The act and the world are in the state. -/
def Rel (w0 : World) (M0 : Nat → Prop) (A0 : Cx) (st : St) (a : Act) (w : World) : Prop :=
  ∃ locs RO, Good w0 M0 A0 st.h w locs RO ∧ a.defers = [] ∧ a.tmps.size = st.t.length ∧ (∀ i, SRel locs st.h w RO (getT st.t i) (a.tmps.getD i undef)) ∧
    (∀ i, ∀ o ∈ (getT st.t i).refs, st.h o ≠ .gone)

section
variable {w0 : World} {M0 : Nat → Prop} {A0 : Cx} {h h' : Heap} {w w' : World} {locs locs' : Locs} {RO RO' : Nat → Prop}

theorem ObjOk.lt {o : VO} {L : Loc} (ho : ObjOk w RO o L) : ∀ b ∈ L.foot, b < w.heap.size := by
  intro b hb
  cases o with
  | gone => simp only [ObjOk] at ho; simp [ho] at hb
  | var cs =>
    obtain ⟨hf, arr, ty, hh, _⟩ := ho
    simp [hf] at hb; subst hb
    exact (Array.getElem?_eq_some_iff.1 hh).1
  | row n es deep g v =>
    obtain ⟨_, h | ⟨_, arr, ty, G, hh, _, _, hr, h1, h2⟩⟩ := ho
    · simp [h.2.2] at hb
    · cases deep with
      | true =>
        rw [h1 rfl] at hb
        rcases List.mem_cons.1 hb with rfl | hb
        · exact (Array.getElem?_eq_some_iff.1 hh).1
        · exact hr.lt b hb
      | false =>
        rw [(h2 rfl).1] at hb
        simp at hb; subst hb
        exact (Array.getElem?_eq_some_iff.1 hh).1

theorem Good.lt (hg : Good w0 M0 A0 h w locs RO) {k b : Nat} (hb : b ∈ (locs k).foot) : b < w.heap.size := (hg.obj k).lt b hb

/-- An object lives on where its blocks, and what stays, have not turned. -/
theorem ObjOk.frame {o : VO} {L : Loc} (ho : ObjOk w RO o L) (hf : ∀ b ∈ L.foot, w'.heap[b]? = w.heap[b]?) (hro : ∀ b, RO b → RO' b ∧ w'.heap[b]? = w.heap[b]?) : ObjOk w' RO' o L := by
  cases o with
  | gone => exact ho
  | var cs =>
    obtain ⟨hl, arr, ty, hh, hs⟩ := ho
    exact ⟨hl, arr, ty, by rw [hf _ (by simp [hl])]; exact hh, hs⟩
  | row n es deep g v =>
    obtain ⟨he, h | ⟨h0, arr, ty, G, hh, ha, hb, hr, h1, h2⟩⟩ := ho
    · exact ⟨he, .inl h⟩
    · refine ⟨he, .inr ⟨h0, arr, ty, G, ?_, ha, hb, ?_, h1, ?_⟩⟩
      · cases deep with
        | true => rw [hf _ (by simp [h1 rfl])]; exact hh
        | false => rw [hf _ (by simp [(h2 rfl).1])]; exact hh
      · cases deep with
        | true => exact hr.frame fun b hb => hf b (by simp [h1 rfl, hb])
        | false => exact hr.frame fun b hb => (hro b ((h2 rfl).2 b hb)).2
      · intro hd
        exact ⟨(h2 hd).1, fun x hx => (hro x ((h2 hd).2 x hx)).1⟩

/-- What becomes of an object in a step, as far as a value that names it can tell. -/
def OStep (locs : Locs) (h : Heap) (w : World) (locs' : Locs) (h' : Heap) (w' : World) (o : Nat) : Prop :=
  match h o with
  | .gone => True
  | .var _ => (∃ cs', h' o = .var cs') ∧ (locs' o).b = (locs o).b
  | .row n es dp g ver => ∃ es' dp' g' ver', h' o = .row n es' dp' g' ver' ∧ g ≤ g' ∧ ver ≤ ver' ∧ (g' = g → (locs o).same (locs' o)) ∧
      (dp' = true → ver' = ver → dp = true ∧ ∀ (i j : Nat) e m us v, es[i]? = some e → e[j]? = some (.sl m us) → w.cell? ⟨(locs o).b, (locs o).base + i * n + j, none⟩ = some v →
        (∃ e' m' us', es'[i]? = some e' ∧ e'[j]? = some (.sl m' us')) ∧ w'.cell? ⟨(locs' o).b, (locs' o).base + i * n + j, none⟩ = some v)

theorem SlRel.same {L L' : Loc} {n off len room : Nat} {v : Value} (hs : SlRel L n off len room v) (hl : L.same L') : SlRel L' n off len room v := by
  obtain ⟨h1, h2, h3, h4⟩ := hl
  unfold SlRel
  rw [h1, h2, h3, h4]
  exact hs

/-- What a value of one cell says lives on where what stays has not turned and each object that it names has made a step. -/
theorem VRel.carry {x : VC} {v : Value} (hv : VRel locs h w RO x v) (hro : ∀ b, RO b → RO' b ∧ w'.heap[b]? = w.heap[b]?)
    (ho : ∀ o ∈ x.refs, OStep locs h w locs' h' w' o) : VRel locs' h' w' RO' x v := by
  cases x with
  | d x =>
    obtain ⟨F, hr, hF⟩ := hv
    exact ⟨F, hr.frame fun b hb => (hro b (hF b hb)).2, fun b hb => (hro b (hF b hb)).1⟩
  | nl n => exact hv
  | fp cells off =>
    obtain ⟨b, base, arr, ty, fr, F, e, hh, hb, hs, hr, hF⟩ := hv
    exact ⟨b, base, arr, ty, fr, F, e, by rw [(hro b hb).2]; exact hh, (hro b hb).1, hs, hr.frame fun b hb => (hro b (hF b hb)).2, fun b hb => (hro b (hF b hb)).1⟩
  | fe n es i j =>
    obtain ⟨b, base, arr, ty, fr, F, e, hh, hb, hs, he, hr, hF⟩ := hv
    exact ⟨b, base, arr, ty, fr, F, e, by rw [(hro b hb).2]; exact hh, (hro b hb).1, hs, he, hr.frame fun b hb => (hro b (hF b hb)).2, fun b hb => (hro b (hF b hb)).1⟩
  | vp o off =>
    obtain ⟨⟨cs, hc⟩, e⟩ := hv
    have h1 := ho o (by simp [VC.refs])
    simp only [OStep, hc] at h1
    exact ⟨h1.1, by rw [h1.2]; exact e⟩
  | ep o g i j =>
    obtain ⟨n, es, dp, g0, ver, hc, hle, p, e, hp⟩ := hv
    have h1 := ho o (by simp [VC.refs])
    simp only [OStep, hc] at h1
    obtain ⟨es', dp', g', ver', h1, h2, h3, h4, h5⟩ := h1
    refine ⟨n, es', dp', g', ver', h1, Nat.le_trans hle h2, p, e, fun hg => ?_⟩
    have e1 : g = g0 := by omega
    obtain ⟨_, h7, h8, _⟩ := h4 (by omega)
    rw [h7, h8]
    exact hp e1
  | sr o g off len room =>
    obtain ⟨n, es, dp, g0, ver, hc, hle, hone, hp⟩ := hv
    have h1 := ho o (by simp [VC.refs])
    simp only [OStep, hc] at h1
    obtain ⟨es', dp', g', ver', h1, h2, h3, h4, h5⟩ := h1
    refine ⟨n, es', dp', g', ver', h1, Nat.le_trans hle h2, hone, fun hg => ?_⟩
    exact (hp (by omega)).same (h4 (by omega))
  | nr o ver i j =>
    obtain ⟨n, es, dp, g0, ver0, hc, hle, hone, hp⟩ := hv
    have h1 := ho o (by simp [VC.refs])
    simp only [OStep, hc] at h1
    obtain ⟨es', dp', g', ver', h1, h2, h3, h4, h5⟩ := h1
    refine ⟨n, es', dp', g', ver', h1, Nat.le_trans hle h3, hone, fun hd hg => ?_⟩
    obtain ⟨h6, h7⟩ := h5 hd (by omega)
    obtain ⟨⟨e, m, us, h8, h9⟩, h10⟩ := hp h6 (by omega)
    exact h7 i j e m us v h8 h9 h10
  | cl f caps =>
    obtain ⟨vs, e, ha⟩ := hv
    refine ⟨vs, e, ha.mono fun o u hm ⟨⟨cs, hc⟩, hu⟩ => ?_⟩
    have h1 := ho o hm
    simp only [OStep, hc] at h1
    exact ⟨h1.1, by rw [h1.2]; exact hu⟩
  | unk => exact hv
  | dead => trivial

theorem TRel.carry {x : TV} {v : Value} (hv : TRel locs h w RO x v) (hro : ∀ b, RO b → RO' b ∧ w'.heap[b]? = w.heap[b]?)
    (ho : ∀ o ∈ x.refs, OStep locs h w locs' h' w' o) : TRel locs' h' w' RO' x v := by
  have key : ∀ (a : VC) (b : Value), a ∈ x.cs → VRel locs h w RO a b → VRel locs' h' w' RO' a b := fun a b ha hr =>
    hr.carry hro fun o hm => ho o (List.mem_flatMap.2 ⟨a, ha, hm⟩)
  obtain ⟨ag, cs⟩ := x
  cases ag with
  | true => obtain ⟨arr, e, ha⟩ := hv; exact ⟨arr, e, ha.mono key⟩
  | false => exact All2.mono hv key

theorem SRel.carry {x : Slot} {v : Value} (hv : SRel locs h w RO x v) (hro : ∀ b, RO b → RO' b ∧ w'.heap[b]? = w.heap[b]?)
    (ho : ∀ o ∈ x.refs, OStep locs h w locs' h' w' o) : SRel locs' h' w' RO' x v := by
  cases x with
  | t x => exact TRel.carry hv hro ho
  | tu l =>
    obtain ⟨vs, e, ha⟩ := hv
    exact ⟨vs, e, ha.mono fun a b ham hr => hr.carry hro fun o hm => ho o (List.mem_flatMap.2 ⟨a, ham, hm⟩)⟩

theorem VRel.one {x : VC} {v : Value} (hv : VRel locs h w RO x v) (hx : x ≠ .dead) : v.oneCell' = true := by
  cases x with
  | d x => obtain ⟨F, hr, _⟩ := hv; exact hr.oneCell v (by simp)
  | nl n => cases hv; rfl
  | fp cells off => obtain ⟨b, base, arr, ty, fr, F, e, _⟩ := hv; subst e; rfl
  | fe n es i j => obtain ⟨b, base, arr, ty, fr, F, e, _⟩ := hv; subst e; rfl
  | vp o off => obtain ⟨_, e⟩ := hv; subst e; rfl
  | ep o g i j => obtain ⟨n, es, dp, g0, ver, hc, hle, p, e, hp⟩ := hv; subst e; rfl
  | sr o g off len room => obtain ⟨n, es, dp, g0, ver, hc, hle, hone, hp⟩ := hv; exact hone
  | nr o ver i j => obtain ⟨n, es, dp, g0, ver, hc, hle, hone, hp⟩ := hv; exact hone
  | cl f caps => obtain ⟨vs, e, _⟩ := hv; subst e; rfl
  | unk => obtain ⟨t, e⟩ := hv; subst e; rfl
  | dead => exact absurd rfl hx
end

end Go.Proofs.Ytkcpbahcnlhmjaa.V
