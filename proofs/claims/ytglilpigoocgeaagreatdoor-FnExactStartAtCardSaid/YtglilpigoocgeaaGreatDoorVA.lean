/-
  Data trees of Go values and what it says that memory shows them: 'Reps', with the blocks through which it is shown, and its lemmas (frame, append, split).
  States of the pure machine: slots, objects; 'Rel': what it says that an act and a world are in such a state; its first lemmas.
  Steps of the world under a state: what has not been touched lives on ('Good.step', 'Rel.step'); new blocks, stores.
  What single operations do to a state: the table of types; operands; operations that read, reckon or make memory ('DoesR').
  Loads, addresses, new variables, struct values, function values.
  Struct literals, slice literals, make, stores.
  Operations that take in or write: 'Does'; struct and slice literals, stores into variables and rows.
  Stores into variables and into elements of rows.
  append, make, cutting of slices.
  make; bytes as a string; slices held against nil.
-/
import Derived.Orders
import Derived.Laws.World
import Derived.Laws.Sem
import Derived.Laws.Cells
import Derived.Laws.CopyRow
import Derived.Laws.Tables
import Derived.Laws.Append
import Derived.Laws.BytesArg
import Derived.Laws.MakeOwn
import Derived.WalkSpells
set_option linter.unusedVariables false
set_option linter.unusedSimpArgs false
namespace Go.Proofs.YtglilpigoocgeaaGreatDoor.V
open Go
set_option linter.unusedVariables false

/-- A datum: a scalar; a slice of elements, each some cells ('n' cells an element; nil and empty alike); a pointer to a whole variable; a function value; what has been moved away. -/
inductive Dat where
  | lf (v : Value)
  | sl (n : Nat) (es : List (List Dat))
  | pt (cells : List Dat)
  | cl (f : FuncId) (caps : List Dat)
  | hole
  deriving Inhabited

/-- A scalar: a value of one cell without an address. -/
def sca : Value → Bool
  | .bool _ | .int _ _ | .string _ | .pointer none | .nilFunc | .slice none 0 0 => true
  | _ => false

/-- 'k' cells from 'off' on. -/
def seg (arr : Array Value) (off k : Nat) : List Value := (arr.toList.drop off).take k

theorem seg_length {arr : Array Value} {off k : Nat} (h : off + k ≤ arr.size) : (seg arr off k).length = k := by
  simp only [seg, List.length_take, List.length_drop, Array.length_toList]; omega

theorem seg_get {arr : Array Value} {off k i : Nat} (h : i < k) : (seg arr off k)[i]? = arr[off + i]? := by
  simp only [seg, List.getElem?_take, if_pos h, List.getElem?_drop, Array.getElem?_toList]

theorem seg_eq_of {arr brr : Array Value} {off off' k : Nat} (h : ∀ i, i < k → arr[off + i]? = brr[off' + i]?) : seg arr off k = seg brr off' k := by
  apply List.ext_getElem?
  intro i
  by_cases hi : i < k
  · rw [seg_get hi, seg_get hi]; exact h i hi
  · simp only [seg, List.getElem?_take, if_neg hi]

theorem seg_add {arr : Array Value} {off k l : Nat} : seg arr off (k + l) = seg arr off k ++ seg arr (off + k) l := by
  simp only [seg, List.take_add, List.drop_drop]

theorem seg_seg {arr : Array Value} {off k a l : Nat} (h : a + l ≤ k) : ((seg arr off k).drop a).take l = seg arr (off + a) l := by
  apply List.ext_getElem?
  intro i
  by_cases hi : i < l
  · rw [seg_get hi, List.getElem?_take, if_pos hi, List.getElem?_drop, seg_get (by omega), Nat.add_assoc]
  · rw [List.getElem?_take, if_neg hi]; simp only [seg, List.getElem?_take, if_neg hi]

theorem seg_zero {arr : Array Value} {off : Nat} : seg arr off 0 = [] := by simp [seg]

theorem seg_all {arr : Array Value} : seg arr 0 arr.size = arr.toList := by
  simp only [seg, List.drop_zero, ← Array.length_toList, List.take_length]

/-- The values 'vs' show the data 'ds' in the world 'w', through the blocks of the list. 'wr': what is shown may be written and appended to. -/
inductive Reps (wr : Bool) (w : World) : List Dat → List Value → List Nat → Prop
  | nil : Reps wr w [] [] []
  | lf {v : Value} {ds : List Dat} {vs : List Value} {F : List Nat} (h : sca v = true) (r : Reps wr w ds vs F) : Reps wr w (.lf v :: ds) (v :: vs) F
  | nl {n : Nat} {ds : List Dat} {vs : List Value} {F : List Nat} (r : Reps wr w ds vs F) : Reps wr w (.sl n [] :: ds) (.slice none 0 0 :: vs) F
  | sl {n : Nat} {es : List (List Dat)} {ds : List Dat} {vs : List Value} {F G : List Nat} {b off cap : Nat} {arr : Array Value} {ty : TypeId} {fr : Nat × Nat}
      (hb : w.heap[b]? = some (.cells arr ty fr)) (hc : es.length ≤ cap) (he : ∀ e ∈ es, e.length = n) (hs : off + es.length * n ≤ arr.size)
      (hw : wr = true → fr = (0, 0) ∧ off + cap * n ≤ arr.size)
      (g : Reps wr w es.flatten (seg arr off (es.length * n)) G) (r : Reps wr w ds vs F) :
      Reps wr w (.sl n es :: ds) (.slice (some ⟨b, off, none⟩) es.length cap :: vs) (b :: (G ++ F))
  | pt {cells ds : List Dat} {vs : List Value} {F G : List Nat} {b off : Nat} {arr : Array Value} {ty : TypeId} {fr : Nat × Nat}
      (hb : w.heap[b]? = some (.cells arr ty fr)) (hs : off + cells.length ≤ arr.size)
      (hw : wr = true → fr = (0, 0) ∧ off = 0 ∧ arr.size = cells.length)
      (g : Reps wr w cells (seg arr off cells.length) G) (r : Reps wr w ds vs F) :
      Reps wr w (.pt cells :: ds) (.pointer (some ⟨b, off, none⟩) :: vs) (b :: (G ++ F))
  | cl {f : FuncId} {caps ds : List Dat} {vs cs : List Value} {F G : List Nat} (g : Reps wr w caps cs G) (r : Reps wr w ds vs F) :
      Reps wr w (.cl f caps :: ds) (.func (.func f) #[] cs.toArray :: vs) (G ++ F)
  | hole {v : Value} {ds : List Dat} {vs : List Value} {F : List Nat} (h : v.oneCell' = true) (r : Reps wr w ds vs F) : Reps wr w (.hole :: ds) (v :: vs) F
  | em {n : Nat} {a : Addr} {c : Nat} {ds : List Dat} {vs : List Value} {F : List Nat} (h : wr = false) (r : Reps wr w ds vs F) : Reps wr w (.sl n [] :: ds) (.slice (some a) 0 c :: vs) F

section
variable {wr : Bool} {w w' : World} {ds ds' : List Dat} {vs vs' : List Value} {F F' : List Nat}

theorem Reps.frame (h : Reps wr w ds vs F) (hf : ∀ b ∈ F, w'.heap[b]? = w.heap[b]?) : Reps wr w' ds vs F := by
  induction h with
  | nil => exact .nil
  | lf h _ ih => exact .lf h (ih hf)
  | nl _ ih => exact .nl (ih hf)
  | sl hb hc he hs hw _ _ ihg ihr =>
    exact .sl (by rw [hf _ (by simp)]; exact hb) hc he hs hw (ihg fun b hb => hf b (by simp [hb])) (ihr fun b hb => hf b (by simp [hb]))
  | pt hb hs hw _ _ ihg ihr =>
    exact .pt (by rw [hf _ (by simp)]; exact hb) hs hw (ihg fun b hb => hf b (by simp [hb])) (ihr fun b hb => hf b (by simp [hb]))
  | cl _ _ ihg ihr => exact .cl (ihg fun b hb => hf b (by simp [hb])) (ihr fun b hb => hf b (by simp [hb]))
  | hole h _ ih => exact .hole h (ih hf)
  | em h _ ih => exact .em h (ih hf)

theorem Reps.ro (h : Reps wr w ds vs F) : Reps false w ds vs F := by
  induction h with
  | nil => exact .nil
  | lf h _ ih => exact .lf h ih
  | nl _ ih => exact .nl ih
  | sl hb hc he hs hw _ _ ihg ihr => exact .sl hb hc he hs (by simp) ihg ihr
  | pt hb hs hw _ _ ihg ihr => exact .pt hb hs (by simp) ihg ihr
  | cl _ _ ihg ihr => exact .cl ihg ihr
  | hole h _ ih => exact .hole h ih
  | em h _ ih => exact .em rfl ih

theorem Reps.length (h : Reps wr w ds vs F) : vs.length = ds.length := by
  induction h <;> simp_all

theorem Reps.lt (h : Reps wr w ds vs F) : ∀ b ∈ F, b < w.heap.size := by
  induction h with
  | nil => simp
  | lf _ _ ih => exact ih
  | nl _ ih => exact ih
  | sl hb hc he hs hw _ _ ihg ihr =>
    intro b h
    simp only [List.mem_cons, List.mem_append] at h
    rcases h with rfl | h | h
    · exact (Array.getElem?_eq_some_iff.1 hb).1
    · exact ihg b h
    · exact ihr b h
  | pt hb hs hw _ _ ihg ihr =>
    intro b h
    simp only [List.mem_cons, List.mem_append] at h
    rcases h with rfl | h | h
    · exact (Array.getElem?_eq_some_iff.1 hb).1
    · exact ihg b h
    · exact ihr b h
  | cl _ _ ihg ihr =>
    intro b h
    simp only [List.mem_append] at h
    rcases h with h | h
    · exact ihg b h
    · exact ihr b h
  | hole _ _ ih => exact ih
  | em _ _ ih => exact ih

theorem Reps.append (h : Reps wr w ds vs F) (h' : Reps wr w ds' vs' F') : Reps wr w (ds ++ ds') (vs ++ vs') (F ++ F') := by
  induction h with
  | nil => exact h'
  | lf h _ ih => exact .lf h ih
  | nl _ ih => exact .nl ih
  | sl hb hc he hs hw g _ _ ihr => simp only [List.cons_append, List.append_assoc]; exact .sl hb hc he hs hw g ihr
  | pt hb hs hw g _ _ ihr => simp only [List.cons_append, List.append_assoc]; exact .pt hb hs hw g ihr
  | cl g _ _ ihr => simp only [List.cons_append, List.append_assoc]; exact .cl g ihr
  | hole h _ ih => exact .hole h ih
  | em h _ ih => exact .em h ih

theorem Reps.split : ∀ {ds : List Dat} {vs : List Value} {F : List Nat}, Reps wr w (ds ++ ds') vs F →
    ∃ vs1 vs2 F1 F2, vs = vs1 ++ vs2 ∧ F = F1 ++ F2 ∧ Reps wr w ds vs1 F1 ∧ Reps wr w ds' vs2 F2
  | [], vs, F, h => ⟨[], vs, [], F, rfl, rfl, .nil, h⟩
  | d :: ds, vs, F, h => by
    rw [List.cons_append] at h
    cases h with
    | lf h r => obtain ⟨v1, v2, F1, F2, rfl, rfl, h1, h2⟩ := r.split; exact ⟨_ :: v1, v2, F1, F2, rfl, rfl, .lf h h1, h2⟩
    | nl r => obtain ⟨v1, v2, F1, F2, rfl, rfl, h1, h2⟩ := r.split; exact ⟨_ :: v1, v2, F1, F2, rfl, rfl, .nl h1, h2⟩
    | sl hb hc he hs hw g r =>
      obtain ⟨v1, v2, F1, F2, rfl, rfl, h1, h2⟩ := r.split
      exact ⟨_ :: v1, v2, _, F2, rfl, by simp, .sl hb hc he hs hw g h1, h2⟩
    | pt hb hs hw g r =>
      obtain ⟨v1, v2, F1, F2, rfl, rfl, h1, h2⟩ := r.split
      exact ⟨_ :: v1, v2, _, F2, rfl, by simp, .pt hb hs hw g h1, h2⟩
    | cl g r =>
      obtain ⟨v1, v2, F1, F2, rfl, rfl, h1, h2⟩ := r.split
      exact ⟨_ :: v1, v2, _, F2, rfl, by simp, .cl g h1, h2⟩
    | hole h r => obtain ⟨v1, v2, F1, F2, rfl, rfl, h1, h2⟩ := r.split; exact ⟨_ :: v1, v2, F1, F2, rfl, rfl, .hole h h1, h2⟩
    | em h r => obtain ⟨v1, v2, F1, F2, rfl, rfl, h1, h2⟩ := r.split; exact ⟨_ :: v1, v2, F1, F2, rfl, rfl, .em h h1, h2⟩

theorem take_drop_of {α : Type} {v1 v2 : List α} {k : Nat} (h : v1.length = min k (v1 ++ v2).length) : (v1 ++ v2).take k = v1 ∧ (v1 ++ v2).drop k = v2 := by
  rcases Nat.le_total k (v1 ++ v2).length with hk | hk
  · rw [Nat.min_eq_left hk] at h
    subst h
    exact ⟨List.take_left, List.drop_left⟩
  · rw [Nat.min_eq_right hk, List.length_append] at h
    have e2 : v2 = [] := List.eq_nil_of_length_eq_zero (by omega)
    subst e2
    simp only [List.append_nil] at hk ⊢
    exact ⟨List.take_of_length_le hk, List.drop_of_length_le hk⟩

/-- Some of the data in the middle. -/
theorem Reps.part {k l : Nat} (h : Reps wr w ds vs F) : ∃ F1 F2 F3, F = F1 ++ (F2 ++ F3) ∧ Reps wr w (ds.take k) (vs.take k) F1 ∧
    Reps wr w ((ds.drop k).take l) ((vs.drop k).take l) F2 ∧ Reps wr w ((ds.drop k).drop l) ((vs.drop k).drop l) F3 := by
  have hl := h.length
  rw [← List.take_append_drop k ds] at h
  obtain ⟨v1, v23, F1, F23, rfl, rfl, h1, h23⟩ := h.split
  have l1 := h1.length
  have l23 := h23.length
  obtain ⟨e1, e23⟩ := take_drop_of (v1 := v1) (v2 := v23) (k := k) (by rw [l1, hl, List.length_take])
  rw [e1, e23]
  rw [← List.take_append_drop l (ds.drop k)] at h23
  obtain ⟨v2, v3, F2, F3, rfl, rfl, h2, h3⟩ := h23.split
  obtain ⟨e2, e3⟩ := take_drop_of (v1 := v2) (v2 := v3) (k := l) (by rw [h2.length, l23, List.length_take])
  rw [e2, e3]
  exact ⟨F1, F2, F3, rfl, h1, h2, h3⟩

theorem Reps.one (h : Reps wr w ds vs F) {i : Nat} {d : Dat} (hd : ds[i]? = some d) : ∃ v G, vs[i]? = some v ∧ Reps wr w [d] [v] G ∧ ∀ b ∈ G, b ∈ F := by
  obtain ⟨F1, F2, F3, rfl, _, h2, _⟩ := h.part (k := i) (l := 1)
  have hi : i < ds.length := (List.getElem?_eq_some_iff.1 hd).1
  have hv : i < vs.length := by rw [h.length]; exact hi
  have e1 : (ds.drop i).take 1 = [d] := by
    rw [List.drop_eq_getElem_cons hi, List.take_succ_cons, List.take_zero, (List.getElem?_eq_some_iff.1 hd).2]
  have e2 : (vs.drop i).take 1 = [vs[i]] := by rw [List.drop_eq_getElem_cons hv, List.take_succ_cons, List.take_zero]
  rw [e1, e2] at h2
  exact ⟨vs[i], F2, List.getElem?_eq_getElem hv, h2, fun b hb => by simp [hb]⟩

theorem Reps.oneCell (h : Reps wr w ds vs F) : ∀ v ∈ vs, v.oneCell' = true := by
  induction h with
  | nil => simp
  | lf h _ ih =>
    intro u hu
    rcases List.mem_cons.1 hu with rfl | hu
    · cases u <;> simp_all [sca, Value.oneCell']
    · exact ih u hu
  | nl _ ih =>
    intro u hu
    rcases List.mem_cons.1 hu with rfl | hu
    · rfl
    · exact ih u hu
  | sl _ _ _ _ _ _ _ _ ih =>
    intro u hu
    rcases List.mem_cons.1 hu with rfl | hu
    · rfl
    · exact ih u hu
  | pt _ _ _ _ _ _ ih =>
    intro u hu
    rcases List.mem_cons.1 hu with rfl | hu
    · rfl
    · exact ih u hu
  | cl _ _ _ ih =>
    intro u hu
    rcases List.mem_cons.1 hu with rfl | hu
    · rfl
    · exact ih u hu
  | hole h _ ih =>
    intro u hu
    rcases List.mem_cons.1 hu with rfl | hu
    · exact h
    · exact ih u hu
  | em _ _ ih =>
    intro u hu
    rcases List.mem_cons.1 hu with rfl | hu
    · rfl
    · exact ih u hu
end

theorem reps_one_lf {wr : Bool} {w : World} {v u : Value} {F : List Nat} (h : Reps wr w [.lf v] [u] F) : u = v ∧ sca v = true ∧ F = [] := by
  cases h with
  | lf h r => cases r; exact ⟨rfl, h, rfl⟩

end Go.Proofs.YtglilpigoocgeaaGreatDoor.V
namespace Go.Proofs.YtglilpigoocgeaaGreatDoor.V
open Go
set_option linter.unusedVariables false

/-- Two lists, place by place. -/
inductive All2 {α β : Type} (R : α → β → Prop) : List α → List β → Prop
  | nil : All2 R [] []
  | cons {a : α} {b : β} {l : List α} {m : List β} (h : R a b) (t : All2 R l m) : All2 R (a :: l) (b :: m)

section
variable {α β : Type} {R S : α → β → Prop} {l l' : List α} {m m' : List β}
theorem All2.length (h : All2 R l m) : m.length = l.length := by induction h <;> simp_all
theorem All2.mono (h : All2 R l m) (hi : ∀ a b, a ∈ l → R a b → S a b) : All2 S l m := by
  induction h with
  | nil => exact .nil
  | cons h _ ih => exact .cons (hi _ _ (by simp) h) (ih fun a b ha => hi a b (by simp [ha]))
theorem All2.append (h : All2 R l m) (h' : All2 R l' m') : All2 R (l ++ l') (m ++ m') := by
  induction h with
  | nil => exact h'
  | cons h _ ih => exact .cons h ih
theorem All2.get (h : All2 R l m) {i : Nat} {a : α} (ha : l[i]? = some a) : ∃ b, m[i]? = some b ∧ R a b := by
  induction h generalizing i with
  | nil => simp at ha
  | cons h _ ih =>
    cases i with
    | zero => simp at ha; subst ha; exact ⟨_, rfl, h⟩
    | succ i => simp at ha; simpa using ih ha
theorem All2.take (h : All2 R l m) (k : Nat) : All2 R (l.take k) (m.take k) := by
  induction h generalizing k with
  | nil => simp; exact .nil
  | cons h _ ih =>
    cases k with
    | zero => exact .nil
    | succ k => exact .cons h (ih k)
theorem All2.drop (h : All2 R l m) (k : Nat) : All2 R (l.drop k) (m.drop k) := by
  induction h generalizing k with
  | nil => simp; exact .nil
  | cons h t ih =>
    cases k with
    | zero => exact .cons h t
    | succ k => exact ih k
theorem All2.set (h : All2 R l m) (i : Nat) {a : α} {b : β} (hr : R a b) : All2 R (l.set i a) (m.set i b) := by
  induction h generalizing i with
  | nil => exact .nil
  | cons h t ih =>
    cases i with
    | zero => exact .cons hr t
    | succ i => exact .cons h (ih i)
theorem All2.of_get {l : List α} {m : List β} (hl : m.length = l.length) (h : ∀ (i : Nat) (a : α), l[i]? = some a → ∃ b : β, m[i]? = some b ∧ R a b) : All2 R l m := by
  induction l generalizing m with
  | nil => cases m with
    | nil => exact .nil
    | cons b m => simp at hl
  | cons a l ih => cases m with
    | nil => simp at hl
    | cons b m =>
      refine .cons ?_ (ih (by simpa using hl) fun i a ha => by simpa using h (i + 1) a (by simpa using ha))
      obtain ⟨b', hb, hr⟩ := h 0 a rfl
      simp at hb; subst hb; exact hr
end

/-- The value of one cell. -/
inductive VC where
  | d (x : Dat)
  | nl (n : Nat)
  | fp (cells : List Dat) (off : Nat)
  | fe (n : Nat) (es : List (List Dat)) (i j : Nat)
  | vp (o off : Nat)
  | ep (o g i j : Nat)
  | sr (o g off len room : Nat)
  | nr (o v i j : Nat)
  | cl (f : FuncId) (caps : List Nat)
  | unk
  | dead
  deriving Inhabited

/-- A value: one cell, or a struct's cells. -/
structure TV where
  ag : Bool
  cs : List VC
  deriving Inhabited

/-- What a temporary holds. -/
inductive Slot where
  | t (x : TV)
  | tu (l : List TV)
  deriving Inhabited

def Slot.dead : Slot := .t ⟨false, [.dead]⟩

/-- An object: a variable; a row of elements of 'n' cells ('deep': what its elements lead to is the row's own; 'g': turned by an append; 'v': turned where an element's slice is replaced). -/
inductive VO where
  | gone
  | var (cs : List VC)
  | row (n : Nat) (es : List (List Dat)) (deep : Bool) (g v : Nat)
  deriving Inhabited

structure Loc where
  nl : Bool
  b : Nat
  base : Nat
  tot : Nat
  foot : List Nat
  deriving Inhabited

def VC.refs : VC → List Nat
  | .vp o _ | .ep o _ _ _ | .sr o _ _ _ _ | .nr o _ _ _ => [o]
  | .cl _ caps => caps
  | _ => []
def TV.refs (t : TV) : List Nat := t.cs.flatMap VC.refs
def Slot.refs : Slot → List Nat
  | .t x => x.refs
  | .tu l => l.flatMap TV.refs

abbrev Heap := Nat → VO
abbrev Locs := Nat → Loc

/-- The block and the beginning of an object stay, whatever it holds. -/
def Loc.same (L L' : Loc) : Prop := L'.nl = L.nl ∧ L'.b = L.b ∧ L'.base = L.base ∧ L'.tot = L.tot

def SlRel (L : Loc) (n off len room : Nat) (v : Value) : Prop :=
  (L.nl = true ∧ len = 0 ∧ room = 0 ∧ v = .slice none 0 0) ∨
  (L.nl = false ∧ ∃ cap, v = .slice (some ⟨L.b, L.base + off * n, none⟩) len cap ∧ room ≤ cap ∧ len ≤ room ∧ L.base + off * n + cap * n ≤ L.tot)

def VRel (locs : Locs) (h : Heap) (w : World) (RO : Nat → Prop) : VC → Value → Prop
  | .d x, v => ∃ F, Reps false w [x] [v] F ∧ ∀ b ∈ F, RO b
  | .nl n, v => v = .slice none 0 0
  | .fp cells off, v => ∃ b base arr ty fr F, v = .pointer (some ⟨b, base + off, none⟩) ∧ w.heap[b]? = some (.cells arr ty fr) ∧ RO b ∧ base + cells.length ≤ arr.size ∧
      Reps false w cells (seg arr base cells.length) F ∧ ∀ b ∈ F, RO b
  | .fe n es i j, v => ∃ b base arr ty fr F, v = .pointer (some ⟨b, base + i * n + j, none⟩) ∧ w.heap[b]? = some (.cells arr ty fr) ∧ RO b ∧ base + es.length * n ≤ arr.size ∧
      (∀ e ∈ es, e.length = n) ∧ Reps false w es.flatten (seg arr base (es.length * n)) F ∧ ∀ b ∈ F, RO b
  | .vp o off, v => (∃ cs, h o = .var cs) ∧ v = .pointer (some ⟨(locs o).b, off, none⟩)
  | .ep o g i j, v => ∃ n es dp g0 ver, h o = .row n es dp g0 ver ∧ g ≤ g0 ∧ ∃ p, v = .pointer (some p) ∧ (g = g0 → p = ⟨(locs o).b, (locs o).base + i * n + j, none⟩)
  | .sr o g off len room, v => ∃ n es dp g0 ver, h o = .row n es dp g0 ver ∧ g ≤ g0 ∧ v.oneCell' = true ∧ (g = g0 → SlRel (locs o) n off len room v)
  | .nr o ver i j, v => ∃ n es dp g0 ver0, h o = .row n es dp g0 ver0 ∧ ver ≤ ver0 ∧ v.oneCell' = true ∧ (dp = true → ver = ver0 →
      (∃ e m us, es[i]? = some e ∧ e[j]? = some (.sl m us)) ∧ w.cell? ⟨(locs o).b, (locs o).base + i * n + j, none⟩ = some v)
  | .cl f caps, v => ∃ vs, v = .func (.func f) #[] vs ∧ All2 (fun o u => (∃ cs, h o = .var cs) ∧ u = .pointer (some ⟨(locs o).b, 0, none⟩)) caps vs.toList
  | .unk, v => ∃ t, v = .bool t
  | .dead, _ => True

def TRel (locs : Locs) (h : Heap) (w : World) (RO : Nat → Prop) (t : TV) (v : Value) : Prop :=
  match t.ag with
  | true => ∃ arr, v = .agg arr ∧ All2 (VRel locs h w RO) t.cs arr.toList
  | false => All2 (VRel locs h w RO) t.cs [v]

def SRel (locs : Locs) (h : Heap) (w : World) (RO : Nat → Prop) : Slot → Value → Prop
  | .t x, v => TRel locs h w RO x v
  | .tu l, v => ∃ vs, v = .tuple vs ∧ All2 (TRel locs h w RO) l vs.toList

def ObjOk (w : World) (RO : Nat → Prop) : VO → Loc → Prop
  | .gone, L => L.foot = []
  | .var cs, L => L.foot = [L.b] ∧ ∃ arr ty, w.heap[L.b]? = some (.cells arr ty (0, 0)) ∧ arr.size = cs.length
  | .row n es deep g v, L => (∀ e ∈ es, e.length = n) ∧
      ((L.nl = true ∧ es = [] ∧ L.foot = []) ∨
       (L.nl = false ∧ ∃ arr ty G, w.heap[L.b]? = some (.cells arr ty (0, 0)) ∧ arr.size = L.tot ∧ L.base + es.length * n ≤ L.tot ∧
        Reps deep w es.flatten (seg arr L.base (es.length * n)) G ∧
        (deep = true → L.foot = L.b :: G) ∧ (deep = false → L.foot = [L.b] ∧ ∀ x ∈ G, RO x)))

/-- 'w'' is as 'w', but for the blocks that 'M' names, and new ones. -/
structure Kept (M : Nat → Prop) (w w' : World) : Prop where
  os : w'.os = w.os
  tape : w'.tape = w.tape
  output : w'.output = w.output
  size : w.heap.size ≤ w'.heap.size
  blk : ∀ k, k < w.heap.size → ¬ M k → w'.heap[k]? = w.heap[k]?

theorem Kept.refl (M : Nat → Prop) (w : World) : Kept M w w := ⟨rfl, rfl, rfl, Nat.le_refl _, fun _ _ _ => rfl⟩
theorem Kept.trans {M : Nat → Prop} {a b c : World} (h : Kept M a b) (k : Kept M b c) : Kept M a c :=
  ⟨k.os.trans h.os, k.tape.trans h.tape, k.output.trans h.output, Nat.le_trans h.size k.size, fun i hi hm => (k.blk i (Nat.lt_of_lt_of_le hi h.size) hm).trans (h.blk i hi hm)⟩
theorem Kept.mono {M N : Nat → Prop} {w w' : World} (h : Kept M w w') (hm : ∀ k, k < w.heap.size → M k → N k) : Kept N w w' :=
  ⟨h.os, h.tape, h.output, h.size, fun k hk hn => h.blk k hk fun hmk => hn (hm k hk hmk)⟩
/-- One step further, which turns blocks of its own alone. -/
theorem Kept.step {M N : Nat → Prop} {a b c : World} (h : Kept M a b) (k : Kept N b c) (hn : ∀ i, i < a.heap.size → N i → M i) : Kept M a c :=
  ⟨k.os.trans h.os, k.tape.trans h.tape, k.output.trans h.output, Nat.le_trans h.size k.size, fun i hi hm => (k.blk i (Nat.lt_of_lt_of_le hi h.size) fun e => hm (hn i hi e)).trans (h.blk i hi hm)⟩

/-- What the context of a call asks: 'A': blocks that its results may share; 'pin': where the rows lie that came in to be written. -/
structure Cx where
  A : Nat → Prop
  pin : Nat → Option Loc

/-- The world's side of a state: 'w0' the world when the call began, 'M0' the blocks that it may write, 'A0' those that its results may share. -/
structure Good (w0 : World) (M0 : Nat → Prop) (A0 : Cx) (h : Heap) (w : World) (locs : Locs) (RO : Nat → Prop) : Prop where
  obj : ∀ k, ObjOk w RO (h k) (locs k)
  cells : ∀ k cs, h k = .var cs → ∀ arr ty fr, w.heap[(locs k).b]? = some (.cells arr ty fr) → All2 (VRel locs h w RO) cs arr.toList
  live : ∀ k cs, h k = .var cs → ∀ x ∈ cs, ∀ o ∈ x.refs, h o ≠ .gone
  nodup : ∀ k, (locs k).foot.Nodup
  disj : ∀ k l, k ≠ l → ∀ b ∈ (locs k).foot, b ∉ (locs l).foot
  noro : ∀ k, ∀ b ∈ (locs k).foot, ¬ RO b
  rolt : ∀ b, RO b → b < w.heap.size
  kept : Kept M0 w0 w
  mfoot : ∀ k, ∀ b ∈ (locs k).foot, M0 b ∨ w0.heap.size ≤ b
  share : ∀ b, RO b → A0.A b ∨ w0.heap.size ≤ b
  pin : ∀ k L, A0.pin k = some L → ∀ n es dp ver, h k = .row n es dp 0 ver → L.same (locs k)

structure St where
  t : List Slot
  h : Heap

def getT (t : List Slot) (i : Nat) : Slot := t.getD i .dead

/-- The act and the world are in the state. -/
def Rel (w0 : World) (M0 : Nat → Prop) (A0 : Cx) (st : St) (a : Act) (w : World) : Prop :=
  ∃ locs RO, Good w0 M0 A0 st.h w locs RO ∧ a.defers = [] ∧ a.tmps.size = st.t.length ∧ (∀ i, SRel locs st.h w RO (getT st.t i) (a.tmps.getD i undef)) ∧
    (∀ i, ∀ o ∈ (getT st.t i).refs, st.h o ≠ .gone)

section
variable {w0 : World} {M0 : Nat → Prop} {A0 : Cx} {h h' : Heap} {w w' : World} {locs locs' : Locs} {RO RO' : Nat → Prop}

theorem ObjOk.lt {o : VO} {L : Loc} (ho : ObjOk w RO o L) : ∀ b ∈ L.foot, b < w.heap.size := by
  intro b hb
  cases o with
  | gone => simp only [ObjOk] at ho; simp [ho] at hb
  | var cs =>
    obtain ⟨hf, arr, ty, hh, _⟩ := ho
    simp [hf] at hb; subst hb
    exact (Array.getElem?_eq_some_iff.1 hh).1
  | row n es deep g v =>
    obtain ⟨_, h | ⟨_, arr, ty, G, hh, _, _, hr, h1, h2⟩⟩ := ho
    · simp [h.2.2] at hb
    · cases deep with
      | true =>
        rw [h1 rfl] at hb
        rcases List.mem_cons.1 hb with rfl | hb
        · exact (Array.getElem?_eq_some_iff.1 hh).1
        · exact hr.lt b hb
      | false =>
        rw [(h2 rfl).1] at hb
        simp at hb; subst hb
        exact (Array.getElem?_eq_some_iff.1 hh).1

theorem Good.lt (hg : Good w0 M0 A0 h w locs RO) {k b : Nat} (hb : b ∈ (locs k).foot) : b < w.heap.size := (hg.obj k).lt b hb

/-- An object lives on where its blocks, and what stays, have not turned. -/
theorem ObjOk.frame {o : VO} {L : Loc} (ho : ObjOk w RO o L) (hf : ∀ b ∈ L.foot, w'.heap[b]? = w.heap[b]?) (hro : ∀ b, RO b → RO' b ∧ w'.heap[b]? = w.heap[b]?) : ObjOk w' RO' o L := by
  cases o with
  | gone => exact ho
  | var cs =>
    obtain ⟨hl, arr, ty, hh, hs⟩ := ho
    exact ⟨hl, arr, ty, by rw [hf _ (by simp [hl])]; exact hh, hs⟩
  | row n es deep g v =>
    obtain ⟨he, h | ⟨h0, arr, ty, G, hh, ha, hb, hr, h1, h2⟩⟩ := ho
    · exact ⟨he, .inl h⟩
    · refine ⟨he, .inr ⟨h0, arr, ty, G, ?_, ha, hb, ?_, h1, ?_⟩⟩
      · cases deep with
        | true => rw [hf _ (by simp [h1 rfl])]; exact hh
        | false => rw [hf _ (by simp [(h2 rfl).1])]; exact hh
      · cases deep with
        | true => exact hr.frame fun b hb => hf b (by simp [h1 rfl, hb])
        | false => exact hr.frame fun b hb => (hro b ((h2 rfl).2 b hb)).2
      · intro hd
        exact ⟨(h2 hd).1, fun x hx => (hro x ((h2 hd).2 x hx)).1⟩

/-- What becomes of an object in a step, as far as a value that names it can tell. -/
def OStep (locs : Locs) (h : Heap) (w : World) (locs' : Locs) (h' : Heap) (w' : World) (o : Nat) : Prop :=
  match h o with
  | .gone => True
  | .var _ => (∃ cs', h' o = .var cs') ∧ (locs' o).b = (locs o).b
  | .row n es dp g ver => ∃ es' dp' g' ver', h' o = .row n es' dp' g' ver' ∧ g ≤ g' ∧ ver ≤ ver' ∧ (g' = g → (locs o).same (locs' o)) ∧
      (dp' = true → ver' = ver → dp = true ∧ ∀ (i j : Nat) e m us v, es[i]? = some e → e[j]? = some (.sl m us) → w.cell? ⟨(locs o).b, (locs o).base + i * n + j, none⟩ = some v →
        (∃ e' m' us', es'[i]? = some e' ∧ e'[j]? = some (.sl m' us')) ∧ w'.cell? ⟨(locs' o).b, (locs' o).base + i * n + j, none⟩ = some v)

theorem SlRel.same {L L' : Loc} {n off len room : Nat} {v : Value} (hs : SlRel L n off len room v) (hl : L.same L') : SlRel L' n off len room v := by
  obtain ⟨h1, h2, h3, h4⟩ := hl
  unfold SlRel
  rw [h1, h2, h3, h4]
  exact hs

/-- What a value of one cell says lives on where what stays has not turned and each object that it names has made a step. -/
theorem VRel.carry {x : VC} {v : Value} (hv : VRel locs h w RO x v) (hro : ∀ b, RO b → RO' b ∧ w'.heap[b]? = w.heap[b]?)
    (ho : ∀ o ∈ x.refs, OStep locs h w locs' h' w' o) : VRel locs' h' w' RO' x v := by
  cases x with
  | d x =>
    obtain ⟨F, hr, hF⟩ := hv
    exact ⟨F, hr.frame fun b hb => (hro b (hF b hb)).2, fun b hb => (hro b (hF b hb)).1⟩
  | nl n => exact hv
  | fp cells off =>
    obtain ⟨b, base, arr, ty, fr, F, e, hh, hb, hs, hr, hF⟩ := hv
    exact ⟨b, base, arr, ty, fr, F, e, by rw [(hro b hb).2]; exact hh, (hro b hb).1, hs, hr.frame fun b hb => (hro b (hF b hb)).2, fun b hb => (hro b (hF b hb)).1⟩
  | fe n es i j =>
    obtain ⟨b, base, arr, ty, fr, F, e, hh, hb, hs, he, hr, hF⟩ := hv
    exact ⟨b, base, arr, ty, fr, F, e, by rw [(hro b hb).2]; exact hh, (hro b hb).1, hs, he, hr.frame fun b hb => (hro b (hF b hb)).2, fun b hb => (hro b (hF b hb)).1⟩
  | vp o off =>
    obtain ⟨⟨cs, hc⟩, e⟩ := hv
    have h1 := ho o (by simp [VC.refs])
    simp only [OStep, hc] at h1
    exact ⟨h1.1, by rw [h1.2]; exact e⟩
  | ep o g i j =>
    obtain ⟨n, es, dp, g0, ver, hc, hle, p, e, hp⟩ := hv
    have h1 := ho o (by simp [VC.refs])
    simp only [OStep, hc] at h1
    obtain ⟨es', dp', g', ver', h1, h2, h3, h4, h5⟩ := h1
    refine ⟨n, es', dp', g', ver', h1, Nat.le_trans hle h2, p, e, fun hg => ?_⟩
    have e1 : g = g0 := by omega
    obtain ⟨_, h7, h8, _⟩ := h4 (by omega)
    rw [h7, h8]
    exact hp e1
  | sr o g off len room =>
    obtain ⟨n, es, dp, g0, ver, hc, hle, hone, hp⟩ := hv
    have h1 := ho o (by simp [VC.refs])
    simp only [OStep, hc] at h1
    obtain ⟨es', dp', g', ver', h1, h2, h3, h4, h5⟩ := h1
    refine ⟨n, es', dp', g', ver', h1, Nat.le_trans hle h2, hone, fun hg => ?_⟩
    exact (hp (by omega)).same (h4 (by omega))
  | nr o ver i j =>
    obtain ⟨n, es, dp, g0, ver0, hc, hle, hone, hp⟩ := hv
    have h1 := ho o (by simp [VC.refs])
    simp only [OStep, hc] at h1
    obtain ⟨es', dp', g', ver', h1, h2, h3, h4, h5⟩ := h1
    refine ⟨n, es', dp', g', ver', h1, Nat.le_trans hle h3, hone, fun hd hg => ?_⟩
    obtain ⟨h6, h7⟩ := h5 hd (by omega)
    obtain ⟨⟨e, m, us, h8, h9⟩, h10⟩ := hp h6 (by omega)
    exact h7 i j e m us v h8 h9 h10
  | cl f caps =>
    obtain ⟨vs, e, ha⟩ := hv
    refine ⟨vs, e, ha.mono fun o u hm ⟨⟨cs, hc⟩, hu⟩ => ?_⟩
    have h1 := ho o hm
    simp only [OStep, hc] at h1
    exact ⟨h1.1, by rw [h1.2]; exact hu⟩
  | unk => exact hv
  | dead => trivial

theorem TRel.carry {x : TV} {v : Value} (hv : TRel locs h w RO x v) (hro : ∀ b, RO b → RO' b ∧ w'.heap[b]? = w.heap[b]?)
    (ho : ∀ o ∈ x.refs, OStep locs h w locs' h' w' o) : TRel locs' h' w' RO' x v := by
  have key : ∀ (a : VC) (b : Value), a ∈ x.cs → VRel locs h w RO a b → VRel locs' h' w' RO' a b := fun a b ha hr =>
    hr.carry hro fun o hm => ho o (List.mem_flatMap.2 ⟨a, ha, hm⟩)
  obtain ⟨ag, cs⟩ := x
  cases ag with
  | true => obtain ⟨arr, e, ha⟩ := hv; exact ⟨arr, e, ha.mono key⟩
  | false => exact All2.mono hv key

theorem SRel.carry {x : Slot} {v : Value} (hv : SRel locs h w RO x v) (hro : ∀ b, RO b → RO' b ∧ w'.heap[b]? = w.heap[b]?)
    (ho : ∀ o ∈ x.refs, OStep locs h w locs' h' w' o) : SRel locs' h' w' RO' x v := by
  cases x with
  | t x => exact TRel.carry hv hro ho
  | tu l =>
    obtain ⟨vs, e, ha⟩ := hv
    exact ⟨vs, e, ha.mono fun a b ham hr => hr.carry hro fun o hm => ho o (List.mem_flatMap.2 ⟨a, ham, hm⟩)⟩

theorem VRel.one {x : VC} {v : Value} (hv : VRel locs h w RO x v) (hx : x ≠ .dead) : v.oneCell' = true := by
  cases x with
  | d x => obtain ⟨F, hr, _⟩ := hv; exact hr.oneCell v (by simp)
  | nl n => cases hv; rfl
  | fp cells off => obtain ⟨b, base, arr, ty, fr, F, e, _⟩ := hv; subst e; rfl
  | fe n es i j => obtain ⟨b, base, arr, ty, fr, F, e, _⟩ := hv; subst e; rfl
  | vp o off => obtain ⟨_, e⟩ := hv; subst e; rfl
  | ep o g i j => obtain ⟨n, es, dp, g0, ver, hc, hle, p, e, hp⟩ := hv; subst e; rfl
  | sr o g off len room => obtain ⟨n, es, dp, g0, ver, hc, hle, hone, hp⟩ := hv; exact hone
  | nr o ver i j => obtain ⟨n, es, dp, g0, ver, hc, hle, hone, hp⟩ := hv; exact hone
  | cl f caps => obtain ⟨vs, e, _⟩ := hv; subst e; rfl
  | unk => obtain ⟨t, e⟩ := hv; subst e; rfl
  | dead => exact absurd rfl hx
end

end Go.Proofs.YtglilpigoocgeaaGreatDoor.V
namespace Go.Proofs.YtglilpigoocgeaaGreatDoor.V
open Go
set_option linter.unusedVariables false

section
variable {w0 : World} {M0 : Nat → Prop} {A0 : Cx} {h h' : Heap} {w w' : World} {locs locs' : Locs} {RO : Nat → Prop}

theorem cell_block {w : World} {b j : Nat} {arr : Array Value} {ty : TypeId} {fr : Nat × Nat} (h : w.heap[b]? = some (.cells arr ty fr)) : w.cell? ⟨b, j, none⟩ = arr[j]? := by
  simp [World.cell?, h]

theorem cell_same {w w' : World} {b j : Nat} (h : w'.heap[b]? = w.heap[b]?) : w'.cell? ⟨b, j, none⟩ = w.cell? ⟨b, j, none⟩ := by
  simp only [World.cell?, h]

/-- What has been touched: 'T'; the blocks that have turned: 'N'; what is gone: 'K' (no value names it any more). -/
structure Touch (h : Heap) (w : World) (locs : Locs) (h' : Heap) (w' : World) (locs' : Locs) (RO : Nat → Prop) (T N K : Nat → Prop) : Prop where
  kept : Kept N w w'
  only : ∀ b, N b → ∃ k, T k ∧ b ∈ (locs k).foot
  same : ∀ k, ¬ T k → h' k = h k ∧ locs' k = locs k
  obj : ∀ k, T k → ObjOk w' RO (h' k) (locs' k)
  cells : ∀ k, T k → ∀ cs, h' k = .var cs → ∀ arr ty fr, w'.heap[(locs' k).b]? = some (.cells arr ty fr) → All2 (VRel locs' h' w' RO) cs arr.toList
  live : ∀ k, T k → ∀ cs, h' k = .var cs → ∀ x ∈ cs, ∀ o ∈ x.refs, h' o ≠ .gone
  nodup : ∀ k, T k → (locs' k).foot.Nodup
  foot : ∀ k, T k → ∀ b ∈ (locs' k).foot, w.heap.size ≤ b ∨ ∃ l, T l ∧ b ∈ (locs l).foot
  disj : ∀ k l, T k → T l → k ≠ l → ∀ b ∈ (locs' k).foot, b ∉ (locs' l).foot
  step : ∀ o, T o → ¬ K o → OStep locs h w locs' h' w' o
  sub : ∀ o, K o → T o
  fresh : ∀ o, T o → h o = .gone → ∀ n es dp ver, h' o ≠ .row n es dp 0 ver
  killed : ∀ o, K o → h' o = .gone
  clean : ∀ k cs, h k = .var cs → ∀ x ∈ cs, ∀ o ∈ x.refs, ¬ K o

variable {T N K : Nat → Prop}

theorem Good.unturned (hg : Good w0 M0 A0 h w locs RO) (ht : Touch h w locs h' w' locs' RO T N K) {k : Nat} (hk : ¬ T k) : ∀ b ∈ (locs k).foot, w'.heap[b]? = w.heap[b]? := by
  intro b hb
  refine ht.kept.blk b (hg.lt hb) fun hn => ?_
  obtain ⟨l, hl, hbl⟩ := ht.only b hn
  exact hg.disj k l (fun e => hk (e ▸ hl)) b hb hbl

theorem Good.roStays (hg : Good w0 M0 A0 h w locs RO) (ht : Touch h w locs h' w' locs' RO T N K) : ∀ b, RO b → RO b ∧ w'.heap[b]? = w.heap[b]? := by
  intro b hb
  refine ⟨hb, ht.kept.blk b (hg.rolt b hb) fun hn => ?_⟩
  obtain ⟨l, _, hbl⟩ := ht.only b hn
  exact hg.noro l b hbl hb

theorem Good.ostep (hg : Good w0 M0 A0 h w locs RO) (ht : Touch h w locs h' w' locs' RO T N K) {o : Nat} (hK : ¬ K o) : OStep locs h w locs' h' w' o := by
  by_cases hT : T o
  · exact ht.step o hT hK
  · obtain ⟨e1, e2⟩ := ht.same o hT
    unfold OStep
    have hob := hg.obj o
    have hun := hg.unturned ht hT
    cases hh : h o with
    | gone => trivial
    | var cs => exact ⟨⟨cs, by rw [e1, hh]⟩, by rw [e2]⟩
    | row n es dp g ver =>
      refine ⟨es, dp, g, ver, by rw [e1, hh], Nat.le_refl _, Nat.le_refl _, fun _ => by rw [e2]; exact ⟨rfl, rfl, rfl, rfl⟩, fun hd _ => ⟨hd, fun i j e m us v h1 h2 h3 => ⟨⟨e, m, us, h1, h2⟩, ?_⟩⟩⟩
      rw [e2]
      rw [hh] at hob
      obtain ⟨he, hx | ⟨h0, arr, ty, G, hb, _, _, _, k1, k2⟩⟩ := hob
      · rw [hx.2.1] at h1; simp at h1
      · rw [cell_same (hun _ _)]
        · exact h3
        · cases dp with
          | true => rw [k1 rfl]; simp
          | false => rw [(k2 rfl).1]; simp

theorem Good.step (hg : Good w0 M0 A0 h w locs RO) (ht : Touch h w locs h' w' locs' RO T N K) : Good w0 M0 A0 h' w' locs' RO where
  obj k := by
    by_cases hT : T k
    · exact ht.obj k hT
    · obtain ⟨e1, e2⟩ := ht.same k hT
      rw [e1, e2]
      exact (hg.obj k).frame (hg.unturned ht hT) (hg.roStays ht)
  cells k cs hk arr ty fr hb := by
    by_cases hT : T k
    · exact ht.cells k hT cs hk arr ty fr hb
    · obtain ⟨e1, e2⟩ := ht.same k hT
      rw [e1] at hk
      rw [e2] at hb
      have hob := hg.obj k
      rw [hk] at hob
      rw [hg.unturned ht hT _ (by rw [hob.1]; simp)] at hb
      exact (hg.cells k cs hk arr ty fr hb).mono fun a b ha hr => hr.carry (hg.roStays ht) fun o ho => hg.ostep ht (ht.clean k cs hk a ha o ho)
  live k cs hk x hx o ho := by
    by_cases hT : T k
    · exact ht.live k hT cs hk x hx o ho
    · obtain ⟨e1, e2⟩ := ht.same k hT
      rw [e1] at hk
      have h1 := hg.live k cs hk x hx o ho
      have h2 := hg.ostep ht (ht.clean k cs hk x hx o ho)
      unfold OStep at h2
      intro e
      cases hh : h o with
      | gone => exact h1 hh
      | var cs => rw [hh] at h2; obtain ⟨⟨_, h3⟩, _⟩ := h2; rw [e] at h3; cases h3
      | row n es dp g ver => rw [hh] at h2; obtain ⟨_, _, _, _, h3, _⟩ := h2; rw [e] at h3; cases h3
  nodup k := by
    by_cases hT : T k
    · exact ht.nodup k hT
    · rw [(ht.same k hT).2]; exact hg.nodup k
  disj k l hkl b hb := by
    by_cases hk : T k
    · by_cases hl : T l
      · exact ht.disj k l hk hl hkl b hb
      · rw [(ht.same l hl).2]
        intro hbl
        rcases ht.foot k hk b hb with h1 | ⟨m, hm, h1⟩
        · have := hg.lt hbl; omega
        · exact hg.disj m l (fun e => hl (e ▸ hm)) b h1 hbl
    · rw [(ht.same k hk).2] at hb
      by_cases hl : T l
      · intro hbl
        rcases ht.foot l hl b hbl with h1 | ⟨m, hm, h1⟩
        · have := hg.lt hb; omega
        · exact hg.disj k m (fun e => hk (e ▸ hm)) b hb h1
      · rw [(ht.same l hl).2]; exact hg.disj k l hkl b hb
  noro k b hb hro := by
    by_cases hT : T k
    · rcases ht.foot k hT b hb with h1 | ⟨m, hm, h1⟩
      · have := hg.rolt b hro; omega
      · exact hg.noro m b h1 hro
    · rw [(ht.same k hT).2] at hb
      exact hg.noro k b hb hro
  rolt b hb := Nat.lt_of_lt_of_le (hg.rolt b hb) ht.kept.size
  kept := hg.kept.step ht.kept fun i hi hn => by
    obtain ⟨k, _, hb⟩ := ht.only i hn
    rcases hg.mfoot k i hb with h1 | h1
    · exact h1
    · omega
  mfoot k b hb := by
    by_cases hT : T k
    · rcases ht.foot k hT b hb with h1 | ⟨m, hm, h1⟩
      · have := hg.kept.size; right; omega
      · exact hg.mfoot m b h1
    · rw [(ht.same k hT).2] at hb
      exact hg.mfoot k b hb
  share b hb := hg.share b hb
  pin k L hL n es dp ver hk := by
    by_cases hT : T k
    · by_cases hK : K k
      · rw [ht.killed k hK] at hk; cases hk
      · have h1 := ht.step k hT hK
        unfold OStep at h1
        cases hh : h k with
        | gone => exact absurd hk (ht.fresh k hT hh n es dp ver)
        | var cs => rw [hh] at h1; obtain ⟨⟨_, h3⟩, _⟩ := h1; rw [hk] at h3; cases h3
        | row n' es' dp' g' ver' =>
          rw [hh] at h1
          obtain ⟨_, _, g2, _, h3, h4, _, h5, _⟩ := h1
          rw [hk] at h3
          injection h3 with a1 a2 a3 a4 a5
          have e0 : g' = 0 := by omega
          subst e0
          obtain ⟨b1, b2, b3, b4⟩ := hg.pin k L hL n' es' dp' ver' hh
          obtain ⟨c1, c2, c3, c4⟩ := h5 a4.symm
          exact ⟨c1.trans b1, c2.trans b2, c3.trans b3, c4.trans b4⟩
    · obtain ⟨e1, e2⟩ := ht.same k hT
      rw [e1] at hk
      rw [e2]
      exact hg.pin k L hL n es dp ver hk

theorem ostep_live {o : Nat} (h1 : h o ≠ .gone) (h2 : OStep locs h w locs' h' w' o) : h' o ≠ .gone := by
  unfold OStep at h2
  intro e
  cases hh : h o with
  | gone => exact h1 hh
  | var cs => rw [hh] at h2; obtain ⟨⟨_, h3⟩, _⟩ := h2; rw [e] at h3; cases h3
  | row n es dp g ver => rw [hh] at h2; obtain ⟨_, _, _, _, h3, _⟩ := h2; rw [e] at h3; cases h3

/-- A slot lives on. -/
theorem Good.slot (hg : Good w0 M0 A0 h w locs RO) (ht : Touch h w locs h' w' locs' RO T N K) {x : Slot} {v : Value} (hv : SRel locs h w RO x v) (hx : ∀ o ∈ x.refs, ¬ K o) : SRel locs' h' w' RO x v :=
  hv.carry (hg.roStays ht) fun o ho => hg.ostep ht (hx o ho)

theorem Good.cellv (hg : Good w0 M0 A0 h w locs RO) (ht : Touch h w locs h' w' locs' RO T N K) {x : VC} {v : Value} (hv : VRel locs h w RO x v) (hx : ∀ o ∈ x.refs, ¬ K o) : VRel locs' h' w' RO x v :=
  hv.carry (hg.roStays ht) fun o ho => hg.ostep ht (hx o ho)

/-- The tmps of a state: a shorthand. -/
def Tmps (locs : Locs) (h : Heap) (w : World) (RO : Nat → Prop) (t : List Slot) (a : Act) : Prop :=
  a.defers = [] ∧ a.tmps.size = t.length ∧ (∀ i, SRel locs h w RO (getT t i) (a.tmps.getD i undef)) ∧ (∀ i, ∀ o ∈ (getT t i).refs, h o ≠ .gone)

theorem rel_iff {st : St} {a : Act} : Rel w0 M0 A0 st a w ↔ ∃ locs RO, Good w0 M0 A0 st.h w locs RO ∧ Tmps locs st.h w RO st.t a := Iff.rfl

theorem Tmps.step {t : List Slot} {a : Act} (hg : Good w0 M0 A0 h w locs RO) (ht : Touch h w locs h' w' locs' RO T N K) (hm : Tmps locs h w RO t a) (hx : ∀ i, ∀ o ∈ (getT t i).refs, ¬ K o) : Tmps locs' h' w' RO t a :=
  ⟨hm.1, hm.2.1, fun i => hg.slot ht (hm.2.2.1 i) (hx i), fun i o ho => ostep_live (hm.2.2.2 i o ho) (hg.ostep ht (hx i o ho))⟩

def putT (t : List Slot) (d : Option Nat) (x : Slot) : List Slot := match d with | some i => t.set i x | none => t

theorem getT_set {t : List Slot} {i j : Nat} {x : Slot} : getT (t.set i x) j = if i = j ∧ j < t.length then x else getT t j := by
  simp only [getT, List.getD_eq_getElem?_getD, List.getElem?_set]
  by_cases e : i = j
  · subst e
    by_cases hl : i < t.length <;> simp [hl]
  · simp [e]

theorem Tmps.put {t : List Slot} {a : Act} (hm : Tmps locs h w RO t a) (d : Option Nat) {x : Slot} {v : Value} (hv : SRel locs h w RO x v) (hr : ∀ o ∈ x.refs, h o ≠ .gone) :
    Tmps locs h w RO (putT t d x) (a.put d v) := by
  cases d with
  | none => exact hm
  | some i =>
    refine ⟨hm.1, by simp [putT, Act.put, hm.2.1], fun j => ?_, fun j o ho => ?_⟩
    · simp only [putT, getT_set, Act.put]
      by_cases hc : i = j ∧ j < t.length
      · rw [if_pos hc]
        obtain ⟨rfl, hl⟩ := hc
        have : (a.tmps.setIfInBounds i v).getD i undef = v := by
          simp [Array.getD, hm.2.1, hl]
        rw [this]; exact hv
      · rw [if_neg hc]
        have : (a.tmps.setIfInBounds i v).getD j undef = a.tmps.getD j undef := by
          simp only [Array.getD_eq_getD_getElem?, Array.getElem?_setIfInBounds]
          by_cases e : i = j
          · subst e
            have : ¬ i < a.tmps.size := by rw [hm.2.1]; exact fun hl => hc ⟨rfl, hl⟩
            simp [this]
          · simp [e]
        rw [this]; exact hm.2.2.1 j
    · simp only [putT, getT_set] at ho
      by_cases hc : i = j ∧ j < t.length
      · rw [if_pos hc] at ho; exact hr o ho
      · rw [if_neg hc] at ho; exact hm.2.2.2 j o ho
end

def upd (h : Heap) (k : Nat) (o : VO) : Heap := fun j => if j = k then o else h j
def updL (l : Locs) (k : Nat) (x : Loc) : Locs := fun j => if j = k then x else l j
theorem upd_same {h : Heap} {k : Nat} {o : VO} : upd h k o k = o := if_pos rfl
theorem upd_ne {h : Heap} {k j : Nat} {o : VO} (e : j ≠ k) : upd h k o j = h j := if_neg e
theorem updL_same {h : Locs} {k : Nat} {o : Loc} : updL h k o k = o := if_pos rfl
theorem updL_ne {h : Locs} {k j : Nat} {o : Loc} (e : j ≠ k) : updL h k o j = h j := if_neg e

theorem heap_alloc_old {w : World} {o : Obj} {k : Nat} (h : k < w.heap.size) : (w.alloc o).heap[k]? = w.heap[k]? := by
  show (w.heap.push o)[k]? = _
  rw [Array.getElem?_push, if_neg (by omega)]
theorem heap_alloc_new {w : World} {o : Obj} : (w.alloc o).heap[w.heap.size]? = some o := by
  show (w.heap.push o)[w.heap.size]? = _
  simp
theorem kept_alloc (w : World) (o : Obj) : Kept (fun _ => False) w (w.alloc o) :=
  ⟨rfl, rfl, rfl, by simp, fun k hk _ => heap_alloc_old hk⟩

section
variable {w0 : World} {M0 : Nat → Prop} {A0 : Cx} {h : Heap} {w : World} {locs : Locs} {RO : Nat → Prop}

/-- A new variable. -/
theorem touch_var (hg : Good w0 M0 A0 h w locs RO) {k : Nat} (hk : h k = .gone) {cs : List VC} {arr : Array Value} (ty : TypeId) (hr : All2 (VRel locs h w RO) cs arr.toList)
    (hl : ∀ x ∈ cs, ∀ o ∈ x.refs, h o ≠ .gone) :
    Touch h w locs (upd h k (.var cs)) (w.alloc (.cells arr ty)) (updL locs k ⟨false, w.heap.size, 0, 0, [w.heap.size]⟩) RO (· = k) (fun _ => False) (fun _ => False) where
  kept := kept_alloc _ _
  only b hb := hb.elim
  same j hj := ⟨upd_ne hj, updL_ne hj⟩
  obj j hj := by
    subst hj
    rw [upd_same, updL_same]
    exact ⟨rfl, arr, ty, heap_alloc_new, by simpa using hr.length⟩
  cells j hj cs' hc arr' ty' fr' hb := by
    subst hj
    rw [upd_same] at hc
    rw [updL_same] at hb
    simp only at hb
    rw [heap_alloc_new] at hb
    injection hc with hc; subst hc
    injection hb with hb; injection hb with hb; subst hb
    refine hr.mono fun a b ha hab => hab.carry (fun b hb => ⟨hb, heap_alloc_old (hg.rolt b hb)⟩) fun o ho => ?_
    have hne : o ≠ j := fun e => hl a ha o ho (e ▸ hk)
    unfold OStep
    cases hh : h o with
    | gone => trivial
    | var c => exact ⟨⟨c, by rw [upd_ne hne, hh]⟩, by rw [updL_ne hne]⟩
    | row n es dp g ver =>
      refine ⟨es, dp, g, ver, by rw [upd_ne hne, hh], Nat.le_refl _, Nat.le_refl _, fun _ => by rw [updL_ne hne]; exact ⟨rfl, rfl, rfl, rfl⟩, fun hd _ => ⟨hd, fun i j e m us v h1 h2 h3 => ⟨⟨e, m, us, h1, h2⟩, ?_⟩⟩⟩
      rw [updL_ne hne, World.cell?_alloc_lt]
      · exact h3
      · exact World.block_lt_of_cell? w _ h3
  live j hj cs' hc x hx o ho := by
    subst hj
    rw [upd_same] at hc
    injection hc with hc; subst hc
    have h1 := hl x hx o ho
    by_cases e : o = j
    · subst e; exact absurd hk h1
    · rw [upd_ne e]; exact h1
  nodup j hj := by subst hj; rw [updL_same]; simp
  foot j hj b hb := by
    subst hj
    rw [updL_same] at hb
    simp at hb; subst hb; exact .inl (Nat.le_refl _)
  disj j l hj hl hne := absurd (hj.trans hl.symm) hne
  step o ho _ := by
    subst ho
    unfold OStep
    rw [hk]
    trivial
  sub o ho := ho.elim
  clean _ _ _ _ _ _ _ := not_false
  fresh o ho _ n es dp ver := by subst ho; rw [upd_same]; simp
  killed o ho := ho.elim

/-- A new row, in a block of its own or none. -/
theorem touch_row (hg : Good w0 M0 A0 h w locs RO) {k : Nat} (hk : h k = .gone) {o : VO} {L : Loc} {w' : World} (hkept : Kept (fun _ => False) w w') (ho : ObjOk w' RO o L)
    (hrow : ∃ n es dp g ver, o = .row n es dp (g + 1) ver) (hn : L.foot.Nodup) (hf : ∀ b ∈ L.foot, w.heap.size ≤ b) :
    Touch h w locs (upd h k o) w' (updL locs k L) RO (· = k) (fun _ => False) (fun _ => False) where
  kept := hkept
  only b hb := hb.elim
  same j hj := ⟨upd_ne hj, updL_ne hj⟩
  obj j hj := by subst hj; rw [upd_same, updL_same]; exact ho
  cells j hj cs' hc := by
    subst hj
    rw [upd_same] at hc
    obtain ⟨n, es, dp, g, ver, e⟩ := hrow
    rw [e] at hc; cases hc
  live j hj cs' hc := by
    subst hj
    rw [upd_same] at hc
    obtain ⟨n, es, dp, g, ver, e⟩ := hrow
    rw [e] at hc; cases hc
  nodup j hj := by subst hj; rw [updL_same]; exact hn
  foot j hj b hb := by subst hj; rw [updL_same] at hb; exact .inl (hf b hb)
  disj j l hj hl hne := absurd (hj.trans hl.symm) hne
  step o' ho' _ := by
    subst ho'
    unfold OStep
    rw [hk]
    trivial
  sub o ho := ho.elim
  clean _ _ _ _ _ _ _ := not_false
  fresh o' ho _ n es dp ver := by
    subst ho
    obtain ⟨n', es', dp', g, ver', e⟩ := hrow
    rw [upd_same, e]; simp
  killed o ho := ho.elim
end

/-! ### what is let go -/
def eraseC (K : List Nat) (x : VC) : VC := if x.refs.any (K.contains ·) then .dead else x
def eraseV (K : List Nat) (x : TV) : TV := if x.refs.any (K.contains ·) then ⟨x.ag, x.cs.map (eraseC K)⟩ else x
def eraseS (K : List Nat) : Slot → Slot
  | .t x => .t (eraseV K x)
  | .tu l => .tu (l.map (eraseV K))
def eraseH (K : List Nat) (h : Heap) : Heap := fun k => match h k with
  | .var cs => .var (cs.map (eraseC K))
  | o => o
def killH (K : List Nat) (h : Heap) : Heap := fun k => if K.contains k then .gone else h k

theorem eraseC_refs {K : List Nat} {x : VC} : ∀ o ∈ (eraseC K x).refs, o ∈ x.refs ∧ o ∉ K := by
  intro o ho
  unfold eraseC at ho
  split at ho
  · simp [VC.refs] at ho
  · rename_i hn
    refine ⟨ho, fun hk => hn ?_⟩
    simp only [List.any_eq_true]
    exact ⟨o, ho, by simpa using hk⟩
theorem eraseV_refs {K : List Nat} {x : TV} : ∀ o ∈ (eraseV K x).refs, o ∈ x.refs ∧ o ∉ K := by
  intro o ho
  unfold eraseV at ho
  split at ho
  · simp only [TV.refs, List.mem_flatMap, List.mem_map] at ho
    obtain ⟨_, ⟨y, hy, rfl⟩, ho⟩ := ho
    exact ⟨List.mem_flatMap.2 ⟨y, hy, (eraseC_refs o ho).1⟩, (eraseC_refs o ho).2⟩
  · rename_i hn
    refine ⟨ho, fun hk => hn ?_⟩
    simp only [List.any_eq_true]
    exact ⟨o, ho, by simpa using hk⟩
theorem eraseS_refs {K : List Nat} {x : Slot} : ∀ o ∈ (eraseS K x).refs, o ∈ x.refs ∧ o ∉ K := by
  intro o ho
  cases x with
  | t x => exact eraseV_refs o ho
  | tu l =>
    simp only [eraseS, Slot.refs, List.mem_flatMap, List.mem_map] at ho
    obtain ⟨_, ⟨y, hy, rfl⟩, ho⟩ := ho
    exact ⟨List.mem_flatMap.2 ⟨y, hy, (eraseV_refs o ho).1⟩, (eraseV_refs o ho).2⟩

section
variable {w0 : World} {M0 : Nat → Prop} {A0 : Cx} {h : Heap} {w : World} {locs : Locs} {RO : Nat → Prop} {K : List Nat}

theorem ostep_erase (o : Nat) : OStep locs h w locs (eraseH K h) w o := by
  unfold OStep
  cases hh : h o with
  | gone => trivial
  | var cs => exact ⟨⟨_, by simp only [eraseH, hh]; rfl⟩, rfl⟩
  | row n es dp g ver => exact ⟨es, dp, g, ver, by simp only [eraseH, hh], Nat.le_refl _, Nat.le_refl _, fun _ => ⟨rfl, rfl, rfl, rfl⟩, fun hd _ => ⟨hd, fun i j e m us v h1 h2 h3 => ⟨⟨e, m, us, h1, h2⟩, h3⟩⟩⟩

theorem eraseH_gone {k : Nat} (hk : h k ≠ .gone) : eraseH K h k ≠ .gone := by
  unfold eraseH
  cases hh : h k with
  | gone => exact absurd hh hk
  | var cs => simp
  | row n es dp g ver => simp

theorem VRel.erase {x : VC} {v : Value} (hv : VRel locs h w RO x v) : VRel locs (eraseH K h) w RO (eraseC K x) v := by
  unfold eraseC
  split
  · trivial
  · exact hv.carry (fun b hb => ⟨hb, rfl⟩) fun o _ => ostep_erase o
theorem All2.map_left {α β γ : Type} {R : α → β → Prop} {S : γ → β → Prop} {f : α → γ} {l : List α} {m : List β} (h : All2 R l m) (hi : ∀ a b, R a b → S (f a) b) : All2 S (l.map f) m := by
  induction h with
  | nil => exact .nil
  | cons h _ ih => exact .cons (hi _ _ h) ih
theorem TRel.erase {x : TV} {v : Value} (hv : TRel locs h w RO x v) : TRel locs (eraseH K h) w RO (eraseV K x) v := by
  unfold eraseV
  split
  · obtain ⟨ag, cs⟩ := x
    cases ag with
    | true => obtain ⟨arr, e, ha⟩ := hv; exact ⟨arr, e, ha.map_left fun a b hr => hr.erase⟩
    | false => exact All2.map_left hv fun a b hr => hr.erase
  · exact hv.carry (fun b hb => ⟨hb, rfl⟩) fun o _ => ostep_erase o
theorem SRel.erase {x : Slot} {v : Value} (hv : SRel locs h w RO x v) : SRel locs (eraseH K h) w RO (eraseS K x) v := by
  cases x with
  | t x => exact TRel.erase hv
  | tu l => obtain ⟨vs, e, ha⟩ := hv; exact ⟨vs, e, ha.map_left fun a b hr => hr.erase⟩

theorem Good.erase (hg : Good w0 M0 A0 h w locs RO) : Good w0 M0 A0 (eraseH K h) w locs RO where
  obj k := by
    have := hg.obj k
    unfold eraseH
    cases hh : h k with
    | gone => rw [hh] at this; exact this
    | var cs => rw [hh] at this; obtain ⟨h1, arr, ty, h2, h3⟩ := this; exact ⟨h1, arr, ty, h2, by simpa using h3⟩
    | row n es dp g ver => rw [hh] at this; exact this
  cells k cs hk arr ty fr hb := by
    unfold eraseH at hk
    cases hh : h k with
    | gone => rw [hh] at hk; cases hk
    | var cs' => rw [hh] at hk; injection hk with hk; subst hk; exact (hg.cells k cs' hh arr ty fr hb).map_left fun a b hr => hr.erase
    | row n es dp g ver => rw [hh] at hk; cases hk
  live k cs hk x hx o ho := by
    unfold eraseH at hk
    cases hh : h k with
    | gone => rw [hh] at hk; cases hk
    | var cs' =>
      rw [hh] at hk; injection hk with hk; subst hk
      obtain ⟨y, hy, rfl⟩ := List.mem_map.1 hx
      exact eraseH_gone (hg.live k cs' hh y hy o (eraseC_refs o ho).1)
    | row n es dp g ver => rw [hh] at hk; cases hk
  nodup := hg.nodup
  disj := hg.disj
  noro := hg.noro
  rolt := hg.rolt
  kept := hg.kept
  mfoot := hg.mfoot
  share := hg.share
  pin k L hL n es dp ver hk := by
    unfold eraseH at hk
    cases hh : h k with
    | gone => rw [hh] at hk; cases hk
    | var cs' => rw [hh] at hk; cases hk
    | row n' es' dp' g' ver' => rw [hh] at hk; exact hg.pin k L hL n es dp ver (hh.trans hk)

theorem getT_map {t : List Slot} {i : Nat} {f : Slot → Slot} (hf : f .dead = .dead) : getT (t.map f) i = f (getT t i) := by
  simp only [getT, List.getD_eq_getElem?_getD, List.getElem?_map]
  cases t[i]? <;> simp [hf]

theorem Tmps.erase {t : List Slot} {a : Act} (hm : Tmps locs h w RO t a) : Tmps locs (eraseH K h) w RO (t.map (eraseS K)) a := by
  have hd : eraseS K .dead = .dead := by simp [eraseS, Slot.dead, eraseV, TV.refs, VC.refs]
  refine ⟨hm.1, by simpa using hm.2.1, fun i => ?_, fun i o ho => ?_⟩
  · rw [getT_map hd]; exact (hm.2.2.1 i).erase
  · rw [getT_map hd] at ho; exact eraseH_gone (hm.2.2.2 i o (eraseS_refs o ho).1)
theorem erase_clean {t : List Slot} {i : Nat} : ∀ o ∈ (getT (t.map (eraseS K)) i).refs, ¬ (o ∈ K) := by
  have hd : eraseS K .dead = .dead := by simp [eraseS, Slot.dead, eraseV, TV.refs, VC.refs]
  intro o ho
  rw [getT_map hd] at ho
  exact (eraseS_refs o ho).2
theorem eraseH_clean : ∀ k cs, eraseH K h k = .var cs → ∀ x ∈ cs, ∀ o ∈ x.refs, ¬ (o ∈ K) := by
  intro k cs hk x hx o ho
  unfold eraseH at hk
  cases hh : h k with
  | gone => rw [hh] at hk; cases hk
  | var cs' =>
    rw [hh] at hk; injection hk with hk; subst hk
    obtain ⟨y, hy, rfl⟩ := List.mem_map.1 hx
    exact (eraseC_refs o ho).2
  | row n es dp g ver => rw [hh] at hk; cases hk
end

end Go.Proofs.YtglilpigoocgeaaGreatDoor.V
namespace Go.Proofs.YtglilpigoocgeaaGreatDoor.V
open Go
set_option linter.unusedVariables false

/-! ### the table of types -/
inductive TyK where
  | no | leaf | str
  | sl (el : Nat)
  | st (offs : List (Nat × Nat))
  deriving Inhabited
structure TyI where
  k : TyK
  sz : Nat
  bytes : Nat
  zero : List Dat
instance : Inhabited TyI := ⟨⟨.no, 0, 0, []⟩⟩
def ty (tab : List TyI) (T : TypeId) : TyI := tab.getD T default
def TyI.ag (i : TyI) : Bool := match i.k with | .st _ => true | _ => false
def TyI.ok (i : TyI) : Bool := match i.k with | .no => false | _ => true

def zcell : Dat → Value → Bool
  | .lf (.int k n), .int k' m => decide (k = k') && decide (n = m)
  | .lf (.bool a), .bool b => a == b
  | .lf (.string a), .string b => decide (a.size = 0) && decide (b.size = 0)
  | .lf (.pointer none), .pointer none => true
  | .lf .nilFunc, .nilFunc => true
  | .sl _ [], .slice none 0 0 => true
  | _, _ => false
def zcells : List Dat → List Value → Bool
  | [], [] => true
  | d :: ds, v :: vs => zcell d v && zcells ds vs
  | _, _ => false
def kindOk (P : Program) : TyK → TypeDesc → Bool
  | .leaf, .bool | .leaf, .int _ | .leaf, .pointer _ | .leaf, .func .. | .str, .string => true
  | .sl e, .slice e' => decide (e = e')
  | .st offs, .struct fs => decide (fs.toList.map (fun f => (f.offset, f.type)) = offs) && fs.all fun f => decide (P.cellsOf f.type ≠ 0) && (P.info? f.type).isSome
  | _, _ => false
def tyOkB (P : Program) (T : Nat) (i : TyI) : Bool :=
  match i.k with
  | .no => true
  | k => match P.info? T, P.underlying T with
    | some f, some d => decide (f.size = i.sz) && decide (f.bytes = i.bytes) && decide (i.zero.length = i.sz) && kindOk P k d && (match f.zero with | some z => zcells i.zero z.cells.toList && ((z matches .agg _) == i.ag) | none => false)
    | _, _ => false
def tabOkB (P : Program) : Nat → List TyI → Bool
  | _, [] => true
  | T, i :: l => tyOkB P T i && tabOkB P (T + 1) l

/-- What the table says of a type is so. -/
structure TyOk (P : Program) (T : TypeId) (i : TyI) : Prop where
  ex : ∃ f d, P.info? T = some f ∧ P.underlying T = some d ∧ f.size = i.sz ∧ f.bytes = i.bytes ∧ kindOk P i.k d = true ∧ ∃ z, f.zero = some z ∧ zcells i.zero z.cells.toList = true ∧ (z matches .agg _) = i.ag
  zl : i.zero.length = i.sz
def TabOk (P : Program) (tab : List TyI) : Prop := ∀ T, (ty tab T).ok = true → TyOk P T (ty tab T)

theorem tyOk_of {P : Program} {T : Nat} {i : TyI} (h : tyOkB P T i = true) (hk : i.ok = true) : TyOk P T i := by
  unfold tyOkB at h
  have h' : (match P.info? T, P.underlying T with
    | some f, some d => decide (f.size = i.sz) && decide (f.bytes = i.bytes) && decide (i.zero.length = i.sz) && kindOk P i.k d && (match f.zero with | some z => zcells i.zero z.cells.toList && ((z matches .agg _) == i.ag) | none => false)
    | _, _ => false) = true := by
    cases hkk : i.k <;> simp_all [TyI.ok]
  cases h1 : P.info? T with
  | none => simp [h1] at h'
  | some f =>
    cases h2 : P.underlying T with
    | none => simp [h1, h2] at h'
    | some d =>
      simp only [h1, h2, Bool.and_eq_true, decide_eq_true_eq] at h'
      obtain ⟨⟨⟨⟨a, b⟩, zl⟩, c⟩, e⟩ := h'
      cases hz : f.zero with
      | none => simp [hz] at e
      | some z =>
        simp only [hz, Bool.and_eq_true, beq_iff_eq] at e
        exact ⟨⟨f, d, h1, h2, a, b, c, z, hz, e.1, e.2⟩, zl⟩

theorem tabOk_go {P : Program} : ∀ {l : List TyI} {k : Nat}, tabOkB P k l = true → ∀ j, (l.getD j default).ok = true → TyOk P (k + j) (l.getD j default)
  | [], k, _, j, h => by simp [TyI.ok, default] at h
  | i :: l, k, hb, 0, h => by
    simp only [tabOkB, Bool.and_eq_true] at hb
    exact tyOk_of hb.1 h
  | i :: l, k, hb, j + 1, h => by
    simp only [tabOkB, Bool.and_eq_true] at hb
    have := tabOk_go hb.2 j (by simpa using h)
    simp only [List.getD_cons_succ]
    rwa [Nat.add_assoc, Nat.add_comm 1] at this
theorem tabOk_of {P : Program} {tab : List TyI} (h : tabOkB P 0 tab = true) : TabOk P tab := fun T hT => by
  have := tabOk_go h T hT
  rwa [Nat.zero_add] at this

section
variable {P : Program} {T : TypeId} {i : TyI}
theorem TyOk.sizeOf (h : TyOk P T i) (w : World) : (sizeOf T).run P w = .ok i.sz w := by
  obtain ⟨f, d, h1, h2, h3, _⟩ := h.ex
  simp [Go.sizeOf, typeInfo, h1, h3]
theorem TyOk.under (h : TyOk P T i) (w : World) : ∃ d, P.underlying T = some d ∧ kindOk P i.k d = true ∧ (underlying T).run P w = .ok d w := by
  obtain ⟨f, d, h1, h2, h3, _, h4, _⟩ := h.ex
  exact ⟨d, h2, h4, by simp [Go.underlying, h2]⟩
theorem kindOk_st {offs : List (Nat × Nat)} {d : TypeDesc} (h : kindOk P (.st offs) d = true) : ∃ fs, d = .struct fs ∧ fs.toList.map (fun f => (f.offset, f.type)) = offs ∧ ∀ f ∈ fs, P.cellsOf f.type ≠ 0 ∧ (P.info? f.type).isSome = true := by
  cases d <;> simp [kindOk] at h
  rename_i fs
  refine ⟨fs, rfl, by simpa using h.1, fun f hf => ?_⟩
  have := h.2
  obtain ⟨k, hk, e⟩ := Array.mem_iff_getElem.1 hf
  have := this k hk
  rw [e] at this
  exact this
theorem kindOk_sl {e : Nat} {d : TypeDesc} (h : kindOk P (.sl e) d = true) : d = .slice e := by
  cases d <;> simp [kindOk] at h
  subst h; rfl
theorem kindOk_str {d : TypeDesc} (h : kindOk P .str d = true) : d = .string := by
  cases d <;> simp [kindOk] at h
  rfl
theorem TyOk.slice (h : TyOk P T i) {e : Nat} (hk : i.k = .sl e) : P.underlying T = some (.slice e) := by
  obtain ⟨f, d, h1, h2, h3, _, h4, _⟩ := h.ex
  rw [hk] at h4
  rw [h2, kindOk_sl h4]
theorem TyOk.string (h : TyOk P T i) (hk : i.k = .str) : P.underlying T = some .string := by
  obtain ⟨f, d, h1, h2, h3, _, h4, _⟩ := h.ex
  rw [hk] at h4
  rw [h2, kindOk_str h4]
theorem TyOk.isAgg (h : TyOk P T i) (w : World) : (isAgg T).run P w = .ok i.ag w := by
  obtain ⟨f, d, h1, h2, h3, _, h4, _⟩ := h.ex
  have : (Go.underlying T).run P w = .ok d w := by simp [Go.underlying, h2]
  simp only [Go.isAgg, Sem.run_bind, this, Result.andThen_ok]
  cases hk : i.k with
  | st offs => rw [hk] at h4; obtain ⟨fs, rfl, _⟩ := kindOk_st h4; simp [TyI.ag, hk]
  | sl e => rw [hk] at h4; rw [kindOk_sl h4]; simp [TyI.ag, hk]
  | str => rw [hk] at h4; rw [kindOk_str h4]; simp [TyI.ag, hk]
  | no => rw [hk] at h4; cases d <;> simp [kindOk] at h4
  | leaf => rw [hk] at h4; cases d <;> simp [kindOk] at h4 <;> simp [TyI.ag, hk]
end

theorem zcell_reps {w : World} {d : Dat} {v : Value} (h : zcell d v = true) : Reps true w [d] [v] [] := by
  unfold zcell at h
  split at h <;> simp at h
  · obtain ⟨rfl, rfl⟩ := h; exact .lf rfl .nil
  · subst h; exact .lf rfl .nil
  · rename_i a b
    have : a = b := by rw [h.1, h.2]
    subst this; exact .lf rfl .nil
  · exact .lf rfl .nil
  · exact .lf rfl .nil
  · exact .nl .nil
theorem zcells_reps {w : World} : ∀ {ds : List Dat} {vs : List Value}, zcells ds vs = true → Reps true w ds vs []
  | [], [], _ => .nil
  | d :: ds, v :: vs, h => by
    simp only [zcells, Bool.and_eq_true] at h
    have h1 := zcell_reps (w := w) h.1
    have h2 := zcells_reps (w := w) h.2
    exact h1.append h2
  | [], _ :: _, h => by simp [zcells] at h
  | _ :: _, [], h => by simp [zcells] at h

/-- A zero cell. -/
def zvc : Dat → VC
  | .sl n [] => .nl n
  | d => .d d

/-! ### operands -/
inductive CRel : Value → TV → Prop
  | lf {v : Value} (h : sca v = true) : CRel v ⟨false, [.d (.lf v)]⟩
  | nil (n : Nat) : CRel (.slice none 0 0) ⟨false, [.nl n]⟩
  | ag {arr : Array Value} {ds : List Dat} (h : zcells ds arr.toList = true) : CRel (.agg arr) ⟨true, ds.map zvc⟩

def Ev (t : List Slot) : Operand → TV → Prop
  | .tmp i, x => getT t i = .t x
  | .const v, x => CRel v x
  | .func f, x => x = ⟨false, [.cl f []]⟩
  | .global _, _ => False

section
variable {w0 : World} {M0 : Nat → Prop} {A0 : Cx} {h : Heap} {w : World} {locs : Locs} {RO : Nat → Prop} {t : List Slot} {a : Act}

theorem vrel_lf {v : Value} (hs : sca v = true) : VRel locs h w RO (.d (.lf v)) v := ⟨[], .lf hs .nil, by simp⟩
theorem vrel_lf_eq {v u : Value} (hr : VRel locs h w RO (.d (.lf v)) u) : u = v ∧ sca v = true := by
  obtain ⟨F, hr, _⟩ := hr
  obtain ⟨e, hs, _⟩ := reps_one_lf hr
  exact ⟨e, hs⟩
theorem reps_vrels {ds : List Dat} {vs : List Value} {F : List Nat} {wr : Bool} (hr : Reps wr w ds vs F) (hF : ∀ b ∈ F, RO b) : All2 (VRel locs h w RO) (ds.map .d) vs := by
  refine All2.of_get (by rw [hr.length, List.length_map]) fun i x hx => ?_
  rw [List.getElem?_map] at hx
  obtain ⟨d, hd, rfl⟩ := Option.map_eq_some_iff.1 hx
  obtain ⟨v, G, hv, hg, hG⟩ := hr.ro.one hd
  exact ⟨v, hv, G, hg, fun b hb => hF b (hG b hb)⟩

theorem TRel.single {x : VC} {v : Value} : TRel locs h w RO ⟨false, [x]⟩ v ↔ VRel locs h w RO x v := by
  simp only [TRel]
  constructor
  · intro hh; cases hh with | cons h _ => exact h
  · intro hh; exact .cons hh .nil

theorem zvc_rel {d : Dat} {v : Value} (hz : zcell d v = true) : VRel locs h w RO (zvc d) v := by
  have hr := zcell_reps (w := w) hz
  unfold zvc
  split
  · unfold zcell at hz
    split at hz <;> simp_all [VRel]
  · exact ⟨[], hr.ro, by simp⟩
theorem zvcs_rel : ∀ {ds : List Dat} {vs : List Value}, zcells ds vs = true → All2 (VRel locs h w RO) (ds.map zvc) vs
  | [], [], _ => .nil
  | d :: ds, v :: vs, hz => by
    simp only [zcells, Bool.and_eq_true] at hz
    exact .cons (zvc_rel hz.1) (zvcs_rel hz.2)
  | [], _ :: _, hz => by simp [zcells] at hz
  | _ :: _, [], hz => by simp [zcells] at hz
theorem zvc_refs (d : Dat) : (zvc d).refs = [] := by
  unfold zvc
  split <;> rfl

theorem crel {v : Value} {x : TV} (hc : CRel v x) : TRel locs h w RO x v := by
  cases hc with
  | lf hs => exact TRel.single.2 (vrel_lf hs)
  | nil n => exact TRel.single.2 rfl
  | ag hz => exact ⟨_, rfl, zvcs_rel hz⟩

theorem crel_refs {v : Value} {x : TV} (hc : CRel v x) : x.refs = [] := by
  cases hc with
  | lf hs => rfl
  | nil n => rfl
  | ag hz => simp only [TV.refs, List.flatMap_map, zvc_refs]; simp

theorem Tmps.ev (hm : Tmps locs h w RO t a) {x : Operand} {y : TV} (he : Ev t x y) : TRel locs h w RO y (a.eval x) ∧ ∀ o ∈ y.refs, h o ≠ .gone := by
  cases x with
  | tmp i =>
    simp only [Ev] at he
    have h1 := hm.2.2.1 i
    have h2 := hm.2.2.2 i
    rw [he] at h1 h2
    exact ⟨h1, h2⟩
  | const v => exact ⟨crel he, by rw [crel_refs he]; simp⟩
  | func f =>
    simp only [Ev] at he
    subst he
    exact ⟨TRel.single.2 ⟨#[], rfl, .nil⟩, by simp [TV.refs, VC.refs]⟩
  | global g => exact he.elim

theorem Tmps.ev1 (hm : Tmps locs h w RO t a) {x : Operand} {y : VC} (he : Ev t x ⟨false, [y]⟩) : VRel locs h w RO y (a.eval x) ∧ ∀ o ∈ y.refs, h o ≠ .gone := by
  obtain ⟨h1, h2⟩ := hm.ev he
  exact ⟨TRel.single.1 h1, fun o ho => h2 o (by simp [TV.refs, ho])⟩
theorem Tmps.evlf (hm : Tmps locs h w RO t a) {x : Operand} {v : Value} (he : Ev t x ⟨false, [.d (.lf v)]⟩) : a.eval x = v ∧ sca v = true := vrel_lf_eq (hm.ev1 he).1
end

/-! ### operations -/
def updAll (h : Heap) : List (Nat × VO) → Heap
  | [] => h
  | (k, o) :: l => updAll (upd h k o) l

/-- The operation yields a value 'r' and new objects; nothing that was there turns. -/
def DoesR (P : Program) (o : Oper) (t : List Slot) (h : Heap) (r : Slot) (news : List (Nat × VO)) : Prop :=
  ∀ (w0 : World) (M0 : Nat → Prop) (A0 : Cx) (locs : Locs) (RO : Nat → Prop) (a : Act) (w : World), Good w0 M0 A0 h w locs RO → Tmps locs h w RO t a →
    ∀ (K : Act → World → Prop) (Q : Exit → Act → World → Prop),
      (∀ v w' locs', Touch h w locs (updAll h news) w' locs' RO (· ∈ news.map (·.1)) (fun _ => False) (fun _ => False) → SRel locs' (updAll h news) w' RO r v → (∀ o ∈ r.refs, updAll h news o ≠ .gone) → K (a.put o.dst v) w') →
      o.wp P a w K Q

/-- An operation that reads or reckons. -/
def Yield (P : Program) (o : Oper) (t : List Slot) (h : Heap) (r : Slot) : Prop :=
  ∀ (w0 : World) (M0 : Nat → Prop) (A0 : Cx) (locs : Locs) (RO : Nat → Prop) (a : Act) (w : World), Good w0 M0 A0 h w locs RO → Tmps locs h w RO t a →
    ∃ v, (execOp a.eval o).run P w = .ok (.value v) w ∧ SRel locs h w RO r v ∧ ∀ o ∈ r.refs, h o ≠ .gone

theorem touch_none {h : Heap} {w : World} {locs : Locs} {RO : Nat → Prop} : Touch h w locs h w locs RO (· ∈ ([] : List Nat)) (fun _ => False) (fun _ => False) where
  kept := Kept.refl _ _
  only b hb := hb.elim
  same j hj := ⟨rfl, rfl⟩
  obj j hj := by simp at hj
  cells j hj := by simp at hj
  live j hj := by simp at hj
  nodup j hj := by simp at hj
  foot j hj := by simp at hj
  disj j l hj := by simp at hj
  step j hj := by simp at hj
  sub o ho := ho.elim
  clean _ _ _ _ _ _ _ := not_false
  fresh o ho := by simp at ho
  killed o ho := ho.elim

theorem wp_of_value {P : Program} {o : Oper} {a : Act} {w w' : World} {v : Value} {K : Act → World → Prop} {Q : Exit → Act → World → Prop}
    (hr : (execOp a.eval o).run P w = .ok (.value v) w') (hk : K (a.put o.dst v) w') : o.wp P a w K Q := by
  simp only [Oper.wp, hr, Oper.upon]; exact hk
theorem wp_of_skip {P : Program} {o : Oper} {a : Act} {w w' : World} {K : Act → World → Prop} {Q : Exit → Act → World → Prop}
    (hr : (execOp a.eval o).run P w = .ok .skip w') (hk : K (a.put o.dst undef) w') : o.wp P a w K Q := by
  simp only [Oper.wp, hr, Oper.upon]; exact hk

theorem Yield.does {P : Program} {o : Oper} {t : List Slot} {h : Heap} {r : Slot} (hy : Yield P o t h r) : DoesR P o t h r [] := by
  intro w0 M0 A0 locs RO a w hg hm K Q hk
  obtain ⟨v, hr, hs, hl⟩ := hy w0 M0 A0 locs RO a w hg hm
  exact wp_of_value hr (hk v w locs touch_none hs hl)

section
variable {P : Program} {o : Oper} {t : List Slot} {h : Heap} {tab : List TyI}

theorem y_move {x : Operand} {y : TV} (ho : o.op = .move x ∨ o.op = .assign x) (he : Ev t x y) : Yield P o t h (.t y) := by
  intro w0 M0 A0 locs RO a w hg hm
  obtain ⟨h1, h2⟩ := hm.ev he
  refine ⟨a.eval x, ?_, h1, h2⟩
  rcases ho with ho | ho <;> simp [execOp, ho]

theorem y_pick {c x y : Operand} {b : Bool} {u : TV} (ho : o.op = .pick c x y) (hc : Ev t c ⟨false, [.d (.lf (.bool b))]⟩) (he : Ev t (if b then x else y) u) : Yield P o t h (.t u) := by
  intro w0 M0 A0 locs RO a w hg hm
  obtain ⟨h1, h2⟩ := hm.ev he
  have hb := (hm.evlf hc).1
  refine ⟨a.eval (if b then x else y), ?_, h1, h2⟩
  cases b <;> simp [execOp, ho, hb, asBool]

theorem eqGuard_sca {op : BinOp} {T : TypeId} {x y : Operand} {u v : Value} (hu : sca u = true) (w : World) : (eqGuard op T x y u v).run P w = .ok () w := by
  unfold sca at hu
  split at hu <;> first
    | (cases op <;> rfl)
    | cases hu

theorem y_bin {op : BinOp} {T T' : TypeId} {x y : Operand} {u v r : Value} (ho : o.op = .binOp op T x y T') (hx : Ev t x ⟨false, [.d (.lf u)]⟩) (hy : Ev t y ⟨false, [.d (.lf v)]⟩)
    (hr : ∀ w, (binOp op T u v).run P w = .ok r w) (hs : sca r = true) : Yield P o t h (.t ⟨false, [.d (.lf r)]⟩) := by
  intro w0 M0 A0 locs RO a w hg hm
  obtain ⟨e1, s1⟩ := hm.evlf hx
  obtain ⟨e2, s2⟩ := hm.evlf hy
  refine ⟨r, ?_, TRel.single.2 (vrel_lf hs), by simp [Slot.refs, TV.refs, VC.refs]⟩
  simp [execOp, ho, e1, e2, eqGuard_sca s1, hr]

theorem all2_lfs {w : World} {locs : Locs} {RO : Nat → Prop} : ∀ {us : List Value} {vs : List Value}, All2 (VRel locs h w RO) (us.map fun v => .d (.lf v)) vs → vs = us
  | [], _, h => by cases h; rfl
  | u :: us, _, h => by
    cases h with
    | cons h1 h2 => rw [(vrel_lf_eq h1).1, all2_lfs h2]

/-- '==' or '!=' of structs of scalars. -/
theorem y_eqs {op : BinOp} {T T' : TypeId} {x y : Operand} {us vs : List Value} {r : Bool} (ho : o.op = .binOp op T x y T') (hx : Ev t x ⟨true, us.map fun v => .d (.lf v)⟩)
    (hy : Ev t y ⟨true, vs.map fun v => .d (.lf v)⟩) (hr : ∀ w, (do eqGuard op T x y (.agg us.toArray) (.agg vs.toArray); binOp op T (.agg us.toArray) (.agg vs.toArray) : Sem Value).run P w = .ok (.bool r) w) :
    Yield P o t h (.t ⟨false, [.d (.lf (.bool r))]⟩) := by
  intro w0 M0 A0 locs RO a w hg hm
  obtain ⟨arr, e1, s1⟩ := (hm.ev hx).1
  obtain ⟨brr, e2, s2⟩ := (hm.ev hy).1
  have e3 : arr = us.toArray := by rw [← all2_lfs s1]
  have e4 : brr = vs.toArray := by rw [← all2_lfs s2]
  subst e3; subst e4
  refine ⟨.bool r, ?_, TRel.single.2 (vrel_lf rfl), by simp [Slot.refs, TV.refs, VC.refs]⟩
  have key : execOp a.eval o = (do let v ← (do eqGuard op T x y (.agg us.toArray) (.agg vs.toArray); binOp op T (.agg us.toArray) (.agg vs.toArray)); pure (.value v)) := by
    simp only [execOp, ho, e1, e2]
  rw [key, Sem.run_bind, hr w]
  rfl

theorem y_un {op : UnOp} {T : TypeId} {x : Operand} {u r : Value} (ho : o.op = .unOp op T x) (hx : Ev t x ⟨false, [.d (.lf u)]⟩)
    (hr : ∀ w, (Op.unary op u).run P w = .ok r w) (hs : sca r = true) : Yield P o t h (.t ⟨false, [.d (.lf r)]⟩) := by
  intro w0 M0 A0 locs RO a w hg hm
  obtain ⟨e1, s1⟩ := hm.evlf hx
  refine ⟨r, ?_, TRel.single.2 (vrel_lf hs), by simp [Slot.refs, TV.refs, VC.refs]⟩
  simp [execOp, ho, e1, hr]

theorem y_conv {T T' : TypeId} {x : Operand} {u r : Value} (ho : o.op = .convert T T' x) (hx : Ev t x ⟨false, [.d (.lf u)]⟩)
    (hr : ∀ w, (convert T T' u).run P w = .ok r w) (hs : sca r = true) : Yield P o t h (.t ⟨false, [.d (.lf r)]⟩) := by
  intro w0 M0 A0 locs RO a w hg hm
  obtain ⟨e1, s1⟩ := hm.evlf hx
  refine ⟨r, ?_, TRel.single.2 (vrel_lf hs), by simp [Slot.refs, TV.refs, VC.refs]⟩
  simp [execOp, ho, e1, hr]

/-- A byte of a string. -/
theorem y_byte {T : TypeId} {x i : Operand} {s : ByteArray} {k : IntKind} {n : Int} (hT : TabOk P tab) (ho : o.op = .index T x i) (hk : (ty tab T).k = .str) (hx : Ev t x ⟨false, [.d (.lf (.string s))]⟩)
    (hi : Ev t i ⟨false, [.d (.lf (.int k n))]⟩) (h0 : 0 ≤ n) (h1 : n.toNat < s.size) : Yield P o t h (.t ⟨false, [.d (.lf (.int .u8 (s[n.toNat]'h1).toNat))]⟩) := by
  intro w0 M0 A0 locs RO a w hg hm
  obtain ⟨e1, s1⟩ := hm.evlf hx
  obtain ⟨e2, s2⟩ := hm.evlf hi
  refine ⟨_, ?_, TRel.single.2 (vrel_lf rfl), by simp [Slot.refs, TV.refs, VC.refs]⟩
  have hu : P.underlying T = some .string := (hT T (by simp [TyI.ok, hk])).string hk
  simp [execOp, ho, e1, e2, Instr.index, asIntOf, Go.underlying, hu, h0, h1]

theorem y_slen {c : Call} {T : TypeId} {x : Operand} {s : ByteArray} (hT : TabOk P tab) (ho : o.op = .call c) (hc : c = { callee := .builtin .len, args := #[x], argTypes := #[T] }) (hk : (ty tab T).k = .str)
    (hx : Ev t x ⟨false, [.d (.lf (.string s))]⟩) : Yield P o t h (.t ⟨false, [.d (.lf (.int .i64 s.size))]⟩) := by
  intro w0 M0 A0 locs RO a w hg hm
  obtain ⟨e1, s1⟩ := hm.evlf hx
  refine ⟨_, ?_, TRel.single.2 (vrel_lf rfl), by simp [Slot.refs, TV.refs, VC.refs]⟩
  have hu : P.underlying T = some .string := (hT T (by simp [TyI.ok, hk])).string hk
  subst hc
  simp [execOp, ho, resolve, invoke, builtin, e1, Builtin.len_, Go.underlying, hu, goInt]

/-- The length of what is a slice: a row's view, frozen data, a slice in an element. -/
inductive Len (h : Heap) : VC → Nat → Prop
  | sr {k g off len room n dp ver : Nat} {es : List (List Dat)} {dp' : Bool} (hh : h k = .row n es dp' g ver) : Len h (.sr k g off len room) len
  | d {n : Nat} {es : List (List Dat)} : Len h (.d (.sl n es)) es.length
  | nl {n : Nat} : Len h (.nl n) 0

theorem Len.val {w : World} {locs : Locs} {RO : Nat → Prop} {x : VC} {k : Nat} {v : Value} (hl : Len h x k) (hv : VRel locs h w RO x v) : ∃ ad c, v = .slice ad k c := by
  cases hl with
  | sr hh =>
    obtain ⟨n, es, dp, g0, ver, hc, hle, hone, hp⟩ := hv
    rw [hh] at hc
    injection hc with a1 a2 a3 a4 a5
    rcases hp a4 with ⟨_, e1, _, e2⟩ | ⟨_, cap, e, _⟩
    · subst e1; exact ⟨_, _, e2⟩
    · exact ⟨_, _, e⟩
  | d =>
    obtain ⟨F, hr, _⟩ := hv
    cases hr with
    | nl r => exact ⟨_, _, rfl⟩
    | sl hb hc he hs hw g r => exact ⟨_, _, rfl⟩
    | em h r => exact ⟨_, _, rfl⟩
  | nl => cases hv; exact ⟨_, _, rfl⟩

theorem y_len {c : Call} {T : TypeId} {x : Operand} {y : VC} {e n : Nat} (hT : TabOk P tab) (ho : o.op = .call c) (hc : c = { callee := .builtin .len, args := #[x], argTypes := #[T] }) (hk : (ty tab T).k = .sl e)
    (hx : Ev t x ⟨false, [y]⟩) (hl : Len h y n) : Yield P o t h (.t ⟨false, [.d (.lf (.int .i64 n))]⟩) := by
  intro w0 M0 A0 locs RO a w hg hm
  obtain ⟨ad, cc, e1⟩ := hl.val (hm.ev1 hx).1
  refine ⟨_, ?_, TRel.single.2 (vrel_lf rfl), by simp [Slot.refs, TV.refs, VC.refs]⟩
  have hu := (hT T (by simp [TyI.ok, hk])).slice hk
  subst hc
  simp [execOp, ho, resolve, invoke, builtin, e1, Builtin.len_, Go.underlying, hu, goInt]
end

end Go.Proofs.YtglilpigoocgeaaGreatDoor.V
namespace Go.Proofs.YtglilpigoocgeaaGreatDoor.V
open Go
set_option linter.unusedVariables false

theorem add_plain (b off j : Nat) : (⟨b, off, none⟩ : Addr).add j = ⟨b, off + j, none⟩ := by
  unfold Addr.add
  split
  · rename_i h; simp [h]
  · rfl

theorem flat_len {α : Type} {n : Nat} : ∀ {es : List (List α)}, (∀ e ∈ es, e.length = n) → es.flatten.length = es.length * n
  | [], _ => by simp
  | e :: es, h => by
    rw [List.flatten_cons, List.length_append, h e (by simp), flat_len fun x hx => h x (by simp [hx]), List.length_cons, Nat.succ_mul, Nat.add_comm]

theorem flat_get {α : Type} {n : Nat} : ∀ {es : List (List α)} {i j : Nat} {e : List α}, (∀ e ∈ es, e.length = n) → es[i]? = some e → j < n → es.flatten[i * n + j]? = e[j]?
  | [], i, j, e, _, h, _ => by simp at h
  | x :: es, 0, j, e, hn, h, hj => by
    simp at h; subst h
    rw [List.flatten_cons, Nat.zero_mul, Nat.zero_add, List.getElem?_append_left (by rw [hn x (by simp)]; exact hj)]
  | x :: es, i + 1, j, e, hn, h, hj => by
    have hx := hn x (by simp)
    rw [List.flatten_cons, List.getElem?_append_right (by rw [hx, Nat.succ_mul]; omega), hx]
    have : (i + 1) * n + j - n = i * n + j := by rw [Nat.succ_mul]; omega
    rw [this]
    exact flat_get (fun y hy => hn y (by simp [hy])) (by simpa using h) hj

theorem idx_lt {n i j k : Nat} (hi : i < k) (hj : j < n) : i * n + j < k * n := by
  have : (i + 1) * n ≤ k * n := Nat.mul_le_mul_right n hi
  rw [Nat.succ_mul] at this
  omega

theorem d_refs {ag : Bool} {l : List Dat} : (Slot.t ⟨ag, l.map .d⟩).refs = [] := by
  simp only [Slot.refs, TV.refs, List.flatMap_map]
  simp [VC.refs]

section
variable {P : Program} {w : World}

theorem run_loadCells_seg {b off k : Nat} {arr : Array Value} {ty : TypeId} {fr : Nat × Nat} (hb : w.heap[b]? = some (.cells arr ty fr)) (hs : off + k ≤ arr.size) :
    (loadCells ⟨b, off, none⟩ k).run P w = .ok (seg arr off k).toArray w := by
  have h1 := run_loadCells_list (P := P) (w := w) ⟨b, off, none⟩ (seg arr off k) (fun j v hj => by
    rw [add_plain, cell_block hb]
    have hl : j < k := by
      have := (List.getElem?_eq_some_iff.1 hj).1
      rw [seg_length hs] at this; exact this
    rw [← seg_get hl]; exact hj)
  rw [seg_length hs] at h1
  exact h1

theorem run_loadVar {T : TypeId} {i : TyI} (hok : TyOk P T i) {b off : Nat} {arr : Array Value} {ty : TypeId} {fr : Nat × Nat} (hb : w.heap[b]? = some (.cells arr ty fr)) (hs : off + i.sz ≤ arr.size)
    (h1 : i.ag = true ∨ i.sz = 1) : ∃ v, (loadVar T ⟨b, off, none⟩).run P w = .ok v w ∧
      ∀ (locs : Locs) (h : Heap) (RO : Nat → Prop) (xs : List VC), All2 (VRel locs h w RO) xs (seg arr off i.sz) → TRel locs h w RO ⟨i.ag, xs⟩ v := by
  have ha := hok.isAgg w
  have hz := hok.sizeOf w
  cases hag : i.ag with
  | true =>
    rw [hag] at ha
    refine ⟨.agg (seg arr off i.sz).toArray, ?_, fun locs h RO xs hx => ⟨_, rfl, hx⟩⟩
    simp [loadVar, ha, hz, run_loadCells_seg hb hs]
  | false =>
    rw [hag] at ha
    have hz1 : i.sz = 1 := by rcases h1 with h1 | h1; simp [h1] at hag; exact h1
    rw [hz1] at hs
    have hlt : off < arr.size := by omega
    refine ⟨arr[off], ?_, fun locs h RO xs hx => ?_⟩
    · simp [loadVar, ha, cell_block hb, hlt]
    · have : seg arr off i.sz = [arr[off]] := by
        rw [hz1]
        apply List.ext_getElem?
        intro q
        cases q with
        | zero => rw [seg_get (by omega)]; simp [hlt]
        | succ q => simp [seg]; omega
      rw [this] at hx
      exact hx
end

/-- A cell of a row's element, loaded. -/
def rcell (k ver : Nat) (dp : Bool) (i j : Nat) : Dat → VC
  | .lf v => .d (.lf v)
  | .hole => .dead
  | .sl n us => if dp then .nr k ver i j else .d (.sl n us)
  | x => if dp then .dead else .d x
def rcells (k ver : Nat) (dp : Bool) (i : Nat) : Nat → List Dat → List VC
  | _, [] => []
  | j, d :: ds => rcell k ver dp i j d :: rcells k ver dp i (j + 1) ds
theorem rcells_get {k ver : Nat} {dp : Bool} {i : Nat} : ∀ {ds : List Dat} {j q : Nat}, (rcells k ver dp i j ds)[q]? = (ds[q]?).map (rcell k ver dp i (j + q))
  | [], j, q => by simp [rcells]
  | d :: ds, j, 0 => by simp [rcells]
  | d :: ds, j, q + 1 => by
    simp only [rcells, List.getElem?_cons_succ]
    rw [rcells_get]
    congr 2; omega
theorem rcells_length {k ver : Nat} {dp : Bool} {i : Nat} : ∀ {ds : List Dat} {j : Nat}, (rcells k ver dp i j ds).length = ds.length
  | [], j => rfl
  | d :: ds, j => by simp [rcells, rcells_length]
theorem rcell_refs {k ver : Nat} {dp : Bool} {i j : Nat} {d : Dat} : ∀ o ∈ (rcell k ver dp i j d).refs, o = k := by
  intro o ho
  unfold rcell at ho
  split at ho
  · simp [VC.refs] at ho
  · simp [VC.refs] at ho
  · split at ho <;> simp [VC.refs] at ho; exact ho
  · split at ho <;> simp [VC.refs] at ho
theorem rcells_refs {k ver : Nat} {dp : Bool} {i : Nat} : ∀ {ds : List Dat} {j : Nat}, ∀ x ∈ rcells k ver dp i j ds, ∀ o ∈ x.refs, o = k
  | [], j, x, hx => by simp [rcells] at hx
  | d :: ds, j, x, hx => by
    simp only [rcells, List.mem_cons] at hx
    rcases hx with rfl | hx
    · exact rcell_refs
    · exact rcells_refs x hx

/-- An address, and what it is 'm' cells further on. -/
def faddr : VC → Nat → VC
  | .vp k off, m => .vp k (off + m)
  | .ep k g i j, m => .ep k g i (j + m)
  | .fp c off, m => .fp c (off + m)
  | .d (.pt c), m => .fp c m
  | .fe n es i j, m => .fe n es i (j + m)
  | _, _ => .dead
def isAddr : VC → Bool
  | .vp _ _ | .ep _ _ _ _ | .fp _ _ | .d (.pt _) | .fe _ _ _ _ => true
  | _ => false
theorem faddr_refs {x : VC} {m : Nat} (hx : isAddr x = true) : (faddr x m).refs = x.refs := by
  cases x <;> simp [isAddr] at hx <;> try rfl
  rename_i d
  cases d <;> simp at hx
  rfl

section
variable {locs : Locs} {h : Heap} {w : World} {RO : Nat → Prop}

theorem addr_val {x : VC} {v : Value} {m : Nat} (hx : isAddr x = true) (hv : VRel locs h w RO x v) : ∃ b off, v = .pointer (some ⟨b, off, none⟩) ∧ VRel locs h w RO (faddr x m) (.pointer (some ⟨b, off + m, none⟩))
    ∨ (∃ p, v = .pointer (some p) ∧ VRel locs h w RO (faddr x m) (.pointer (some (p.add m)))) := by
  cases x with
  | vp k off =>
    obtain ⟨h1, e⟩ := hv
    exact ⟨0, 0, .inr ⟨_, e, h1, by rw [add_plain]⟩⟩
  | ep k g i j =>
    obtain ⟨n, es, dp, g0, ver, hc, hle, p, e, hp⟩ := hv
    refine ⟨0, 0, .inr ⟨p, e, n, es, dp, g0, ver, hc, hle, _, rfl, fun hgg => ?_⟩⟩
    rw [hp hgg, add_plain, Nat.add_assoc]
  | fp cells off =>
    obtain ⟨b, base, arr, ty, fr, F, e, hh⟩ := hv
    exact ⟨0, 0, .inr ⟨_, e, b, base, arr, ty, fr, F, by rw [add_plain, Nat.add_assoc], hh⟩⟩
  | fe n es i j =>
    obtain ⟨b, base, arr, ty, fr, F, e, hh⟩ := hv
    exact ⟨0, 0, .inr ⟨_, e, b, base, arr, ty, fr, F, by rw [add_plain, Nat.add_assoc], hh⟩⟩
  | d y =>
    cases y with
    | pt c =>
      obtain ⟨F, hr, hF⟩ := hv
      cases hr with
      | pt hb hs hw g r =>
        exact ⟨0, 0, .inr ⟨_, rfl, _, _, _, _, _, _, by rw [add_plain], hb, hF _ (by simp), hs, g, fun b hb => hF b (by simp [hb])⟩⟩
    | _ => simp [isAddr] at hx
  | _ => simp [isAddr] at hx
end

section
variable {P : Program} {o : Oper} {t : List Slot} {h : Heap} {tab : List TyI}

theorem y_nilcheck {x : Operand} {y : VC} (ho : o.op = .nilCheck x) (hx : Ev t x ⟨false, [y]⟩) (ha : isAddr y = true) : Yield P o t h (.t ⟨false, [y]⟩) := by
  intro w0 M0 A0 locs RO a w hg hm
  obtain ⟨h1, h2⟩ := hm.ev1 hx
  obtain ⟨b, off, ⟨e, _⟩ | ⟨p, e, _⟩⟩ := addr_val (m := 0) ha h1
  · exact ⟨a.eval x, by simp [execOp, ho, e], TRel.single.2 h1, fun o ho => h2 o (by simpa [Slot.refs, TV.refs] using ho)⟩
  · exact ⟨a.eval x, by simp [execOp, ho, e], TRel.single.2 h1, fun o ho => h2 o (by simpa [Slot.refs, TV.refs] using ho)⟩

theorem y_faddr {S : TypeId} {x : Operand} {f fo fT : Nat} {y : VC} {offs : List (Nat × Nat)} (hT : TabOk P tab) (ho : o.op = .fieldAddr S x f) (hk : (ty tab S).k = .st offs) (hf : offs[f]? = some (fo, fT))
    (hx : Ev t x ⟨false, [y]⟩) (ha : isAddr y = true) : Yield P o t h (.t ⟨false, [faddr y fo]⟩) := by
  intro w0 M0 A0 locs RO a w hg hm
  obtain ⟨h1, h2⟩ := hm.ev1 hx
  have hok := hT S (by simp [TyI.ok, hk])
  obtain ⟨d, hd, hkd, hu⟩ := hok.under w
  rw [hk] at hkd
  obtain ⟨fs, rfl, hoffs, hfs⟩ := kindOk_st hkd
  have hf' : (fs.toList.map (fun f => (f.offset, f.type)))[f]? = some (fo, fT) := by rw [hoffs]; exact hf
  rw [List.getElem?_map] at hf'
  obtain ⟨fld, hfld, e⟩ := Option.map_eq_some_iff.1 hf'
  have hfld' : fs[f]? = some fld := by rw [← Array.getElem?_toList]; exact hfld
  obtain ⟨hne, hsome⟩ := hfs fld (Array.mem_of_getElem? hfld')
  obtain ⟨info, hinfo⟩ := Option.isSome_iff_exists.1 hsome
  have hsz : (Go.sizeOf fld.type).run P w = .ok info.size w := by simp [Go.sizeOf, typeInfo, hinfo]
  have hne' : info.size ≠ 0 := by simpa [Program.cellsOf, hinfo] using hne
  have efo : fld.offset = fo := by simpa using congrArg Prod.fst e
  have hrun : ∀ p, a.eval x = .pointer (some p) → (execOp a.eval o).run P w = .ok (.value (.pointer (some (p.add fo)))) w := by
    intro p ep
    simp [execOp, ho, ep, Instr.fieldAt, hu, hfld', Instr.sureAddr, fieldPlace, hsz, hne', efo]
  obtain ⟨b, off, ⟨e, h3⟩ | ⟨p, e, h3⟩⟩ := addr_val (m := fo) ha h1
  · refine ⟨_, hrun _ e, TRel.single.2 (by rw [add_plain]; exact h3), fun o' ho' => h2 o' ?_⟩
    simpa [Slot.refs, TV.refs, faddr_refs ha] using ho'
  · refine ⟨_, hrun _ e, TRel.single.2 h3, fun o' ho' => h2 o' ?_⟩
    simpa [Slot.refs, TV.refs, faddr_refs ha] using ho'

theorem load_run {T : TypeId} {x : Operand} {a : Act} {p : Addr} {w : World} {v : Value} (ho : o.op = .load T x) (hx : a.eval x = .pointer (some p)) (hl : (loadVar T p).run P w = .ok v w) :
    (execOp a.eval o).run P w = .ok (.value v) w := by
  simp [execOp, ho, hx, Instr.loadAt, Instr.sureAddr, hl]

theorem y_ldvar {T : TypeId} {x : Operand} {k off : Nat} {cs : List VC} (hT : TabOk P tab) (ho : o.op = .load T x) (hx : Ev t x ⟨false, [.vp k off]⟩) (hh : h k = .var cs)
    (hk : (ty tab T).ok = true) (h1 : (ty tab T).ag = true ∨ (ty tab T).sz = 1) (hs : off + (ty tab T).sz ≤ cs.length) :
    Yield P o t h (.t ⟨(ty tab T).ag, (cs.drop off).take (ty tab T).sz⟩) := by
  intro w0 M0 A0 locs RO a w hg hm
  obtain ⟨⟨_, e⟩, _⟩ := hm.ev1 hx
  have hob := hg.obj k
  rw [hh] at hob
  obtain ⟨_, arr, aty, hb, hsz⟩ := hob
  obtain ⟨v, hrun, hrel⟩ := run_loadVar (hT T hk) (off := off) hb (by omega) h1
  have hc := hg.cells k cs hh arr aty _ hb
  refine ⟨v, load_run ho e hrun, hrel locs h RO _ ((hc.drop off).take _), fun o' ho' => ?_⟩
  simp only [Slot.refs, TV.refs, List.mem_flatMap] at ho'
  obtain ⟨y, hy, ho'⟩ := ho'
  exact hg.live k cs hh y (List.mem_of_mem_drop (List.mem_of_mem_take hy)) o' ho'

theorem row_all2 {w : World} {locs : Locs} {RO : Nat → Prop} {k n i j sz : Nat} {es : List (List Dat)} {dp : Bool} {g ver : Nat} {e : List Dat} (hh : h k = .row n es dp g ver) (ho : ObjOk w RO (.row n es dp g ver) (locs k))
    (he : es[i]? = some e) (hs : j + sz ≤ e.length) : ∃ arr aty, w.heap[(locs k).b]? = some (.cells arr aty (0, 0)) ∧ (locs k).base + i * n + j + sz ≤ arr.size ∧
      All2 (VRel locs h w RO) (rcells k ver dp i j ((e.drop j).take sz)) (seg arr ((locs k).base + i * n + j) sz) := by
  obtain ⟨hn, hx | ⟨_, arr, aty, G, hb, ha, hl, hr, h1, h2⟩⟩ := ho
  · rw [hx.2.1] at he; simp at he
  · have hi : i < es.length := (List.getElem?_eq_some_iff.1 he).1
    have hel : e.length = n := hn e (List.mem_of_getElem? he)
    have hin : (i + 1) * n ≤ es.length * n := Nat.mul_le_mul_right n hi
    rw [Nat.succ_mul] at hin
    refine ⟨arr, aty, hb, by omega, All2.of_get ?_ fun q y hq => ?_⟩
    · rw [seg_length (by omega), rcells_length, List.length_take, List.length_drop]; omega
    · rw [rcells_get, List.getElem?_take] at hq
      by_cases hqs : q < sz
      · rw [if_pos hqs, List.getElem?_drop] at hq
        obtain ⟨d, hd, rfl⟩ := Option.map_eq_some_iff.1 hq
        have hfl : es.flatten[i * n + (j + q)]? = some d := by rw [flat_get hn he (by omega)]; exact hd
        obtain ⟨v, G', hv, hr', hG'⟩ := hr.one hfl
        have hlt : i * n + (j + q) < es.length * n := idx_lt hi (by omega)
        rw [seg_get hlt] at hv
        refine ⟨v, ?_, ?_⟩
        · rw [seg_get hqs, ← hv]; congr 1; omega
        · unfold rcell
          split
          · obtain ⟨rfl, hsc, _⟩ := reps_one_lf hr'; exact vrel_lf hsc
          · trivial
          · split
            · refine ⟨n, es, dp, g, ver, hh, Nat.le_refl _, hr'.oneCell v (by simp), fun _ _ => ⟨⟨e, _, _, he, hd⟩, ?_⟩⟩
              rw [cell_block hb, ← hv]; congr 1; omega
            · rename_i hdp
              exact ⟨G', hr'.ro, fun b hb => (h2 (by simpa using hdp)).2 b (hG' b hb)⟩
          · split
            · trivial
            · rename_i hdp
              exact ⟨G', hr'.ro, fun b hb => (h2 (by simpa using hdp)).2 b (hG' b hb)⟩
      · rw [if_neg hqs] at hq; simp at hq

theorem y_ldrow {T : TypeId} {x : Operand} {k g i j n ver : Nat} {es : List (List Dat)} {dp : Bool} {e : List Dat} (hT : TabOk P tab) (ho : o.op = .load T x) (hx : Ev t x ⟨false, [.ep k g i j]⟩) (hh : h k = .row n es dp g ver)
    (he : es[i]? = some e) (hk : (ty tab T).ok = true) (h1 : (ty tab T).ag = true ∨ (ty tab T).sz = 1) (hs : j + (ty tab T).sz ≤ e.length) :
    Yield P o t h (.t ⟨(ty tab T).ag, rcells k ver dp i j ((e.drop j).take (ty tab T).sz)⟩) := by
  intro w0 M0 A0 locs RO a w hg hm
  obtain ⟨⟨n', es', dp', g0, ver', hc, hle, p, ep, hp⟩, _⟩ := hm.ev1 hx
  rw [hh] at hc
  injection hc with a1 a2 a3 a4 a5
  have hob := hg.obj k
  rw [hh] at hob
  obtain ⟨arr, aty, hb, hsz, hall⟩ := row_all2 hh hob he hs
  obtain ⟨v, hrun, hrel⟩ := run_loadVar (hT T hk) (off := (locs k).base + i * n + j) hb hsz h1
  have e2 : p = ⟨(locs k).b, (locs k).base + i * n + j, none⟩ := by rw [a1]; exact hp a4
  rw [e2] at ep
  refine ⟨v, load_run ho ep hrun, hrel locs h RO _ hall, fun o' ho' => ?_⟩
  simp only [Slot.refs, TV.refs, List.mem_flatMap] at ho'
  obtain ⟨y, hy, ho'⟩ := ho'
  rw [rcells_refs y hy o' ho', hh]
  simp

theorem y_ldfe {T : TypeId} {x : Operand} {n i j : Nat} {es : List (List Dat)} {e : List Dat} (hT : TabOk P tab) (ho : o.op = .load T x) (hx : Ev t x ⟨false, [.fe n es i j]⟩)
    (he : es[i]? = some e) (hk : (ty tab T).ok = true) (h1 : (ty tab T).ag = true ∨ (ty tab T).sz = 1) (hs : j + (ty tab T).sz ≤ e.length) :
    Yield P o t h (.t ⟨(ty tab T).ag, ((e.drop j).take (ty tab T).sz).map .d⟩) := by
  intro w0 M0 A0 locs RO a w hg hm
  obtain ⟨⟨b, base, arr, aty, fr, F, ep, hb, hro, hbs, hn, hr, hF⟩, _⟩ := hm.ev1 hx
  have hi : i < es.length := (List.getElem?_eq_some_iff.1 he).1
  have hel : e.length = n := hn e (List.mem_of_getElem? he)
  have hin : (i + 1) * n ≤ es.length * n := Nat.mul_le_mul_right n hi
  rw [Nat.succ_mul] at hin
  obtain ⟨v, hrun, hrel⟩ := run_loadVar (hT T hk) (off := base + i * n + j) hb (by omega) h1
  refine ⟨v, load_run ho ep hrun, hrel locs h RO _ (All2.of_get ?_ fun q y hq => ?_), by rw [d_refs]; simp⟩
  · rw [seg_length (by omega), List.length_map, List.length_take, List.length_drop]; omega
  · rw [List.getElem?_map, List.getElem?_take] at hq
    by_cases hqs : q < (ty tab T).sz
    · rw [if_pos hqs, List.getElem?_drop] at hq
      obtain ⟨d, hd, rfl⟩ := Option.map_eq_some_iff.1 hq
      have hfl : es.flatten[i * n + (j + q)]? = some d := by rw [flat_get hn he (by omega)]; exact hd
      obtain ⟨u, G', hv, hr', hG'⟩ := hr.one hfl
      have hlt : i * n + (j + q) < es.length * n := idx_lt hi (by omega)
      rw [seg_get hlt] at hv
      refine ⟨u, ?_, G', hr', fun b hb => hF b (hG' b hb)⟩
      rw [seg_get hqs, ← hv]; congr 1; omega
    · rw [if_neg hqs] at hq; simp at hq

theorem y_ldfp {T : TypeId} {x : Operand} {off : Nat} {cells : List Dat} (hT : TabOk P tab) (ho : o.op = .load T x) (hx : Ev t x ⟨false, [.fp cells off]⟩)
    (hk : (ty tab T).ok = true) (h1 : (ty tab T).ag = true ∨ (ty tab T).sz = 1) (hs : off + (ty tab T).sz ≤ cells.length) :
    Yield P o t h (.t ⟨(ty tab T).ag, ((cells.drop off).take (ty tab T).sz).map .d⟩) := by
  intro w0 M0 A0 locs RO a w hg hm
  obtain ⟨⟨b, base, arr, aty, fr, F, ep, hb, hro, hbs, hr, hF⟩, _⟩ := hm.ev1 hx
  obtain ⟨v, hrun, hrel⟩ := run_loadVar (hT T hk) (off := base + off) hb (by omega) h1
  refine ⟨v, load_run ho ep hrun, hrel locs h RO _ (All2.of_get ?_ fun q y hq => ?_), by rw [d_refs]; simp⟩
  · rw [seg_length (by omega), List.length_map, List.length_take, List.length_drop]; omega
  · rw [List.getElem?_map, List.getElem?_take] at hq
    by_cases hqs : q < (ty tab T).sz
    · rw [if_pos hqs, List.getElem?_drop] at hq
      obtain ⟨d, hd, rfl⟩ := Option.map_eq_some_iff.1 hq
      obtain ⟨u, G', hv, hr', hG'⟩ := hr.one hd
      rw [seg_get (by have := (List.getElem?_eq_some_iff.1 hd).1; omega)] at hv
      refine ⟨u, ?_, G', hr', fun b hb => hF b (hG' b hb)⟩
      rw [seg_get hqs, ← hv]; congr 1; omega
    · rw [if_neg hqs] at hq; simp at hq

theorem y_ldpt {T : TypeId} {x : Operand} {cells : List Dat} (hT : TabOk P tab) (ho : o.op = .load T x) (hx : Ev t x ⟨false, [.d (.pt cells)]⟩)
    (hk : (ty tab T).ok = true) (h1 : (ty tab T).ag = true ∨ (ty tab T).sz = 1) (hs : (ty tab T).sz ≤ cells.length) :
    Yield P o t h (.t ⟨(ty tab T).ag, (cells.take (ty tab T).sz).map .d⟩) := by
  intro w0 M0 A0 locs RO a w hg hm
  obtain ⟨⟨F, hr, hF⟩, _⟩ := hm.ev1 hx
  generalize hv : a.eval x = v at hr
  cases hr with
  | pt hb hbs hw g r =>
    obtain ⟨v, hrun, hrel⟩ := run_loadVar (hT T hk) hb (Nat.le_trans (Nat.add_le_add_left hs _) hbs) h1
    refine ⟨v, load_run ho hv hrun, hrel locs h RO _ (All2.of_get ?_ fun q y hq => ?_), by rw [d_refs]; simp⟩
    · rw [seg_length (Nat.le_trans (Nat.add_le_add_left hs _) hbs), List.length_map, List.length_take]; omega
    · rw [List.getElem?_map, List.getElem?_take] at hq
      by_cases hqs : q < (ty tab T).sz
      · rw [if_pos hqs] at hq
        obtain ⟨d, hd, rfl⟩ := Option.map_eq_some_iff.1 hq
        obtain ⟨u, G', hv, hr', hG'⟩ := g.one hd
        rw [seg_get (by omega)] at hv
        exact ⟨u, by rw [seg_get hqs, ← hv], G', hr', fun b hb => hF b (by simp [hG' b hb])⟩
      · rw [if_neg hqs] at hq; simp at hq

/-- The element of a slice, its address. -/
theorem y_iasr {T : TypeId} {x ix : Operand} {k g off len room n ver el : Nat} {es : List (List Dat)} {dp : Bool} {kk : IntKind} {m : Int} (hT : TabOk P tab) (ho : o.op = .indexAddr T x ix) (hk : (ty tab T).k = .sl el)
    (hel : (ty tab el).ok = true ∧ (ty tab el).sz = n) (hx : Ev t x ⟨false, [.sr k g off len room]⟩) (hh : h k = .row n es dp g ver) (hi : Ev t ix ⟨false, [.d (.lf (.int kk m))]⟩) (h0 : 0 ≤ m) (h1 : m < len) :
    Yield P o t h (.t ⟨false, [.ep k g (off + m.toNat) 0]⟩) := by
  intro w0 M0 A0 locs RO a w hg hm
  obtain ⟨⟨n', es', dp', g0, ver', hc, hle, hone, hp⟩, hl⟩ := hm.ev1 hx
  have e2 := (hm.evlf hi).1
  rw [hh] at hc
  injection hc with a1 a2 a3 a4 a5
  have hu := (hT T (by simp [TyI.ok, hk])).slice hk
  have hsz := (hT el hel.1).sizeOf w
  rcases hp a4 with ⟨_, e, _⟩ | ⟨_, cap, e, _⟩
  · omega
  · refine ⟨.pointer (some ⟨(locs k).b, (locs k).base + (off + m.toNat) * n + 0, none⟩), ?_, TRel.single.2 ⟨n, es, dp, g, ver, hh, Nat.le_refl _, _, rfl, fun _ => rfl⟩, ?_⟩
    · simp [execOp, ho, e, e2, Instr.indexAt, asIntOf, Go.underlying, hu, h0, h1, hsz, hel.2, add_plain, a1]
      rw [Nat.add_mul, Nat.add_assoc]
    · simp [Slot.refs, TV.refs, VC.refs, hh]

theorem y_iad {T : TypeId} {x ix : Operand} {n el : Nat} {es : List (List Dat)} {kk : IntKind} {m : Int} (hT : TabOk P tab) (ho : o.op = .indexAddr T x ix) (hk : (ty tab T).k = .sl el)
    (hel : (ty tab el).ok = true ∧ (ty tab el).sz = n) (hx : Ev t x ⟨false, [.d (.sl n es)]⟩) (hi : Ev t ix ⟨false, [.d (.lf (.int kk m))]⟩) (h0 : 0 ≤ m) (h1 : m < es.length) :
    Yield P o t h (.t ⟨false, [.fe n es m.toNat 0]⟩) := by
  intro w0 M0 A0 locs RO a w hg hm
  obtain ⟨⟨F, hr, hF⟩, hl⟩ := hm.ev1 hx
  have e2 := (hm.evlf hi).1
  have hu := (hT T (by simp [TyI.ok, hk])).slice hk
  have hsz := (hT el hel.1).sizeOf w
  generalize hv : a.eval x = v at hr
  cases hr with
  | nl r => simp at h1; omega
  | em h r => simp at h1; omega
  | sl hb hc he hs hw g r =>
    refine ⟨_, ?_, TRel.single.2 ⟨_, _, _, _, _, _, rfl, hb, hF _ (by simp), hs, he, g, fun b hb => hF b (by simp [hb])⟩, by simp [Slot.refs, TV.refs, VC.refs]⟩
    simp [execOp, ho, hv, e2, Instr.indexAt, asIntOf, Go.underlying, hu, h0, h1, hsz, hel.2, add_plain]

/-- A field of a struct value. -/
theorem y_field {S : TypeId} {x : Operand} {f fo fT : Nat} {cs : List VC} {offs : List (Nat × Nat)} (hT : TabOk P tab) (ho : o.op = .field S x f) (hk : (ty tab S).k = .st offs) (hf : offs[f]? = some (fo, fT))
    (hx : Ev t x ⟨true, cs⟩) (hkf : (ty tab fT).ok = true) (h1 : (ty tab fT).ag = true ∨ (ty tab fT).sz = 1) (hs : fo + (ty tab fT).sz ≤ cs.length) :
    Yield P o t h (.t ⟨(ty tab fT).ag, (cs.drop fo).take (ty tab fT).sz⟩) := by
  intro w0 M0 A0 locs RO a w hg hm
  obtain ⟨⟨arr, e0, hall⟩, hl⟩ := hm.ev hx
  have hok := hT S (by simp [TyI.ok, hk])
  obtain ⟨d, hd, hkd, hu⟩ := hok.under w
  rw [hk] at hkd
  obtain ⟨fs, rfl, hoffs, hfs⟩ := kindOk_st hkd
  have hf' : (fs.toList.map (fun f => (f.offset, f.type)))[f]? = some (fo, fT) := by rw [hoffs]; exact hf
  rw [List.getElem?_map] at hf'
  obtain ⟨fld, hfld, e⟩ := Option.map_eq_some_iff.1 hf'
  have hfld' : fs[f]? = some fld := by rw [← Array.getElem?_toList]; exact hfld
  have efo : fld.offset = fo := by simpa using congrArg Prod.fst e
  have eft : fld.type = fT := by simpa using congrArg Prod.snd e
  have hla : arr.size = cs.length := by simpa using hall.length
  have hag := (hT fT hkf).isAgg w
  have hsz := (hT fT hkf).sizeOf w
  have hrefs : ∀ o' ∈ (Slot.t ⟨(ty tab fT).ag, (cs.drop fo).take (ty tab fT).sz⟩).refs, h o' ≠ .gone := by
    intro o' ho'
    simp only [Slot.refs, TV.refs, List.mem_flatMap] at ho'
    obtain ⟨y, hy, ho'⟩ := ho'
    exact hl o' (List.mem_flatMap.2 ⟨y, List.mem_of_mem_drop (List.mem_of_mem_take hy), ho'⟩)
  cases hh : (ty tab fT).ag with
  | true =>
    rw [hh] at hag hrefs
    refine ⟨.agg (arr.extract fo (fo + (ty tab fT).sz)), ?_, ⟨_, rfl, ?_⟩, hrefs⟩
    · simp [execOp, ho, e0, Instr.field, hu, hfld', asAgg, part, eft, efo, hag, hsz]
    · have : (arr.extract fo (fo + (ty tab fT).sz)).toList = (arr.toList.drop fo).take (ty tab fT).sz := by simp [Array.toList_extract]
      rw [this]
      exact (hall.drop fo).take _
  | false =>
    rw [hh] at hag hrefs
    have hz1 : (ty tab fT).sz = 1 := by rcases h1 with h1 | h1; simp [h1] at hh; exact h1
    have hlt : fo < arr.size := by omega
    refine ⟨arr[fo], ?_, ?_, hrefs⟩
    · simp [execOp, ho, e0, Instr.field, hu, hfld', asAgg, part, eft, efo, hag, hlt]
    · have h2 := (hall.drop fo).take (ty tab fT).sz
      have : (arr.toList.drop fo).take (ty tab fT).sz = [arr[fo]] := by
        rw [hz1, List.drop_eq_getElem_cons (by simpa using hlt), List.take_succ_cons, List.take_zero]; simp
      rw [this] at h2
      exact h2

theorem y_extract {x : Operand} {k : Nat} {l : List TV} {y : TV} {i : Nat} (ho : o.op = .extract x k) (hx : x = .tmp i) (hi : getT t i = .tu l) (hk : l[k]? = some y) : Yield P o t h (.t y) := by
  intro w0 M0 A0 locs RO a w hg hm
  subst hx
  have h1 := hm.2.2.1 i
  have h2 := hm.2.2.2 i
  rw [hi] at h1 h2
  obtain ⟨vs, e, hall⟩ := h1
  obtain ⟨v, hv, hr⟩ := hall.get hk
  have e' : a.eval (.tmp i) = .tuple vs := e
  have hv' : vs[k]? = some v := by rw [← Array.getElem?_toList]; exact hv
  refine ⟨v, ?_, hr, fun o' ho' => h2 o' (List.mem_flatMap.2 ⟨y, List.mem_of_getElem? hk, ho'⟩)⟩
  simp [execOp, ho, e', Instr.extract, hv']

/-- A function value over variables. -/
theorem y_mkfunc {f : FuncId} {caps : Array Operand} {ks : List Nat} (ho : o.op = .makeFunc (.func f) #[] caps) (hc : All2 (fun c k => Ev t c ⟨false, [.vp k 0]⟩) caps.toList ks) :
    Yield P o t h (.t ⟨false, [.cl f ks]⟩) := by
  intro w0 M0 A0 locs RO a w hg hm
  have key : All2 (fun k u => (∃ cs, h k = .var cs) ∧ u = .pointer (some ⟨(locs k).b, 0, none⟩)) ks (caps.map a.eval).toList := by
    rw [Array.toList_map]
    generalize caps.toList = l at hc
    clear ho
    induction hc with
    | nil => exact .nil
    | cons h1 _ ih => exact .cons (hm.ev1 h1).1 ih
  refine ⟨.func (.func f) #[] (caps.map a.eval), by simp [execOp, ho, Instr.makeFunc], TRel.single.2 ⟨_, rfl, key⟩, fun o' ho' => ?_⟩
  simp only [Slot.refs, TV.refs, VC.refs, List.flatMap_cons, List.flatMap_nil, List.append_nil] at ho'
  obtain ⟨i, hi⟩ := List.mem_iff_getElem?.1 ho'
  obtain ⟨u, _, ⟨cs, hcs⟩, _⟩ := key.get hi
  rw [hcs]; simp

/-- A new variable of its type's zero. -/
theorem r_alloc {T : TypeId} {k : Nat} (hT : TabOk P tab) (ho : o.op = .alloc T) (hk : (ty tab T).ok = true) (hg : h k = .gone) :
    DoesR P o t h (.t ⟨false, [.vp k 0]⟩) [(k, .var ((ty tab T).zero.map zvc))] := by
  intro w0 M0 A0 locs RO a w hgd hm K Q hK
  obtain ⟨f, d, h1, h2, h3, _, _, z, hz, hzc, _⟩ := (hT T hk).ex
  have ht := touch_var hgd hg (arr := z.cells) T (zvcs_rel hzc) (fun x hx o ho => by
    obtain ⟨y, _, rfl⟩ := List.mem_map.1 hx
    simp [zvc_refs] at ho)
  have hrun : (execOp a.eval o).run P w = .ok (.value (.pointer (some ⟨w.heap.size, 0, none⟩))) (w.alloc (.cells z.cells T)) := by
    simp [execOp, ho, Instr.alloc, zeroValue, typeInfo, h1, hz, newVar, newRow]
  refine wp_of_value hrun (hK _ _ (updL locs k ⟨false, w.heap.size, 0, 0, [w.heap.size]⟩) ?_ ?_ ?_)
  · simpa [updAll] using ht
  · exact TRel.single.2 ⟨⟨_, upd_same⟩, by rw [updL_same]⟩
  · simp [Slot.refs, TV.refs, VC.refs, updAll, upd_same]

/-- A new variable that holds a value. -/
theorem r_box {T : TypeId} {k : Nat} {x : Operand} {y : TV} (ho : o.op = .box T x) (hx : Ev t x y) (hy : y.ag = true ∨ ∃ c, y.cs = [c] ∧ c ≠ .dead) (hg : h k = .gone) :
    DoesR P o t h (.t ⟨false, [.vp k 0]⟩) [(k, .var y.cs)] := by
  intro w0 M0 A0 locs RO a w hgd hm K Q hK
  obtain ⟨h1, h2⟩ := hm.ev hx
  have hcells : All2 (VRel locs h w RO) y.cs (a.eval x).cells.toList := by
    obtain ⟨ag, cs⟩ := y
    cases ag with
    | true => obtain ⟨arr, e, hall⟩ := h1; rw [e]; exact hall
    | false =>
      rcases hy with hy | ⟨c, hc, hd⟩
      · simp at hy
      · simp only at hc; subst hc
        have hv := TRel.single.1 h1
        have h3 := hv.one hd
        have : (a.eval x).cells = #[a.eval x] := by
          cases hh : a.eval x <;> simp [Value.cells] <;> simp [hh, Value.oneCell'] at h3
        rw [this]; exact .cons hv .nil
  have ht := touch_var hgd hg T hcells (fun c hc o ho => h2 o (List.mem_flatMap.2 ⟨c, hc, ho⟩))
  have hrun : (execOp a.eval o).run P w = .ok (.value (.pointer (some ⟨w.heap.size, 0, none⟩))) (w.alloc (.cells (a.eval x).cells T)) := by
    simp [execOp, ho, Instr.box, newVar, newRow]
  refine wp_of_value hrun (hK _ _ (updL locs k ⟨false, w.heap.size, 0, 0, [w.heap.size]⟩) ?_ ?_ ?_)
  · simpa [updAll] using ht
  · exact TRel.single.2 ⟨⟨_, upd_same⟩, by rw [updL_same]⟩
  · simp [Slot.refs, TV.refs, VC.refs, updAll, upd_same]
end

end Go.Proofs.YtglilpigoocgeaaGreatDoor.V
namespace Go.Proofs.YtglilpigoocgeaaGreatDoor.V
open Go
set_option linter.unusedVariables false
set_option linter.unusedSimpArgs false

/-- 'm' laid over 'l' from 'off' on. -/
def patch {α : Type} (l : List α) (off : Nat) (m : List α) : List α := l.take off ++ (m ++ l.drop (off + m.length))

theorem patch_length {α : Type} {l : List α} {off : Nat} {m : List α} (h : off + m.length ≤ l.length) : (patch l off m).length = l.length := by
  simp only [patch, List.length_append, List.length_take, List.length_drop]; omega

theorem patch_append {α : Type} {A e B m : List α} {j : Nat} (h : j + m.length ≤ e.length) : patch (A ++ (e ++ B)) (A.length + j) m = A ++ (patch e j m ++ B) := by
  simp only [patch]
  rw [List.take_append, List.take_of_length_le (by omega), Nat.add_sub_cancel_left, List.take_append_of_le_length (by omega)]
  rw [Nat.add_assoc, List.drop_append, List.drop_of_length_le (l := A) (by omega), Nat.add_sub_cancel_left, List.drop_append_of_le_length (by omega)]
  simp

theorem flat_split {n : Nat} {es : List (List Dat)} {i : Nat} {e : List Dat} (he : es[i]? = some e) : es.flatten = (es.take i).flatten ++ (e ++ (es.drop (i + 1)).flatten) := by
  have hi : i < es.length := (List.getElem?_eq_some_iff.1 he).1
  have : es = es.take i ++ e :: es.drop (i + 1) := by
    rw [← (List.getElem?_eq_some_iff.1 he).2, ← List.drop_eq_getElem_cons hi, List.take_append_drop]
  conv => lhs; rw [this]
  simp

theorem set_flat {n : Nat} {es : List (List Dat)} {i j : Nat} {e ds : List Dat} (hn : ∀ e ∈ es, e.length = n) (he : es[i]? = some e) (hj : j + ds.length ≤ n) :
    (es.set i (patch e j ds)).flatten = patch es.flatten (i * n + j) ds := by
  have hi : i < es.length := (List.getElem?_eq_some_iff.1 he).1
  have hel : e.length = n := hn e (List.mem_of_getElem? he)
  rw [flat_split (n := n) he]
  have hA : ((es.take i).flatten).length = i * n := by
    rw [flat_len (n := n) fun x hx => hn x (List.mem_of_mem_take hx), List.length_take, Nat.min_eq_left (by omega)]
  rw [← hA, patch_append (by omega), List.set_eq_take_append_cons_drop, if_pos hi]
  simp

theorem set_len {n : Nat} {es : List (List Dat)} {i j : Nat} {e ds : List Dat} (hn : ∀ e ∈ es, e.length = n) (he : es[i]? = some e) (hj : j + ds.length ≤ n) :
    ∀ x ∈ es.set i (patch e j ds), x.length = n := by
  intro x hx
  rcases List.mem_or_eq_of_mem_set hx with h | h
  · exact hn x h
  · rw [h, patch_length (by rw [hn e (List.mem_of_getElem? he)]; exact hj)]
    exact hn e (List.mem_of_getElem? he)

theorem seg_patch {arr : Array Value} {base k p : Nat} {vs : List Value} (h : base + k ≤ arr.size) (hp : p + vs.length ≤ k) :
    seg (patch arr.toList (base + p) vs).toArray base k = patch (seg arr base k) p vs := by
  apply List.ext_getElem?
  intro q
  have hl : (seg arr base k).length = k := seg_length h
  by_cases hq : q < k
  · rw [seg_get hq]
    simp only [patch, List.getElem?_toArray, List.getElem?_append, List.length_take, Array.length_toList, hl]
    rw [Nat.min_eq_left (show base + p ≤ arr.size by omega), Nat.min_eq_left (show p ≤ k by omega)]
    by_cases h1 : q < p
    · rw [if_pos (by omega), if_pos h1, List.getElem?_take, if_pos (by omega), List.getElem?_take, if_pos h1, seg_get hq, Array.getElem?_toList]
    · rw [if_neg (by omega), if_neg h1]
      by_cases h2 : q - p < vs.length
      · rw [if_pos (by omega), if_pos h2]; congr 1; omega
      · rw [if_neg (by omega), if_neg h2, List.getElem?_drop, List.getElem?_drop, seg_get (by omega), Array.getElem?_toList]; congr 1; omega
  · have : (patch (seg arr base k) p vs).length = k := by rw [patch_length (by rw [hl]; exact hp), hl]
    have h3 : (seg (patch arr.toList (base + p) vs).toArray base k).length ≤ k := by simp only [seg, List.length_take]; omega
    rw [List.getElem?_eq_none (by omega), List.getElem?_eq_none (by omega)]

theorem patch_seg_other {arr : Array Value} {p q : Nat} {vs : List Value} (hp : p + vs.length ≤ arr.size) (hq : q < p ∨ p + vs.length ≤ q) : (patch arr.toList p vs).toArray[q]? = arr[q]? := by
  simp only [patch, List.getElem?_toArray, List.getElem?_append, List.length_take, Array.length_toList]
  rw [Nat.min_eq_left (show p ≤ arr.size by omega)]
  rcases hq with hq | hq
  · rw [if_pos hq, List.getElem?_take, if_pos hq, Array.getElem?_toList]
  · rw [if_neg (by omega), if_neg (by omega), List.getElem?_drop, Array.getElem?_toList]; congr 1; omega

theorem All2.patch {α β : Type} {R : α → β → Prop} {l l' : List α} {m m' : List β} (h : All2 R l m) (h' : All2 R l' m') (off : Nat) : All2 R (patch l off l') (patch m off m') := by
  unfold V.patch
  rw [h'.length]
  exact (h.take off).append (h'.append (h.drop _))

/-! ### what is taken in -/
/-- Cells that become a part of an element: scalars, nil slices, rows of the call's own (which are let go). -/
inductive AbsD (h : Heap) : List VC → List Dat → List Nat → Prop
  | nil : AbsD h [] [] []
  | lf {v : Value} {cs : List VC} {ds : List Dat} {K : List Nat} (t : AbsD h cs ds K) : AbsD h (.d (.lf v) :: cs) (.lf v :: ds) K
  | nl {n : Nat} {cs : List VC} {ds : List Dat} {K : List Nat} (t : AbsD h cs ds K) : AbsD h (.nl n :: cs) (.sl n [] :: ds) K
  | nlx {n : Nat} {cs : List VC} {ds : List Dat} {K : List Nat} (t : AbsD h cs ds K) : AbsD h (.nl n :: cs) (.lf (.slice none 0 0) :: ds) K
  | nild {n : Nat} {cs : List VC} {ds : List Dat} {K : List Nat} (t : AbsD h cs ds K) : AbsD h (.d (.lf (.slice none 0 0)) :: cs) (.sl n [] :: ds) K
  | sr {k g off len room n ver : Nat} {es u : List (List Dat)} {cs : List VC} {ds : List Dat} {K : List Nat} (hk : h k = .row n es true g ver) (hl : off + len ≤ es.length) (hu : (es.drop off).take len = u)
      (t : AbsD h cs ds K) : AbsD h (.sr k g off len room :: cs) (.sl n u :: ds) (k :: K)

theorem AbsD.length {h : Heap} {cs : List VC} {ds : List Dat} {K : List Nat} (ha : AbsD h cs ds K) : ds.length = cs.length := by induction ha <;> simp_all

theorem flat_take {n : Nat} {es : List (List Dat)} (hn : ∀ e ∈ es, e.length = n) {k : Nat} (hk : k ≤ es.length) : (es.take k).flatten = es.flatten.take (k * n) := by
  have h1 : es.flatten = (es.take k).flatten ++ (es.drop k).flatten := by rw [← List.flatten_append, List.take_append_drop]
  have h2 : ((es.take k).flatten).length = k * n := by rw [flat_len (n := n) fun x hx => hn x (List.mem_of_mem_take hx), List.length_take, Nat.min_eq_left hk]
  rw [h1, ← h2, List.take_left]
theorem flat_drop {n : Nat} {es : List (List Dat)} (hn : ∀ e ∈ es, e.length = n) {k : Nat} (hk : k ≤ es.length) : (es.drop k).flatten = es.flatten.drop (k * n) := by
  have h1 : es.flatten = (es.take k).flatten ++ (es.drop k).flatten := by rw [← List.flatten_append, List.take_append_drop]
  have h2 : ((es.take k).flatten).length = k * n := by rw [flat_len (n := n) fun x hx => hn x (List.mem_of_mem_take hx), List.length_take, Nat.min_eq_left hk]
  conv => rhs; rw [h1, ← h2, List.drop_left]

section
variable {w0 : World} {M0 : Nat → Prop} {A0 : Cx} {h : Heap} {w : World} {locs : Locs} {RO : Nat → Prop}

/-- A view of a row, as data. -/
theorem view_reps {n off len : Nat} {es : List (List Dat)} {dp : Bool} {g ver room : Nat} {L : Loc} {v : Value} (ho : ObjOk w RO (.row n es dp g ver) L) (hnd : L.foot.Nodup) (hs : SlRel L n off len room v) (hl : off + len ≤ es.length) :
    ∃ F, Reps dp w [.sl n ((es.drop off).take len)] [v] F ∧ (dp = true → F.Nodup ∧ ∀ b ∈ F, b ∈ L.foot) ∧ (dp = false → ∀ b ∈ F, b ∈ L.foot ∨ RO b) := by
  obtain ⟨hn, ho⟩ := ho
  rcases hs with ⟨h1, h2, h3, rfl⟩ | ⟨h1, cap, rfl, h2, h3, h4⟩
  · subst h2
    exact ⟨[], by rw [List.take_zero]; exact .nl .nil, fun _ => ⟨List.nodup_nil, by simp⟩, by simp⟩
  · rcases ho with ⟨h5, _⟩ | ⟨_, arr, aty, G, hb, ha, hbs, hr, k1, k2⟩
    · rw [h1] at h5; cases h5
    · have hln : ((es.drop off).take len).length = len := by rw [List.length_take, List.length_drop]; omega
      obtain ⟨F1, F2, F3, hG, _, hr2, _⟩ := hr.part (k := off * n) (l := len * n)
      have hmul : off * n + len * n ≤ es.length * n := by rw [← Nat.add_mul]; exact Nat.mul_le_mul_right n hl
      rw [seg_seg hmul, ← flat_drop hn (by omega), ← flat_take (n := n) (fun x hx => hn x (List.mem_of_mem_drop hx)) (by rw [List.length_drop]; omega)] at hr2
      have hfin : Reps dp w [.sl n ((es.drop off).take len)] [.slice (some ⟨L.b, L.base + off * n, none⟩) ((es.drop off).take len).length cap] (L.b :: (F2 ++ [])) := by
        refine .sl hb (by rw [hln]; omega) (fun e he => hn e (List.mem_of_mem_drop (List.mem_of_mem_take he))) (by rw [hln]; omega) (fun _ => ⟨rfl, by omega⟩) ?_ .nil
        rw [hln]; exact hr2
      rw [hln, List.append_nil] at hfin
      refine ⟨_, hfin, fun hd => ?_, fun hd b hb => ?_⟩
      · have k3 := k1 hd
        rw [k3, hG] at hnd
        rw [k3, hG]
        simp only [List.nodup_cons, List.nodup_append, List.mem_append, not_or] at hnd ⊢
        refine ⟨⟨hnd.1.2.1, hnd.2.2.1.1⟩, fun b hb => ?_⟩
        rcases List.mem_cons.1 hb with rfl | hb
        · simp
        · simp [hb]
      · rw [(k2 hd).1]
        rcases List.mem_cons.1 hb with rfl | hb
        · exact .inl (by simp)
        · exact .inr ((k2 hd).2 b (by rw [hG]; simp [hb]))

theorem AbsD.sound (hg : Good w0 M0 A0 h w locs RO) {cs : List VC} {ds : List Dat} {K : List Nat} (ha : AbsD h cs ds K) : ∀ {vs : List Value}, All2 (VRel locs h w RO) cs vs → K.Nodup →
    ∃ F, Reps true w ds vs F ∧ F.Nodup ∧ ∀ b ∈ F, ∃ k ∈ K, b ∈ (locs k).foot := by
  induction ha with
  | nil => intro vs hv _; cases hv; exact ⟨[], .nil, List.nodup_nil, by simp⟩
  | lf t ih =>
    intro vs hv hK
    cases hv with
    | cons h1 h2 =>
      obtain ⟨F, hr, hn, hF⟩ := ih h2 hK
      obtain ⟨e, hs⟩ := vrel_lf_eq h1
      subst e
      exact ⟨F, .lf hs hr, hn, hF⟩
  | nl t ih =>
    intro vs hv hK
    cases hv with
    | cons h1 h2 =>
      obtain ⟨F, hr, hn, hF⟩ := ih h2 hK
      cases h1
      exact ⟨F, .nl hr, hn, hF⟩
  | nlx t ih =>
    intro vs hv hK
    cases hv with
    | cons h1 h2 =>
      obtain ⟨F, hr, hn, hF⟩ := ih h2 hK
      cases h1
      exact ⟨F, .lf rfl hr, hn, hF⟩
  | nild t ih =>
    intro vs hv hK
    cases hv with
    | cons h1 h2 =>
      obtain ⟨F, hr, hn, hF⟩ := ih h2 hK
      obtain ⟨e, hs⟩ := vrel_lf_eq h1
      subst e
      exact ⟨F, .nl hr, hn, hF⟩
  | sr hk hl hu t ih =>
    rename_i k g off len room n ver es u cs ds K
    intro vs hv hK
    cases hv with
    | cons h1 h2 =>
      rw [List.nodup_cons] at hK
      obtain ⟨F, hr, hn, hF⟩ := ih h2 hK.2
      obtain ⟨n', es', dp', g0, ver', hc, hle, hone, hp⟩ := h1
      rw [hk] at hc
      injection hc with a1 a2 a3 a4 a5
      subst a1
      have hob := hg.obj k
      rw [hk] at hob
      obtain ⟨F1, hr1, hd1, _⟩ := view_reps hob (hg.nodup k) (hp a4) hl
      obtain ⟨hn1, hF1⟩ := hd1 rfl
      rw [hu] at hr1
      refine ⟨F1 ++ F, hr1.append hr, ?_, fun b hb => ?_⟩
      · refine List.nodup_append.2 ⟨hn1, hn, fun b hb c hc e => ?_⟩
        subst e
        obtain ⟨k', hk', hb'⟩ := hF b hc
        exact hg.disj k k' (fun e => hK.1 (e ▸ hk')) b (hF1 b hb) hb'
      · rcases List.mem_append.1 hb with hb | hb
        · exact ⟨k, by simp, hF1 b hb⟩
        · obtain ⟨k', hk', hb'⟩ := hF b hb
          exact ⟨k', by simp [hk'], hb'⟩
end

end Go.Proofs.YtglilpigoocgeaaGreatDoor.V
namespace Go.Proofs.YtglilpigoocgeaaGreatDoor.V
open Go
set_option linter.unusedVariables false
set_option linter.unusedSimpArgs false

/-- The operation leads from a state to another. -/
def Does (P : Program) (o : Oper) (st st' : St) : Prop :=
  ∀ (w0 : World) (M0 : Nat → Prop) (A0 : Cx) (a : Act) (w : World) (K : Act → World → Prop) (Q : Exit → Act → World → Prop), Rel w0 M0 A0 st a w → (∀ a' w', Rel w0 M0 A0 st' a' w' → K a' w') → o.wp P a w K Q

/-- The operation leads from a state to one of some states. -/
def DoesS (P : Program) (o : Oper) (st : St) (S : St → Prop) : Prop :=
  ∀ (w0 : World) (M0 : Nat → Prop) (A0 : Cx) (a : Act) (w : World) (K : Act → World → Prop) (Q : Exit → Act → World → Prop), Rel w0 M0 A0 st a w → (∀ st' a' w', S st' → Rel w0 M0 A0 st' a' w' → K a' w') → o.wp P a w K Q

def letgo (K : List Nat) (h : Heap) : Heap := killH K (eraseH K h)
def offL (K : List Nat) (locs : Locs) : Locs := fun k => if K.contains k then { locs k with foot := [] } else locs k
/-- The operation yields a value and new objects, and lets some objects go. -/
def DoesK (P : Program) (o : Oper) (t : List Slot) (h : Heap) (r : Slot) (news : List (Nat × VO)) (G : List Nat) : Prop :=
  ∀ (w0 : World) (M0 : Nat → Prop) (A0 : Cx) (locs : Locs) (RO : Nat → Prop) (a : Act) (w : World), Good w0 M0 A0 h w locs RO → Tmps locs h w RO t a →
    ∀ (K : Act → World → Prop) (Q : Exit → Act → World → Prop),
      (∀ v w' locs', Touch (eraseH G h) w locs (updAll (letgo G h) news) w' locs' RO (fun k => k ∈ news.map (·.1) ∨ k ∈ G) (fun _ => False) (· ∈ G) →
        SRel locs' (updAll (letgo G h) news) w' RO r v → (∀ o ∈ r.refs, updAll (letgo G h) news o ≠ .gone) → K (a.put o.dst v) w') →
      o.wp P a w K Q

theorem DoesR.does {P : Program} {o : Oper} {t : List Slot} {h : Heap} {r : Slot} {news : List (Nat × VO)} (hd : DoesR P o t h r news) : Does P o ⟨t, h⟩ ⟨putT t o.dst r, updAll h news⟩ := by
  intro w0 M0 A0 a w K Q ⟨locs, RO, hg, hm⟩ hK
  exact hd w0 M0 A0 locs RO a w hg hm K Q fun v w' locs' ht hs hl => hK _ _ ⟨locs', RO, hg.step ht, (Tmps.step hg ht hm fun _ _ _ => not_false).put _ hs hl⟩

theorem DoesK.does {P : Program} {o : Oper} {t : List Slot} {h : Heap} {r : Slot} {news : List (Nat × VO)} {G : List Nat} (hd : DoesK P o t h r news G) :
    Does P o ⟨t, h⟩ ⟨putT (t.map (eraseS G)) o.dst r, updAll (letgo G h) news⟩ := by
  intro w0 M0 A0 a w K Q ⟨locs, RO, hg, hm⟩ hK
  exact hd w0 M0 A0 locs RO a w hg hm K Q fun v w' locs' ht hs hl =>
    hK _ _ ⟨locs', RO, (hg.erase (K := G)).step ht, (Tmps.step hg.erase ht (Tmps.erase hm) fun _ => erase_clean).put _ hs hl⟩

theorem Yield.one {P : Program} {o : Oper} {t : List Slot} {h : Heap} {r : Slot} (hy : Yield P o t h r) : Does P o ⟨t, h⟩ ⟨putT t o.dst r, h⟩ := hy.does.does

/-! ### filling -/
theorem foldl_patch (off : Nat) : ∀ (l : List Value) (k : Nat) (cs : Array Value), off + k + l.length ≤ cs.size →
    ((l.zipIdx k).foldl (fun cs x => cs.setIfInBounds (off + x.2) x.1) cs).toList = cs.toList.take (off + k) ++ (l ++ cs.toList.drop (off + k + l.length))
  | [], k, cs, _ => by simp
  | v :: l, k, cs, h => by
    rw [List.zipIdx_cons, List.foldl_cons, foldl_patch off l (k + 1) _ (by simp at h ⊢; omega)]
    have e := list_seg_step cs.toList (off + k) v l (by simp at h ⊢; omega)
    simpa [Array.toList_setIfInBounds, Nat.add_assoc, List.append_assoc] using e

theorem fill_step {v : Value} {off : Nat} {cells : Array Value} (h : off + v.cells.size ≤ cells.size) :
    (v.cells.zipIdx.foldl (fun cs (x : Value × Nat) => cs.setIfInBounds (off + x.2) x.1) cells).toList = patch cells.toList off v.cells.toList := by
  rw [← Array.foldl_toList, Array.toList_zipIdx, foldl_patch off v.cells.toList 0 cells (by simpa using h)]
  simp [patch]

theorem fill_cons {place : Nat → Option (Nat × Nat)} {cells : Array Value} {i off size : Nat} {v : Value} {rest : List (Nat × Value)} (hp : place i = some (off, size)) (h1 : v.cells.size = size) (h2 : off + size ≤ cells.size) :
    Instr.fill place cells ((i, v) :: rest) = Instr.fill place (patch cells.toList off v.cells.toList).toArray rest := by
  have e : (v.cells.zipIdx.foldl (fun cs (x : Value × Nat) => cs.setIfInBounds (off + x.2) x.1) cells) = (patch cells.toList off v.cells.toList).toArray := by
    apply Array.ext'
    rw [fill_step (by omega)]
  conv => lhs; unfold Instr.fill
  simp only [hp]
  rw [if_neg (by simp [h1]; omega)]
  rw [← e]

section
variable {P : Program} {o : Oper} {t : List Slot} {h : Heap} {tab : List TyI}

def okCells (y : TV) : Prop := y.ag = true ∨ ∃ c, y.cs = [c] ∧ c ≠ .dead
theorem trel_cells {w : World} {locs : Locs} {RO : Nat → Prop} {y : TV} {v : Value} (hy : okCells y) (h1 : TRel locs h w RO y v) : All2 (VRel locs h w RO) y.cs v.cells.toList := by
  obtain ⟨ag, cs⟩ := y
  cases ag with
  | true => obtain ⟨arr, e, hall⟩ := h1; rw [e]; exact hall
  | false =>
    rcases hy with hy | ⟨c, hc, hd⟩
    · simp at hy
    · simp only at hc; subst hc
      have hv := TRel.single.1 h1
      have h3 := hv.one hd
      have : v.cells = #[v] := by cases v <;> simp [Value.cells] <;> simp [Value.oneCell'] at h3
      rw [this]; exact .cons hv .nil

/-- The parts of a struct literal, laid over its cells. -/
inductive PartsV (tab : List TyI) (t : List Slot) (offs : List (Nat × Nat)) : List (Nat × Operand) → List VC → List VC → Prop
  | nil {cs : List VC} : PartsV tab t offs [] cs cs
  | cons {i fo fT : Nat} {x : Operand} {y : TV} {rest : List (Nat × Operand)} {cs cs' : List VC} (hf : offs[i]? = some (fo, fT)) (hk : (ty tab fT).ok = true) (he : Ev t x y) (hy : okCells y)
      (hl : y.cs.length = (ty tab fT).sz) (hb : fo + y.cs.length ≤ cs.length) (r : PartsV tab t offs rest (patch cs fo y.cs) cs') : PartsV tab t offs ((i, x) :: rest) cs cs'

theorem y_build {T : TypeId} {parts : Array (Nat × Operand)} {offs : List (Nat × Nat)} {cs : List VC} (hT : TabOk P tab) (ho : o.op = .build T parts) (hk : (ty tab T).k = .st offs)
    (hp : PartsV tab t offs parts.toList ((ty tab T).zero.map zvc) cs) (hc : ∀ c ∈ (ty tab T).zero.map zvc, c.refs = []) : Yield P o t h (.t ⟨true, cs⟩) := by
  intro w0 M0 A0 locs RO a w hg hm
  have hok := hT T (by simp [TyI.ok, hk])
  obtain ⟨f, d, h1, h2, h3, _, hkd, z, hz, hzc, _⟩ := hok.ex
  rw [hk] at hkd
  obtain ⟨fs, rfl, hoffs, hfs⟩ := kindOk_st hkd
  have hplaces : ∃ places : List (Nat × Nat), fs.toList.mapM (fun f => (P.info? f.type).map fun i => (f.offset, i.size)) = some places ∧
      ∀ (i fo fT : Nat), offs[i]? = some (fo, fT) → (ty tab fT).ok = true → places[i]? = some (fo, (ty tab fT).sz) := by
    have hfs' : ∀ f ∈ fs.toList, (P.info? f.type).isSome = true := fun f hf => (hfs f (by simpa using hf)).2
    rw [← hoffs]
    clear hoffs hkd hp hfs
    generalize fs.toList = l at hfs' ⊢
    induction l with
    | nil => exact ⟨[], by simp, by simp⟩
    | cons f l ih =>
      obtain ⟨places, hp1, hp2⟩ := ih fun g hg => hfs' g (by simp [hg])
      obtain ⟨info, hinfo⟩ := Option.isSome_iff_exists.1 (hfs' f (by simp))
      refine ⟨(f.offset, info.size) :: places, by simp [List.mapM_cons, hinfo, hp1], fun i fo fT hi hkk => ?_⟩
      cases i with
      | zero =>
        simp at hi
        obtain ⟨rfl, rfl⟩ := hi
        obtain ⟨f', _, e1, _, e2, _⟩ := (hT _ hkk).ex
        rw [hinfo] at e1
        injection e1 with e1; subst e1
        simp [e2]
      | succ i => simpa using hp2 i fo fT (by simpa using hi) hkk
  obtain ⟨places, hpl, hpl2⟩ := hplaces
  have key : ∀ (parts : List (Nat × Operand)) (cs0 cs1 : List VC) (arr : Array Value), PartsV tab t offs parts cs0 cs1 → All2 (VRel locs h w RO) cs0 arr.toList → (∀ c ∈ cs0, ∀ o ∈ c.refs, h o ≠ .gone) →
      ∃ brr, Instr.fill (fun i => places.toArray[i]?) arr (parts.map fun (i, x) => (i, a.eval x)) = some brr ∧ All2 (VRel locs h w RO) cs1 brr.toList ∧ ∀ c ∈ cs1, ∀ o ∈ c.refs, h o ≠ .gone := by
    intro parts cs0 cs1 arr hpp
    induction hpp generalizing arr with
    | nil => intro h1 h2; exact ⟨arr, by simp [Instr.fill], h1, h2⟩
    | cons hf hkk he hy hl hb r ih =>
      rename_i i fo fT x y rest csa csb
      intro hall hlive
      obtain ⟨e1, e2⟩ := hm.ev he
      have hcells := trel_cells hy e1
      have hsz : (a.eval x).cells.size = (ty tab fT).sz := by have := hcells.length; simp only [Array.length_toList] at this; rw [this, hl]
      have hla : arr.size = csa.length := by have := hall.length; simpa using this
      rw [List.map_cons, fill_cons (by simpa using hpl2 _ _ _ hf hkk) hsz (by rw [hla, ← hl]; exact hb)]
      refine ih _ (by simpa using hall.patch hcells _) fun c hc o ho => ?_
      simp only [patch, List.mem_append] at hc
      rcases hc with hc | hc | hc
      · exact hlive c (List.mem_of_mem_take hc) o ho
      · exact e2 o (List.mem_flatMap.2 ⟨c, hc, ho⟩)
      · exact hlive c (List.mem_of_mem_drop hc) o ho
  obtain ⟨brr, hfill, hall, hlive⟩ := key parts.toList _ _ z.cells hp (zvcs_rel hzc) fun c hcm o ho => by rw [hc c hcm] at ho; simp at ho
  have hbuilt : P.built T (parts.map fun (i, x) => (i, a.eval x)).toList = some brr := by
    simp only [Program.built, h1, h2, hz, hpl, Array.toList_map]
    exact hfill
  refine ⟨.agg brr, ?_, ⟨brr, rfl, hall⟩, fun o' ho' => ?_⟩
  · simp only [execOp, ho, Sem.run_bind, run_build w T _ brr hbuilt, Result.andThen_ok]; rfl
  · simp only [Slot.refs, TV.refs, List.mem_flatMap] at ho'
    obtain ⟨c, hc', ho'⟩ := ho'
    exact hlive c hc' o' ho'

/-- The elements of a slice literal. -/
inductive PartsD (t : List Slot) (h : Heap) (n : Nat) : Nat → List (Nat × Operand) → List (List Dat) → List Nat → Prop
  | nil {k : Nat} : PartsD t h n k [] [] []
  | cons {k : Nat} {x : Operand} {y : TV} {ds : List Dat} {rest : List (Nat × Operand)} {es : List (List Dat)} {K1 K2 : List Nat} (he : Ev t x y) (hy : okCells y) (ha : AbsD h y.cs ds K1) (hl : ds.length = n)
      (r : PartsD t h n (k + 1) rest es K2) : PartsD t h n k ((k, x) :: rest) (ds :: es) (K1 ++ K2)

theorem PartsD.len {n k : Nat} {parts : List (Nat × Operand)} {es : List (List Dat)} {K : List Nat} (hp : PartsD t h n k parts es K) : es.length = parts.length ∧ ∀ e ∈ es, e.length = n := by
  induction hp with
  | nil => simp
  | cons he hy ha hl r ih => exact ⟨by simp [ih.1], fun e hh => by rcases List.mem_cons.1 hh with rfl | hh; exact hl; exact ih.2 e hh⟩

theorem partsD_sound {n : Nat} {w0 : World} {M0 : Nat → Prop} {A0 : Cx} {w : World} {locs : Locs} {RO : Nat → Prop} {a : Act} (hg : Good w0 M0 A0 h w locs RO) (hm : Tmps locs h w RO t a) {k : Nat} {parts : List (Nat × Operand)}
    {es : List (List Dat)} {K : List Nat} (hp : PartsD t h n k parts es K) : ∀ (arr : Array Value), arr.size = (k + parts.length) * n → K.Nodup →
      ∃ vs F, Instr.fill (fun i => some (i * n, n)) arr (parts.map fun (i, x) => (i, a.eval x)) = some (arr.toList.take (k * n) ++ vs).toArray ∧ Reps true w es.flatten vs F ∧ F.Nodup ∧ ∀ b ∈ F, ∃ k ∈ K, b ∈ (locs k).foot := by
  induction hp with
  | nil =>
    intro arr hs _
    refine ⟨[], [], ?_, .nil, List.nodup_nil, by simp⟩
    simp only [List.length_nil, Nat.add_zero] at hs
    simp only [List.map_nil, Instr.fill, List.append_nil]
    rw [← hs, ← Array.length_toList, List.take_length]
  | cons he hy ha hl r ih =>
    rename_i k x y ds rest es K1 K2
    intro arr hs hK
    obtain ⟨e1, e2⟩ := hm.ev he
    have hcells := trel_cells hy e1
    have hsz : (a.eval x).cells.size = n := by have := hcells.length; simp only [Array.length_toList] at this; rw [this, ← ha.length, hl]
    obtain ⟨hK1, hK2, hK3⟩ := List.nodup_append.1 hK
    have hkn : (k + 1) * n ≤ arr.size := by rw [hs]; apply Nat.mul_le_mul_right; simp
    rw [Nat.succ_mul] at hkn
    obtain ⟨F1, hr1, hn1, hF1⟩ := ha.sound hg hcells hK1
    have hps : (patch arr.toList (k * n) (a.eval x).cells.toList).length = arr.size := by rw [patch_length (by simp [hsz]; omega)]; simp
    obtain ⟨vs, F2, hf2, hr2, hn2, hF2⟩ := ih (patch arr.toList (k * n) (a.eval x).cells.toList).toArray (by simp only [List.size_toArray, hps, hs, List.length_cons]; congr 1; omega) hK2
    refine ⟨(a.eval x).cells.toList ++ vs, F1 ++ F2, ?_, by rw [List.flatten_cons]; exact hr1.append hr2, List.nodup_append.2 ⟨hn1, hn2, fun b hb c hc e => ?_⟩, fun b hb => ?_⟩
    · rw [List.map_cons, fill_cons rfl hsz (by omega), hf2]
      congr 2
      rw [← List.append_assoc]
      congr 1
      simp only [patch]
      rw [← List.append_assoc, List.take_append_of_le_length (by simp [hsz, Nat.succ_mul]; omega), List.take_of_length_le (by simp [hsz, Nat.succ_mul]; omega)]
    · subst e
      obtain ⟨k1, hk1, hb1⟩ := hF1 b hb
      obtain ⟨k2, hk2, hb2⟩ := hF2 b hc
      exact hg.disj k1 k2 (fun e => hK3 k1 hk1 k2 hk2 e) b hb1 hb2
    · rcases List.mem_append.1 hb with hb | hb
      · obtain ⟨k1, hk1, hb1⟩ := hF1 b hb; exact ⟨k1, by simp [hk1], hb1⟩
      · obtain ⟨k1, hk1, hb1⟩ := hF2 b hb; exact ⟨k1, by simp [hk1], hb1⟩

/-- A new row, out of what was taken in. -/
theorem touch_new {w0 : World} {M0 : Nat → Prop} {A0 : Cx} {w w' : World} {locs : Locs} {RO : Nat → Prop} (hg : Good w0 M0 A0 h w locs RO) {K : List Nat} {k : Nat} (hk : h k = .gone) {ob : VO} {L : Loc} (hkept : Kept (fun _ => False) w w')
    (hob : ObjOk w' RO ob L) (hrow : ∃ n es dp g ver, ob = .row n es dp (g + 1) ver) (hn : L.foot.Nodup) (hf : ∀ b ∈ L.foot, w.heap.size ≤ b ∨ ∃ l ∈ K, b ∈ (locs l).foot) (hkk : k ∉ K) :
    Touch (eraseH K h) w locs (upd (letgo K h) k ob) w' (updL (offL K locs) k L) RO (fun l => l = k ∨ l ∈ K) (fun _ => False) (· ∈ K) where
  kept := hkept
  only b hb := hb.elim
  same j hj := by
    simp only [not_or] at hj
    have : K.contains j = false := by simpa using hj.2
    exact ⟨by rw [upd_ne hj.1]; simp only [letgo, killH, this]; rfl, by rw [updL_ne hj.1]; simp only [offL, this]; rfl⟩
  obj j hj := by
    by_cases e : j = k
    · subst e; rw [upd_same, updL_same]; exact hob
    · rw [upd_ne e, updL_ne e]
      have hc : K.contains j = true := by simpa using hj.resolve_left e
      simp only [letgo, killH, offL, hc, if_true]
      rfl
  cells j hj cs' hc := by
    by_cases e : j = k
    · subst e
      rw [upd_same] at hc
      obtain ⟨n, es, dp, g, ver, e⟩ := hrow
      rw [e] at hc; cases hc
    · rw [upd_ne e] at hc
      have hcc : K.contains j = true := by simpa using hj.resolve_left e
      simp only [letgo, killH, hcc, if_true] at hc
      cases hc
  live j hj cs' hc := by
    by_cases e : j = k
    · subst e
      rw [upd_same] at hc
      obtain ⟨n, es, dp, g, ver, e⟩ := hrow
      rw [e] at hc; cases hc
    · rw [upd_ne e] at hc
      have hcc : K.contains j = true := by simpa using hj.resolve_left e
      simp only [letgo, killH, hcc, if_true] at hc
      cases hc
  nodup j hj := by
    by_cases e : j = k
    · subst e; rw [updL_same]; exact hn
    · rw [updL_ne e]
      have hc : K.contains j = true := by simpa using hj.resolve_left e
      simp only [offL, hc, if_true]; exact List.nodup_nil
  foot j hj b hb := by
    by_cases e : j = k
    · subst e; rw [updL_same] at hb
      rcases hf b hb with h1 | ⟨l, hl, h1⟩
      · exact .inl h1
      · exact .inr ⟨l, .inr hl, h1⟩
    · rw [updL_ne e] at hb
      have hc : K.contains j = true := by simpa using hj.resolve_left e
      simp only [offL, hc, if_true] at hb
      simp at hb
  disj j l hj hl hne b hb := by
    by_cases e : j = k
    · have e' : l ≠ k := fun e' => hne (e.trans e'.symm)
      rw [updL_ne e']
      have hc : K.contains l = true := by simpa using hl.resolve_left e'
      simp only [offL, hc, if_true]; simp
    · rw [updL_ne e] at hb
      have hc : K.contains j = true := by simpa using hj.resolve_left e
      simp only [offL, hc, if_true] at hb
      simp at hb
  step o' ho' hK := by
    have e := ho'.resolve_right hK
    subst e
    unfold OStep
    have : eraseH K h o' = .gone := by simp only [eraseH, hk]
    rw [this]
    trivial
  sub o ho := .inr ho
  clean := eraseH_clean
  fresh o ho _ n es dp ver := by
    by_cases e : o = k
    · subst e
      obtain ⟨n', es', dp', g, ver', e⟩ := hrow
      rw [upd_same, e]; simp
    · rw [upd_ne e]
      have hc : K.contains o = true := by simpa using ho.resolve_left e
      simp only [letgo, killH, hc, if_true]; simp
  killed o ho := by
    have e : o ≠ k := fun e => hkk (e ▸ ho)
    rw [upd_ne e]
    have hc : K.contains o = true := by simpa using ho
    simp only [letgo, killH, hc, if_true]

theorem k_bslice {T : TypeId} {len el k : Nat} {parts : Array (Nat × Operand)} {es : List (List Dat)} {K : List Nat} (hT : TabOk P tab) (ho : o.op = .buildSlice T len parts) (hk : (ty tab T).k = .sl el) (hel : (ty tab el).ok = true)
    (hlen : parts.size = len) (hp : PartsD t h (ty tab el).sz 0 parts.toList es K) (hK : K.Nodup) (hbig : len * (ty tab el).sz ≤ 16777216) (hg : h k = .gone) (hkk : k ∉ K) :
    DoesK P o t h (.t ⟨false, [.sr k 1 0 len len]⟩) [(k, .row (ty tab el).sz es true 1 0)] K := by
  intro w0 M0 A0 locs RO a w hgd hm Kc Q hKc
  obtain ⟨f, d, h1, h2, h3, _, _, z, hz, hzc, _⟩ := (hT el hel).ex
  have hu := (hT T (by simp [TyI.ok, hk])).slice hk
  have hsz := (hT el hel).sizeOf w
  have hzv : (zeroValue el).run P w = .ok z w := by simp [zeroValue, typeInfo, h1, hz]
  have hpl : parts.toList.length = len := by simpa using hlen
  obtain ⟨vs, F, hfill, hr, hn, hF⟩ := partsD_sound hgd hm hp
    ((Array.range (len * (ty tab el).sz)).map ((if len * (ty tab el).sz = 0 then #[] else z.cells)[· % (if len * (ty tab el).sz = 0 then #[] else z.cells).size]!)) (by simp [hpl]) hK
  rw [Nat.zero_mul, List.take_zero, List.nil_append] at hfill
  have hrun : (execOp a.eval o).run P w = .ok (.value (.slice (some ⟨w.heap.size, 0, none⟩) len len)) (w.alloc (.cells vs.toArray el)) := by
    by_cases h0 : len * (ty tab el).sz = 0
    · have e0 : ∀ f : Nat → Value, Array.map f (Array.range 0) = #[] := fun f => by simp
      simp only [h0, if_true] at hfill
      rw [e0] at hfill
      simp [execOp, ho, Instr.buildSlice, Go.underlying, hu, hsz, h0, e0, hfill, newRow]
    · simp only [h0, if_false] at hfill
      have hnb : ¬ (16777216 < len * (ty tab el).sz) := by omega
      simp [execOp, ho, Instr.buildSlice, Go.underlying, hu, hsz, h0, hnb, hzv, hfill, newRow]
  have hel' := hp.len
  have hvl : vs.length = es.length * (ty tab el).sz := by rw [hr.length, flat_len hel'.2]
  have hsize : w.heap.size ∉ F := fun hb => by
    obtain ⟨k1, _, hb1⟩ := hF _ hb
    exact Nat.lt_irrefl _ (hgd.lt hb1)
  have hob : ObjOk (w.alloc (.cells vs.toArray el)) RO (.row (ty tab el).sz es true 1 0) ⟨false, w.heap.size, 0, vs.length, w.heap.size :: F⟩ := by
    refine ⟨hel'.2, .inr ⟨rfl, vs.toArray, el, F, heap_alloc_new, by simp, by simp [hvl], ?_, fun _ => rfl, by simp⟩⟩
    have h5 := seg_all (arr := vs.toArray)
    rw [List.size_toArray, hvl] at h5
    simp only at h5
    rw [h5]
    exact hr.frame fun b hb => heap_alloc_old (hr.lt b hb)
  have ht := touch_new (K := K) hgd hg (kept_alloc w (.cells vs.toArray el)) hob ⟨_, _, _, _, _, rfl⟩ (List.nodup_cons.2 ⟨hsize, hn⟩) (fun b hb => by
    rcases List.mem_cons.1 hb with rfl | hb
    · exact .inl (Nat.le_refl _)
    · exact .inr (hF b hb)) hkk
  refine wp_of_value hrun (hKc _ _ (updL (offL K locs) k ⟨false, w.heap.size, 0, vs.length, w.heap.size :: F⟩) ?_ ?_ ?_)
  · simpa [updAll] using ht
  · refine TRel.single.2 ⟨_, _, _, _, _, upd_same, Nat.le_refl _, rfl, fun _ => .inr ⟨by rw [updL_same], len, ?_, Nat.le_refl _, Nat.le_refl _, ?_⟩⟩
    · rw [updL_same]; simp
    · rw [updL_same]; simp [hvl, hel'.1, hpl]
  · simp [Slot.refs, TV.refs, VC.refs, updAll, upd_same]
end

end Go.Proofs.YtglilpigoocgeaaGreatDoor.V
namespace Go.Proofs.YtglilpigoocgeaaGreatDoor.V
open Go
set_option linter.unusedVariables false
set_option linter.unusedSimpArgs false

theorem eraseC_nil (x : VC) : eraseC [] x = x := by simp [eraseC]
theorem eraseV_nil (x : TV) : eraseV [] x = x := by simp [eraseV]
theorem eraseS_nil (x : Slot) : eraseS [] x = x := by
  cases x with
  | t x => simp [eraseS, eraseV_nil]
  | tu l => simp [eraseS, funext eraseV_nil]
theorem map_eraseS_nil (t : List Slot) : t.map (eraseS []) = t := by
  rw [funext eraseS_nil]; simp
theorem eraseH_nil (h : Heap) : eraseH [] h = h := by
  funext k
  simp only [eraseH]
  split
  · rename_i cs hh
    rw [funext eraseC_nil, List.map_id']
    exact hh.symm
  · rfl
theorem killH_nil (h : Heap) : killH [] h = h := by funext k; simp [killH]
theorem letgo_nil (h : Heap) : letgo [] h = h := by rw [letgo, eraseH_nil, killH_nil]
theorem offL_nil (l : Locs) : offL [] l = l := by funext k; simp [offL]

section
variable {w0 : World} {M0 : Nat → Prop} {A0 : Cx} {h h' : Heap} {w w' : World} {locs locs' : Locs} {RO : Nat → Prop}

theorem ostep_of {o : Nat} (h1 : h' o = h o) (h2 : locs' o = locs o ∨ (locs o).same (locs' o)) (hob : ObjOk w RO (h o) (locs o)) (hun : ∀ b ∈ (locs o).foot, w'.heap[b]? = w.heap[b]?) : OStep locs h w locs' h' w' o := by
  have hs : (locs o).same (locs' o) := by
    rcases h2 with h2 | h2
    · rw [h2]; exact ⟨rfl, rfl, rfl, rfl⟩
    · exact h2
  unfold OStep
  cases hh : h o with
  | gone => trivial
  | var cs => exact ⟨⟨cs, by rw [h1, hh]⟩, hs.2.1⟩
  | row n es dp g ver =>
    refine ⟨es, dp, g, ver, by rw [h1, hh], Nat.le_refl _, Nat.le_refl _, fun _ => hs, fun hd _ => ⟨hd, fun i j e m us v k1 k2 k3 => ⟨⟨e, m, us, k1, k2⟩, ?_⟩⟩⟩
    rw [hs.2.1, hs.2.2.1]
    rw [hh] at hob
    obtain ⟨he, hx | ⟨h0, arr, ty, G, hb, _, _, _, m1, m2⟩⟩ := hob
    · rw [hx.2.1] at k1; simp at k1
    · rw [cell_same (hun _ _)]
      · exact k3
      · cases dp with
        | true => rw [m1 rfl]; simp
        | false => rw [(m2 rfl).1]; simp

theorem setRow_same {b : Nat} {arr arr' : Array Value} {ty : TypeId} {fr : Nat × Nat} (hb : w.heap[b]? = some (.cells arr ty fr)) : (w.setRow b arr').heap[b]? = some (.cells arr' ty fr) := by
  simp [World.setRow, Array.getElem?_modify, hb]
theorem setRow_other {b k : Nat} {arr' : Array Value} (hk : k ≠ b) : (w.setRow b arr').heap[k]? = w.heap[k]? := by
  simp only [World.setRow, Array.getElem?_modify]
  rw [if_neg (by omega)]
theorem kept_setRow {b : Nat} {arr' : Array Value} : Kept (· = b) w (w.setRow b arr') :=
  ⟨rfl, rfl, rfl, by simp [World.setRow], fun k _ hk => setRow_other hk⟩

/-- A block of an object is written; some objects are let go into it. -/
theorem touch_store (hg : Good w0 M0 A0 h w locs RO) {K : List Nat} {k : Nat} (hkK : k ∉ K) {arr arr' : Array Value} {ty : TypeId} (hb : w.heap[(locs k).b]? = some (.cells arr ty (0, 0))) (hbf : (locs k).b ∈ (locs k).foot)
    {ob : VO} {L' : Loc} (hs : (locs k).same L') (hob : ObjOk (w.setRow (locs k).b arr') RO ob L') (hn : L'.foot.Nodup) (hf : ∀ b ∈ L'.foot, b ∈ (locs k).foot ∨ ∃ l ∈ K, b ∈ (locs l).foot)
    (hcells : ∀ cs, ob = .var cs → (∀ o, o ∉ K → OStep locs (eraseH K h) w (updL (offL K locs) k L') (upd (letgo K h) k ob) (w.setRow (locs k).b arr') o) →
      All2 (VRel (updL (offL K locs) k L') (upd (letgo K h) k ob) (w.setRow (locs k).b arr') RO) cs arr'.toList)
    (hlive : ∀ cs, ob = .var cs → ∀ x ∈ cs, ∀ o ∈ x.refs, upd (letgo K h) k ob o ≠ .gone)
    (hstep : OStep locs (eraseH K h) w (updL (offL K locs) k L') (upd (letgo K h) k ob) (w.setRow (locs k).b arr') k) :
    Touch (eraseH K h) w locs (upd (letgo K h) k ob) (w.setRow (locs k).b arr') (updL (offL K locs) k L') RO (fun l => l = k ∨ l ∈ K) (· = (locs k).b) (· ∈ K) := by
  have hsame : ∀ j, j ≠ k → j ∉ K → upd (letgo K h) k ob j = eraseH K h j ∧ updL (offL K locs) k L' j = locs j := by
    intro j h1 h2
    have : K.contains j = false := by simpa using h2
    exact ⟨by rw [upd_ne h1]; simp only [letgo, killH, this]; rfl, by rw [updL_ne h1]; simp only [offL, this]; rfl⟩
  have hgone : ∀ j, j ≠ k → j ∈ K → upd (letgo K h) k ob j = .gone ∧ (updL (offL K locs) k L' j).foot = [] := by
    intro j h1 h2
    have : K.contains j = true := by simpa using h2
    exact ⟨by rw [upd_ne h1]; simp only [letgo, killH, this]; rfl, by rw [updL_ne h1]; simp only [offL, this]; rfl⟩
  have hall : ∀ o, o ∉ K → OStep locs (eraseH K h) w (updL (offL K locs) k L') (upd (letgo K h) k ob) (w.setRow (locs k).b arr') o := by
    intro o ho
    by_cases e : o = k
    · subst e; exact hstep
    · obtain ⟨h1, h2⟩ := hsame o e ho
      refine ostep_of h1 (.inl h2) ((hg.erase (K := K)).obj o) fun b hbo => setRow_other fun e' => ?_
      subst e'
      exact hg.disj o k e _ hbo hbf
  exact {
    kept := kept_setRow
    only := fun b hb => ⟨k, .inl rfl, by rw [hb]; exact hbf⟩
    same := fun j hj => by
      simp only [not_or] at hj
      exact hsame j hj.1 hj.2
    obj := fun j hj => by
      by_cases e : j = k
      · subst e; rw [upd_same, updL_same]; exact hob
      · obtain ⟨h1, h2⟩ := hgone j e (hj.resolve_left e)
        rw [h1]; exact h2
    cells := fun j hj cs hc arr2 ty2 fr2 hb2 => by
      by_cases e : j = k
      · subst e
        rw [upd_same] at hc
        rw [updL_same, hs.2.1, setRow_same hb] at hb2
        injection hb2 with hb2; injection hb2 with hb2
        subst hb2
        exact hcells cs hc hall
      · rw [(hgone j e (hj.resolve_left e)).1] at hc; cases hc
    live := fun j hj cs hc x hx o ho => by
      by_cases e : j = k
      · subst e
        rw [upd_same] at hc
        exact hlive cs hc x hx o ho
      · rw [(hgone j e (hj.resolve_left e)).1] at hc; cases hc
    nodup := fun j hj => by
      by_cases e : j = k
      · subst e; rw [updL_same]; exact hn
      · rw [(hgone j e (hj.resolve_left e)).2]; exact List.nodup_nil
    foot := fun j hj b hb => by
      by_cases e : j = k
      · subst e; rw [updL_same] at hb
        rcases hf b hb with h1 | ⟨l, hl, h1⟩
        · exact .inr ⟨j, .inl rfl, h1⟩
        · exact .inr ⟨l, .inr hl, h1⟩
      · rw [(hgone j e (hj.resolve_left e)).2] at hb; simp at hb
    disj := fun j l hj hl hne b hb => by
      by_cases e : j = k
      · have e' : l ≠ k := fun e' => hne (e.trans e'.symm)
        rw [(hgone l e' (hl.resolve_left e')).2]; simp
      · rw [(hgone j e (hj.resolve_left e)).2] at hb; simp at hb
    step := fun o _ hK => hall o hK
    sub := fun o ho => .inr ho
    clean := eraseH_clean
    fresh := fun o ho hgo n es dp ver => by
      by_cases e : o = k
      · subst e
        unfold eraseH at hgo
        have h1 := hg.obj o
        cases hh : h o with
        | gone => rw [hh] at h1; simp only [ObjOk] at h1; rw [h1] at hbf; simp at hbf
        | var cs => rw [hh] at hgo; cases hgo
        | row n es dp g ver => rw [hh] at hgo; cases hgo
      · rw [(hgone o e (ho.resolve_left e)).1]; simp
    killed := fun o ho => (hgone o (fun e => hkK (e ▸ ho)) ho).1 }

theorem loc_same_refl (L : Loc) : L.same L := ⟨rfl, rfl, rfl, rfl⟩
end

section
variable {P : Program} {o : Oper} {t : List Slot} {h : Heap} {tab : List TyI}

theorem run_store_at {T : TypeId} {i : TyI} (hok : TyOk P T i) {w : World} {b off : Nat} {v : Value} {arr : Array Value} {aty : TypeId} (hb : w.heap[b]? = some (.cells arr aty (0, 0))) (hl : v.cells.size = i.sz)
    (hs : off + v.cells.size ≤ arr.size) (h1 : ∀ u ∈ v.cells.toList, u.oneCell' = true) : (storeVar T ⟨b, off, none⟩ v).run P w = .ok () (w.setRow b (patch arr.toList off v.cells.toList).toArray) := by
  have hz := hok.sizeOf w
  have := run_storeCells_at P b off aty v.cells.toList 0 arr w hb (by simpa using hs) h1
  simp only [Nat.add_zero, List.append_assoc] at this
  simp [storeVar, hz, hl, this, patch]

theorem store_run {T : TypeId} {x v : Operand} {a : Act} {p : Addr} {w w' : World} (ho : o.op = .store T x v) (hx : a.eval x = .pointer (some p)) (hl : (storeVar T p (a.eval v)).run P w = .ok () w') :
    (execOp a.eval o).run P w = .ok .skip w' := by
  simp [execOp, ho, hx, Instr.storeAt, Instr.sureAddr, hl]

theorem trel_ones {w : World} {locs : Locs} {RO : Nat → Prop} {cs : List VC} {vs : List Value} (hall : All2 (VRel locs h w RO) cs vs) (hd : ∀ c ∈ cs, c ≠ .dead) : ∀ u ∈ vs, u.oneCell' = true := by
  induction hall with
  | nil => simp
  | cons h1 _ ih =>
    intro u hu
    rcases List.mem_cons.1 hu with rfl | hu
    · exact h1.one (hd _ (by simp))
    · exact ih (fun c hc => hd c (by simp [hc])) u hu

theorem Slot.dead_rel {w : World} {locs : Locs} {RO : Nat → Prop} {v : Value} : SRel locs h w RO .dead v := TRel.single.2 trivial

theorem w_stvar {T : TypeId} {x v : Operand} {k off : Nat} {cs : List VC} {y : TV} (hT : TabOk P tab) (ho : o.op = .store T x v) (hk : (ty tab T).ok = true) (hx : Ev t x ⟨false, [.vp k off]⟩) (hh : h k = .var cs)
    (hv : Ev t v y) (hy : okCells y) (hd : ∀ c ∈ y.cs, c ≠ .dead) (hl : y.cs.length = (ty tab T).sz) (hs : off + y.cs.length ≤ cs.length) :
    Does P o ⟨t, h⟩ ⟨putT t o.dst .dead, upd h k (.var (patch cs off y.cs))⟩ := by
  intro w0 M0 A0 a w K Q ⟨locs, RO, hg, hm⟩ hK
  obtain ⟨⟨_, ex⟩, _⟩ := Tmps.ev1 hm hx
  obtain ⟨e1, e2⟩ := Tmps.ev hm hv
  have hcells := trel_cells hy e1
  have hsz : (a.eval v).cells.size = y.cs.length := by simpa using hcells.length
  have hob := hg.obj k
  simp only [hh] at hob
  obtain ⟨hft, arr, aty, hb, hsa⟩ := hob
  have hold := hg.cells k cs hh arr aty _ hb
  have hrun := store_run ho ex (run_store_at (hT T hk) (off := off) hb (by omega) (by omega) (trel_ones hcells hd))
  have hpl : (patch arr.toList off (a.eval v).cells.toList).length = arr.size := by rw [patch_length (by simp; omega)]; simp
  have ht := touch_store (K := []) (k := k) (arr' := (patch arr.toList off (a.eval v).cells.toList).toArray) (ob := .var (patch cs off y.cs)) (L' := locs k) hg (by simp) hb (by rw [hft]; simp) (loc_same_refl _)
    ⟨hft, _, _, setRow_same hb, by simp [hpl, patch_length hs, hsa]⟩ (hg.nodup k) (fun b hb => .inl hb)
    (fun cs' hc hst => by
      injection hc with hc; subst hc
      simp only [eraseH_nil, letgo_nil, offL_nil] at hst ⊢
      have hro : ∀ b, RO b → RO b ∧ (w.setRow (locs k).b (patch arr.toList off (a.eval v).cells.toList).toArray).heap[b]? = w.heap[b]? := fun b hbr => ⟨hbr, setRow_other fun e => hg.noro k b (by rw [hft, e]; simp) hbr⟩
      refine (All2.patch ?_ ?_ off)
      · exact hold.mono fun a b _ hr => hr.carry hro fun o _ => hst o (by simp)
      · exact hcells.mono fun a b _ hr => hr.carry hro fun o _ => hst o (by simp))
    (fun cs' hc x hx o ho => by
      injection hc with hc; subst hc
      simp only [letgo_nil]
      by_cases e : o = k
      · subst e; rw [upd_same]; simp
      · rw [upd_ne e]
        simp only [patch, List.mem_append] at hx
        rcases hx with hx | hx | hx
        · exact hg.live k cs hh x (List.mem_of_mem_take hx) o ho
        · exact e2 o (List.mem_flatMap.2 ⟨x, hx, ho⟩)
        · exact hg.live k cs hh x (List.mem_of_mem_drop hx) o ho)
    (by
      unfold OStep
      simp only [eraseH_nil, letgo_nil, offL_nil, hh]
      exact ⟨⟨_, upd_same⟩, by rw [updL_same]⟩)
  simp only [eraseH_nil, letgo_nil, offL_nil] at ht
  refine wp_of_skip hrun (hK _ _ ⟨_, RO, hg.step ht, (Tmps.step hg ht hm fun _ _ _ => by simp).put _ Slot.dead_rel (by simp [Slot.dead, Slot.refs, TV.refs, VC.refs])⟩)

/-- Does a cell hold a slice? -/
def isLf : Dat → Bool
  | .lf _ => true
  | _ => false

theorem w_strow {T : TypeId} {x v : Operand} {k g i j n ver : Nat} {es : List (List Dat)} {dp : Bool} {e ds : List Dat} {y : TV} {G : List Nat} {bump : Nat} (hT : TabOk P tab) (ho : o.op = .store T x v) (hk : (ty tab T).ok = true)
    (hx : Ev t x ⟨false, [.ep k g i j]⟩) (hh : h k = .row n es dp g ver) (he : es[i]? = some e) (hv : Ev t v y) (hy : okCells y) (hd : ∀ c ∈ y.cs, c ≠ .dead) (hl : y.cs.length = (ty tab T).sz)
    (ha : AbsD h y.cs ds G) (hG : G.Nodup) (hkG : k ∉ G) (hdp : dp = true ∨ G = []) (hs : j + ds.length ≤ e.length) (hb : 0 < bump ∨ (bump = 0 ∧ ((e.drop j).take ds.length).all isLf = true)) :
    Does P o ⟨t, h⟩ ⟨putT (t.map (eraseS G)) o.dst .dead, upd (letgo G h) k (.row n (es.set i (patch e j ds)) dp g (ver + bump))⟩ := by
  intro w0 M0 A0 a w K Q ⟨locs, RO, hg, hm⟩ hK
  obtain ⟨⟨n', es', dp', g0, ver', hc, hle, p, ex, hp⟩, _⟩ := Tmps.ev1 hm hx
  simp only [hh] at hc
  injection hc with a1 a2 a3 a4 a5
  obtain ⟨e1, e2⟩ := Tmps.ev hm hv
  have hcells := trel_cells hy e1
  have hsz : (a.eval v).cells.size = y.cs.length := by simpa using hcells.length
  obtain ⟨F, hr, hFn, hF⟩ := ha.sound hg hcells hG
  have hob := hg.obj k
  simp only [hh] at hob
  obtain ⟨hn, hxx | ⟨hnl, arr, aty, Gr, hbl, hat, hbs, hrr, k1, k2⟩⟩ := hob
  · rw [hxx.2.1] at he; simp at he
  have hi : i < es.length := (List.getElem?_eq_some_iff.1 he).1
  have hel : e.length = n := hn e (List.mem_of_getElem? he)
  have hdl : ds.length = y.cs.length := ha.length
  have hin : i * n + j + ds.length ≤ es.length * n := by
    have : (i + 1) * n ≤ es.length * n := Nat.mul_le_mul_right n hi
    rw [Nat.succ_mul] at this; omega
  have hvl : (a.eval v).cells.toList.length = ds.length := by rw [hr.length]
  have hvl' : (a.eval v).cells.size = ds.length := by simpa using hvl
  have ep : p = ⟨(locs k).b, (locs k).base + (i * n + j), none⟩ := by rw [a1, ← Nat.add_assoc]; exact hp a4
  rw [ep] at ex
  have hrun := store_run ho ex (run_store_at (hT T hk) (off := (locs k).base + (i * n + j)) hbl (by omega) (by omega) (trel_ones hcells hd))
  have hpl : (patch arr.toList ((locs k).base + (i * n + j)) (a.eval v).cells.toList).length = arr.size := by rw [patch_length (by simp; omega)]; simp
  have hbf : (locs k).b ∈ (locs k).foot := by
    cases dp with
    | true => rw [k1 rfl]; simp
    | false => rw [(k2 rfl).1]; simp
  -- the row's data, anew
  obtain ⟨F1, F2, F3, hGr, hr1, hr2, hr3⟩ := hrr.part (k := i * n + j) (l := ds.length)
  have hfr : ∀ b, b ≠ (locs k).b → (w.setRow (locs k).b (patch arr.toList ((locs k).base + (i * n + j)) (a.eval v).cells.toList).toArray).heap[b]? = w.heap[b]? := fun b hb => setRow_other hb
  have hnb : ∀ b ∈ Gr, b ≠ (locs k).b := by
    intro b hb' e'
    subst e'
    cases dp with
    | true =>
      have := hg.nodup k
      rw [k1 rfl] at this
      exact (List.nodup_cons.1 this).1 hb'
    | false => exact hg.noro k _ hbf ((k2 rfl).2 _ hb')
  have hFb : ∀ b ∈ F, b ≠ (locs k).b := by
    intro b hb' e'
    subst e'
    obtain ⟨l, hl', hbl'⟩ := hF _ hb'
    exact hg.disj l k (fun e => hkG (e ▸ hl')) _ hbl' hbf
  have hF0 : dp = false → F = [] := fun hd0 => by
    rcases hdp with h1 | h1
    · rw [h1] at hd0; cases hd0
    · cases F with
      | nil => rfl
      | cons b F => obtain ⟨l, hl', _⟩ := hF b (by simp); rw [h1] at hl'; simp at hl'
  have hr' : Reps dp w ds (a.eval v).cells.toList F := by
    cases dp with
    | true => exact hr
    | false => exact hr.ro
  have hnew : Reps dp (w.setRow (locs k).b (patch arr.toList ((locs k).base + (i * n + j)) (a.eval v).cells.toList).toArray) (es.set i (patch e j ds)).flatten
      (seg (patch arr.toList ((locs k).base + (i * n + j)) (a.eval v).cells.toList).toArray (locs k).base ((es.set i (patch e j ds)).length * n)) (F1 ++ (F ++ F3)) := by
    revert hfr
    generalize w.setRow (locs k).b (patch arr.toList ((locs k).base + (i * n + j)) (a.eval v).cells.toList).toArray = w2
    intro hfr
    rw [set_flat hn he (by omega), List.length_set, seg_patch (by omega) (by omega)]
    simp only [patch]
    rw [hvl]
    have f1 : ∀ b ∈ F1, b ∈ Gr := fun b hb => by rw [hGr]; simp [hb]
    have f3 : ∀ b ∈ F3, b ∈ Gr := fun b hb => by rw [hGr]; simp [hb]
    rw [List.drop_drop, List.drop_drop] at hr3
    exact (hr1.frame fun b hb => hfr b (hnb b (f1 b hb))).append ((hr'.frame fun b hb => hfr b (hFb b hb)).append (hr3.frame fun b hb => hfr b (hnb b (f3 b hb))))
  have hfoot : ∀ b ∈ F1 ++ (F ++ F3), b ∈ Gr ∨ ∃ l ∈ G, b ∈ (locs l).foot := by
    intro b hb
    simp only [List.mem_append] at hb
    rcases hb with hb | hb | hb
    · exact .inl (by rw [hGr]; simp [hb])
    · exact .inr (hF b hb)
    · exact .inl (by rw [hGr]; simp [hb])
  let L' : Loc := ⟨(locs k).nl, (locs k).b, (locs k).base, (locs k).tot, if dp then (locs k).b :: (F1 ++ (F ++ F3)) else [(locs k).b]⟩
  have hnd : L'.foot.Nodup := by
    cases dp with
    | false => simp [L']
    | true =>
      have hgn := hg.nodup k
      rw [k1 rfl, hGr] at hgn
      obtain ⟨g1, g2⟩ := List.nodup_cons.1 hgn
      obtain ⟨g3, g4, g5⟩ := List.nodup_append.1 g2
      obtain ⟨g6, g7, g8⟩ := List.nodup_append.1 g4
      have hGk : ∀ b ∈ Gr, b ∈ (locs k).foot := fun b hb => by rw [k1 rfl]; simp [hb]
      have hdis : ∀ b ∈ F, ∀ c ∈ Gr, b ≠ c := by
        intro b hb c hc e
        subst e
        obtain ⟨l, hl', hbl'⟩ := hF b hb
        exact hg.disj l k (fun e => hkG (e ▸ hl')) b hbl' (hGk b hc)
      show ((locs k).b :: (F1 ++ (F ++ F3))).Nodup
      refine List.nodup_cons.2 ⟨?_, List.nodup_append.2 ⟨g3, List.nodup_append.2 ⟨hFn, g7, fun b hb c hc => hdis b hb c (by rw [hGr]; simp [hc])⟩, fun b hb c hc => ?_⟩⟩
      · intro hb
        rcases hfoot _ hb with h1 | ⟨l, hl', hbl'⟩
        · exact hnb _ h1 rfl
        · exact hg.disj l k (fun e => hkG (e ▸ hl')) _ hbl' hbf
      · rcases List.mem_append.1 hc with hc | hc
        · exact fun e => hdis c hc b (by rw [hGr]; simp [hb]) e.symm
        · exact g5 b hb c (by simp [hc])
  have hob' : ObjOk (w.setRow (locs k).b (patch arr.toList ((locs k).base + (i * n + j)) (a.eval v).cells.toList).toArray) RO (.row n (es.set i (patch e j ds)) dp g (ver + bump)) L' := by
    refine ⟨set_len hn he (by omega), .inr ⟨hnl, _, _, F1 ++ (F ++ F3), setRow_same hbl, by simp [hpl, hat, L'], by simpa [L'] using hbs, hnew, fun hd1 => by simp [L', hd1], fun hd0 => ⟨by simp [L', hd0], fun b hb => ?_⟩⟩⟩
    rw [hF0 hd0] at hb
    refine (k2 hd0).2 b ?_
    rw [hGr]
    simp only [List.nil_append, List.mem_append] at hb ⊢
    rcases hb with hb | hb
    · exact .inl hb
    · exact .inr (.inr hb)
  have ht := touch_store (K := G) (k := k) (arr' := (patch arr.toList ((locs k).base + (i * n + j)) (a.eval v).cells.toList).toArray) (ob := .row n (es.set i (patch e j ds)) dp g (ver + bump)) (L' := L') hg hkG hbl hbf ⟨rfl, rfl, rfl, rfl⟩
    hob' hnd (fun b hb => by
      have hgk : ∀ b ∈ Gr, dp = true → b ∈ (locs k).foot := fun b hb hd1 => by rw [k1 hd1]; simp [hb]
      cases dp with
      | false => simp only [L'] at hb; simp at hb; subst hb; exact .inl hbf
      | true =>
        rcases List.mem_cons.1 (show b ∈ (locs k).b :: (F1 ++ (F ++ F3)) from hb) with rfl | hb
        · exact .inl hbf
        · rcases hfoot b hb with h1 | h1
          · exact .inl (hgk b h1 rfl)
          · exact .inr h1)
    (fun cs hc => by cases hc) (fun cs hc => by cases hc)
    (by
      unfold OStep
      simp only [eraseH, hh]
      refine ⟨_, _, _, _, upd_same, Nat.le_refl _, by omega, fun _ => by rw [updL_same]; exact ⟨rfl, rfl, rfl, rfl⟩, fun hd1 hver => ⟨hd1, fun i' j' e' m us u q1 q2 q3 => ?_⟩⟩
      rw [updL_same]
      rcases hb with hb | ⟨_, hb⟩
      · omega
      have hi' : i' < es.length := (List.getElem?_eq_some_iff.1 q1).1
      have hel' : e'.length = n := hn e' (List.mem_of_getElem? q1)
      have hj' : j' < n := by have := (List.getElem?_eq_some_iff.1 q2).1; omega
      have hout : i' * n + j' < i * n + j ∨ i * n + j + ds.length ≤ i' * n + j' := by
        rcases Nat.lt_trichotomy i' i with hlt | heq | hgt
        · left
          have : (i' + 1) * n ≤ i * n := Nat.mul_le_mul_right n hlt
          rw [Nat.succ_mul] at this; omega
        · subst heq
          rw [he] at q1; injection q1 with q1; subst q1
          rcases Nat.lt_or_ge j' j with h1 | h1
          · left; omega
          · rcases Nat.lt_or_ge j' (j + ds.length) with h2 | h2
            · exfalso
              rw [List.all_eq_true] at hb
              have : ((e.drop j).take ds.length)[j' - j]? = some (.sl m us) := by
                rw [List.getElem?_take, if_pos (by omega), List.getElem?_drop, ← q2]; congr 1; omega
              have := hb _ (List.mem_of_getElem? this)
              simp [isLf] at this
            · right; omega
        · right
          have : (i + 1) * n ≤ i' * n := Nat.mul_le_mul_right n hgt
          rw [Nat.succ_mul] at this; omega
      constructor
      · by_cases hii : i' = i
        · subst hii
          rw [he] at q1; injection q1 with q1; subst q1
          refine ⟨patch e j ds, m, us, by rw [List.getElem?_set_self hi], ?_⟩
          simp only [patch, List.getElem?_append, List.length_take]
          rcases hout with h1 | h1
          · rw [Nat.min_eq_left (by omega), if_pos (by omega), List.getElem?_take, if_pos (by omega)]; exact q2
          · rw [Nat.min_eq_left (by omega), if_neg (by omega), if_neg (by omega), List.getElem?_drop, ← q2]; congr 1; omega
        · exact ⟨e', m, us, by rw [List.getElem?_set_ne (by omega)]; exact q1, q2⟩
      · show World.cell? _ ⟨(locs k).b, (locs k).base + i' * n + j', none⟩ = some u
        rw [cell_block (setRow_same hbl), patch_seg_other (by simp; omega) (by simp only [hvl]; omega)]
        rw [cell_block hbl] at q3
        exact q3)
  refine wp_of_skip hrun (hK _ _ ⟨_, RO, (hg.erase (K := G)).step ht, (Tmps.step hg.erase ht (Tmps.erase hm) fun _ => erase_clean).put _ Slot.dead_rel (by simp [Slot.dead, Slot.refs, TV.refs, VC.refs])⟩)
end

end Go.Proofs.YtglilpigoocgeaaGreatDoor.V
namespace Go.Proofs.YtglilpigoocgeaaGreatDoor.V
open Go
set_option linter.unusedVariables false
set_option linter.unusedSimpArgs false

theorem reps_flat {wr : Bool} {w : World} {ds : List Dat} {vs : List Value} {F : List Nat} (hr : Reps wr w ds vs F) (hf : ds.all isLf = true) : Reps true w ds vs [] := by
  induction hr with
  | nil => exact .nil
  | lf h _ ih => exact .lf h (ih (by simpa [isLf] using hf))
  | nl _ _ => simp [isLf] at hf
  | sl _ _ _ _ _ _ _ _ _ => simp [isLf] at hf
  | pt _ _ _ _ _ _ _ => simp [isLf] at hf
  | cl _ _ _ _ => simp [isLf] at hf
  | hole _ _ _ => simp [isLf] at hf
  | em _ _ _ => simp [isLf] at hf

/-- What is appended: the elements, and what is let go for them. -/
inductive Src (h : Heap) (n : Nat) : VC → List (List Dat) → List Nat → Prop
  | take {k g off len room ver : Nat} {us e : List (List Dat)} (hk : h k = .row n us true g ver) (hl : off + len ≤ us.length) (he : (us.drop off).take len = e) : Src h n (.sr k g off len room) e [k]
  | flat {k g off len room ver : Nat} {us e : List (List Dat)} {dp : Bool} (hk : h k = .row n us dp g ver) (hl : off + len ≤ us.length) (he : (us.drop off).take len = e) (hf : e.flatten.all isLf = true) :
      Src h n (.sr k g off len room) e []
  | d {us : List (List Dat)} (hf : us.flatten.all isLf = true) : Src h n (.d (.sl n us)) us []
  | nl : Src h n (.nl n) [] []

structure SrcOk (w : World) (n : Nat) (e : List (List Dat)) (v : Value) (vs : List Value) : Prop where
  form : (v = .slice none 0 0 ∧ e = []) ∨ ∃ a c, v = .slice (some a) e.length c ∧ ∀ j u, vs[j]? = some u → w.cell? (a.add j) = some u
  all : ∀ x ∈ e, x.length = n

theorem src_of_reps {w : World} {n : Nat} {e : List (List Dat)} {v : Value} {F : List Nat} {wr : Bool} (hr : Reps wr w [.sl n e] [v] F) :
    ∃ vs G, SrcOk w n e v vs ∧ Reps wr w e.flatten vs G ∧ (∀ b ∈ G, b ∈ F) ∧ (F.Nodup → G.Nodup) := by
  cases hr with
  | nl r => exact ⟨[], [], ⟨.inl ⟨rfl, rfl⟩, by simp⟩, .nil, by simp, fun _ => List.nodup_nil⟩
  | em h r => exact ⟨[], [], ⟨.inr ⟨_, _, rfl, fun j u hj => by simp at hj⟩, by simp⟩, .nil, by simp, fun _ => List.nodup_nil⟩
  | sl hb hc he hs hw g r =>
    cases r
    refine ⟨_, _, ⟨.inr ⟨_, _, rfl, fun j u hj => ?_⟩, he⟩, g, fun b hb => by simp [hb], fun hn => by simp at hn; exact hn.2⟩
    have hj' : j < e.length * n := by
      have := (List.getElem?_eq_some_iff.1 hj).1
      rw [seg_length hs] at this; exact this
    rw [seg_get hj'] at hj
    rw [add_plain, cell_block hb]; exact hj

section
variable {w0 : World} {M0 : Nat → Prop} {A0 : Cx} {h : Heap} {w : World} {locs : Locs} {RO : Nat → Prop}

theorem Src.sound (hg : Good w0 M0 A0 h w locs RO) {n : Nat} {x : VC} {e : List (List Dat)} {K : List Nat} {v : Value} (hs : Src h n x e K) (hv : VRel locs h w RO x v) :
    ∃ vs G, SrcOk w n e v vs ∧ Reps true w e.flatten vs G ∧ G.Nodup ∧ ∀ b ∈ G, ∃ k ∈ K, b ∈ (locs k).foot := by
  cases hs with
  | take hk hl he =>
    rename_i k g off len room ver us
    obtain ⟨n', es', dp', g0, ver', hc, hle, hone, hp⟩ := hv
    rw [hk] at hc
    injection hc with a1 a2 a3 a4 a5
    subst a1
    have hob := hg.obj k
    rw [hk] at hob
    obtain ⟨F, hr, hd, _⟩ := view_reps hob (hg.nodup k) (hp a4) hl
    obtain ⟨hn, hF⟩ := hd rfl
    rw [he] at hr
    obtain ⟨vs, G, h1, h2, h3, h4⟩ := src_of_reps hr
    exact ⟨vs, G, h1, h2, h4 hn, fun b hb => ⟨k, by simp, hF b (h3 b hb)⟩⟩
  | flat hk hl he hf =>
    rename_i k g off len room ver us dp
    obtain ⟨n', es', dp', g0, ver', hc, hle, hone, hp⟩ := hv
    rw [hk] at hc
    injection hc with a1 a2 a3 a4 a5
    subst a1
    have hob := hg.obj k
    rw [hk] at hob
    obtain ⟨F, hr, _⟩ := view_reps hob (hg.nodup k) (hp a4) hl
    rw [he] at hr
    obtain ⟨vs, G, h1, h2, h3, h4⟩ := src_of_reps hr
    exact ⟨vs, [], h1, reps_flat h2 hf, List.nodup_nil, by simp⟩
  | d hf =>
    obtain ⟨F, hr, _⟩ := hv
    obtain ⟨vs, G, h1, h2, h3, h4⟩ := src_of_reps hr
    exact ⟨vs, [], h1, reps_flat h2 hf, List.nodup_nil, by simp⟩
  | nl =>
    cases hv
    exact ⟨[], [], ⟨.inl ⟨rfl, rfl⟩, by simp⟩, .nil, List.nodup_nil, by simp⟩

/-- A row that has been turned as a whole. -/
theorem touch_row2 (hg : Good w0 M0 A0 h w locs RO) {K : List Nat} {k : Nat} (hkK : k ∉ K) {n g ver : Nat} {es es' : List (List Dat)} {dp dp' : Bool} (hh : h k = .row n es dp g ver) {w' : World} {N : Nat → Prop} (hkept : Kept N w w')
    (hN : ∀ b, N b → b ∈ (locs k).foot) {L' : Loc} (hob : ObjOk w' RO (.row n es' dp' (g + 1) (ver + 1)) L') (hn : L'.foot.Nodup) (hf : ∀ b ∈ L'.foot, w.heap.size ≤ b ∨ b ∈ (locs k).foot ∨ ∃ l ∈ K, b ∈ (locs l).foot) :
    Touch (eraseH K h) w locs (upd (letgo K h) k (.row n es' dp' (g + 1) (ver + 1))) w' (updL (offL K locs) k L') RO (fun l => l = k ∨ l ∈ K) N (· ∈ K) := by
  have hsame : ∀ j, j ≠ k → j ∉ K → upd (letgo K h) k (.row n es' dp' (g + 1) (ver + 1)) j = eraseH K h j ∧ updL (offL K locs) k L' j = locs j := by
    intro j h1 h2
    have : K.contains j = false := by simpa using h2
    exact ⟨by rw [upd_ne h1]; simp only [letgo, killH, this]; rfl, by rw [updL_ne h1]; simp only [offL, this]; rfl⟩
  have hgone : ∀ j, j ≠ k → j ∈ K → upd (letgo K h) k (.row n es' dp' (g + 1) (ver + 1)) j = .gone ∧ (updL (offL K locs) k L' j).foot = [] := by
    intro j h1 h2
    have : K.contains j = true := by simpa using h2
    exact ⟨by rw [upd_ne h1]; simp only [letgo, killH, this]; rfl, by rw [updL_ne h1]; simp only [offL, this]; rfl⟩
  exact {
    kept := hkept
    only := fun b hb => ⟨k, .inl rfl, hN b hb⟩
    same := fun j hj => by
      simp only [not_or] at hj
      exact hsame j hj.1 hj.2
    obj := fun j hj => by
      by_cases e : j = k
      · subst e; rw [upd_same, updL_same]; exact hob
      · obtain ⟨h1, h2⟩ := hgone j e (hj.resolve_left e)
        rw [h1]; exact h2
    cells := fun j hj cs hc => by
      by_cases e : j = k
      · subst e; rw [upd_same] at hc; cases hc
      · rw [(hgone j e (hj.resolve_left e)).1] at hc; cases hc
    live := fun j hj cs hc => by
      by_cases e : j = k
      · subst e; rw [upd_same] at hc; cases hc
      · rw [(hgone j e (hj.resolve_left e)).1] at hc; cases hc
    nodup := fun j hj => by
      by_cases e : j = k
      · subst e; rw [updL_same]; exact hn
      · rw [(hgone j e (hj.resolve_left e)).2]; exact List.nodup_nil
    foot := fun j hj b hb => by
      by_cases e : j = k
      · subst e; rw [updL_same] at hb
        rcases hf b hb with h1 | h1 | ⟨l, hl, h1⟩
        · exact .inl h1
        · exact .inr ⟨j, .inl rfl, h1⟩
        · exact .inr ⟨l, .inr hl, h1⟩
      · rw [(hgone j e (hj.resolve_left e)).2] at hb; simp at hb
    disj := fun j l hj hl hne b hb => by
      by_cases e : j = k
      · have e' : l ≠ k := fun e' => hne (e.trans e'.symm)
        rw [(hgone l e' (hl.resolve_left e')).2]; simp
      · rw [(hgone j e (hj.resolve_left e)).2] at hb; simp at hb
    step := fun o ho hK => by
      have e := ho.resolve_right hK
      subst e
      unfold OStep
      simp only [eraseH, hh]
      exact ⟨_, _, _, _, upd_same, by omega, by omega, fun e => by omega, fun _ e => by omega⟩
    sub := fun o ho => .inr ho
    clean := eraseH_clean
    fresh := fun o ho hgo n es dp ver => by
      by_cases e : o = k
      · subst e; rw [upd_same]; simp
      · rw [(hgone o e (ho.resolve_left e)).1]; simp
    killed := fun o ho => (hgone o (fun e => hkK (e ▸ ho)) ho).1 }
end

theorem kept_drew {M : Nat → Prop} {w w' : World} (hk : Kept M w.drew w') : Kept M w w' := ⟨hk.os, hk.tape, hk.output, hk.size, hk.blk⟩

section
variable {P : Program} {o : Oper} {t : List Slot} {h : Heap} {tab : List TyI}

theorem zeros_size (z : Array Value) (n : Nat) : (Builtin.zeroCells z n).size = n * z.size := by simp [Builtin.zeroCells]

theorem run_append_fits {P : Program} {T T2 oty el : TypeId} {f : TypeInfo} {w : World} {ad : Option Addr} {len cap n : Nat} {e : List (List Dat)} {v : Value} {vs : List Value} (hu : P.underlying T = some (.slice el)) (hu2 : P.underlying T2 = some (.slice el))
    (hf : P.info? el = some f) (hfs : f.size = n) (hs : SrcOk w n e v vs) (hvs : vs.length = e.length * n) (h1 : ∀ u ∈ vs, u.oneCell' = true) (hc : len + e.length ≤ cap)
    (hb : ∀ a, ad = some a → ∃ b off arr aty, a = ⟨b, off, none⟩ ∧ w.heap[b]? = some (.cells arr aty (0, 0)) ∧ off + (len + e.length) * n ≤ arr.size) :
    ∃ w', (Builtin.append_ #[T, T2] oty #[.slice ad len cap, v]).run P w = .ok (.slice ad (len + e.length) cap) w' ∧
      (ad = none → w' = w) ∧ ∀ b off arr aty, ad = some ⟨b, off, none⟩ → w.heap[b]? = some (.cells arr aty (0, 0)) → w' = w.setRow b (patch arr.toList (off + len * n) vs).toArray := by
  have hsz : (Go.sizeOf el).run P w = .ok n w := by simp [Go.sizeOf, typeInfo, hf, hfs]
  have hlen : (Builtin.lenOf v).run P w = .ok e.length w := by
    rcases hs.form with ⟨rfl, rfl⟩ | ⟨a, c, rfl, _⟩ <;> simp [Builtin.lenOf]
  have hfc : (Builtin.firstCells n e.length v).run P w = .ok vs.toArray w := by
    rcases hs.form with ⟨rfl, rfl⟩ | ⟨a, c, rfl, hcell⟩
    · have : vs = [] := List.eq_nil_of_length_eq_zero (by simpa using hvs)
      subst this
      simp [Builtin.firstCells]
    · exact run_firstCells_some (P := P) w n e.length a _ c vs hvs hcell
  have hug : (underlying T).run P w = .ok (.slice el) w := by simp [Go.underlying, hu]
  have hug2 : (underlying T2).run P w = .ok (.slice el) w := by simp [Go.underlying, hu2]
  cases ad with
  | none =>
    refine ⟨w, ?_, fun _ => rfl, (fun b off arr aty hh => by cases hh)⟩
    simp [Builtin.append_, hug, hug2, hsz, hlen, hfc, hc]
  | some a =>
    obtain ⟨b, off, arr, aty, rfl, hbb, hsa⟩ := hb a rfl
    rw [Nat.add_mul] at hsa
    have hst := run_storeCells_at P b (off + len * n) aty vs 0 arr w hbb (by rw [hvs]; omega) h1
    simp only [Nat.add_zero, List.append_assoc] at hst
    refine ⟨w.setRow b (patch arr.toList (off + len * n) vs).toArray, ?_, (fun hh => by cases hh), fun b' off' arr' aty' hh hb' => ?_⟩
    · simp [Builtin.append_, hug, hug2, hsz, hlen, hfc, hc, add_plain, hst, patch]
    · injection hh with hh; injection hh with e1 e2 e3
      subst e1; subst e2
      rw [hbb] at hb'
      injection hb' with hb'; injection hb' with e4
      rw [e4]

theorem patch_end {arr : Array Value} {base k : Nat} {vs : List Value} (h : base + k + vs.length ≤ arr.size) : seg (patch arr.toList (base + k) vs).toArray base (k + vs.length) = seg arr base k ++ vs := by
  rw [seg_patch (by omega) (by omega)]
  simp only [patch]
  have hl : (seg arr base (k + vs.length)).length = k + vs.length := seg_length (by omega)
  rw [List.drop_of_length_le (by omega), List.append_nil]
  congr 1
  rw [seg_add, List.take_left' (seg_length (by omega))]

/-- append to a row of the call's own that is seen whole. -/
theorem w_append {c : Call} {T T2 el : TypeId} {s x : Operand} {k g len n ver : Nat} {es e : List (List Dat)} {dp : Bool} {y : VC} {G : List Nat} (hT : TabOk P tab) (ho : o.op = .call c)
    (hc : c = { callee := .builtin .append, args := #[s, x], argTypes := #[T, T2] }) (hk : (ty tab T).k = .sl el) (hk2 : (ty tab T2).k = .sl el) (hel : (ty tab el).ok = true) (hn : (ty tab el).sz = n)
    (hs : Ev t s ⟨false, [.sr k g 0 len len]⟩) (hh : h k = .row n es dp g ver) (hlen : es.length = len) (hx : Ev t x ⟨false, [y]⟩) (hy : Src h n y e G) (hG : G.Nodup) (hkG : k ∉ G) (hdp : dp = true ∨ G = [])
    (hb0 : 0 < (ty tab el).bytes) (hbig : (len + e.length) * (ty tab el).bytes ≤ 140737488355328) :
    Does P o ⟨t, h⟩ ⟨putT (t.map (eraseS G)) o.dst (.t ⟨false, [.sr k (g + 1) 0 (len + e.length) (len + e.length)]⟩), upd (letgo G h) k (.row n (es ++ e) dp (g + 1) (ver + 1))⟩ := by
  intro w0 M0 A0 a w Kc Q ⟨locs, RO, hg, hm⟩ hKc
  obtain ⟨⟨n', es', dp', g0, ver', hcc, hle, hone, hp⟩, _⟩ := Tmps.ev1 hm hs
  simp only [hh] at hcc
  injection hcc with a1 a2 a3 a4 a5
  subst a1
  obtain ⟨hvx, _⟩ := Tmps.ev1 hm hx
  obtain ⟨vs, F, hso, hr, hFn, hF⟩ := hy.sound hg hvx
  have hob := hg.obj k
  simp only [hh] at hob
  obtain ⟨hne, hobj⟩ := hob
  have hu := (hT T (by simp [TyI.ok, hk])).slice hk
  have hu2 := (hT T2 (by simp [TyI.ok, hk2])).slice hk2
  obtain ⟨f, d, h1, h2, h3, hby, _, z, hz, hzc, _⟩ := (hT el hel).ex
  have hzs : z.cells.size = n := by
    have := (zcells_reps (w := w) hzc).length
    simp only [Array.length_toList] at this
    rw [this, (hT el hel).zl, hn]
  have hfs : f.size = n := by rw [h3, hn]
  have hvs : vs.length = e.length * n := by rw [hr.length, flat_len hso.all]
  have hones := hr.oneCell
  have hall : ∀ x ∈ es ++ e, x.length = n := fun x hx => by rcases List.mem_append.1 hx with hx | hx; exact hne x hx; exact hso.all x hx
  have hGk : ∀ b ∈ F, b ∉ (locs k).foot := fun b hb hbk => by
    obtain ⟨l, hl, hbl⟩ := hF b hb
    exact hg.disj l k (fun e => hkG (e ▸ hl)) b hbl hbk
  have hF0 : dp = false → F = [] := fun hd0 => by
    rcases hdp with h1 | h1
    · rw [h1] at hd0; cases hd0
    · cases F with
      | nil => rfl
      | cons b F => obtain ⟨l, hl', _⟩ := hF b (by simp); rw [h1] at hl'; simp at hl'
  have hr' : Reps dp w e.flatten vs F := by
    cases dp with
    | true => exact hr
    | false => exact hr.ro
  have finish : ∀ (v : Value) (w' : World) (L' : Loc) (N : Nat → Prop), (Builtin.append_ #[T, T2] o.type #[a.eval s, a.eval x]).run P w = .ok v w' → Kept N w w' → (∀ b, N b → b ∈ (locs k).foot) →
      ObjOk w' RO (.row n (es ++ e) dp (g + 1) (ver + 1)) L' → L'.foot.Nodup → (∀ b ∈ L'.foot, w.heap.size ≤ b ∨ b ∈ (locs k).foot ∨ ∃ l ∈ G, b ∈ (locs l).foot) → v.oneCell' = true →
      SlRel L' n 0 (len + e.length) (len + e.length) v → o.wp P a w Kc Q := by
    intro v w' L' N hrun hkept hN hob' hnd hf hv1 hsl
    have ht := touch_row2 (K := G) hg hkG hh hkept hN hob' hnd hf
    have hrun' : (execOp a.eval o).run P w = .ok (.value v) w' := by
      subst hc
      simp [execOp, ho, resolve, invoke, builtin, hrun]
    refine wp_of_value hrun' (hKc _ _ ⟨_, RO, (hg.erase (K := G)).step ht, (Tmps.step hg.erase ht (Tmps.erase hm) fun _ => erase_clean).put _ (TRel.single.2 ⟨_, _, _, _, _, upd_same, Nat.le_refl _, hv1, fun _ => by rw [updL_same]; exact hsl⟩) ?_⟩)
    simp [Slot.refs, TV.refs, VC.refs, upd_same]
  have hneed : len + e.length ≤ 140737488355328 := Nat.le_trans (Nat.le_mul_of_pos_right _ hb0) hbig
  have hflat : (es ++ e).flatten = es.flatten ++ e.flatten := by simp
  rcases hp a4 with ⟨q1, q2, q3, q4⟩ | ⟨q1, cap, q2, q3, q4, q5⟩
  · -- nil
    have hes : es = [] := List.eq_nil_of_length_eq_zero (by omega)
    rcases Nat.eq_zero_or_pos e.length with he0 | he0
    · -- nothing is appended
      have hee : e = [] := List.eq_nil_of_length_eq_zero he0
      obtain ⟨w', hrun, hw', _⟩ := run_append_fits (oty := o.type) (ad := none) (len := 0) (cap := 0) hu hu2 h1 hfs hso hvs hones (by omega) (fun a hh => by cases hh)
      rw [hw' rfl] at hrun
      rw [he0] at hrun
      refine finish (.slice none 0 0) w ⟨true, (locs k).b, (locs k).base, (locs k).tot, []⟩ (fun _ => False) (by rw [q4]; simpa using hrun) (Kept.refl _ _) (fun _ h => h.elim) ⟨hall, .inl ⟨rfl, by simp [hes, hee], rfl⟩⟩ List.nodup_nil (by simp) rfl ?_
      exact .inl ⟨rfl, by omega, by omega, rfl⟩
    · obtain ⟨av, cv, hva, hcell⟩ : ∃ av cv, a.eval x = .slice (some av) e.length cv ∧ ∀ j u, vs[j]? = some u → w.cell? (av.add j) = some u := by
        rcases hso.form with ⟨_, hh⟩ | hh
        · simp [hh] at he0
        · exact hh
      have hTT : (Builtin.append_ #[T, T2] o.type #[.slice none 0 0, .slice (some av) e.length cv]).run P w = (Builtin.append_ #[T, T] o.type #[.slice none 0 0, .slice (some av) e.length cv]).run P w := by
        simp [Builtin.append_, Go.underlying, hu, hu2]
      have hrun := run_append_nil (P := P) w T o.type el f z hu h1 hz av e.length cv vs (by rw [hvs, hfs]) hcell he0 (by omega) (by rw [hby]; rw [q2, Nat.zero_add] at hbig; omega)
      have hgc : e.length ≤ grownCap w e.length 0 el := by simp only [grownCap, Question.cut]; omega
      have hal : (vs.toArray ++ Builtin.zeroCells z.cells (grownCap w e.length 0 el - e.length)).size = grownCap w e.length 0 el * n := by
        rw [Array.size_append, zeros_size, hzs]; simp only [List.size_toArray, hvs]; rw [← Nat.add_mul]; congr 1; omega
      have hsz : w.heap.size ∉ F := fun hb => by
        obtain ⟨l, _, hbl⟩ := hF _ hb
        exact Nat.lt_irrefl _ (hg.lt hbl)
      refine finish _ _ ⟨false, w.heap.size, 0, grownCap w e.length 0 el * n, if dp then w.heap.size :: F else [w.heap.size]⟩ (fun _ => False) (by rw [q4, hva, hTT]; exact hrun) (kept_drew (kept_alloc _ _)) (fun _ h => h.elim)
        ⟨hall, .inr ⟨rfl, _, el, F, heap_alloc_new, hal, ?_, ?_, fun hd => by simp [hd], fun hd => ⟨by simp [hd], by rw [hF0 hd]; simp⟩⟩⟩ ?_ ?_ rfl ?_
      · simp only [hes, List.nil_append]; rw [Nat.zero_add]; exact Nat.mul_le_mul_right n hgc
      · rw [hes, List.nil_append]
        have : seg (vs.toArray ++ Builtin.zeroCells z.cells (grownCap w e.length 0 el - e.length)) 0 (e.length * n) = vs := by
          rw [← hvs]
          simp only [seg, List.drop_zero, Array.toList_append, List.take_left]
        rw [this]
        exact hr'.frame fun b hb => heap_alloc_old (hr.lt b hb)
      · cases dp with
        | true => exact List.nodup_cons.2 ⟨hsz, hFn⟩
        | false => simp
      · intro b hb
        cases dp with
        | true =>
          rcases List.mem_cons.1 hb with rfl | hb
          · exact .inl (Nat.le_refl _)
          · exact .inr (.inr (hF b hb))
        | false => simp at hb; subst hb; exact .inl (Nat.le_refl _)
      · refine .inr ⟨rfl, grownCap w e.length 0 el, ?_, by omega, Nat.le_refl _, by simp⟩
        simp [q2]
  · rcases hobj with ⟨q6, _⟩ | ⟨_, arr, aty, Gr, hbl, hat, hbs, hrr, k1, k2⟩
    · rw [q1] at q6; cases q6
    simp only [Nat.zero_mul, Nat.add_zero] at q2 q5
    have hbf : (locs k).b ∈ (locs k).foot := by
      cases dp with
      | true => rw [k1 rfl]; simp
      | false => rw [(k2 rfl).1]; simp
    have hnb : ∀ b ∈ Gr, b ≠ (locs k).b := by
      intro b hb' e'
      subst e'
      cases dp with
      | true =>
        have := hg.nodup k
        rw [k1 rfl] at this
        exact (List.nodup_cons.1 this).1 hb'
      | false => exact hg.noro k _ hbf ((k2 rfl).2 _ hb')
    have hGrk : dp = true → ∀ b ∈ Gr, b ∈ (locs k).foot := fun hd b hb => by rw [k1 hd]; simp [hb]
    have hnd : ∀ nb, nb ∉ Gr → nb ∉ F → (if dp then nb :: (Gr ++ F) else [nb]).Nodup := by
      intro nb n1 n2
      cases dp with
      | false => simp
      | true =>
        have hgn := hg.nodup k
        rw [k1 rfl] at hgn
        refine List.nodup_cons.2 ⟨by simp [n1, n2], List.nodup_append.2 ⟨(List.nodup_cons.1 hgn).2, hFn, fun b hb c hc e => ?_⟩⟩
        subst e
        exact hGk b hc (hGrk rfl b hb)
    by_cases hfit : len + e.length ≤ cap
    · -- in place
      have hmul : (len + e.length) * n ≤ cap * n := Nat.mul_le_mul_right n hfit
      obtain ⟨w', hrun, _, hw'⟩ := run_append_fits (oty := o.type) (ad := some ⟨(locs k).b, (locs k).base, none⟩) (len := len) (cap := cap) hu hu2 h1 hfs hso hvs hones hfit
        (fun a hh => by injection hh with hh; subst hh; exact ⟨_, _, arr, aty, rfl, hbl, by omega⟩)
      have hw2 := hw' _ _ arr aty rfl hbl
      subst hw2
      have hfr : ∀ b, b ≠ (locs k).b → (w.setRow (locs k).b (patch arr.toList ((locs k).base + len * n) vs).toArray).heap[b]? = w.heap[b]? := fun b hb => setRow_other hb
      have hpl : (patch arr.toList ((locs k).base + len * n) vs).length = arr.size := by
        rw [Nat.add_mul] at hmul
        rw [patch_length (by simp [hvs]; omega)]; simp
      refine finish _ _ ⟨false, (locs k).b, (locs k).base, (locs k).tot, if dp then (locs k).b :: (Gr ++ F) else [(locs k).b]⟩ (· = (locs k).b) (by rw [q2]; exact hrun) kept_setRow (fun b hb => by rw [hb]; exact hbf)
        ⟨hall, .inr ⟨rfl, _, aty, Gr ++ F, setRow_same hbl, by simp [hpl, hat], ?_, ?_, fun hd => by simp [hd], fun hd => ⟨by simp [hd], fun b hb => ?_⟩⟩⟩ (hnd _ (fun hb => hnb _ hb rfl) (fun hb => hGk _ hb hbf)) ?_ rfl ?_
      · simp only [List.length_append, hlen]; omega
      · revert hfr
        generalize hw3 : w.setRow (locs k).b (patch arr.toList ((locs k).base + len * n) vs).toArray = w3
        intro hfr
        rw [hflat, List.length_append, hlen, Nat.add_mul, ← hvs, patch_end (by rw [Nat.add_mul] at hmul; omega)]
        rw [hlen] at hrr
        exact (hrr.frame fun b hb => hfr b (hnb b hb)).append (hr'.frame fun b hb => hfr b fun e => hGk b hb (e ▸ hbf))
      · rw [hF0 hd, List.append_nil] at hb
        exact (k2 hd).2 b hb
      · intro b hb
        cases dp with
        | false => simp at hb; subst hb; exact .inr (.inl hbf)
        | true =>
          rcases List.mem_cons.1 hb with rfl | hb
          · exact .inr (.inl hbf)
          · rcases List.mem_append.1 hb with hb | hb
            · exact .inr (.inl (hGrk rfl b hb))
            · exact .inr (.inr (hF b hb))
      · exact .inr ⟨rfl, cap, by simp, hfit, Nat.le_refl _, by simpa using q5⟩
    · -- a new block
      have he0 : 0 < e.length := by omega
      obtain ⟨av, cv, hva, hcell⟩ : ∃ av cv, a.eval x = .slice (some av) e.length cv ∧ ∀ j u, vs[j]? = some u → w.cell? (av.add j) = some u := by
        rcases hso.form with ⟨_, hh⟩ | hh
        · simp [hh] at he0
        · exact hh
      have hTT : (Builtin.append_ #[T, T2] o.type #[.slice (some ⟨(locs k).b, (locs k).base, none⟩) len cap, .slice (some av) e.length cv]).run P w =
          (Builtin.append_ #[T, T] o.type #[.slice (some ⟨(locs k).b, (locs k).base, none⟩) len cap, .slice (some av) e.length cv]).run P w := by
        simp [Builtin.append_, Go.underlying, hu, hu2]
      rw [hlen] at hrr hbs
      have hol : (seg arr (locs k).base (len * n)).length = len * f.size := by rw [seg_length (by omega), hfs]
      have hrun := run_append_grow (P := P) w T o.type el f z hu h1 hz ⟨(locs k).b, (locs k).base, none⟩ len cap (seg arr (locs k).base (len * n)) hol
        (fun j u hj => by
          have hj' : j < len * n := by
            have := (List.getElem?_eq_some_iff.1 hj).1
            rw [hol, hfs] at this; exact this
          rw [seg_get hj'] at hj
          rw [add_plain, cell_block hbl]; exact hj)
        av e.length cv vs (by rw [hvs, hfs]) hcell (by omega) (by omega) (growslice_fits (by omega) (by rw [hby]; exact hbig))
      have hgc : len + e.length ≤ grownCap w (len + e.length) cap el := by simp only [grownCap, Question.cut]; omega
      have hal : ((seg arr (locs k).base (len * n)).toArray ++ vs.toArray ++ Builtin.zeroCells z.cells (grownCap w (len + e.length) cap el - (len + e.length))).size = grownCap w (len + e.length) cap el * n := by
        rw [Array.size_append, Array.size_append, zeros_size, hzs]
        simp only [List.size_toArray, hvs, hol, hfs]
        rw [← Nat.add_mul, ← Nat.add_mul]; congr 1; omega
      have hsz : w.heap.size ∉ F := fun hb => by
        obtain ⟨l, _, hbl⟩ := hF _ hb
        exact Nat.lt_irrefl _ (hg.lt hbl)
      have hsz2 : w.heap.size ∉ Gr := fun hb => Nat.lt_irrefl _ (hrr.lt _ hb)
      refine finish _ _ ⟨false, w.heap.size, 0, grownCap w (len + e.length) cap el * n, if dp then w.heap.size :: (Gr ++ F) else [w.heap.size]⟩ (fun _ => False) (by rw [q2, hva, hTT]; exact hrun) (kept_drew (kept_alloc _ _)) (fun _ h => h.elim)
        ⟨hall, .inr ⟨rfl, _, el, Gr ++ F, heap_alloc_new, hal, ?_, ?_, fun hd => by simp [hd], fun hd => ⟨by simp [hd], fun b hb => ?_⟩⟩⟩ (hnd _ hsz2 hsz) ?_ rfl ?_
      · simp only [List.length_append, hlen, Nat.zero_add]; exact Nat.mul_le_mul_right n hgc
      · rw [hflat, List.length_append, hlen]
        have : seg ((seg arr (locs k).base (len * n)).toArray ++ vs.toArray ++ Builtin.zeroCells z.cells (grownCap w (len + e.length) cap el - (len + e.length))) 0 ((len + e.length) * n) = seg arr (locs k).base (len * n) ++ vs := by
          have hl2 : (seg arr (locs k).base (len * n) ++ vs).length = (len + e.length) * n := by rw [List.length_append, hol, hfs, hvs, Nat.add_mul]
          rw [← hl2]
          simp only [seg, List.drop_zero, Array.toList_append, List.take_left]
        rw [this]
        exact (hrr.frame (w' := w.drew.alloc _) fun b hb => heap_alloc_old (w := w.drew) (hrr.lt b hb)).append (hr'.frame fun b hb => heap_alloc_old (w := w.drew) (hr.lt b hb))
      · rw [hF0 hd, List.append_nil] at hb
        exact (k2 hd).2 b hb
      · intro b hb
        cases dp with
        | false => simp at hb; subst hb; exact .inl (Nat.le_refl _)
        | true =>
          rcases List.mem_cons.1 hb with rfl | hb
          · exact .inl (Nat.le_refl _)
          · rcases List.mem_append.1 hb with hb | hb
            · exact .inr (.inl (hGrk rfl b hb))
            · exact .inr (.inr (hF b hb))
      · exact .inr ⟨rfl, _, by simp; rfl, by omega, Nat.le_refl _, by simp⟩
end

end Go.Proofs.YtglilpigoocgeaaGreatDoor.V
namespace Go.Proofs.YtglilpigoocgeaaGreatDoor.V
open Go
set_option linter.unusedVariables false
set_option linter.unusedSimpArgs false

theorem made_seg (z : Array Value) (l c : Nat) (hl : l ≤ c) : seg ((Array.range (c * z.size)).map (z[· % z.size]!)) 0 (l * z.size) = (List.replicate l z.toList).flatten := by
  have hall : ∀ e ∈ List.replicate l z.toList, e.length = z.size := fun e he => by rw [(List.mem_replicate.1 he).2]; simp
  have hfl : ((List.replicate l z.toList).flatten).length = l * z.size := by rw [flat_len hall]; simp
  have hmul : l * z.size ≤ c * z.size := Nat.mul_le_mul_right _ hl
  apply List.ext_getElem?
  intro q
  by_cases hq : q < l * z.size
  · have hs : 0 < z.size := by rcases Nat.eq_zero_or_pos z.size with h | h; simp [h] at hq; exact h
    have h1 : q / z.size < l := (Nat.div_lt_iff_lt_mul hs).2 hq
    have h2 : q % z.size < z.size := Nat.mod_lt _ hs
    have h3 : q / z.size * z.size + q % z.size = q := by rw [Nat.mul_comm]; exact Nat.div_add_mod q z.size
    rw [seg_get hq, Nat.zero_add]
    conv => rhs; rw [← h3]
    rw [flat_get (i := q / z.size) (j := q % z.size) (e := z.toList) hall (by simp [h1]) h2]
    have h4 : q < c * z.size := by omega
    simp [h4, h2]
  · rw [List.getElem?_eq_none (by simp only [seg, List.length_take]; omega), List.getElem?_eq_none (by omega)]

theorem zrep_reps {w : World} {zs : List Dat} {vs : List Value} (hz : zcells zs vs = true) : ∀ (l : Nat), Reps true w (List.replicate l zs).flatten (List.replicate l vs).flatten []
  | 0 => .nil
  | l + 1 => by
    have := (zcells_reps (w := w) hz).append (zrep_reps hz l)
    simpa [List.replicate_succ] using this

section
variable {P : Program} {o : Oper} {t : List Slot} {h : Heap} {tab : List TyI}

theorem r_mkslice {T el : TypeId} {x y : Operand} {k l c : Nat} (hT : TabOk P tab) (ho : o.op = .makeSlice T x y) (hk : (ty tab T).k = .sl el) (hel : (ty tab el).ok = true) (hx : Ev t x ⟨false, [.d (.lf (.int .i64 (l : Int)))]⟩)
    (hy : Ev t y ⟨false, [.d (.lf (.int .i64 (c : Int)))]⟩) (hlc : l ≤ c) (hb0 : 0 < (ty tab el).bytes) (hz0 : 0 < (ty tab el).sz) (hbig : c * (ty tab el).bytes ≤ 281474976710656) (hg : h k = .gone) :
    DoesR P o t h (.t ⟨false, [.sr k 1 0 l l]⟩) [(k, .row (ty tab el).sz (List.replicate l (ty tab el).zero) true 1 0)] := by
  intro w0 M0 A0 locs RO a w hgd hm K Q hK
  obtain ⟨e1, _⟩ := hm.evlf hx
  obtain ⟨e2, _⟩ := hm.evlf hy
  obtain ⟨f, d, h1, h2, h3, hby, _, z, hz, hzc, _⟩ := (hT el hel).ex
  have hu := (hT T (by simp [TyI.ok, hk])).slice hk
  have hsz := (hT el hel).sizeOf w
  have hzs : z.cells.size = (ty tab el).sz := by
    have := (zcells_reps (w := w) hzc).length
    simp only [Array.length_toList] at this
    rw [this, (hT el hel).zl]
  have hc : c ≤ 281474976710656 := Nat.le_trans (Nat.le_mul_of_pos_right _ hb0) hbig
  have hrun0 := run_make (P := P) w T el f z hu h1 hz .i64 .i64 (l : Int) (c : Int) (by omega) (by omega) (by
    rw [hby]
    have h5 : ((ty tab el).bytes * c : Nat) ≤ 281474976710656 := by rw [Nat.mul_comm]; exact hbig
    have h7 : (((ty tab el).bytes * c : Nat) : Int) ≤ 281474976710656 := by omega
    rw [Int.natCast_mul] at h7
    exact h7) (by omega)
  have hrun : (execOp a.eval o).run P w = .ok (.value (.slice (some ⟨w.heap.size, 0, none⟩) l c)) (w.alloc (.cells ((Array.range (c * z.cells.size)).map (z.cells[· % z.cells.size]!)) el)) := by
    have h6 : f.size = z.cells.size := by rw [h3, hzs]
    rw [Int.toNat_natCast, Int.toNat_natCast, h6] at hrun0
    unfold madeCells at hrun0
    have key : execOp a.eval o = (do let v ← Instr.makeSlice T (.int .i64 (l : Int)) (.int .i64 (c : Int)); pure (.value v)) := by simp only [execOp, ho, e1, e2]
    rw [key, Sem.run_bind, hrun0]
    rfl
  have hob : ObjOk (w.alloc (.cells ((Array.range (c * z.cells.size)).map (z.cells[· % z.cells.size]!)) el)) RO (.row (ty tab el).sz (List.replicate l (ty tab el).zero) true 1 0) ⟨false, w.heap.size, 0, c * z.cells.size, [w.heap.size]⟩ := by
    refine ⟨fun e he => by rw [(List.mem_replicate.1 he).2]; exact (hT el hel).zl, .inr ⟨rfl, _, el, [], heap_alloc_new, by simp, ?_, ?_, fun _ => rfl, by simp⟩⟩
    · simp only [List.length_replicate, Nat.zero_add, hzs]; exact Nat.mul_le_mul_right _ hlc
    · rw [List.length_replicate, ← hzs, made_seg z.cells l c hlc]
      exact zrep_reps hzc l
  have ht := touch_row hgd hg (kept_alloc w (.cells ((Array.range (c * z.cells.size)).map (z.cells[· % z.cells.size]!)) el)) hob ⟨_, _, _, _, _, rfl⟩ (by simp) (by simp)
  refine wp_of_value hrun (hK _ _ (updL locs k ⟨false, w.heap.size, 0, c * z.cells.size, [w.heap.size]⟩) ?_ ?_ ?_)
  · simpa [updAll] using ht
  · refine TRel.single.2 ⟨_, _, _, _, _, upd_same, Nat.le_refl _, rfl, fun _ => .inr ⟨by rw [updL_same], c, ?_, hlc, Nat.le_refl _, ?_⟩⟩
    · rw [updL_same]; simp
    · rw [updL_same]; simp [hzs]
  · simp [Slot.refs, TV.refs, VC.refs, updAll, upd_same]

/-- Bytes as a string. -/
theorem y_bstr {T T2 el : TypeId} {x : Operand} {k g len room ver : Nat} {es : List (List Dat)} {dp : Bool} {bs : List Int} (hT : TabOk P tab) (ho : o.op = .convert T T2 x) (hk : (ty tab T).k = .sl el) (hk2 : (ty tab T2).k = .str)
    (hu8 : P.underlying el = some (.int .u8)) (hx : Ev t x ⟨false, [.sr k g 0 len room]⟩) (hh : h k = .row 1 es dp g ver) (hlen : es.length = len) (hes : es = bs.map fun b => [.lf (.int .u8 b)]) :
    Yield P o t h (.t ⟨false, [.d (.lf (.string (strOfNums bs)))]⟩) := by
  intro w0 M0 A0 locs RO a w hg hm
  obtain ⟨⟨n', es', dp', g0, ver', hc, hle, hone, hp⟩, hl⟩ := hm.ev1 hx
  rw [hh] at hc
  injection hc with a1 a2 a3 a4 a5
  have hu := (hT T (by simp [TyI.ok, hk])).slice hk
  have hu2 := (hT T2 (by simp [TyI.ok, hk2])).string hk2
  have hob := hg.obj k
  rw [hh] at hob
  obtain ⟨F, hr, _⟩ := view_reps hob (hg.nodup k) (by rw [a1]; exact hp a4) (by omega : 0 + len ≤ es.length)
  rw [List.drop_zero, ← hlen, List.take_length] at hr
  have hbl : bs.length = es.length := by rw [hes]; simp
  have hrun : (convert T T2 (a.eval x)).run P w = .ok (.string (strOfNums bs)) w := by
    generalize a.eval x = v at hr
    cases hr with
    | nl r =>
      have : bs = [] := List.eq_nil_of_length_eq_zero (by simpa using hbl)
      subst this
      rw [run_convert_bytes_nil w T el hu hu8 0 0 T2 hu2]
      rfl
    | em h r =>
      have hb0 : bs = [] := List.eq_nil_of_length_eq_zero (by simpa using hbl)
      subst hb0
      have hl := run_loadCells_list (P := P) w (by assumption) [] (fun j v hj => by simp at hj)
      rw [run_convert_bytes_string w T T2 el _ _ _ hu hu8 hu2, run_bytesToString w _ 0 _ [] (by simpa using hl)]
      rfl
    | sl hb hcc he hs hw gg r =>
      rename_i arr _ off _ _ _ _ _
      refine run_convert_bytes_arg w T el hu hu8 _ _ _ _ bs hbl (fun i hi => ?_) T2 hu2
      have hfl : es.flatten[i]? = some (.lf (.int .u8 (bs.getD i 0))) := by
        have : es[i]? = some [.lf (.int .u8 (bs.getD i 0))] := by
          rw [hes, List.getElem?_map, List.getD_eq_getElem?_getD]
          have : i < bs.length := by omega
          simp [this]
        have h2 := flat_get (n := 1) (j := 0) he this (by omega)
        simpa using h2
      obtain ⟨u, G, hu, hrr, _⟩ := gg.one hfl
      rw [seg_get (by omega)] at hu
      obtain ⟨rfl, _⟩ := reps_one_lf hrr
      rw [cell_block hb]; exact hu
  refine ⟨_, ?_, TRel.single.2 (vrel_lf rfl), by simp [Slot.refs, TV.refs, VC.refs]⟩
  simp [execOp, ho, hrun]

theorem Len.some {w : World} {locs : Locs} {RO : Nat → Prop} {x : VC} {k : Nat} {v : Value} (hl : Len h x k) (hv : VRel locs h w RO x v) (h0 : 0 < k) : ∃ ad c, v = .slice (some ad) k c := by
  cases hl with
  | sr hh =>
    obtain ⟨n, es, dp, g0, ver, hc, hle, hone, hp⟩ := hv
    rw [hh] at hc
    injection hc with a1 a2 a3 a4 a5
    rcases hp a4 with ⟨_, e1, _, e2⟩ | ⟨_, cap, e, _⟩
    · omega
    · exact ⟨_, _, e⟩
  | d =>
    obtain ⟨F, hr, _⟩ := hv
    cases hr with
    | nl r => simp at h0
    | em h r => simp at h0
    | sl hb hc he hs hw g r => exact ⟨_, _, rfl⟩
  | nl => omega

theorem nil_run {op : BinOp} {T T2 e : TypeId} {x : Operand} {a : Act} {w : World} {ad : Option Addr} {n c : Nat} (ho : o.op = .binOp op T x (.const (.slice none 0 0)) T2) (hop : op = .eql ∨ op = .neq) (hu : P.underlying T = some (.slice e))
    (hx : a.eval x = .slice ad n c) : (execOp a.eval o).run P w = .ok (.value (.bool (match op with | .eql => ad.isNone | _ => !ad.isNone))) w := by
  have hnil : a.eval (.const (.slice none 0 0)) = .slice none 0 0 := rfl
  have hgd : ∀ op y, (eqGuard op T x y (.slice ad n c) (.slice none 0 0)).run P w = .ok () w := fun op y => by cases op <;> rfl
  have key : execOp a.eval o = (do let v ← (do eqGuard op T x (.const (.slice none 0 0)) (.slice ad n c) (.slice none 0 0); binOp op T (.slice ad n c) (.slice none 0 0)); pure (.value v)) := by
    simp only [execOp, ho, hx, hnil]
  rw [key, Sem.run_bind, Sem.run_bind, hgd]
  simp only [Result.andThen_ok]
  rcases hop with rfl | rfl
  · rw [Lib.run_eql_slice_nil w T e ad n c 0 0 hu]; rfl
  · rw [run_neq_slice_nil_any w T e ad n c 0 0 hu]; rfl

/-- A slice held against nil: of an empty one it is open. -/
theorem y_nil {op : BinOp} {T T2 e : TypeId} {x : Operand} {y : VC} {n : Nat} (hT : TabOk P tab) (ho : o.op = .binOp op T x (.const (.slice none 0 0)) T2) (hop : op = .eql ∨ op = .neq) (hk : (ty tab T).k = .sl e)
    (hx : Ev t x ⟨false, [y]⟩) (hl : Len h y n) : Yield P o t h (.t ⟨false, [.unk]⟩) := by
  intro w0 M0 A0 locs RO a w hg hm
  obtain ⟨ad, cc, e1⟩ := hl.val (hm.ev1 hx).1
  have hu := (hT T (by simp [TyI.ok, hk])).slice hk
  exact ⟨_, nil_run ho hop hu e1, TRel.single.2 ⟨_, rfl⟩, by simp [Slot.refs, TV.refs, VC.refs]⟩

theorem y_nilne {op : BinOp} {T T2 e : TypeId} {x : Operand} {y : VC} {n : Nat} (hT : TabOk P tab) (ho : o.op = .binOp op T x (.const (.slice none 0 0)) T2) (hop : op = .eql ∨ op = .neq) (hk : (ty tab T).k = .sl e)
    (hx : Ev t x ⟨false, [y]⟩) (hl : Len h y n) (h0 : 0 < n) : Yield P o t h (.t ⟨false, [.d (.lf (.bool (match op with | .eql => false | _ => true)))]⟩) := by
  intro w0 M0 A0 locs RO a w hg hm
  obtain ⟨ad, cc, e1⟩ := hl.some (hm.ev1 hx).1 h0
  have hu := (hT T (by simp [TyI.ok, hk])).slice hk
  have hr := nil_run (P := P) (w := w) ho hop hu e1
  refine ⟨_, hr, TRel.single.2 ?_, by simp [Slot.refs, TV.refs, VC.refs]⟩
  rcases hop with rfl | rfl <;> exact vrel_lf rfl
end

end Go.Proofs.YtglilpigoocgeaaGreatDoor.V
