/-
  Data trees of Go values and what it says that memory shows them: 'Reps', with the blocks through which it is shown, and its lemmas (frame, append, split).
-/
import Derived.Orders
import Derived.Laws.World
import Derived.Laws.Sem
namespace Go.Proofs.Ytkcpbahcnlhmjaa.V
open Go
set_option linter.unusedVariables false

/-- A datum: a scalar; a slice of elements, each some cells ('n' cells an element; nil and empty alike); a pointer to a whole variable; a function value; what has been moved away. -/
inductive Dat where
  | lf (v : Value)
  | sl (n : Nat) (es : List (List Dat))
  | pt (cells : List Dat)
  | cl (f : FuncId) (caps : List Dat)
  | hole
  deriving Inhabited

/-- A scalar: a value of one cell without an address. -/
def sca : Value → Bool
  | .bool _ | .int _ _ | .string _ | .pointer none | .nilFunc | .slice none 0 0 => true
  | _ => false

/-- 'k' cells from 'off' on. -/
def seg (arr : Array Value) (off k : Nat) : List Value := (arr.toList.drop off).take k

theorem seg_length {arr : Array Value} {off k : Nat} (h : off + k ≤ arr.size) : (seg arr off k).length = k := by
  simp only [seg, List.length_take, List.length_drop, Array.length_toList]; omega

theorem seg_get {arr : Array Value} {off k i : Nat} (h : i < k) : (seg arr off k)[i]? = arr[off + i]? := by
  simp only [seg, List.getElem?_take, if_pos h, List.getElem?_drop, Array.getElem?_toList]

theorem seg_eq_of {arr brr : Array Value} {off off' k : Nat} (h : ∀ i, i < k → arr[off + i]? = brr[off' + i]?) : seg arr off k = seg brr off' k := by
  apply List.ext_getElem?
  intro i
  by_cases hi : i < k
  · rw [seg_get hi, seg_get hi]; exact h i hi
  · simp only [seg, List.getElem?_take, if_neg hi]

theorem seg_add {arr : Array Value} {off k l : Nat} : seg arr off (k + l) = seg arr off k ++ seg arr (off + k) l := by
  simp only [seg, List.take_add, List.drop_drop]

theorem seg_seg {arr : Array Value} {off k a l : Nat} (h : a + l ≤ k) : ((seg arr off k).drop a).take l = seg arr (off + a) l := by
  apply List.ext_getElem?
  intro i
  by_cases hi : i < l
  · rw [seg_get hi, List.getElem?_take, if_pos hi, List.getElem?_drop, seg_get (by omega), Nat.add_assoc]
  · rw [List.getElem?_take, if_neg hi]; simp only [seg, List.getElem?_take, if_neg hi]

theorem seg_zero {arr : Array Value} {off : Nat} : seg arr off 0 = [] := by simp [seg]

theorem seg_all {arr : Array Value} : seg arr 0 arr.size = arr.toList := by
  simp only [seg, List.drop_zero, ← Array.length_toList, List.take_length]

/-- The values 'vs' show the data 'ds' in the world 'w', through the blocks of the list. 'wr': what is shown may be written and appended to. -/
inductive Reps (wr : Bool) (w : World) : List Dat → List Value → List Nat → Prop
  | nil : Reps wr w [] [] []
  | lf {v : Value} {ds : List Dat} {vs : List Value} {F : List Nat} (h : sca v = true) (r : Reps wr w ds vs F) : Reps wr w (.lf v :: ds) (v :: vs) F
  | nl {n : Nat} {ds : List Dat} {vs : List Value} {F : List Nat} (r : Reps wr w ds vs F) : Reps wr w (.sl n [] :: ds) (.slice none 0 0 :: vs) F
  | sl {n : Nat} {es : List (List Dat)} {ds : List Dat} {vs : List Value} {F G : List Nat} {b off cap : Nat} {arr : Array Value} {ty : TypeId} {fr : Nat × Nat}
      (hb : w.heap[b]? = some (.cells arr ty fr)) (hc : es.length ≤ cap) (he : ∀ e ∈ es, e.length = n) (hs : off + es.length * n ≤ arr.size)
      (hw : wr = true → fr = (0, 0) ∧ off + cap * n ≤ arr.size)
      (g : Reps wr w es.flatten (seg arr off (es.length * n)) G) (r : Reps wr w ds vs F) :
      Reps wr w (.sl n es :: ds) (.slice (some ⟨b, off, none⟩) es.length cap :: vs) (b :: (G ++ F))
  | pt {cells ds : List Dat} {vs : List Value} {F G : List Nat} {b off : Nat} {arr : Array Value} {ty : TypeId} {fr : Nat × Nat}
      (hb : w.heap[b]? = some (.cells arr ty fr)) (hs : off + cells.length ≤ arr.size)
      (hw : wr = true → fr = (0, 0) ∧ off = 0 ∧ arr.size = cells.length)
      (g : Reps wr w cells (seg arr off cells.length) G) (r : Reps wr w ds vs F) :
      Reps wr w (.pt cells :: ds) (.pointer (some ⟨b, off, none⟩) :: vs) (b :: (G ++ F))
  | cl {f : FuncId} {caps ds : List Dat} {vs cs : List Value} {F G : List Nat} (g : Reps wr w caps cs G) (r : Reps wr w ds vs F) :
      Reps wr w (.cl f caps :: ds) (.func (.func f) #[] cs.toArray :: vs) (G ++ F)
  | hole {v : Value} {ds : List Dat} {vs : List Value} {F : List Nat} (h : v.oneCell' = true) (r : Reps wr w ds vs F) : Reps wr w (.hole :: ds) (v :: vs) F
  | em {n : Nat} {a : Addr} {c : Nat} {ds : List Dat} {vs : List Value} {F : List Nat} (h : wr = false) (r : Reps wr w ds vs F) : Reps wr w (.sl n [] :: ds) (.slice (some a) 0 c :: vs) F

section
variable {wr : Bool} {w w' : World} {ds ds' : List Dat} {vs vs' : List Value} {F F' : List Nat}

theorem Reps.frame (h : Reps wr w ds vs F) (hf : ∀ b ∈ F, w'.heap[b]? = w.heap[b]?) : Reps wr w' ds vs F := by
  induction h with
  | nil => exact .nil
  | lf h _ ih => exact .lf h (ih hf)
  | nl _ ih => exact .nl (ih hf)
  | sl hb hc he hs hw _ _ ihg ihr =>
    exact .sl (by rw [hf _ (by simp)]; exact hb) hc he hs hw (ihg fun b hb => hf b (by simp [hb])) (ihr fun b hb => hf b (by simp [hb]))
  | pt hb hs hw _ _ ihg ihr =>
    exact .pt (by rw [hf _ (by simp)]; exact hb) hs hw (ihg fun b hb => hf b (by simp [hb])) (ihr fun b hb => hf b (by simp [hb]))
  | cl _ _ ihg ihr => exact .cl (ihg fun b hb => hf b (by simp [hb])) (ihr fun b hb => hf b (by simp [hb]))
  | hole h _ ih => exact .hole h (ih hf)
  | em h _ ih => exact .em h (ih hf)

theorem Reps.ro (h : Reps wr w ds vs F) : Reps false w ds vs F := by
  induction h with
  | nil => exact .nil
  | lf h _ ih => exact .lf h ih
  | nl _ ih => exact .nl ih
  | sl hb hc he hs hw _ _ ihg ihr => exact .sl hb hc he hs (by simp) ihg ihr
  | pt hb hs hw _ _ ihg ihr => exact .pt hb hs (by simp) ihg ihr
  | cl _ _ ihg ihr => exact .cl ihg ihr
  | hole h _ ih => exact .hole h ih
  | em h _ ih => exact .em rfl ih

theorem Reps.length (h : Reps wr w ds vs F) : vs.length = ds.length := by
  induction h <;> simp_all

theorem Reps.lt (h : Reps wr w ds vs F) : ∀ b ∈ F, b < w.heap.size := by
  induction h with
  | nil => simp
  | lf _ _ ih => exact ih
  | nl _ ih => exact ih
  | sl hb hc he hs hw _ _ ihg ihr =>
    intro b h
    simp only [List.mem_cons, List.mem_append] at h
    rcases h with rfl | h | h
    · exact (Array.getElem?_eq_some_iff.1 hb).1
    · exact ihg b h
    · exact ihr b h
  | pt hb hs hw _ _ ihg ihr =>
    intro b h
    simp only [List.mem_cons, List.mem_append] at h
    rcases h with rfl | h | h
    · exact (Array.getElem?_eq_some_iff.1 hb).1
    · exact ihg b h
    · exact ihr b h
  | cl _ _ ihg ihr =>
    intro b h
    simp only [List.mem_append] at h
    rcases h with h | h
    · exact ihg b h
    · exact ihr b h
  | hole _ _ ih => exact ih
  | em _ _ ih => exact ih

theorem Reps.append (h : Reps wr w ds vs F) (h' : Reps wr w ds' vs' F') : Reps wr w (ds ++ ds') (vs ++ vs') (F ++ F') := by
  induction h with
  | nil => exact h'
  | lf h _ ih => exact .lf h ih
  | nl _ ih => exact .nl ih
  | sl hb hc he hs hw g _ _ ihr => simp only [List.cons_append, List.append_assoc]; exact .sl hb hc he hs hw g ihr
  | pt hb hs hw g _ _ ihr => simp only [List.cons_append, List.append_assoc]; exact .pt hb hs hw g ihr
  | cl g _ _ ihr => simp only [List.cons_append, List.append_assoc]; exact .cl g ihr
  | hole h _ ih => exact .hole h ih
  | em h _ ih => exact .em h ih

theorem Reps.split : ∀ {ds : List Dat} {vs : List Value} {F : List Nat}, Reps wr w (ds ++ ds') vs F →
    ∃ vs1 vs2 F1 F2, vs = vs1 ++ vs2 ∧ F = F1 ++ F2 ∧ Reps wr w ds vs1 F1 ∧ Reps wr w ds' vs2 F2
  | [], vs, F, h => ⟨[], vs, [], F, rfl, rfl, .nil, h⟩
  | d :: ds, vs, F, h => by
    rw [List.cons_append] at h
    cases h with
    | lf h r => obtain ⟨v1, v2, F1, F2, rfl, rfl, h1, h2⟩ := r.split; exact ⟨_ :: v1, v2, F1, F2, rfl, rfl, .lf h h1, h2⟩
    | nl r => obtain ⟨v1, v2, F1, F2, rfl, rfl, h1, h2⟩ := r.split; exact ⟨_ :: v1, v2, F1, F2, rfl, rfl, .nl h1, h2⟩
    | sl hb hc he hs hw g r =>
      obtain ⟨v1, v2, F1, F2, rfl, rfl, h1, h2⟩ := r.split
      exact ⟨_ :: v1, v2, _, F2, rfl, by simp, .sl hb hc he hs hw g h1, h2⟩
    | pt hb hs hw g r =>
      obtain ⟨v1, v2, F1, F2, rfl, rfl, h1, h2⟩ := r.split
      exact ⟨_ :: v1, v2, _, F2, rfl, by simp, .pt hb hs hw g h1, h2⟩
    | cl g r =>
      obtain ⟨v1, v2, F1, F2, rfl, rfl, h1, h2⟩ := r.split
      exact ⟨_ :: v1, v2, _, F2, rfl, by simp, .cl g h1, h2⟩
    | hole h r => obtain ⟨v1, v2, F1, F2, rfl, rfl, h1, h2⟩ := r.split; exact ⟨_ :: v1, v2, F1, F2, rfl, rfl, .hole h h1, h2⟩
    | em h r => obtain ⟨v1, v2, F1, F2, rfl, rfl, h1, h2⟩ := r.split; exact ⟨_ :: v1, v2, F1, F2, rfl, rfl, .em h h1, h2⟩

theorem take_drop_of {α : Type} {v1 v2 : List α} {k : Nat} (h : v1.length = min k (v1 ++ v2).length) : (v1 ++ v2).take k = v1 ∧ (v1 ++ v2).drop k = v2 := by
  rcases Nat.le_total k (v1 ++ v2).length with hk | hk
  · rw [Nat.min_eq_left hk] at h
    subst h
    exact ⟨List.take_left, List.drop_left⟩
  · rw [Nat.min_eq_right hk, List.length_append] at h
    have e2 : v2 = [] := List.eq_nil_of_length_eq_zero (by omega)
    subst e2
    simp only [List.append_nil] at hk ⊢
    exact ⟨List.take_of_length_le hk, List.drop_of_length_le hk⟩

/-- Some of the data in the middle. -/
theorem Reps.part {k l : Nat} (h : Reps wr w ds vs F) : ∃ F1 F2 F3, F = F1 ++ (F2 ++ F3) ∧ Reps wr w (ds.take k) (vs.take k) F1 ∧
    Reps wr w ((ds.drop k).take l) ((vs.drop k).take l) F2 ∧ Reps wr w ((ds.drop k).drop l) ((vs.drop k).drop l) F3 := by
  have hl := h.length
  rw [← List.take_append_drop k ds] at h
  obtain ⟨v1, v23, F1, F23, rfl, rfl, h1, h23⟩ := h.split
  have l1 := h1.length
  have l23 := h23.length
  obtain ⟨e1, e23⟩ := take_drop_of (v1 := v1) (v2 := v23) (k := k) (by rw [l1, hl, List.length_take])
  rw [e1, e23]
  rw [← List.take_append_drop l (ds.drop k)] at h23
  obtain ⟨v2, v3, F2, F3, rfl, rfl, h2, h3⟩ := h23.split
  obtain ⟨e2, e3⟩ := take_drop_of (v1 := v2) (v2 := v3) (k := l) (by rw [h2.length, l23, List.length_take])
  rw [e2, e3]
  exact ⟨F1, F2, F3, rfl, h1, h2, h3⟩

theorem Reps.one (h : Reps wr w ds vs F) {i : Nat} {d : Dat} (hd : ds[i]? = some d) : ∃ v G, vs[i]? = some v ∧ Reps wr w [d] [v] G ∧ ∀ b ∈ G, b ∈ F := by
  obtain ⟨F1, F2, F3, rfl, _, h2, _⟩ := h.part (k := i) (l := 1)
  have hi : i < ds.length := (List.getElem?_eq_some_iff.1 hd).1
  have hv : i < vs.length := by rw [h.length]; exact hi
  have e1 : (ds.drop i).take 1 = [d] := by
    rw [List.drop_eq_getElem_cons hi, List.take_succ_cons, List.take_zero, (List.getElem?_eq_some_iff.1 hd).2]
  have e2 : (vs.drop i).take 1 = [vs[i]] := by rw [List.drop_eq_getElem_cons hv, List.take_succ_cons, List.take_zero]
  rw [e1, e2] at h2
  exact ⟨vs[i], F2, List.getElem?_eq_getElem hv, h2, fun b hb => by simp [hb]⟩

theorem Reps.oneCell (h : Reps wr w ds vs F) : ∀ v ∈ vs, v.oneCell' = true := by
  induction h with
  | nil => simp
  | lf h _ ih =>
    intro u hu
    rcases List.mem_cons.1 hu with rfl | hu
    · cases u <;> simp_all [sca, Value.oneCell']
    · exact ih u hu
  | nl _ ih =>
    intro u hu
    rcases List.mem_cons.1 hu with rfl | hu
    · rfl
    · exact ih u hu
  | sl _ _ _ _ _ _ _ _ ih =>
    intro u hu
    rcases List.mem_cons.1 hu with rfl | hu
    · rfl
    · exact ih u hu
  | pt _ _ _ _ _ _ ih =>
    intro u hu
    rcases List.mem_cons.1 hu with rfl | hu
    · rfl
    · exact ih u hu
  | cl _ _ _ ih =>
    intro u hu
    rcases List.mem_cons.1 hu with rfl | hu
    · rfl
    · exact ih u hu
  | hole h _ ih =>
    intro u hu
    rcases List.mem_cons.1 hu with rfl | hu
    · exact h
    · exact ih u hu
  | em _ _ ih =>
    intro u hu
    rcases List.mem_cons.1 hu with rfl | hu
    · rfl
    · exact ih u hu
end

theorem reps_one_lf {wr : Bool} {w : World} {v u : Value} {F : List Nat} (h : Reps wr w [.lf v] [u] F) : u = v ∧ sca v = true ∧ F = [] := by
  cases h with
  | lf h r => cases r; exact ⟨rfl, h, rfl⟩

end Go.Proofs.Ytkcpbahcnlhmjaa.V
