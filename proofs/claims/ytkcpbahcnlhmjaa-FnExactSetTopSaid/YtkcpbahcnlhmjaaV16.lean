/-
  A call, by the callee's contract: the results as new objects; 'does_call'.
-/
import Derived.Test.YtkcpbahcnlhmjaaV15
namespace Go.Proofs.Ytkcpbahcnlhmjaa.V
open Go
set_option linter.unusedVariables false
set_option linter.unusedSimpArgs false

def newsAt : Nat → List VO → List (Nat × VO)
  | _, [] => []
  | k, o :: l => (k, o) :: newsAt (k + 1) l
def injRs : Nat → List DV → List TV
  | _, [] => []
  | k, x :: l => ⟨x.ag, injC 1 k x.cs⟩ :: injRs (k + (objs 1 x.cs).length) l
def objsR : List DV → List VO
  | [] => []
  | x :: l => objs 1 x.cs ++ objsR l
def resSlot (k : Nat) : List DV → Slot
  | [x] => .t ⟨x.ag, injC 1 k x.cs⟩
  | xs => .tu (injRs k xs)
def simpleR (l : List DV) : Bool := l.all fun x => x.cs.all simple

inductive InR (w : World) (RO : Nat → Prop) : List DV → List Value → List Loc → Prop
  | nil : InR w RO [] [] []
  | cons {x : DV} {v : Value} {us : List Value} {xs : List DV} {vs : List Value} {L1 Ls : List Loc} (hc : Cells x.ag v us) (h : InC w RO 1 x.cs us L1) (t : InR w RO xs vs Ls) : InR w RO (x :: xs) (v :: vs) (L1 ++ Ls)

theorem inR_of {w : World} {RO : Nat → Prop} {res : List DV} {rs : List Value} {F : List Nat} (hd : DVs w res rs F) (hs : simpleR res = true) : ∃ Ls, InR w RO res rs Ls ∧ Ls.flatMap (·.foot) = F := by
  induction hd with
  | nil => exact ⟨[], .nil, rfl⟩
  | cons h t ih =>
    simp only [simpleR, List.all_cons, Bool.and_eq_true] at hs
    obtain ⟨Ls, h1, h2⟩ := ih hs.2
    obtain ⟨us, hc, hr⟩ := h
    obtain ⟨L1, h3, h4⟩ := inC_of hr hs.1
    exact ⟨L1 ++ Ls, .cons hc h3 h1, by simp [h2, h4]⟩

theorem InR.objs {w : World} {RO : Nat → Prop} {xs : List DV} {vs : List Value} {Ls : List Loc} (h : InR w RO xs vs Ls) : Ls.length = (objsR xs).length ∧ ∀ (i : Nat) (o : VO), (objsR xs)[i]? = some o → ∃ L, Ls[i]? = some L ∧ ObjOk w RO o L := by
  induction h with
  | nil => exact ⟨rfl, fun i o ho => by simp [objsR] at ho⟩
  | cons hc h t ih =>
    refine ⟨by simp [objsR, h.len, ih.1], fun i o ho => ?_⟩
    simp only [objsR, List.getElem?_append] at ho ⊢
    rw [h.len]
    split at ho
    · rename_i hlt; rw [if_pos hlt]; exact h.objs i o ho
    · rename_i hlt; rw [if_neg hlt]; exact ih.2 _ o ho

theorem InR.trel {w : World} {RO : Nat → Prop} {xs : List DV} {vs : List Value} {Ls : List Loc} (hi : InR w RO xs vs Ls) : ∀ (k : Nat) (locs : Locs) (h : Heap), (∀ i L, Ls[i]? = some L → locs (k + i) = L) →
    (∀ i o, (objsR xs)[i]? = some o → h (k + i) = o) → All2 (TRel locs h w RO) (injRs k xs) vs := by
  have shift : ∀ {α : Type} {L1 Ls : List α} {k : Nat} {g : Nat → α}, (∀ i L, (L1 ++ Ls)[i]? = some L → g (k + i) = L) → ∀ i L, Ls[i]? = some L → g (k + L1.length + i) = L := by
    intro α L1 Ls k g h i L hL
    have := h (L1.length + i) L (by rw [List.getElem?_append_right (by omega)]; simpa using hL)
    rwa [← Nat.add_assoc] at this
  have first : ∀ {α : Type} {L1 Ls : List α} {i : Nat} {L : α}, L1[i]? = some L → (L1 ++ Ls)[i]? = some L := by
    intro α L1 Ls i L h
    rw [List.getElem?_append_left (List.getElem?_eq_some_iff.1 h).1]; exact h
  induction hi with
  | nil => intro k locs h _ _; exact .nil
  | cons hc hin t ih =>
    intro k locs h h1 h2
    refine .cons (trel_iff.2 ⟨_, hc, hin.vrel k locs h (fun i L hL => h1 i L (first hL)) fun i o ho => h2 i o (first ho)⟩) (ih _ locs h ?_ (shift h2))
    rw [← hin.len]; exact shift h1

theorem injRs_refs : ∀ {xs : List DV} {k : Nat}, ∀ x ∈ injRs k xs, ∀ o ∈ x.refs, k ≤ o ∧ o < k + (objsR xs).length
  | [], k, x, hx => by simp [injRs] at hx
  | y :: xs, k, x, hx => by
    intro o ho
    simp only [injRs, List.mem_cons] at hx
    simp only [objsR, List.length_append]
    rcases hx with rfl | hx
    · simp only [TV.refs, List.mem_flatMap] at ho
      obtain ⟨c, hc, ho⟩ := ho
      have := injC_refs c hc o ho; omega
    · have := injRs_refs x hx o ho; omega

theorem objsR_row : ∀ {xs : List DV} {o : VO}, o ∈ objsR xs → ∃ n es, o = .row n es true 1 0
  | x :: xs, o, ho => by
    simp only [objsR, List.mem_append] at ho
    rcases ho with ho | ho
    · exact objs_row ho
    · exact objsR_row ho

theorem resSlot_rel {locs : Locs} {h : Heap} {w : World} {RO : Nat → Prop} {k : Nat} {res : List DV} {rs : List Value} {v : Value} (hv : IsRes v rs) (ha : All2 (TRel locs h w RO) (injRs k res) rs) : SRel locs h w RO (resSlot k res) v := by
  match res, rs, hv, ha with
  | [], [], hv, _ => exact ⟨#[], hv, .nil⟩
  | [x], [u], hv, .cons h1 .nil =>
    simp only [IsRes] at hv
    subst hv
    exact h1
  | x :: y :: res, u :: v' :: rs, hv, ha => exact ⟨_, hv, ha⟩

theorem resSlot_refs {k : Nat} {res : List DV} : ∀ o ∈ (resSlot k res).refs, k ≤ o ∧ o < k + (objsR res).length := by
  intro o ho
  match res with
  | [] => simp [resSlot, injRs, Slot.refs] at ho
  | [x] =>
    have : o ∈ (⟨x.ag, injC 1 k x.cs⟩ : TV).refs := ho
    exact injRs_refs (xs := [x]) ⟨x.ag, injC 1 k x.cs⟩ (by simp [injRs]) o this
  | x :: y :: res =>
    simp only [resSlot, Slot.refs, List.mem_flatMap] at ho
    obtain ⟨t, ht, ho⟩ := ho
    exact injRs_refs t ht o ho

/-! ### lists of turned objects -/
def updLs (locs : Locs) : List (Nat × VO) → List Loc → Locs
  | (k, _) :: E, L :: Ls => updLs (updL locs k L) E Ls
  | _, _ => locs

inductive Zs (Pk : Nat → VO → Loc → List Nat → Prop) : List (Nat × VO) → List Loc → List Nat → Prop
  | nil : Zs Pk [] [] []
  | cons {k : Nat} {o : VO} {L : Loc} {Fk F : List Nat} {E : List (Nat × VO)} {Ls : List Loc} (h1 : Pk k o L Fk) (t : Zs Pk E Ls F) : Zs Pk ((k, o) :: E) (L :: Ls) (Fk ++ F)

section
variable {Pk : Nat → VO → Loc → List Nat → Prop} {E E' : List (Nat × VO)} {Ls Ls' : List Loc} {F F' : List Nat}
theorem Zs.append (h1 : Zs Pk E Ls F) (h2 : Zs Pk E' Ls' F') : Zs Pk (E ++ E') (Ls ++ Ls') (F ++ F') := by
  induction h1 with
  | nil => exact h2
  | cons hh t ih => simp only [List.cons_append, List.append_assoc]; exact .cons hh ih
theorem updAll_not {h : Heap} {k : Nat} (hk : k ∉ keys E) : updAll h E k = h k := by
  induction E generalizing h with
  | nil => rfl
  | cons x E ih =>
    obtain ⟨j, o⟩ := x
    simp only [keys, List.map_cons, List.mem_cons, not_or] at hk
    simp only [updAll]
    rw [ih hk.2, upd_ne hk.1]
theorem updLs_not {locs : Locs} {k : Nat} (hk : k ∉ keys E) : updLs locs E Ls k = locs k := by
  induction E generalizing locs Ls with
  | nil => cases Ls <;> rfl
  | cons x E ih =>
    obtain ⟨j, o⟩ := x
    simp only [keys, List.map_cons, List.mem_cons, not_or] at hk
    cases Ls with
    | nil => rfl
    | cons L Ls => simp only [updLs]; rw [ih hk.2, updL_ne hk.1]
theorem Zs.get (hz : Zs Pk E Ls F) (hn : (keys E).Nodup) (h : Heap) (locs : Locs) {k : Nat} (hk : k ∈ keys E) : ∃ o L Fk, updAll h E k = o ∧ updLs locs E Ls k = L ∧ Pk k o L Fk ∧ ∀ b ∈ Fk, b ∈ F := by
  induction hz generalizing h locs with
  | nil => simp [keys] at hk
  | cons h1 t ih =>
    rename_i j o L Fk F E Ls
    simp only [keys, List.map_cons, List.nodup_cons] at hn
    simp only [keys, List.map_cons, List.mem_cons] at hk
    by_cases e : k = j
    · subst e
      refine ⟨o, L, Fk, ?_, ?_, h1, fun b hb => by simp [hb]⟩
      · simp only [updAll]; rw [updAll_not hn.1, upd_same]
      · simp only [updLs]; rw [updLs_not hn.1, updL_same]
    · obtain ⟨o', L', Fk', q1, q2, q3, q4⟩ := ih hn.2 (upd h j o) (updL locs j L) (hk.resolve_left e)
      exact ⟨o', L', Fk', q1, q2, q3, fun b hb => by simp [q4 b hb]⟩
theorem Zs.two (hz : Zs Pk E Ls F) (hn : (keys E).Nodup) (hF : F.Nodup) (h : Heap) (locs : Locs) {k l : Nat} (hk : k ∈ keys E) (hl : l ∈ keys E) (hkl : k ≠ l) : ∃ o L Fk o' L' Fl, updAll h E k = o ∧ updLs locs E Ls k = L ∧ Pk k o L Fk ∧ (∀ b ∈ Fk, b ∈ F) ∧
    updAll h E l = o' ∧ updLs locs E Ls l = L' ∧ Pk l o' L' Fl ∧ (∀ b ∈ Fl, b ∈ F) ∧ ∀ b ∈ Fk, b ∉ Fl := by
  induction hz generalizing h locs with
  | nil => simp [keys] at hk
  | cons h1 t ih =>
    rename_i j o L Fk F E Ls
    obtain ⟨f1, f2, f3⟩ := List.nodup_append.1 hF
    have hn' := hn
    simp only [keys, List.map_cons, List.nodup_cons] at hn
    have hk' := hk
    have hl' := hl
    simp only [keys, List.map_cons, List.mem_cons] at hk hl
    by_cases e : k = j
    · subst e
      have hl2 := hl.resolve_left (fun e => hkl e.symm)
      obtain ⟨o', L', Fl, q1, q2, q3, q4⟩ := t.get hn.2 (upd h k o) (updL locs k L) hl2
      refine ⟨o, L, Fk, o', L', Fl, ?_, ?_, h1, fun b hb => by simp [hb], q1, q2, q3, fun b hb => by simp [q4 b hb], fun b hb hb2 => f3 b hb b (q4 b hb2) rfl⟩
      · simp only [updAll]; rw [updAll_not hn.1, upd_same]
      · simp only [updLs]; rw [updLs_not hn.1, updL_same]
    · by_cases e' : l = j
      · subst e'
        have hk2 := hk.resolve_left e
        obtain ⟨o', L', Fl, q1, q2, q3, q4⟩ := t.get hn.2 (upd h l o) (updL locs l L) hk2
        refine ⟨o', L', Fl, o, L, Fk, q1, q2, q3, fun b hb => by simp [q4 b hb], ?_, ?_, h1, fun b hb => by simp [hb], fun b hb hb2 => f3 b hb2 b (q4 b hb) rfl⟩
        · simp only [updAll]; rw [updAll_not hn.1, upd_same]
        · simp only [updLs]; rw [updLs_not hn.1, updL_same]
      · obtain ⟨o1, L1, F1, o2, L2, F2, q1, q2, q3, q4, q5, q6, q7, q8, q9⟩ := ih hn.2 f2 (upd h j o) (updL locs j L) (hk.resolve_left e) (hl.resolve_left e')
        exact ⟨o1, L1, F1, o2, L2, F2, q1, q2, q3, fun b hb => by simp [q4 b hb], q5, q6, q7, fun b hb => by simp [q8 b hb], q9⟩
end

theorem newsAt_keys : ∀ {os : List VO} {k j : Nat}, j ∈ keys (newsAt k os) ↔ k ≤ j ∧ j < k + os.length
  | [], k, j => by simp [newsAt, keys]
  | o :: os, k, j => by
    have := newsAt_keys (os := os) (k := k + 1) (j := j)
    simp only [keys] at this
    simp only [newsAt, keys, List.map_cons, List.mem_cons, this, List.length_cons]; omega
theorem newsAt_nodup : ∀ {os : List VO} {k : Nat}, (keys (newsAt k os)).Nodup
  | [], k => by simp [newsAt, keys]
  | o :: os, k => by
    have h2 := newsAt_nodup (os := os) (k := k + 1)
    simp only [newsAt, keys, List.map_cons, List.nodup_cons]
    refine ⟨fun h => ?_, h2⟩
    have := (newsAt_keys (os := os) (k := k + 1) (j := k)).1 h
    omega
theorem zs_news {Pk : Nat → VO → Loc → List Nat → Prop} : ∀ {os : List VO} {Ls : List Loc} {k : Nat}, Ls.length = os.length → (∀ i o L, os[i]? = some o → Ls[i]? = some L → Pk (k + i) o L L.foot) → Zs Pk (newsAt k os) Ls (Ls.flatMap (·.foot))
  | [], [], k, _, _ => .nil
  | [], L :: Ls, k, hl, _ => by simp at hl
  | o :: os, [], k, hl, _ => by simp at hl
  | o :: os, L :: Ls, k, hl, h => .cons (h 0 o L rfl rfl) (zs_news (by simpa using hl) fun i o' L' h1 h2 => by
      have := h (i + 1) o' L' (by simpa using h1) (by simpa using h2)
      rwa [Nat.add_assoc, Nat.add_comm 1])
theorem news_get : ∀ {os : List VO} {k : Nat} (h : Heap) (i : Nat) (o : VO), os[i]? = some o → updAll h (newsAt k os) (k + i) = o
  | [], k, h, i, o, ho => by simp at ho
  | x :: os, k, h, 0, o, ho => by
    simp at ho; subst ho
    simp only [newsAt, updAll]
    rw [updAll_not, Nat.add_zero, upd_same]
    rw [newsAt_keys]; omega
  | x :: os, k, h, i + 1, o, ho => by
    simp only [newsAt, updAll]
    have := news_get (os := os) (k := k + 1) (upd h k x) i o (by simpa using ho)
    rwa [Nat.add_assoc, Nat.add_comm 1] at this
theorem newsL_get : ∀ {os : List VO} {Ls : List Loc} {k : Nat} (l : Locs) (i : Nat) (L : Loc), Ls.length = os.length → Ls[i]? = some L → updLs l (newsAt k os) Ls (k + i) = L
  | [], [], k, l, i, L, hl, ho => by simp at ho
  | [], x :: Ls, k, l, i, L, hl, ho => by simp at hl
  | x :: os, [], k, l, i, L, hl, ho => by simp at hl
  | x :: os, y :: Ls, k, l, 0, L, hl, ho => by
    simp at ho; subst ho
    simp only [newsAt, updLs]
    rw [updLs_not, Nat.add_zero, updL_same]
    rw [newsAt_keys]; omega
  | x :: os, y :: Ls, k, l, i + 1, L, hl, ho => by
    simp only [newsAt, updLs]
    have := newsL_get (os := os) (Ls := Ls) (k := k + 1) (updL l k y) i L (by simpa using hl) (by simpa using ho)
    rwa [Nat.add_assoc, Nat.add_comm 1] at this
theorem updAll_append {h : Heap} : ∀ {E E' : List (Nat × VO)}, updAll h (E ++ E') = updAll (updAll h E) E'
  | [], E' => rfl
  | (k, o) :: E, E' => by simp only [List.cons_append, updAll]; exact updAll_append
theorem updLs_append {locs : Locs} : ∀ {E E' : List (Nat × VO)} {Ls Ls' : List Loc}, Ls.length = E.length → updLs locs (E ++ E') (Ls ++ Ls') = updLs (updLs locs E Ls) E' Ls'
  | [], E', [], Ls', _ => by cases E' <;> cases Ls' <;> rfl
  | [], E', L :: Ls, Ls', hl => by simp at hl
  | (k, o) :: E, E', [], Ls', hl => by simp at hl
  | (k, o) :: E, E', L :: Ls, Ls', hl => by simp only [List.cons_append, updLs]; exact updLs_append (by simpa using hl)

end Go.Proofs.Ytkcpbahcnlhmjaa.V
