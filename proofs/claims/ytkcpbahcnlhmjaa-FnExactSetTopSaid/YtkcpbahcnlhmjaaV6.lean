/-
  Struct literals, slice literals, make, stores.
-/
import Derived.Test.YtkcpbahcnlhmjaaV5
import Derived.Laws.CopyRow
namespace Go.Proofs.Ytkcpbahcnlhmjaa.V
open Go
set_option linter.unusedVariables false
set_option linter.unusedSimpArgs false

/-- 'm' laid over 'l' from 'off' on. -/
def patch {α : Type} (l : List α) (off : Nat) (m : List α) : List α := l.take off ++ (m ++ l.drop (off + m.length))

theorem patch_length {α : Type} {l : List α} {off : Nat} {m : List α} (h : off + m.length ≤ l.length) : (patch l off m).length = l.length := by
  simp only [patch, List.length_append, List.length_take, List.length_drop]; omega

theorem patch_append {α : Type} {A e B m : List α} {j : Nat} (h : j + m.length ≤ e.length) : patch (A ++ (e ++ B)) (A.length + j) m = A ++ (patch e j m ++ B) := by
  simp only [patch]
  rw [List.take_append, List.take_of_length_le (by omega), Nat.add_sub_cancel_left, List.take_append_of_le_length (by omega)]
  rw [Nat.add_assoc, List.drop_append, List.drop_of_length_le (l := A) (by omega), Nat.add_sub_cancel_left, List.drop_append_of_le_length (by omega)]
  simp

theorem flat_split {n : Nat} {es : List (List Dat)} {i : Nat} {e : List Dat} (he : es[i]? = some e) : es.flatten = (es.take i).flatten ++ (e ++ (es.drop (i + 1)).flatten) := by
  have hi : i < es.length := (List.getElem?_eq_some_iff.1 he).1
  have : es = es.take i ++ e :: es.drop (i + 1) := by
    rw [← (List.getElem?_eq_some_iff.1 he).2, ← List.drop_eq_getElem_cons hi, List.take_append_drop]
  conv => lhs; rw [this]
  simp

theorem set_flat {n : Nat} {es : List (List Dat)} {i j : Nat} {e ds : List Dat} (hn : ∀ e ∈ es, e.length = n) (he : es[i]? = some e) (hj : j + ds.length ≤ n) :
    (es.set i (patch e j ds)).flatten = patch es.flatten (i * n + j) ds := by
  have hi : i < es.length := (List.getElem?_eq_some_iff.1 he).1
  have hel : e.length = n := hn e (List.mem_of_getElem? he)
  rw [flat_split (n := n) he]
  have hA : ((es.take i).flatten).length = i * n := by
    rw [flat_len (n := n) fun x hx => hn x (List.mem_of_mem_take hx), List.length_take, Nat.min_eq_left (by omega)]
  rw [← hA, patch_append (by omega), List.set_eq_take_append_cons_drop, if_pos hi]
  simp

theorem set_len {n : Nat} {es : List (List Dat)} {i j : Nat} {e ds : List Dat} (hn : ∀ e ∈ es, e.length = n) (he : es[i]? = some e) (hj : j + ds.length ≤ n) :
    ∀ x ∈ es.set i (patch e j ds), x.length = n := by
  intro x hx
  rcases List.mem_or_eq_of_mem_set hx with h | h
  · exact hn x h
  · rw [h, patch_length (by rw [hn e (List.mem_of_getElem? he)]; exact hj)]
    exact hn e (List.mem_of_getElem? he)

theorem seg_patch {arr : Array Value} {base k p : Nat} {vs : List Value} (h : base + k ≤ arr.size) (hp : p + vs.length ≤ k) :
    seg (patch arr.toList (base + p) vs).toArray base k = patch (seg arr base k) p vs := by
  apply List.ext_getElem?
  intro q
  have hl : (seg arr base k).length = k := seg_length h
  by_cases hq : q < k
  · rw [seg_get hq]
    simp only [patch, List.getElem?_toArray, List.getElem?_append, List.length_take, Array.length_toList, hl]
    rw [Nat.min_eq_left (show base + p ≤ arr.size by omega), Nat.min_eq_left (show p ≤ k by omega)]
    by_cases h1 : q < p
    · rw [if_pos (by omega), if_pos h1, List.getElem?_take, if_pos (by omega), List.getElem?_take, if_pos h1, seg_get hq, Array.getElem?_toList]
    · rw [if_neg (by omega), if_neg h1]
      by_cases h2 : q - p < vs.length
      · rw [if_pos (by omega), if_pos h2]; congr 1; omega
      · rw [if_neg (by omega), if_neg h2, List.getElem?_drop, List.getElem?_drop, seg_get (by omega), Array.getElem?_toList]; congr 1; omega
  · have : (patch (seg arr base k) p vs).length = k := by rw [patch_length (by rw [hl]; exact hp), hl]
    have h3 : (seg (patch arr.toList (base + p) vs).toArray base k).length ≤ k := by simp only [seg, List.length_take]; omega
    rw [List.getElem?_eq_none (by omega), List.getElem?_eq_none (by omega)]

theorem patch_seg_other {arr : Array Value} {p q : Nat} {vs : List Value} (hp : p + vs.length ≤ arr.size) (hq : q < p ∨ p + vs.length ≤ q) : (patch arr.toList p vs).toArray[q]? = arr[q]? := by
  simp only [patch, List.getElem?_toArray, List.getElem?_append, List.length_take, Array.length_toList]
  rw [Nat.min_eq_left (show p ≤ arr.size by omega)]
  rcases hq with hq | hq
  · rw [if_pos hq, List.getElem?_take, if_pos hq, Array.getElem?_toList]
  · rw [if_neg (by omega), if_neg (by omega), List.getElem?_drop, Array.getElem?_toList]; congr 1; omega

theorem All2.patch {α β : Type} {R : α → β → Prop} {l l' : List α} {m m' : List β} (h : All2 R l m) (h' : All2 R l' m') (off : Nat) : All2 R (patch l off l') (patch m off m') := by
  unfold V.patch
  rw [h'.length]
  exact (h.take off).append (h'.append (h.drop _))

/-! ### what is taken in -/
/-- Cells that become a part of an element: scalars, nil slices, rows of the call's own (which are let go). -/
inductive AbsD (h : Heap) : List VC → List Dat → List Nat → Prop
  | nil : AbsD h [] [] []
  | lf {v : Value} {cs : List VC} {ds : List Dat} {K : List Nat} (t : AbsD h cs ds K) : AbsD h (.d (.lf v) :: cs) (.lf v :: ds) K
  | nl {n : Nat} {cs : List VC} {ds : List Dat} {K : List Nat} (t : AbsD h cs ds K) : AbsD h (.nl n :: cs) (.sl n [] :: ds) K
  | nlx {n : Nat} {cs : List VC} {ds : List Dat} {K : List Nat} (t : AbsD h cs ds K) : AbsD h (.nl n :: cs) (.lf (.slice none 0 0) :: ds) K
  | nild {n : Nat} {cs : List VC} {ds : List Dat} {K : List Nat} (t : AbsD h cs ds K) : AbsD h (.d (.lf (.slice none 0 0)) :: cs) (.sl n [] :: ds) K
  | sr {k g off len room n ver : Nat} {es u : List (List Dat)} {cs : List VC} {ds : List Dat} {K : List Nat} (hk : h k = .row n es true g ver) (hl : off + len ≤ es.length) (hu : (es.drop off).take len = u)
      (t : AbsD h cs ds K) : AbsD h (.sr k g off len room :: cs) (.sl n u :: ds) (k :: K)

theorem AbsD.length {h : Heap} {cs : List VC} {ds : List Dat} {K : List Nat} (ha : AbsD h cs ds K) : ds.length = cs.length := by induction ha <;> simp_all

theorem flat_take {n : Nat} {es : List (List Dat)} (hn : ∀ e ∈ es, e.length = n) {k : Nat} (hk : k ≤ es.length) : (es.take k).flatten = es.flatten.take (k * n) := by
  have h1 : es.flatten = (es.take k).flatten ++ (es.drop k).flatten := by rw [← List.flatten_append, List.take_append_drop]
  have h2 : ((es.take k).flatten).length = k * n := by rw [flat_len (n := n) fun x hx => hn x (List.mem_of_mem_take hx), List.length_take, Nat.min_eq_left hk]
  rw [h1, ← h2, List.take_left]
theorem flat_drop {n : Nat} {es : List (List Dat)} (hn : ∀ e ∈ es, e.length = n) {k : Nat} (hk : k ≤ es.length) : (es.drop k).flatten = es.flatten.drop (k * n) := by
  have h1 : es.flatten = (es.take k).flatten ++ (es.drop k).flatten := by rw [← List.flatten_append, List.take_append_drop]
  have h2 : ((es.take k).flatten).length = k * n := by rw [flat_len (n := n) fun x hx => hn x (List.mem_of_mem_take hx), List.length_take, Nat.min_eq_left hk]
  conv => rhs; rw [h1, ← h2, List.drop_left]

section
variable {w0 : World} {M0 : Nat → Prop} {A0 : Cx} {h : Heap} {w : World} {locs : Locs} {RO : Nat → Prop}

/-- A view of a row, as data. -/
theorem view_reps {n off len : Nat} {es : List (List Dat)} {dp : Bool} {g ver room : Nat} {L : Loc} {v : Value} (ho : ObjOk w RO (.row n es dp g ver) L) (hnd : L.foot.Nodup) (hs : SlRel L n off len room v) (hl : off + len ≤ es.length) :
    ∃ F, Reps dp w [.sl n ((es.drop off).take len)] [v] F ∧ (dp = true → F.Nodup ∧ ∀ b ∈ F, b ∈ L.foot) ∧ (dp = false → ∀ b ∈ F, b ∈ L.foot ∨ RO b) := by
  obtain ⟨hn, ho⟩ := ho
  rcases hs with ⟨h1, h2, h3, rfl⟩ | ⟨h1, cap, rfl, h2, h3, h4⟩
  · subst h2
    exact ⟨[], by rw [List.take_zero]; exact .nl .nil, fun _ => ⟨List.nodup_nil, by simp⟩, by simp⟩
  · rcases ho with ⟨h5, _⟩ | ⟨_, arr, aty, G, hb, ha, hbs, hr, k1, k2⟩
    · rw [h1] at h5; cases h5
    · have hln : ((es.drop off).take len).length = len := by rw [List.length_take, List.length_drop]; omega
      obtain ⟨F1, F2, F3, hG, _, hr2, _⟩ := hr.part (k := off * n) (l := len * n)
      have hmul : off * n + len * n ≤ es.length * n := by rw [← Nat.add_mul]; exact Nat.mul_le_mul_right n hl
      rw [seg_seg hmul, ← flat_drop hn (by omega), ← flat_take (n := n) (fun x hx => hn x (List.mem_of_mem_drop hx)) (by rw [List.length_drop]; omega)] at hr2
      have hfin : Reps dp w [.sl n ((es.drop off).take len)] [.slice (some ⟨L.b, L.base + off * n, none⟩) ((es.drop off).take len).length cap] (L.b :: (F2 ++ [])) := by
        refine .sl hb (by rw [hln]; omega) (fun e he => hn e (List.mem_of_mem_drop (List.mem_of_mem_take he))) (by rw [hln]; omega) (fun _ => ⟨rfl, by omega⟩) ?_ .nil
        rw [hln]; exact hr2
      rw [hln, List.append_nil] at hfin
      refine ⟨_, hfin, fun hd => ?_, fun hd b hb => ?_⟩
      · have k3 := k1 hd
        rw [k3, hG] at hnd
        rw [k3, hG]
        simp only [List.nodup_cons, List.nodup_append, List.mem_append, not_or] at hnd ⊢
        refine ⟨⟨hnd.1.2.1, hnd.2.2.1.1⟩, fun b hb => ?_⟩
        rcases List.mem_cons.1 hb with rfl | hb
        · simp
        · simp [hb]
      · rw [(k2 hd).1]
        rcases List.mem_cons.1 hb with rfl | hb
        · exact .inl (by simp)
        · exact .inr ((k2 hd).2 b (by rw [hG]; simp [hb]))

theorem AbsD.sound (hg : Good w0 M0 A0 h w locs RO) {cs : List VC} {ds : List Dat} {K : List Nat} (ha : AbsD h cs ds K) : ∀ {vs : List Value}, All2 (VRel locs h w RO) cs vs → K.Nodup →
    ∃ F, Reps true w ds vs F ∧ F.Nodup ∧ ∀ b ∈ F, ∃ k ∈ K, b ∈ (locs k).foot := by
  induction ha with
  | nil => intro vs hv _; cases hv; exact ⟨[], .nil, List.nodup_nil, by simp⟩
  | lf t ih =>
    intro vs hv hK
    cases hv with
    | cons h1 h2 =>
      obtain ⟨F, hr, hn, hF⟩ := ih h2 hK
      obtain ⟨e, hs⟩ := vrel_lf_eq h1
      subst e
      exact ⟨F, .lf hs hr, hn, hF⟩
  | nl t ih =>
    intro vs hv hK
    cases hv with
    | cons h1 h2 =>
      obtain ⟨F, hr, hn, hF⟩ := ih h2 hK
      cases h1
      exact ⟨F, .nl hr, hn, hF⟩
  | nlx t ih =>
    intro vs hv hK
    cases hv with
    | cons h1 h2 =>
      obtain ⟨F, hr, hn, hF⟩ := ih h2 hK
      cases h1
      exact ⟨F, .lf rfl hr, hn, hF⟩
  | nild t ih =>
    intro vs hv hK
    cases hv with
    | cons h1 h2 =>
      obtain ⟨F, hr, hn, hF⟩ := ih h2 hK
      obtain ⟨e, hs⟩ := vrel_lf_eq h1
      subst e
      exact ⟨F, .nl hr, hn, hF⟩
  | sr hk hl hu t ih =>
    rename_i k g off len room n ver es u cs ds K
    intro vs hv hK
    cases hv with
    | cons h1 h2 =>
      rw [List.nodup_cons] at hK
      obtain ⟨F, hr, hn, hF⟩ := ih h2 hK.2
      obtain ⟨n', es', dp', g0, ver', hc, hle, hone, hp⟩ := h1
      rw [hk] at hc
      injection hc with a1 a2 a3 a4 a5
      subst a1
      have hob := hg.obj k
      rw [hk] at hob
      obtain ⟨F1, hr1, hd1, _⟩ := view_reps hob (hg.nodup k) (hp a4) hl
      obtain ⟨hn1, hF1⟩ := hd1 rfl
      rw [hu] at hr1
      refine ⟨F1 ++ F, hr1.append hr, ?_, fun b hb => ?_⟩
      · refine List.nodup_append.2 ⟨hn1, hn, fun b hb c hc e => ?_⟩
        subst e
        obtain ⟨k', hk', hb'⟩ := hF b hc
        exact hg.disj k k' (fun e => hK.1 (e ▸ hk')) b (hF1 b hb) hb'
      · rcases List.mem_append.1 hb with hb | hb
        · exact ⟨k, by simp, hF1 b hb⟩
        · obtain ⟨k', hk', hb'⟩ := hF b hb
          exact ⟨k', by simp [hk'], hb'⟩
end

end Go.Proofs.Ytkcpbahcnlhmjaa.V
