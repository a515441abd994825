/-
  strings.Join, its contract told over lists of strings.
-/
import Derived.Test.YtglilpigoocgeaaGreatDoorVC
import Derived.Shelf.Strings.OnBuilder
set_option linter.unusedVariables false
set_option linter.unusedSimpArgs false
namespace Go.Proofs.YtglilpigoocgeaaGreatDoor.V
open Go Go.RowKit
def joinB (xs : List ByteArray) (sep : ByteArray) : ByteArray := ⟨(Lib.join (xs.map (·.data.toList)) sep.data.toList).toArray⟩
theorem flat_dS : ∀ (xs : List ByteArray), (xs.map fun s => [dS s]).flatten = xs.map dS
  | [] => rfl
  | x :: xs => by simp only [List.map_cons, List.flatten_cons, flat_dS xs]; rfl
theorem tr_join {P : Program} {f : FuncId} (hent : Enter P f)
    (h0 : ∀ (a : Option Addr) (c : Nat) (sep : ByteArray) (w : World), Calls P f #[.slice a 0 c, .string sep] w fun e w' => e = .returned (.string ⟨#[]⟩) ∧ w' = w)
    (h : ∀ (bk o c : Nat) (xs : List ByteArray) (sep : ByteArray) (w : World), (∀ (j : Nat) x, xs[j]? = some x → w.cell? ⟨bk, o + j, none⟩ = some (.string x)) → bk < w.heap.size → xs.length ≤ 140737488355328 → xs.length ≤ c →
      (Lib.join (xs.map (·.data.toList)) sep.data.toList).length ≤ 140737488355328 →
      Calls P f #[.slice (some ⟨bk, o, none⟩) xs.length c, .string sep] w fun e w' => e = .returned (.string ⟨(Lib.join (xs.map (·.data.toList)) sep.data.toList).toArray⟩) ∧ Below w.heap.size w w')
    (xs : List ByteArray) (sep : ByteArray) (hn : xs.length ≤ 140737488355328) (hl : (Lib.join (xs.map (·.data.toList)) sep.data.toList).length ≤ 140737488355328) :
    Tr P f [.ro ⟨false, [.sl 1 (xs.map fun s => [dS s])]⟩, .ro ⟨false, [dS sep]⟩] [⟨false, [dS (joinB xs sep)]⟩] := by
  refine ⟨hent, fun w vs FA M ha hM hd => ?_⟩
  cases ha with
  | @ro _ v1 F1 _ _ _ _ hx t =>
  cases t with
  | @ro _ v2 F2 _ _ _ _ hy t =>
  cases t
  obtain ⟨us, hc, hr⟩ := hx
  have hc' : us = [_] := hc
  subst hc'
  obtain ⟨us2, hc2, hr2⟩ := hy
  have hc2' : us2 = [_] := hc2
  subst hc2'
  obtain ⟨e2, _⟩ := reps_one_lf hr2
  subst e2
  have fin : ∀ (e : Ending) (w' : World), e = .returned (.string (joinB xs sep)) → Below w.heap.size w w' → ∃ v rs FR FO, e = .returned v ∧ IsRes v rs ∧ DVs w' [⟨false, [dS (joinB xs sep)]⟩] rs FR ∧ ArgsOut w w' [.ro ⟨false, [.sl 1 (xs.map fun s => [dS s])]⟩, .ro ⟨false, [dS sep]⟩] [v1, .string sep] FO ∧ (FR ++ FO).Nodup ∧ (∀ b ∈ FR ++ FO, b ∈ ([] : List Nat) ∨ w.heap.size ≤ b) ∧ Kept (· ∈ ([] : List Nat)) w w' := by
    intro e w' he hb
    exact ⟨.string (joinB xs sep), [.string (joinB xs sep)], [], [], he, rfl, .cons (x := one (dS (joinB xs sep))) (F := []) ⟨[.string (joinB xs sep)], rfl, .lf rfl .nil⟩ .nil, .ro (.ro .nil), by simp, by simp, ⟨hb.os, hb.tape, hb.output, hb.size, fun k hk _ => hb.block k hk⟩⟩
  have nil : xs = [] → ∀ (a : Option Addr) (c : Nat), v1 = .slice a 0 c → Calls P f #[v1, .string sep] w fun e w' => e = .returned (.string (joinB xs sep)) ∧ Below w.heap.size w w' := by
    intro hxs a c hv
    subst hxs; subst hv
    exact (h0 a c sep w).mono fun e w' ⟨he, hw⟩ => ⟨he, hw ▸ Below.refl _ _⟩
  have main : Calls P f #[v1, .string sep] w fun e w' => e = .returned (.string (joinB xs sep)) ∧ Below w.heap.size w w' := by
    change Reps false w [.sl 1 (xs.map fun s => [dS s])] [v1] F1 at hr
    generalize hes : (xs.map fun s => [dS s]) = es at hr
    cases hr with
    | nl r => exact nil (by cases xs <;> simp_all) _ _ rfl
    | em _ r => exact nil (by cases xs <;> simp_all) _ _ rfl
    | @sl _ _ _ _ _ G b off cap arr ty fr hb hcp he hs hw g r =>
      subst hes
      rw [flat_dS] at g
      have hb' : b < w.heap.size := (Array.getElem?_eq_some_iff.1 hb).1
      rw [List.length_map]
      rw [List.length_map] at hcp hs
      refine h b off cap xs sep w (fun j x hj => ?_) hb' hn hcp hl
      obtain ⟨u, G', hu, hr', _⟩ := g.one (i := j) (d := dS x) (by rw [List.getElem?_map, hj]; rfl)
      have hjl : j < xs.length := (List.getElem?_eq_some_iff.1 hj).1
      rw [List.length_map, seg_get (by omega)] at hu
      obtain ⟨e, _⟩ := reps_one_lf hr'
      subst e
      simp [World.cell?, hb, hu]
  exact main.mono fun e w' ⟨he, hb⟩ => fin e w' he hb
theorem lens_le (k : Nat) : ∀ (xs : List (List UInt8)), (∀ x ∈ xs, x.length ≤ k) → Lib.lens xs ≤ k * xs.length
  | [], _ => by simp [Lib.lens]
  | x :: r, h => by
    have h1 := h x (by simp)
    have h2 := lens_le k r fun y hy => h y (by simp [hy])
    simp only [Lib.lens, List.map_cons, List.sum_cons, List.length_cons, Nat.mul_add, Nat.mul_one] at *
    omega
theorem join_le {xs : List ByteArray} {sep : ByteArray} (h : fitL fitS xs) (hs : fitS sep) : xs.length ≤ 140737488355328 ∧ (Lib.join (xs.map (·.data.toList)) sep.data.toList).length ≤ 140737488355328 := by
  have hl : xs.length ≤ 4194304 := h.1
  refine ⟨by omega, ?_⟩
  cases xs with
  | nil => simp [Lib.join_nil]
  | cons x r =>
    have hb := lens_le 2097152 ((x :: r).map (·.data.toList)) fun y hy => by
      obtain ⟨z, hz, rfl⟩ := List.mem_map.1 hy
      have := h.2 z hz
      rw [Array.length_toList]
      exact this
    rw [List.map_cons, Lib.join_length]
    rw [List.map_cons, List.length_cons, List.length_map] at hb
    have hss : sep.data.toList.length ≤ 2097152 := by rw [Array.length_toList]; exact hs
    rw [List.length_map]
    rw [List.length_cons] at hl
    have hm : sep.data.toList.length * r.length ≤ 2097152 * 4194304 := Nat.mul_le_mul hss (by omega)
    omega
end Go.Proofs.YtglilpigoocgeaaGreatDoor.V
