/-
  A call, by the callee's contract ('does_call').
-/
import Derived.Test.YtkcpbahcnlhmjaaV14
namespace Go.Proofs.Ytkcpbahcnlhmjaa.V
open Go
set_option linter.unusedVariables false
set_option linter.unusedSimpArgs false

/-- What is handed over: read ('R': the objects), written ('E': what becomes of them). -/
inductive ArgsV (t : List Slot) (h : Heap) : List Operand → List Arg → List Nat → List (Nat × VO) → Prop
  | nil : ArgsV t h [] [] [] []
  | ro {x : Operand} {y : TV} {ds : List Dat} {R R' : List Nat} {E : List (Nat × VO)} {xs : List Operand} {as : List Arg} (he : Ev t x y) (hr : RdL h y.cs ds R) (tl : ArgsV t h xs as R' E) :
      ArgsV t h (x :: xs) (.ro ⟨y.ag, ds⟩ :: as) (R ++ R') E
  | mu {x : Operand} {y : TV} {ds ds' : List Dat} {R' : List Nat} {E1 E : List (Nat × VO)} {xs : List Operand} {as : List Arg} (he : Ev t x y) (hm : MuC h y.cs ds ds' E1) (tl : ArgsV t h xs as R' E) :
      ArgsV t h (x :: xs) (.mu ⟨y.ag, ds⟩ ⟨y.ag, ds'⟩ :: as) R' (E1 ++ E)
  | el {x : Operand} {y : TV} {k n i j g ver : Nat} {es : List (List Dat)} {e ds ds' : List Dat} {R' : List Nat} {E : List (Nat × VO)} {xs : List Operand} {as : List Arg} (he : Ev t x y) (hy : y.cs = rcells k ver true i j ds)
      (hk : h k = .row n es true g ver) (hi : es[i]? = some e) (hds : (e.drop j).take ds.length = ds) (hl : ds'.length = ds.length) (hsh : ∀ (q : Nat) m us, ds[q]? = some (.sl m us) → ∃ m' us', ds'[q]? = some (.sl m' us'))
      (hno : ∀ d ∈ ds, simple d = true) (tl : ArgsV t h xs as R' E) : ArgsV t h (x :: xs) (.mu ⟨y.ag, ds⟩ ⟨y.ag, ds'⟩ :: as) R' ((k, .row n (es.set i (patch e j ds')) true g ver) :: E)

section
variable {w0 : World} {M0 : Nat → Prop} {A0 : Cx} {h : Heap} {w : World} {locs : Locs} {RO : Nat → Prop} {t : List Slot} {a : Act}

theorem EsOk.mine {w' : World} {E : List (Nat × VO)} {Ls : List Loc} {F M : List Nat} (hE : EsOk h w locs w' RO E Ls F M) : ∀ b ∈ M, ∃ k ∈ keys E, b ∈ (locs k).foot := by
  induction hE with
  | nil => simp
  | cons h1 t ih =>
    intro b hb
    rcases List.mem_append.1 hb with hb | hb
    · exact ⟨_, by simp [keys], h1.mine b hb⟩
    · obtain ⟨k, hk, hb⟩ := ih b hb
      exact ⟨k, by simp only [keys, List.map_cons, List.mem_cons]; exact .inr hk, hb⟩

theorem cells_of_trel {y : TV} {v : Value} (h1 : TRel locs h w RO y v) : ∃ vs, Cells y.ag v vs ∧ All2 (VRel locs h w RO) y.cs vs := trel_iff.1 h1

theorem cells_inj {ag : Bool} {v : Value} {us vs : List Value} (h1 : Cells ag v us) (h2 : Cells ag v vs) : us = vs := by
  cases ag with
  | true =>
    obtain ⟨arr, e, rfl⟩ := h1
    obtain ⟨brr, e2, rfl⟩ := h2
    rw [e] at e2
    injection e2 with e2; rw [e2]
  | false => simp only [Cells] at h1 h2; rw [h1, h2]

theorem ArgsV.sound (hg : Good w0 M0 A0 h w locs RO) (hm : Tmps locs h w RO t a) {xs : List Operand} {as : List Arg} {R : List Nat} {E : List (Nat × VO)} (ha : ArgsV t h xs as R E) : (keys E).Nodup →
    ∃ FA M, ArgsIn w as (xs.map a.eval) FA M ∧ (∀ b ∈ FA, RO b ∨ ∃ k ∈ R, b ∈ (locs k).foot) ∧ M.Nodup ∧ (∀ b ∈ M, ∃ k ∈ keys E, b ∈ (locs k).foot) ∧
      ∀ w' F, (∀ k ∈ keys E, ∀ b ∈ (locs k).foot, b ∉ M → w'.heap[b]? = w.heap[b]?) → (∀ b ∈ F, ∀ k ∈ keys E, b ∈ (locs k).foot → b ∈ M) → ArgsOut w w' as (xs.map a.eval) F → F.Nodup → ∃ Ls, EsOk h w locs w' RO E Ls F M := by
  induction ha with
  | nil => exact fun _ => ⟨[], [], .nil, by simp, List.nodup_nil, by simp, fun w' F _ _ ho _ => by cases ho; exact ⟨[], .nil⟩⟩
  | ro he hr tl ih =>
    intro hK
    obtain ⟨FA, M, q1, q2, q3, q4, q5⟩ := ih hK
    obtain ⟨e1, _⟩ := hm.ev he
    obtain ⟨vs, hc, hall⟩ := cells_of_trel e1
    obtain ⟨F, r1, r2⟩ := hr.sound hg hall
    refine ⟨F ++ FA, M, .ro ⟨vs, hc, r1⟩ q1, fun b hb => ?_, q3, q4, fun w' F' h1 h2 ho hn => ?_⟩
    · rcases List.mem_append.1 hb with hb | hb
      · rcases r2 b hb with h1 | ⟨k, h1, h3⟩
        · exact .inl h1
        · exact .inr ⟨k, by simp [h1], h3⟩
      · rcases q2 b hb with h1 | ⟨k, h1, h3⟩
        · exact .inl h1
        · exact .inr ⟨k, by simp [h1], h3⟩
    · cases ho with
      | ro t => exact q5 w' F' h1 h2 t hn
  | mu he hmu tl ih =>
    rename_i x y ds ds' R' E1 E xs as
    intro hK
    have hK' : (keys E1 ++ keys E).Nodup := by simpa [keys] using hK
    obtain ⟨k1, k2, k3⟩ := List.nodup_append.1 hK'
    obtain ⟨FA, M, q1, q2, q3, q4, q5⟩ := ih k2
    obtain ⟨e1, _⟩ := hm.ev he
    obtain ⟨vs, hc, hall⟩ := cells_of_trel e1
    obtain ⟨M1, r1, r2, r3, r4⟩ := hmu.sound hg hall k1
    have hdis : ∀ b ∈ M1, b ∉ M := fun b hb hbm => by
      obtain ⟨k, hk, hb1⟩ := r3 b hb
      obtain ⟨l, hl, hb2⟩ := q4 b hbm
      exact hg.disj k l (k3 k hk l hl) b hb1 hb2
    refine ⟨FA, M1 ++ M, .mu ⟨vs, hc, r1⟩ q1, q2, List.nodup_append.2 ⟨r2, q3, fun b hb c hcc e => hdis b hb (e ▸ hcc)⟩, fun b hb => ?_, fun w' F' h1 h2 ho hn => ?_⟩
    · rcases List.mem_append.1 hb with hb | hb
      · obtain ⟨k, hk, hb1⟩ := r3 b hb; exact ⟨k, by simp only [keys, List.map_append, List.mem_append]; exact .inl hk, hb1⟩
      · obtain ⟨k, hk, hb1⟩ := q4 b hb; exact ⟨k, by simp only [keys, List.map_append, List.mem_append]; exact .inr hk, hb1⟩
    · generalize hv : a.eval x = v at ho
      simp only [List.map_cons] at ho
      rw [hv] at ho hc
      cases ho with
      | mu hag hc2 hr2 hz t =>
        rename_i us F1 F2
        have := cells_inj hc2 hc
        subst this
        obtain ⟨n1, n2, n3⟩ := List.nodup_append.1 hn
        -- each part's blocks are its own
        obtain ⟨Ls1, s1⟩ := r4 w' F1 hr2 n1 hz
        have hF2 : ∀ b ∈ F2, ∀ k ∈ keys E, b ∈ (locs k).foot → b ∈ M := fun b hb k hk hbk => by
          rcases List.mem_append.1 (h2 b (by simp [hb]) k (by simp only [keys, List.map_append, List.mem_append]; exact .inr hk) hbk) with h3 | h3
          · obtain ⟨k', hk', hb'⟩ := r3 b h3
            exact absurd hbk (hg.disj k' k (k3 k' hk' k hk) b hb')
          · exact h3
        obtain ⟨Ls, s2⟩ := q5 w' F2 (fun k hk b hb hbm => h1 k (by simp only [keys, List.map_append, List.mem_append]; exact .inr hk) b hb fun h3 => by
          rcases List.mem_append.1 h3 with h3 | h3
          · obtain ⟨k', hk', hb'⟩ := r3 b h3
            exact hg.disj k' k (k3 k' hk' k hk) b hb' hb
          · exact hbm h3) hF2 t n2
        exact ⟨Ls1 ++ Ls, s1.append s2⟩
  | el he hy hk hi hds hl hsh hno tl ih =>
    rename_i x y k n i j g ver es e ds ds' R' E xs as
    intro hK
    simp only [keys, List.map_cons, List.nodup_cons] at hK
    obtain ⟨FA, M, q1, q2, q3, q4, q5⟩ := ih hK.2
    obtain ⟨e1, _⟩ := hm.ev he
    obtain ⟨vs, hc, hall⟩ := cells_of_trel e1
    rw [hy] at hall
    obtain ⟨M1, r1, r2, r3, r4⟩ := el_sound hg hk hi hds hl hsh hall hno
    have hdis : ∀ b ∈ M1, b ∉ M := fun b hb hbm => by
      obtain ⟨l, hl, hb2⟩ := q4 b hbm
      exact hg.disj k l (fun e => hK.1 (e ▸ hl)) b (r3 b hb) hb2
    refine ⟨FA, M1 ++ M, .mu ⟨vs, hc, r1⟩ q1, q2, List.nodup_append.2 ⟨r2, q3, fun b hb c hcc e => hdis b hb (e ▸ hcc)⟩, fun b hb => ?_, fun w' F' h1 h2 ho hn => ?_⟩
    · rcases List.mem_append.1 hb with hb | hb
      · exact ⟨k, by simp [keys], r3 b hb⟩
      · obtain ⟨k', hk', hb1⟩ := q4 b hb; exact ⟨k', by simp only [keys, List.map_cons, List.mem_cons]; exact .inr hk', hb1⟩
    · generalize hv : a.eval x = v at ho
      simp only [List.map_cons] at ho
      rw [hv] at ho hc
      cases ho with
      | mu hag hc2 hr2 hz t =>
        rename_i us F1 F2
        have := cells_inj hc2 hc
        subst this
        obtain ⟨n1, n2, n3⟩ := List.nodup_append.1 hn
        obtain ⟨L1, s1⟩ := r4 w' F1 (fun b hb hbm => h1 k (by simp [keys]) b hb fun h3 => by
          rcases List.mem_append.1 h3 with h3 | h3
          · exact hbm h3
          · obtain ⟨l, hl, hb2⟩ := q4 b h3
            exact hg.disj k l (fun e => hK.1 (e ▸ hl)) b hb hb2) (fun b hb hbk => by
          rcases List.mem_append.1 (h2 b (by simp [hb]) k (by simp [keys]) hbk) with h3 | h3
          · exact h3
          · obtain ⟨l, hl, hb2⟩ := q4 b h3
            exact absurd hb2 (hg.disj k l (fun e => hK.1 (e ▸ hl)) b hbk)) hr2 n1
        have hF2 : ∀ b ∈ F2, ∀ k ∈ keys E, b ∈ (locs k).foot → b ∈ M := fun b hb l hl hbk => by
          rcases List.mem_append.1 (h2 b (by simp [hb]) l (by simp only [keys, List.map_cons, List.mem_cons]; exact .inr hl) hbk) with h3 | h3
          · exact absurd hbk (hg.disj k l (fun e => hK.1 (e ▸ hl)) b (r3 b h3))
          · exact h3
        obtain ⟨Ls, s2⟩ := q5 w' F2 (fun l hl b hb hbm => h1 l (by simp only [keys, List.map_cons, List.mem_cons]; exact .inr hl) b hb fun h3 => by
          rcases List.mem_append.1 h3 with h3 | h3
          · exact hg.disj k l (fun e => hK.1 (e ▸ hl)) b (r3 b h3) hb
          · exact hbm h3) hF2 t n2
        exact ⟨_, .cons s1 s2⟩
end

end Go.Proofs.Ytkcpbahcnlhmjaa.V
