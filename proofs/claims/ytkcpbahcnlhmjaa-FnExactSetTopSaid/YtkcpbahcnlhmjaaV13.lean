/-
  From a body's walk to the contract: results, what the written arguments hold behind; 'tr_of'.
-/
import Derived.Test.YtkcpbahcnlhmjaaV12
namespace Go.Proofs.Ytkcpbahcnlhmjaa.V
open Go
set_option linter.unusedVariables false
set_option linter.unusedSimpArgs false

/-- A result variable's value. -/
inductive ResE (tab : List TyI) (t : List Slot) (h : Heap) : ResultVar → TV → Prop
  | tmp {i : Nat} {y : TV} (he : getT t i = .t y) : ResE tab t h (.tmp i) y
  | cell {a T k : Nat} {cs : List VC} (he : getT t a = .t ⟨false, [.vp k 0]⟩) (hh : h k = .var cs) (hk : (ty tab T).ok = true) (h1 : (ty tab T).ag = true ∨ (ty tab T).sz = 1) (hs : (ty tab T).sz = cs.length) :
      ResE tab t h (.cell a T) ⟨(ty tab T).ag, cs⟩

inductive ResV (tab : List TyI) (t : List Slot) (h : Heap) : List ResultVar → List DV → List Nat → Prop
  | nil : ResV tab t h [] [] []
  | cons {r : ResultVar} {y : TV} {ds : List Dat} {K K' : List Nat} {rs : List ResultVar} {xs : List DV} (he : ResE tab t h r y) (hy : okCells y) (ha : AbsD h y.cs ds K) (tl : ResV tab t h rs xs K') :
      ResV tab t h (r :: rs) (⟨y.ag, ds⟩ :: xs) (K ++ K')

/-- The written arguments' rows, behind. -/
inductive OutC (h : Heap) : Nat → List Dat → List Dat → Prop
  | nil {k : Nat} : OutC h k [] []
  | lf {k : Nat} {v : Value} {l l' : List Dat} (t : OutC h k l l') : OutC h k (.lf v :: l) (.lf v :: l')
  | sl {k n ver : Nat} {es es' : List (List Dat)} {l l' : List Dat} (hh : h k = .row n es' true 0 ver) (hl : es'.length = es.length) (t : OutC h (k + 1) l l') : OutC h k (.sl n es :: l) (.sl n es' :: l')
inductive OutA (h : Heap) : Nat → List Arg → List Nat → Prop
  | nil {k : Nat} : OutA h k [] []
  | ro {k : Nat} {x : DV} {as : List Arg} {G : List Nat} (t : OutA h k as G) : OutA h k (.ro x :: as) G
  | mu {k : Nat} {x x' : DV} {as : List Arg} {G : List Nat} (ha : x'.ag = x.ag) (hc : OutC h k x.cs x'.cs) (t : OutA h (k + (objs 0 x.cs).length) as G) :
      OutA h k (.mu x x' :: as) ((List.range (objs 0 x.cs).length).map (k + ·) ++ G)
  | own {k : Nat} {x : DV} {as : List Arg} {G : List Nat} (t : OutA h (k + (objs 0 x.cs).length) as G) : OutA h k (.own x :: as) G

def postQ (tab : List TyI) (fn : Func) (args : List Arg) (res : List DV) : Exit → St → Prop
  | .normal, s | .ret, s => ∃ K G, ResV tab s.t s.h fn.results.toList res K ∧ OutA s.h 0 args G ∧ (K ++ G).Nodup
  | _, _ => False

def postX (tab : List TyI) (fn : Func) (args : List Arg) (Φ : List DV → Prop) : Exit → St → Prop
  | .normal, s | .ret, s => ∃ res K G, Φ res ∧ ResV tab s.t s.h fn.results.toList res K ∧ OutA s.h 0 args G ∧ (K ++ G).Nodup
  | _, _ => False

section
variable {P : Program} {tab : List TyI} {w0 : World} {M0 : Nat → Prop} {A0 : Cx} {h : Heap} {w : World} {locs : Locs} {RO : Nat → Prop} {t : List Slot} {a : Act}

def resOne (tmps : Array Value) : ResultVar → Sem Value
  | .tmp t => pure (tmps.getD t undef)
  | .cell c T => do loadVar T (← asAddr (tmps.getD c undef))

theorem resE_sound (hT : TabOk P tab) (hg : Good w0 M0 A0 h w locs RO) (hm : Tmps locs h w RO t a) {r : ResultVar} {y : TV} (he : ResE tab t h r y) :
    ∃ v, (resOne a.tmps r).run P w = .ok v w ∧ TRel locs h w RO y v := by
  cases he with
  | tmp he =>
    rename_i i
    have h1 := hm.2.2.1 i
    rw [he] at h1
    exact ⟨_, rfl, h1⟩
  | cell he hh hk h1 hs =>
    rename_i c T k cs
    have h2 := hm.2.2.1 c
    rw [he] at h2
    obtain ⟨_, e⟩ := TRel.single.1 h2
    have hob := hg.obj k
    rw [hh] at hob
    obtain ⟨_, arr, aty, hb, hsz⟩ := hob
    obtain ⟨v, hrun, hrel⟩ := run_loadVar (hT T hk) (off := 0) hb (by omega) h1
    have hc := hg.cells k cs hh arr aty _ hb
    have h3 := hrel locs h RO _ ((hc.drop 0).take _)
    rw [List.drop_zero, hs, List.take_length] at h3
    refine ⟨v, ?_, h3⟩
    simp [resOne, e, asAddr, hrun]

theorem tcells {ag : Bool} {cs : List VC} {v : Value} (h1 : TRel locs h w RO ⟨ag, cs⟩ v) : ∃ vs, Cells ag v vs ∧ All2 (VRel locs h w RO) cs vs := trel_iff.1 h1

theorem resV_sound (hT : TabOk P tab) (hg : Good w0 M0 A0 h w locs RO) (hm : Tmps locs h w RO t a) {rs : List ResultVar} {xs : List DV} {K : List Nat} (hr : ResV tab t h rs xs K) : K.Nodup →
    ∃ vs F, (rs.mapM (resOne a.tmps)).run P w = .ok vs w ∧ DVs w xs vs F ∧ F.Nodup ∧ ∀ b ∈ F, ∃ k ∈ K, b ∈ (locs k).foot := by
  induction hr with
  | nil => exact fun _ => ⟨[], [], by simp, .nil, List.nodup_nil, by simp⟩
  | cons he hy ha tl ih =>
    rename_i r y ds K K' rs xs
    intro hK
    obtain ⟨h1, h2, h3⟩ := List.nodup_append.1 hK
    obtain ⟨vs, F, hrun, hd, hn, hF⟩ := ih h2
    obtain ⟨v, hrun1, hrel⟩ := resE_sound hT hg hm he
    obtain ⟨us, hc, hall⟩ := trel_iff.1 hrel
    obtain ⟨F1, hr1, hn1, hF1⟩ := ha.sound hg hall h1
    refine ⟨v :: vs, F1 ++ F, ?_, .cons ⟨us, hc, hr1⟩ hd, List.nodup_append.2 ⟨hn1, hn, fun b hb c hcc e => ?_⟩, fun b hb => ?_⟩
    · rw [List.mapM_cons]
      simp only [Sem.run_bind, hrun1, Result.andThen_ok, hrun]
      rfl
    · subst e
      obtain ⟨k1, hk1, hb1⟩ := hF1 b hb
      obtain ⟨k2, hk2, hb2⟩ := hF b hcc
      exact hg.disj k1 k2 (fun e => h3 k1 hk1 k2 hk2 e) b hb1 hb2
    · rcases List.mem_append.1 hb with hb | hb
      · obtain ⟨k1, hk1, hb1⟩ := hF1 b hb; exact ⟨k1, by simp [hk1], hb1⟩
      · obtain ⟨k1, hk1, hb1⟩ := hF b hb; exact ⟨k1, by simp [hk1], hb1⟩

theorem results_run {fn : Func} {tmps : Array Value} {vs : List Value} (hr : (fn.results.toList.mapM (resOne tmps)).run P w = .ok vs w) :
    ∃ v, (results fn tmps).run P w = .ok v w ∧ IsRes v vs := by
  have e : (fn.results.mapM (resOne tmps)).run P w = .ok vs.toArray w := by
    rw [Array.mapM_eq_mapM_toList]
    simp [hr]
  have e2 : results fn tmps = (do
      let vs ← fn.results.mapM (resOne tmps)
      pure (if h : vs.size = 1 then vs[0] else .tuple vs)) := by
    unfold results
    congr 1
  rw [e2, Sem.run_bind, e]
  simp only [Result.andThen_ok]
  refine ⟨_, rfl, ?_⟩
  unfold IsRes
  split
  · simp
  · rename_i hne
    rw [dif_neg]
    intro hs
    simp only [List.size_toArray] at hs
    obtain ⟨x, rfl⟩ := List.length_eq_one_iff.1 hs
    exact hne x rfl
/-- The written arguments' cells, behind. -/
theorem outC_sound {wa : World} {RO' : Nat → Prop} (hg : Good w0 M0 A0 h w locs RO) {cs cs' : List Dat} {us : List Value} {Ls : List Loc} (hi : InC wa RO' 0 cs us Ls) : ∀ {k : Nat}, OutC h k cs cs' → (∀ i L, Ls[i]? = some L → A0.pin (k + i) = some L) →
    ∃ F, Reps true w cs' us F ∧ F.Nodup ∧ (∀ b ∈ F, ∃ i, i < (objs 0 cs).length ∧ b ∈ (locs (k + i)).foot) ∧ ∀ u ∈ us, szOk wa w u := by
  induction hi generalizing cs' with
  | nil => intro k ho _; cases ho; exact ⟨[], .nil, List.nodup_nil, by simp, by simp⟩
  | lf hs _ ih =>
    intro k ho hp
    cases ho with
    | lf t =>
      obtain ⟨F, h1, h2, h3, h4⟩ := ih t hp
      refine ⟨F, .lf hs h1, h2, h3, fun u hu => ?_⟩
      rcases List.mem_cons.1 hu with rfl | hu
      · intro a n c e; subst e; simp [sca] at hs
      · exact h4 u hu
  | sl hob hsr h1 t ih =>
    rename_i n es v l vs L Ls
    intro k ho hp
    cases ho with
    | sl hh hl t =>
      rename_i ver es' l'
      obtain ⟨F, q1, q2, q3, q4⟩ := ih t fun i L' hL' => by
        have := hp (i + 1) L' (by simpa using hL')
        rwa [Nat.add_assoc, Nat.add_comm 1]
      have hpin := hg.pin k L (by simpa using hp 0 L rfl) _ _ _ _ hh
      have hob' := hg.obj k
      rw [hh] at hob'
      have hsr' := hsr.same hpin
      rw [← hl] at hsr'
      obtain ⟨F1, r1, r2, _⟩ := view_reps (off := 0) (len := es'.length) hob' (hg.nodup k) hsr' (by simp)
      obtain ⟨r3, r4⟩ := r2 rfl
      rw [List.drop_zero, List.take_length] at r1
      have hsl : (objs 0 (.sl n es :: l)).length = (objs 0 l).length + 1 := by simp [V.objs]
      refine ⟨F1 ++ F, r1.append q1, List.nodup_append.2 ⟨r3, q2, fun b hb c hc e => ?_⟩, fun b hb => ?_, fun u hu => ?_⟩
      · subst e
        obtain ⟨i, hi, hb2⟩ := q3 b hc
        exact hg.disj k (k + 1 + i) (by omega) b (r4 b hb) hb2
      · rcases List.mem_append.1 hb with hb | hb
        · exact ⟨0, by omega, by simpa using r4 b hb⟩
        · obtain ⟨i, hi, hb2⟩ := q3 b hb
          exact ⟨i + 1, by omega, by rwa [← Nat.add_assoc, Nat.add_right_comm]⟩
      · rcases List.mem_cons.1 hu with rfl | hu
        · intro a m c e
          subst e
          rcases hsr with ⟨_, _, _, e⟩ | ⟨h0, cap, e, _⟩
          · cases e
          · injection e with e _ _
            injection e with e
            subst e
            obtain ⟨_, hx | ⟨_, arr, ty, G, hb, hsz, _⟩⟩ := hob
            · rw [h0] at hx; cases hx.1
            · obtain ⟨_, hx | ⟨_, arr', ty', G', hb', hsz', _⟩⟩ := hob'
              · rw [hpin.1, h0] at hx; cases hx.1
              · rw [hpin.2.1] at hb'
                simp only [bsz, hb, hb', hsz, hsz', hpin.2.2.2]
        · exact q4 u hu

theorem outA_sound {wa : World} {RO' : Nat → Prop} (hg : Good w0 M0 A0 h w locs RO) {args : List Arg} {vs : List Value} {Ls : List Loc} (hi : InA wa RO' args vs Ls) : ∀ {k : Nat} {G : List Nat}, OutA h k args G → (∀ i L, Ls[i]? = some L → A0.pin (k + i) = some L) →
    ∃ F, ArgsOut wa w args vs F ∧ F.Nodup ∧ (∀ b ∈ F, ∃ j ∈ G, b ∈ (locs j).foot) ∧ ∀ j ∈ G, k ≤ j := by
  induction hi with
  | nil => intro k G ho _; cases ho; exact ⟨[], .nil, List.nodup_nil, by simp, by simp⟩
  | ro hd hF t ih =>
    intro k G ho hp
    cases ho with
    | ro t => obtain ⟨F, h1, h2, h3, h4⟩ := ih t hp; exact ⟨F, .ro h1, h2, h3, h4⟩
  | mu hc hin t ih =>
    rename_i x x' v us as vs L1 Ls
    intro k G ho hp
    cases ho with
    | mu ha hoc t =>
      rename_i G
      obtain ⟨F, h1, h2, h3, h4⟩ := ih t fun i L hL => by
        have := hp (L1.length + i) L (by rw [List.getElem?_append_right (by omega)]; simpa using hL)
        rwa [hin.len, ← Nat.add_assoc] at this
      obtain ⟨F1, q1, q2, q3, q4⟩ := outC_sound hg hin hoc fun i L hL => hp i L (by rw [List.getElem?_append_left (List.getElem?_eq_some_iff.1 hL).1]; exact hL)
      refine ⟨F1 ++ F, .mu ha hc q1 q4 h1, List.nodup_append.2 ⟨q2, h2, fun b hb c hcc e => ?_⟩, fun b hb => ?_, fun j hj => ?_⟩
      · subst e
        obtain ⟨i, hi, hb1⟩ := q3 b hb
        obtain ⟨j, hj, hb2⟩ := h3 b hcc
        have := h4 j hj
        exact hg.disj (k + i) j (by omega) b hb1 hb2
      · rcases List.mem_append.1 hb with hb | hb
        · obtain ⟨i, hi, hb1⟩ := q3 b hb
          exact ⟨k + i, by simp only [List.mem_append, List.mem_map, List.mem_range]; exact .inl ⟨i, hi, rfl⟩, hb1⟩
        · obtain ⟨j, hj, hb2⟩ := h3 b hb
          exact ⟨j, by simp [hj], hb2⟩
      · simp only [List.mem_append, List.mem_map, List.mem_range] at hj
        rcases hj with ⟨i, _, rfl⟩ | hj
        · omega
        · have := h4 j hj; omega
  | own hc hin t ih =>
    rename_i x v us as vs L1 Ls
    intro k G ho hp
    cases ho with
    | own t =>
      obtain ⟨F, h1, h2, h3, h4⟩ := ih t fun i L hL => by
        have := hp (L1.length + i) L (by rw [List.getElem?_append_right (by omega)]; simpa using hL)
        rwa [hin.len, ← Nat.add_assoc] at this
      exact ⟨F, .own h1, h2, h3, fun j hj => by have := h4 j hj; omega⟩
end

theorem InA.lens {w : World} {RO : Nat → Prop} {as : List Arg} {vs : List Value} {Ls : List Loc} (h : InA w RO as vs Ls) : vs.length = as.length := by
  induction h <;> simp_all
theorem ArgsIn.lt {w : World} {as : List Arg} {vs : List Value} {FA M : List Nat} (h : ArgsIn w as vs FA M) : ∀ b ∈ FA, b < w.heap.size := by
  induction h with
  | nil => simp
  | ro hd _ ih =>
    obtain ⟨_, _, hr⟩ := hd
    intro b hb
    rcases List.mem_append.1 hb with hb | hb
    · exact hr.lt b hb
    · exact ih b hb
  | mu _ _ ih => exact ih
  | own _ _ ih => exact ih

theorem tr_of {P : Program} {tab : List TyI} (hT : TabOk P tab) {f : FuncId} {fn : Func} {c : Code} {args : List Arg} {res : List DV} (hf : P.funcs[f]? = some fn) (hname : (fn.name == "runtime.NumGoroutine") = false) (hb : fn.body = some c) (hs : simpleA args = true)
    (hwp : VWp P c (postQ tab fn args res) (initSt fn args)) : Tr P f args res := by
  refine ⟨⟨fn, c, hf, hname, hb⟩, ?_⟩
  intro w vs FA M ha hM hd
  obtain ⟨Ls, hi, hfl⟩ := inA_of ha hs (RO := (· ∈ FA)) fun b hb => hb
  have hrel := init_rel fn hi hfl hi.lens hM hd ha.lt
  refine calls_of_wp hf hb (wp_mono (hwp w _ _ _ _ hrel) fun e a' w' hq => ?_)
  obtain ⟨s, hq, locs, RO, hg, hm⟩ := hq
  have key : (∃ K G, ResV tab s.t s.h fn.results.toList res K ∧ OutA s.h 0 args G ∧ (K ++ G).Nodup) → a'.defers = [] ∧ ∃ v, (results fn a'.tmps).run P w' = .ok v w' ∧
      ∃ v' rs FR FO, Ending.returned v = .returned v' ∧ IsRes v' rs ∧ DVs w' res rs FR ∧ ArgsOut w w' args vs FO ∧ (FR ++ FO).Nodup ∧ (∀ b ∈ FR ++ FO, b ∈ M ∨ w.heap.size ≤ b) ∧ Kept (· ∈ M) w w' := by
    rintro ⟨K, G, hres, hout, hKG⟩
    obtain ⟨hK, hG, hKGd⟩ := List.nodup_append.1 hKG
    obtain ⟨rs, FR, hrun, hdv, hn, hFR⟩ := resV_sound hT hg hm hres hK
    obtain ⟨v, hv, hir⟩ := results_run hrun
    obtain ⟨FO, ho, hno, hFO, _⟩ := outA_sound hg hi hout fun i L hL => by simpa using hL
    refine ⟨hm.1, v, hv, v, rs, FR, FO, rfl, hir, hdv, ho, List.nodup_append.2 ⟨hn, hno, fun b hb c hc e => ?_⟩, fun b hb => ?_, hg.kept⟩
    · subst e
      obtain ⟨k, hk, hb1⟩ := hFR b hb
      obtain ⟨j, hj, hb2⟩ := hFO b hc
      exact hg.disj k j (hKGd k hk j hj) b hb1 hb2
    · rcases List.mem_append.1 hb with hb | hb
      · obtain ⟨k, _, hb1⟩ := hFR b hb; exact hg.mfoot k b hb1
      · obtain ⟨k, _, hb1⟩ := hFO b hb; exact hg.mfoot k b hb1
  cases e with
  | normal => exact key hq
  | ret => exact key hq
  | exit id => exact hq.elim
  | goto l => exact hq.elim
  | panic ch => exact hq.elim
  | outgrown => exact hq.elim

theorem trX_of {P : Program} {tab : List TyI} (hT : TabOk P tab) {f : FuncId} {fn : Func} {c : Code} {args : List Arg} {Φ : List DV → Prop} (hf : P.funcs[f]? = some fn) (hname : (fn.name == "runtime.NumGoroutine") = false) (hb : fn.body = some c) (hs : simpleA args = true)
    (hwp : VWp P c (postX tab fn args Φ) (initSt fn args)) : TrX P f args Φ := by
  refine ⟨⟨fn, c, hf, hname, hb⟩, ?_⟩
  intro w vs FA M ha hM hd
  obtain ⟨Ls, hi, hfl⟩ := inA_of ha hs (RO := (· ∈ FA)) fun b hb => hb
  have hrel := init_rel fn hi hfl hi.lens hM hd ha.lt
  refine calls_of_wp hf hb (wp_mono (hwp w _ _ _ _ hrel) fun e a' w' hq => ?_)
  obtain ⟨s, hq, locs, RO, hg, hm⟩ := hq
  have key : (∃ res K G, Φ res ∧ ResV tab s.t s.h fn.results.toList res K ∧ OutA s.h 0 args G ∧ (K ++ G).Nodup) → a'.defers = [] ∧ ∃ v, (results fn a'.tmps).run P w' = .ok v w' ∧
      ∃ res, Φ res ∧ ∃ v' rs FR FO, Ending.returned v = .returned v' ∧ IsRes v' rs ∧ DVs w' res rs FR ∧ ArgsOut w w' args vs FO ∧ (FR ++ FO).Nodup ∧ (∀ b ∈ FR ++ FO, b ∈ M ∨ w.heap.size ≤ b) ∧ Kept (· ∈ M) w w' := by
    rintro ⟨res, K, G, hΦ, hres, hout, hKG⟩
    obtain ⟨hK, hG, hKGd⟩ := List.nodup_append.1 hKG
    obtain ⟨rs, FR, hrun, hdv, hn, hFR⟩ := resV_sound hT hg hm hres hK
    obtain ⟨v, hv, hir⟩ := results_run hrun
    obtain ⟨FO, ho, hno, hFO, _⟩ := outA_sound hg hi hout fun i L hL => by simpa using hL
    refine ⟨hm.1, v, hv, res, hΦ, v, rs, FR, FO, rfl, hir, hdv, ho, List.nodup_append.2 ⟨hn, hno, fun b hb c hc e => ?_⟩, fun b hb => ?_, hg.kept⟩
    · subst e
      obtain ⟨k, hk, hb1⟩ := hFR b hb
      obtain ⟨j, hj, hb2⟩ := hFO b hc
      exact hg.disj k j (hKGd k hk j hj) b hb1 hb2
    · rcases List.mem_append.1 hb with hb | hb
      · obtain ⟨k, _, hb1⟩ := hFR b hb; exact hg.mfoot k b hb1
      · obtain ⟨k, _, hb1⟩ := hFO b hb; exact hg.mfoot k b hb1
  cases e with
  | normal => exact key hq
  | ret => exact key hq
  | exit id => exact hq.elim
  | goto l => exact hq.elim
  | panic ch => exact hq.elim
  | outgrown => exact hq.elim


end Go.Proofs.Ytkcpbahcnlhmjaa.V
