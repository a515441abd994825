/-
  A call, by the callee's contract: 'does_call'.
-/
import Derived.Test.YtkcpbahcnlhmjaaV16
namespace Go.Proofs.Ytkcpbahcnlhmjaa.V
open Go
set_option linter.unusedVariables false
set_option linter.unusedSimpArgs false

structure TOk (h : Heap) (w : World) (locs : Locs) (w' : World) (RO : Nat → Prop) (M : List Nat) (k : Nat) (o : VO) (L : Loc) (Fk : List Nat) : Prop where
  obj : ObjOk w' RO o L
  row : ∃ n es dp g ver, o = .row n es dp g ver ∧ (h k = .gone → g ≠ 0)
  nodup : L.foot.Nodup
  foot : ∀ b ∈ L.foot, b ∈ Fk ∨ (b ∈ (locs k).foot ∧ b ∉ M)
  step : ∀ (h' : Heap) (locs' : Locs), h' k = o → locs' k = L → OStep locs h w locs' h' w' k

section
variable {w0 : World} {M0 : Nat → Prop} {A0 : Cx} {h : Heap} {w : World} {locs : Locs} {RO : Nat → Prop}

theorem es_zs (hg : Good w0 M0 A0 h w locs RO) {w' : World} {E : List (Nat × VO)} {Ls : List Loc} {F M : List Nat} (hE : EsOk h w locs w' RO E Ls F M) : ∀ (Mt : List Nat), (keys E).Nodup → (∀ b ∈ Mt, b ∈ M ∨ ∀ k ∈ keys E, b ∉ (locs k).foot) →
    Zs (TOk h w locs w' RO Mt) E Ls F := by
  induction hE with
  | nil => intro Mt _ _; exact .nil
  | cons h1 t ih =>
    rename_i k o L Fk Mk F M E Ls
    intro Mt hn hM
    simp only [keys, List.map_cons, List.nodup_cons] at hn
    refine .cons ⟨h1.obj, ?_, h1.nodup, fun b hb => ?_, fun h' locs' e1 e2 => ?_⟩ (ih Mt hn.2 fun b hb => ?_)
    · obtain ⟨n, es, g, ver, es', ver', e1, e2, _⟩ := h1.row
      exact ⟨n, es', true, g, ver', e2, fun hh => by rw [e1] at hh; cases hh⟩
    · rcases h1.foot b hb with h2 | ⟨h2, h3⟩
      · exact .inl h2
      · refine .inr ⟨h2, fun hm => ?_⟩
        rcases hM b hm with h4 | h4
        · rcases List.mem_append.1 h4 with h4 | h4
          · exact h3 h4
          · obtain ⟨l, hl, hb2⟩ := t.mine b h4
            exact hg.disj k l (fun e => hn.1 (e ▸ hl)) b h2 hb2
        · exact h4 k (by simp [keys]) h2
    · obtain ⟨n, es, g, ver, es', ver', e3, e4, e5, e6⟩ := h1.row
      unfold OStep
      rw [e3]
      refine ⟨es', true, g, ver', by rw [e1, e4], Nat.le_refl _, e5, fun _ => by rw [e2]; exact h1.same, fun _ hv => ⟨rfl, fun i j e m us v k1 k2 k3 => ?_⟩⟩
      rw [e2]
      exact e6 hv i j e m us v k1 k2 k3
    · rcases hM b hb with h4 | h4
      · rcases List.mem_append.1 h4 with h4 | h4
        · refine .inr fun l hl hb2 => ?_
          exact hg.disj k l (fun e => hn.1 (e ▸ hl)) b (h1.mine b h4) hb2
        · exact .inl h4
      · exact .inr fun l hl => h4 l (by simp only [keys, List.map_cons, List.mem_cons]; exact .inr hl)

theorem EsOk.lens {w' : World} {E : List (Nat × VO)} {Ls : List Loc} {F M : List Nat} (hE : EsOk h w locs w' RO E Ls F M) : Ls.length = E.length := by
  induction hE <;> simp_all

/-- Many objects are turned at once, and new ones made. -/
theorem touch_zs (hg : Good w0 M0 A0 h w locs RO) {w' : World} {M : List Nat} {E : List (Nat × VO)} {Ls : List Loc} {F : List Nat} (hkept : Kept (· ∈ M) w w') (hM : ∀ b ∈ M, ∃ k ∈ keys E, b ∈ (locs k).foot)
    (hz : Zs (TOk h w locs w' RO M) E Ls F) (hn : (keys E).Nodup) (hF : F.Nodup) (hFM : ∀ b ∈ F, b ∈ M ∨ w.heap.size ≤ b) :
    Touch h w locs (updAll h E) w' (updLs locs E Ls) RO (· ∈ keys E) (· ∈ M) (fun _ => False) where
  kept := hkept
  only b hb := hM b hb
  same k hk := ⟨updAll_not hk, updLs_not hk⟩
  obj k hk := by
    obtain ⟨o, L, Fk, e1, e2, ht, _⟩ := hz.get hn h locs hk
    rw [e1, e2]; exact ht.obj
  cells k hk cs hc := by
    obtain ⟨o, L, Fk, e1, e2, ht, _⟩ := hz.get hn h locs hk
    obtain ⟨n, es, dp, g, ver, e3, _⟩ := ht.row
    rw [e1, e3] at hc; cases hc
  live k hk cs hc := by
    obtain ⟨o, L, Fk, e1, e2, ht, _⟩ := hz.get hn h locs hk
    obtain ⟨n, es, dp, g, ver, e3, _⟩ := ht.row
    rw [e1, e3] at hc; cases hc
  nodup k hk := by
    obtain ⟨o, L, Fk, e1, e2, ht, _⟩ := hz.get hn h locs hk
    rw [e2]; exact ht.nodup
  foot k hk b hb := by
    obtain ⟨o, L, Fk, e1, e2, ht, hs⟩ := hz.get hn h locs hk
    rw [e2] at hb
    rcases ht.foot b hb with h1 | ⟨h1, _⟩
    · rcases hFM b (hs b h1) with h2 | h2
      · exact .inr (hM b h2)
      · exact .inl h2
    · exact .inr ⟨k, hk, h1⟩
  disj k l hk hl hkl b hb hb2 := by
    obtain ⟨o, L, Fk, o', L', Fl, e1, e2, ht, hs, e3, e4, ht', hs', hd⟩ := hz.two hn hF h locs hk hl hkl
    rw [e2] at hb
    rw [e4] at hb2
    have key : ∀ {k : Nat} {Fl : List Nat}, b ∈ (locs k).foot → b ∉ M → (∀ b ∈ Fl, b ∈ F) → b ∈ Fl → False := by
      intro k Fl h1 h2 h3 h4
      rcases hFM b (h3 b h4) with h5 | h5
      · exact h2 h5
      · have := hg.lt h1; omega
    rcases ht.foot b hb with h1 | ⟨h1, h2⟩
    · rcases ht'.foot b hb2 with h3 | ⟨h3, h4⟩
      · exact hd b h1 h3
      · exact key h3 h4 hs h1
    · rcases ht'.foot b hb2 with h3 | ⟨h3, h4⟩
      · exact key h1 h2 hs' h3
      · exact hg.disj k l hkl b h1 h3
  step k hk _ := by
    obtain ⟨o, L, Fk, e1, e2, ht, _⟩ := hz.get hn h locs hk
    exact ht.step _ _ e1 e2
  sub o ho := ho.elim
  fresh k hk hgo n es dp ver := by
    obtain ⟨o, L, Fk, e1, e2, ht, _⟩ := hz.get hn h locs hk
    obtain ⟨n', es', dp', g, ver', e3, e4⟩ := ht.row
    rw [e1, e3]
    intro e
    injection e with _ _ _ e _
    exact e4 hgo e
  killed o ho := ho.elim
  clean _ _ _ _ _ _ _ := not_false
end

section
variable {P : Program} {o : Oper} {t : List Slot} {h : Heap}

theorem does_enter {f : FuncId} {xs : List Operand} {as : List Arg} {res : List DV} {R : List Nat} {E : List (Nat × VO)} {k : Nat} (htr : Tr P f as res) (ha : ArgsV t h xs as R E) (hk : (keys E).Nodup)
    (hR : ∀ r ∈ R, r ∉ keys E) (hres : simpleR res = true) (hfree : ∀ i, i < (objsR res).length → h (k + i) = .gone)
    (hop : ∀ (w0 : World) (M0 : Nat → Prop) (A0 : Cx) (locs : Locs) (RO : Nat → Prop) (a : Act) (w : World), Good w0 M0 A0 h w locs RO → Tmps locs h w RO t a → (execOp a.eval o).run P w = .ok (.enter f (xs.map a.eval).toArray) w) :
    Does P o ⟨t, h⟩ ⟨putT t o.dst (resSlot k res), updAll h (E ++ newsAt k (objsR res))⟩ := by
  intro w0 M0 A0 a w K Q ⟨locs, RO, hg, hm⟩ hK
  obtain ⟨FA, M, q1, q2, q3, q4, q5⟩ := ha.sound hg hm hk
  have hdis : ∀ b ∈ M, b ∉ FA := fun b hb hbf => by
    obtain ⟨j, hj, hbj⟩ := q4 b hb
    rcases q2 b hbf with h1 | ⟨r, hr, h1⟩
    · exact hg.noro j b hbj h1
    · exact hg.disj j r (fun e => hR r hr (e ▸ hj)) b hbj h1
  simp only [Oper.wp, hop w0 M0 A0 locs RO a w hg hm, Oper.upon]
  refine Calls.mono (htr.tr w _ FA M q1 q3 hdis) fun e w' ⟨v, rs, FR, FO, e1, e2, e3, e4, e5, e6, e7⟩ => ?_
  subst e1
  obtain ⟨n1, n2, n3⟩ := List.nodup_append.1 e5
  obtain ⟨LsE, hE⟩ := q5 w' FO (fun j hj b hb hbm => e7.blk b (hg.lt hb) hbm) (fun b hb j hj hbj => (e6 b (by simp [hb])).resolve_right (by have := hg.lt hbj; omega)) e4 n2
  obtain ⟨LsR, hin, hfl⟩ := inR_of (RO := RO) e3 hres
  obtain ⟨hlen, hobjs⟩ := hin.objs
  obtain ⟨fn1, fn2⟩ := flat_nodup (hfl ▸ n1)
  have hkk : ∀ j, j ∈ keys E → j ∉ keys (newsAt k (objsR res)) := by
    intro j hj hj2
    obtain ⟨h1, h2⟩ := newsAt_keys.1 hj2
    have h3 := hfree (j - k) (by omega)
    rw [Nat.add_sub_cancel' h1] at h3
    have key : ∀ {E : List (Nat × VO)} {Ls : List Loc} {F M : List Nat}, EsOk h w locs w' RO E Ls F M → j ∈ keys E → h j ≠ .gone := by
      intro E Ls F M hE
      induction hE with
      | nil => intro hh; simp [keys] at hh
      | cons h1 t ih =>
        intro hh
        simp only [keys, List.map_cons, List.mem_cons] at hh
        rcases hh with rfl | hh
        · obtain ⟨n, es, g, ver, es', ver', e1, _⟩ := h1.row
          rw [e1]; simp
        · exact ih hh
    exact key hE hj h3
  have hnk : (keys (E ++ newsAt k (objsR res))).Nodup := by
    simp only [keys, List.map_append]
    exact List.nodup_append.2 ⟨hk, newsAt_nodup, fun j hj l hl e => hkk j hj (e ▸ hl)⟩
  have hz : Zs (TOk h w locs w' RO M) (E ++ newsAt k (objsR res)) (LsE ++ LsR) (FO ++ FR) := by
    refine (es_zs hg hE M hk fun b hb => .inl hb).append ?_
    rw [← hfl]
    refine zs_news hlen fun i o' L h1 h2 => ?_
    obtain ⟨L', h3, h4⟩ := hobjs i o' h1
    rw [h2] at h3
    injection h3 with h3
    subst h3
    obtain ⟨n, es, e⟩ := objsR_row (List.mem_of_getElem? h1)
    have hgo := hfree i (List.getElem?_eq_some_iff.1 h1).1
    refine ⟨h4, ⟨n, es, true, 1, 0, e, fun _ => by simp⟩, fn1 i L h2, fun b hb => .inl hb, fun h' locs' _ _ => ?_⟩
    unfold OStep
    show (match h (k + i) with | .gone => True | .var _ => _ | .row .. => _)
    rw [hgo]; trivial
  have hnF : (FO ++ FR).Nodup := List.nodup_append.2 ⟨n2, n1, fun b hb c hc e => n3 c hc b hb e.symm⟩
  have ht := touch_zs hg e7 (fun b hb => by
    obtain ⟨j, hj, hbj⟩ := q4 b hb
    exact ⟨j, by simp only [keys, List.map_append, List.mem_append]; exact .inl hj, hbj⟩) hz hnk hnF (fun b hb => e6 b (by
      rcases List.mem_append.1 hb with hb | hb
      · simp [hb]
      · simp [hb]))
  have hloc : ∀ i L, LsR[i]? = some L → updLs locs (E ++ newsAt k (objsR res)) (LsE ++ LsR) (k + i) = L := fun i L hL => by
    rw [updLs_append hE.lens]; exact newsL_get _ i L hlen hL
  have hhp : ∀ i o', (objsR res)[i]? = some o' → updAll h (E ++ newsAt k (objsR res)) (k + i) = o' := fun i o' ho' => by
    rw [updAll_append]; exact news_get _ i o' ho'
  refine hK _ _ ⟨_, RO, hg.step ht, (Tmps.step hg ht hm fun _ _ _ => not_false).put _ (resSlot_rel e2 (hin.trel k _ _ hloc hhp)) fun j hj => ?_⟩
  obtain ⟨h1, h2⟩ := resSlot_refs j hj
  have hlt : j - k < (objsR res).length := by omega
  have h3 := hhp (j - k) _ (List.getElem?_eq_getElem hlt)
  rw [Nat.add_sub_cancel' h1] at h3
  obtain ⟨n, es, e⟩ := objsR_row (List.getElem_mem hlt)
  simp only
  rw [h3, e]; simp

theorem does_enterX {f : FuncId} {xs : List Operand} {as : List Arg} {Φ : List DV → Prop} {R : List Nat} {E : List (Nat × VO)} {k : Nat} (htr : TrX P f as Φ) (ha : ArgsV t h xs as R E) (hk : (keys E).Nodup)
    (hR : ∀ r ∈ R, r ∉ keys E) (hΦ : ∀ res, Φ res → simpleR res = true ∧ objsR res = [])
    (hop : ∀ (w0 : World) (M0 : Nat → Prop) (A0 : Cx) (locs : Locs) (RO : Nat → Prop) (a : Act) (w : World), Good w0 M0 A0 h w locs RO → Tmps locs h w RO t a → (execOp a.eval o).run P w = .ok (.enter f (xs.map a.eval).toArray) w) :
    DoesS P o ⟨t, h⟩ (fun st => ∃ res, Φ res ∧ st = ⟨putT t o.dst (resSlot k res), updAll h E⟩) := by
  intro w0 M0 A0 a w K Q ⟨locs, RO, hg, hm⟩ hK
  obtain ⟨FA, M, q1, q2, q3, q4, q5⟩ := ha.sound hg hm hk
  have hdis : ∀ b ∈ M, b ∉ FA := fun b hb hbf => by
    obtain ⟨j, hj, hbj⟩ := q4 b hb
    rcases q2 b hbf with h1 | ⟨r, hr, h1⟩
    · exact hg.noro j b hbj h1
    · exact hg.disj j r (fun e => hR r hr (e ▸ hj)) b hbj h1
  simp only [Oper.wp, hop w0 M0 A0 locs RO a w hg hm, Oper.upon]
  refine Calls.mono (htr.tr w _ FA M q1 q3 hdis) fun e w' ⟨res, hph, v, rs, FR, FO, e1, e2, e3, e4, e5, e6, e7⟩ => ?_
  subst e1
  obtain ⟨hres, hno⟩ := hΦ res hph
  have hfree : ∀ i, i < (objsR res).length → h (k + i) = .gone := by rw [hno]; intro i hi; simp at hi
  obtain ⟨n1, n2, n3⟩ := List.nodup_append.1 e5
  obtain ⟨LsE, hE⟩ := q5 w' FO (fun j hj b hb hbm => e7.blk b (hg.lt hb) hbm) (fun b hb j hj hbj => (e6 b (by simp [hb])).resolve_right (by have := hg.lt hbj; omega)) e4 n2
  obtain ⟨LsR, hin, hfl⟩ := inR_of (RO := RO) e3 hres
  obtain ⟨hlen, hobjs⟩ := hin.objs
  obtain ⟨fn1, fn2⟩ := flat_nodup (hfl ▸ n1)
  have hkk : ∀ j, j ∈ keys E → j ∉ keys (newsAt k (objsR res)) := by
    intro j hj hj2
    obtain ⟨h1, h2⟩ := newsAt_keys.1 hj2
    have h3 := hfree (j - k) (by omega)
    rw [Nat.add_sub_cancel' h1] at h3
    have key : ∀ {E : List (Nat × VO)} {Ls : List Loc} {F M : List Nat}, EsOk h w locs w' RO E Ls F M → j ∈ keys E → h j ≠ .gone := by
      intro E Ls F M hE
      induction hE with
      | nil => intro hh; simp [keys] at hh
      | cons h1 t ih =>
        intro hh
        simp only [keys, List.map_cons, List.mem_cons] at hh
        rcases hh with rfl | hh
        · obtain ⟨n, es, g, ver, es', ver', e1, _⟩ := h1.row
          rw [e1]; simp
        · exact ih hh
    exact key hE hj h3
  have hnk : (keys (E ++ newsAt k (objsR res))).Nodup := by
    simp only [keys, List.map_append]
    exact List.nodup_append.2 ⟨hk, newsAt_nodup, fun j hj l hl e => hkk j hj (e ▸ hl)⟩
  have hz : Zs (TOk h w locs w' RO M) (E ++ newsAt k (objsR res)) (LsE ++ LsR) (FO ++ FR) := by
    refine (es_zs hg hE M hk fun b hb => .inl hb).append ?_
    rw [← hfl]
    refine zs_news hlen fun i o' L h1 h2 => ?_
    obtain ⟨L', h3, h4⟩ := hobjs i o' h1
    rw [h2] at h3
    injection h3 with h3
    subst h3
    obtain ⟨n, es, e⟩ := objsR_row (List.mem_of_getElem? h1)
    have hgo := hfree i (List.getElem?_eq_some_iff.1 h1).1
    refine ⟨h4, ⟨n, es, true, 1, 0, e, fun _ => by simp⟩, fn1 i L h2, fun b hb => .inl hb, fun h' locs' _ _ => ?_⟩
    unfold OStep
    show (match h (k + i) with | .gone => True | .var _ => _ | .row .. => _)
    rw [hgo]; trivial
  have hnF : (FO ++ FR).Nodup := List.nodup_append.2 ⟨n2, n1, fun b hb c hc e => n3 c hc b hb e.symm⟩
  have ht := touch_zs hg e7 (fun b hb => by
    obtain ⟨j, hj, hbj⟩ := q4 b hb
    exact ⟨j, by simp only [keys, List.map_append, List.mem_append]; exact .inl hj, hbj⟩) hz hnk hnF (fun b hb => e6 b (by
      rcases List.mem_append.1 hb with hb | hb
      · simp [hb]
      · simp [hb]))
  have hloc : ∀ i L, LsR[i]? = some L → updLs locs (E ++ newsAt k (objsR res)) (LsE ++ LsR) (k + i) = L := fun i L hL => by
    rw [updLs_append hE.lens]; exact newsL_get _ i L hlen hL
  have hhp : ∀ i o', (objsR res)[i]? = some o' → updAll h (E ++ newsAt k (objsR res)) (k + i) = o' := fun i o' ho' => by
    rw [updAll_append]; exact news_get _ i o' ho'
  refine hK _ _ _ ⟨res, hph, rfl⟩ (by
   have e9 : updAll h E = updAll h (E ++ newsAt k (objsR res)) := by rw [hno]; simp [newsAt]
   rw [e9]
   exact ⟨_, RO, hg.step ht, (Tmps.step hg ht hm fun _ _ _ => not_false).put _ (resSlot_rel e2 (hin.trel k _ _ hloc hhp)) fun j hj => by
    obtain ⟨h1, h2⟩ := resSlot_refs j hj
    rw [hno] at h2; simp at h2; omega⟩)

theorem does_callX {f : FuncId} {args : Array Operand} {ats : Array TypeId} {as : List Arg} {Φ : List DV → Prop} {R : List Nat} {E : List (Nat × VO)} (k : Nat) (ho : o.op = .call { callee := .value (.func f), args := args, argTypes := ats })
    (htr : TrX P f as Φ) (ha : ArgsV t h args.toList as R E) (hk : (keys E).Nodup) (hR : ∀ r ∈ R, r ∉ keys E) (hΦ : ∀ res, Φ res → simpleR res = true ∧ objsR res = []) :
    DoesS P o ⟨t, h⟩ (fun st => ∃ res, Φ res ∧ st = ⟨putT t o.dst (resSlot k res), updAll h E⟩) :=
  does_enterX htr ha hk hR hΦ fun w0 M0 A0 locs RO a w hg hm => by
    simp only [execOp, ho, resolve, Deferred.ofValue, Act.eval, Sem.run_bind, Sem.run_pure, Result.andThen_ok, invoke, Array.append_empty, Array.empty_append]
    rw [htr.ent.run]
    have e : Array.map a.eval args = (List.map a.eval args.toList).toArray := by rw [← Array.toList_map]
    rw [← e]
theorem does_call {f : FuncId} {args : Array Operand} {ats : Array TypeId} {as : List Arg} {res : List DV} {R : List Nat} {E : List (Nat × VO)} (k : Nat) (ho : o.op = .call { callee := .value (.func f), args := args, argTypes := ats })
    (htr : Tr P f as res) (ha : ArgsV t h args.toList as R E) (hk : (keys E).Nodup) (hR : ∀ r ∈ R, r ∉ keys E) (hres : simpleR res = true) (hfree : ∀ i, i < (objsR res).length → h (k + i) = .gone) :
    Does P o ⟨t, h⟩ ⟨putT t o.dst (resSlot k res), updAll h (E ++ newsAt k (objsR res))⟩ :=
  does_enter htr ha hk hR hres hfree fun w0 M0 A0 locs RO a w hg hm => by
    simp only [execOp, ho, resolve, Deferred.ofValue, Act.eval, Sem.run_bind, Sem.run_pure, Result.andThen_ok, invoke, Array.append_empty, Array.empty_append]
    rw [htr.ent.run]
    have e : Array.map a.eval args = (List.map a.eval args.toList).toArray := by rw [← Array.toList_map]
    rw [← e]
end

end Go.Proofs.Ytkcpbahcnlhmjaa.V
