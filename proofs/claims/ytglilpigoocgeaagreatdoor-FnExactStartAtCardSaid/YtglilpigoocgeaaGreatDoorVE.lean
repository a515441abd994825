/-
  Strings put together; calls that are given rows to keep; clearing; a row appended to its own front.
  A row appended to its own front; parts of rows of the call's own.
  Long lists of numbers; literals that fit; joins of the labels of a name.
-/
import Derived.Test.YtglilpigoocgeaaGreatDoorVC
set_option linter.unusedVariables false
set_option linter.unusedSimpArgs false
namespace Go.Proofs.YtglilpigoocgeaaGreatDoor.V
open Go
set_option linter.unusedVariables false
set_option linter.unusedSimpArgs false

section
variable {P : Program} {o : Oper} {t : List Slot} {h : Heap}
/-- A tuple, handed on. -/
theorem zmvt {i : Nat} {l : List TV} (ho : o.op = .move (.tmp i) ∨ o.op = .assign (.tmp i)) (he : getT t i = .tu l) : Yield P o t h (.tu l) := by
  intro w0 M0 A0 locs RO a w hg hm
  have h1 := hm.2.2.1 i
  have h2 := hm.2.2.2 i
  rw [he] at h1 h2
  refine ⟨a.eval (.tmp i), ?_, h1, h2⟩
  rcases ho with ho | ho <;> simp [execOp, ho]
end
/-! ### own arguments -/
section
variable {w0 : World} {M0 : Nat → Prop} {A0 : Cx} {h : Heap} {w w' : World} {locs : Locs} {RO : Nat → Prop}
structure NOk (w' : World) (RO : Nat → Prop) (k : Nat) (o : VO) (L : Loc) (Fk : List Nat) : Prop where
  obj : ObjOk w' RO o L
  row : ∃ n es, o = .row n es true 1 0
  nodup : L.foot.Nodup
  foot : ∀ b ∈ L.foot, b ∈ Fk
theorem touch_newsK (hg : Good w0 M0 A0 h w locs RO) {K M F : List Nat} {news : List (Nat × VO)} {Ls : List Loc} (hkept : Kept (· ∈ M) w w') (hM : ∀ b ∈ M, ∃ k ∈ K, b ∈ (locs k).foot) (hz : Zs (NOk w' RO) news Ls F)
    (hn : (keys news).Nodup) (hF : F.Nodup) (hFM : ∀ b ∈ F, b ∈ M ∨ w.heap.size ≤ b) (hgone : ∀ k ∈ keys news, h k = .gone) (hK : ∀ k ∈ K, h k ≠ .gone) :
    Touch (eraseH K h) w locs (updAll (letgo K h) news) w' (updLs (offL K locs) news Ls) RO (fun k => k ∈ keys news ∨ k ∈ K) (· ∈ M) (· ∈ K) := by
  have hKn : ∀ k ∈ K, k ∉ keys news := fun k hk hk2 => hK k hk (hgone k hk2)
  have hsame : ∀ k, k ∉ keys news → k ∉ K → updAll (letgo K h) news k = eraseH K h k ∧ updLs (offL K locs) news Ls k = locs k := by
    intro k h1 h2
    have : K.contains k = false := by simpa using h2
    exact ⟨by rw [updAll_not h1]; simp only [letgo, killH, this]; rfl, by rw [updLs_not h1]; simp only [offL, this]; rfl⟩
  have hdead : ∀ k ∈ K, updAll (letgo K h) news k = .gone ∧ (updLs (offL K locs) news Ls k).foot = [] := by
    intro k hk
    have : K.contains k = true := by simpa using hk
    exact ⟨by rw [updAll_not (hKn k hk)]; simp only [letgo, killH, this]; rfl, by rw [updLs_not (hKn k hk)]; simp only [offL, this]; rfl⟩
  have hnew : ∀ k ∈ keys news, ∃ L, (∃ n es, updAll (letgo K h) news k = .row n es true 1 0) ∧ updLs (offL K locs) news Ls k = L ∧ ObjOk w' RO (updAll (letgo K h) news k) L ∧ L.foot.Nodup ∧ ∀ b ∈ L.foot, b ∈ F := by
    intro k hk
    obtain ⟨o, L, Fk, e1, e2, ht, hs⟩ := hz.get hn (letgo K h) (offL K locs) hk
    obtain ⟨n, es, e3⟩ := ht.row
    exact ⟨L, ⟨n, es, by rw [e1, e3]⟩, e2, by rw [e1]; exact ht.obj, ht.nodup, fun b hb => hs b (ht.foot b hb)⟩
  exact {
    kept := hkept
    only := fun b hb => by obtain ⟨k, hk, hb2⟩ := hM b hb; exact ⟨k, .inr hk, hb2⟩
    same := fun k hk => by simp only [not_or] at hk; exact hsame k hk.1 hk.2
    obj := fun k hk => by
      rcases hk with hk | hk
      · obtain ⟨L, _, e2, ho, _⟩ := hnew k hk
        rw [e2]; exact ho
      · obtain ⟨e1, e2⟩ := hdead k hk
        rw [e1]; exact e2
    cells := fun k hk cs hc => by
      rcases hk with hk | hk
      · obtain ⟨L, ⟨n, es, e1⟩, _⟩ := hnew k hk
        rw [e1] at hc; cases hc
      · rw [(hdead k hk).1] at hc; cases hc
    live := fun k hk cs hc => by
      rcases hk with hk | hk
      · obtain ⟨L, ⟨n, es, e1⟩, _⟩ := hnew k hk
        rw [e1] at hc; cases hc
      · rw [(hdead k hk).1] at hc; cases hc
    nodup := fun k hk => by
      rcases hk with hk | hk
      · obtain ⟨L, _, e2, _, hd, _⟩ := hnew k hk
        rw [e2]; exact hd
      · rw [(hdead k hk).2]; exact List.nodup_nil
    foot := fun k hk b hb => by
      rcases hk with hk | hk
      · obtain ⟨L, _, e2, _, _, hs⟩ := hnew k hk
        rw [e2] at hb
        rcases hFM b (hs b hb) with h1 | h1
        · obtain ⟨l, hl, hb2⟩ := hM b h1; exact .inr ⟨l, .inr hl, hb2⟩
        · exact .inl h1
      · rw [(hdead k hk).2] at hb; simp at hb
    disj := fun k l hk hl hne b hb => by
      rcases hk with hk | hk
      · rcases hl with hl | hl
        · obtain ⟨o, L, Fk, o', L', Fl, e1, e2, ht, hs, e3, e4, ht', hs', hd⟩ := hz.two hn hF (letgo K h) (offL K locs) hk hl hne
          rw [e2] at hb
          rw [e4]
          exact fun hb2 => hd b (ht.foot b hb) (ht'.foot b hb2)
        · rw [(hdead l hl).2]; simp
      · rw [(hdead k hk).2] at hb; simp at hb
    step := fun k hk hKk => by
      have hk' := hk.resolve_right hKk
      unfold OStep
      have : eraseH K h k = .gone := by simp only [eraseH, hgone k hk']
      rw [this]; trivial
    sub := fun k hk => .inr hk
    clean := eraseH_clean
    fresh := fun k hk hgo n es dp ver => by
      rcases hk with hk | hk
      · obtain ⟨L, ⟨n', es', e1⟩, _⟩ := hnew k hk
        rw [e1]; intro e; injection e with _ _ _ e _; cases e
      · rw [(hdead k hk).1]; simp
    killed := fun k hk => (hdead k hk).1 }

theorem AbsD.live {cs : List VC} {ds : List Dat} {K : List Nat} (ha : AbsD h cs ds K) : ∀ k ∈ K, h k ≠ .gone := by
  induction ha with
  | nil => simp
  | lf t ih => exact ih
  | nl t ih => exact ih
  | nlx t ih => exact ih
  | nild t ih => exact ih
  | sr hk hl hu t ih =>
    intro k hk'
    rcases List.mem_cons.1 hk' with rfl | hk'
    · rw [hk]; simp
    · exact ih k hk'

/-- What is handed over: read ('R': the objects), given away ('K'). -/
inductive ArgsO (t : List Slot) (h : Heap) : List Operand → List Arg → List Nat → List Nat → Prop
  | nil : ArgsO t h [] [] [] []
  | ro {x : Operand} {y : TV} {ds : List Dat} {R R' K : List Nat} {xs : List Operand} {as : List Arg} (he : Ev t x y) (hr : RdL h y.cs ds R) (tl : ArgsO t h xs as R' K) :
      ArgsO t h (x :: xs) (.ro ⟨y.ag, ds⟩ :: as) (R ++ R') K
  | own {x : Operand} {y : TV} {ds : List Dat} {R' K1 K : List Nat} {xs : List Operand} {as : List Arg} (he : Ev t x y) (ha : AbsD h y.cs ds K1) (tl : ArgsO t h xs as R' K) :
      ArgsO t h (x :: xs) (.own ⟨y.ag, ds⟩ :: as) R' (K1 ++ K)

theorem ArgsO.live {t : List Slot} {xs : List Operand} {as : List Arg} {R K : List Nat} (ha : ArgsO t h xs as R K) : ∀ k ∈ K, h k ≠ .gone := by
  induction ha with
  | nil => simp
  | ro he hr tl ih => exact ih
  | own he ha tl ih =>
    intro k hk
    rcases List.mem_append.1 hk with hk | hk
    · exact ha.live k hk
    · exact ih k hk

theorem ArgsO.sound {t : List Slot} {a : Act} (hg : Good w0 M0 A0 h w locs RO) (hm : Tmps locs h w RO t a) {xs : List Operand} {as : List Arg} {R K : List Nat} (ha : ArgsO t h xs as R K) : K.Nodup →
    ∃ FA M, ArgsIn w as (xs.map a.eval) FA M ∧ (∀ b ∈ FA, RO b ∨ ∃ k ∈ R, b ∈ (locs k).foot) ∧ M.Nodup ∧ (∀ b ∈ M, ∃ k ∈ K, b ∈ (locs k).foot) := by
  induction ha with
  | nil => exact fun _ => ⟨[], [], .nil, by simp, List.nodup_nil, by simp⟩
  | ro he hr tl ih =>
    intro hK
    obtain ⟨FA, M, q1, q2, q3, q4⟩ := ih hK
    obtain ⟨e1, _⟩ := hm.ev he
    obtain ⟨vs, hc, hall⟩ := cells_of_trel e1
    obtain ⟨F, r1, r2⟩ := hr.sound hg hall
    refine ⟨F ++ FA, M, .ro ⟨vs, hc, r1⟩ q1, fun b hb => ?_, q3, q4⟩
    rcases List.mem_append.1 hb with hb | hb
    · rcases r2 b hb with h1 | ⟨k, h1, h3⟩
      · exact .inl h1
      · exact .inr ⟨k, by simp [h1], h3⟩
    · rcases q2 b hb with h1 | ⟨k, h1, h3⟩
      · exact .inl h1
      · exact .inr ⟨k, by simp [h1], h3⟩
  | own he hab tl ih =>
    intro hK
    obtain ⟨k1, k2, k3⟩ := List.nodup_append.1 hK
    obtain ⟨FA, M, q1, q2, q3, q4⟩ := ih k2
    obtain ⟨e1, _⟩ := hm.ev he
    obtain ⟨vs, hc, hall⟩ := cells_of_trel e1
    obtain ⟨F, r1, r2, r3⟩ := hab.sound hg hall k1
    refine ⟨FA, F ++ M, .own ⟨vs, hc, r1⟩ q1, q2, List.nodup_append.2 ⟨r2, q3, fun b hb c hcc e => ?_⟩, fun b hb => ?_⟩
    · subst e
      obtain ⟨k, hk, hb1⟩ := r3 b hb
      obtain ⟨l, hl, hb2⟩ := q4 b hcc
      exact hg.disj k l (k3 k hk l hl) b hb1 hb2
    · rcases List.mem_append.1 hb with hb | hb
      · obtain ⟨k, hk, hb1⟩ := r3 b hb; exact ⟨k, by simp [hk], hb1⟩
      · obtain ⟨k, hk, hb1⟩ := q4 b hb; exact ⟨k, by simp [hk], hb1⟩
end

section
variable {P : Program} {o : Oper} {t : List Slot} {h : Heap}
theorem does_callO {f : FuncId} {args : Array Operand} {ats : Array TypeId} {as : List Arg} {res : List DV} {R K : List Nat} (k : Nat) (ho : o.op = .call { callee := .value (.func f), args := args, argTypes := ats })
    (htr : Tr P f as res) (ha : ArgsO t h args.toList as R K) (hK : K.Nodup) (hR : ∀ r ∈ R, r ∉ K) (hres : simpleR res = true) (hfree : ∀ i, i < (objsR res).length → h (k + i) = .gone) :
    Does P o ⟨t, h⟩ ⟨putT (t.map (eraseS K)) o.dst (resSlot k res), updAll (letgo K h) (newsAt k (objsR res))⟩ := by
  intro w0 M0 A0 a w Kc Q ⟨locs, RO, hg, hm⟩ hKc
  obtain ⟨FA, M, q1, q2, q3, q4⟩ := ha.sound hg hm hK
  have hdis : ∀ b ∈ M, b ∉ FA := fun b hb hbf => by
    obtain ⟨j, hj, hbj⟩ := q4 b hb
    rcases q2 b hbf with h1 | ⟨r, hr, h1⟩
    · exact hg.noro j b hbj h1
    · exact hg.disj j r (fun e => hR r hr (e ▸ hj)) b hbj h1
  have hop : (execOp a.eval o).run P w = .ok (.enter f (args.toList.map a.eval).toArray) w := by
    simp only [execOp, ho, resolve, Deferred.ofValue, Act.eval, Sem.run_bind, Sem.run_pure, Result.andThen_ok, invoke, Array.append_empty, Array.empty_append]
    rw [htr.ent.run]
    have e : Array.map a.eval args = (List.map a.eval args.toList).toArray := by rw [← Array.toList_map]
    rw [← e]
  simp only [Oper.wp, hop, Oper.upon]
  refine Calls.mono (htr.tr w _ FA M q1 q3 hdis) fun e w' ⟨v, rs, FR, FO, e1, e2, e3, e4, e5, e6, e7⟩ => ?_
  subst e1
  obtain ⟨n1, _, _⟩ := List.nodup_append.1 e5
  obtain ⟨LsR, hin, hfl⟩ := inR_of (RO := RO) e3 hres
  obtain ⟨hlen, hobjs⟩ := hin.objs
  obtain ⟨fn1, fn2⟩ := flat_nodup (hfl ▸ n1)
  have hz : Zs (NOk w' RO) (newsAt k (objsR res)) LsR FR := by
    rw [← hfl]
    refine zs_news hlen fun i o' L h1 h2 => ?_
    obtain ⟨L', h3, h4⟩ := hobjs i o' h1
    rw [h2] at h3
    injection h3 with h3
    subst h3
    obtain ⟨n, es, e⟩ := objsR_row (List.mem_of_getElem? h1)
    exact ⟨h4, ⟨n, es, e⟩, fn1 i L h2, fun b hb => hb⟩
  have ht := touch_newsK (K := K) hg e7 q4 hz newsAt_nodup n1 (fun b hb => e6 b (by simp [hb])) (fun j hj => by
    obtain ⟨h1, h2⟩ := newsAt_keys.1 hj
    have h3 := hfree (j - k) (by omega)
    rwa [Nat.add_sub_cancel' h1] at h3) ha.live
  have hloc : ∀ i L, LsR[i]? = some L → updLs (offL K locs) (newsAt k (objsR res)) LsR (k + i) = L := fun i L hL => newsL_get _ i L hlen hL
  have hhp : ∀ i o', (objsR res)[i]? = some o' → updAll (letgo K h) (newsAt k (objsR res)) (k + i) = o' := fun i o' ho' => news_get _ i o' ho'
  refine hKc _ _ ⟨_, RO, (hg.erase (K := K)).step ht, (Tmps.step hg.erase ht (Tmps.erase hm) fun _ => erase_clean).put _ (resSlot_rel e2 (hin.trel k _ _ hloc hhp)) fun j hj => ?_⟩
  obtain ⟨h1, h2⟩ := resSlot_refs j hj
  have hlt : j - k < (objsR res).length := by omega
  have h3 := hhp (j - k) _ (List.getElem?_eq_getElem hlt)
  rw [Nat.add_sub_cancel' h1] at h3
  obtain ⟨n, es, e⟩ := objsR_row (List.getElem_mem hlt)
  simp only
  rw [h3, e]; simp
end
section
variable {P : Program} {ops : Array Oper} {K : St → Prop} {o : Oper} {l : List Oper} {ov : List (Nat × Slot)} {n : Nat} {hv : List (Nat × VO)}
section
variable {t : List Slot} {h : Heap} {x : Operand} {xs : List Operand} {ag : Bool} {cs : List VC} {ds : List Dat} {as : List Arg} {R R' K1 K : List Nat}
theorem aor (he : Ev t x ⟨ag, cs⟩) (hr : RdL h cs ds R) (tl : ArgsO t h xs as R' K) : ArgsO t h (x :: xs) (.ro ⟨ag, ds⟩ :: as) (R ++ R') K := .ro he hr tl
theorem aoo (he : Ev t x ⟨ag, cs⟩) (ha : AbsD h cs ds K1) (tl : ArgsO t h xs as R' K) : ArgsO t h (x :: xs) (.own ⟨ag, ds⟩ :: as) R' (K1 ++ K) := .own he ha tl
end
/-- A call that is given rows to keep. -/
theorem zcallO {f : FuncId} {args : Array Operand} {ats : Array TypeId} {as : List Arg} {res : List DV} {R G : List Nat} (k : Nat) (r : Slot) (E' : List (Nat × VO)) (ho : o.op = .call { callee := .value (.func f), args := args, argTypes := ats })
    (htr : Tr P f as res) (ha : ArgsO (tl ov n) (hp hv) args.toList as R G) (hG : (nodupB G && R.all fun r => !G.contains r) = true) (hs : simpleR res = true) (hfree : ∀ i, i < (objsR res).length → hp hv (k + i) = .gone) (hr : resSlot k res = r) (hE : newsAt k (objsR res) = E') :
    Does P o (mk ov n hv) ⟨putT ((tl ov n).map (eraseS G)) o.dst r, updAll (letgo G (hp hv)) E'⟩ := by
  simp only [Bool.and_eq_true, List.all_eq_true] at hG
  rw [← hr, ← hE]
  exact does_callO k ho htr ha (nodupB_of hG.1) (fun r hr hk => by have := hG.2 r hr; simp at this; exact this hk) hs hfree
theorem sko {d : Nat} {G : List Nat} {E : List (Nat × VO)} {hv' : List (Nat × VO)} (r : Slot) (hy : Does P o (mk ov n hv) ⟨putT ((tl ov n).map (eraseS G)) o.dst r, updAll (letgo G (hp hv)) E⟩) (hg : o.guard = none) (hd : o.dst = some d)
    (hh : updsH (eraseHv G hv) E = hv') (hk : OpsL P ops l (mk ((d, r) :: eraseOv G ov) n hv') K) : OpsL P ops (o :: l) (mk ov n hv) K :=
  s_d hy hg (by rw [hd, tl_erase]; exact put_tl) (by rw [hp_erase, updAll_hp, hh]) hk
end

/-! ### clearing -/
section
variable {P : Program} {o : Oper} {t : List Slot} {h : Heap} {tab : List TyI}
theorem oneCell_zeros {z : Value} {n : Nat} (hz : ∀ v ∈ z.cells.toList, v.oneCell' = true) : ∀ v ∈ (Builtin.zeroCells z.cells n).toList, v.oneCell' = true := by
  intro v hv
  simp only [Builtin.zeroCells, Array.toList_map, Array.toList_range, List.mem_map, List.mem_range] at hv
  obtain ⟨i, hi, rfl⟩ := hv
  have hpos : 0 < z.cells.size := by
    rcases Nat.eq_zero_or_pos z.cells.size with h0 | h0
    · rw [h0] at hi; simp at hi
    · exact h0
  have hlt : i % z.cells.size < z.cells.size := Nat.mod_lt _ hpos
  rw [getElem!_pos z.cells _ hlt]
  exact hz _ (Array.getElem_mem_toList hlt)
/-- The rest of a row of the call's own is cleared: it is no part of the row any more. -/
theorem w_clear {T el : TypeId} {x : Operand} {k g off len room n ver : Nat} {es : List (List Dat)} {dp : Bool} (hT : TabOk P tab) (ho : o.op = .call { callee := .builtin .clear, args := #[x], argTypes := #[T] }) (hk : (ty tab T).k = .sl el)
    (hel : (ty tab el).ok = true) (hn : (ty tab el).sz = n) (hx : Ev t x ⟨false, [.sr k g off len room]⟩) (hh : h k = .row n es dp g ver) (hle : es.length ≤ off + len) :
    Does P o ⟨t, h⟩ ⟨putT t o.dst (.tu []), upd h k (.row n (es.take off) dp g (ver + 1))⟩ := by
  intro w0 M0 A0 a w K Q ⟨locs, RO, hg, hm⟩ hK
  obtain ⟨⟨n', es', dp', g0, ver', hc, hle0, hone, hp⟩, _⟩ := Tmps.ev1 hm hx
  simp only [hh] at hc
  injection hc with a1 a2 a3 a4 a5
  subst a1
  have hob := hg.obj k
  simp only [hh] at hob
  obtain ⟨hne, hobj⟩ := hob
  have hu := (hT T (by simp [TyI.ok, hk])).slice hk
  obtain ⟨f, d, h1, h2, h3, _, _, z, hz, hzc, _⟩ := (hT el hel).ex
  have hzv : (zeroValue el).run P w = .ok z w := by simp [zeroValue, typeInfo, h1, hz]
  have hzr := zcells_reps (w := w) hzc
  have hzs : z.cells.size = n := by
    have := hzr.length
    simp only [Array.length_toList] at this
    rw [this, (hT el hel).zl, hn]
  have hug : (underlying T).run P w = .ok (.slice el) w := by simp [Go.underlying, hu]
  have hne' : ∀ e ∈ es.take off, e.length = n := fun e he => hne e (List.mem_of_mem_take he)
  have finish : ∀ (w' : World) (N : Nat → Prop) (L' : Loc), (Builtin.clear_ #[T] o.type #[a.eval x]).run P w = .ok (.tuple #[]) w' → Kept N w w' → (∀ b, N b → b ∈ (locs k).foot) → ObjOk w' RO (.row n (es.take off) dp g (ver + 1)) L' →
      L'.foot.Nodup → (∀ b ∈ L'.foot, b ∈ (locs k).foot) → (locs k).same L' → o.wp P a w K Q := by
    intro w' N L' hrun hkept hN hob' hnd hf hsame
    have ht : Touch h w locs (upd h k (.row n (es.take off) dp g (ver + 1))) w' (updL locs k L') RO (· = k) N (fun _ => False) := {
      kept := hkept
      only := fun b hb => ⟨k, rfl, hN b hb⟩
      same := fun j hj => ⟨upd_ne hj, updL_ne hj⟩
      obj := fun j hj => by subst hj; rw [upd_same, updL_same]; exact hob'
      cells := fun j hj cs hc => by subst hj; rw [upd_same] at hc; cases hc
      live := fun j hj cs hc => by subst hj; rw [upd_same] at hc; cases hc
      nodup := fun j hj => by subst hj; rw [updL_same]; exact hnd
      foot := fun j hj b hb => by subst hj; rw [updL_same] at hb; exact .inr ⟨j, rfl, hf b hb⟩
      disj := fun j l hj hl hne => absurd (hj.trans hl.symm) hne
      step := fun j hj _ => by
        subst hj
        unfold OStep
        rw [hh]
        exact ⟨_, _, _, _, upd_same, Nat.le_refl _, by omega, fun _ => by rw [updL_same]; exact hsame, fun _ e => by omega⟩
      sub := fun _ hk => hk.elim
      clean := fun _ _ _ _ _ _ _ => not_false
      fresh := fun j hj hgo => by subst hj; rw [hh] at hgo; cases hgo
      killed := fun _ hk => hk.elim }
    have hrun' : (execOp a.eval o).run P w = .ok (.value (.tuple #[])) w' := by
      simp [execOp, ho, resolve, invoke, builtin, hrun]
    refine wp_of_value hrun' (hK _ _ ⟨_, RO, hg.step ht, (Tmps.step hg ht hm fun _ _ _ => not_false).put _ ⟨#[], rfl, .nil⟩ ?_⟩)
    simp [Slot.refs]
  rcases hp a4 with ⟨q1, q2, q3, q4⟩ | ⟨q1, cap, q2, q3, q4, q5⟩
  · -- nil
    rcases hobj with ⟨_, he, hf⟩ | ⟨q6, _⟩
    · refine finish w (fun _ => False) (locs k) (by rw [q4]; simp [Builtin.clear_, hug]) (Kept.refl _ _) (fun _ h => h.elim) ⟨hne', .inl ⟨q1, by simp [he], hf⟩⟩ (hg.nodup k) (fun b hb => hb) ⟨rfl, rfl, rfl, rfl⟩
    · rw [q1] at q6; cases q6
  · rcases hobj with ⟨q6, _⟩ | ⟨_, arr, aty, Gr, hbl, hat, hbs, hrr, k1, k2⟩
    · rw [q1] at q6; cases q6
    have hbf : (locs k).b ∈ (locs k).foot := by
      cases dp with
      | true => rw [k1 rfl]; simp
      | false => rw [(k2 rfl).1]; simp
    have hnb : ∀ b ∈ Gr, b ≠ (locs k).b := by
      intro b hb' e'
      subst e'
      cases dp with
      | true =>
        have := hg.nodup k
        rw [k1 rfl] at this
        exact (List.nodup_cons.1 this).1 hb'
      | false => exact hg.noro k _ hbf ((k2 rfl).2 _ hb')
    -- the front's data
    obtain ⟨F1, F2, F3, hGr, hr1, _, _⟩ := hrr.part (k := (es.take off).length * n) (l := 0)
    have htl : (es.take off).length ≤ es.length := by rw [List.length_take]; omega
    have hfl : es.flatten.take ((es.take off).length * n) = (es.take off).flatten := by
      have e : es.take off = es.take (es.take off).length := by rw [List.length_take]; rcases Nat.le_total off es.length with hh | hh; rw [Nat.min_eq_left hh]; rw [Nat.min_eq_right hh, List.take_of_length_le hh, List.take_length]
      conv => rhs; rw [e]
      rw [flat_take hne htl]
    have hmle : (es.take off).length * n ≤ es.length * n := Nat.mul_le_mul_right n htl
    have hsg : (seg arr (locs k).base (es.length * n)).take ((es.take off).length * n) = seg arr (locs k).base ((es.take off).length * n) := by
      simp only [seg, List.take_take]; rw [Nat.min_eq_left hmle]
    rw [hfl, hsg] at hr1
    have hfoot : ∀ b ∈ (if dp then (locs k).b :: F1 else [(locs k).b]), b ∈ (locs k).foot := by
      intro b hb
      cases dp with
      | true =>
        rw [k1 rfl, hGr]
        rcases List.mem_cons.1 hb with rfl | hb
        · simp
        · simp [hb]
      | false => simp at hb; subst hb; exact hbf
    have hnd : (if dp then (locs k).b :: F1 else [(locs k).b]).Nodup := by
      cases dp with
      | false => simp
      | true =>
        have := hg.nodup k
        rw [k1 rfl, hGr] at this
        simp only [List.nodup_cons, List.nodup_append, List.mem_append, not_or] at this
        exact List.nodup_cons.2 ⟨this.1.1, this.2.1⟩
    have hoff : off * n ≤ arr.size - (locs k).base := by omega
    rcases Nat.eq_zero_or_pos len with hl0 | hl0
    · subst hl0
      refine finish w (fun _ => False) ⟨false, (locs k).b, (locs k).base, (locs k).tot, if dp then (locs k).b :: F1 else [(locs k).b]⟩ (by rw [q2]; simp [Builtin.clear_, hug]) (Kept.refl _ _) (fun _ h => h.elim)
        ⟨hne', .inr ⟨rfl, arr, aty, F1, hbl, hat, by simp only; omega, hr1, fun hd => by simp [hd], fun hd => ⟨by simp [hd], fun b hb => (k2 hd).2 b (by rw [hGr]; simp [hb])⟩⟩⟩ hnd hfoot ⟨q1.symm ▸ rfl, rfl, rfl, rfl⟩
    · obtain ⟨m, rfl⟩ : ∃ m, len = m + 1 := ⟨len - 1, by omega⟩
      have hzn : (Builtin.zeroCells z.cells (m + 1)).toList.length = (m + 1) * n := by simp [Builtin.zeroCells, hzs]
      have hcapn : (m + 1) * n ≤ cap * n := Nat.mul_le_mul_right n (by omega)
      have hst := run_storeCells_at P (locs k).b ((locs k).base + off * n) aty (Builtin.zeroCells z.cells (m + 1)).toList 0 arr w hbl (by rw [hzn]; omega) (oneCell_zeros hzr.oneCell)
      simp only [Nat.add_zero, List.append_assoc] at hst
      have hpl : (patch arr.toList ((locs k).base + off * n) (Builtin.zeroCells z.cells (m + 1)).toList).length = arr.size := by
        rw [patch_length (by rw [hzn]; simp; omega)]; simp
      have hfr : ∀ b, b ≠ (locs k).b → (w.setRow (locs k).b (patch arr.toList ((locs k).base + off * n) (Builtin.zeroCells z.cells (m + 1)).toList).toArray).heap[b]? = w.heap[b]? := fun b hb => setRow_other hb
      have hseg : seg (patch arr.toList ((locs k).base + off * n) (Builtin.zeroCells z.cells (m + 1)).toList).toArray (locs k).base ((es.take off).length * n) = seg arr (locs k).base ((es.take off).length * n) := by
        refine seg_eq_of fun i hi => ?_
        have hi2 : (es.take off).length * n ≤ off * n := Nat.mul_le_mul_right n (by rw [List.length_take]; omega)
        exact patch_seg_other (by rw [hzn]; omega) (.inl (by omega))
      have hF1b : ∀ b ∈ F1, b ≠ (locs k).b := fun b hb => hnb b (by rw [hGr]; simp [hb])
      have hrunC : (Builtin.clear_ #[T] o.type #[a.eval x]).run P w = .ok (.tuple #[]) (w.setRow (locs k).b (patch arr.toList ((locs k).base + off * n) (Builtin.zeroCells z.cells (m + 1)).toList).toArray) := by
        rw [q2]; simp [Builtin.clear_, hug, hzv, hst, patch]
      have hob2 : ObjOk (w.setRow (locs k).b (patch arr.toList ((locs k).base + off * n) (Builtin.zeroCells z.cells (m + 1)).toList).toArray) RO (.row n (es.take off) dp g (ver + 1)) ⟨false, (locs k).b, (locs k).base, (locs k).tot, if dp then (locs k).b :: F1 else [(locs k).b]⟩ := by
        refine ⟨hne', .inr ⟨rfl, _, aty, F1, setRow_same hbl, by simp [hpl, hat], by simp only; omega, ?_, fun hd => by simp [hd], fun hd => ⟨by simp [hd], fun b hb => (k2 hd).2 b (by rw [hGr]; simp [hb])⟩⟩⟩
        show Reps dp _ _ (seg _ (locs k).base _) _
        rw [hseg]
        exact hr1.frame fun b hb => hfr b (hF1b b hb)
      exact finish _ (· = (locs k).b) _ hrunC kept_setRow (fun b hb => by rw [hb]; exact hbf) hob2 hnd hfoot ⟨q1.symm ▸ rfl, rfl, rfl, rfl⟩
theorem zclr {T el : TypeId} {x : Operand} {k g off len room n ver : Nat} {es es' : List (List Dat)} {dp : Bool} (hT : TabOk P tab) (ho : o.op = .call { callee := .builtin .clear, args := #[x], argTypes := #[T] }) (hk : (ty tab T).k = .sl el)
    (hel : elOk (ty tab el) n = true) (hx : Ev t x ⟨false, [.sr k g off len room]⟩) (hh : h k = .row n es dp g ver) (hle : es.length ≤ off + len) (hes : es.take off = es') :
    Does P o ⟨t, h⟩ ⟨putT t o.dst (.tu []), updAll h [(k, .row n es' dp g (ver + 1))]⟩ := by
  obtain ⟨h1, h2, _, _⟩ := elOk_of hel
  rw [← hes]
  exact w_clear hT ho hk h1 h2 hx hh hle
end
end Go.Proofs.YtglilpigoocgeaaGreatDoor.V
namespace Go.Proofs.YtglilpigoocgeaaGreatDoor.V
open Go
set_option linter.unusedVariables false
set_option linter.unusedSimpArgs false

section
variable {P : Program} {o : Oper} {t : List Slot} {h : Heap} {tab : List TyI}
/-- A part of a row of the call's own, not empty, up to what the view has room for. -/
theorem zsp {T el : TypeId} {x : Operand} {lo hi : Option Operand} {k g off n ver len room l u : Nat} {es : List (List Dat)} {dp : Bool} {r : Slot} (hT : TabOk P tab) (ho : o.op = .slice T x lo hi none) (hk : (ty tab T).k = .sl el) (hel : elOk (ty tab el) n = true)
    (hx : Ev t x ⟨false, [.sr k g off len room]⟩) (hh : h k = .row n es dp g ver) (hlo : SB t lo 0 l) (hhi : SB t hi len u) (h1 : l < u) (h2 : u ≤ room) (hr : (.t ⟨false, [.sr k g (off + l) (u - l) (room - l)]⟩ : Slot) = r) : Yield P o t h r := by
  subst hr
  obtain ⟨hk1, hk2, _, _⟩ := elOk_of hel
  intro w0 M0 A0 locs RO a w hg hm
  have hu := (hT T (by simp [TyI.ok, hk])).slice hk
  have hsz := (hT el hk1).sizeOf w
  rw [hk2] at hsz
  obtain ⟨⟨n', es', dp', g0, ver', hc, hle, hone, hp⟩, hl⟩ := hm.ev1 hx
  rw [hh] at hc
  injection hc with a1 a2 a3 a4 a5
  subst a1 a4
  rcases hp rfl with ⟨b1, b2, b3, b4⟩ | ⟨b1, cap, b2, b3, b4, b5⟩
  · omega
  · have q1 := SB.run (P := P) (code := BoundsCode.sliceAcap) hm hhi (m := cap) (by omega)
    have q2 := SB.run (P := P) (code := BoundsCode.sliceB) hm hlo (Nat.le_of_lt h1)
    have hb : (Instr.sliceBounds true len cap (lo.map a.eval) (hi.map a.eval) none).run P w = .ok (l, u, cap) w := by
      cases hi with
      | none =>
        have hu' : u = len := hhi
        subst hu'
        cases lo with
        | none => have hl' : l = 0 := hlo; subst hl'; simp [Instr.sliceBounds]
        | some y =>
          simp only [Option.map_some] at q2
          simp [Instr.sliceBounds, q2]
      | some z =>
        simp only [Option.map_some] at q1
        cases lo with
        | none => have hl' : l = 0 := hlo; subst hl'; simp [Instr.sliceBounds, q1]
        | some y =>
          simp only [Option.map_some] at q2
          simp [Instr.sliceBounds, q1, q2]
    have hne : ¬ cap = l := by omega
    have hs : (Instr.sliceAt T (a.eval x) (lo.map a.eval) (hi.map a.eval) none).run P w = .ok (.slice (some ⟨(locs k).b, (locs k).base + (off + l) * n, none⟩) (u - l) (cap - l)) w := by
      rw [b2]
      simp [Instr.sliceAt, Instr.slice, Go.underlying, hu, hb, hsz, hne, add_plain, Nat.add_mul, Nat.add_assoc]
    have hrun : (execOp a.eval o).run P w = .ok (.value (.slice (some ⟨(locs k).b, (locs k).base + (off + l) * n, none⟩) (u - l) (cap - l))) w := by
      simp [execOp, ho, hs]
    refine ⟨_, hrun, TRel.single.2 ⟨n, es, dp, g, ver, hh, Nat.le_refl _, rfl, fun _ => .inr ⟨b1, cap - l, rfl, by omega, by omega, ?_⟩⟩, by simp only [Slot.refs, TV.refs, VC.refs, List.flatMap_cons, List.flatMap_nil, List.append_nil, List.mem_singleton]; rintro q rfl; rw [hh]; simp⟩
    have e : (off + l) * n + (cap - l) * n = off * n + cap * n := by
      rw [← Nat.add_mul, ← Nat.add_mul]; congr 1; omega
    omega
/-- The empty part at a row's end: data. -/
theorem zse {T el : TypeId} {x : Operand} {lo hi : Option Operand} {k g off n ver len room l : Nat} {es : List (List Dat)} {dp : Bool} (hT : TabOk P tab) (ho : o.op = .slice T x lo hi none) (hk : (ty tab T).k = .sl el) (hel : elOk (ty tab el) n = true)
    (hx : Ev t x ⟨false, [.sr k g off len room]⟩) (hh : h k = .row n es dp g ver) (hlo : SB t lo 0 l) (hhi : SB t hi len l) (h2 : l ≤ room) : Yield P o t h (.t ⟨false, [.d (.sl n [])]⟩) := by
  obtain ⟨hk1, hk2, _, _⟩ := elOk_of hel
  intro w0 M0 A0 locs RO a w hg hm
  have hu := (hT T (by simp [TyI.ok, hk])).slice hk
  have hsz := (hT el hk1).sizeOf w
  rw [hk2] at hsz
  obtain ⟨⟨n', es', dp', g0, ver', hc, hle, hone, hp⟩, hl⟩ := hm.ev1 hx
  rw [hh] at hc
  injection hc with a1 a2 a3 a4 a5
  subst a1 a4
  have key : ∀ (ad : Option Addr) (cap : Nat), room ≤ cap → a.eval x = .slice ad len cap → (execOp a.eval o).run P w = .ok (.value (.slice (if cap = l then ad else ad.map (·.add (l * n))) 0 (cap - l))) w := by
    intro ad cap hcap hv
    have q1 := SB.run (P := P) (code := BoundsCode.sliceAcap) hm hhi (m := cap) (by omega)
    have q2 := SB.run (P := P) (code := BoundsCode.sliceB) hm hlo (Nat.le_refl l)
    have hb : (Instr.sliceBounds true len cap (lo.map a.eval) (hi.map a.eval) none).run P w = .ok (l, l, cap) w := by
      cases hi with
      | none =>
        have hu' : l = len := hhi
        subst hu'
        cases lo with
        | none => have hl' : l = 0 := hlo; subst hl'; simp [Instr.sliceBounds]
        | some y =>
          simp only [Option.map_some] at q2
          simp [Instr.sliceBounds, q2]
      | some z =>
        simp only [Option.map_some] at q1
        cases lo with
        | none => have hl' : l = 0 := hlo; subst hl'; simp [Instr.sliceBounds, q1]
        | some y =>
          simp only [Option.map_some] at q2
          simp [Instr.sliceBounds, q1, q2]
    have hs : (Instr.sliceAt T (.slice ad len cap) (lo.map a.eval) (hi.map a.eval) none).run P w = .ok (.slice (if cap = l then ad else ad.map (·.add (l * n))) 0 (cap - l)) w := by
      simp [Instr.sliceAt, Instr.slice, Go.underlying, hu, hb, hsz]
    simp only [execOp, ho, hv, Option.map_none, Sem.run_bind, hs, Result.andThen_ok]; rfl
  rcases hp rfl with ⟨b1, b2, b3, b4⟩ | ⟨b1, cap, b2, b3, b4, b5⟩
  · subst b3
    have l0 : l = 0 := by omega
    subst l0
    exact ⟨_, key none 0 (Nat.le_refl _) (by rw [b4, b2]), TRel.single.2 ⟨[], .nl .nil, by simp⟩, by simp [Slot.refs, TV.refs, VC.refs]⟩
  · have hs : ∃ q, (if cap = l then some (⟨(locs k).b, (locs k).base + off * n, none⟩ : Addr) else (some (⟨(locs k).b, (locs k).base + off * n, none⟩ : Addr)).map (·.add (l * n))) = some q := by split <;> exact ⟨_, rfl⟩
    obtain ⟨q, hq⟩ := hs
    have h5 := key _ cap b3 b2
    rw [hq] at h5
    exact ⟨_, h5, TRel.single.2 ⟨[], .em rfl .nil, by simp⟩, by simp [Slot.refs, TV.refs, VC.refs]⟩
/-- Three indices: what comes out is not used. -/
theorem zs3 {T el : TypeId} {x y z m : Operand} {k g off n ver len room i j q : Nat} {es : List (List Dat)} {dp : Bool} (hT : TabOk P tab) (ho : o.op = .slice T x (some y) (some z) (some m)) (hk : (ty tab T).k = .sl el) (hel : elOk (ty tab el) n = true)
    (hx : Ev t x ⟨false, [.sr k g off len room]⟩) (hh : h k = .row n es dp g ver) (hy : Ev t y ⟨false, [.d (.lf (.int .i64 (i : Int)))]⟩) (hz : Ev t z ⟨false, [.d (.lf (.int .i64 (j : Int)))]⟩) (hm : Ev t m ⟨false, [.d (.lf (.int .i64 (q : Int)))]⟩)
    (h1 : i ≤ j) (h2 : j ≤ q) (h3 : q ≤ room) : Yield P o t h (.t ⟨false, [.dead]⟩) := by
  obtain ⟨hk1, hk2, _, _⟩ := elOk_of hel
  intro w0 M0 A0 locs RO a w hg hmt
  have hu := (hT T (by simp [TyI.ok, hk])).slice hk
  have hsz := (hT el hk1).sizeOf w
  rw [hk2] at hsz
  obtain ⟨⟨n', es', dp', g0, ver', hc, hle, hone, hp⟩, hl⟩ := hmt.ev1 hx
  rw [hh] at hc
  injection hc with a1 a2 a3 a4 a5
  subst a1 a4
  have ey := (hmt.evlf hy).1
  have ez := (hmt.evlf hz).1
  have em := (hmt.evlf hm).1
  have key : ∀ (ad : Option Addr) (cap : Nat), room ≤ cap → a.eval x = .slice ad len cap → ∃ v, (execOp a.eval o).run P w = .ok (.value v) w := by
    intro ad cap hcap hv
    have q1 : (Instr.sliceBound (.int .i64 (q : Int)) cap .slice3Acap : Sem Nat).run P w = .ok q w := by
      simp only [Instr.sliceBound, asIntOf, Sem.run_bind, Sem.run_pure, Result.andThen_ok]; rw [if_pos ⟨Int.natCast_nonneg _, by omega⟩]; simp
    have q2 : (Instr.sliceBound (.int .i64 (j : Int)) q .slice3B : Sem Nat).run P w = .ok j w := by
      simp only [Instr.sliceBound, asIntOf, Sem.run_bind, Sem.run_pure, Result.andThen_ok]; rw [if_pos ⟨Int.natCast_nonneg _, by omega⟩]; simp
    have q3 : (Instr.sliceBound (.int .i64 (i : Int)) j .slice3C : Sem Nat).run P w = .ok i w := by
      simp only [Instr.sliceBound, asIntOf, Sem.run_bind, Sem.run_pure, Result.andThen_ok]; rw [if_pos ⟨Int.natCast_nonneg _, by omega⟩]; simp
    have hb : (Instr.sliceBounds true len cap (some (.int .i64 (i : Int))) (some (.int .i64 (j : Int))) (some (.int .i64 (q : Int)))).run P w = .ok (i, j, q) w := by
      simp [Instr.sliceBounds, q1, q2, q3]
    have hs : (Instr.sliceAt T (.slice ad len cap) (some (.int .i64 (i : Int))) (some (.int .i64 (j : Int))) (some (.int .i64 (q : Int)))).run P w = .ok (.slice (if q = i then ad else ad.map (·.add (i * n))) (j - i) (q - i)) w := by
      simp [Instr.sliceAt, Instr.slice, Go.underlying, hu, hb, hsz]
    exact ⟨_, by simp only [execOp, ho, hv, Option.map_some, ey, ez, em, Sem.run_bind, hs, Result.andThen_ok]; rfl⟩
  have fin : ∀ v, (execOp a.eval o).run P w = .ok (.value v) w → ∃ v, (execOp a.eval o).run P w = .ok (.value v) w ∧ SRel locs h w RO (.t ⟨false, [.dead]⟩) v ∧ ∀ o' ∈ (Slot.t ⟨false, [.dead]⟩).refs, h o' ≠ .gone :=
    fun v hv => ⟨v, hv, TRel.single.2 trivial, by simp [Slot.refs, TV.refs, VC.refs]⟩
  rcases hp rfl with ⟨b1, b2, b3, b4⟩ | ⟨b1, cap, b2, b3, b4, b5⟩
  · obtain ⟨v, hv⟩ := key none 0 (by omega) (by rw [b4, b2]); exact fin v hv
  · obtain ⟨v, hv⟩ := key _ cap b3 b2; exact fin v hv
/-- What is laid behind the front of a row: its own later part, or nothing. -/
inductive SelfSrc (t : List Slot) (n k g i : Nat) (es : List (List Dat)) : Operand → List (List Dat) → Prop
  | nil {x : Operand} (hx : Ev t x ⟨false, [.d (.sl n [])]⟩) : SelfSrc t n k g i es x []
  | part {x : Operand} {j l room : Nat} {e : List (List Dat)} (hx : Ev t x ⟨false, [.sr k g j l room]⟩) (hij : i ≤ j) (hl : j + l ≤ es.length) (he : (es.drop j).take l = e) : SelfSrc t n k g i es x e
theorem w_selfapp {T T2 el : TypeId} {s x : Operand} {k g i room n ver : Nat} {es e : List (List Dat)} {dp : Bool} (hT : TabOk P tab) (ho : o.op = .call { callee := .builtin .append, args := #[s, x], argTypes := #[T, T2] }) (hk : (ty tab T).k = .sl el) (hk2 : (ty tab T2).k = .sl el)
    (hel : (ty tab el).ok = true) (hn : (ty tab el).sz = n) (hs : Ev t s ⟨false, [.sr k g 0 i room]⟩) (hh : h k = .row n es dp g ver) (hi : i ≤ es.length) (hx : SelfSrc t n k g i es x e) (hr : i + e.length ≤ room) :
    Does P o ⟨t, h⟩ ⟨putT t o.dst (.t ⟨false, [.sr k (g + 1) 0 (i + e.length) room]⟩), upd h k (.row n (es.take i ++ e) dp (g + 1) (ver + 1))⟩ := by
  intro w0 M0 A0 a w Kc Q ⟨locs, RO, hg, hm⟩ hKc
  obtain ⟨⟨n', es', dp', g0, ver', hcc, hle, hone, hp⟩, _⟩ := Tmps.ev1 hm hs
  simp only [hh] at hcc
  injection hcc with a1 a2 a3 a4 a5
  subst a1
  have hob := hg.obj k
  simp only [hh] at hob
  obtain ⟨hne, hobj⟩ := hob
  have hu := (hT T (by simp [TyI.ok, hk])).slice hk
  have hu2 := (hT T2 (by simp [TyI.ok, hk2])).slice hk2
  obtain ⟨f, d, h1, h2, h3, hby, _, z, hz, hzc, _⟩ := (hT el hel).ex
  have hfs : f.size = n := by rw [h3, hn]
  have hne' : ∀ y ∈ es.take i ++ e, y.length = n := fun y hy => by
    rcases List.mem_append.1 hy with hy | hy
    · exact hne y (List.mem_of_mem_take hy)
    · cases hx with
      | nil hx => simp at hy
      | part hx hij hl he => subst he; exact hne y (List.mem_of_mem_drop (List.mem_of_mem_take hy))
  have finish : ∀ (v : Value) (w' : World) (L' : Loc) (N : Nat → Prop), (Builtin.append_ #[T, T2] o.type #[a.eval s, a.eval x]).run P w = .ok v w' → Kept N w w' → (∀ b, N b → b ∈ (locs k).foot) →
      ObjOk w' RO (.row n (es.take i ++ e) dp (g + 1) (ver + 1)) L' → L'.foot.Nodup → (∀ b ∈ L'.foot, b ∈ (locs k).foot) → v.oneCell' = true → SlRel L' n 0 (i + e.length) room v → o.wp P a w Kc Q := by
    intro v w' L' N hrun hkept hN hob' hnd hf hv1 hsl
    have ht := touch_row2 (K := []) hg (by simp) hh hkept hN hob' hnd fun b hb => .inr (.inl (hf b hb))
    have hrun' : (execOp a.eval o).run P w = .ok (.value v) w' := by
      simp [execOp, ho, resolve, invoke, builtin, hrun]
    have he : letgo [] h = h := letgo_nil h
    have hm' := (Tmps.step hg.erase ht (Tmps.erase hm) fun _ => erase_clean).put o.dst (x := .t ⟨false, [.sr k (g + 1) 0 (i + e.length) room]⟩) (TRel.single.2 ⟨_, _, _, _, _, upd_same, Nat.le_refl _, hv1, fun _ => by rw [updL_same]; exact hsl⟩) (by simp [Slot.refs, TV.refs, VC.refs, upd_same])
    have hg' := (hg.erase (K := [])).step ht
    rw [map_eraseS_nil] at hm'
    rw [he] at hm' hg'
    exact wp_of_value hrun' (hKc _ _ ⟨_, RO, hg', hm'⟩)
  rcases hp a4 with ⟨q1, q2, q3, q4⟩ | ⟨q1, cap, q2, q3, q4, q5⟩
  · -- nil
    have hee : e = [] := List.eq_nil_of_length_eq_zero (by omega)
    subst hee
    rcases hobj with ⟨_, hes, hf⟩ | ⟨q6, _⟩
    · have hso : SrcOk w n [] (a.eval x) [] := by
        cases hx with
        | nil hx =>
          obtain ⟨⟨F, hr0, _⟩, _⟩ := Tmps.ev1 hm hx
          obtain ⟨vs, G, h5, h6, _⟩ := src_of_reps hr0
          cases h6
          exact h5
        | part hx hij hl he =>
          obtain ⟨⟨n2, es2, dp2, g2, ver2, hc2, _, _, hp2⟩, _⟩ := Tmps.ev1 hm hx
          simp only [hh] at hc2
          injection hc2 with c1 c2 c3 c4 c5
          subst c1
          rcases hp2 c4 with ⟨r1, r2, r3, r4⟩ | ⟨r1, _⟩
          · exact ⟨.inl ⟨r4, rfl⟩, by simp⟩
          · rw [q1] at r1; cases r1
      obtain ⟨w', hrun, hw', _⟩ := run_append_fits (oty := o.type) (ad := none) (len := 0) (cap := 0) hu hu2 h1 hfs hso (by simp) (by simp) (by simp) (fun a hh => by cases hh)
      rw [hw' rfl] at hrun
      refine finish (.slice none 0 0) w (locs k) (fun _ => False) (by rw [q4]; simpa using hrun) (Kept.refl _ _) (fun _ h => h.elim) ⟨hne', .inl ⟨q1, by simp [hes], hf⟩⟩ (hg.nodup k) (fun b hb => hb) rfl (.inl ⟨q1, by simp [q2], q3, rfl⟩)
    · rw [q1] at q6; cases q6
  · rcases hobj with ⟨q6, _⟩ | ⟨_, arr, aty, Gr, hbl, hat, hbs, hrr, k1, k2⟩
    · rw [q1] at q6; cases q6
    simp only [Nat.zero_mul, Nat.add_zero] at q2 q5
    have hbf : (locs k).b ∈ (locs k).foot := by
      cases dp with
      | true => rw [k1 rfl]; simp
      | false => rw [(k2 rfl).1]; simp
    have hnb : ∀ b ∈ Gr, b ≠ (locs k).b := by
      intro b hb' e'
      subst e'
      cases dp with
      | true =>
        have := hg.nodup k
        rw [k1 rfl] at this
        exact (List.nodup_cons.1 this).1 hb'
      | false => exact hg.noro k _ hbf ((k2 rfl).2 _ hb')
    have hin : i * n ≤ es.length * n := Nat.mul_le_mul_right n hi
    -- what is appended, and where its data lie
    obtain ⟨vs, F1, F3, hso, hvs, hones, hr1, hr3, hsub, hdisj⟩ : ∃ vs F1 F3, SrcOk w n e (a.eval x) vs ∧ vs.length = e.length * n ∧ (∀ u ∈ vs, u.oneCell' = true) ∧ Reps dp w (es.take i).flatten (seg arr (locs k).base (i * n)) F1 ∧ Reps dp w e.flatten vs F3 ∧
        (∀ b ∈ F1 ++ F3, b ∈ Gr) ∧ (Gr.Nodup → (F1 ++ F3).Nodup) := by
      obtain ⟨F1, F2, F2', hGr, hr1, hr2, hr3⟩ := hrr.part (k := i * n) (l := 0)
      rw [← flat_take hne hi] at hr1
      have hsg : (seg arr (locs k).base (es.length * n)).take (i * n) = seg arr (locs k).base (i * n) := by
        simp only [seg, List.take_take]; rw [Nat.min_eq_left hin]
      rw [hsg] at hr1
      cases hx with
      | nil hx =>
        obtain ⟨⟨F, hr0, _⟩, _⟩ := Tmps.ev1 hm hx
        obtain ⟨vs, G, h5, h6, _⟩ := src_of_reps hr0
        cases h6
        exact ⟨[], F1, [], h5, by simp, by simp, hr1, .nil, fun b hb => by rw [hGr]; simp at hb; simp [hb], fun hn => by rw [hGr, List.nodup_append] at hn; simpa using hn.1⟩
      | part hx hij hl he =>
        rename_i j l room'
        obtain ⟨⟨n2, es2, dp2, g2, ver2, hc2, _, _, hp2⟩, _⟩ := Tmps.ev1 hm hx
        simp only [hh] at hc2
        injection hc2 with c1 c2 c3 c4 c5
        subst c1
        rcases hp2 c4 with ⟨r1, _⟩ | ⟨_, cap2, r2, r3, r4, r5⟩
        · rw [q1] at r1; cases r1
        have hel2 : e.length = l := by rw [← he, List.length_take, List.length_drop]; omega
        obtain ⟨A1, A2, A3, hGr2, _, hs2, _⟩ := hrr.part (k := j * n) (l := l * n)
        have hjl : j * n + l * n ≤ es.length * n := by rw [← Nat.add_mul]; exact Nat.mul_le_mul_right n hl
        have hij' : i * n ≤ j * n := Nat.mul_le_mul_right n hij
        rw [seg_seg hjl, ← flat_drop hne (by omega), ← flat_take (n := n) (fun x hx => hne x (List.mem_of_mem_drop hx)) (by rw [List.length_drop]; omega), he] at hs2
        -- both parts at once
        obtain ⟨B1, B2, B3, hG3, hB1, hB2, _⟩ := hrr.part (k := j * n) (l := l * n)
        rw [seg_seg hjl, ← flat_drop hne (by omega), ← flat_take (n := n) (fun x hx => hne x (List.mem_of_mem_drop hx)) (by rw [List.length_drop]; omega), he] at hB2
        obtain ⟨C1, C2, C3, hC, hC1, _, _⟩ := hB1.part (k := i * n) (l := 0)
        rw [List.take_take, Nat.min_eq_left hij', ← flat_take hne hi, List.take_take, Nat.min_eq_left hij', hsg] at hC1
        have hvl : (seg arr ((locs k).base + j * n) (l * n)).length = l * n := seg_length (by omega)
        refine ⟨seg arr ((locs k).base + j * n) (l * n), C1, B2, ⟨.inr ⟨_, cap2, by rw [hel2]; exact r2, fun q u hq => ?_⟩, fun y hy => hne' y (by simp [hy])⟩, by rw [hvl, hel2], hB2.oneCell, hC1, hB2, fun b hb => ?_, fun hnd => ?_⟩
        · have hq' : q < l * n := by
            have := (List.getElem?_eq_some_iff.1 hq).1
            rw [hvl] at this; exact this
          rw [seg_get hq'] at hq
          rw [add_plain, cell_block hbl]; exact hq
        · rw [hG3, hC]
          rcases List.mem_append.1 hb with hb | hb
          · simp [hb]
          · simp [hb]
        · rw [hG3, hC] at hnd
          simp only [List.nodup_append, List.mem_append] at hnd ⊢
          exact ⟨hnd.1.1, hnd.2.1.1, fun b hb c hc => hnd.2.2 b (.inl hb) c (.inl hc)⟩
    have hmul : (i + e.length) * n ≤ cap * n := Nat.mul_le_mul_right n (by omega)
    obtain ⟨w', hrun, _, hw'⟩ := run_append_fits (oty := o.type) (ad := some ⟨(locs k).b, (locs k).base, none⟩) (len := i) (cap := cap) hu hu2 h1 hfs hso hvs hones (by omega)
      (fun a hh => by injection hh with hh; subst hh; exact ⟨_, _, arr, aty, rfl, hbl, by omega⟩)
    have hw2 := hw' _ _ arr aty rfl hbl
    subst hw2
    have hfr : ∀ b, b ≠ (locs k).b → (w.setRow (locs k).b (patch arr.toList ((locs k).base + i * n) vs).toArray).heap[b]? = w.heap[b]? := fun b hb => setRow_other hb
    have hpl : (patch arr.toList ((locs k).base + i * n) vs).length = arr.size := by
      rw [Nat.add_mul] at hmul
      rw [patch_length (by simp [hvs]; omega)]; simp
    have htl : (es.take i).length = i := by rw [List.length_take]; omega
    have hflat : (es.take i ++ e).flatten = (es.take i).flatten ++ e.flatten := by simp
    refine finish _ _ ⟨false, (locs k).b, (locs k).base, (locs k).tot, if dp then (locs k).b :: (F1 ++ F3) else [(locs k).b]⟩ (· = (locs k).b) (by rw [q2]; exact hrun) kept_setRow (fun b hb => by rw [hb]; exact hbf)
      ⟨hne', .inr ⟨rfl, _, aty, F1 ++ F3, setRow_same hbl, by simp [hpl, hat], ?_, ?_, fun hd => by simp [hd], fun hd => ⟨by simp [hd], fun b hb => (k2 hd).2 b (hsub b hb)⟩⟩⟩ ?_ ?_ rfl ?_
    · simp only [List.length_append, htl]; omega
    · revert hfr
      generalize hw3 : w.setRow (locs k).b (patch arr.toList ((locs k).base + i * n) vs).toArray = w3
      intro hfr
      rw [hflat, List.length_append, htl, Nat.add_mul, ← hvs, patch_end (by rw [Nat.add_mul] at hmul; omega)]
      exact (hr1.frame fun b hb => hfr b (hnb b (hsub b (by simp [hb])))).append (hr3.frame fun b hb => hfr b (hnb b (hsub b (by simp [hb]))))
    · cases dp with
      | false => simp
      | true =>
        have hgn := hg.nodup k
        rw [k1 rfl] at hgn
        have hgn2 := List.nodup_cons.1 hgn
        exact List.nodup_cons.2 ⟨fun hb => hgn2.1 (hsub _ hb), hdisj hgn2.2⟩
    · intro b hb
      cases dp with
      | false => simp at hb; subst hb; exact hbf
      | true =>
        rcases List.mem_cons.1 hb with rfl | hb
        · exact hbf
        · rw [k1 rfl]; exact List.mem_cons_of_mem _ (hsub b hb)
    · exact .inr ⟨rfl, cap, by simp, q3, hr, by simpa using q5⟩
theorem zself {T T2 el : TypeId} {s x : Operand} {k g i room n ver m : Nat} {es e es' : List (List Dat)} {dp : Bool} (hT : TabOk P tab) (ho : o.op = .call { callee := .builtin .append, args := #[s, x], argTypes := #[T, T2] }) (hk : (ty tab T).k = .sl el) (hk2 : (ty tab T2).k = .sl el)
    (hel : elOk (ty tab el) n = true) (hs : Ev t s ⟨false, [.sr k g 0 i room]⟩) (hh : h k = .row n es dp g ver) (hi : i ≤ es.length) (hx : SelfSrc t n k g i es x e) (hr : i + e.length ≤ room) (hes : es.take i ++ e = es') (hm : i + e.length = m) :
    Does P o ⟨t, h⟩ ⟨putT t o.dst (.t ⟨false, [.sr k (g + 1) 0 m room]⟩), updAll h [(k, .row n es' dp (g + 1) (ver + 1))]⟩ := by
  obtain ⟨h1, h2, _, _⟩ := elOk_of hel
  rw [← hes, ← hm]
  exact w_selfapp hT ho hk hk2 h1 h2 hs hh hi hx hr
end
end Go.Proofs.YtglilpigoocgeaaGreatDoor.V
namespace Go.Proofs.YtglilpigoocgeaaGreatDoor.V
open Go
set_option linter.unusedVariables false
set_option linter.unusedSimpArgs false
/-- A list of numbers that may be as long as an append allows. -/
def fitJ {α : Type} (xs : List α) : Prop := xs.length ≤ 17592186044416 ∧ True
theorem ap_bigI {n m b : Nat} (h : n + m ≤ 17592186044416) (hb : Nat.ble b 8 = true) : (n + m) * b ≤ 140737488355328 :=
  Nat.le_trans (Nat.mul_le_mul h (Nat.le_of_ble_eq_true hb)) (by decide)
theorem size_app {w s u : ByteArray} (e : w = s ++ u) : w.size = s.size + u.size := by rw [e]; exact ByteArray.size_append
section
variable {P : Program} {T T2 : TypeId} {w : World} {n : Int}
theorem c_i32 (hu : P.underlying T = some (.int .i64)) (hu2 : P.underlying T2 = some (.int .i32)) (h1 : 0 ≤ n) (h2 : n < 2147483648) : (convert T T2 (.int .i64 n)).run P w = .ok (.int .i32 n) w := by
  have e : IntKind.wrap .i32 n = n := by
    have : IntKind.wrap .i32 n = if 2147483648 ≤ n % 4294967296 then n % 4294967296 - 4294967296 else n % 4294967296 := by simp [IntKind.wrap, IntKind.signed, IntKind.bits]
    rw [this]; split <;> omega
  simp [convert, Go.underlying, hu, hu2, Conv.intToInt, e]
theorem c_rs (hu : P.underlying T = some (.int .i32)) (hu2 : P.underlying T2 = some .string) (h1 : 0 ≤ n) (h2 : n < 128) : (convert T T2 (.int .i32 n)).run P w = .ok (.string (strOfNums [n])) w := by
  have hv : Utf8.valid n = true := by simp [Utf8.valid]; omega
  have hs : n.toNat < 128 := by omega
  simp [convert, Go.underlying, hu, hu2, Conv.intToString, Utf8.encode, hv, hs, strOfNums]
end
theorem fitL_one {α : Type} {f : α → Prop} {x : α} (h : f x) : fitL f [x] := ⟨by simp, fun y hy => by rw [List.mem_singleton.1 hy]; exact h⟩
theorem fitL_len {α : Type} {f : α → Prop} {xs : List α} (h : fitL f xs) : xs.length ≤ 4194304 := h.1
theorem fitL_set {α : Type} {f : α → Prop} {xs : List α} {i : Nat} {x : α} (h : fitL f xs) (hx : f x) : fitL f (xs.set i x) := ⟨by rw [List.length_set]; exact h.1, fun y hy => by
  rcases List.mem_or_eq_of_mem_set hy with hy | hy
  · exact h.2 y hy
  · rw [hy]; exact hx⟩
theorem fitL_app {α : Type} {f : α → Prop} {xs ys : List α} (h : fitL f xs) (h' : fitL f ys) (hl : xs.length + ys.length ≤ 4194304) : fitL f (xs ++ ys) :=
  ⟨by rw [List.length_append]; exact hl, fun y hy => by
    rcases List.mem_append.1 hy with hy | hy
    · exact h.2 y hy
    · exact h'.2 y hy⟩
theorem fitL_take {α : Type} {f : α → Prop} {xs : List α} {i : Nat} (h : fitL f xs) : fitL f (xs.take i) := ⟨Nat.le_trans (by rw [List.length_take]; omega) h.1, fun y hy => h.2 y (List.mem_of_mem_take hy)⟩
/-- A loop over natives: by the measure. -/
theorem fx_lp {σ : Type} {C : Prop} (I : σ → Prop) (m : σ → Nat) (q0 : σ) (h0 : I q0) (hs : ∀ q, I q → (∀ q', m q' < m q → I q' → C) → C) : C := by
  have key : ∀ (n : Nat) (q : σ), m q < n → I q → C := by
    intro n
    induction n with
    | zero => intro q h _; omega
    | succ n ih => intro q h hq; exact hs q hq fun q' h' hq' => ih q' (by omega) hq'
  exact key (m q0 + 1) q0 (Nat.lt_succ_self _) h0
theorem fitL_cons {α : Type} {f : α → Prop} {x : α} {xs : List α} (hx : f x) (h : fitL f xs) (hl : xs.length + 1 ≤ 4194304) : fitL f (x :: xs) := ⟨by rw [List.length_cons]; exact hl, fun y hy => by
  rcases List.mem_cons.1 hy with rfl | hy
  · exact hx
  · exact h.2 y hy⟩
theorem fitS_lit (s : ByteArray) (h : s.size ≤ 2097152) : fitS s := h
theorem ba_list {s u : ByteArray} (h : s.data.toList = u.data.toList) : s = u := ByteArray.ext (Array.toList_inj.1 h)
theorem ba_app (s u : ByteArray) : (s ++ u).data.toList = s.data.toList ++ u.data.toList := by simp
theorem fitL_two {α : Type} {f : α → Prop} {x y : α} (h : f x) (h' : f y) : fitL f [x, y] := ⟨by simp, fun z hz => by
  rcases List.mem_cons.1 hz with rfl | hz
  · exact h
  · rw [List.mem_singleton.1 hz]; exact h'⟩
end Go.Proofs.YtglilpigoocgeaaGreatDoor.V
