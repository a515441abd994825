/-
  Stores into variables and into elements of rows.
-/
import Derived.Test.YtkcpbahcnlhmjaaV7
namespace Go.Proofs.Ytkcpbahcnlhmjaa.V
open Go
set_option linter.unusedVariables false
set_option linter.unusedSimpArgs false

theorem eraseC_nil (x : VC) : eraseC [] x = x := by simp [eraseC]
theorem eraseV_nil (x : TV) : eraseV [] x = x := by simp [eraseV]
theorem eraseS_nil (x : Slot) : eraseS [] x = x := by
  cases x with
  | t x => simp [eraseS, eraseV_nil]
  | tu l => simp [eraseS, funext eraseV_nil]
theorem map_eraseS_nil (t : List Slot) : t.map (eraseS []) = t := by
  rw [funext eraseS_nil]; simp
theorem eraseH_nil (h : Heap) : eraseH [] h = h := by
  funext k
  simp only [eraseH]
  split
  · rename_i cs hh
    rw [funext eraseC_nil, List.map_id']
    exact hh.symm
  · rfl
theorem killH_nil (h : Heap) : killH [] h = h := by funext k; simp [killH]
theorem letgo_nil (h : Heap) : letgo [] h = h := by rw [letgo, eraseH_nil, killH_nil]
theorem offL_nil (l : Locs) : offL [] l = l := by funext k; simp [offL]

section
variable {w0 : World} {M0 : Nat → Prop} {A0 : Cx} {h h' : Heap} {w w' : World} {locs locs' : Locs} {RO : Nat → Prop}

theorem ostep_of {o : Nat} (h1 : h' o = h o) (h2 : locs' o = locs o ∨ (locs o).same (locs' o)) (hob : ObjOk w RO (h o) (locs o)) (hun : ∀ b ∈ (locs o).foot, w'.heap[b]? = w.heap[b]?) : OStep locs h w locs' h' w' o := by
  have hs : (locs o).same (locs' o) := by
    rcases h2 with h2 | h2
    · rw [h2]; exact ⟨rfl, rfl, rfl, rfl⟩
    · exact h2
  unfold OStep
  cases hh : h o with
  | gone => trivial
  | var cs => exact ⟨⟨cs, by rw [h1, hh]⟩, hs.2.1⟩
  | row n es dp g ver =>
    refine ⟨es, dp, g, ver, by rw [h1, hh], Nat.le_refl _, Nat.le_refl _, fun _ => hs, fun hd _ => ⟨hd, fun i j e m us v k1 k2 k3 => ⟨⟨e, m, us, k1, k2⟩, ?_⟩⟩⟩
    rw [hs.2.1, hs.2.2.1]
    rw [hh] at hob
    obtain ⟨he, hx | ⟨h0, arr, ty, G, hb, _, _, _, m1, m2⟩⟩ := hob
    · rw [hx.2.1] at k1; simp at k1
    · rw [cell_same (hun _ _)]
      · exact k3
      · cases dp with
        | true => rw [m1 rfl]; simp
        | false => rw [(m2 rfl).1]; simp

theorem setRow_same {b : Nat} {arr arr' : Array Value} {ty : TypeId} {fr : Nat × Nat} (hb : w.heap[b]? = some (.cells arr ty fr)) : (w.setRow b arr').heap[b]? = some (.cells arr' ty fr) := by
  simp [World.setRow, Array.getElem?_modify, hb]
theorem setRow_other {b k : Nat} {arr' : Array Value} (hk : k ≠ b) : (w.setRow b arr').heap[k]? = w.heap[k]? := by
  simp only [World.setRow, Array.getElem?_modify]
  rw [if_neg (by omega)]
theorem kept_setRow {b : Nat} {arr' : Array Value} : Kept (· = b) w (w.setRow b arr') :=
  ⟨rfl, rfl, rfl, by simp [World.setRow], fun k _ hk => setRow_other hk⟩

/-- A block of an object is written; some objects are let go into it. -/
theorem touch_store (hg : Good w0 M0 A0 h w locs RO) {K : List Nat} {k : Nat} (hkK : k ∉ K) {arr arr' : Array Value} {ty : TypeId} (hb : w.heap[(locs k).b]? = some (.cells arr ty (0, 0))) (hbf : (locs k).b ∈ (locs k).foot)
    {ob : VO} {L' : Loc} (hs : (locs k).same L') (hob : ObjOk (w.setRow (locs k).b arr') RO ob L') (hn : L'.foot.Nodup) (hf : ∀ b ∈ L'.foot, b ∈ (locs k).foot ∨ ∃ l ∈ K, b ∈ (locs l).foot)
    (hcells : ∀ cs, ob = .var cs → (∀ o, o ∉ K → OStep locs (eraseH K h) w (updL (offL K locs) k L') (upd (letgo K h) k ob) (w.setRow (locs k).b arr') o) →
      All2 (VRel (updL (offL K locs) k L') (upd (letgo K h) k ob) (w.setRow (locs k).b arr') RO) cs arr'.toList)
    (hlive : ∀ cs, ob = .var cs → ∀ x ∈ cs, ∀ o ∈ x.refs, upd (letgo K h) k ob o ≠ .gone)
    (hstep : OStep locs (eraseH K h) w (updL (offL K locs) k L') (upd (letgo K h) k ob) (w.setRow (locs k).b arr') k) :
    Touch (eraseH K h) w locs (upd (letgo K h) k ob) (w.setRow (locs k).b arr') (updL (offL K locs) k L') RO (fun l => l = k ∨ l ∈ K) (· = (locs k).b) (· ∈ K) := by
  have hsame : ∀ j, j ≠ k → j ∉ K → upd (letgo K h) k ob j = eraseH K h j ∧ updL (offL K locs) k L' j = locs j := by
    intro j h1 h2
    have : K.contains j = false := by simpa using h2
    exact ⟨by rw [upd_ne h1]; simp only [letgo, killH, this]; rfl, by rw [updL_ne h1]; simp only [offL, this]; rfl⟩
  have hgone : ∀ j, j ≠ k → j ∈ K → upd (letgo K h) k ob j = .gone ∧ (updL (offL K locs) k L' j).foot = [] := by
    intro j h1 h2
    have : K.contains j = true := by simpa using h2
    exact ⟨by rw [upd_ne h1]; simp only [letgo, killH, this]; rfl, by rw [updL_ne h1]; simp only [offL, this]; rfl⟩
  have hall : ∀ o, o ∉ K → OStep locs (eraseH K h) w (updL (offL K locs) k L') (upd (letgo K h) k ob) (w.setRow (locs k).b arr') o := by
    intro o ho
    by_cases e : o = k
    · subst e; exact hstep
    · obtain ⟨h1, h2⟩ := hsame o e ho
      refine ostep_of h1 (.inl h2) ((hg.erase (K := K)).obj o) fun b hbo => setRow_other fun e' => ?_
      subst e'
      exact hg.disj o k e _ hbo hbf
  exact {
    kept := kept_setRow
    only := fun b hb => ⟨k, .inl rfl, by rw [hb]; exact hbf⟩
    same := fun j hj => by
      simp only [not_or] at hj
      exact hsame j hj.1 hj.2
    obj := fun j hj => by
      by_cases e : j = k
      · subst e; rw [upd_same, updL_same]; exact hob
      · obtain ⟨h1, h2⟩ := hgone j e (hj.resolve_left e)
        rw [h1]; exact h2
    cells := fun j hj cs hc arr2 ty2 fr2 hb2 => by
      by_cases e : j = k
      · subst e
        rw [upd_same] at hc
        rw [updL_same, hs.2.1, setRow_same hb] at hb2
        injection hb2 with hb2; injection hb2 with hb2
        subst hb2
        exact hcells cs hc hall
      · rw [(hgone j e (hj.resolve_left e)).1] at hc; cases hc
    live := fun j hj cs hc x hx o ho => by
      by_cases e : j = k
      · subst e
        rw [upd_same] at hc
        exact hlive cs hc x hx o ho
      · rw [(hgone j e (hj.resolve_left e)).1] at hc; cases hc
    nodup := fun j hj => by
      by_cases e : j = k
      · subst e; rw [updL_same]; exact hn
      · rw [(hgone j e (hj.resolve_left e)).2]; exact List.nodup_nil
    foot := fun j hj b hb => by
      by_cases e : j = k
      · subst e; rw [updL_same] at hb
        rcases hf b hb with h1 | ⟨l, hl, h1⟩
        · exact .inr ⟨j, .inl rfl, h1⟩
        · exact .inr ⟨l, .inr hl, h1⟩
      · rw [(hgone j e (hj.resolve_left e)).2] at hb; simp at hb
    disj := fun j l hj hl hne b hb => by
      by_cases e : j = k
      · have e' : l ≠ k := fun e' => hne (e.trans e'.symm)
        rw [(hgone l e' (hl.resolve_left e')).2]; simp
      · rw [(hgone j e (hj.resolve_left e)).2] at hb; simp at hb
    step := fun o _ hK => hall o hK
    sub := fun o ho => .inr ho
    clean := eraseH_clean
    fresh := fun o ho hgo n es dp ver => by
      by_cases e : o = k
      · subst e
        unfold eraseH at hgo
        have h1 := hg.obj o
        cases hh : h o with
        | gone => rw [hh] at h1; simp only [ObjOk] at h1; rw [h1] at hbf; simp at hbf
        | var cs => rw [hh] at hgo; cases hgo
        | row n es dp g ver => rw [hh] at hgo; cases hgo
      · rw [(hgone o e (ho.resolve_left e)).1]; simp
    killed := fun o ho => (hgone o (fun e => hkK (e ▸ ho)) ho).1 }

theorem loc_same_refl (L : Loc) : L.same L := ⟨rfl, rfl, rfl, rfl⟩
end

section
variable {P : Program} {o : Oper} {t : List Slot} {h : Heap} {tab : List TyI}

theorem run_store_at {T : TypeId} {i : TyI} (hok : TyOk P T i) {w : World} {b off : Nat} {v : Value} {arr : Array Value} {aty : TypeId} (hb : w.heap[b]? = some (.cells arr aty (0, 0))) (hl : v.cells.size = i.sz)
    (hs : off + v.cells.size ≤ arr.size) (h1 : ∀ u ∈ v.cells.toList, u.oneCell' = true) : (storeVar T ⟨b, off, none⟩ v).run P w = .ok () (w.setRow b (patch arr.toList off v.cells.toList).toArray) := by
  have hz := hok.sizeOf w
  have := run_storeCells_at P b off aty v.cells.toList 0 arr w hb (by simpa using hs) h1
  simp only [Nat.add_zero, List.append_assoc] at this
  simp [storeVar, hz, hl, this, patch]

theorem store_run {T : TypeId} {x v : Operand} {a : Act} {p : Addr} {w w' : World} (ho : o.op = .store T x v) (hx : a.eval x = .pointer (some p)) (hl : (storeVar T p (a.eval v)).run P w = .ok () w') :
    (execOp a.eval o).run P w = .ok .skip w' := by
  simp [execOp, ho, hx, Instr.storeAt, Instr.sureAddr, hl]

theorem trel_ones {w : World} {locs : Locs} {RO : Nat → Prop} {cs : List VC} {vs : List Value} (hall : All2 (VRel locs h w RO) cs vs) (hd : ∀ c ∈ cs, c ≠ .dead) : ∀ u ∈ vs, u.oneCell' = true := by
  induction hall with
  | nil => simp
  | cons h1 _ ih =>
    intro u hu
    rcases List.mem_cons.1 hu with rfl | hu
    · exact h1.one (hd _ (by simp))
    · exact ih (fun c hc => hd c (by simp [hc])) u hu

theorem Slot.dead_rel {w : World} {locs : Locs} {RO : Nat → Prop} {v : Value} : SRel locs h w RO .dead v := TRel.single.2 trivial

theorem w_stvar {T : TypeId} {x v : Operand} {k off : Nat} {cs : List VC} {y : TV} (hT : TabOk P tab) (ho : o.op = .store T x v) (hk : (ty tab T).ok = true) (hx : Ev t x ⟨false, [.vp k off]⟩) (hh : h k = .var cs)
    (hv : Ev t v y) (hy : okCells y) (hd : ∀ c ∈ y.cs, c ≠ .dead) (hl : y.cs.length = (ty tab T).sz) (hs : off + y.cs.length ≤ cs.length) :
    Does P o ⟨t, h⟩ ⟨putT t o.dst .dead, upd h k (.var (patch cs off y.cs))⟩ := by
  intro w0 M0 A0 a w K Q ⟨locs, RO, hg, hm⟩ hK
  obtain ⟨⟨_, ex⟩, _⟩ := Tmps.ev1 hm hx
  obtain ⟨e1, e2⟩ := Tmps.ev hm hv
  have hcells := trel_cells hy e1
  have hsz : (a.eval v).cells.size = y.cs.length := by simpa using hcells.length
  have hob := hg.obj k
  simp only [hh] at hob
  obtain ⟨hft, arr, aty, hb, hsa⟩ := hob
  have hold := hg.cells k cs hh arr aty _ hb
  have hrun := store_run ho ex (run_store_at (hT T hk) (off := off) hb (by omega) (by omega) (trel_ones hcells hd))
  have hpl : (patch arr.toList off (a.eval v).cells.toList).length = arr.size := by rw [patch_length (by simp; omega)]; simp
  have ht := touch_store (K := []) (k := k) (arr' := (patch arr.toList off (a.eval v).cells.toList).toArray) (ob := .var (patch cs off y.cs)) (L' := locs k) hg (by simp) hb (by rw [hft]; simp) (loc_same_refl _)
    ⟨hft, _, _, setRow_same hb, by simp [hpl, patch_length hs, hsa]⟩ (hg.nodup k) (fun b hb => .inl hb)
    (fun cs' hc hst => by
      injection hc with hc; subst hc
      simp only [eraseH_nil, letgo_nil, offL_nil] at hst ⊢
      have hro : ∀ b, RO b → RO b ∧ (w.setRow (locs k).b (patch arr.toList off (a.eval v).cells.toList).toArray).heap[b]? = w.heap[b]? := fun b hbr => ⟨hbr, setRow_other fun e => hg.noro k b (by rw [hft, e]; simp) hbr⟩
      refine (All2.patch ?_ ?_ off)
      · exact hold.mono fun a b _ hr => hr.carry hro fun o _ => hst o (by simp)
      · exact hcells.mono fun a b _ hr => hr.carry hro fun o _ => hst o (by simp))
    (fun cs' hc x hx o ho => by
      injection hc with hc; subst hc
      simp only [letgo_nil]
      by_cases e : o = k
      · subst e; rw [upd_same]; simp
      · rw [upd_ne e]
        simp only [patch, List.mem_append] at hx
        rcases hx with hx | hx | hx
        · exact hg.live k cs hh x (List.mem_of_mem_take hx) o ho
        · exact e2 o (List.mem_flatMap.2 ⟨x, hx, ho⟩)
        · exact hg.live k cs hh x (List.mem_of_mem_drop hx) o ho)
    (by
      unfold OStep
      simp only [eraseH_nil, letgo_nil, offL_nil, hh]
      exact ⟨⟨_, upd_same⟩, by rw [updL_same]⟩)
  simp only [eraseH_nil, letgo_nil, offL_nil] at ht
  refine wp_of_skip hrun (hK _ _ ⟨_, RO, hg.step ht, (Tmps.step hg ht hm fun _ _ _ => by simp).put _ Slot.dead_rel (by simp [Slot.dead, Slot.refs, TV.refs, VC.refs])⟩)

/-- Does a cell hold a slice? -/
def isLf : Dat → Bool
  | .lf _ => true
  | _ => false

theorem w_strow {T : TypeId} {x v : Operand} {k g i j n ver : Nat} {es : List (List Dat)} {dp : Bool} {e ds : List Dat} {y : TV} {G : List Nat} {bump : Nat} (hT : TabOk P tab) (ho : o.op = .store T x v) (hk : (ty tab T).ok = true)
    (hx : Ev t x ⟨false, [.ep k g i j]⟩) (hh : h k = .row n es dp g ver) (he : es[i]? = some e) (hv : Ev t v y) (hy : okCells y) (hd : ∀ c ∈ y.cs, c ≠ .dead) (hl : y.cs.length = (ty tab T).sz)
    (ha : AbsD h y.cs ds G) (hG : G.Nodup) (hkG : k ∉ G) (hdp : dp = true ∨ G = []) (hs : j + ds.length ≤ e.length) (hb : 0 < bump ∨ (bump = 0 ∧ ((e.drop j).take ds.length).all isLf = true)) :
    Does P o ⟨t, h⟩ ⟨putT (t.map (eraseS G)) o.dst .dead, upd (letgo G h) k (.row n (es.set i (patch e j ds)) dp g (ver + bump))⟩ := by
  intro w0 M0 A0 a w K Q ⟨locs, RO, hg, hm⟩ hK
  obtain ⟨⟨n', es', dp', g0, ver', hc, hle, p, ex, hp⟩, _⟩ := Tmps.ev1 hm hx
  simp only [hh] at hc
  injection hc with a1 a2 a3 a4 a5
  obtain ⟨e1, e2⟩ := Tmps.ev hm hv
  have hcells := trel_cells hy e1
  have hsz : (a.eval v).cells.size = y.cs.length := by simpa using hcells.length
  obtain ⟨F, hr, hFn, hF⟩ := ha.sound hg hcells hG
  have hob := hg.obj k
  simp only [hh] at hob
  obtain ⟨hn, hxx | ⟨hnl, arr, aty, Gr, hbl, hat, hbs, hrr, k1, k2⟩⟩ := hob
  · rw [hxx.2.1] at he; simp at he
  have hi : i < es.length := (List.getElem?_eq_some_iff.1 he).1
  have hel : e.length = n := hn e (List.mem_of_getElem? he)
  have hdl : ds.length = y.cs.length := ha.length
  have hin : i * n + j + ds.length ≤ es.length * n := by
    have : (i + 1) * n ≤ es.length * n := Nat.mul_le_mul_right n hi
    rw [Nat.succ_mul] at this; omega
  have hvl : (a.eval v).cells.toList.length = ds.length := by rw [hr.length]
  have hvl' : (a.eval v).cells.size = ds.length := by simpa using hvl
  have ep : p = ⟨(locs k).b, (locs k).base + (i * n + j), none⟩ := by rw [a1, ← Nat.add_assoc]; exact hp a4
  rw [ep] at ex
  have hrun := store_run ho ex (run_store_at (hT T hk) (off := (locs k).base + (i * n + j)) hbl (by omega) (by omega) (trel_ones hcells hd))
  have hpl : (patch arr.toList ((locs k).base + (i * n + j)) (a.eval v).cells.toList).length = arr.size := by rw [patch_length (by simp; omega)]; simp
  have hbf : (locs k).b ∈ (locs k).foot := by
    cases dp with
    | true => rw [k1 rfl]; simp
    | false => rw [(k2 rfl).1]; simp
  -- the row's data, anew
  obtain ⟨F1, F2, F3, hGr, hr1, hr2, hr3⟩ := hrr.part (k := i * n + j) (l := ds.length)
  have hfr : ∀ b, b ≠ (locs k).b → (w.setRow (locs k).b (patch arr.toList ((locs k).base + (i * n + j)) (a.eval v).cells.toList).toArray).heap[b]? = w.heap[b]? := fun b hb => setRow_other hb
  have hnb : ∀ b ∈ Gr, b ≠ (locs k).b := by
    intro b hb' e'
    subst e'
    cases dp with
    | true =>
      have := hg.nodup k
      rw [k1 rfl] at this
      exact (List.nodup_cons.1 this).1 hb'
    | false => exact hg.noro k _ hbf ((k2 rfl).2 _ hb')
  have hFb : ∀ b ∈ F, b ≠ (locs k).b := by
    intro b hb' e'
    subst e'
    obtain ⟨l, hl', hbl'⟩ := hF _ hb'
    exact hg.disj l k (fun e => hkG (e ▸ hl')) _ hbl' hbf
  have hF0 : dp = false → F = [] := fun hd0 => by
    rcases hdp with h1 | h1
    · rw [h1] at hd0; cases hd0
    · cases F with
      | nil => rfl
      | cons b F => obtain ⟨l, hl', _⟩ := hF b (by simp); rw [h1] at hl'; simp at hl'
  have hr' : Reps dp w ds (a.eval v).cells.toList F := by
    cases dp with
    | true => exact hr
    | false => exact hr.ro
  have hnew : Reps dp (w.setRow (locs k).b (patch arr.toList ((locs k).base + (i * n + j)) (a.eval v).cells.toList).toArray) (es.set i (patch e j ds)).flatten
      (seg (patch arr.toList ((locs k).base + (i * n + j)) (a.eval v).cells.toList).toArray (locs k).base ((es.set i (patch e j ds)).length * n)) (F1 ++ (F ++ F3)) := by
    revert hfr
    generalize w.setRow (locs k).b (patch arr.toList ((locs k).base + (i * n + j)) (a.eval v).cells.toList).toArray = w2
    intro hfr
    rw [set_flat hn he (by omega), List.length_set, seg_patch (by omega) (by omega)]
    simp only [patch]
    rw [hvl]
    have f1 : ∀ b ∈ F1, b ∈ Gr := fun b hb => by rw [hGr]; simp [hb]
    have f3 : ∀ b ∈ F3, b ∈ Gr := fun b hb => by rw [hGr]; simp [hb]
    rw [List.drop_drop, List.drop_drop] at hr3
    exact (hr1.frame fun b hb => hfr b (hnb b (f1 b hb))).append ((hr'.frame fun b hb => hfr b (hFb b hb)).append (hr3.frame fun b hb => hfr b (hnb b (f3 b hb))))
  have hfoot : ∀ b ∈ F1 ++ (F ++ F3), b ∈ Gr ∨ ∃ l ∈ G, b ∈ (locs l).foot := by
    intro b hb
    simp only [List.mem_append] at hb
    rcases hb with hb | hb | hb
    · exact .inl (by rw [hGr]; simp [hb])
    · exact .inr (hF b hb)
    · exact .inl (by rw [hGr]; simp [hb])
  let L' : Loc := ⟨(locs k).nl, (locs k).b, (locs k).base, (locs k).tot, if dp then (locs k).b :: (F1 ++ (F ++ F3)) else [(locs k).b]⟩
  have hnd : L'.foot.Nodup := by
    cases dp with
    | false => simp [L']
    | true =>
      have hgn := hg.nodup k
      rw [k1 rfl, hGr] at hgn
      obtain ⟨g1, g2⟩ := List.nodup_cons.1 hgn
      obtain ⟨g3, g4, g5⟩ := List.nodup_append.1 g2
      obtain ⟨g6, g7, g8⟩ := List.nodup_append.1 g4
      have hGk : ∀ b ∈ Gr, b ∈ (locs k).foot := fun b hb => by rw [k1 rfl]; simp [hb]
      have hdis : ∀ b ∈ F, ∀ c ∈ Gr, b ≠ c := by
        intro b hb c hc e
        subst e
        obtain ⟨l, hl', hbl'⟩ := hF b hb
        exact hg.disj l k (fun e => hkG (e ▸ hl')) b hbl' (hGk b hc)
      show ((locs k).b :: (F1 ++ (F ++ F3))).Nodup
      refine List.nodup_cons.2 ⟨?_, List.nodup_append.2 ⟨g3, List.nodup_append.2 ⟨hFn, g7, fun b hb c hc => hdis b hb c (by rw [hGr]; simp [hc])⟩, fun b hb c hc => ?_⟩⟩
      · intro hb
        rcases hfoot _ hb with h1 | ⟨l, hl', hbl'⟩
        · exact hnb _ h1 rfl
        · exact hg.disj l k (fun e => hkG (e ▸ hl')) _ hbl' hbf
      · rcases List.mem_append.1 hc with hc | hc
        · exact fun e => hdis c hc b (by rw [hGr]; simp [hb]) e.symm
        · exact g5 b hb c (by simp [hc])
  have hob' : ObjOk (w.setRow (locs k).b (patch arr.toList ((locs k).base + (i * n + j)) (a.eval v).cells.toList).toArray) RO (.row n (es.set i (patch e j ds)) dp g (ver + bump)) L' := by
    refine ⟨set_len hn he (by omega), .inr ⟨hnl, _, _, F1 ++ (F ++ F3), setRow_same hbl, by simp [hpl, hat, L'], by simpa [L'] using hbs, hnew, fun hd1 => by simp [L', hd1], fun hd0 => ⟨by simp [L', hd0], fun b hb => ?_⟩⟩⟩
    rw [hF0 hd0] at hb
    refine (k2 hd0).2 b ?_
    rw [hGr]
    simp only [List.nil_append, List.mem_append] at hb ⊢
    rcases hb with hb | hb
    · exact .inl hb
    · exact .inr (.inr hb)
  have ht := touch_store (K := G) (k := k) (arr' := (patch arr.toList ((locs k).base + (i * n + j)) (a.eval v).cells.toList).toArray) (ob := .row n (es.set i (patch e j ds)) dp g (ver + bump)) (L' := L') hg hkG hbl hbf ⟨rfl, rfl, rfl, rfl⟩
    hob' hnd (fun b hb => by
      have hgk : ∀ b ∈ Gr, dp = true → b ∈ (locs k).foot := fun b hb hd1 => by rw [k1 hd1]; simp [hb]
      cases dp with
      | false => simp only [L'] at hb; simp at hb; subst hb; exact .inl hbf
      | true =>
        rcases List.mem_cons.1 (show b ∈ (locs k).b :: (F1 ++ (F ++ F3)) from hb) with rfl | hb
        · exact .inl hbf
        · rcases hfoot b hb with h1 | h1
          · exact .inl (hgk b h1 rfl)
          · exact .inr h1)
    (fun cs hc => by cases hc) (fun cs hc => by cases hc)
    (by
      unfold OStep
      simp only [eraseH, hh]
      refine ⟨_, _, _, _, upd_same, Nat.le_refl _, by omega, fun _ => by rw [updL_same]; exact ⟨rfl, rfl, rfl, rfl⟩, fun hd1 hver => ⟨hd1, fun i' j' e' m us u q1 q2 q3 => ?_⟩⟩
      rw [updL_same]
      rcases hb with hb | ⟨_, hb⟩
      · omega
      have hi' : i' < es.length := (List.getElem?_eq_some_iff.1 q1).1
      have hel' : e'.length = n := hn e' (List.mem_of_getElem? q1)
      have hj' : j' < n := by have := (List.getElem?_eq_some_iff.1 q2).1; omega
      have hout : i' * n + j' < i * n + j ∨ i * n + j + ds.length ≤ i' * n + j' := by
        rcases Nat.lt_trichotomy i' i with hlt | heq | hgt
        · left
          have : (i' + 1) * n ≤ i * n := Nat.mul_le_mul_right n hlt
          rw [Nat.succ_mul] at this; omega
        · subst heq
          rw [he] at q1; injection q1 with q1; subst q1
          rcases Nat.lt_or_ge j' j with h1 | h1
          · left; omega
          · rcases Nat.lt_or_ge j' (j + ds.length) with h2 | h2
            · exfalso
              rw [List.all_eq_true] at hb
              have : ((e.drop j).take ds.length)[j' - j]? = some (.sl m us) := by
                rw [List.getElem?_take, if_pos (by omega), List.getElem?_drop, ← q2]; congr 1; omega
              have := hb _ (List.mem_of_getElem? this)
              simp [isLf] at this
            · right; omega
        · right
          have : (i + 1) * n ≤ i' * n := Nat.mul_le_mul_right n hgt
          rw [Nat.succ_mul] at this; omega
      constructor
      · by_cases hii : i' = i
        · subst hii
          rw [he] at q1; injection q1 with q1; subst q1
          refine ⟨patch e j ds, m, us, by rw [List.getElem?_set_self hi], ?_⟩
          simp only [patch, List.getElem?_append, List.length_take]
          rcases hout with h1 | h1
          · rw [Nat.min_eq_left (by omega), if_pos (by omega), List.getElem?_take, if_pos (by omega)]; exact q2
          · rw [Nat.min_eq_left (by omega), if_neg (by omega), if_neg (by omega), List.getElem?_drop, ← q2]; congr 1; omega
        · exact ⟨e', m, us, by rw [List.getElem?_set_ne (by omega)]; exact q1, q2⟩
      · show World.cell? _ ⟨(locs k).b, (locs k).base + i' * n + j', none⟩ = some u
        rw [cell_block (setRow_same hbl), patch_seg_other (by simp; omega) (by simp only [hvl]; omega)]
        rw [cell_block hbl] at q3
        exact q3)
  refine wp_of_skip hrun (hK _ _ ⟨_, RO, (hg.erase (K := G)).step ht, (Tmps.step hg.erase ht (Tmps.erase hm) fun _ => erase_clean).put _ Slot.dead_rel (by simp [Slot.dead, Slot.refs, TV.refs, VC.refs])⟩)
end

end Go.Proofs.Ytkcpbahcnlhmjaa.V
