/-
  Operations that take in or write: 'Does'; struct and slice literals, stores into variables and rows.
-/
import Derived.Test.YtkcpbahcnlhmjaaV6
import Derived.Laws.Tables
namespace Go.Proofs.Ytkcpbahcnlhmjaa.V
open Go
set_option linter.unusedVariables false
set_option linter.unusedSimpArgs false

/-- The operation leads from a state to another. -/
def Does (P : Program) (o : Oper) (st st' : St) : Prop :=
  ∀ (w0 : World) (M0 : Nat → Prop) (A0 : Cx) (a : Act) (w : World) (K : Act → World → Prop) (Q : Exit → Act → World → Prop), Rel w0 M0 A0 st a w → (∀ a' w', Rel w0 M0 A0 st' a' w' → K a' w') → o.wp P a w K Q

/-- The operation leads from a state to one of some states. -/
def DoesS (P : Program) (o : Oper) (st : St) (S : St → Prop) : Prop :=
  ∀ (w0 : World) (M0 : Nat → Prop) (A0 : Cx) (a : Act) (w : World) (K : Act → World → Prop) (Q : Exit → Act → World → Prop), Rel w0 M0 A0 st a w → (∀ st' a' w', S st' → Rel w0 M0 A0 st' a' w' → K a' w') → o.wp P a w K Q

def letgo (K : List Nat) (h : Heap) : Heap := killH K (eraseH K h)
def offL (K : List Nat) (locs : Locs) : Locs := fun k => if K.contains k then { locs k with foot := [] } else locs k
/-- The operation yields a value and new objects, and lets some objects go. -/
def DoesK (P : Program) (o : Oper) (t : List Slot) (h : Heap) (r : Slot) (news : List (Nat × VO)) (G : List Nat) : Prop :=
  ∀ (w0 : World) (M0 : Nat → Prop) (A0 : Cx) (locs : Locs) (RO : Nat → Prop) (a : Act) (w : World), Good w0 M0 A0 h w locs RO → Tmps locs h w RO t a →
    ∀ (K : Act → World → Prop) (Q : Exit → Act → World → Prop),
      (∀ v w' locs', Touch (eraseH G h) w locs (updAll (letgo G h) news) w' locs' RO (fun k => k ∈ news.map (·.1) ∨ k ∈ G) (fun _ => False) (· ∈ G) →
        SRel locs' (updAll (letgo G h) news) w' RO r v → (∀ o ∈ r.refs, updAll (letgo G h) news o ≠ .gone) → K (a.put o.dst v) w') →
      o.wp P a w K Q

theorem DoesR.does {P : Program} {o : Oper} {t : List Slot} {h : Heap} {r : Slot} {news : List (Nat × VO)} (hd : DoesR P o t h r news) : Does P o ⟨t, h⟩ ⟨putT t o.dst r, updAll h news⟩ := by
  intro w0 M0 A0 a w K Q ⟨locs, RO, hg, hm⟩ hK
  exact hd w0 M0 A0 locs RO a w hg hm K Q fun v w' locs' ht hs hl => hK _ _ ⟨locs', RO, hg.step ht, (Tmps.step hg ht hm fun _ _ _ => not_false).put _ hs hl⟩

theorem DoesK.does {P : Program} {o : Oper} {t : List Slot} {h : Heap} {r : Slot} {news : List (Nat × VO)} {G : List Nat} (hd : DoesK P o t h r news G) :
    Does P o ⟨t, h⟩ ⟨putT (t.map (eraseS G)) o.dst r, updAll (letgo G h) news⟩ := by
  intro w0 M0 A0 a w K Q ⟨locs, RO, hg, hm⟩ hK
  exact hd w0 M0 A0 locs RO a w hg hm K Q fun v w' locs' ht hs hl =>
    hK _ _ ⟨locs', RO, (hg.erase (K := G)).step ht, (Tmps.step hg.erase ht (Tmps.erase hm) fun _ => erase_clean).put _ hs hl⟩

theorem Yield.one {P : Program} {o : Oper} {t : List Slot} {h : Heap} {r : Slot} (hy : Yield P o t h r) : Does P o ⟨t, h⟩ ⟨putT t o.dst r, h⟩ := hy.does.does

/-! ### filling -/
theorem foldl_patch (off : Nat) : ∀ (l : List Value) (k : Nat) (cs : Array Value), off + k + l.length ≤ cs.size →
    ((l.zipIdx k).foldl (fun cs x => cs.setIfInBounds (off + x.2) x.1) cs).toList = cs.toList.take (off + k) ++ (l ++ cs.toList.drop (off + k + l.length))
  | [], k, cs, _ => by simp
  | v :: l, k, cs, h => by
    rw [List.zipIdx_cons, List.foldl_cons, foldl_patch off l (k + 1) _ (by simp at h ⊢; omega)]
    have e := list_seg_step cs.toList (off + k) v l (by simp at h ⊢; omega)
    simpa [Array.toList_setIfInBounds, Nat.add_assoc, List.append_assoc] using e

theorem fill_step {v : Value} {off : Nat} {cells : Array Value} (h : off + v.cells.size ≤ cells.size) :
    (v.cells.zipIdx.foldl (fun cs (x : Value × Nat) => cs.setIfInBounds (off + x.2) x.1) cells).toList = patch cells.toList off v.cells.toList := by
  rw [← Array.foldl_toList, Array.toList_zipIdx, foldl_patch off v.cells.toList 0 cells (by simpa using h)]
  simp [patch]

theorem fill_cons {place : Nat → Option (Nat × Nat)} {cells : Array Value} {i off size : Nat} {v : Value} {rest : List (Nat × Value)} (hp : place i = some (off, size)) (h1 : v.cells.size = size) (h2 : off + size ≤ cells.size) :
    Instr.fill place cells ((i, v) :: rest) = Instr.fill place (patch cells.toList off v.cells.toList).toArray rest := by
  have e : (v.cells.zipIdx.foldl (fun cs (x : Value × Nat) => cs.setIfInBounds (off + x.2) x.1) cells) = (patch cells.toList off v.cells.toList).toArray := by
    apply Array.ext'
    rw [fill_step (by omega)]
  conv => lhs; unfold Instr.fill
  simp only [hp]
  rw [if_neg (by simp [h1]; omega)]
  rw [← e]

section
variable {P : Program} {o : Oper} {t : List Slot} {h : Heap} {tab : List TyI}

def okCells (y : TV) : Prop := y.ag = true ∨ ∃ c, y.cs = [c] ∧ c ≠ .dead
theorem trel_cells {w : World} {locs : Locs} {RO : Nat → Prop} {y : TV} {v : Value} (hy : okCells y) (h1 : TRel locs h w RO y v) : All2 (VRel locs h w RO) y.cs v.cells.toList := by
  obtain ⟨ag, cs⟩ := y
  cases ag with
  | true => obtain ⟨arr, e, hall⟩ := h1; rw [e]; exact hall
  | false =>
    rcases hy with hy | ⟨c, hc, hd⟩
    · simp at hy
    · simp only at hc; subst hc
      have hv := TRel.single.1 h1
      have h3 := hv.one hd
      have : v.cells = #[v] := by cases v <;> simp [Value.cells] <;> simp [Value.oneCell'] at h3
      rw [this]; exact .cons hv .nil

/-- The parts of a struct literal, laid over its cells. -/
inductive PartsV (tab : List TyI) (t : List Slot) (offs : List (Nat × Nat)) : List (Nat × Operand) → List VC → List VC → Prop
  | nil {cs : List VC} : PartsV tab t offs [] cs cs
  | cons {i fo fT : Nat} {x : Operand} {y : TV} {rest : List (Nat × Operand)} {cs cs' : List VC} (hf : offs[i]? = some (fo, fT)) (hk : (ty tab fT).ok = true) (he : Ev t x y) (hy : okCells y)
      (hl : y.cs.length = (ty tab fT).sz) (hb : fo + y.cs.length ≤ cs.length) (r : PartsV tab t offs rest (patch cs fo y.cs) cs') : PartsV tab t offs ((i, x) :: rest) cs cs'

theorem y_build {T : TypeId} {parts : Array (Nat × Operand)} {offs : List (Nat × Nat)} {cs : List VC} (hT : TabOk P tab) (ho : o.op = .build T parts) (hk : (ty tab T).k = .st offs)
    (hp : PartsV tab t offs parts.toList ((ty tab T).zero.map zvc) cs) (hc : ∀ c ∈ (ty tab T).zero.map zvc, c.refs = []) : Yield P o t h (.t ⟨true, cs⟩) := by
  intro w0 M0 A0 locs RO a w hg hm
  have hok := hT T (by simp [TyI.ok, hk])
  obtain ⟨f, d, h1, h2, h3, _, hkd, z, hz, hzc, _⟩ := hok.ex
  rw [hk] at hkd
  obtain ⟨fs, rfl, hoffs, hfs⟩ := kindOk_st hkd
  have hplaces : ∃ places : List (Nat × Nat), fs.toList.mapM (fun f => (P.info? f.type).map fun i => (f.offset, i.size)) = some places ∧
      ∀ (i fo fT : Nat), offs[i]? = some (fo, fT) → (ty tab fT).ok = true → places[i]? = some (fo, (ty tab fT).sz) := by
    have hfs' : ∀ f ∈ fs.toList, (P.info? f.type).isSome = true := fun f hf => (hfs f (by simpa using hf)).2
    rw [← hoffs]
    clear hoffs hkd hp hfs
    generalize fs.toList = l at hfs' ⊢
    induction l with
    | nil => exact ⟨[], by simp, by simp⟩
    | cons f l ih =>
      obtain ⟨places, hp1, hp2⟩ := ih fun g hg => hfs' g (by simp [hg])
      obtain ⟨info, hinfo⟩ := Option.isSome_iff_exists.1 (hfs' f (by simp))
      refine ⟨(f.offset, info.size) :: places, by simp [List.mapM_cons, hinfo, hp1], fun i fo fT hi hkk => ?_⟩
      cases i with
      | zero =>
        simp at hi
        obtain ⟨rfl, rfl⟩ := hi
        obtain ⟨f', _, e1, _, e2, _⟩ := (hT _ hkk).ex
        rw [hinfo] at e1
        injection e1 with e1; subst e1
        simp [e2]
      | succ i => simpa using hp2 i fo fT (by simpa using hi) hkk
  obtain ⟨places, hpl, hpl2⟩ := hplaces
  have key : ∀ (parts : List (Nat × Operand)) (cs0 cs1 : List VC) (arr : Array Value), PartsV tab t offs parts cs0 cs1 → All2 (VRel locs h w RO) cs0 arr.toList → (∀ c ∈ cs0, ∀ o ∈ c.refs, h o ≠ .gone) →
      ∃ brr, Instr.fill (fun i => places.toArray[i]?) arr (parts.map fun (i, x) => (i, a.eval x)) = some brr ∧ All2 (VRel locs h w RO) cs1 brr.toList ∧ ∀ c ∈ cs1, ∀ o ∈ c.refs, h o ≠ .gone := by
    intro parts cs0 cs1 arr hpp
    induction hpp generalizing arr with
    | nil => intro h1 h2; exact ⟨arr, by simp [Instr.fill], h1, h2⟩
    | cons hf hkk he hy hl hb r ih =>
      rename_i i fo fT x y rest csa csb
      intro hall hlive
      obtain ⟨e1, e2⟩ := hm.ev he
      have hcells := trel_cells hy e1
      have hsz : (a.eval x).cells.size = (ty tab fT).sz := by have := hcells.length; simp only [Array.length_toList] at this; rw [this, hl]
      have hla : arr.size = csa.length := by have := hall.length; simpa using this
      rw [List.map_cons, fill_cons (by simpa using hpl2 _ _ _ hf hkk) hsz (by rw [hla, ← hl]; exact hb)]
      refine ih _ (by simpa using hall.patch hcells _) fun c hc o ho => ?_
      simp only [patch, List.mem_append] at hc
      rcases hc with hc | hc | hc
      · exact hlive c (List.mem_of_mem_take hc) o ho
      · exact e2 o (List.mem_flatMap.2 ⟨c, hc, ho⟩)
      · exact hlive c (List.mem_of_mem_drop hc) o ho
  obtain ⟨brr, hfill, hall, hlive⟩ := key parts.toList _ _ z.cells hp (zvcs_rel hzc) fun c hcm o ho => by rw [hc c hcm] at ho; simp at ho
  have hbuilt : P.built T (parts.map fun (i, x) => (i, a.eval x)).toList = some brr := by
    simp only [Program.built, h1, h2, hz, hpl, Array.toList_map]
    exact hfill
  refine ⟨.agg brr, ?_, ⟨brr, rfl, hall⟩, fun o' ho' => ?_⟩
  · simp only [execOp, ho, Sem.run_bind, run_build w T _ brr hbuilt, Result.andThen_ok]; rfl
  · simp only [Slot.refs, TV.refs, List.mem_flatMap] at ho'
    obtain ⟨c, hc', ho'⟩ := ho'
    exact hlive c hc' o' ho'

/-- The elements of a slice literal. -/
inductive PartsD (t : List Slot) (h : Heap) (n : Nat) : Nat → List (Nat × Operand) → List (List Dat) → List Nat → Prop
  | nil {k : Nat} : PartsD t h n k [] [] []
  | cons {k : Nat} {x : Operand} {y : TV} {ds : List Dat} {rest : List (Nat × Operand)} {es : List (List Dat)} {K1 K2 : List Nat} (he : Ev t x y) (hy : okCells y) (ha : AbsD h y.cs ds K1) (hl : ds.length = n)
      (r : PartsD t h n (k + 1) rest es K2) : PartsD t h n k ((k, x) :: rest) (ds :: es) (K1 ++ K2)

theorem PartsD.len {n k : Nat} {parts : List (Nat × Operand)} {es : List (List Dat)} {K : List Nat} (hp : PartsD t h n k parts es K) : es.length = parts.length ∧ ∀ e ∈ es, e.length = n := by
  induction hp with
  | nil => simp
  | cons he hy ha hl r ih => exact ⟨by simp [ih.1], fun e hh => by rcases List.mem_cons.1 hh with rfl | hh; exact hl; exact ih.2 e hh⟩

theorem partsD_sound {n : Nat} {w0 : World} {M0 : Nat → Prop} {A0 : Cx} {w : World} {locs : Locs} {RO : Nat → Prop} {a : Act} (hg : Good w0 M0 A0 h w locs RO) (hm : Tmps locs h w RO t a) {k : Nat} {parts : List (Nat × Operand)}
    {es : List (List Dat)} {K : List Nat} (hp : PartsD t h n k parts es K) : ∀ (arr : Array Value), arr.size = (k + parts.length) * n → K.Nodup →
      ∃ vs F, Instr.fill (fun i => some (i * n, n)) arr (parts.map fun (i, x) => (i, a.eval x)) = some (arr.toList.take (k * n) ++ vs).toArray ∧ Reps true w es.flatten vs F ∧ F.Nodup ∧ ∀ b ∈ F, ∃ k ∈ K, b ∈ (locs k).foot := by
  induction hp with
  | nil =>
    intro arr hs _
    refine ⟨[], [], ?_, .nil, List.nodup_nil, by simp⟩
    simp only [List.length_nil, Nat.add_zero] at hs
    simp only [List.map_nil, Instr.fill, List.append_nil]
    rw [← hs, ← Array.length_toList, List.take_length]
  | cons he hy ha hl r ih =>
    rename_i k x y ds rest es K1 K2
    intro arr hs hK
    obtain ⟨e1, e2⟩ := hm.ev he
    have hcells := trel_cells hy e1
    have hsz : (a.eval x).cells.size = n := by have := hcells.length; simp only [Array.length_toList] at this; rw [this, ← ha.length, hl]
    obtain ⟨hK1, hK2, hK3⟩ := List.nodup_append.1 hK
    have hkn : (k + 1) * n ≤ arr.size := by rw [hs]; apply Nat.mul_le_mul_right; simp
    rw [Nat.succ_mul] at hkn
    obtain ⟨F1, hr1, hn1, hF1⟩ := ha.sound hg hcells hK1
    have hps : (patch arr.toList (k * n) (a.eval x).cells.toList).length = arr.size := by rw [patch_length (by simp [hsz]; omega)]; simp
    obtain ⟨vs, F2, hf2, hr2, hn2, hF2⟩ := ih (patch arr.toList (k * n) (a.eval x).cells.toList).toArray (by simp only [List.size_toArray, hps, hs, List.length_cons]; congr 1; omega) hK2
    refine ⟨(a.eval x).cells.toList ++ vs, F1 ++ F2, ?_, by rw [List.flatten_cons]; exact hr1.append hr2, List.nodup_append.2 ⟨hn1, hn2, fun b hb c hc e => ?_⟩, fun b hb => ?_⟩
    · rw [List.map_cons, fill_cons rfl hsz (by omega), hf2]
      congr 2
      rw [← List.append_assoc]
      congr 1
      simp only [patch]
      rw [← List.append_assoc, List.take_append_of_le_length (by simp [hsz, Nat.succ_mul]; omega), List.take_of_length_le (by simp [hsz, Nat.succ_mul]; omega)]
    · subst e
      obtain ⟨k1, hk1, hb1⟩ := hF1 b hb
      obtain ⟨k2, hk2, hb2⟩ := hF2 b hc
      exact hg.disj k1 k2 (fun e => hK3 k1 hk1 k2 hk2 e) b hb1 hb2
    · rcases List.mem_append.1 hb with hb | hb
      · obtain ⟨k1, hk1, hb1⟩ := hF1 b hb; exact ⟨k1, by simp [hk1], hb1⟩
      · obtain ⟨k1, hk1, hb1⟩ := hF2 b hb; exact ⟨k1, by simp [hk1], hb1⟩

/-- A new row, out of what was taken in. -/
theorem touch_new {w0 : World} {M0 : Nat → Prop} {A0 : Cx} {w w' : World} {locs : Locs} {RO : Nat → Prop} (hg : Good w0 M0 A0 h w locs RO) {K : List Nat} {k : Nat} (hk : h k = .gone) {ob : VO} {L : Loc} (hkept : Kept (fun _ => False) w w')
    (hob : ObjOk w' RO ob L) (hrow : ∃ n es dp g ver, ob = .row n es dp (g + 1) ver) (hn : L.foot.Nodup) (hf : ∀ b ∈ L.foot, w.heap.size ≤ b ∨ ∃ l ∈ K, b ∈ (locs l).foot) (hkk : k ∉ K) :
    Touch (eraseH K h) w locs (upd (letgo K h) k ob) w' (updL (offL K locs) k L) RO (fun l => l = k ∨ l ∈ K) (fun _ => False) (· ∈ K) where
  kept := hkept
  only b hb := hb.elim
  same j hj := by
    simp only [not_or] at hj
    have : K.contains j = false := by simpa using hj.2
    exact ⟨by rw [upd_ne hj.1]; simp only [letgo, killH, this]; rfl, by rw [updL_ne hj.1]; simp only [offL, this]; rfl⟩
  obj j hj := by
    by_cases e : j = k
    · subst e; rw [upd_same, updL_same]; exact hob
    · rw [upd_ne e, updL_ne e]
      have hc : K.contains j = true := by simpa using hj.resolve_left e
      simp only [letgo, killH, offL, hc, if_true]
      rfl
  cells j hj cs' hc := by
    by_cases e : j = k
    · subst e
      rw [upd_same] at hc
      obtain ⟨n, es, dp, g, ver, e⟩ := hrow
      rw [e] at hc; cases hc
    · rw [upd_ne e] at hc
      have hcc : K.contains j = true := by simpa using hj.resolve_left e
      simp only [letgo, killH, hcc, if_true] at hc
      cases hc
  live j hj cs' hc := by
    by_cases e : j = k
    · subst e
      rw [upd_same] at hc
      obtain ⟨n, es, dp, g, ver, e⟩ := hrow
      rw [e] at hc; cases hc
    · rw [upd_ne e] at hc
      have hcc : K.contains j = true := by simpa using hj.resolve_left e
      simp only [letgo, killH, hcc, if_true] at hc
      cases hc
  nodup j hj := by
    by_cases e : j = k
    · subst e; rw [updL_same]; exact hn
    · rw [updL_ne e]
      have hc : K.contains j = true := by simpa using hj.resolve_left e
      simp only [offL, hc, if_true]; exact List.nodup_nil
  foot j hj b hb := by
    by_cases e : j = k
    · subst e; rw [updL_same] at hb
      rcases hf b hb with h1 | ⟨l, hl, h1⟩
      · exact .inl h1
      · exact .inr ⟨l, .inr hl, h1⟩
    · rw [updL_ne e] at hb
      have hc : K.contains j = true := by simpa using hj.resolve_left e
      simp only [offL, hc, if_true] at hb
      simp at hb
  disj j l hj hl hne b hb := by
    by_cases e : j = k
    · have e' : l ≠ k := fun e' => hne (e.trans e'.symm)
      rw [updL_ne e']
      have hc : K.contains l = true := by simpa using hl.resolve_left e'
      simp only [offL, hc, if_true]; simp
    · rw [updL_ne e] at hb
      have hc : K.contains j = true := by simpa using hj.resolve_left e
      simp only [offL, hc, if_true] at hb
      simp at hb
  step o' ho' hK := by
    have e := ho'.resolve_right hK
    subst e
    unfold OStep
    have : eraseH K h o' = .gone := by simp only [eraseH, hk]
    rw [this]
    trivial
  sub o ho := .inr ho
  clean := eraseH_clean
  fresh o ho _ n es dp ver := by
    by_cases e : o = k
    · subst e
      obtain ⟨n', es', dp', g, ver', e⟩ := hrow
      rw [upd_same, e]; simp
    · rw [upd_ne e]
      have hc : K.contains o = true := by simpa using ho.resolve_left e
      simp only [letgo, killH, hc, if_true]; simp
  killed o ho := by
    have e : o ≠ k := fun e => hkk (e ▸ ho)
    rw [upd_ne e]
    have hc : K.contains o = true := by simpa using ho
    simp only [letgo, killH, hc, if_true]

theorem k_bslice {T : TypeId} {len el k : Nat} {parts : Array (Nat × Operand)} {es : List (List Dat)} {K : List Nat} (hT : TabOk P tab) (ho : o.op = .buildSlice T len parts) (hk : (ty tab T).k = .sl el) (hel : (ty tab el).ok = true)
    (hlen : parts.size = len) (hp : PartsD t h (ty tab el).sz 0 parts.toList es K) (hK : K.Nodup) (hbig : len * (ty tab el).sz ≤ 16777216) (hg : h k = .gone) (hkk : k ∉ K) :
    DoesK P o t h (.t ⟨false, [.sr k 1 0 len len]⟩) [(k, .row (ty tab el).sz es true 1 0)] K := by
  intro w0 M0 A0 locs RO a w hgd hm Kc Q hKc
  obtain ⟨f, d, h1, h2, h3, _, _, z, hz, hzc, _⟩ := (hT el hel).ex
  have hu := (hT T (by simp [TyI.ok, hk])).slice hk
  have hsz := (hT el hel).sizeOf w
  have hzv : (zeroValue el).run P w = .ok z w := by simp [zeroValue, typeInfo, h1, hz]
  have hpl : parts.toList.length = len := by simpa using hlen
  obtain ⟨vs, F, hfill, hr, hn, hF⟩ := partsD_sound hgd hm hp
    ((Array.range (len * (ty tab el).sz)).map ((if len * (ty tab el).sz = 0 then #[] else z.cells)[· % (if len * (ty tab el).sz = 0 then #[] else z.cells).size]!)) (by simp [hpl]) hK
  rw [Nat.zero_mul, List.take_zero, List.nil_append] at hfill
  have hrun : (execOp a.eval o).run P w = .ok (.value (.slice (some ⟨w.heap.size, 0, none⟩) len len)) (w.alloc (.cells vs.toArray el)) := by
    by_cases h0 : len * (ty tab el).sz = 0
    · have e0 : ∀ f : Nat → Value, Array.map f (Array.range 0) = #[] := fun f => by simp
      simp only [h0, if_true] at hfill
      rw [e0] at hfill
      simp [execOp, ho, Instr.buildSlice, Go.underlying, hu, hsz, h0, e0, hfill, newRow]
    · simp only [h0, if_false] at hfill
      have hnb : ¬ (16777216 < len * (ty tab el).sz) := by omega
      simp [execOp, ho, Instr.buildSlice, Go.underlying, hu, hsz, h0, hnb, hzv, hfill, newRow]
  have hel' := hp.len
  have hvl : vs.length = es.length * (ty tab el).sz := by rw [hr.length, flat_len hel'.2]
  have hsize : w.heap.size ∉ F := fun hb => by
    obtain ⟨k1, _, hb1⟩ := hF _ hb
    exact Nat.lt_irrefl _ (hgd.lt hb1)
  have hob : ObjOk (w.alloc (.cells vs.toArray el)) RO (.row (ty tab el).sz es true 1 0) ⟨false, w.heap.size, 0, vs.length, w.heap.size :: F⟩ := by
    refine ⟨hel'.2, .inr ⟨rfl, vs.toArray, el, F, heap_alloc_new, by simp, by simp [hvl], ?_, fun _ => rfl, by simp⟩⟩
    have h5 := seg_all (arr := vs.toArray)
    rw [List.size_toArray, hvl] at h5
    simp only at h5
    rw [h5]
    exact hr.frame fun b hb => heap_alloc_old (hr.lt b hb)
  have ht := touch_new (K := K) hgd hg (kept_alloc w (.cells vs.toArray el)) hob ⟨_, _, _, _, _, rfl⟩ (List.nodup_cons.2 ⟨hsize, hn⟩) (fun b hb => by
    rcases List.mem_cons.1 hb with rfl | hb
    · exact .inl (Nat.le_refl _)
    · exact .inr (hF b hb)) hkk
  refine wp_of_value hrun (hKc _ _ (updL (offL K locs) k ⟨false, w.heap.size, 0, vs.length, w.heap.size :: F⟩) ?_ ?_ ?_)
  · simpa [updAll] using ht
  · refine TRel.single.2 ⟨_, _, _, _, _, upd_same, Nat.le_refl _, rfl, fun _ => .inr ⟨by rw [updL_same], len, ?_, Nat.le_refl _, Nat.le_refl _, ?_⟩⟩
    · rw [updL_same]; simp
    · rw [updL_same]; simp [hvl, hel'.1, hpl]
  · simp [Slot.refs, TV.refs, VC.refs, updAll, upd_same]
end

end Go.Proofs.Ytkcpbahcnlhmjaa.V
