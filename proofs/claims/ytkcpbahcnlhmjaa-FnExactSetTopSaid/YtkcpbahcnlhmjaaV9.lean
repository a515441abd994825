/-
  append, make, cutting of slices.
-/
import Derived.Test.YtkcpbahcnlhmjaaV8
import Derived.Laws.Append
namespace Go.Proofs.Ytkcpbahcnlhmjaa.V
open Go
set_option linter.unusedVariables false
set_option linter.unusedSimpArgs false

theorem reps_flat {wr : Bool} {w : World} {ds : List Dat} {vs : List Value} {F : List Nat} (hr : Reps wr w ds vs F) (hf : ds.all isLf = true) : Reps true w ds vs [] := by
  induction hr with
  | nil => exact .nil
  | lf h _ ih => exact .lf h (ih (by simpa [isLf] using hf))
  | nl _ _ => simp [isLf] at hf
  | sl _ _ _ _ _ _ _ _ _ => simp [isLf] at hf
  | pt _ _ _ _ _ _ _ => simp [isLf] at hf
  | cl _ _ _ _ => simp [isLf] at hf
  | hole _ _ _ => simp [isLf] at hf
  | em _ _ _ => simp [isLf] at hf

/-- What is appended: the elements, and what is let go for them. -/
inductive Src (h : Heap) (n : Nat) : VC → List (List Dat) → List Nat → Prop
  | take {k g off len room ver : Nat} {us e : List (List Dat)} (hk : h k = .row n us true g ver) (hl : off + len ≤ us.length) (he : (us.drop off).take len = e) : Src h n (.sr k g off len room) e [k]
  | flat {k g off len room ver : Nat} {us e : List (List Dat)} {dp : Bool} (hk : h k = .row n us dp g ver) (hl : off + len ≤ us.length) (he : (us.drop off).take len = e) (hf : e.flatten.all isLf = true) :
      Src h n (.sr k g off len room) e []
  | d {us : List (List Dat)} (hf : us.flatten.all isLf = true) : Src h n (.d (.sl n us)) us []
  | nl : Src h n (.nl n) [] []

structure SrcOk (w : World) (n : Nat) (e : List (List Dat)) (v : Value) (vs : List Value) : Prop where
  form : (v = .slice none 0 0 ∧ e = []) ∨ ∃ a c, v = .slice (some a) e.length c ∧ ∀ j u, vs[j]? = some u → w.cell? (a.add j) = some u
  all : ∀ x ∈ e, x.length = n

theorem src_of_reps {w : World} {n : Nat} {e : List (List Dat)} {v : Value} {F : List Nat} {wr : Bool} (hr : Reps wr w [.sl n e] [v] F) :
    ∃ vs G, SrcOk w n e v vs ∧ Reps wr w e.flatten vs G ∧ (∀ b ∈ G, b ∈ F) ∧ (F.Nodup → G.Nodup) := by
  cases hr with
  | nl r => exact ⟨[], [], ⟨.inl ⟨rfl, rfl⟩, by simp⟩, .nil, by simp, fun _ => List.nodup_nil⟩
  | em h r => exact ⟨[], [], ⟨.inr ⟨_, _, rfl, fun j u hj => by simp at hj⟩, by simp⟩, .nil, by simp, fun _ => List.nodup_nil⟩
  | sl hb hc he hs hw g r =>
    cases r
    refine ⟨_, _, ⟨.inr ⟨_, _, rfl, fun j u hj => ?_⟩, he⟩, g, fun b hb => by simp [hb], fun hn => by simp at hn; exact hn.2⟩
    have hj' : j < e.length * n := by
      have := (List.getElem?_eq_some_iff.1 hj).1
      rw [seg_length hs] at this; exact this
    rw [seg_get hj'] at hj
    rw [add_plain, cell_block hb]; exact hj

section
variable {w0 : World} {M0 : Nat → Prop} {A0 : Cx} {h : Heap} {w : World} {locs : Locs} {RO : Nat → Prop}

theorem Src.sound (hg : Good w0 M0 A0 h w locs RO) {n : Nat} {x : VC} {e : List (List Dat)} {K : List Nat} {v : Value} (hs : Src h n x e K) (hv : VRel locs h w RO x v) :
    ∃ vs G, SrcOk w n e v vs ∧ Reps true w e.flatten vs G ∧ G.Nodup ∧ ∀ b ∈ G, ∃ k ∈ K, b ∈ (locs k).foot := by
  cases hs with
  | take hk hl he =>
    rename_i k g off len room ver us
    obtain ⟨n', es', dp', g0, ver', hc, hle, hone, hp⟩ := hv
    rw [hk] at hc
    injection hc with a1 a2 a3 a4 a5
    subst a1
    have hob := hg.obj k
    rw [hk] at hob
    obtain ⟨F, hr, hd, _⟩ := view_reps hob (hg.nodup k) (hp a4) hl
    obtain ⟨hn, hF⟩ := hd rfl
    rw [he] at hr
    obtain ⟨vs, G, h1, h2, h3, h4⟩ := src_of_reps hr
    exact ⟨vs, G, h1, h2, h4 hn, fun b hb => ⟨k, by simp, hF b (h3 b hb)⟩⟩
  | flat hk hl he hf =>
    rename_i k g off len room ver us dp
    obtain ⟨n', es', dp', g0, ver', hc, hle, hone, hp⟩ := hv
    rw [hk] at hc
    injection hc with a1 a2 a3 a4 a5
    subst a1
    have hob := hg.obj k
    rw [hk] at hob
    obtain ⟨F, hr, _⟩ := view_reps hob (hg.nodup k) (hp a4) hl
    rw [he] at hr
    obtain ⟨vs, G, h1, h2, h3, h4⟩ := src_of_reps hr
    exact ⟨vs, [], h1, reps_flat h2 hf, List.nodup_nil, by simp⟩
  | d hf =>
    obtain ⟨F, hr, _⟩ := hv
    obtain ⟨vs, G, h1, h2, h3, h4⟩ := src_of_reps hr
    exact ⟨vs, [], h1, reps_flat h2 hf, List.nodup_nil, by simp⟩
  | nl =>
    cases hv
    exact ⟨[], [], ⟨.inl ⟨rfl, rfl⟩, by simp⟩, .nil, List.nodup_nil, by simp⟩

/-- A row that has been turned as a whole. -/
theorem touch_row2 (hg : Good w0 M0 A0 h w locs RO) {K : List Nat} {k : Nat} (hkK : k ∉ K) {n g ver : Nat} {es es' : List (List Dat)} {dp dp' : Bool} (hh : h k = .row n es dp g ver) {w' : World} {N : Nat → Prop} (hkept : Kept N w w')
    (hN : ∀ b, N b → b ∈ (locs k).foot) {L' : Loc} (hob : ObjOk w' RO (.row n es' dp' (g + 1) (ver + 1)) L') (hn : L'.foot.Nodup) (hf : ∀ b ∈ L'.foot, w.heap.size ≤ b ∨ b ∈ (locs k).foot ∨ ∃ l ∈ K, b ∈ (locs l).foot) :
    Touch (eraseH K h) w locs (upd (letgo K h) k (.row n es' dp' (g + 1) (ver + 1))) w' (updL (offL K locs) k L') RO (fun l => l = k ∨ l ∈ K) N (· ∈ K) := by
  have hsame : ∀ j, j ≠ k → j ∉ K → upd (letgo K h) k (.row n es' dp' (g + 1) (ver + 1)) j = eraseH K h j ∧ updL (offL K locs) k L' j = locs j := by
    intro j h1 h2
    have : K.contains j = false := by simpa using h2
    exact ⟨by rw [upd_ne h1]; simp only [letgo, killH, this]; rfl, by rw [updL_ne h1]; simp only [offL, this]; rfl⟩
  have hgone : ∀ j, j ≠ k → j ∈ K → upd (letgo K h) k (.row n es' dp' (g + 1) (ver + 1)) j = .gone ∧ (updL (offL K locs) k L' j).foot = [] := by
    intro j h1 h2
    have : K.contains j = true := by simpa using h2
    exact ⟨by rw [upd_ne h1]; simp only [letgo, killH, this]; rfl, by rw [updL_ne h1]; simp only [offL, this]; rfl⟩
  exact {
    kept := hkept
    only := fun b hb => ⟨k, .inl rfl, hN b hb⟩
    same := fun j hj => by
      simp only [not_or] at hj
      exact hsame j hj.1 hj.2
    obj := fun j hj => by
      by_cases e : j = k
      · subst e; rw [upd_same, updL_same]; exact hob
      · obtain ⟨h1, h2⟩ := hgone j e (hj.resolve_left e)
        rw [h1]; exact h2
    cells := fun j hj cs hc => by
      by_cases e : j = k
      · subst e; rw [upd_same] at hc; cases hc
      · rw [(hgone j e (hj.resolve_left e)).1] at hc; cases hc
    live := fun j hj cs hc => by
      by_cases e : j = k
      · subst e; rw [upd_same] at hc; cases hc
      · rw [(hgone j e (hj.resolve_left e)).1] at hc; cases hc
    nodup := fun j hj => by
      by_cases e : j = k
      · subst e; rw [updL_same]; exact hn
      · rw [(hgone j e (hj.resolve_left e)).2]; exact List.nodup_nil
    foot := fun j hj b hb => by
      by_cases e : j = k
      · subst e; rw [updL_same] at hb
        rcases hf b hb with h1 | h1 | ⟨l, hl, h1⟩
        · exact .inl h1
        · exact .inr ⟨j, .inl rfl, h1⟩
        · exact .inr ⟨l, .inr hl, h1⟩
      · rw [(hgone j e (hj.resolve_left e)).2] at hb; simp at hb
    disj := fun j l hj hl hne b hb => by
      by_cases e : j = k
      · have e' : l ≠ k := fun e' => hne (e.trans e'.symm)
        rw [(hgone l e' (hl.resolve_left e')).2]; simp
      · rw [(hgone j e (hj.resolve_left e)).2] at hb; simp at hb
    step := fun o ho hK => by
      have e := ho.resolve_right hK
      subst e
      unfold OStep
      simp only [eraseH, hh]
      exact ⟨_, _, _, _, upd_same, by omega, by omega, fun e => by omega, fun _ e => by omega⟩
    sub := fun o ho => .inr ho
    clean := eraseH_clean
    fresh := fun o ho hgo n es dp ver => by
      by_cases e : o = k
      · subst e; rw [upd_same]; simp
      · rw [(hgone o e (ho.resolve_left e)).1]; simp
    killed := fun o ho => (hgone o (fun e => hkK (e ▸ ho)) ho).1 }
end

theorem kept_drew {M : Nat → Prop} {w w' : World} (hk : Kept M w.drew w') : Kept M w w' := ⟨hk.os, hk.tape, hk.output, hk.size, hk.blk⟩

section
variable {P : Program} {o : Oper} {t : List Slot} {h : Heap} {tab : List TyI}

theorem zeros_size (z : Array Value) (n : Nat) : (Builtin.zeroCells z n).size = n * z.size := by simp [Builtin.zeroCells]

theorem run_append_fits {P : Program} {T T2 oty el : TypeId} {f : TypeInfo} {w : World} {ad : Option Addr} {len cap n : Nat} {e : List (List Dat)} {v : Value} {vs : List Value} (hu : P.underlying T = some (.slice el)) (hu2 : P.underlying T2 = some (.slice el))
    (hf : P.info? el = some f) (hfs : f.size = n) (hs : SrcOk w n e v vs) (hvs : vs.length = e.length * n) (h1 : ∀ u ∈ vs, u.oneCell' = true) (hc : len + e.length ≤ cap)
    (hb : ∀ a, ad = some a → ∃ b off arr aty, a = ⟨b, off, none⟩ ∧ w.heap[b]? = some (.cells arr aty (0, 0)) ∧ off + (len + e.length) * n ≤ arr.size) :
    ∃ w', (Builtin.append_ #[T, T2] oty #[.slice ad len cap, v]).run P w = .ok (.slice ad (len + e.length) cap) w' ∧
      (ad = none → w' = w) ∧ ∀ b off arr aty, ad = some ⟨b, off, none⟩ → w.heap[b]? = some (.cells arr aty (0, 0)) → w' = w.setRow b (patch arr.toList (off + len * n) vs).toArray := by
  have hsz : (Go.sizeOf el).run P w = .ok n w := by simp [Go.sizeOf, typeInfo, hf, hfs]
  have hlen : (Builtin.lenOf v).run P w = .ok e.length w := by
    rcases hs.form with ⟨rfl, rfl⟩ | ⟨a, c, rfl, _⟩ <;> simp [Builtin.lenOf]
  have hfc : (Builtin.firstCells n e.length v).run P w = .ok vs.toArray w := by
    rcases hs.form with ⟨rfl, rfl⟩ | ⟨a, c, rfl, hcell⟩
    · have : vs = [] := List.eq_nil_of_length_eq_zero (by simpa using hvs)
      subst this
      simp [Builtin.firstCells]
    · exact run_firstCells_some (P := P) w n e.length a _ c vs hvs hcell
  have hug : (underlying T).run P w = .ok (.slice el) w := by simp [Go.underlying, hu]
  have hug2 : (underlying T2).run P w = .ok (.slice el) w := by simp [Go.underlying, hu2]
  cases ad with
  | none =>
    refine ⟨w, ?_, fun _ => rfl, (fun b off arr aty hh => by cases hh)⟩
    simp [Builtin.append_, hug, hug2, hsz, hlen, hfc, hc]
  | some a =>
    obtain ⟨b, off, arr, aty, rfl, hbb, hsa⟩ := hb a rfl
    rw [Nat.add_mul] at hsa
    have hst := run_storeCells_at P b (off + len * n) aty vs 0 arr w hbb (by rw [hvs]; omega) h1
    simp only [Nat.add_zero, List.append_assoc] at hst
    refine ⟨w.setRow b (patch arr.toList (off + len * n) vs).toArray, ?_, (fun hh => by cases hh), fun b' off' arr' aty' hh hb' => ?_⟩
    · simp [Builtin.append_, hug, hug2, hsz, hlen, hfc, hc, add_plain, hst, patch]
    · injection hh with hh; injection hh with e1 e2 e3
      subst e1; subst e2
      rw [hbb] at hb'
      injection hb' with hb'; injection hb' with e4
      rw [e4]

theorem patch_end {arr : Array Value} {base k : Nat} {vs : List Value} (h : base + k + vs.length ≤ arr.size) : seg (patch arr.toList (base + k) vs).toArray base (k + vs.length) = seg arr base k ++ vs := by
  rw [seg_patch (by omega) (by omega)]
  simp only [patch]
  have hl : (seg arr base (k + vs.length)).length = k + vs.length := seg_length (by omega)
  rw [List.drop_of_length_le (by omega), List.append_nil]
  congr 1
  rw [seg_add, List.take_left' (seg_length (by omega))]

/-- append to a row of the call's own that is seen whole. -/
theorem w_append {c : Call} {T T2 el : TypeId} {s x : Operand} {k g len n ver : Nat} {es e : List (List Dat)} {dp : Bool} {y : VC} {G : List Nat} (hT : TabOk P tab) (ho : o.op = .call c)
    (hc : c = { callee := .builtin .append, args := #[s, x], argTypes := #[T, T2] }) (hk : (ty tab T).k = .sl el) (hk2 : (ty tab T2).k = .sl el) (hel : (ty tab el).ok = true) (hn : (ty tab el).sz = n)
    (hs : Ev t s ⟨false, [.sr k g 0 len len]⟩) (hh : h k = .row n es dp g ver) (hlen : es.length = len) (hx : Ev t x ⟨false, [y]⟩) (hy : Src h n y e G) (hG : G.Nodup) (hkG : k ∉ G) (hdp : dp = true ∨ G = [])
    (hb0 : 0 < (ty tab el).bytes) (hbig : (len + e.length) * (ty tab el).bytes ≤ 140737488355328) :
    Does P o ⟨t, h⟩ ⟨putT (t.map (eraseS G)) o.dst (.t ⟨false, [.sr k (g + 1) 0 (len + e.length) (len + e.length)]⟩), upd (letgo G h) k (.row n (es ++ e) dp (g + 1) (ver + 1))⟩ := by
  intro w0 M0 A0 a w Kc Q ⟨locs, RO, hg, hm⟩ hKc
  obtain ⟨⟨n', es', dp', g0, ver', hcc, hle, hone, hp⟩, _⟩ := Tmps.ev1 hm hs
  simp only [hh] at hcc
  injection hcc with a1 a2 a3 a4 a5
  subst a1
  obtain ⟨hvx, _⟩ := Tmps.ev1 hm hx
  obtain ⟨vs, F, hso, hr, hFn, hF⟩ := hy.sound hg hvx
  have hob := hg.obj k
  simp only [hh] at hob
  obtain ⟨hne, hobj⟩ := hob
  have hu := (hT T (by simp [TyI.ok, hk])).slice hk
  have hu2 := (hT T2 (by simp [TyI.ok, hk2])).slice hk2
  obtain ⟨f, d, h1, h2, h3, hby, _, z, hz, hzc, _⟩ := (hT el hel).ex
  have hzs : z.cells.size = n := by
    have := (zcells_reps (w := w) hzc).length
    simp only [Array.length_toList] at this
    rw [this, (hT el hel).zl, hn]
  have hfs : f.size = n := by rw [h3, hn]
  have hvs : vs.length = e.length * n := by rw [hr.length, flat_len hso.all]
  have hones := hr.oneCell
  have hall : ∀ x ∈ es ++ e, x.length = n := fun x hx => by rcases List.mem_append.1 hx with hx | hx; exact hne x hx; exact hso.all x hx
  have hGk : ∀ b ∈ F, b ∉ (locs k).foot := fun b hb hbk => by
    obtain ⟨l, hl, hbl⟩ := hF b hb
    exact hg.disj l k (fun e => hkG (e ▸ hl)) b hbl hbk
  have hF0 : dp = false → F = [] := fun hd0 => by
    rcases hdp with h1 | h1
    · rw [h1] at hd0; cases hd0
    · cases F with
      | nil => rfl
      | cons b F => obtain ⟨l, hl', _⟩ := hF b (by simp); rw [h1] at hl'; simp at hl'
  have hr' : Reps dp w e.flatten vs F := by
    cases dp with
    | true => exact hr
    | false => exact hr.ro
  have finish : ∀ (v : Value) (w' : World) (L' : Loc) (N : Nat → Prop), (Builtin.append_ #[T, T2] o.type #[a.eval s, a.eval x]).run P w = .ok v w' → Kept N w w' → (∀ b, N b → b ∈ (locs k).foot) →
      ObjOk w' RO (.row n (es ++ e) dp (g + 1) (ver + 1)) L' → L'.foot.Nodup → (∀ b ∈ L'.foot, w.heap.size ≤ b ∨ b ∈ (locs k).foot ∨ ∃ l ∈ G, b ∈ (locs l).foot) → v.oneCell' = true →
      SlRel L' n 0 (len + e.length) (len + e.length) v → o.wp P a w Kc Q := by
    intro v w' L' N hrun hkept hN hob' hnd hf hv1 hsl
    have ht := touch_row2 (K := G) hg hkG hh hkept hN hob' hnd hf
    have hrun' : (execOp a.eval o).run P w = .ok (.value v) w' := by
      subst hc
      simp [execOp, ho, resolve, invoke, builtin, hrun]
    refine wp_of_value hrun' (hKc _ _ ⟨_, RO, (hg.erase (K := G)).step ht, (Tmps.step hg.erase ht (Tmps.erase hm) fun _ => erase_clean).put _ (TRel.single.2 ⟨_, _, _, _, _, upd_same, Nat.le_refl _, hv1, fun _ => by rw [updL_same]; exact hsl⟩) ?_⟩)
    simp [Slot.refs, TV.refs, VC.refs, upd_same]
  have hneed : len + e.length ≤ 140737488355328 := Nat.le_trans (Nat.le_mul_of_pos_right _ hb0) hbig
  have hflat : (es ++ e).flatten = es.flatten ++ e.flatten := by simp
  rcases hp a4 with ⟨q1, q2, q3, q4⟩ | ⟨q1, cap, q2, q3, q4, q5⟩
  · -- nil
    have hes : es = [] := List.eq_nil_of_length_eq_zero (by omega)
    rcases Nat.eq_zero_or_pos e.length with he0 | he0
    · -- nothing is appended
      have hee : e = [] := List.eq_nil_of_length_eq_zero he0
      obtain ⟨w', hrun, hw', _⟩ := run_append_fits (oty := o.type) (ad := none) (len := 0) (cap := 0) hu hu2 h1 hfs hso hvs hones (by omega) (fun a hh => by cases hh)
      rw [hw' rfl] at hrun
      rw [he0] at hrun
      refine finish (.slice none 0 0) w ⟨true, (locs k).b, (locs k).base, (locs k).tot, []⟩ (fun _ => False) (by rw [q4]; simpa using hrun) (Kept.refl _ _) (fun _ h => h.elim) ⟨hall, .inl ⟨rfl, by simp [hes, hee], rfl⟩⟩ List.nodup_nil (by simp) rfl ?_
      exact .inl ⟨rfl, by omega, by omega, rfl⟩
    · obtain ⟨av, cv, hva, hcell⟩ : ∃ av cv, a.eval x = .slice (some av) e.length cv ∧ ∀ j u, vs[j]? = some u → w.cell? (av.add j) = some u := by
        rcases hso.form with ⟨_, hh⟩ | hh
        · simp [hh] at he0
        · exact hh
      have hTT : (Builtin.append_ #[T, T2] o.type #[.slice none 0 0, .slice (some av) e.length cv]).run P w = (Builtin.append_ #[T, T] o.type #[.slice none 0 0, .slice (some av) e.length cv]).run P w := by
        simp [Builtin.append_, Go.underlying, hu, hu2]
      have hrun := run_append_nil (P := P) w T o.type el f z hu h1 hz av e.length cv vs (by rw [hvs, hfs]) hcell he0 (by omega) (by rw [hby]; rw [q2, Nat.zero_add] at hbig; omega)
      have hgc : e.length ≤ grownCap w e.length 0 el := by simp only [grownCap, Question.cut]; omega
      have hal : (vs.toArray ++ Builtin.zeroCells z.cells (grownCap w e.length 0 el - e.length)).size = grownCap w e.length 0 el * n := by
        rw [Array.size_append, zeros_size, hzs]; simp only [List.size_toArray, hvs]; rw [← Nat.add_mul]; congr 1; omega
      have hsz : w.heap.size ∉ F := fun hb => by
        obtain ⟨l, _, hbl⟩ := hF _ hb
        exact Nat.lt_irrefl _ (hg.lt hbl)
      refine finish _ _ ⟨false, w.heap.size, 0, grownCap w e.length 0 el * n, if dp then w.heap.size :: F else [w.heap.size]⟩ (fun _ => False) (by rw [q4, hva, hTT]; exact hrun) (kept_drew (kept_alloc _ _)) (fun _ h => h.elim)
        ⟨hall, .inr ⟨rfl, _, el, F, heap_alloc_new, hal, ?_, ?_, fun hd => by simp [hd], fun hd => ⟨by simp [hd], by rw [hF0 hd]; simp⟩⟩⟩ ?_ ?_ rfl ?_
      · simp only [hes, List.nil_append]; rw [Nat.zero_add]; exact Nat.mul_le_mul_right n hgc
      · rw [hes, List.nil_append]
        have : seg (vs.toArray ++ Builtin.zeroCells z.cells (grownCap w e.length 0 el - e.length)) 0 (e.length * n) = vs := by
          rw [← hvs]
          simp only [seg, List.drop_zero, Array.toList_append, List.take_left]
        rw [this]
        exact hr'.frame fun b hb => heap_alloc_old (hr.lt b hb)
      · cases dp with
        | true => exact List.nodup_cons.2 ⟨hsz, hFn⟩
        | false => simp
      · intro b hb
        cases dp with
        | true =>
          rcases List.mem_cons.1 hb with rfl | hb
          · exact .inl (Nat.le_refl _)
          · exact .inr (.inr (hF b hb))
        | false => simp at hb; subst hb; exact .inl (Nat.le_refl _)
      · refine .inr ⟨rfl, grownCap w e.length 0 el, ?_, by omega, Nat.le_refl _, by simp⟩
        simp [q2]
  · rcases hobj with ⟨q6, _⟩ | ⟨_, arr, aty, Gr, hbl, hat, hbs, hrr, k1, k2⟩
    · rw [q1] at q6; cases q6
    simp only [Nat.zero_mul, Nat.add_zero] at q2 q5
    have hbf : (locs k).b ∈ (locs k).foot := by
      cases dp with
      | true => rw [k1 rfl]; simp
      | false => rw [(k2 rfl).1]; simp
    have hnb : ∀ b ∈ Gr, b ≠ (locs k).b := by
      intro b hb' e'
      subst e'
      cases dp with
      | true =>
        have := hg.nodup k
        rw [k1 rfl] at this
        exact (List.nodup_cons.1 this).1 hb'
      | false => exact hg.noro k _ hbf ((k2 rfl).2 _ hb')
    have hGrk : dp = true → ∀ b ∈ Gr, b ∈ (locs k).foot := fun hd b hb => by rw [k1 hd]; simp [hb]
    have hnd : ∀ nb, nb ∉ Gr → nb ∉ F → (if dp then nb :: (Gr ++ F) else [nb]).Nodup := by
      intro nb n1 n2
      cases dp with
      | false => simp
      | true =>
        have hgn := hg.nodup k
        rw [k1 rfl] at hgn
        refine List.nodup_cons.2 ⟨by simp [n1, n2], List.nodup_append.2 ⟨(List.nodup_cons.1 hgn).2, hFn, fun b hb c hc e => ?_⟩⟩
        subst e
        exact hGk b hc (hGrk rfl b hb)
    by_cases hfit : len + e.length ≤ cap
    · -- in place
      have hmul : (len + e.length) * n ≤ cap * n := Nat.mul_le_mul_right n hfit
      obtain ⟨w', hrun, _, hw'⟩ := run_append_fits (oty := o.type) (ad := some ⟨(locs k).b, (locs k).base, none⟩) (len := len) (cap := cap) hu hu2 h1 hfs hso hvs hones hfit
        (fun a hh => by injection hh with hh; subst hh; exact ⟨_, _, arr, aty, rfl, hbl, by omega⟩)
      have hw2 := hw' _ _ arr aty rfl hbl
      subst hw2
      have hfr : ∀ b, b ≠ (locs k).b → (w.setRow (locs k).b (patch arr.toList ((locs k).base + len * n) vs).toArray).heap[b]? = w.heap[b]? := fun b hb => setRow_other hb
      have hpl : (patch arr.toList ((locs k).base + len * n) vs).length = arr.size := by
        rw [Nat.add_mul] at hmul
        rw [patch_length (by simp [hvs]; omega)]; simp
      refine finish _ _ ⟨false, (locs k).b, (locs k).base, (locs k).tot, if dp then (locs k).b :: (Gr ++ F) else [(locs k).b]⟩ (· = (locs k).b) (by rw [q2]; exact hrun) kept_setRow (fun b hb => by rw [hb]; exact hbf)
        ⟨hall, .inr ⟨rfl, _, aty, Gr ++ F, setRow_same hbl, by simp [hpl, hat], ?_, ?_, fun hd => by simp [hd], fun hd => ⟨by simp [hd], fun b hb => ?_⟩⟩⟩ (hnd _ (fun hb => hnb _ hb rfl) (fun hb => hGk _ hb hbf)) ?_ rfl ?_
      · simp only [List.length_append, hlen]; omega
      · revert hfr
        generalize hw3 : w.setRow (locs k).b (patch arr.toList ((locs k).base + len * n) vs).toArray = w3
        intro hfr
        rw [hflat, List.length_append, hlen, Nat.add_mul, ← hvs, patch_end (by rw [Nat.add_mul] at hmul; omega)]
        rw [hlen] at hrr
        exact (hrr.frame fun b hb => hfr b (hnb b hb)).append (hr'.frame fun b hb => hfr b fun e => hGk b hb (e ▸ hbf))
      · rw [hF0 hd, List.append_nil] at hb
        exact (k2 hd).2 b hb
      · intro b hb
        cases dp with
        | false => simp at hb; subst hb; exact .inr (.inl hbf)
        | true =>
          rcases List.mem_cons.1 hb with rfl | hb
          · exact .inr (.inl hbf)
          · rcases List.mem_append.1 hb with hb | hb
            · exact .inr (.inl (hGrk rfl b hb))
            · exact .inr (.inr (hF b hb))
      · exact .inr ⟨rfl, cap, by simp, hfit, Nat.le_refl _, by simpa using q5⟩
    · -- a new block
      have he0 : 0 < e.length := by omega
      obtain ⟨av, cv, hva, hcell⟩ : ∃ av cv, a.eval x = .slice (some av) e.length cv ∧ ∀ j u, vs[j]? = some u → w.cell? (av.add j) = some u := by
        rcases hso.form with ⟨_, hh⟩ | hh
        · simp [hh] at he0
        · exact hh
      have hTT : (Builtin.append_ #[T, T2] o.type #[.slice (some ⟨(locs k).b, (locs k).base, none⟩) len cap, .slice (some av) e.length cv]).run P w =
          (Builtin.append_ #[T, T] o.type #[.slice (some ⟨(locs k).b, (locs k).base, none⟩) len cap, .slice (some av) e.length cv]).run P w := by
        simp [Builtin.append_, Go.underlying, hu, hu2]
      rw [hlen] at hrr hbs
      have hol : (seg arr (locs k).base (len * n)).length = len * f.size := by rw [seg_length (by omega), hfs]
      have hrun := run_append_grow (P := P) w T o.type el f z hu h1 hz ⟨(locs k).b, (locs k).base, none⟩ len cap (seg arr (locs k).base (len * n)) hol
        (fun j u hj => by
          have hj' : j < len * n := by
            have := (List.getElem?_eq_some_iff.1 hj).1
            rw [hol, hfs] at this; exact this
          rw [seg_get hj'] at hj
          rw [add_plain, cell_block hbl]; exact hj)
        av e.length cv vs (by rw [hvs, hfs]) hcell (by omega) (by omega) (growslice_fits (by omega) (by rw [hby]; exact hbig))
      have hgc : len + e.length ≤ grownCap w (len + e.length) cap el := by simp only [grownCap, Question.cut]; omega
      have hal : ((seg arr (locs k).base (len * n)).toArray ++ vs.toArray ++ Builtin.zeroCells z.cells (grownCap w (len + e.length) cap el - (len + e.length))).size = grownCap w (len + e.length) cap el * n := by
        rw [Array.size_append, Array.size_append, zeros_size, hzs]
        simp only [List.size_toArray, hvs, hol, hfs]
        rw [← Nat.add_mul, ← Nat.add_mul]; congr 1; omega
      have hsz : w.heap.size ∉ F := fun hb => by
        obtain ⟨l, _, hbl⟩ := hF _ hb
        exact Nat.lt_irrefl _ (hg.lt hbl)
      have hsz2 : w.heap.size ∉ Gr := fun hb => Nat.lt_irrefl _ (hrr.lt _ hb)
      refine finish _ _ ⟨false, w.heap.size, 0, grownCap w (len + e.length) cap el * n, if dp then w.heap.size :: (Gr ++ F) else [w.heap.size]⟩ (fun _ => False) (by rw [q2, hva, hTT]; exact hrun) (kept_drew (kept_alloc _ _)) (fun _ h => h.elim)
        ⟨hall, .inr ⟨rfl, _, el, Gr ++ F, heap_alloc_new, hal, ?_, ?_, fun hd => by simp [hd], fun hd => ⟨by simp [hd], fun b hb => ?_⟩⟩⟩ (hnd _ hsz2 hsz) ?_ rfl ?_
      · simp only [List.length_append, hlen, Nat.zero_add]; exact Nat.mul_le_mul_right n hgc
      · rw [hflat, List.length_append, hlen]
        have : seg ((seg arr (locs k).base (len * n)).toArray ++ vs.toArray ++ Builtin.zeroCells z.cells (grownCap w (len + e.length) cap el - (len + e.length))) 0 ((len + e.length) * n) = seg arr (locs k).base (len * n) ++ vs := by
          have hl2 : (seg arr (locs k).base (len * n) ++ vs).length = (len + e.length) * n := by rw [List.length_append, hol, hfs, hvs, Nat.add_mul]
          rw [← hl2]
          simp only [seg, List.drop_zero, Array.toList_append, List.take_left]
        rw [this]
        exact (hrr.frame (w' := w.drew.alloc _) fun b hb => heap_alloc_old (w := w.drew) (hrr.lt b hb)).append (hr'.frame fun b hb => heap_alloc_old (w := w.drew) (hr.lt b hb))
      · rw [hF0 hd, List.append_nil] at hb
        exact (k2 hd).2 b hb
      · intro b hb
        cases dp with
        | false => simp at hb; subst hb; exact .inl (Nat.le_refl _)
        | true =>
          rcases List.mem_cons.1 hb with rfl | hb
          · exact .inl (Nat.le_refl _)
          · rcases List.mem_append.1 hb with hb | hb
            · exact .inr (.inl (hGrk rfl b hb))
            · exact .inr (.inr (hF b hb))
      · exact .inr ⟨rfl, _, by simp; rfl, by omega, Nat.le_refl _, by simp⟩
end

end Go.Proofs.Ytkcpbahcnlhmjaa.V
