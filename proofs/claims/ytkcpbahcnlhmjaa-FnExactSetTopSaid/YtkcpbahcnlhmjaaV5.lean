/-
  Loads, addresses, new variables, struct values, function values.
-/
import Derived.Test.YtkcpbahcnlhmjaaV4
import Derived.Laws.Cells
namespace Go.Proofs.Ytkcpbahcnlhmjaa.V
open Go
set_option linter.unusedVariables false

theorem add_plain (b off j : Nat) : (⟨b, off, none⟩ : Addr).add j = ⟨b, off + j, none⟩ := by
  unfold Addr.add
  split
  · rename_i h; simp [h]
  · rfl

theorem flat_len {α : Type} {n : Nat} : ∀ {es : List (List α)}, (∀ e ∈ es, e.length = n) → es.flatten.length = es.length * n
  | [], _ => by simp
  | e :: es, h => by
    rw [List.flatten_cons, List.length_append, h e (by simp), flat_len fun x hx => h x (by simp [hx]), List.length_cons, Nat.succ_mul, Nat.add_comm]

theorem flat_get {α : Type} {n : Nat} : ∀ {es : List (List α)} {i j : Nat} {e : List α}, (∀ e ∈ es, e.length = n) → es[i]? = some e → j < n → es.flatten[i * n + j]? = e[j]?
  | [], i, j, e, _, h, _ => by simp at h
  | x :: es, 0, j, e, hn, h, hj => by
    simp at h; subst h
    rw [List.flatten_cons, Nat.zero_mul, Nat.zero_add, List.getElem?_append_left (by rw [hn x (by simp)]; exact hj)]
  | x :: es, i + 1, j, e, hn, h, hj => by
    have hx := hn x (by simp)
    rw [List.flatten_cons, List.getElem?_append_right (by rw [hx, Nat.succ_mul]; omega), hx]
    have : (i + 1) * n + j - n = i * n + j := by rw [Nat.succ_mul]; omega
    rw [this]
    exact flat_get (fun y hy => hn y (by simp [hy])) (by simpa using h) hj

theorem idx_lt {n i j k : Nat} (hi : i < k) (hj : j < n) : i * n + j < k * n := by
  have : (i + 1) * n ≤ k * n := Nat.mul_le_mul_right n hi
  rw [Nat.succ_mul] at this
  omega

theorem d_refs {ag : Bool} {l : List Dat} : (Slot.t ⟨ag, l.map .d⟩).refs = [] := by
  simp only [Slot.refs, TV.refs, List.flatMap_map]
  simp [VC.refs]

section
variable {P : Program} {w : World}

theorem run_loadCells_seg {b off k : Nat} {arr : Array Value} {ty : TypeId} {fr : Nat × Nat} (hb : w.heap[b]? = some (.cells arr ty fr)) (hs : off + k ≤ arr.size) :
    (loadCells ⟨b, off, none⟩ k).run P w = .ok (seg arr off k).toArray w := by
  have h1 := run_loadCells_list (P := P) (w := w) ⟨b, off, none⟩ (seg arr off k) (fun j v hj => by
    rw [add_plain, cell_block hb]
    have hl : j < k := by
      have := (List.getElem?_eq_some_iff.1 hj).1
      rw [seg_length hs] at this; exact this
    rw [← seg_get hl]; exact hj)
  rw [seg_length hs] at h1
  exact h1

theorem run_loadVar {T : TypeId} {i : TyI} (hok : TyOk P T i) {b off : Nat} {arr : Array Value} {ty : TypeId} {fr : Nat × Nat} (hb : w.heap[b]? = some (.cells arr ty fr)) (hs : off + i.sz ≤ arr.size)
    (h1 : i.ag = true ∨ i.sz = 1) : ∃ v, (loadVar T ⟨b, off, none⟩).run P w = .ok v w ∧
      ∀ (locs : Locs) (h : Heap) (RO : Nat → Prop) (xs : List VC), All2 (VRel locs h w RO) xs (seg arr off i.sz) → TRel locs h w RO ⟨i.ag, xs⟩ v := by
  have ha := hok.isAgg w
  have hz := hok.sizeOf w
  cases hag : i.ag with
  | true =>
    rw [hag] at ha
    refine ⟨.agg (seg arr off i.sz).toArray, ?_, fun locs h RO xs hx => ⟨_, rfl, hx⟩⟩
    simp [loadVar, ha, hz, run_loadCells_seg hb hs]
  | false =>
    rw [hag] at ha
    have hz1 : i.sz = 1 := by rcases h1 with h1 | h1; simp [h1] at hag; exact h1
    rw [hz1] at hs
    have hlt : off < arr.size := by omega
    refine ⟨arr[off], ?_, fun locs h RO xs hx => ?_⟩
    · simp [loadVar, ha, cell_block hb, hlt]
    · have : seg arr off i.sz = [arr[off]] := by
        rw [hz1]
        apply List.ext_getElem?
        intro q
        cases q with
        | zero => rw [seg_get (by omega)]; simp [hlt]
        | succ q => simp [seg]; omega
      rw [this] at hx
      exact hx
end

/-- A cell of a row's element, loaded. -/
def rcell (k ver : Nat) (dp : Bool) (i j : Nat) : Dat → VC
  | .lf v => .d (.lf v)
  | .hole => .dead
  | .sl n us => if dp then .nr k ver i j else .d (.sl n us)
  | x => if dp then .dead else .d x
def rcells (k ver : Nat) (dp : Bool) (i : Nat) : Nat → List Dat → List VC
  | _, [] => []
  | j, d :: ds => rcell k ver dp i j d :: rcells k ver dp i (j + 1) ds
theorem rcells_get {k ver : Nat} {dp : Bool} {i : Nat} : ∀ {ds : List Dat} {j q : Nat}, (rcells k ver dp i j ds)[q]? = (ds[q]?).map (rcell k ver dp i (j + q))
  | [], j, q => by simp [rcells]
  | d :: ds, j, 0 => by simp [rcells]
  | d :: ds, j, q + 1 => by
    simp only [rcells, List.getElem?_cons_succ]
    rw [rcells_get]
    congr 2; omega
theorem rcells_length {k ver : Nat} {dp : Bool} {i : Nat} : ∀ {ds : List Dat} {j : Nat}, (rcells k ver dp i j ds).length = ds.length
  | [], j => rfl
  | d :: ds, j => by simp [rcells, rcells_length]
theorem rcell_refs {k ver : Nat} {dp : Bool} {i j : Nat} {d : Dat} : ∀ o ∈ (rcell k ver dp i j d).refs, o = k := by
  intro o ho
  unfold rcell at ho
  split at ho
  · simp [VC.refs] at ho
  · simp [VC.refs] at ho
  · split at ho <;> simp [VC.refs] at ho; exact ho
  · split at ho <;> simp [VC.refs] at ho
theorem rcells_refs {k ver : Nat} {dp : Bool} {i : Nat} : ∀ {ds : List Dat} {j : Nat}, ∀ x ∈ rcells k ver dp i j ds, ∀ o ∈ x.refs, o = k
  | [], j, x, hx => by simp [rcells] at hx
  | d :: ds, j, x, hx => by
    simp only [rcells, List.mem_cons] at hx
    rcases hx with rfl | hx
    · exact rcell_refs
    · exact rcells_refs x hx

/-- An address, and what it is 'm' cells further on. -/
def faddr : VC → Nat → VC
  | .vp k off, m => .vp k (off + m)
  | .ep k g i j, m => .ep k g i (j + m)
  | .fp c off, m => .fp c (off + m)
  | .d (.pt c), m => .fp c m
  | .fe n es i j, m => .fe n es i (j + m)
  | _, _ => .dead
def isAddr : VC → Bool
  | .vp _ _ | .ep _ _ _ _ | .fp _ _ | .d (.pt _) | .fe _ _ _ _ => true
  | _ => false
theorem faddr_refs {x : VC} {m : Nat} (hx : isAddr x = true) : (faddr x m).refs = x.refs := by
  cases x <;> simp [isAddr] at hx <;> try rfl
  rename_i d
  cases d <;> simp at hx
  rfl

section
variable {locs : Locs} {h : Heap} {w : World} {RO : Nat → Prop}

theorem addr_val {x : VC} {v : Value} {m : Nat} (hx : isAddr x = true) (hv : VRel locs h w RO x v) : ∃ b off, v = .pointer (some ⟨b, off, none⟩) ∧ VRel locs h w RO (faddr x m) (.pointer (some ⟨b, off + m, none⟩))
    ∨ (∃ p, v = .pointer (some p) ∧ VRel locs h w RO (faddr x m) (.pointer (some (p.add m)))) := by
  cases x with
  | vp k off =>
    obtain ⟨h1, e⟩ := hv
    exact ⟨0, 0, .inr ⟨_, e, h1, by rw [add_plain]⟩⟩
  | ep k g i j =>
    obtain ⟨n, es, dp, g0, ver, hc, hle, p, e, hp⟩ := hv
    refine ⟨0, 0, .inr ⟨p, e, n, es, dp, g0, ver, hc, hle, _, rfl, fun hgg => ?_⟩⟩
    rw [hp hgg, add_plain, Nat.add_assoc]
  | fp cells off =>
    obtain ⟨b, base, arr, ty, fr, F, e, hh⟩ := hv
    exact ⟨0, 0, .inr ⟨_, e, b, base, arr, ty, fr, F, by rw [add_plain, Nat.add_assoc], hh⟩⟩
  | fe n es i j =>
    obtain ⟨b, base, arr, ty, fr, F, e, hh⟩ := hv
    exact ⟨0, 0, .inr ⟨_, e, b, base, arr, ty, fr, F, by rw [add_plain, Nat.add_assoc], hh⟩⟩
  | d y =>
    cases y with
    | pt c =>
      obtain ⟨F, hr, hF⟩ := hv
      cases hr with
      | pt hb hs hw g r =>
        exact ⟨0, 0, .inr ⟨_, rfl, _, _, _, _, _, _, by rw [add_plain], hb, hF _ (by simp), hs, g, fun b hb => hF b (by simp [hb])⟩⟩
    | _ => simp [isAddr] at hx
  | _ => simp [isAddr] at hx
end

section
variable {P : Program} {o : Oper} {t : List Slot} {h : Heap} {tab : List TyI}

theorem y_nilcheck {x : Operand} {y : VC} (ho : o.op = .nilCheck x) (hx : Ev t x ⟨false, [y]⟩) (ha : isAddr y = true) : Yield P o t h (.t ⟨false, [y]⟩) := by
  intro w0 M0 A0 locs RO a w hg hm
  obtain ⟨h1, h2⟩ := hm.ev1 hx
  obtain ⟨b, off, ⟨e, _⟩ | ⟨p, e, _⟩⟩ := addr_val (m := 0) ha h1
  · exact ⟨a.eval x, by simp [execOp, ho, e], TRel.single.2 h1, fun o ho => h2 o (by simpa [Slot.refs, TV.refs] using ho)⟩
  · exact ⟨a.eval x, by simp [execOp, ho, e], TRel.single.2 h1, fun o ho => h2 o (by simpa [Slot.refs, TV.refs] using ho)⟩

theorem y_faddr {S : TypeId} {x : Operand} {f fo fT : Nat} {y : VC} {offs : List (Nat × Nat)} (hT : TabOk P tab) (ho : o.op = .fieldAddr S x f) (hk : (ty tab S).k = .st offs) (hf : offs[f]? = some (fo, fT))
    (hx : Ev t x ⟨false, [y]⟩) (ha : isAddr y = true) : Yield P o t h (.t ⟨false, [faddr y fo]⟩) := by
  intro w0 M0 A0 locs RO a w hg hm
  obtain ⟨h1, h2⟩ := hm.ev1 hx
  have hok := hT S (by simp [TyI.ok, hk])
  obtain ⟨d, hd, hkd, hu⟩ := hok.under w
  rw [hk] at hkd
  obtain ⟨fs, rfl, hoffs, hfs⟩ := kindOk_st hkd
  have hf' : (fs.toList.map (fun f => (f.offset, f.type)))[f]? = some (fo, fT) := by rw [hoffs]; exact hf
  rw [List.getElem?_map] at hf'
  obtain ⟨fld, hfld, e⟩ := Option.map_eq_some_iff.1 hf'
  have hfld' : fs[f]? = some fld := by rw [← Array.getElem?_toList]; exact hfld
  obtain ⟨hne, hsome⟩ := hfs fld (Array.mem_of_getElem? hfld')
  obtain ⟨info, hinfo⟩ := Option.isSome_iff_exists.1 hsome
  have hsz : (Go.sizeOf fld.type).run P w = .ok info.size w := by simp [Go.sizeOf, typeInfo, hinfo]
  have hne' : info.size ≠ 0 := by simpa [Program.cellsOf, hinfo] using hne
  have efo : fld.offset = fo := by simpa using congrArg Prod.fst e
  have hrun : ∀ p, a.eval x = .pointer (some p) → (execOp a.eval o).run P w = .ok (.value (.pointer (some (p.add fo)))) w := by
    intro p ep
    simp [execOp, ho, ep, Instr.fieldAt, hu, hfld', Instr.sureAddr, fieldPlace, hsz, hne', efo]
  obtain ⟨b, off, ⟨e, h3⟩ | ⟨p, e, h3⟩⟩ := addr_val (m := fo) ha h1
  · refine ⟨_, hrun _ e, TRel.single.2 (by rw [add_plain]; exact h3), fun o' ho' => h2 o' ?_⟩
    simpa [Slot.refs, TV.refs, faddr_refs ha] using ho'
  · refine ⟨_, hrun _ e, TRel.single.2 h3, fun o' ho' => h2 o' ?_⟩
    simpa [Slot.refs, TV.refs, faddr_refs ha] using ho'

theorem load_run {T : TypeId} {x : Operand} {a : Act} {p : Addr} {w : World} {v : Value} (ho : o.op = .load T x) (hx : a.eval x = .pointer (some p)) (hl : (loadVar T p).run P w = .ok v w) :
    (execOp a.eval o).run P w = .ok (.value v) w := by
  simp [execOp, ho, hx, Instr.loadAt, Instr.sureAddr, hl]

theorem y_ldvar {T : TypeId} {x : Operand} {k off : Nat} {cs : List VC} (hT : TabOk P tab) (ho : o.op = .load T x) (hx : Ev t x ⟨false, [.vp k off]⟩) (hh : h k = .var cs)
    (hk : (ty tab T).ok = true) (h1 : (ty tab T).ag = true ∨ (ty tab T).sz = 1) (hs : off + (ty tab T).sz ≤ cs.length) :
    Yield P o t h (.t ⟨(ty tab T).ag, (cs.drop off).take (ty tab T).sz⟩) := by
  intro w0 M0 A0 locs RO a w hg hm
  obtain ⟨⟨_, e⟩, _⟩ := hm.ev1 hx
  have hob := hg.obj k
  rw [hh] at hob
  obtain ⟨_, arr, aty, hb, hsz⟩ := hob
  obtain ⟨v, hrun, hrel⟩ := run_loadVar (hT T hk) (off := off) hb (by omega) h1
  have hc := hg.cells k cs hh arr aty _ hb
  refine ⟨v, load_run ho e hrun, hrel locs h RO _ ((hc.drop off).take _), fun o' ho' => ?_⟩
  simp only [Slot.refs, TV.refs, List.mem_flatMap] at ho'
  obtain ⟨y, hy, ho'⟩ := ho'
  exact hg.live k cs hh y (List.mem_of_mem_drop (List.mem_of_mem_take hy)) o' ho'

theorem row_all2 {w : World} {locs : Locs} {RO : Nat → Prop} {k n i j sz : Nat} {es : List (List Dat)} {dp : Bool} {g ver : Nat} {e : List Dat} (hh : h k = .row n es dp g ver) (ho : ObjOk w RO (.row n es dp g ver) (locs k))
    (he : es[i]? = some e) (hs : j + sz ≤ e.length) : ∃ arr aty, w.heap[(locs k).b]? = some (.cells arr aty (0, 0)) ∧ (locs k).base + i * n + j + sz ≤ arr.size ∧
      All2 (VRel locs h w RO) (rcells k ver dp i j ((e.drop j).take sz)) (seg arr ((locs k).base + i * n + j) sz) := by
  obtain ⟨hn, hx | ⟨_, arr, aty, G, hb, ha, hl, hr, h1, h2⟩⟩ := ho
  · rw [hx.2.1] at he; simp at he
  · have hi : i < es.length := (List.getElem?_eq_some_iff.1 he).1
    have hel : e.length = n := hn e (List.mem_of_getElem? he)
    have hin : (i + 1) * n ≤ es.length * n := Nat.mul_le_mul_right n hi
    rw [Nat.succ_mul] at hin
    refine ⟨arr, aty, hb, by omega, All2.of_get ?_ fun q y hq => ?_⟩
    · rw [seg_length (by omega), rcells_length, List.length_take, List.length_drop]; omega
    · rw [rcells_get, List.getElem?_take] at hq
      by_cases hqs : q < sz
      · rw [if_pos hqs, List.getElem?_drop] at hq
        obtain ⟨d, hd, rfl⟩ := Option.map_eq_some_iff.1 hq
        have hfl : es.flatten[i * n + (j + q)]? = some d := by rw [flat_get hn he (by omega)]; exact hd
        obtain ⟨v, G', hv, hr', hG'⟩ := hr.one hfl
        have hlt : i * n + (j + q) < es.length * n := idx_lt hi (by omega)
        rw [seg_get hlt] at hv
        refine ⟨v, ?_, ?_⟩
        · rw [seg_get hqs, ← hv]; congr 1; omega
        · unfold rcell
          split
          · obtain ⟨rfl, hsc, _⟩ := reps_one_lf hr'; exact vrel_lf hsc
          · trivial
          · split
            · refine ⟨n, es, dp, g, ver, hh, Nat.le_refl _, hr'.oneCell v (by simp), fun _ _ => ⟨⟨e, _, _, he, hd⟩, ?_⟩⟩
              rw [cell_block hb, ← hv]; congr 1; omega
            · rename_i hdp
              exact ⟨G', hr'.ro, fun b hb => (h2 (by simpa using hdp)).2 b (hG' b hb)⟩
          · split
            · trivial
            · rename_i hdp
              exact ⟨G', hr'.ro, fun b hb => (h2 (by simpa using hdp)).2 b (hG' b hb)⟩
      · rw [if_neg hqs] at hq; simp at hq

theorem y_ldrow {T : TypeId} {x : Operand} {k g i j n ver : Nat} {es : List (List Dat)} {dp : Bool} {e : List Dat} (hT : TabOk P tab) (ho : o.op = .load T x) (hx : Ev t x ⟨false, [.ep k g i j]⟩) (hh : h k = .row n es dp g ver)
    (he : es[i]? = some e) (hk : (ty tab T).ok = true) (h1 : (ty tab T).ag = true ∨ (ty tab T).sz = 1) (hs : j + (ty tab T).sz ≤ e.length) :
    Yield P o t h (.t ⟨(ty tab T).ag, rcells k ver dp i j ((e.drop j).take (ty tab T).sz)⟩) := by
  intro w0 M0 A0 locs RO a w hg hm
  obtain ⟨⟨n', es', dp', g0, ver', hc, hle, p, ep, hp⟩, _⟩ := hm.ev1 hx
  rw [hh] at hc
  injection hc with a1 a2 a3 a4 a5
  have hob := hg.obj k
  rw [hh] at hob
  obtain ⟨arr, aty, hb, hsz, hall⟩ := row_all2 hh hob he hs
  obtain ⟨v, hrun, hrel⟩ := run_loadVar (hT T hk) (off := (locs k).base + i * n + j) hb hsz h1
  have e2 : p = ⟨(locs k).b, (locs k).base + i * n + j, none⟩ := by rw [a1]; exact hp a4
  rw [e2] at ep
  refine ⟨v, load_run ho ep hrun, hrel locs h RO _ hall, fun o' ho' => ?_⟩
  simp only [Slot.refs, TV.refs, List.mem_flatMap] at ho'
  obtain ⟨y, hy, ho'⟩ := ho'
  rw [rcells_refs y hy o' ho', hh]
  simp

theorem y_ldfe {T : TypeId} {x : Operand} {n i j : Nat} {es : List (List Dat)} {e : List Dat} (hT : TabOk P tab) (ho : o.op = .load T x) (hx : Ev t x ⟨false, [.fe n es i j]⟩)
    (he : es[i]? = some e) (hk : (ty tab T).ok = true) (h1 : (ty tab T).ag = true ∨ (ty tab T).sz = 1) (hs : j + (ty tab T).sz ≤ e.length) :
    Yield P o t h (.t ⟨(ty tab T).ag, ((e.drop j).take (ty tab T).sz).map .d⟩) := by
  intro w0 M0 A0 locs RO a w hg hm
  obtain ⟨⟨b, base, arr, aty, fr, F, ep, hb, hro, hbs, hn, hr, hF⟩, _⟩ := hm.ev1 hx
  have hi : i < es.length := (List.getElem?_eq_some_iff.1 he).1
  have hel : e.length = n := hn e (List.mem_of_getElem? he)
  have hin : (i + 1) * n ≤ es.length * n := Nat.mul_le_mul_right n hi
  rw [Nat.succ_mul] at hin
  obtain ⟨v, hrun, hrel⟩ := run_loadVar (hT T hk) (off := base + i * n + j) hb (by omega) h1
  refine ⟨v, load_run ho ep hrun, hrel locs h RO _ (All2.of_get ?_ fun q y hq => ?_), by rw [d_refs]; simp⟩
  · rw [seg_length (by omega), List.length_map, List.length_take, List.length_drop]; omega
  · rw [List.getElem?_map, List.getElem?_take] at hq
    by_cases hqs : q < (ty tab T).sz
    · rw [if_pos hqs, List.getElem?_drop] at hq
      obtain ⟨d, hd, rfl⟩ := Option.map_eq_some_iff.1 hq
      have hfl : es.flatten[i * n + (j + q)]? = some d := by rw [flat_get hn he (by omega)]; exact hd
      obtain ⟨u, G', hv, hr', hG'⟩ := hr.one hfl
      have hlt : i * n + (j + q) < es.length * n := idx_lt hi (by omega)
      rw [seg_get hlt] at hv
      refine ⟨u, ?_, G', hr', fun b hb => hF b (hG' b hb)⟩
      rw [seg_get hqs, ← hv]; congr 1; omega
    · rw [if_neg hqs] at hq; simp at hq

theorem y_ldfp {T : TypeId} {x : Operand} {off : Nat} {cells : List Dat} (hT : TabOk P tab) (ho : o.op = .load T x) (hx : Ev t x ⟨false, [.fp cells off]⟩)
    (hk : (ty tab T).ok = true) (h1 : (ty tab T).ag = true ∨ (ty tab T).sz = 1) (hs : off + (ty tab T).sz ≤ cells.length) :
    Yield P o t h (.t ⟨(ty tab T).ag, ((cells.drop off).take (ty tab T).sz).map .d⟩) := by
  intro w0 M0 A0 locs RO a w hg hm
  obtain ⟨⟨b, base, arr, aty, fr, F, ep, hb, hro, hbs, hr, hF⟩, _⟩ := hm.ev1 hx
  obtain ⟨v, hrun, hrel⟩ := run_loadVar (hT T hk) (off := base + off) hb (by omega) h1
  refine ⟨v, load_run ho ep hrun, hrel locs h RO _ (All2.of_get ?_ fun q y hq => ?_), by rw [d_refs]; simp⟩
  · rw [seg_length (by omega), List.length_map, List.length_take, List.length_drop]; omega
  · rw [List.getElem?_map, List.getElem?_take] at hq
    by_cases hqs : q < (ty tab T).sz
    · rw [if_pos hqs, List.getElem?_drop] at hq
      obtain ⟨d, hd, rfl⟩ := Option.map_eq_some_iff.1 hq
      obtain ⟨u, G', hv, hr', hG'⟩ := hr.one hd
      rw [seg_get (by have := (List.getElem?_eq_some_iff.1 hd).1; omega)] at hv
      refine ⟨u, ?_, G', hr', fun b hb => hF b (hG' b hb)⟩
      rw [seg_get hqs, ← hv]; congr 1; omega
    · rw [if_neg hqs] at hq; simp at hq

theorem y_ldpt {T : TypeId} {x : Operand} {cells : List Dat} (hT : TabOk P tab) (ho : o.op = .load T x) (hx : Ev t x ⟨false, [.d (.pt cells)]⟩)
    (hk : (ty tab T).ok = true) (h1 : (ty tab T).ag = true ∨ (ty tab T).sz = 1) (hs : (ty tab T).sz ≤ cells.length) :
    Yield P o t h (.t ⟨(ty tab T).ag, (cells.take (ty tab T).sz).map .d⟩) := by
  intro w0 M0 A0 locs RO a w hg hm
  obtain ⟨⟨F, hr, hF⟩, _⟩ := hm.ev1 hx
  generalize hv : a.eval x = v at hr
  cases hr with
  | pt hb hbs hw g r =>
    obtain ⟨v, hrun, hrel⟩ := run_loadVar (hT T hk) hb (Nat.le_trans (Nat.add_le_add_left hs _) hbs) h1
    refine ⟨v, load_run ho hv hrun, hrel locs h RO _ (All2.of_get ?_ fun q y hq => ?_), by rw [d_refs]; simp⟩
    · rw [seg_length (Nat.le_trans (Nat.add_le_add_left hs _) hbs), List.length_map, List.length_take]; omega
    · rw [List.getElem?_map, List.getElem?_take] at hq
      by_cases hqs : q < (ty tab T).sz
      · rw [if_pos hqs] at hq
        obtain ⟨d, hd, rfl⟩ := Option.map_eq_some_iff.1 hq
        obtain ⟨u, G', hv, hr', hG'⟩ := g.one hd
        rw [seg_get (by omega)] at hv
        exact ⟨u, by rw [seg_get hqs, ← hv], G', hr', fun b hb => hF b (by simp [hG' b hb])⟩
      · rw [if_neg hqs] at hq; simp at hq

/-- The element of a slice, its address. -/
theorem y_iasr {T : TypeId} {x ix : Operand} {k g off len room n ver el : Nat} {es : List (List Dat)} {dp : Bool} {kk : IntKind} {m : Int} (hT : TabOk P tab) (ho : o.op = .indexAddr T x ix) (hk : (ty tab T).k = .sl el)
    (hel : (ty tab el).ok = true ∧ (ty tab el).sz = n) (hx : Ev t x ⟨false, [.sr k g off len room]⟩) (hh : h k = .row n es dp g ver) (hi : Ev t ix ⟨false, [.d (.lf (.int kk m))]⟩) (h0 : 0 ≤ m) (h1 : m < len) :
    Yield P o t h (.t ⟨false, [.ep k g (off + m.toNat) 0]⟩) := by
  intro w0 M0 A0 locs RO a w hg hm
  obtain ⟨⟨n', es', dp', g0, ver', hc, hle, hone, hp⟩, hl⟩ := hm.ev1 hx
  have e2 := (hm.evlf hi).1
  rw [hh] at hc
  injection hc with a1 a2 a3 a4 a5
  have hu := (hT T (by simp [TyI.ok, hk])).slice hk
  have hsz := (hT el hel.1).sizeOf w
  rcases hp a4 with ⟨_, e, _⟩ | ⟨_, cap, e, _⟩
  · omega
  · refine ⟨.pointer (some ⟨(locs k).b, (locs k).base + (off + m.toNat) * n + 0, none⟩), ?_, TRel.single.2 ⟨n, es, dp, g, ver, hh, Nat.le_refl _, _, rfl, fun _ => rfl⟩, ?_⟩
    · simp [execOp, ho, e, e2, Instr.indexAt, asIntOf, Go.underlying, hu, h0, h1, hsz, hel.2, add_plain, a1]
      rw [Nat.add_mul, Nat.add_assoc]
    · simp [Slot.refs, TV.refs, VC.refs, hh]

theorem y_iad {T : TypeId} {x ix : Operand} {n el : Nat} {es : List (List Dat)} {kk : IntKind} {m : Int} (hT : TabOk P tab) (ho : o.op = .indexAddr T x ix) (hk : (ty tab T).k = .sl el)
    (hel : (ty tab el).ok = true ∧ (ty tab el).sz = n) (hx : Ev t x ⟨false, [.d (.sl n es)]⟩) (hi : Ev t ix ⟨false, [.d (.lf (.int kk m))]⟩) (h0 : 0 ≤ m) (h1 : m < es.length) :
    Yield P o t h (.t ⟨false, [.fe n es m.toNat 0]⟩) := by
  intro w0 M0 A0 locs RO a w hg hm
  obtain ⟨⟨F, hr, hF⟩, hl⟩ := hm.ev1 hx
  have e2 := (hm.evlf hi).1
  have hu := (hT T (by simp [TyI.ok, hk])).slice hk
  have hsz := (hT el hel.1).sizeOf w
  generalize hv : a.eval x = v at hr
  cases hr with
  | nl r => simp at h1; omega
  | em h r => simp at h1; omega
  | sl hb hc he hs hw g r =>
    refine ⟨_, ?_, TRel.single.2 ⟨_, _, _, _, _, _, rfl, hb, hF _ (by simp), hs, he, g, fun b hb => hF b (by simp [hb])⟩, by simp [Slot.refs, TV.refs, VC.refs]⟩
    simp [execOp, ho, hv, e2, Instr.indexAt, asIntOf, Go.underlying, hu, h0, h1, hsz, hel.2, add_plain]

/-- A field of a struct value. -/
theorem y_field {S : TypeId} {x : Operand} {f fo fT : Nat} {cs : List VC} {offs : List (Nat × Nat)} (hT : TabOk P tab) (ho : o.op = .field S x f) (hk : (ty tab S).k = .st offs) (hf : offs[f]? = some (fo, fT))
    (hx : Ev t x ⟨true, cs⟩) (hkf : (ty tab fT).ok = true) (h1 : (ty tab fT).ag = true ∨ (ty tab fT).sz = 1) (hs : fo + (ty tab fT).sz ≤ cs.length) :
    Yield P o t h (.t ⟨(ty tab fT).ag, (cs.drop fo).take (ty tab fT).sz⟩) := by
  intro w0 M0 A0 locs RO a w hg hm
  obtain ⟨⟨arr, e0, hall⟩, hl⟩ := hm.ev hx
  have hok := hT S (by simp [TyI.ok, hk])
  obtain ⟨d, hd, hkd, hu⟩ := hok.under w
  rw [hk] at hkd
  obtain ⟨fs, rfl, hoffs, hfs⟩ := kindOk_st hkd
  have hf' : (fs.toList.map (fun f => (f.offset, f.type)))[f]? = some (fo, fT) := by rw [hoffs]; exact hf
  rw [List.getElem?_map] at hf'
  obtain ⟨fld, hfld, e⟩ := Option.map_eq_some_iff.1 hf'
  have hfld' : fs[f]? = some fld := by rw [← Array.getElem?_toList]; exact hfld
  have efo : fld.offset = fo := by simpa using congrArg Prod.fst e
  have eft : fld.type = fT := by simpa using congrArg Prod.snd e
  have hla : arr.size = cs.length := by simpa using hall.length
  have hag := (hT fT hkf).isAgg w
  have hsz := (hT fT hkf).sizeOf w
  have hrefs : ∀ o' ∈ (Slot.t ⟨(ty tab fT).ag, (cs.drop fo).take (ty tab fT).sz⟩).refs, h o' ≠ .gone := by
    intro o' ho'
    simp only [Slot.refs, TV.refs, List.mem_flatMap] at ho'
    obtain ⟨y, hy, ho'⟩ := ho'
    exact hl o' (List.mem_flatMap.2 ⟨y, List.mem_of_mem_drop (List.mem_of_mem_take hy), ho'⟩)
  cases hh : (ty tab fT).ag with
  | true =>
    rw [hh] at hag hrefs
    refine ⟨.agg (arr.extract fo (fo + (ty tab fT).sz)), ?_, ⟨_, rfl, ?_⟩, hrefs⟩
    · simp [execOp, ho, e0, Instr.field, hu, hfld', asAgg, part, eft, efo, hag, hsz]
    · have : (arr.extract fo (fo + (ty tab fT).sz)).toList = (arr.toList.drop fo).take (ty tab fT).sz := by simp [Array.toList_extract]
      rw [this]
      exact (hall.drop fo).take _
  | false =>
    rw [hh] at hag hrefs
    have hz1 : (ty tab fT).sz = 1 := by rcases h1 with h1 | h1; simp [h1] at hh; exact h1
    have hlt : fo < arr.size := by omega
    refine ⟨arr[fo], ?_, ?_, hrefs⟩
    · simp [execOp, ho, e0, Instr.field, hu, hfld', asAgg, part, eft, efo, hag, hlt]
    · have h2 := (hall.drop fo).take (ty tab fT).sz
      have : (arr.toList.drop fo).take (ty tab fT).sz = [arr[fo]] := by
        rw [hz1, List.drop_eq_getElem_cons (by simpa using hlt), List.take_succ_cons, List.take_zero]; simp
      rw [this] at h2
      exact h2

theorem y_extract {x : Operand} {k : Nat} {l : List TV} {y : TV} {i : Nat} (ho : o.op = .extract x k) (hx : x = .tmp i) (hi : getT t i = .tu l) (hk : l[k]? = some y) : Yield P o t h (.t y) := by
  intro w0 M0 A0 locs RO a w hg hm
  subst hx
  have h1 := hm.2.2.1 i
  have h2 := hm.2.2.2 i
  rw [hi] at h1 h2
  obtain ⟨vs, e, hall⟩ := h1
  obtain ⟨v, hv, hr⟩ := hall.get hk
  have e' : a.eval (.tmp i) = .tuple vs := e
  have hv' : vs[k]? = some v := by rw [← Array.getElem?_toList]; exact hv
  refine ⟨v, ?_, hr, fun o' ho' => h2 o' (List.mem_flatMap.2 ⟨y, List.mem_of_getElem? hk, ho'⟩)⟩
  simp [execOp, ho, e', Instr.extract, hv']

/-- A function value over variables. -/
theorem y_mkfunc {f : FuncId} {caps : Array Operand} {ks : List Nat} (ho : o.op = .makeFunc (.func f) #[] caps) (hc : All2 (fun c k => Ev t c ⟨false, [.vp k 0]⟩) caps.toList ks) :
    Yield P o t h (.t ⟨false, [.cl f ks]⟩) := by
  intro w0 M0 A0 locs RO a w hg hm
  have key : All2 (fun k u => (∃ cs, h k = .var cs) ∧ u = .pointer (some ⟨(locs k).b, 0, none⟩)) ks (caps.map a.eval).toList := by
    rw [Array.toList_map]
    generalize caps.toList = l at hc
    clear ho
    induction hc with
    | nil => exact .nil
    | cons h1 _ ih => exact .cons (hm.ev1 h1).1 ih
  refine ⟨.func (.func f) #[] (caps.map a.eval), by simp [execOp, ho, Instr.makeFunc], TRel.single.2 ⟨_, rfl, key⟩, fun o' ho' => ?_⟩
  simp only [Slot.refs, TV.refs, VC.refs, List.flatMap_cons, List.flatMap_nil, List.append_nil] at ho'
  obtain ⟨i, hi⟩ := List.mem_iff_getElem?.1 ho'
  obtain ⟨u, _, ⟨cs, hcs⟩, _⟩ := key.get hi
  rw [hcs]; simp

/-- A new variable of its type's zero. -/
theorem r_alloc {T : TypeId} {k : Nat} (hT : TabOk P tab) (ho : o.op = .alloc T) (hk : (ty tab T).ok = true) (hg : h k = .gone) :
    DoesR P o t h (.t ⟨false, [.vp k 0]⟩) [(k, .var ((ty tab T).zero.map zvc))] := by
  intro w0 M0 A0 locs RO a w hgd hm K Q hK
  obtain ⟨f, d, h1, h2, h3, _, _, z, hz, hzc, _⟩ := (hT T hk).ex
  have ht := touch_var hgd hg (arr := z.cells) T (zvcs_rel hzc) (fun x hx o ho => by
    obtain ⟨y, _, rfl⟩ := List.mem_map.1 hx
    simp [zvc_refs] at ho)
  have hrun : (execOp a.eval o).run P w = .ok (.value (.pointer (some ⟨w.heap.size, 0, none⟩))) (w.alloc (.cells z.cells T)) := by
    simp [execOp, ho, Instr.alloc, zeroValue, typeInfo, h1, hz, newVar, newRow]
  refine wp_of_value hrun (hK _ _ (updL locs k ⟨false, w.heap.size, 0, 0, [w.heap.size]⟩) ?_ ?_ ?_)
  · simpa [updAll] using ht
  · exact TRel.single.2 ⟨⟨_, upd_same⟩, by rw [updL_same]⟩
  · simp [Slot.refs, TV.refs, VC.refs, updAll, upd_same]

/-- A new variable that holds a value. -/
theorem r_box {T : TypeId} {k : Nat} {x : Operand} {y : TV} (ho : o.op = .box T x) (hx : Ev t x y) (hy : y.ag = true ∨ ∃ c, y.cs = [c] ∧ c ≠ .dead) (hg : h k = .gone) :
    DoesR P o t h (.t ⟨false, [.vp k 0]⟩) [(k, .var y.cs)] := by
  intro w0 M0 A0 locs RO a w hgd hm K Q hK
  obtain ⟨h1, h2⟩ := hm.ev hx
  have hcells : All2 (VRel locs h w RO) y.cs (a.eval x).cells.toList := by
    obtain ⟨ag, cs⟩ := y
    cases ag with
    | true => obtain ⟨arr, e, hall⟩ := h1; rw [e]; exact hall
    | false =>
      rcases hy with hy | ⟨c, hc, hd⟩
      · simp at hy
      · simp only at hc; subst hc
        have hv := TRel.single.1 h1
        have h3 := hv.one hd
        have : (a.eval x).cells = #[a.eval x] := by
          cases hh : a.eval x <;> simp [Value.cells] <;> simp [hh, Value.oneCell'] at h3
        rw [this]; exact .cons hv .nil
  have ht := touch_var hgd hg T hcells (fun c hc o ho => h2 o (List.mem_flatMap.2 ⟨c, hc, ho⟩))
  have hrun : (execOp a.eval o).run P w = .ok (.value (.pointer (some ⟨w.heap.size, 0, none⟩))) (w.alloc (.cells (a.eval x).cells T)) := by
    simp [execOp, ho, Instr.box, newVar, newRow]
  refine wp_of_value hrun (hK _ _ (updL locs k ⟨false, w.heap.size, 0, 0, [w.heap.size]⟩) ?_ ?_ ?_)
  · simpa [updAll] using ht
  · exact TRel.single.2 ⟨⟨_, upd_same⟩, by rw [updL_same]⟩
  · simp [Slot.refs, TV.refs, VC.refs, updAll, upd_same]
end

end Go.Proofs.Ytkcpbahcnlhmjaa.V
