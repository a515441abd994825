/-
  Arguments as a row reads them, shown by native values ('Rd').
-/
import Derived.Test.YtkcpbahcnlhmjaaV32
import GoSem.ClaimWide
import Derived.Carry
namespace Go.Proofs.Ytkcpbahcnlhmjaa.V
open Go
set_option linter.unusedVariables false
set_option linter.unusedSimpArgs false

theorem mapM_get {α β : Type} {f : α → Option β} : ∀ {l : List α} {ys : List β}, l.mapM f = some ys → ys.length = l.length ∧ ∀ (i : Nat) (a : α), l[i]? = some a → ∃ y, f a = some y ∧ ys[i]? = some y
  | [], ys, h => by simp at h; subst h; simp
  | x :: l, ys, h => by
    rw [List.mapM_cons] at h
    cases hx : f x with
    | none => rw [hx] at h; cases h
    | some y =>
      rw [hx] at h
      cases hl : l.mapM f with
      | none => rw [hl] at h; cases h
      | some zs =>
        rw [hl] at h
        have e : ys = y :: zs := by simpa using h.symm
        subst e
        obtain ⟨h1, h2⟩ := mapM_get hl
        refine ⟨by simp [h1], fun i a ha => ?_⟩
        cases i with
        | zero => simp at ha; subst ha; exact ⟨y, hx, rfl⟩
        | succ i => simpa using h2 i a (by simpa using ha)

section
variable {H : Type} {enc : TypeId × Value → H} {P : Program} {W : World}

/-- What reads as a 'T' is shown by a native value. -/
def Rd {α : Type} (enc : TypeId × Value → H) (P : Program) (W : World) (T : TypeId) (n : Nat) (c : α → List Dat) (B : α → Prop) : Prop :=
  P.cellsOf T = n ∧ ∀ (fuel : Nat) (cs : List Value) (d : DataW H) (ps : List MemPlace), DataW.trod enc P W 0 (fun _ => true) true fuel T cs = some (d, ps) → ∃ a F, Reps false W (c a) cs F ∧ B a ∧ cs.length = n

theorem rd_int {T : TypeId} {k : IntKind} (hu : P.underlying T = some (.int k)) (hn : P.cellsOf T = 1) : Rd enc P W T 1 (fun v : Int => [.lf (.int k v)]) bndU := by
  refine ⟨hn, fun fuel cs d ps h => ?_⟩
  cases fuel with
  | zero => simp [DataW.trod] at h
  | succ fuel =>
    rcases cs with _ | ⟨v, _ | ⟨v2, l⟩⟩
    · simp [DataW.trod, hu] at h
    · cases v <;> simp [DataW.trod, hu] at h
      rename_i k' n
      obtain ⟨⟨e, _⟩, _⟩ := h
      subst e
      exact ⟨n, [], .lf rfl .nil, trivial, rfl⟩
    · simp [DataW.trod, hu] at h
theorem rd_bool {T : TypeId} (hu : P.underlying T = some .bool) (hn : P.cellsOf T = 1) : Rd enc P W T 1 (fun v : Bool => [dB v]) bndU := by
  refine ⟨hn, fun fuel cs d ps h => ?_⟩
  cases fuel with
  | zero => simp [DataW.trod] at h
  | succ fuel =>
    rcases cs with _ | ⟨v, _ | ⟨v2, l⟩⟩
    · simp [DataW.trod, hu] at h
    · cases v <;> simp [DataW.trod, hu] at h
      rename_i b
      exact ⟨b, [], .lf rfl .nil, trivial, rfl⟩
    · simp [DataW.trod, hu] at h
theorem rd_str {T : TypeId} (hu : P.underlying T = some .string) (hn : P.cellsOf T = 1) : Rd enc P W T 1 (fun v : ByteArray => [dS v]) bndS := by
  refine ⟨hn, fun fuel cs d ps h => ?_⟩
  cases fuel with
  | zero => simp [DataW.trod] at h
  | succ fuel =>
    rcases cs with _ | ⟨v, _ | ⟨v2, l⟩⟩
    · simp [DataW.trod, hu] at h
    · cases v <;> simp [DataW.trod, hu] at h
      rename_i b
      exact ⟨b, [], .lf rfl .nil, by have := h.1; simp only [maxLen] at this; simp only [bndS]; omega, rfl⟩
    · simp [DataW.trod, hu] at h

theorem cells_get {a : Addr} {n : Nat} {cs : List Value} (h : W.cells? 0 a n = some cs) (hn : 0 < n) : a.spot = none ∧ ∃ arr ty fr, W.heap[a.block]? = some (.cells arr ty fr) ∧ a.off + n ≤ arr.size ∧ cs = seg arr a.off n := by
  simp only [World.cells?, Nat.zero_le, if_true] at h
  obtain ⟨h1, h2⟩ := mapM_get h
  simp only [List.length_range] at h1
  have h0 : ∀ i, i < n → ∃ y, W.cell? (a.add i) = some y ∧ cs[i]? = some y := fun i hi => h2 i i (by simp [hi])
  obtain ⟨y0, e0, _⟩ := h0 0 hn
  have ea : a.add 0 = a := by simp [Addr.add]
  rw [ea] at e0
  simp only [World.cell?] at e0
  split at e0
  · rename_i arr ty fr hb
    split at e0
    · cases e0
    · rename_i hs
      have hsp : a.spot = none := by simpa using hs
      have hcell : ∀ i, i < n → ∃ y, arr[a.off + i]? = some y ∧ cs[i]? = some y := fun i hi => by
        obtain ⟨y, e1, e2⟩ := h0 i hi
        refine ⟨y, ?_, e2⟩
        have hadd : a.add i = ⟨a.block, a.off + i, none⟩ := by
          simp only [Addr.add]
          split
          · subst i; cases a; simp_all
          · rfl
        rw [hadd, cell_block hb] at e1
        exact e1
      refine ⟨hsp, arr, ty, fr, hb, ?_, ?_⟩
      · obtain ⟨y, e1, _⟩ := hcell (n - 1) (by omega)
        have := (Array.getElem?_eq_some_iff.1 e1).1
        omega
      · apply List.ext_getElem?
        intro i
        by_cases hi : i < n
        · obtain ⟨y, e1, e2⟩ := hcell i hi
          rw [seg_get hi, e1, e2]
        · rw [List.getElem?_eq_none (by omega)]
          simp only [seg, List.getElem?_take, if_neg hi]
  · cases e0

theorem rd_slice {α : Type} {T e : TypeId} {n : Nat} {c : α → List Dat} {B : α → Prop} (hu : P.underlying T = some (.slice e)) (hn : P.cellsOf T = 1) (he : Rd enc P W e n c B) (h0 : 0 < n) (hc : ∀ a, (c a).length = n) :
    Rd enc P W T 1 (fun xs : List α => [.sl n (xs.map c)]) (bndL B) := by
  refine ⟨hn, fun fuel cs d ps h => ?_⟩
  cases fuel with
  | zero => simp [DataW.trod] at h
  | succ fuel =>
    rcases cs with _ | ⟨v, _ | ⟨v2, l⟩⟩
    · simp [DataW.trod, hu] at h
    · cases v with
      | slice ad len cap =>
        cases ad with
        | none =>
          rcases len with _ | len
          · rcases cap with _ | cap
            · exact ⟨[], [], .nl .nil, ⟨by simp, by simp⟩, rfl⟩
            · simp [DataW.trod, hu] at h
          · simp [DataW.trod, hu] at h
        | some a =>
          simp only [DataW.trod, hu, he.1] at h
          split at h
          · rename_i hle
            obtain ⟨_, hlc, hcm⟩ := hle
            simp only [maxLen] at hcm
            obtain ⟨elems, hel, _⟩ := Option.bind_eq_some_iff.1 h
            obtain ⟨h1, h2⟩ := mapM_get hel
            simp only [List.length_range] at h1
            have hread : ∀ i, i < len → ∃ cs d ps, W.cells? 0 (a.add (i * n)) n = some cs ∧ DataW.trod enc P W 0 (fun _ => true) true fuel e cs = some (d, ps) := fun i hi => by
              obtain ⟨y, hy, _⟩ := h2 i i (by simp [hi])
              obtain ⟨cs, e1, e2⟩ := Option.bind_eq_some_iff.1 hy
              exact ⟨cs, y.1, y.2, e1, e2⟩
            rcases Nat.eq_zero_or_pos len with hl0 | hl0
            · subst hl0
              exact ⟨[], [], .em rfl .nil, ⟨by simp, by simp⟩, rfl⟩
            · obtain ⟨cs0, _, _, hc0, _⟩ := hread 0 hl0
              have ea : a.add (0 * n) = a := by simp [Addr.add]
              rw [ea] at hc0
              obtain ⟨hsp, arr, ty, fr, hb, _, _⟩ := cells_get hc0 h0
              have hrow : ∀ i, i < len → ∃ (x : α) (F : List Nat), B x ∧ a.off + i * n + n ≤ arr.size ∧ Reps false W (c x) (seg arr (a.off + i * n) n) F := fun i hi => by
                obtain ⟨cs, d, ps, e1, e2⟩ := hread i hi
                obtain ⟨_, arr', ty', fr', hb', hs', hcs⟩ := cells_get e1 h0
                have hblk : (a.add (i * n)).block = a.block ∧ (a.add (i * n)).off = a.off + i * n := by
                  simp only [Addr.add]; split
                  · rename_i hz; rw [hz]; exact ⟨rfl, rfl⟩
                  · exact ⟨rfl, rfl⟩
                rw [hblk.1, hb] at hb'
                injection hb' with hb'
                injection hb' with hb'
                subst hb'
                rw [hblk.2] at hs' hcs
                obtain ⟨x, F, hr, hx, _⟩ := he.2 fuel cs d ps e2
                rw [hcs] at hr
                exact ⟨x, F, hx, hs', hr⟩
              have hall : ∀ k, k ≤ len → ∃ (xs : List α) (F : List Nat), xs.length = k ∧ (∀ x ∈ xs, B x) ∧ Reps false W (xs.map c).flatten (seg arr a.off (k * n)) F := by
                intro k
                induction k with
                | zero => intro _; exact ⟨[], [], rfl, by simp, by simp only [Nat.zero_mul, seg_zero]; exact .nil⟩
                | succ k ih =>
                  intro hk
                  obtain ⟨xs, F, hxl, hxb, hr⟩ := ih (by omega)
                  obtain ⟨x, F2, hx, hs2, hr2⟩ := hrow k (by omega)
                  refine ⟨xs ++ [x], F ++ F2, by simp [hxl], ?_, ?_⟩
                  · intro y hy
                    rcases List.mem_append.1 hy with hy | hy
                    · exact hxb y hy
                    · simp at hy; subst hy; exact hx
                  · rw [Nat.add_mul, Nat.one_mul, seg_add]
                    simp only [List.map_append, List.flatten_append, List.map_cons, List.map_nil, List.flatten_cons, List.flatten_nil, List.append_nil]
                    exact hr.append hr2
              obtain ⟨xs, F, hxl, hxb, hr⟩ := hall len (Nat.le_refl _)
              obtain ⟨_, _, _, hs2, _⟩ := hrow (len - 1) (by omega)
              have hsz : a.off + len * n ≤ arr.size := by
                have : len * n = (len - 1) * n + n := by
                  obtain ⟨m, rfl⟩ : ∃ m, len = m + 1 := ⟨len - 1, by omega⟩
                  rw [Nat.add_sub_cancel, Nat.add_mul, Nat.one_mul]
                omega
              have hml : (xs.map c).length = len := by rw [List.length_map, hxl]
              have haa : a = ⟨a.block, a.off, none⟩ := by cases a; simp only at hsp; subst hsp; rfl
              refine ⟨xs, a.block :: (F ++ []), ?_, ⟨by rw [hxl]; omega, hxb⟩, rfl⟩
              have := Reps.sl (wr := false) (n := n) (es := xs.map c) (cap := cap) hb (by rw [hml]; exact hlc) (fun e he => by obtain ⟨x, _, rfl⟩ := List.mem_map.1 he; exact hc x) (by rw [hml]; exact hsz) (by simp) (by rw [hml]; exact hr) .nil
              rw [hml] at this
              rw [haa]
              exact this
          · cases h
      | _ => simp [DataW.trod, hu] at h
    · simp [DataW.trod, hu] at h

/-- The fields of a struct, from an offset on. -/
def RdF {β : Type} (enc : TypeId × Value → H) (P : Program) (W : World) (o : Nat) (fs : List (Nat × TypeId)) (m : Nat) (c : β → List Dat) (B : β → Prop) : Prop :=
  ∀ (fuel : Nat) (cs : List Value), cs.length = m → (∀ (i : Nat) (f : Nat × TypeId), fs[i]? = some f → ∃ d ps, DataW.trod enc P W 0 (fun _ => true) true fuel f.2 ((cs.drop f.1).take (P.cellsOf f.2)) = some (d, ps)) →
    ∃ b F, Reps false W (c b) (cs.drop o) F ∧ B b
theorem rdf_nil {o m : Nat} (h : o = m) : RdF enc P W o [] m (fun _ : Unit => []) (fun _ => True) := fun fuel cs hl _ => by
  subst h
  refine ⟨(), [], ?_, trivial⟩
  rw [List.drop_eq_nil_of_le (by omega)]
  exact .nil
theorem rdf_cons {α β : Type} {o n m : Nat} {T : TypeId} {fs : List (Nat × TypeId)} {c1 : α → List Dat} {B1 : α → Prop} {c2 : β → List Dat} {B2 : β → Prop} (h1 : Rd enc P W T n c1 B1) (h2 : RdF enc P W (o + n) fs m c2 B2) :
    RdF enc P W o ((o, T) :: fs) m (fun p : α × β => c1 p.1 ++ c2 p.2) (fun p => B1 p.1 ∧ B2 p.2) := fun fuel cs hl hr => by
  obtain ⟨d, ps, h3⟩ := hr 0 (o, T) rfl
  obtain ⟨b, F2, h4, h5⟩ := h2 fuel cs hl fun i f hf => hr (i + 1) f (by simpa using hf)
  rw [h1.1] at h3
  obtain ⟨a, F1, h6, h7, h8⟩ := h1.2 fuel _ d ps h3
  refine ⟨(a, b), F1 ++ F2, ?_, h7, h5⟩
  have e : cs.drop o = (cs.drop o).take n ++ cs.drop (o + n) := by rw [← List.drop_drop, List.take_append_drop]
  rw [e]
  exact h6.append h4
theorem rd_struct {β S : Type} {T : TypeId} {m : Nat} {fds : Array Field} {fs : List (Nat × TypeId)} {c : β → List Dat} {B : β → Prop} {cS : S → List Dat} {BS : S → Prop} (hu : P.underlying T = some (.struct fds)) (hf : fds.toList.map (fun f => (f.offset, f.type)) = fs)
    (hn : P.cellsOf T = m) (h : RdF enc P W 0 fs m c B) (mk : β → S) (h1 : ∀ b, cS (mk b) = c b) (h2 : ∀ b, B b → BS (mk b)) : Rd enc P W T m cS BS := by
  refine ⟨hn, fun fuel cs d ps hr => ?_⟩
  cases fuel with
  | zero => simp [DataW.trod] at hr
  | succ fuel =>
    have hr' : (if cs.length = P.cellsOf T then (fds.toList.mapM fun f => DataW.trod enc P W 0 (fun _ => true) true fuel f.type ((cs.drop f.offset).take (P.cellsOf f.type))).map fun xs => (DataW.agg (xs.map (·.1)), xs.flatMap (·.2)) else none) = some (d, ps) := by
      unfold DataW.trod at hr
      simp only [hu] at hr
      exact hr
    split at hr'
    · rename_i hl
      obtain ⟨xs, hx, _⟩ := Option.map_eq_some_iff.1 hr'
      obtain ⟨g1, g2⟩ := mapM_get hx
      obtain ⟨b, F, hb, hB⟩ := h fuel cs (by rw [hl, hn]) fun i f hfi => by
        rw [← hf, List.getElem?_map] at hfi
        obtain ⟨fd, e1, e2⟩ := Option.map_eq_some_iff.1 hfi
        obtain ⟨y, e3, _⟩ := g2 i fd e1
        subst e2
        exact ⟨y.1, y.2, e3⟩
      refine ⟨mk b, F, ?_, h2 b hB, by rw [hl, hn]⟩
      rw [h1]
      simpa using hb
    · cases hr'

theorem eqT {P : Program} {f : FuncId} {as : List Arg} {α : Type} [DecidableEq α] {x : α} (h : Tr P f as [one (dB (decide (x = x)))]) : Tr P f as [one (dB true)] := by rwa [decide_eq_true rfl] at h
theorem dec_neq {α : Type} [DecidableEq α] {x : α} : decide (x ≠ x) = false := by simp
theorem kept_below {w w' : World} (h : Kept (· ∈ ([] : List Nat)) w w') : Go.RowKit.Below w.heap.size w w' := ⟨h.os, h.tape, h.output, h.size, fun k hk => h.blk k hk (by simp)⟩
/-- What a value of a struct type, of another type, looks like. -/
theorem ok_agg {P : Program} {W : World} {r : Reach} {base : Nat} {t : TypeId} {v : Value} {fds : Array Field} (hu : P.underlying t = some (.struct fds)) (h : Value.okWide P W r base t v) : Cells true v v.cells.toList := by
  simp only [Value.okWide, hu] at h
  obtain ⟨cs, e, _⟩ := h
  subst e
  exact ⟨cs, rfl, rfl⟩
theorem ok_one {P : Program} {W : World} {r : Reach} {base : Nat} {t : TypeId} {v : Value} {d : TypeDesc} (hu : P.underlying t = some d) (hd : match d with | .int _ | .bool | .string | .slice _ => True | _ => False) (h : Value.okWide P W r base t v) : Cells false v v.cells.toList := by
  have key : ∀ x, v ≠ .agg x := by
    intro x e
    subst e
    cases d <;> simp only at hd <;> simp [Value.okWide, hu, Cell.okWide, Cell.ok] at h
  cases v <;> first | rfl | exact absurd rfl (key _)
theorem read_arg {H : Type} {enc : TypeId × Value → H} {P : Program} {W : World} {α : Type} {T : TypeId} {n : Nat} {c : α → List Dat} {B : α → Prop} {v : Value} {d : DataW H} {ps : List MemPlace} {ag : Bool} (hr : Rd enc P W T n c B) (h : DataW.Trod enc P W 0 (fun _ => true) true T v d ps)
    (hc : Cells ag v v.cells.toList) : ∃ a F, DVRel false W ⟨ag, c a⟩ v F ∧ B a := by
  obtain ⟨fuel, hf⟩ := h
  obtain ⟨a, F, h1, h2, _⟩ := hr.2 fuel _ d ps hf
  exact ⟨a, F, ⟨_, hc, h1⟩, h2⟩
theorem res_true {w : World} {rs : List Value} {F : List Nat} {v : Value} (h : DVs w [one (dB true)] rs F) (hv : IsRes v rs) : v = .bool true := by
  cases h with
  | cons h t =>
    cases t
    obtain ⟨vs, hc, hr⟩ := h
    have hc' : vs = [_] := hc
    subst hc'
    obtain ⟨e, _⟩ := reps_one_lf hr
    exact hv.trans e
end

end Go.Proofs.Ytkcpbahcnlhmjaa.V
