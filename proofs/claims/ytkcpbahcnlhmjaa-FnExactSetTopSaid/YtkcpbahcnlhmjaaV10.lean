/-
  make; bytes as a string; slices held against nil.
-/
import Derived.Test.YtkcpbahcnlhmjaaV9
import Derived.Laws.BytesArg
import Derived.Laws.MakeOwn
import Derived.WalkSpells
namespace Go.Proofs.Ytkcpbahcnlhmjaa.V
open Go
set_option linter.unusedVariables false
set_option linter.unusedSimpArgs false

theorem made_seg (z : Array Value) (l c : Nat) (hl : l ≤ c) : seg ((Array.range (c * z.size)).map (z[· % z.size]!)) 0 (l * z.size) = (List.replicate l z.toList).flatten := by
  have hall : ∀ e ∈ List.replicate l z.toList, e.length = z.size := fun e he => by rw [(List.mem_replicate.1 he).2]; simp
  have hfl : ((List.replicate l z.toList).flatten).length = l * z.size := by rw [flat_len hall]; simp
  have hmul : l * z.size ≤ c * z.size := Nat.mul_le_mul_right _ hl
  apply List.ext_getElem?
  intro q
  by_cases hq : q < l * z.size
  · have hs : 0 < z.size := by rcases Nat.eq_zero_or_pos z.size with h | h; simp [h] at hq; exact h
    have h1 : q / z.size < l := (Nat.div_lt_iff_lt_mul hs).2 hq
    have h2 : q % z.size < z.size := Nat.mod_lt _ hs
    have h3 : q / z.size * z.size + q % z.size = q := by rw [Nat.mul_comm]; exact Nat.div_add_mod q z.size
    rw [seg_get hq, Nat.zero_add]
    conv => rhs; rw [← h3]
    rw [flat_get (i := q / z.size) (j := q % z.size) (e := z.toList) hall (by simp [h1]) h2]
    have h4 : q < c * z.size := by omega
    simp [h4, h2]
  · rw [List.getElem?_eq_none (by simp only [seg, List.length_take]; omega), List.getElem?_eq_none (by omega)]

theorem zrep_reps {w : World} {zs : List Dat} {vs : List Value} (hz : zcells zs vs = true) : ∀ (l : Nat), Reps true w (List.replicate l zs).flatten (List.replicate l vs).flatten []
  | 0 => .nil
  | l + 1 => by
    have := (zcells_reps (w := w) hz).append (zrep_reps hz l)
    simpa [List.replicate_succ] using this

section
variable {P : Program} {o : Oper} {t : List Slot} {h : Heap} {tab : List TyI}

theorem r_mkslice {T el : TypeId} {x y : Operand} {k l c : Nat} (hT : TabOk P tab) (ho : o.op = .makeSlice T x y) (hk : (ty tab T).k = .sl el) (hel : (ty tab el).ok = true) (hx : Ev t x ⟨false, [.d (.lf (.int .i64 (l : Int)))]⟩)
    (hy : Ev t y ⟨false, [.d (.lf (.int .i64 (c : Int)))]⟩) (hlc : l ≤ c) (hb0 : 0 < (ty tab el).bytes) (hz0 : 0 < (ty tab el).sz) (hbig : c * (ty tab el).bytes ≤ 281474976710656) (hg : h k = .gone) :
    DoesR P o t h (.t ⟨false, [.sr k 1 0 l l]⟩) [(k, .row (ty tab el).sz (List.replicate l (ty tab el).zero) true 1 0)] := by
  intro w0 M0 A0 locs RO a w hgd hm K Q hK
  obtain ⟨e1, _⟩ := hm.evlf hx
  obtain ⟨e2, _⟩ := hm.evlf hy
  obtain ⟨f, d, h1, h2, h3, hby, _, z, hz, hzc, _⟩ := (hT el hel).ex
  have hu := (hT T (by simp [TyI.ok, hk])).slice hk
  have hsz := (hT el hel).sizeOf w
  have hzs : z.cells.size = (ty tab el).sz := by
    have := (zcells_reps (w := w) hzc).length
    simp only [Array.length_toList] at this
    rw [this, (hT el hel).zl]
  have hc : c ≤ 281474976710656 := Nat.le_trans (Nat.le_mul_of_pos_right _ hb0) hbig
  have hrun0 := run_make (P := P) w T el f z hu h1 hz .i64 .i64 (l : Int) (c : Int) (by omega) (by omega) (by
    rw [hby]
    have h5 : ((ty tab el).bytes * c : Nat) ≤ 281474976710656 := by rw [Nat.mul_comm]; exact hbig
    have h7 : (((ty tab el).bytes * c : Nat) : Int) ≤ 281474976710656 := by omega
    rw [Int.natCast_mul] at h7
    exact h7) (by omega)
  have hrun : (execOp a.eval o).run P w = .ok (.value (.slice (some ⟨w.heap.size, 0, none⟩) l c)) (w.alloc (.cells ((Array.range (c * z.cells.size)).map (z.cells[· % z.cells.size]!)) el)) := by
    have h6 : f.size = z.cells.size := by rw [h3, hzs]
    rw [Int.toNat_natCast, Int.toNat_natCast, h6] at hrun0
    unfold madeCells at hrun0
    have key : execOp a.eval o = (do let v ← Instr.makeSlice T (.int .i64 (l : Int)) (.int .i64 (c : Int)); pure (.value v)) := by simp only [execOp, ho, e1, e2]
    rw [key, Sem.run_bind, hrun0]
    rfl
  have hob : ObjOk (w.alloc (.cells ((Array.range (c * z.cells.size)).map (z.cells[· % z.cells.size]!)) el)) RO (.row (ty tab el).sz (List.replicate l (ty tab el).zero) true 1 0) ⟨false, w.heap.size, 0, c * z.cells.size, [w.heap.size]⟩ := by
    refine ⟨fun e he => by rw [(List.mem_replicate.1 he).2]; exact (hT el hel).zl, .inr ⟨rfl, _, el, [], heap_alloc_new, by simp, ?_, ?_, fun _ => rfl, by simp⟩⟩
    · simp only [List.length_replicate, Nat.zero_add, hzs]; exact Nat.mul_le_mul_right _ hlc
    · rw [List.length_replicate, ← hzs, made_seg z.cells l c hlc]
      exact zrep_reps hzc l
  have ht := touch_row hgd hg (kept_alloc w (.cells ((Array.range (c * z.cells.size)).map (z.cells[· % z.cells.size]!)) el)) hob ⟨_, _, _, _, _, rfl⟩ (by simp) (by simp)
  refine wp_of_value hrun (hK _ _ (updL locs k ⟨false, w.heap.size, 0, c * z.cells.size, [w.heap.size]⟩) ?_ ?_ ?_)
  · simpa [updAll] using ht
  · refine TRel.single.2 ⟨_, _, _, _, _, upd_same, Nat.le_refl _, rfl, fun _ => .inr ⟨by rw [updL_same], c, ?_, hlc, Nat.le_refl _, ?_⟩⟩
    · rw [updL_same]; simp
    · rw [updL_same]; simp [hzs]
  · simp [Slot.refs, TV.refs, VC.refs, updAll, upd_same]

/-- Bytes as a string. -/
theorem y_bstr {T T2 el : TypeId} {x : Operand} {k g len room ver : Nat} {es : List (List Dat)} {dp : Bool} {bs : List Int} (hT : TabOk P tab) (ho : o.op = .convert T T2 x) (hk : (ty tab T).k = .sl el) (hk2 : (ty tab T2).k = .str)
    (hu8 : P.underlying el = some (.int .u8)) (hx : Ev t x ⟨false, [.sr k g 0 len room]⟩) (hh : h k = .row 1 es dp g ver) (hlen : es.length = len) (hes : es = bs.map fun b => [.lf (.int .u8 b)]) :
    Yield P o t h (.t ⟨false, [.d (.lf (.string (strOfNums bs)))]⟩) := by
  intro w0 M0 A0 locs RO a w hg hm
  obtain ⟨⟨n', es', dp', g0, ver', hc, hle, hone, hp⟩, hl⟩ := hm.ev1 hx
  rw [hh] at hc
  injection hc with a1 a2 a3 a4 a5
  have hu := (hT T (by simp [TyI.ok, hk])).slice hk
  have hu2 := (hT T2 (by simp [TyI.ok, hk2])).string hk2
  have hob := hg.obj k
  rw [hh] at hob
  obtain ⟨F, hr, _⟩ := view_reps hob (hg.nodup k) (by rw [a1]; exact hp a4) (by omega : 0 + len ≤ es.length)
  rw [List.drop_zero, ← hlen, List.take_length] at hr
  have hbl : bs.length = es.length := by rw [hes]; simp
  have hrun : (convert T T2 (a.eval x)).run P w = .ok (.string (strOfNums bs)) w := by
    generalize a.eval x = v at hr
    cases hr with
    | nl r =>
      have : bs = [] := List.eq_nil_of_length_eq_zero (by simpa using hbl)
      subst this
      rw [run_convert_bytes_nil w T el hu hu8 0 0 T2 hu2]
      rfl
    | em h r =>
      have hb0 : bs = [] := List.eq_nil_of_length_eq_zero (by simpa using hbl)
      subst hb0
      have hl := run_loadCells_list (P := P) w (by assumption) [] (fun j v hj => by simp at hj)
      rw [run_convert_bytes_string w T T2 el _ _ _ hu hu8 hu2, run_bytesToString w _ 0 _ [] (by simpa using hl)]
      rfl
    | sl hb hcc he hs hw gg r =>
      rename_i arr _ off _ _ _ _ _
      refine run_convert_bytes_arg w T el hu hu8 _ _ _ _ bs hbl (fun i hi => ?_) T2 hu2
      have hfl : es.flatten[i]? = some (.lf (.int .u8 (bs.getD i 0))) := by
        have : es[i]? = some [.lf (.int .u8 (bs.getD i 0))] := by
          rw [hes, List.getElem?_map, List.getD_eq_getElem?_getD]
          have : i < bs.length := by omega
          simp [this]
        have h2 := flat_get (n := 1) (j := 0) he this (by omega)
        simpa using h2
      obtain ⟨u, G, hu, hrr, _⟩ := gg.one hfl
      rw [seg_get (by omega)] at hu
      obtain ⟨rfl, _⟩ := reps_one_lf hrr
      rw [cell_block hb]; exact hu
  refine ⟨_, ?_, TRel.single.2 (vrel_lf rfl), by simp [Slot.refs, TV.refs, VC.refs]⟩
  simp [execOp, ho, hrun]

theorem Len.some {w : World} {locs : Locs} {RO : Nat → Prop} {x : VC} {k : Nat} {v : Value} (hl : Len h x k) (hv : VRel locs h w RO x v) (h0 : 0 < k) : ∃ ad c, v = .slice (some ad) k c := by
  cases hl with
  | sr hh =>
    obtain ⟨n, es, dp, g0, ver, hc, hle, hone, hp⟩ := hv
    rw [hh] at hc
    injection hc with a1 a2 a3 a4 a5
    rcases hp a4 with ⟨_, e1, _, e2⟩ | ⟨_, cap, e, _⟩
    · omega
    · exact ⟨_, _, e⟩
  | d =>
    obtain ⟨F, hr, _⟩ := hv
    cases hr with
    | nl r => simp at h0
    | em h r => simp at h0
    | sl hb hc he hs hw g r => exact ⟨_, _, rfl⟩
  | nl => omega

theorem nil_run {op : BinOp} {T T2 e : TypeId} {x : Operand} {a : Act} {w : World} {ad : Option Addr} {n c : Nat} (ho : o.op = .binOp op T x (.const (.slice none 0 0)) T2) (hop : op = .eql ∨ op = .neq) (hu : P.underlying T = some (.slice e))
    (hx : a.eval x = .slice ad n c) : (execOp a.eval o).run P w = .ok (.value (.bool (match op with | .eql => ad.isNone | _ => !ad.isNone))) w := by
  have hnil : a.eval (.const (.slice none 0 0)) = .slice none 0 0 := rfl
  have hgd : ∀ op y, (eqGuard op T x y (.slice ad n c) (.slice none 0 0)).run P w = .ok () w := fun op y => by cases op <;> rfl
  have key : execOp a.eval o = (do let v ← (do eqGuard op T x (.const (.slice none 0 0)) (.slice ad n c) (.slice none 0 0); binOp op T (.slice ad n c) (.slice none 0 0)); pure (.value v)) := by
    simp only [execOp, ho, hx, hnil]
  rw [key, Sem.run_bind, Sem.run_bind, hgd]
  simp only [Result.andThen_ok]
  rcases hop with rfl | rfl
  · rw [Lib.run_eql_slice_nil w T e ad n c 0 0 hu]; rfl
  · rw [run_neq_slice_nil_any w T e ad n c 0 0 hu]; rfl

/-- A slice held against nil: of an empty one it is open. -/
theorem y_nil {op : BinOp} {T T2 e : TypeId} {x : Operand} {y : VC} {n : Nat} (hT : TabOk P tab) (ho : o.op = .binOp op T x (.const (.slice none 0 0)) T2) (hop : op = .eql ∨ op = .neq) (hk : (ty tab T).k = .sl e)
    (hx : Ev t x ⟨false, [y]⟩) (hl : Len h y n) : Yield P o t h (.t ⟨false, [.unk]⟩) := by
  intro w0 M0 A0 locs RO a w hg hm
  obtain ⟨ad, cc, e1⟩ := hl.val (hm.ev1 hx).1
  have hu := (hT T (by simp [TyI.ok, hk])).slice hk
  exact ⟨_, nil_run ho hop hu e1, TRel.single.2 ⟨_, rfl⟩, by simp [Slot.refs, TV.refs, VC.refs]⟩

theorem y_nilne {op : BinOp} {T T2 e : TypeId} {x : Operand} {y : VC} {n : Nat} (hT : TabOk P tab) (ho : o.op = .binOp op T x (.const (.slice none 0 0)) T2) (hop : op = .eql ∨ op = .neq) (hk : (ty tab T).k = .sl e)
    (hx : Ev t x ⟨false, [y]⟩) (hl : Len h y n) (h0 : 0 < n) : Yield P o t h (.t ⟨false, [.d (.lf (.bool (match op with | .eql => false | _ => true)))]⟩) := by
  intro w0 M0 A0 locs RO a w hg hm
  obtain ⟨ad, cc, e1⟩ := hl.some (hm.ev1 hx).1 h0
  have hu := (hT T (by simp [TyI.ok, hk])).slice hk
  have hr := nil_run (P := P) (w := w) ho hop hu e1
  refine ⟨_, hr, TRel.single.2 ?_, by simp [Slot.refs, TV.refs, VC.refs]⟩
  rcases hop with rfl | rfl <;> exact vrel_lf rfl
end

end Go.Proofs.Ytkcpbahcnlhmjaa.V
