/-
  The contract of a function in terms of data ('Tr'), and that a body which meets its post proves it.
-/
import Derived.Test.YtkcpbahcnlhmjaaV11
namespace Go.Proofs.Ytkcpbahcnlhmjaa.V
open Go
set_option linter.unusedVariables false
set_option linter.unusedSimpArgs false

/-- A value as data: one cell, or a struct's cells. -/
structure DV where
  ag : Bool
  cs : List Dat
  deriving Inhabited

def Cells (ag : Bool) (v : Value) (vs : List Value) : Prop :=
  match ag with
  | true => ∃ arr, v = .agg arr ∧ vs = arr.toList
  | false => vs = [v]

def DVRel (wr : Bool) (w : World) (x : DV) (v : Value) (F : List Nat) : Prop := ∃ vs, Cells x.ag v vs ∧ Reps wr w x.cs vs F

inductive Arg where
  | ro (x : DV)
  | mu (x x' : DV)
  | own (x : DV)

inductive ArgsIn (w : World) : List Arg → List Value → List Nat → List Nat → Prop
  | nil : ArgsIn w [] [] [] []
  | ro {x : DV} {v : Value} {F FA M : List Nat} {as : List Arg} {vs : List Value} (h : DVRel false w x v F) (t : ArgsIn w as vs FA M) : ArgsIn w (.ro x :: as) (v :: vs) (F ++ FA) M
  | mu {x x' : DV} {v : Value} {F FA M : List Nat} {as : List Arg} {vs : List Value} (h : DVRel true w x v F) (t : ArgsIn w as vs FA M) : ArgsIn w (.mu x x' :: as) (v :: vs) FA (F ++ M)
  | own {x : DV} {v : Value} {F FA M : List Nat} {as : List Arg} {vs : List Value} (h : DVRel true w x v F) (t : ArgsIn w as vs FA M) : ArgsIn w (.own x :: as) (v :: vs) FA (F ++ M)

/-- How many cells a block holds. -/
def bsz (w : World) (b : Nat) : Nat := match w.heap[b]? with
  | some (.cells arr _ _) => arr.size
  | _ => 0
def szOk (w w' : World) (u : Value) : Prop := ∀ a n c, u = .slice (some a) n c → bsz w' a.block = bsz w a.block

inductive ArgsOut (w0 w : World) : List Arg → List Value → List Nat → Prop
  | nil : ArgsOut w0 w [] [] []
  | ro {x : DV} {v : Value} {FO : List Nat} {as : List Arg} {vs : List Value} (t : ArgsOut w0 w as vs FO) : ArgsOut w0 w (.ro x :: as) (v :: vs) FO
  | mu {x x' : DV} {v : Value} {us : List Value} {F FO : List Nat} {as : List Arg} {vs : List Value} (ha : x'.ag = x.ag) (hc : Cells x.ag v us) (h : Reps true w x'.cs us F) (hz : ∀ u ∈ us, szOk w0 w u) (t : ArgsOut w0 w as vs FO) :
      ArgsOut w0 w (.mu x x' :: as) (v :: vs) (F ++ FO)
  | own {x : DV} {v : Value} {FO : List Nat} {as : List Arg} {vs : List Value} (t : ArgsOut w0 w as vs FO) : ArgsOut w0 w (.own x :: as) (v :: vs) FO

inductive DVs (w : World) : List DV → List Value → List Nat → Prop
  | nil : DVs w [] [] []
  | cons {x : DV} {v : Value} {F FR : List Nat} {xs : List DV} {vs : List Value} (h : DVRel true w x v F) (t : DVs w xs vs FR) : DVs w (x :: xs) (v :: vs) (F ++ FR)

def IsRes (v : Value) (rs : List Value) : Prop :=
  match rs with
  | [x] => v = x
  | _ => v = .tuple rs.toArray

/-- The contract: called with values that show the arguments, it returns values that show the results, in memory of their own; what may be written shows the outs; nothing else has turned. -/
def TrB (P : Program) (f : FuncId) (args : List Arg) (res : List DV) : Prop :=
  ∀ (w : World) (vs : List Value) (FA M : List Nat), ArgsIn w args vs FA M → M.Nodup → (∀ b ∈ M, b ∉ FA) →
    Calls P f vs.toArray w fun e w' => ∃ v rs FR FO, e = .returned v ∧ IsRes v rs ∧ DVs w' res rs FR ∧ ArgsOut w w' args vs FO ∧ (FR ++ FO).Nodup ∧ (∀ b ∈ FR ++ FO, b ∈ M ∨ w.heap.size ≤ b) ∧ Kept (· ∈ M) w w'

/-- The function has a body, and a plain name. -/
def Enter (P : Program) (f : FuncId) : Prop := ∃ fn c, P.funcs[f]? = some fn ∧ (fn.name == "runtime.NumGoroutine") = false ∧ fn.body = some c
structure Tr (P : Program) (f : FuncId) (args : List Arg) (res : List DV) : Prop where
  ent : Enter P f
  tr : TrB P f args res

/-- The contract, where the results are told by a condition alone. -/
structure TrX (P : Program) (f : FuncId) (args : List Arg) (Φ : List DV → Prop) : Prop where
  ent : Enter P f
  tr : ∀ (w : World) (vs : List Value) (FA M : List Nat), ArgsIn w args vs FA M → M.Nodup → (∀ b ∈ M, b ∉ FA) →
    Calls P f vs.toArray w fun e w' => ∃ res, Φ res ∧ ∃ v rs FR FO, e = .returned v ∧ IsRes v rs ∧ DVs w' res rs FR ∧ ArgsOut w w' args vs FO ∧ (FR ++ FO).Nodup ∧ (∀ b ∈ FR ++ FO, b ∈ M ∨ w.heap.size ≤ b) ∧ Kept (· ∈ M) w w'

theorem Enter.run {P : Program} {f : FuncId} (he : Enter P f) (args : Array Value) (w : World) : (callFunc f args).run P w = .ok (.enter f args) w := by
  obtain ⟨fn, c, hf, hn, hb⟩ := he
  have hn' : ¬ fn.name = "runtime.NumGoroutine" := by simpa using hn
  simp [callFunc, hf, hn', hb]

/-! ### arguments as a state -/
def simple : Dat → Bool
  | .lf _ | .sl _ _ => true
  | _ => false
def objs (g : Nat) : List Dat → List VO
  | [] => []
  | .sl n es :: l => .row n es true g 0 :: objs g l
  | _ :: l => objs g l
def injC (g : Nat) : Nat → List Dat → List VC
  | _, [] => []
  | k, .lf v :: l => .d (.lf v) :: injC g k l
  | k, .sl n es :: l => .sr k g 0 es.length es.length :: injC g (k + 1) l
  | k, _ :: l => .dead :: injC g k l

inductive InC (w : World) (RO : Nat → Prop) (g : Nat) : List Dat → List Value → List Loc → Prop
  | nil : InC w RO g [] [] []
  | lf {v : Value} {l : List Dat} {vs : List Value} {Ls : List Loc} (h : sca v = true) (t : InC w RO g l vs Ls) : InC w RO g (.lf v :: l) (v :: vs) Ls
  | sl {n : Nat} {es : List (List Dat)} {v : Value} {l : List Dat} {vs : List Value} {L : Loc} {Ls : List Loc} (ho : ObjOk w RO (.row n es true g 0) L) (hs : SlRel L n 0 es.length es.length v) (h1 : v.oneCell' = true)
      (t : InC w RO g l vs Ls) : InC w RO g (.sl n es :: l) (v :: vs) (L :: Ls)

theorem inC_of {w : World} {RO : Nat → Prop} {g : Nat} : ∀ {cs : List Dat} {vs : List Value} {F : List Nat}, Reps true w cs vs F → cs.all simple = true → ∃ Ls, InC w RO g cs vs Ls ∧ Ls.flatMap (·.foot) = F
  | [], _, _, h, _ => by cases h; exact ⟨[], .nil, rfl⟩
  | d :: cs, _, _, h, hs => by
    have hs2 : cs.all simple = true := by simp only [List.all_cons, Bool.and_eq_true] at hs; exact hs.2
    cases h with
    | lf h r => obtain ⟨Ls, h1, h2⟩ := inC_of r hs2; exact ⟨Ls, .lf h h1, h2⟩
    | nl r =>
      obtain ⟨Ls, h1, h2⟩ := inC_of r hs2
      refine ⟨⟨true, 0, 0, 0, []⟩ :: Ls, .sl ⟨by simp, .inl ⟨rfl, rfl, rfl⟩⟩ (.inl ⟨rfl, rfl, rfl, rfl⟩) rfl h1, by simpa using h2⟩
    | sl hb hc he hsz hw gg r =>
      rename_i F' G b off cap arr ty fr
      obtain ⟨Ls, h1, h2⟩ := inC_of r hs2
      obtain ⟨e1, e2⟩ := hw rfl
      subst e1
      refine ⟨⟨false, _, off, arr.size, b :: G⟩ :: Ls, .sl ⟨he, .inr ⟨rfl, arr, _, _, hb, rfl, hsz, gg, fun _ => rfl, by simp⟩⟩ (.inr ⟨rfl, cap, by simp, hc, Nat.le_refl _, by simpa using e2⟩) rfl h1, ?_⟩
      simp [h2]
    | pt _ _ _ _ _ => simp [simple] at hs
    | cl _ _ => simp [simple] at hs
    | hole _ _ => simp [simple] at hs
    | em h _ => cases h

theorem InC.len {w : World} {RO : Nat → Prop} {g : Nat} {cs : List Dat} {vs : List Value} {Ls : List Loc} (h : InC w RO g cs vs Ls) : Ls.length = (objs g cs).length := by
  induction h <;> simp_all [objs]

theorem InC.objs {w : World} {RO : Nat → Prop} {g : Nat} {cs : List Dat} {vs : List Value} {Ls : List Loc} (h : InC w RO g cs vs Ls) : ∀ (i : Nat) (o : VO), (objs g cs)[i]? = some o → ∃ L, Ls[i]? = some L ∧ ObjOk w RO o L := by
  induction h with
  | nil => intro i o ho; simp [V.objs] at ho
  | lf _ _ ih => intro i o ho; exact ih i o ho
  | sl ho hs h1 t ih =>
    intro i o hoo
    cases i with
    | zero => simp [V.objs] at hoo; subst hoo; exact ⟨_, rfl, ho⟩
    | succ i => simp only [V.objs, List.getElem?_cons_succ] at hoo ⊢; exact ih i o hoo

theorem InC.vrel {w : World} {RO : Nat → Prop} {g : Nat} {cs : List Dat} {vs : List Value} {Ls : List Loc} (hi : InC w RO g cs vs Ls) : ∀ (k : Nat) (locs : Locs) (h : Heap), (∀ i L, Ls[i]? = some L → locs (k + i) = L) →
    (∀ i o, (V.objs g cs)[i]? = some o → h (k + i) = o) → All2 (VRel locs h w RO) (injC g k cs) vs := by
  induction hi with
  | nil => intro k locs h _ _; exact .nil
  | lf hs _ ih => intro k locs h h1 h2; exact .cons (vrel_lf hs) (ih k locs h h1 h2)
  | sl ho hs h1 t ih =>
    intro k locs h hl hh
    have e1 : h k = _ := hh 0 _ rfl
    have e2 : locs k = _ := hl 0 _ rfl
    refine .cons ⟨_, _, _, _, _, e1, Nat.le_refl _, h1, fun _ => by rw [e2]; exact hs⟩ (ih (k + 1) locs h (fun i L hL => ?_) (fun i o ho' => ?_))
    · have := hl (i + 1) L (by simpa using hL); rwa [Nat.add_assoc, Nat.add_comm 1]
    · have := hh (i + 1) o (by simpa [V.objs] using ho'); rwa [Nat.add_assoc, Nat.add_comm 1]

theorem injC_refs {g : Nat} : ∀ {cs : List Dat} {k : Nat}, ∀ x ∈ injC g k cs, ∀ o ∈ x.refs, k ≤ o ∧ o < k + (objs g cs).length
  | [], k, x, hx => by simp [injC] at hx
  | d :: cs, k, x, hx => by
    intro o ho
    cases d with
    | sl n es =>
      simp only [injC, List.mem_cons] at hx
      rcases hx with rfl | hx
      · simp [VC.refs] at ho; subst ho; simp [objs]
      · have := injC_refs x hx o ho
        simp only [objs, List.length_cons]; omega
    | lf v =>
      simp only [injC, List.mem_cons] at hx
      rcases hx with rfl | hx
      · simp [VC.refs] at ho
      · exact injC_refs x hx o ho
    | pt c =>
      simp only [injC, List.mem_cons] at hx
      rcases hx with rfl | hx
      · simp [VC.refs] at ho
      · exact injC_refs x hx o ho
    | cl f c =>
      simp only [injC, List.mem_cons] at hx
      rcases hx with rfl | hx
      · simp [VC.refs] at ho
      · exact injC_refs x hx o ho
    | hole =>
      simp only [injC, List.mem_cons] at hx
      rcases hx with rfl | hx
      · simp [VC.refs] at ho
      · exact injC_refs x hx o ho

theorem objs_row {g : Nat} : ∀ {cs : List Dat} {o : VO}, o ∈ objs g cs → ∃ n es, o = .row n es true g 0
  | d :: cs, o, ho => by
    cases d with
    | sl n es =>
      simp only [objs, List.mem_cons] at ho
      rcases ho with rfl | ho
      · exact ⟨n, es, rfl⟩
      · exact objs_row ho
    | lf v => exact objs_row (cs := cs) ho
    | pt c => exact objs_row (cs := cs) ho
    | cl f c => exact objs_row (cs := cs) ho
    | hole => exact objs_row (cs := cs) ho

/-- The slots of the arguments, and their objects. -/
def injA : Nat → List Arg → List Slot
  | _, [] => []
  | k, .ro x :: l => .t ⟨x.ag, x.cs.map .d⟩ :: injA k l
  | k, .mu x _ :: l => .t ⟨x.ag, injC 0 k x.cs⟩ :: injA (k + (objs 0 x.cs).length) l
  | k, .own x :: l => .t ⟨x.ag, injC 0 k x.cs⟩ :: injA (k + (objs 0 x.cs).length) l
def objsA : List Arg → List VO
  | [] => []
  | .ro _ :: l => objsA l
  | .mu x _ :: l => objs 0 x.cs ++ objsA l
  | .own x :: l => objs 0 x.cs ++ objsA l
def simpleA : List Arg → Bool
  | [] => true
  | .ro _ :: l => simpleA l
  | .mu x _ :: l => x.cs.all simple && simpleA l
  | .own x :: l => x.cs.all simple && simpleA l

theorem trel_iff {locs : Locs} {h : Heap} {w : World} {RO : Nat → Prop} {t : TV} {v : Value} : TRel locs h w RO t v ↔ ∃ vs, Cells t.ag v vs ∧ All2 (VRel locs h w RO) t.cs vs := by
  obtain ⟨ag, cs⟩ := t
  cases ag with
  | true => exact ⟨fun ⟨arr, e, h⟩ => ⟨_, ⟨arr, e, rfl⟩, h⟩, fun ⟨vs, ⟨arr, e, e2⟩, h⟩ => ⟨arr, e, e2 ▸ h⟩⟩
  | false => exact ⟨fun h => ⟨_, rfl, h⟩, fun ⟨vs, e, h⟩ => by simp only [Cells] at e; subst e; exact h⟩

inductive InA (w : World) (RO : Nat → Prop) : List Arg → List Value → List Loc → Prop
  | nil : InA w RO [] [] []
  | ro {x : DV} {v : Value} {F : List Nat} {as : List Arg} {vs : List Value} {Ls : List Loc} (h : DVRel false w x v F) (hF : ∀ b ∈ F, RO b) (t : InA w RO as vs Ls) : InA w RO (.ro x :: as) (v :: vs) Ls
  | mu {x x' : DV} {v : Value} {us : List Value} {as : List Arg} {vs : List Value} {L1 Ls : List Loc} (hc : Cells x.ag v us) (h : InC w RO 0 x.cs us L1) (t : InA w RO as vs Ls) : InA w RO (.mu x x' :: as) (v :: vs) (L1 ++ Ls)
  | own {x : DV} {v : Value} {us : List Value} {as : List Arg} {vs : List Value} {L1 Ls : List Loc} (hc : Cells x.ag v us) (h : InC w RO 0 x.cs us L1) (t : InA w RO as vs Ls) : InA w RO (.own x :: as) (v :: vs) (L1 ++ Ls)

theorem inA_of {w : World} {RO : Nat → Prop} {args : List Arg} {vs : List Value} {FA M : List Nat} (ha : ArgsIn w args vs FA M) (hs : simpleA args = true) (hro : ∀ b ∈ FA, RO b) : ∃ Ls, InA w RO args vs Ls ∧ Ls.flatMap (·.foot) = M := by
  induction ha with
  | nil => exact ⟨[], .nil, rfl⟩
  | ro h t ih =>
    obtain ⟨Ls, h1, h2⟩ := ih (by simpa [simpleA] using hs) fun b hb => hro b (by simp [hb])
    exact ⟨Ls, .ro h (fun b hb => hro b (by simp [hb])) h1, h2⟩
  | mu h t ih =>
    simp only [simpleA, Bool.and_eq_true] at hs
    obtain ⟨Ls, h1, h2⟩ := ih hs.2 hro
    obtain ⟨us, hc, hr⟩ := h
    obtain ⟨L1, h3, h4⟩ := inC_of hr hs.1
    exact ⟨L1 ++ Ls, .mu hc h3 h1, by simp [h2, h4]⟩
  | own h t ih =>
    simp only [simpleA, Bool.and_eq_true] at hs
    obtain ⟨Ls, h1, h2⟩ := ih hs.2 hro
    obtain ⟨us, hc, hr⟩ := h
    obtain ⟨L1, h3, h4⟩ := inC_of hr hs.1
    exact ⟨L1 ++ Ls, .own hc h3 h1, by simp [h2, h4]⟩

theorem InA.objs {w : World} {RO : Nat → Prop} {as : List Arg} {vs : List Value} {Ls : List Loc} (h : InA w RO as vs Ls) : Ls.length = (objsA as).length ∧ ∀ (i : Nat) (o : VO), (objsA as)[i]? = some o → ∃ L, Ls[i]? = some L ∧ ObjOk w RO o L := by
  induction h with
  | nil => exact ⟨rfl, fun i o ho => by simp [objsA] at ho⟩
  | ro h hF t ih => exact ih
  | mu hc h t ih =>
    refine ⟨by simp [objsA, h.len, ih.1], fun i o ho => ?_⟩
    simp only [objsA, List.getElem?_append] at ho ⊢
    rw [h.len]
    split at ho
    · rename_i hlt; rw [if_pos hlt]; exact h.objs i o ho
    · rename_i hlt; rw [if_neg hlt]; exact ih.2 _ o ho
  | own hc h t ih =>
    refine ⟨by simp [objsA, h.len, ih.1], fun i o ho => ?_⟩
    simp only [objsA, List.getElem?_append] at ho ⊢
    rw [h.len]
    split at ho
    · rename_i hlt; rw [if_pos hlt]; exact h.objs i o ho
    · rename_i hlt; rw [if_neg hlt]; exact ih.2 _ o ho

theorem InA.srel {w : World} {RO : Nat → Prop} {as : List Arg} {vs : List Value} {Ls : List Loc} (hi : InA w RO as vs Ls) : ∀ (k : Nat) (locs : Locs) (h : Heap), (∀ i L, Ls[i]? = some L → locs (k + i) = L) →
    (∀ i o, (objsA as)[i]? = some o → h (k + i) = o) → All2 (SRel locs h w RO) (injA k as) vs := by
  have shift : ∀ {L1 Ls : List Loc} {k : Nat} {locs : Locs}, (∀ i L, (L1 ++ Ls)[i]? = some L → locs (k + i) = L) → ∀ i L, Ls[i]? = some L → locs (k + L1.length + i) = L := by
    intro L1 Ls k locs h i L hL
    have := h (L1.length + i) L (by rw [List.getElem?_append_right (by omega)]; simpa using hL)
    rwa [← Nat.add_assoc] at this
  have shift2 : ∀ {L1 Ls : List VO} {k : Nat} {h : Heap}, (∀ i L, (L1 ++ Ls)[i]? = some L → h (k + i) = L) → ∀ i L, Ls[i]? = some L → h (k + L1.length + i) = L := by
    intro L1 Ls k locs h i L hL
    have := h (L1.length + i) L (by rw [List.getElem?_append_right (by omega)]; simpa using hL)
    rwa [← Nat.add_assoc] at this
  have first : ∀ {α : Type} {L1 Ls : List α} {i : Nat} {L : α}, L1[i]? = some L → (L1 ++ Ls)[i]? = some L := by
    intro α L1 Ls i L h
    rw [List.getElem?_append_left (List.getElem?_eq_some_iff.1 h).1]; exact h
  induction hi with
  | nil => intro k locs h _ _; exact .nil
  | ro hd hF t ih =>
    intro k locs h h1 h2
    obtain ⟨us, hc, hr⟩ := hd
    exact .cons (trel_iff.2 ⟨us, hc, reps_vrels hr hF⟩) (ih k locs h h1 h2)
  | mu hc hin t ih =>
    intro k locs h h1 h2
    refine .cons (trel_iff.2 ⟨_, hc, hin.vrel k locs h (fun i L hL => h1 i L (first hL)) fun i o ho => h2 i o (first ho)⟩) (ih _ locs h ?_ (shift2 h2))
    rw [← hin.len]; exact shift h1
  | own hc hin t ih =>
    intro k locs h h1 h2
    refine .cons (trel_iff.2 ⟨_, hc, hin.vrel k locs h (fun i L hL => h1 i L (first hL)) fun i o ho => h2 i o (first ho)⟩) (ih _ locs h ?_ (shift2 h2))
    rw [← hin.len]; exact shift h1

theorem injA_refs : ∀ {as : List Arg} {k : Nat}, ∀ x ∈ injA k as, ∀ o ∈ x.refs, k ≤ o ∧ o < k + (objsA as).length
  | [], k, x, hx => by simp [injA] at hx
  | .ro y :: as, k, x, hx => by
    intro o ho
    simp only [injA, List.mem_cons] at hx
    rcases hx with rfl | hx
    · rw [d_refs] at ho; simp at ho
    · exact injA_refs x hx o ho
  | .mu y y' :: as, k, x, hx => by
    intro o ho
    simp only [injA, List.mem_cons] at hx
    simp only [objsA, List.length_append]
    rcases hx with rfl | hx
    · simp only [Slot.refs, TV.refs, List.mem_flatMap] at ho
      obtain ⟨c, hc, ho⟩ := ho
      have := injC_refs c hc o ho; omega
    · have := injA_refs x hx o ho; omega
  | .own y :: as, k, x, hx => by
    intro o ho
    simp only [injA, List.mem_cons] at hx
    simp only [objsA, List.length_append]
    rcases hx with rfl | hx
    · simp only [Slot.refs, TV.refs, List.mem_flatMap] at ho
      obtain ⟨c, hc, ho⟩ := ho
      have := injC_refs c hc o ho; omega
    · have := injA_refs x hx o ho; omega
theorem objsA_row : ∀ {as : List Arg} {o : VO}, o ∈ objsA as → ∃ n es, o = .row n es true 0 0
  | .ro y :: as, o, ho => objsA_row (as := as) ho
  | .mu y y' :: as, o, ho => by
    simp only [objsA, List.mem_append] at ho
    rcases ho with ho | ho
    · exact objs_row ho
    · exact objsA_row ho
  | .own y :: as, o, ho => by
    simp only [objsA, List.mem_append] at ho
    rcases ho with ho | ho
    · exact objs_row ho
    · exact objsA_row ho

theorem flat_nodup {α : Type} {f : α → List Nat} : ∀ {l : List α}, (l.flatMap f).Nodup → (∀ (i : Nat) a, l[i]? = some a → (f a).Nodup) ∧ ∀ (i j : Nat) a b, l[i]? = some a → l[j]? = some b → i ≠ j → ∀ x ∈ f a, x ∉ f b
  | [], _ => ⟨fun i a h => by simp at h, fun i j a b h => by simp at h⟩
  | c :: l, h => by
    rw [List.flatMap_cons, List.nodup_append] at h
    obtain ⟨h1, h2, h3⟩ := h
    obtain ⟨h4, h5⟩ := flat_nodup h2
    have hm : ∀ {i : Nat} {a : α} {x : Nat}, l[i]? = some a → x ∈ f a → x ∈ l.flatMap f := fun hi hx => List.mem_flatMap.2 ⟨_, List.mem_of_getElem? hi, hx⟩
    refine ⟨fun i a hi => ?_, fun i j a b hi hj hij x hx => ?_⟩
    · cases i with
      | zero => simp at hi; subst hi; exact h1
      | succ i => exact h4 i a (by simpa using hi)
    · cases i with
      | zero =>
        simp at hi; subst hi
        cases j with
        | zero => omega
        | succ j => exact fun hb => h3 x hx x (hm (by simpa using hj) hb) rfl
      | succ i =>
        cases j with
        | zero => simp at hj; subst hj; exact fun hb => h3 x hb x (hm (by simpa using hi) hx) rfl
        | succ j => exact h5 i j a b (by simpa using hi) (by simpa using hj) (by omega) x hx

def heapOf (l : List VO) : Heap := fun k => l.getD k .gone
def initSt (fn : Func) (args : List Arg) : St := ⟨injA 0 args ++ List.replicate (fn.ntmps - args.length) .dead, heapOf (objsA args)⟩

theorem init_rel {w : World} {args : List Arg} {vs : List Value} {FA M : List Nat} {Ls : List Loc} (fn : Func) (hi : InA w (· ∈ FA) args vs Ls) (hf : Ls.flatMap (·.foot) = M) (hlen : vs.length = args.length) (hM : M.Nodup) (hd : ∀ b ∈ M, b ∉ FA)
    (hlt : ∀ b ∈ FA, b < w.heap.size) : Rel w (· ∈ M) ⟨(· ∈ FA), fun k => Ls[k]?⟩ (initSt fn args) { tmps := vs.toArray ++ Array.replicate (fn.ntmps - vs.toArray.size) undef, defers := [] } w := by
  obtain ⟨hl, ho⟩ := hi.objs
  obtain ⟨hn1, hn2⟩ := flat_nodup (hf ▸ hM)
  let locs : Locs := fun k => Ls.getD k ⟨false, 0, 0, 0, []⟩
  have hloc : ∀ (i : Nat) L, Ls[i]? = some L → locs i = L := fun i L h => by simp [locs, List.getD_eq_getElem?_getD, h]
  have hloc0 : ∀ i : Nat, Ls[i]? = none → (locs i).foot = [] := fun i h => by simp [locs, List.getD_eq_getElem?_getD, h]
  have hh : ∀ (i : Nat) o, (objsA args)[i]? = some o → heapOf (objsA args) i = o := fun i o h => by simp [heapOf, List.getD_eq_getElem?_getD, h]
  have hh0 : ∀ i : Nat, (objsA args)[i]? = none → heapOf (objsA args) i = .gone := fun i h => by simp [heapOf, List.getD_eq_getElem?_getD, h]
  have hnone : ∀ i : Nat, (objsA args)[i]? = none → Ls[i]? = none := fun i h => by
    rw [List.getElem?_eq_none_iff] at h ⊢; omega
  have hnovar : ∀ k cs, heapOf (objsA args) k ≠ .var cs := by
    intro k cs h
    cases ho' : (objsA args)[k]? with
    | none => rw [hh0 k ho'] at h; cases h
    | some o =>
      rw [hh k o ho'] at h
      obtain ⟨n, es, e⟩ := objsA_row (List.mem_of_getElem? ho')
      rw [e] at h; cases h
  have hsl := hi.srel 0 locs (heapOf (objsA args)) (fun i L h => by rw [Nat.zero_add]; exact hloc i L h) (fun i o h => by rw [Nat.zero_add]; exact hh i o h)
  have hinj : (injA 0 args).length = vs.length := hsl.length.symm
  have hfm : ∀ k b, b ∈ (locs k).foot → b ∈ M := by
    intro k b hb
    cases hL : Ls[k]? with
    | none => rw [hloc0 k hL] at hb; simp at hb
    | some L => rw [hloc k L hL] at hb; rw [← hf]; exact List.mem_flatMap.2 ⟨L, List.mem_of_getElem? hL, hb⟩
  refine ⟨locs, (· ∈ FA), ?_, rfl, ?_, fun i => ?_, fun i o hor => ?_⟩
  · exact {
      obj := fun k => by
        cases ho' : (objsA args)[k]? with
        | none => show ObjOk _ _ (heapOf _ k) _; rw [hh0 k ho']; exact hloc0 k (hnone k ho')
        | some o =>
          obtain ⟨L, hL, hok⟩ := ho k o ho'
          show ObjOk _ _ (heapOf _ k) _
          rw [hh k o ho', hloc k L hL]; exact hok
      cells := fun k cs hk => absurd hk (hnovar k cs)
      live := fun k cs hk => absurd hk (hnovar k cs)
      nodup := fun k => by
        cases hL : Ls[k]? with
        | none => rw [hloc0 k hL]; exact List.nodup_nil
        | some L => rw [hloc k L hL]; exact hn1 k L hL
      disj := fun k l hkl b hb => by
        cases hL : Ls[k]? with
        | none => rw [hloc0 k hL] at hb; simp at hb
        | some L =>
          cases hL' : Ls[l]? with
          | none => rw [hloc0 l hL']; simp
          | some L' =>
            rw [hloc k L hL] at hb
            rw [hloc l L' hL']
            exact hn2 k l L L' hL hL' hkl b hb
      noro := fun k b hb => hd b (hfm k b hb)
      rolt := hlt
      kept := Kept.refl _ _
      mfoot := fun k b hb => .inl (hfm k b hb)
      share := fun b hb => .inl hb
      pin := fun k L hL n es dp ver _ => by rw [hloc k L hL]; exact ⟨rfl, rfl, rfl, rfl⟩ }
  · simp [initSt, hinj, hlen]
  · simp only [initSt, getT, List.getD_eq_getElem?_getD, Array.getD_eq_getD_getElem?, Array.getElem?_append, List.getElem?_append, hinj, List.size_toArray]
    by_cases hlt' : i < vs.length
    · rw [if_pos hlt', if_pos hlt']
      have hii : i < (injA 0 args).length := by omega
      obtain ⟨v, hv, hr⟩ := hsl.get (List.getElem?_eq_getElem hii)
      rw [List.getElem?_eq_getElem hii, List.getElem?_toArray, hv]
      exact hr
    · rw [if_neg hlt', if_neg hlt']
      have e1 : ∀ (m j : Nat), ((List.replicate m Slot.dead)[j]?).getD .dead = .dead := fun m j => by
        rw [List.getElem?_replicate]; split <;> rfl
      rw [e1]; exact Slot.dead_rel
  · simp only [initSt, getT, List.getD_eq_getElem?_getD, List.getElem?_append] at hor
    split at hor
    · rename_i hlt'
      rw [List.getElem?_eq_getElem hlt'] at hor
      have := injA_refs _ (List.getElem_mem hlt') o hor
      have hlt2 : o < (objsA args).length := by omega
      show heapOf _ o ≠ _
      rw [hh o _ (List.getElem?_eq_getElem hlt2)]
      obtain ⟨n, es, e⟩ := objsA_row (List.getElem_mem hlt2)
      rw [e]; simp
    · have e1 : ∀ (m j : Nat), ((List.replicate m Slot.dead)[j]?).getD .dead = .dead := fun m j => by
        rw [List.getElem?_replicate]; split <;> rfl
      rw [e1] at hor
      simp [Slot.dead, Slot.refs, TV.refs, VC.refs] at hor

end Go.Proofs.Ytkcpbahcnlhmjaa.V
