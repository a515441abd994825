/-
  The native program beside the walk: its combinators and steps; guards over overlays.
-/
import Derived.Test.YtkcpbahcnlhmjaaV30
namespace Go.Proofs.Ytkcpbahcnlhmjaa.V
open Go
set_option linter.unusedVariables false
set_option linter.unusedSimpArgs false

section
variable {α β : Type} {r : β}
def bindv (e : α) (f : α → β) : β := f e
theorem bv_step {e v : α} {f : α → β} (hv : v = e) (hr : bindv e f = r) : f v = r := by subst hv; exact hr
theorem bf_t {c : Bool} {A B : β} (h : c = true) (hr : cond c A B = r) : A = r := by subst h; exact hr
theorem bf_f {c : Bool} {A B : β} (h : c = false) (hr : cond c A B = r) : B = r := by subst h; exact hr
def atL [Inhabited β] (xs : List α) (i : Nat) (f : α → β) : β := match xs[i]? with
  | some x => f x
  | none => default
theorem at_step [Inhabited β] {xs : List α} {i : Nat} {x : α} {f : α → β} (hx : xs[i]? = some x) (hr : atL xs i f = r) : f x = r := by
  simp only [atL, hx] at hr; exact hr
theorem dec_t {p : Prop} [Decidable p] (h : decide p = true) : p := of_decide_eq_true h
theorem dec_f {p : Prop} [Decidable p] (h : decide p = false) : ¬ p := of_decide_eq_false h
theorem not_t {b : Bool} (h : (!b) = true) : b = false := by cases b <;> simp_all
theorem not_f {b : Bool} (h : (!b) = false) : b = true := by cases b <;> simp_all
end
def w64 (n : Int) : Int := IntKind.wrap .i64 n

section
variable {P : Program} {ops : Array Oper} {K : St → Prop} {o oj : Oper} {l : List Oper} {ov : List (Nat × Slot)} {n : Nat} {hv : List (Nat × VO)}
theorem gr {j d : Nat} {want b : Bool} (hg : o.guard = some (j, want)) (hj : ops[j]? = some oj) (hd : oj.dst = some d) (hb : getT (tl ov n) d = .t ⟨false, [.d (.lf (.bool b))]⟩)
    (hw : b = want) (hk : OpsL P ops ({ o with guard := none } :: l) (mk ov n hv) K) : OpsL P ops (o :: l) (mk ov n hv) K := g_run hg hj hd hb hw hk
theorem gs {j d d' : Nat} {want b : Bool} (hg : o.guard = some (j, want)) (hj : ops[j]? = some oj) (hd : oj.dst = some d) (hb : getT (tl ov n) d = .t ⟨false, [.d (.lf (.bool b))]⟩)
    (hw : b = !want) (hd' : o.dst = some d') (hk : OpsL P ops l (mk ((d', .dead) :: ov) n hv) K) : OpsL P ops (o :: l) (mk ov n hv) K :=
  g_skip hg hj hd hb hw (by rw [hd']; exact put_tl) hk
end

section
variable {P : Program} {Q : Exit → St → Prop} {st : St} {c : Operand} {x y : Code} {b : Bool}
theorem v_cT (hc : Ev st.t c ⟨false, [.d (.lf (.bool b))]⟩) (hb : b = true) (h : VWp P x Q st) : VWp P (.cond c x y) Q st := v_cond hc (fun _ => h) fun e => absurd (e.symm.trans hb) (by decide)
theorem v_cF (hc : Ev st.t c ⟨false, [.d (.lf (.bool b))]⟩) (hb : b = false) (h : VWp P y Q st) : VWp P (.cond c x y) Q st := v_cond hc (fun e => absurd (e.symm.trans hb) (by decide)) fun _ => h
end

section
variable {P : Program} {o : Oper} {t : List Slot} {h : Heap} {tab : List TyI}
theorem zpt {c x y : Operand} {b : Bool} {u : TV} (ho : o.op = .pick c x y) (hc : Ev t c ⟨false, [.d (.lf (.bool b))]⟩) (hb : b = true) (he : Ev t x u) : Yield P o t h (.t u) := by
  subst hb; exact y_pick ho hc he
theorem zpf {c x y : Operand} {b : Bool} {u : TV} (ho : o.op = .pick c x y) (hc : Ev t c ⟨false, [.d (.lf (.bool b))]⟩) (hb : b = false) (he : Ev t y u) : Yield P o t h (.t u) := by
  subst hb; exact y_pick ho hc he
/-- The length of what shows a list. -/
theorem zlm {α : Type} {f : α → List Dat} {xs : List α} {T : TypeId} {x : Operand} {y : VC} {e : Nat} (hT : TabOk P tab) (ho : o.op = .call { callee := .builtin .len, args := #[x], argTypes := #[T] }) (hk : (ty tab T).k = .sl e)
    (hx : Ev t x ⟨false, [y]⟩) (hl : Len h y (xs.map f).length) : Yield P o t h (.t ⟨false, [.d (dI (xs.length : Int))]⟩) := by
  have := y_len hT ho rfl hk hx hl
  rwa [List.length_map] at this
/-- The address of an element, its place an integer. -/
theorem zixI {T : TypeId} {x ix : Operand} {n el m : Nat} {i : Int} {es : List (List Dat)} (hT : TabOk P tab) (ho : o.op = .indexAddr T x ix) (hk : (ty tab T).k = .sl el) (hel : elOk (ty tab el) n = true)
    (hx : Ev t x ⟨false, [.d (.sl n es)]⟩) (hi : Ev t ix ⟨false, [.d (.lf (.int .i64 i))]⟩) (he : i = (m : Int)) (hm : m < es.length) : Yield P o t h (.t ⟨false, [.fe n es m 0]⟩) := by
  subst he; exact zix hT ho hk hel hx hi hm
theorem zisI {T : TypeId} {x ix : Operand} {k g off len room n ver el m j : Nat} {i : Int} {es : List (List Dat)} {dp : Bool} (hT : TabOk P tab) (ho : o.op = .indexAddr T x ix) (hk : (ty tab T).k = .sl el) (hel : elOk (ty tab el) n = true)
    (hx : Ev t x ⟨false, [.sr k g off len room]⟩) (hh : h k = .row n es dp g ver) (hi : Ev t ix ⟨false, [.d (.lf (.int .i64 i))]⟩) (he : i = (m : Int)) (hm : m < len) (hj : off + m = j) : Yield P o t h (.t ⟨false, [.ep k g j 0]⟩) := by
  subst he; exact zis hT ho hk hel hx hh hi hm hj
/-- Making a row that lets nothing go, anywhere. -/
theorem dk {r : Slot} {news : List (Nat × VO)} (hy : DoesK P o t h r news []) : Does P o ⟨t, h⟩ ⟨putT t o.dst r, updAll h news⟩ := by
  have := hy.does
  rwa [map_eraseS_nil, letgo_nil] at this
theorem pv {offs : List (Nat × Nat)} {i fo fT : Nat} {x : Operand} {y : TV} {rest : List (Nat × Operand)} {cs cs' : List VC} (hf : offs[i]? = some (fo, fT)) (he : Ev t x y) (hy : tvOk y = true)
    (hk : ((ty tab fT).ok && Nat.beq y.cs.length (ty tab fT).sz && Nat.ble (fo + y.cs.length) cs.length) = true) (r : PartsV tab t offs rest (patch cs fo y.cs) cs') : PartsV tab t offs ((i, x) :: rest) cs cs' := by
  simp only [Bool.and_eq_true] at hk
  exact .cons hf hk.1.1 he (tvOk_of hy).1 (Nat.eq_of_beq_eq_true hk.1.2) (Nat.le_of_ble_eq_true hk.2) r
theorem zbd {T : TypeId} {parts : Array (Nat × Operand)} {offs : List (Nat × Nat)} {cs : List VC} (hT : TabOk P tab) (ho : o.op = .build T parts) (hk : (ty tab T).k = .st offs)
    (hp : PartsV tab t offs parts.toList ((ty tab T).zero.map zvc) cs) : Yield P o t h (.t ⟨true, cs⟩) :=
  y_build hT ho hk hp fun c hc => by
    obtain ⟨d, _, rfl⟩ := List.mem_map.1 hc
    exact zvc_refs d
theorem b_w {T : TypeId} {a b : Int} {w : World} : (binOp .add T (.int .i64 a) (.int .i64 b)).run P w = .ok (.int .i64 (w64 (a + b))) w := b_add
theorem b_ws {T : TypeId} {a b : Int} {w : World} : (binOp .sub T (.int .i64 a) (.int .i64 b)).run P w = .ok (.int .i64 (w64 (a - b))) w := b_sub
end
section
variable {α : Type} {f : α → List Dat} {xs : List α} {x y : α} {i : Nat}
theorem le_len {l : List (List Dat)} {n : Nat} (h : n = l.length) : 0 + n ≤ l.length := by omega
theorem take_len {l : List (List Dat)} {n : Nat} (h : n = l.length) : (l.drop 0).take n = l := by subst h; exact take_all
theorem map_snoc : xs.map f ++ [f x] = (xs ++ [x]).map f := by simp
theorem map_app {ys : List α} : xs.map f ++ ys.map f = (xs ++ ys).map f := by simp
theorem map_set {d : List Dat} (hd : d = f y) : (xs.map f).set i d = (xs.set i y).map f := by subst hd; simp [List.map_set]
theorem len_snoc : (xs.map f).length + [f x].length = ((xs ++ [x]).map f).length := by simp
theorem len_app {ys : List α} : (xs.map f).length + (ys.map f).length = ((xs ++ ys).map f).length := by simp
theorem len_nil_app {ys : List α} : 0 + (ys.map f).length = (ys.map f).length := by simp
theorem ap_big {n m b : Nat} (h : n + m ≤ 33554432) (hb : Nat.ble b 4194304 = true) : (n + m) * b ≤ 140737488355328 := by
  exact Nat.le_trans (Nat.mul_le_mul h (Nat.le_of_ble_eq_true hb)) (by decide)
end
section
variable {P : Program} {ops : Array Oper} {K : St → Prop} {o : Oper} {l : List Oper} {ov : List (Nat × Slot)} {n : Nat} {hv : List (Nat × VO)}
/-- A row literal that takes rows in. -/
theorem sbk {d : Nat} {G : List Nat} (k : Nat) (r : Slot) (x : VO) (hy : DoesK P o (tl ov n) (hp hv) r [(k, x)] G) (hg : o.guard = none) (hd : o.dst = some d) (hk : OpsL P ops l (mk ((d, r) :: eraseOv G ov) n ((k, x) :: eraseHv G hv)) K) :
    OpsL P ops (o :: l) (mk ov n hv) K :=
  s_k hy hg (by rw [tl_erase, hd]; exact put_tl) (by rw [hp_erase]; exact upd_hp) hk
end
end Go.Proofs.Ytkcpbahcnlhmjaa.V
