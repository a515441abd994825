/-
  Rows that are filled element by element; stores that take rows in.
-/
import Derived.Test.YtkcpbahcnlhmjaaV24
namespace Go.Proofs.Ytkcpbahcnlhmjaa.V
open Go
set_option linter.unusedVariables false
set_option linter.unusedSimpArgs false

section
variable {P : Program} {ops : Array Oper} {K : St → Prop} {o : Oper} {l : List Oper} {ov : List (Nat × Slot)} {n : Nat} {hv : List (Nat × VO)}
theorem sw (k : Nat) (x : VO) (hy : Does P o (mk ov n hv) ⟨putT (tl ov n) o.dst .dead, updAll (hp hv) [(k, x)]⟩) (hg : o.guard = none) (hd : o.dst = none) (hk : OpsL P ops l (mk ov n ((k, x) :: hv)) K) : OpsL P ops (o :: l) (mk ov n hv) K :=
  s_d hy hg (by rw [hd]; rfl) upd_hp hk
theorem swk {G : List Nat} (k : Nat) (x : VO) (hy : Does P o (mk ov n hv) ⟨putT ((tl ov n).map (eraseS G)) o.dst .dead, updAll (letgo G (hp hv)) [(k, x)]⟩) (hg : o.guard = none) (hd : o.dst = none)
    (hk : OpsL P ops l (mk (eraseOv G ov) n ((k, x) :: eraseHv G hv)) K) : OpsL P ops (o :: l) (mk ov n hv) K :=
  s_d hy hg (by rw [hd, tl_erase]; rfl) (by rw [hp_erase]; exact upd_hp) hk
end
section
variable {P : Program} {o : Oper} {t : List Slot} {h : Heap} {tab : List TyI}
/-- A store into an element of a row, which takes rows in. -/
theorem zsg {T : TypeId} {x v : Operand} {k g i j n ver : Nat} {es es' : List (List Dat)} {e ds : List Dat} {y : TV} {G : List Nat} (hT : TabOk P tab) (ho : o.op = .store T x v) (hx : Ev t x ⟨false, [.ep k g i j]⟩) (hh : h k = .row n es true g ver)
    (he : es[i]? = some e) (hv : Ev t v y) (hy : tvOk y = true) (ha : AbsD h y.cs ds G) (hG : (nodupB G && !G.contains k) = true) (hk : ((ty tab T).ok && Nat.beq y.cs.length (ty tab T).sz && Nat.ble (j + ds.length) e.length) = true)
    (hr : es.set i (patch e j ds) = es') : Does P o ⟨t, h⟩ ⟨putT (t.map (eraseS G)) o.dst .dead, updAll (letgo G h) [(k, .row n es' true g (ver + 1))]⟩ := by
  simp only [Bool.and_eq_true] at hk hG
  obtain ⟨h1, h2⟩ := tvOk_of hy
  rw [← hr]
  exact w_strow (bump := 1) hT ho hk.1.1 hx hh he hv h1 h2 (Nat.eq_of_beq_eq_true hk.1.2) ha (nodupB_of hG.1) (by have := hG.2; simpa using this) (.inl rfl) (Nat.le_of_ble_eq_true hk.2) (.inl Nat.one_pos)
end

section
variable {α : Type} {f : α → List Dat} {xs : List α} {z : List Dat} {i : Nat} {x : α}
def fill (f : α → List Dat) (xs : List α) (z : List Dat) (i : Nat) : List (List Dat) := (xs.take i).map f ++ List.replicate (xs.length - i) z
theorem fill0 : List.replicate (xs.map f).length z = fill f xs z 0 := by simp [fill]
theorem fill_len (hi : i ≤ xs.length) : (fill f xs z i).length = xs.length := by simp [fill]; omega
theorem fill_get (hx : xs[i]? = some x) : (fill f xs z i)[i]? = some z := by
  have hi := lt_of_some hx
  simp only [fill]
  rw [List.getElem?_append_right (by simp; omega), List.getElem?_replicate]
  simp; omega
theorem fill_set (hx : xs[i]? = some x) : (fill f xs z i).set i (f x) = fill f xs z (i + 1) := by
  have hi := lt_of_some hx
  simp only [fill]
  rw [List.set_append_right _ _ (by simp; omega), List.take_add_one, hx, List.map_append, List.append_assoc]
  have e1 : i - ((xs.take i).map f).length = 0 := by simp; omega
  have e2 : xs.length - i = (xs.length - (i + 1)) + 1 := by omega
  rw [e1, e2, List.replicate_succ]
  simp
theorem fill_end (hi : i = xs.length) : ((fill f xs z i).drop 0).take (xs.map f).length = xs.map f := by subst hi; simp [fill, List.take_of_length_le]
theorem fill_le (hi : i = xs.length) : 0 + (xs.map f).length ≤ (fill f xs z i).length := by subst hi; simp [fill]
theorem mkok {b : Nat} (h : xs.length ≤ 4194304) (hb : Nat.ble b 67108864 = true) : (xs.map f).length * b ≤ 281474976710656 := by
  rw [List.length_map]
  have := Nat.le_of_ble_eq_true hb
  exact Nat.le_trans (Nat.mul_le_mul h this) (by decide)
end
/-! ### results told by a condition -/
abbrev resI (Ψ : Int → Prop) : List DV → Prop := fun res => ∃ r, Ψ r ∧ res = [one (dI r)]
section
variable {P : Program} {ops : Array Oper} {K : St → Prop} {o : Oper} {l : List Oper} {ov : List (Nat × Slot)} {n : Nat} {hv : List (Nat × VO)} {Ψ : Int → Prop}
theorem zcallX {f : FuncId} {args : Array Operand} {ats : Array TypeId} {as : List Arg} {R : List Nat} (ho : o.op = .call { callee := .value (.func f), args := args, argTypes := ats })
    (htr : TrX P f as (resI Ψ)) (ha : ArgsV (tl ov n) (hp hv) args.toList as R []) : DoesS P o (mk ov n hv) (fun st => ∃ res, resI Ψ res ∧ st = ⟨putT (tl ov n) o.dst (resSlot 0 res), hp hv⟩) :=
  does_callX 0 ho htr ha List.nodup_nil (fun r _ => by simp [keys]) fun res ⟨r, _, e⟩ => by subst e; exact ⟨rfl, rfl⟩
theorem sxI {d : Nat} (hy : DoesS P o (mk ov n hv) (fun st => ∃ res, resI Ψ res ∧ st = ⟨putT (tl ov n) o.dst (resSlot 0 res), hp hv⟩)) (hg : o.guard = none) (hd : o.dst = some d)
    (hk : ∀ r, Ψ r → OpsL P ops l (mk ((d, sc (dI r)) :: ov) n hv) K) : OpsL P ops (o :: l) (mk ov n hv) K :=
  s_s hy hg fun st' ⟨res, ⟨r, hr, e⟩, e2⟩ => by
    subst e2
    subst e
    rw [hd, put_tl]
    exact hk r hr
theorem post_retX {tab : List TyI} {fn : Func} {args : List Arg} {Φ : List DV → Prop} {s : St} {K G : List Nat} (res : List DV) (h0 : Φ res) (h1 : ResV tab s.t s.h fn.results.toList res K) (h2 : OutA s.h 0 args G) (h3 : nodupB (K ++ G) = true) : postX tab fn args Φ .ret s :=
  ⟨res, K, G, h0, h1, h2, nodupB_of h3⟩
theorem trX_go {tab : List TyI} (hT : TabOk P tab) {f : FuncId} {fn : Func} {c : Code} {args : List Arg} {Φ : List DV → Prop} (hf : P.funcs[f]? = some fn) (hname : (fn.name == "runtime.NumGoroutine") = false) (hb : fn.body = some c) (hs : simpleA args = true)
    (hn : fn.ntmps = n) (hl : Nat.ble args.length n = true) (ho : enumT 0 (injA 0 args) = ov) (hh : newsAt 0 (objsA args) = hv)
    (hwp : VWp P c (postX tab fn args Φ) (mk ov n hv)) : TrX P f args Φ := by
  refine trX_of hT hf hname hb hs ?_
  rw [init_mk (by rw [injA_len, hn]; simpa using hl) injA_len, ho, hh, hn]
  exact hwp
end

theorem patch_all {z ds : List Dat} (h : Nat.beq ds.length z.length = true) : patch z 0 ds = ds := by
  simp only [patch, List.take_zero, List.nil_append, Nat.zero_add, Nat.eq_of_beq_eq_true h, List.drop_length, List.append_nil]
theorem take_all {l : List (List Dat)} : (l.drop 0).take l.length = l := by simp
theorem le_all {l : List (List Dat)} : 0 + l.length ≤ l.length := by simp

end Go.Proofs.Ytkcpbahcnlhmjaa.V
