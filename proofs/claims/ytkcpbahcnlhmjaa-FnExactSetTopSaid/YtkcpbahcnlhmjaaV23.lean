/-
  Calls in short form; ends of functions; blocks; loops over overlays.
-/
import Derived.Test.YtkcpbahcnlhmjaaV22
namespace Go.Proofs.Ytkcpbahcnlhmjaa.V
open Go
set_option linter.unusedVariables false
set_option linter.unusedSimpArgs false

section
variable {t : List Slot} {h : Heap} {x : Operand} {ag : Bool} {cs : List VC} {ds ds' : List Dat} {R R' : List Nat} {E E1 : List (Nat × VO)} {xs : List Operand} {as : List Arg}
theorem ar (he : Ev t x ⟨ag, cs⟩) (hr : RdL h cs ds R) (tl : ArgsV t h xs as R' E) : ArgsV t h (x :: xs) (.ro ⟨ag, ds⟩ :: as) (R ++ R') E := .ro he hr tl
theorem am (he : Ev t x ⟨ag, cs⟩) (hm : MuC h cs ds ds' E1) (tl : ArgsV t h xs as R' E) : ArgsV t h (x :: xs) (.mu ⟨ag, ds⟩ ⟨ag, ds'⟩ :: as) R' (E1 ++ E) := .mu he hm tl
theorem ae {k n i j g ver : Nat} {es : List (List Dat)} {e : List Dat} (he : Ev t x ⟨ag, cs⟩) (hy : rcells k ver true i j ds = cs) (hk : h k = .row n es true g ver) (hi : es[i]? = some e) (hds : (e.drop j).take ds.length = ds) (hl : ds'.length = ds.length)
    (hsh : ∀ (q : Nat) m us, ds[q]? = some (.sl m us) → ∃ m' us', ds'[q]? = some (.sl m' us')) (hno : ds.all simple = true) (tl : ArgsV t h xs as R' E) :
    ArgsV t h (x :: xs) (.mu ⟨ag, ds⟩ ⟨ag, ds'⟩ :: as) R' ((k, .row n (es.set i (patch e j ds')) true g ver) :: E) := .el he hy.symm hk hi hds hl hsh (by simpa using hno) tl
end

def nodupB : List Nat → Bool
  | [] => true
  | x :: l => !l.contains x && nodupB l
theorem nodupB_of : ∀ {l : List Nat}, nodupB l = true → l.Nodup
  | [], _ => List.nodup_nil
  | x :: l, h => by
    simp only [nodupB, Bool.and_eq_true] at h
    refine List.nodup_cons.2 ⟨fun hx => ?_, nodupB_of h.2⟩
    have := h.1
    simp at this
    exact this hx
def freeB (hv : List (Nat × VO)) (k : Nat) : Nat → Bool
  | 0 => true
  | m + 1 => freeB hv k m && (match hp hv (k + m) with | .gone => true | _ => false)
theorem freeB_of {hv : List (Nat × VO)} {k : Nat} : ∀ {m : Nat}, freeB hv k m = true → ∀ i, i < m → hp hv (k + i) = .gone
  | 0, _, i, hi => by omega
  | m + 1, h, i, hi => by
    simp only [freeB, Bool.and_eq_true] at h
    by_cases e : i = m
    · subst e
      cases hh : hp hv (k + i) with
      | gone => rfl
      | var cs => rw [hh] at h; simp at h
      | row n es dp g ver => rw [hh] at h; simp at h
    · exact freeB_of h.1 i (by omega)
def callB (hv : List (Nat × VO)) (k m : Nat) (R E : List Nat) (s : Bool) : Bool := nodupB E && R.all (fun r => !E.contains r) && s && freeB hv k m

section
variable {P : Program} {o : Oper} {ov : List (Nat × Slot)} {n : Nat} {hv : List (Nat × VO)}

theorem zcall {f : FuncId} {args : Array Operand} {ats : Array TypeId} {as : List Arg} {res : List DV} {R : List Nat} {E : List (Nat × VO)} (k : Nat) (r : Slot) (E' : List (Nat × VO)) (ho : o.op = .call { callee := .value (.func f), args := args, argTypes := ats })
    (htr : Tr P f as res) (ha : ArgsV (tl ov n) (hp hv) args.toList as R E) (hb : callB hv k (objsR res).length R (keys E) (simpleR res) = true) (hr : resSlot k res = r) (hE : E ++ newsAt k (objsR res) = E') :
    Does P o (mk ov n hv) ⟨putT (tl ov n) o.dst r, updAll (hp hv) E'⟩ := by
  simp only [callB, Bool.and_eq_true, List.all_eq_true] at hb
  rw [← hr, ← hE]
  exact does_call k ho htr ha (nodupB_of hb.1.1.1) (fun r hr hm => by have := hb.1.1.2 r hr; simp at this; exact this hm) hb.1.2 (freeB_of hb.2)

theorem post_ret {tab : List TyI} {fn : Func} {args : List Arg} {res : List DV} {s : St} {K G : List Nat} (h1 : ResV tab s.t s.h fn.results.toList res K) (h2 : OutA s.h 0 args G) (h3 : nodupB (K ++ G) = true) : postQ tab fn args res .ret s :=
  ⟨K, G, h1, h2, nodupB_of h3⟩
theorem post_end {tab : List TyI} {fn : Func} {args : List Arg} {res : List DV} {s : St} {K G : List Nat} (h1 : ResV tab s.t s.h fn.results.toList res K) (h2 : OutA s.h 0 args G) (h3 : nodupB (K ++ G) = true) : postQ tab fn args res .normal s :=
  ⟨K, G, h1, h2, nodupB_of h3⟩
theorem rv {tab : List TyI} {t : List Slot} {h : Heap} {r : ResultVar} {y : TV} {ag : Bool} {ds : List Dat} {K K' : List Nat} {rs : List ResultVar} {xs : List DV} (he : ResE tab t h r y) (hy : tvOk y = true) (ha : AbsD h y.cs ds K) (hag : y.ag = ag) (tl : ResV tab t h rs xs K') :
    ResV tab t h (r :: rs) (⟨ag, ds⟩ :: xs) (K ++ K') := by
  rw [← hag]; exact .cons he (tvOk_of hy).1 ha tl

section
variable {Q : Exit → St → Prop} {s : St}
theorem blk_hit {id : Nat} (h : Q .normal s) : blockQ id Q (.exit id) s := by simp only [blockQ, if_pos]; exact h
theorem blk_miss {id id' : Nat} (hne : Nat.beq id' id = false) (h : Q (.exit id') s) : blockQ id Q (.exit id') s := by
  have : id' ≠ id := fun e => by rw [beq_iff.2 e] at hne; cases hne
  simp only [blockQ, if_neg this]; exact h

theorem blk_norm {id : Nat} (h : Q .normal s) : blockQ id Q .normal s := h
theorem then_exit {y : Code} {id : Nat} (h : Q (.exit id) s) : thenQ P y Q (.exit id) s := h
theorem loop_exit {ι : Type} {T : ι → St} {I : ι → Prop} {μ : ι → Nat} {x : ι} {id : Nat} (h : Q (.exit id) s) : loopQ T I μ x Q (.exit id) s := h
/-- A loop whose state at the head is told. -/
theorem v_lp {ι : Type} {c : Code} (T : ι → List (Nat × Slot)) (H : ι → List (Nat × VO)) (I : ι → Prop) (μ : ι → Nat) (x0 : ι) (h0 : I x0) (h1 : AllLook ov (T x0)) (h2 : AllLookH hv (H x0)) (h3 : liveOk (T x0) (H x0) = true)
    (round : ∀ x, I x → VWp P c (loopQ (fun x => mk (T x) n (H x)) I μ x Q) (mk (T x) n (H x))) : VWp P (.loop c) Q (mk ov n hv) :=
  v_loop (fun x => mk (T x) n (H x)) I μ x0 h0 (weak_of h1 h2 h3) round
/-- The loop's next round. -/
theorem lp_next {ι : Type} {T : ι → List (Nat × Slot)} {H : ι → List (Nat × VO)} {I : ι → Prop} {μ : ι → Nat} {x : ι} (y : ι) (hy : I y) (hlt : μ y < μ x) (h1 : AllLook ov (T y)) (h2 : AllLookH hv (H y)) (h3 : liveOk (T y) (H y) = true) :
    loopQ (fun x => mk (T x) n (H x)) I μ x Q .normal (mk ov n hv) := ⟨y, hy, hlt, weak_of h1 h2 h3⟩
end

/-- An element of a list that is mapped. -/
theorem getm {α β : Type} {f : α → β} {l : List α} {i : Nat} {x : α} (h : l[i]? = some x) : (l.map f)[i]? = some (f x) := by rw [List.getElem?_map, h]; rfl
theorem some_of_lt {α : Type} {l : List α} {i : Nat} (h : i < l.length) : ∃ x, l[i]? = some x := ⟨_, List.getElem?_eq_getElem h⟩
theorem lt_of_some {α : Type} {l : List α} {i : Nat} {x : α} (h : l[i]? = some x) : i < l.length := (List.getElem?_eq_some_iff.1 h).1
theorem ltm_of_some {α β : Type} {f : α → β} {l : List α} {i : Nat} {x : α} (h : l[i]? = some x) : i < (l.map f).length := by rw [List.length_map]; exact lt_of_some h
end

end Go.Proofs.Ytkcpbahcnlhmjaa.V
