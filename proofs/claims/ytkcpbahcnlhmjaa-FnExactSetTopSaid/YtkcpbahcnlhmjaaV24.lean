/-
  Drawn regions over overlays.
-/
import Derived.Test.YtkcpbahcnlhmjaaV23
namespace Go.Proofs.Ytkcpbahcnlhmjaa.V
open Go
set_option linter.unusedVariables false
set_option linter.unusedSimpArgs false

def finOv (ops : Array Oper) : Nat → List MOp → List (Nat × Slot) → List (Nat × Slot)
  | _, [], ov => ov
  | i, m :: l, ov => finOv ops (i + 1) l (puT ov ((ops[i]?).bind (·.dst)) m.r)
def finHv : List MOp → List (Nat × VO) → List (Nat × VO)
  | [], hv => hv
  | m :: l, hv => finHv l (updsH hv m.news)
theorem finT_tl {ops : Array Oper} {n : Nat} : ∀ {plan : List MOp} {i : Nat} {ov : List (Nat × Slot)}, finT ops i plan (tl ov n) = tl (finOv ops i plan ov) n
  | [], _, _ => rfl
  | m :: l, i, ov => by simp only [finT, finOv]; rw [put_puT]; exact finT_tl
theorem finH_hp : ∀ {plan : List MOp} {hv : List (Nat × VO)}, finH plan (hp hv) = hp (finHv plan hv)
  | [], _ => rfl
  | m :: l, hv => by simp only [finH, finHv]; rw [updAll_hp]; exact finH_hp
def planFree (hv : List (Nat × VO)) (plan : List MOp) : Bool := plan.all fun m => (keys m.news).all fun k => match hp hv k with | .gone => true | _ => false
theorem planFree_of {hv : List (Nat × VO)} {plan : List MOp} (h : planFree hv plan = true) : ∀ (i : Nat) (m : MOp), plan[i]? = some m → ∀ k ∈ keys m.news, hp hv k = .gone := by
  intro i m hm k hk
  simp only [planFree, List.all_eq_true] at h
  have := h m (List.mem_of_getElem? hm) k hk
  cases hh : hp hv k with
  | gone => rfl
  | var cs => rw [hh] at this; simp at this
  | row n es dp g ver => rw [hh] at this; simp at this

/-- What an operation of the region may lean on, wherever it comes. -/
structure Agr (m : MOp) (n : Nat) (ov : List (Nat × Slot)) (hv : List (Nat × VO)) (t : List Slot) (h : Heap) : Prop where
  rd : ∀ j ∈ m.reads, getT t j = getT (tl ov n) j
  ob : ∀ k ∈ m.objs, h k = hp hv k
  gn : ∀ k ∈ keys m.news, h k = .gone
section
variable {m : MOp} {n : Nat} {ov : List (Nat × Slot)} {hv : List (Nat × VO)} {t : List Slot} {hh : Heap}
theorem Agr.e (A : Agr m n ov hv t hh) {i : Nat} {y : TV} (hj : m.reads.contains i = true) (hb : Nat.blt i n = true) (hl : lookT ov i = .t y) : Ev t (.tmp i) y :=
  (A.rd i (by simpa using hj)).trans (eg hb hl)
theorem Agr.h (A : Agr m n ov hv t hh) {k : Nat} {x : VO} (hk : m.objs.contains k = true) (hx : hp hv k = x) : hh k = x := (A.ob k (by simpa using hk)).trans hx
theorem Agr.g (A : Agr m n ov hv t hh) {k : Nat} (hk : (keys m.news).contains k = true) : hh k = .gone := A.gn k (by simpa using hk)
end

def EachO (P : Program) (n : Nat) (ov : List (Nat × Slot)) (hv : List (Nat × VO)) : List Oper → List MOp → Prop
  | _, [] => True
  | [], _ :: _ => False
  | o :: ol, m :: l => (∀ t h, Agr m n ov hv t h → Does P o ⟨t, h⟩ ⟨putT t o.dst m.r, updAll h m.news⟩) ∧ EachO P n ov hv ol l
theorem eachO_op {P : Program} {ops : Array Oper} {n : Nat} {ov : List (Nat × Slot)} {hv : List (Nat × VO)} : ∀ {plan : List MOp} {ol : List Oper} {i : Nat}, (∀ j, j < ol.length → ops[i + j]? = ol[j]?) → EachO P n ov hv ol plan → EachOp P ops n (tl ov n) (hp hv) i plan
  | [], _, _, _, _ => trivial
  | m :: l, [], _, _, h => h.elim
  | m :: l, o :: ol, i, hl, h => by
    obtain ⟨hd, h2⟩ := h
    refine ⟨fun o' ho' t h _ hr hb hn => ?_, eachO_op (ol := ol) (fun j hj => ?_) h2⟩
    · have h0 : ops[i]? = some o := by simpa using hl 0 (by simp)
      rw [h0] at ho'
      injection ho' with ho'
      subst ho'
      exact hd t h ⟨hr, hb, hn⟩
    · have := hl (j + 1) (by simp; omega)
      rwa [← Nat.add_assoc, Nat.add_right_comm, List.getElem?_cons_succ] at this
theorem dy {P : Program} {o : Oper} {t : List Slot} {h : Heap} {r : Slot} (hy : Yield P o t h r) : Does P o ⟨t, h⟩ ⟨putT t o.dst r, updAll h []⟩ := hy.one
theorem dr {P : Program} {o : Oper} {t : List Slot} {h : Heap} {r : Slot} {news : List (Nat × VO)} (hy : DoesR P o t h r news) : Does P o ⟨t, h⟩ ⟨putT t o.dst r, updAll h news⟩ := hy.does

section
variable {P : Program} {ov ovF : List (Nat × Slot)} {n : Nat} {hv hvF : List (Nat × VO)} {Q : Exit → St → Prop}
theorem v_drw {id : Nat} {l : List Oper} (plan : List MOp) (hmix : P.follows .mixedOrders = true) (hok : drawOk l.toArray plan n = true) (hov : finOv l.toArray 0 plan ov = ovF) (hhv : finHv plan hv = hvF) (hfree : planFree hv plan = true)
    (hops : EachO P n ovF hvF l plan) (htail : OpsL P l.toArray (l.drop plan.length) (mk ovF n hvF) (fun s => Q .normal s)) : VWp P (.region id l.toArray true) Q (mk ov n hv) := by
  have hlen : plan.length ≤ l.length := by have := (drawOk_of hok).size; simpa using this
  refine v_draw plan hmix (by rw [tl_len]; exact hok) (planFree_of hfree) ?_ ?_
  · show EachOp P _ (tl ov n).length (finT _ 0 plan (tl ov n)) (finH plan (hp hv)) 0 plan
    rw [tl_len, finT_tl, finH_hp, hov, hhv]
    exact eachO_op (ol := l) (fun j _ => by simp) hops
  · show Ops P _ _ ⟨finT _ 0 plan (tl ov n), finH plan (hp hv)⟩ _
    rw [finT_tl, finH_hp, hov, hhv]
    have := ops_of_list (ops := l.toArray) (l.drop plan.length) plan.length _ (fun j hj => by simp) htail
    simpa using this

theorem zcallA {o : Oper} {t : List Slot} {h : Heap} {f : FuncId} {args : Array Operand} {ats : Array TypeId} {as : List Arg} {res : List DV} {R : List Nat} (k : Nat) (r : Slot) (E' : List (Nat × VO)) (ho : o.op = .call { callee := .value (.func f), args := args, argTypes := ats })
    (htr : Tr P f as res) (ha : ArgsV t h args.toList as R []) (hs : simpleR res = true) (hfree : ∀ i, i < (objsR res).length → h (k + i) = .gone) (hr : resSlot k res = r) (hE : newsAt k (objsR res) = E') :
    Does P o ⟨t, h⟩ ⟨putT t o.dst r, updAll h E'⟩ := by
  rw [← hr, ← hE]
  exact does_call k ho htr ha List.nodup_nil (fun r _ => by simp [keys]) hs hfree
theorem free0 {h : Heap} {k : Nat} {res : List DV} (h0 : objsR res = []) : ∀ i, i < (objsR res).length → h (k + i) = .gone := by rw [h0]; intro i hi; simp at hi
theorem Agr.free {m : MOp} {t : List Slot} {h : Heap} {k : Nat} {res : List DV} (A : Agr m n ov hv t h) (hE : m.news = newsAt k (objsR res)) : ∀ i, i < (objsR res).length → h (k + i) = .gone := fun i hi => A.gn _ (by rw [hE, newsAt_keys]; omega)
end

theorem c_same {P : Program} {T T2 : TypeId} {n : Int} {w : World} (hu : P.underlying T = some (.int .i64)) (hu2 : P.underlying T2 = some (.int .i64)) (h : IntKind.wrap .i64 n = n) : (convert T T2 (.int .i64 n)).run P w = .ok (.int .i64 n) w := by
  simp [convert, Go.underlying, hu, hu2, h, Conv.intToInt]

end Go.Proofs.Ytkcpbahcnlhmjaa.V
