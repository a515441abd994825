/-
  Marks, natively.
-/
import Derived.Test.YtkcpbahcnlhmjaaV27
namespace Go.Proofs.Ytkcpbahcnlhmjaa.V
open Go
set_option linter.unusedVariables false
set_option linter.unusedSimpArgs false

def nx (k : Int) : Int := IntKind.wrap .i64 (k + 1)
theorem wrap_lt (n : Int) : IntKind.wrap .i64 n < 9223372036854775808 := by
  have e : IntKind.wrap .i64 n = if 9223372036854775808 ≤ n % 18446744073709551616 then n % 18446744073709551616 - 18446744073709551616 else n % 18446744073709551616 := by
    simp [IntKind.wrap, IntKind.signed, IntKind.bits]
  rw [e]; split <;> omega
theorem nx_lt (k : Int) : nx k < 9223372036854775808 := wrap_lt _
theorem nx_eq {k : Int} (h0 : 0 ≤ k) (h1 : k < 9223372036854775807) : nx k = k + 1 := wr_i64 (by omega) (by omega)
theorem b_nx {P : Program} {T : TypeId} {w : World} {k : Int} : (binOp .add T (.int .i64 k) (.int .i64 1)).run P w = .ok (.int .i64 (nx k)) w := b_add

def mkI (x : Int) (k : Int) : Int × Int := (k, nx k)
def mkS (x : ByteArray) (k : Int) : ByteArray × Int := (mt k, nx k)
theorem mkI_lt : ∀ x k, k < 9223372036854775808 → (mkI x k).2 < 9223372036854775808 := fun _ k _ => nx_lt k
theorem mkS_lt : ∀ x k, k < 9223372036854775808 → (mkS x k).2 < 9223372036854775808 := fun _ k _ => nx_lt k

section
variable {P : Program} {o : Oper} {t : List Slot} {h : Heap} {tab : List TyI}
/-- A store of plain cells over plain cells. -/
theorem zsr0 {T : TypeId} {x v : Operand} {k g i j n ver : Nat} {es es' : List (List Dat)} {dp : Bool} {e ds : List Dat} {y : TV} (hT : TabOk P tab) (ho : o.op = .store T x v) (hx : Ev t x ⟨false, [.ep k g i j]⟩) (hh : h k = .row n es dp g ver)
    (he : es[i]? = some e) (hv : Ev t v y) (hy : tvOk y = true) (ha : AbsD h y.cs ds []) (hk : ((ty tab T).ok && Nat.beq y.cs.length (ty tab T).sz && Nat.ble (j + ds.length) e.length) = true)
    (hb : ((e.drop j).take ds.length).all isLf = true) (hr : es.set i (patch e j ds) = es') :
    Does P o ⟨t, h⟩ ⟨putT t o.dst .dead, updAll h [(k, .row n es' dp g ver)]⟩ := zsr (b := 0) hT ho hx hh he hv hy ha hk (.inr ⟨rfl, hb⟩) hr
end

section
variable {α : Type} {f : α → Int → α × Int} {xs : List α} {k : Int} {i : Nat} {x : α} {c : α → List Dat}
def mkL (f : α → Int → α × Int) : List α → Int → List α × Int
  | [], k => ([], k)
  | x :: l, k => ((f x k).1 :: (mkL f l (f x k).2).1, (mkL f l (f x k).2).2)
def mkTo (f : α → Int → α × Int) (xs : List α) (k : Int) (i : Nat) : List α := (mkL f (xs.take i) k).1 ++ xs.drop i
def kTo (f : α → Int → α × Int) (xs : List α) (k : Int) (i : Nat) : Int := (mkL f (xs.take i) k).2
theorem mkL_len : ∀ {xs : List α} {k : Int}, (mkL f xs k).1.length = xs.length
  | [], _ => rfl
  | x :: l, k => by simp [mkL, mkL_len]
theorem mkL_snoc : ∀ {xs : List α} {k : Int}, mkL f (xs ++ [x]) k = ((mkL f xs k).1 ++ [(f x (mkL f xs k).2).1], (f x (mkL f xs k).2).2)
  | [], k => rfl
  | y :: l, k => by simp only [List.cons_append, mkL]; rw [mkL_snoc]
theorem mkTo_len : (mkTo f xs k i).length = xs.length := by
  simp only [mkTo, List.length_append, mkL_len, List.length_take, List.length_drop]; omega
theorem mkTo_zero : mkTo f xs k 0 = xs := by simp [mkTo, mkL]
theorem kTo_zero : kTo f xs k 0 = k := by simp [kTo, mkL]
theorem kTo_succ (h : xs[i]? = some x) : kTo f xs k (i + 1) = (f x (kTo f xs k i)).2 := by
  simp only [kTo]; rw [List.take_add_one, h]; simp only [Option.toList_some]; rw [mkL_snoc]
theorem mkTo_get (h : xs[i]? = some x) : ((mkTo f xs k i).map c)[i]? = some (c x) := by
  have hi := lt_of_some h
  rw [List.getElem?_map, mkTo, List.getElem?_append_right (by rw [mkL_len, List.length_take]; omega), mkL_len, List.length_take, Nat.min_eq_left (by omega), Nat.sub_self, List.getElem?_drop, Nat.add_zero, h]; rfl
theorem mkTo_set (h : xs[i]? = some x) : ((mkTo f xs k i).map c).set i (c (f x (kTo f xs k i)).1) = (mkTo f xs k (i + 1)).map c := by
  have hi := lt_of_some h
  rw [← List.map_set]
  congr 1
  simp only [mkTo, kTo]
  rw [List.set_append_right _ _ (by rw [mkL_len, List.length_take]; omega), mkL_len, List.length_take, Nat.min_eq_left (by omega), Nat.sub_self, List.take_add_one, h]
  simp only [Option.toList_some]
  rw [mkL_snoc, List.append_assoc]
  congr 1
  have hx : xs[i] = x := (List.getElem?_eq_some_iff.1 h).2
  rw [List.drop_eq_getElem_cons hi, hx]; rfl
theorem mkTo_end (h : i = xs.length) : mkTo f xs k i = (mkL f xs k).1 := by subst h; simp [mkTo]
theorem kTo_end (h : i = xs.length) : kTo f xs k i = (mkL f xs k).2 := by subst h; simp [kTo]
theorem mkL_lt (hf : ∀ x k, k < 9223372036854775808 → (f x k).2 < 9223372036854775808) : ∀ {xs : List α} {k : Int}, k < 9223372036854775808 → (mkL f xs k).2 < 9223372036854775808
  | [], k, h => h
  | x :: l, k, h => mkL_lt hf (xs := l) (hf x k h)
theorem kTo_lt (hf : ∀ x k, k < 9223372036854775808 → (f x k).2 < 9223372036854775808) (h : k < 9223372036854775808) : kTo f xs k i < 9223372036854775808 := mkL_lt hf h
theorem sh1 {n n' : Nat} {l l' : List (List Dat)} : ∀ (q : Nat) m us, [Dat.sl n l][q]? = some (.sl m us) → ∃ m' us', [Dat.sl n' l'][q]? = some (.sl m' us') := by
  intro q m us h
  cases q with
  | zero => exact ⟨n', l', rfl⟩
  | succ q => simp at h
theorem set_get {l : List (List Dat)} {i : Nat} {e : List Dat} (h : i < l.length) : (l.set i e)[i]? = some e := by simp [h]
theorem mkTo_lt (h : xs[i]? = some x) : i < ((mkTo f xs k i).map c).length := by rw [List.length_map, mkTo_len]; exact lt_of_some h
end

end Go.Proofs.Ytkcpbahcnlhmjaa.V
