/-
  The mark's text; division; bytes.
-/
import Derived.Test.YtkcpbahcnlhmjaaV26
namespace Go.Proofs.Ytkcpbahcnlhmjaa.V
open Go
set_option linter.unusedVariables false
set_option linter.unusedSimpArgs false

section
variable {P : Program} {T T2 : TypeId} {w : World}
theorem b_rem10 {k : Nat} : (binOp .rem T (.int .i64 (k : Int)) (.int .i64 10)).run P w = .ok (.int .i64 ((k % 10 : Nat) : Int)) w := by
  rw [binOp_rem]; simp [Op.intDiv]; rfl
theorem b_quo10 {k : Nat} (h : k < 9223372036854775808) : (binOp .quo T (.int .i64 (k : Int)) (.int .i64 10)).run P w = .ok (.int .i64 ((k / 10 : Nat) : Int)) w := by
  rw [binOp_quo]
  have e : ((k : Int).tdiv 10) = ((k / 10 : Nat) : Int) := rfl
  have e2 := wr_i64 (n := ((k / 10 : Nat) : Int)) (by omega) (by omega)
  simp only [Op.intDiv]
  rw [if_neg (by decide), e, e2]; rfl
theorem wr_u8 {n : Int} (h1 : 0 ≤ n) (h2 : n < 256) : IntKind.wrap .u8 n = n := by
  have e : IntKind.wrap .u8 n = n % 256 := by simp [IntKind.wrap, IntKind.signed, IntKind.bits]
  rw [e]; omega
theorem c_u8 {n : Int} (hu : P.underlying T = some (.int .i64)) (hu2 : P.underlying T2 = some (.int .u8)) (h1 : 0 ≤ n) (h2 : n < 256) : (convert T T2 (.int .i64 n)).run P w = .ok (.int .u8 n) w := by
  simp [convert, Go.underlying, hu, hu2, wr_u8 h1 h2, Conv.intToInt]
end

section
variable {P : Program} {ops : Array Oper} {K : St → Prop} {o : Oper} {l : List Oper} {ov : List (Nat × Slot)} {n : Nat} {hv : List (Nat × VO)} {tab : List TyI}
theorem sb {d : Nat} (k : Nat) (r : Slot) (x : VO) (hy : DoesK P o (tl ov n) (hp hv) r [(k, x)] []) (hg : o.guard = none) (hd : o.dst = some d) (hk : OpsL P ops l (mk ((d, r) :: ov) n ((k, x) :: hv)) K) : OpsL P ops (o :: l) (mk ov n hv) K :=
  s_k hy hg (by rw [map_eraseS_nil, hd]; exact put_tl) (by rw [letgo_nil]; exact upd_hp) hk
theorem zbs {t : List Slot} {h : Heap} {T T2 el : TypeId} {x : Operand} {k g len room ver : Nat} {es : List (List Dat)} {dp : Bool} (bs : List Int) (hT : TabOk P tab) (ho : o.op = .convert T T2 x) (hk : (ty tab T).k = .sl el) (hk2 : (ty tab T2).k = .str)
    (hu8 : P.underlying el = some (.int .u8)) (hx : Ev t x ⟨false, [.sr k g 0 len room]⟩) (hh : h k = .row 1 es dp g ver) (hlen : es.length = len) (hes : es = bs.map fun b => [.lf (.int .u8 b)]) :
    Yield P o t h (.t ⟨false, [.d (.lf (.string (strOfNums bs)))]⟩) := y_bstr hT ho hk hk2 hu8 hx hh hlen hes
/-- A slice literal: its elements told. -/
theorem zbu {t : List Slot} {h : Heap} {T : TypeId} {len el k n : Nat} {parts : Array (Nat × Operand)} {es : List (List Dat)} {K : List Nat} (hT : TabOk P tab) (ho : o.op = .buildSlice T len parts) (hk : (ty tab T).k = .sl el) (hel : elOk (ty tab el) n = true)
    (hlen : Nat.beq parts.size len = true) (hp : PartsD t h n 0 parts.toList es K) (hK : (nodupB K && !K.contains k && Nat.ble (len * n) 16777216) = true) (hg : h k = .gone) :
    DoesK P o t h (.t ⟨false, [.sr k 1 0 len len]⟩) [(k, .row n es true 1 0)] K := by
  obtain ⟨h1, h2, _⟩ := elOk_of hel
  subst h2
  simp only [Bool.and_eq_true] at hK
  exact k_bslice hT ho hk h1 (Nat.eq_of_beq_eq_true hlen) hp (nodupB_of hK.1.1) (Nat.le_of_ble_eq_true hK.2) hg (by have := hK.1.2; simpa using this)
theorem pd {t : List Slot} {h : Heap} {n k : Nat} {x : Operand} {y : TV} {ds : List Dat} {rest : List (Nat × Operand)} {es : List (List Dat)} {K1 K2 : List Nat} (he : Ev t x y) (hy : tvOk y = true) (ha : AbsD h y.cs ds K1) (hl : Nat.beq ds.length n = true)
    (r : PartsD t h n (k + 1) rest es K2) : PartsD t h n k ((k, x) :: rest) (ds :: es) (K1 ++ K2) := .cons he (tvOk_of hy).1 ha (Nat.eq_of_beq_eq_true hl) r
theorem pd0 {t : List Slot} {h : Heap} {n k : Nat} {x : Operand} {y : TV} {ds : List Dat} {rest : List (Nat × Operand)} {es : List (List Dat)} {K2 : List Nat} (he : Ev t x y) (hy : tvOk y = true) (ha : AbsD h y.cs ds []) (hl : Nat.beq ds.length n = true)
    (r : PartsD t h n (k + 1) rest es K2) : PartsD t h n k ((k, x) :: rest) (ds :: es) K2 := .cons (K1 := []) he (tvOk_of hy).1 ha (Nat.eq_of_beq_eq_true hl) r
end

def mtd (k : Nat) (out : ByteArray) : ByteArray := if h : 0 < k then mtd (k / 10) (strOfNums [48 + ((k % 10 : Nat) : Int)] ++ out) else out
termination_by k
decreasing_by omega
theorem mtd_pos {k : Nat} {out : ByteArray} (h : 0 < k) : mtd k out = mtd (k / 10) (strOfNums [48 + ((k % 10 : Nat) : Int)] ++ out) := by rw [mtd, dif_pos h]
theorem mtd_zero {out : ByteArray} : mtd 0 out = out := by rw [mtd, dif_neg (by omega)]
def mt (k : Int) : ByteArray := if k ≤ 0 then ⟨#[109, 48]⟩ else ⟨#[109]⟩ ++ mtd k.toNat ⟨#[]⟩
theorem str1_size {x : Int} {out : ByteArray} : (strOfNums [x] ++ out).size = 1 + out.size := by
  rw [ByteArray.size_append, strOfNums_size]; rfl

end Go.Proofs.Ytkcpbahcnlhmjaa.V
