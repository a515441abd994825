/-
  The rules in short form: side conditions reckoned, results told.
-/
import Derived.Test.YtkcpbahcnlhmjaaV21
namespace Go.Proofs.Ytkcpbahcnlhmjaa.V
open Go
set_option linter.unusedVariables false
set_option linter.unusedSimpArgs false

def notDead : VC → Bool
  | .dead => false
  | _ => true
def tvOk (y : TV) : Bool := (y.ag || Nat.beq y.cs.length 1) && y.cs.all notDead
def ldOk (i : TyI) (off len : Nat) : Bool := i.ok && (i.ag || Nat.beq i.sz 1) && Nat.ble (off + i.sz) len
def elOk (i : TyI) (n : Nat) : Bool := i.ok && Nat.beq i.sz n && Nat.blt 0 i.bytes && Nat.blt 0 i.sz

theorem ldOk_of {i : TyI} {off len : Nat} (h : ldOk i off len = true) : i.ok = true ∧ (i.ag = true ∨ i.sz = 1) ∧ off + i.sz ≤ len := by
  simp only [ldOk, Bool.and_eq_true, Bool.or_eq_true] at h
  exact ⟨h.1.1, h.1.2.imp id Nat.eq_of_beq_eq_true, Nat.le_of_ble_eq_true h.2⟩
theorem elOk_of {i : TyI} {n : Nat} (h : elOk i n = true) : i.ok = true ∧ i.sz = n ∧ 0 < i.bytes ∧ 0 < i.sz := by
  simp only [elOk, Bool.and_eq_true] at h
  refine ⟨h.1.1.1, Nat.eq_of_beq_eq_true h.1.1.2, by simpa using h.1.2, by simpa using h.2⟩
theorem tvOk_of {y : TV} (h : tvOk y = true) : okCells y ∧ ∀ c ∈ y.cs, c ≠ .dead := by
  simp only [tvOk, Bool.and_eq_true, Bool.or_eq_true, List.all_eq_true] at h
  have h2 : ∀ c ∈ y.cs, c ≠ .dead := fun c hc e => by have := h.2 c hc; rw [e] at this; cases this
  refine ⟨?_, h2⟩
  rcases h.1 with h1 | h1
  · exact .inl h1
  · obtain ⟨c, hc⟩ := List.length_eq_one_iff.1 (Nat.eq_of_beq_eq_true h1)
    exact .inr ⟨c, hc, h2 c (by rw [hc]; simp)⟩

section
variable {P : Program} {o : Oper} {t : List Slot} {h : Heap} {tab : List TyI}

theorem zmv {x : Operand} {y : TV} (ho : o.op = .move x) (he : Ev t x y) : Yield P o t h (.t y) := y_move (.inl ho) he
theorem zas {x : Operand} {y : TV} (ho : o.op = .assign x) (he : Ev t x y) : Yield P o t h (.t y) := y_move (.inr ho) he
theorem zfa {S : TypeId} {x : Operand} {f fo fT : Nat} {y z : VC} {offs : List (Nat × Nat)} (hT : TabOk P tab) (ho : o.op = .fieldAddr S x f) (hk : (ty tab S).k = .st offs) (hf : offs[f]? = some (fo, fT))
    (hx : Ev t x ⟨false, [y]⟩) (ha : isAddr y = true) (hr : faddr y fo = z) : Yield P o t h (.t ⟨false, [z]⟩) := by rw [← hr]; exact y_faddr hT ho hk hf hx ha
theorem zlv {T : TypeId} {x : Operand} {k off : Nat} {cs : List VC} {r : TV} (hT : TabOk P tab) (ho : o.op = .load T x) (hx : Ev t x ⟨false, [.vp k off]⟩) (hh : h k = .var cs)
    (hk : ldOk (ty tab T) off cs.length = true) (hr : (⟨(ty tab T).ag, (cs.drop off).take (ty tab T).sz⟩ : TV) = r) : Yield P o t h (.t r) := by
  obtain ⟨h1, h2, h3⟩ := ldOk_of hk
  rw [← hr]; exact y_ldvar hT ho hx hh h1 h2 h3
theorem zlr {T : TypeId} {x : Operand} {k g i j n ver : Nat} {es : List (List Dat)} {dp : Bool} {e : List Dat} {r : TV} (hT : TabOk P tab) (ho : o.op = .load T x) (hx : Ev t x ⟨false, [.ep k g i j]⟩) (hh : h k = .row n es dp g ver)
    (he : es[i]? = some e) (hk : ldOk (ty tab T) j e.length = true) (hr : (⟨(ty tab T).ag, rcells k ver dp i j ((e.drop j).take (ty tab T).sz)⟩ : TV) = r) : Yield P o t h (.t r) := by
  obtain ⟨h1, h2, h3⟩ := ldOk_of hk
  rw [← hr]; exact y_ldrow hT ho hx hh he h1 h2 h3
theorem zle {T : TypeId} {x : Operand} {n i j : Nat} {es : List (List Dat)} {e : List Dat} {r : TV} (hT : TabOk P tab) (ho : o.op = .load T x) (hx : Ev t x ⟨false, [.fe n es i j]⟩)
    (he : es[i]? = some e) (hk : ldOk (ty tab T) j e.length = true) (hr : (⟨(ty tab T).ag, ((e.drop j).take (ty tab T).sz).map .d⟩ : TV) = r) : Yield P o t h (.t r) := by
  obtain ⟨h1, h2, h3⟩ := ldOk_of hk
  rw [← hr]; exact y_ldfe hT ho hx he h1 h2 h3
theorem zlf {T : TypeId} {x : Operand} {off : Nat} {cells : List Dat} {r : TV} (hT : TabOk P tab) (ho : o.op = .load T x) (hx : Ev t x ⟨false, [.fp cells off]⟩)
    (hk : ldOk (ty tab T) off cells.length = true) (hr : (⟨(ty tab T).ag, ((cells.drop off).take (ty tab T).sz).map .d⟩ : TV) = r) : Yield P o t h (.t r) := by
  obtain ⟨h1, h2, h3⟩ := ldOk_of hk
  rw [← hr]; exact y_ldfp hT ho hx h1 h2 h3
theorem zfi {S : TypeId} {x : Operand} {f fo fT : Nat} {cs : List VC} {offs : List (Nat × Nat)} {r : TV} (hT : TabOk P tab) (ho : o.op = .field S x f) (hk : (ty tab S).k = .st offs) (hf : offs[f]? = some (fo, fT))
    (hx : Ev t x ⟨true, cs⟩) (hkf : ldOk (ty tab fT) fo cs.length = true) (hr : (⟨(ty tab fT).ag, (cs.drop fo).take (ty tab fT).sz⟩ : TV) = r) : Yield P o t h (.t r) := by
  obtain ⟨h1, h2, h3⟩ := ldOk_of hkf
  rw [← hr]; exact y_field hT ho hk hf hx h1 h2 h3
/-- The address of an element: of what is read ('zix'), of a row's view ('zis'). -/
theorem zix {T : TypeId} {x ix : Operand} {n el m : Nat} {es : List (List Dat)} (hT : TabOk P tab) (ho : o.op = .indexAddr T x ix) (hk : (ty tab T).k = .sl el) (hel : elOk (ty tab el) n = true)
    (hx : Ev t x ⟨false, [.d (.sl n es)]⟩) (hi : Ev t ix ⟨false, [.d (.lf (.int .i64 (m : Int)))]⟩) (hm : m < es.length) : Yield P o t h (.t ⟨false, [.fe n es m 0]⟩) := by
  obtain ⟨h1, h2, _⟩ := elOk_of hel
  exact y_iad hT ho hk ⟨h1, h2⟩ hx hi (Int.natCast_nonneg m) (by omega)
theorem zis {T : TypeId} {x ix : Operand} {k g off len room n ver el m j : Nat} {es : List (List Dat)} {dp : Bool} (hT : TabOk P tab) (ho : o.op = .indexAddr T x ix) (hk : (ty tab T).k = .sl el) (hel : elOk (ty tab el) n = true)
    (hx : Ev t x ⟨false, [.sr k g off len room]⟩) (hh : h k = .row n es dp g ver) (hi : Ev t ix ⟨false, [.d (.lf (.int .i64 (m : Int)))]⟩) (hm : m < len) (hj : off + m = j) : Yield P o t h (.t ⟨false, [.ep k g j 0]⟩) := by
  obtain ⟨h1, h2, _⟩ := elOk_of hel
  subst hj
  exact y_iasr hT ho hk ⟨h1, h2⟩ hx hh hi (Int.natCast_nonneg m) (by omega)
theorem zln {T : TypeId} {x : Operand} {y : VC} {e n : Nat} (hT : TabOk P tab) (ho : o.op = .call { callee := .builtin .len, args := #[x], argTypes := #[T] }) (hk : (ty tab T).k = .sl e) (hx : Ev t x ⟨false, [y]⟩) (hl : Len h y n) :
    Yield P o t h (.t ⟨false, [.d (.lf (.int .i64 n))]⟩) := y_len hT ho rfl hk hx hl
theorem zls {T : TypeId} {x : Operand} {s : ByteArray} (hT : TabOk P tab) (ho : o.op = .call { callee := .builtin .len, args := #[x], argTypes := #[T] }) (hk : (ty tab T).k = .str) (hx : Ev t x ⟨false, [.d (.lf (.string s))]⟩) :
    Yield P o t h (.t ⟨false, [.d (.lf (.int .i64 s.size))]⟩) := y_slen hT ho rfl hk hx
theorem zbx {T : TypeId} {k : Nat} {x : Operand} {y : TV} {cs : List VC} (ho : o.op = .box T x) (hx : Ev t x y) (hy : tvOk y = true) (hg : h k = .gone) (hc : y.cs = cs) : DoesR P o t h (.t ⟨false, [.vp k 0]⟩) [(k, .var cs)] := by
  subst hc
  refine r_box ho hx ?_ hg
  rcases (tvOk_of hy).1 with h1 | ⟨c, h1, h2⟩
  · exact .inl h1
  · exact .inr ⟨c, h1, h2⟩
theorem zal {T : TypeId} {k : Nat} {cs : List VC} (hT : TabOk P tab) (ho : o.op = .alloc T) (hk : (ty tab T).ok = true) (hg : h k = .gone) (hc : (ty tab T).zero.map zvc = cs) : DoesR P o t h (.t ⟨false, [.vp k 0]⟩) [(k, .var cs)] := by
  rw [← hc]; exact r_alloc hT ho hk hg
theorem zmk {T el : TypeId} {x y : Operand} {k l c n : Nat} {z : List Dat} (hT : TabOk P tab) (ho : o.op = .makeSlice T x y) (hk : (ty tab T).k = .sl el) (hel : elOk (ty tab el) n = true) (hx : Ev t x ⟨false, [.d (.lf (.int .i64 (l : Int)))]⟩)
    (hy : Ev t y ⟨false, [.d (.lf (.int .i64 (c : Int)))]⟩) (hlc : l ≤ c) (hbig : c * (ty tab el).bytes ≤ 281474976710656) (hg : h k = .gone) (hz : (ty tab el).zero = z) :
    DoesR P o t h (.t ⟨false, [.sr k 1 0 l l]⟩) [(k, .row n (List.replicate l z) true 1 0)] := by
  subst hz
  obtain ⟨h1, h2, h3, h4⟩ := elOk_of hel
  subst h2
  exact r_mkslice hT ho hk h1 hx hy hlc h3 h4 hbig hg
theorem zst {T : TypeId} {x v : Operand} {k off : Nat} {cs cs' : List VC} {y : TV} (hT : TabOk P tab) (ho : o.op = .store T x v) (hx : Ev t x ⟨false, [.vp k off]⟩) (hh : h k = .var cs)
    (hv : Ev t v y) (hy : tvOk y = true) (hk : ((ty tab T).ok && Nat.beq y.cs.length (ty tab T).sz && Nat.ble (off + y.cs.length) cs.length) = true) (hc : patch cs off y.cs = cs') :
    Does P o ⟨t, h⟩ ⟨putT t o.dst .dead, updAll h [(k, .var cs')]⟩ := by
  simp only [Bool.and_eq_true] at hk
  obtain ⟨h1, h2⟩ := tvOk_of hy
  rw [← hc]
  exact w_stvar hT ho hk.1.1 hx hh hv h1 h2 (Nat.eq_of_beq_eq_true hk.1.2) (Nat.le_of_ble_eq_true hk.2)
/-- A store into an element of a row: plain cells alone. -/
theorem zsr {T : TypeId} {x v : Operand} {k g i j n ver b : Nat} {es es' : List (List Dat)} {dp : Bool} {e ds : List Dat} {y : TV} (hT : TabOk P tab) (ho : o.op = .store T x v) (hx : Ev t x ⟨false, [.ep k g i j]⟩) (hh : h k = .row n es dp g ver)
    (he : es[i]? = some e) (hv : Ev t v y) (hy : tvOk y = true) (ha : AbsD h y.cs ds []) (hk : ((ty tab T).ok && Nat.beq y.cs.length (ty tab T).sz && Nat.ble (j + ds.length) e.length) = true)
    (hb : 0 < b ∨ (b = 0 ∧ ((e.drop j).take ds.length).all isLf = true)) (hr : es.set i (patch e j ds) = es') :
    Does P o ⟨t, h⟩ ⟨putT t o.dst .dead, updAll h [(k, .row n es' dp g (ver + b))]⟩ := by
  simp only [Bool.and_eq_true] at hk
  obtain ⟨h1, h2⟩ := tvOk_of hy
  rw [← hr]
  have := w_strow (G := []) (bump := b) hT ho hk.1.1 hx hh he hv h1 h2 (Nat.eq_of_beq_eq_true hk.1.2) ha List.nodup_nil (by simp) (.inr rfl) (Nat.le_of_ble_eq_true hk.2) hb
  rw [map_eraseS_nil, letgo_nil] at this
  exact this
end

/-! ### letting go of what is taken in -/
def eraseOv (G : List Nat) (ov : List (Nat × Slot)) : List (Nat × Slot) := ov.map fun p => (p.1, eraseS G p.2)
def eraseO (G : List Nat) : VO → VO
  | .var cs => .var (cs.map (eraseC G))
  | o => o
def eraseHv (G : List Nat) (hv : List (Nat × VO)) : List (Nat × VO) := hv.map fun p => (p.1, if G.contains p.1 then .gone else eraseO G p.2)
theorem eraseS_dead {G : List Nat} : eraseS G .dead = .dead := by simp [eraseS, Slot.dead, eraseV, TV.refs, VC.refs]
theorem lookT_erase {G : List Nat} : ∀ {ov : List (Nat × Slot)} {i : Nat}, lookT (eraseOv G ov) i = eraseS G (lookT ov i)
  | [], i => by simp [eraseOv, lookT, eraseS_dead]
  | (j, x) :: l, i => by
    have := lookT_erase (G := G) (ov := l) (i := i)
    simp only [eraseOv] at this
    simp only [eraseOv, List.map_cons, lookT_cons, this]
    split <;> rfl
theorem tl_erase {G : List Nat} {ov : List (Nat × Slot)} {n : Nat} : (tl ov n).map (eraseS G) = tl (eraseOv G ov) n := by
  simp only [tl, List.map_map]
  congr 1
  funext i
  exact lookT_erase.symm
theorem hp_erase {G : List Nat} : ∀ {hv : List (Nat × VO)}, letgo G (hp hv) = hp (eraseHv G hv)
  | [] => by funext k; simp [letgo, killH, eraseH, hp, eraseHv]
  | (j, x) :: l => by
    funext k
    have := congrFun (hp_erase (G := G) (hv := l)) k
    simp only [eraseHv] at this
    simp only [eraseHv, List.map_cons, hp_cons, ← this]
    simp only [letgo, killH, eraseH, hp_cons]
    by_cases e : k = j
    · subst e
      simp only [if_pos]
      split
      · rfl
      · cases x <;> rfl
    · simp only [if_neg e]

section
variable {P : Program} {ops : Array Oper} {K : St → Prop} {o : Oper} {l : List Oper} {ov ov' : List (Nat × Slot)} {n : Nat} {hv hv' : List (Nat × VO)}
/-- Any operation that lets objects go; what is kept is told. -/
theorem sk {d : Option Nat} {E : List (Nat × VO)} {G : List Nat} (r : Slot) (hy : Does P o (mk ov n hv) ⟨putT ((tl ov n).map (eraseS G)) o.dst r, updAll (letgo G (hp hv)) E⟩) (hg : o.guard = none) (hd : o.dst = d)
    (hk : OpsL P ops l (mk (puT (eraseOv G ov) d r) n (updsH (eraseHv G hv) E)) K) : OpsL P ops (o :: l) (mk ov n hv) K :=
  s_d hy hg (by rw [hd, tl_erase, put_puT]) (by rw [hp_erase, updAll_hp]) hk
end

end Go.Proofs.Ytkcpbahcnlhmjaa.V
