/-
  Appending, in short form.
-/
import Derived.Test.YtkcpbahcnlhmjaaV29
namespace Go.Proofs.Ytkcpbahcnlhmjaa.V
open Go
set_option linter.unusedVariables false
set_option linter.unusedSimpArgs false

section
variable {P : Program} {o : Oper} {t : List Slot} {h : Heap} {tab : List TyI}
/-- Appended: plain elements, or nothing let go. -/
theorem zap {T T2 el : TypeId} {s x : Operand} {k g len m n ver : Nat} {es e es' : List (List Dat)} {dp : Bool} {y : VC} (hT : TabOk P tab) (ho : o.op = .call { callee := .builtin .append, args := #[s, x], argTypes := #[T, T2] })
    (hk : (ty tab T).k = .sl el) (hk2 : (ty tab T2).k = .sl el) (hel : elOk (ty tab el) n = true) (hs : Ev t s ⟨false, [.sr k g 0 len len]⟩) (hh : h k = .row n es dp g ver) (hlen : es.length = len) (hx : Ev t x ⟨false, [y]⟩)
    (hy : Src h n y e []) (hbig : (len + e.length) * (ty tab el).bytes ≤ 140737488355328) (hes : es ++ e = es') (hm : len + e.length = m) :
    Does P o ⟨t, h⟩ ⟨putT t o.dst (.t ⟨false, [.sr k (g + 1) 0 m m]⟩), updAll h [(k, .row n es' dp (g + 1) (ver + 1))]⟩ := by
  obtain ⟨h1, h2, h3, _⟩ := elOk_of hel
  rw [← hes, ← hm]
  have := w_append hT ho rfl hk hk2 h1 h2 hs hh hlen hx hy List.nodup_nil (by simp) (.inr rfl) h3 hbig
  rw [map_eraseS_nil, letgo_nil] at this
  exact this
/-- Appended: a row, which is let go. -/
theorem zapk {T T2 el : TypeId} {s x : Operand} {k g len m n ver : Nat} {es e es' : List (List Dat)} {y : VC} {G : List Nat} (hT : TabOk P tab) (ho : o.op = .call { callee := .builtin .append, args := #[s, x], argTypes := #[T, T2] })
    (hk : (ty tab T).k = .sl el) (hk2 : (ty tab T2).k = .sl el) (hel : elOk (ty tab el) n = true) (hs : Ev t s ⟨false, [.sr k g 0 len len]⟩) (hh : h k = .row n es true g ver) (hlen : es.length = len) (hx : Ev t x ⟨false, [y]⟩)
    (hy : Src h n y e G) (hG : (nodupB G && !G.contains k) = true) (hbig : (len + e.length) * (ty tab el).bytes ≤ 140737488355328) (hes : es ++ e = es') (hm : len + e.length = m) :
    Does P o ⟨t, h⟩ ⟨putT (t.map (eraseS G)) o.dst (.t ⟨false, [.sr k (g + 1) 0 m m]⟩), updAll (letgo G h) [(k, .row n es' true (g + 1) (ver + 1))]⟩ := by
  obtain ⟨h1, h2, h3, _⟩ := elOk_of hel
  simp only [Bool.and_eq_true] at hG
  rw [← hes, ← hm]
  exact w_append hT ho rfl hk hk2 h1 h2 hs hh hlen hx hy (nodupB_of hG.1) (by have := hG.2; simpa using this) (.inl rfl) h3 hbig
end
section
variable {P : Program} {ops : Array Oper} {K : St → Prop} {o : Oper} {l : List Oper} {ov : List (Nat × Slot)} {n : Nat} {hv : List (Nat × VO)}
/-- A step with a result that turns one object. -/
theorem sa {d : Nat} (k : Nat) (r : Slot) (x : VO) (hy : Does P o (mk ov n hv) ⟨putT (tl ov n) o.dst r, updAll (hp hv) [(k, x)]⟩) (hg : o.guard = none) (hd : o.dst = some d) (hk : OpsL P ops l (mk ((d, r) :: ov) n ((k, x) :: hv)) K) :
    OpsL P ops (o :: l) (mk ov n hv) K := s_d hy hg (by rw [hd]; exact put_tl) upd_hp hk
theorem sak {d : Nat} {G : List Nat} (k : Nat) (r : Slot) (x : VO) (hy : Does P o (mk ov n hv) ⟨putT ((tl ov n).map (eraseS G)) o.dst r, updAll (letgo G (hp hv)) [(k, x)]⟩) (hg : o.guard = none) (hd : o.dst = some d)
    (hk : OpsL P ops l (mk ((d, r) :: eraseOv G ov) n ((k, x) :: eraseHv G hv)) K) : OpsL P ops (o :: l) (mk ov n hv) K :=
  s_d hy hg (by rw [hd, tl_erase]; exact put_tl) (by rw [hp_erase]; exact upd_hp) hk
end

end Go.Proofs.Ytkcpbahcnlhmjaa.V
