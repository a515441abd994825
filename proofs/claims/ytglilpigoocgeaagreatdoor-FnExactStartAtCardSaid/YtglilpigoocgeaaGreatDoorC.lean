/-
  Marks, natively; weights.
-/
import Derived.Test.YtglilpigoocgeaaGreatDoorN
import Derived.Test.YtglilpigoocgeaaGreatDoorM
namespace Go.Proofs.YtglilpigoocgeaaGreatDoor.V
open Go
set_option linter.unusedVariables false
set_option linter.unusedSimpArgs false
def mkQuest (a : Quest) (k : Int) : Quest × Int := (⟨mt k, nx k⟩, nx (nx k))
theorem mkQuest_lt : ∀ x k, k < 9223372036854775808 → (mkQuest x k).2 < 9223372036854775808 := fun x k h => nx_lt _
def mkvQuest (a : Quest) (k : Int) : Quest × Int := (⟨a.Name, a.Typ⟩, k)
def mkRecord (a : Record) (k : Int) : Record × Int := (⟨mt k, nx k, nx (nx k), nx (nx (nx k)), mt (nx (nx (nx (nx k)))), mt (nx (nx (nx (nx (nx k)))))⟩, nx (nx (nx (nx (nx (nx k))))))
theorem mkRecord_lt : ∀ x k, k < 9223372036854775808 → (mkRecord x k).2 < 9223372036854775808 := fun x k h => nx_lt _
def mkvRecord (a : Record) (k : Int) : Record × Int := (⟨a.Name, a.Typ, a.Ttl, a.N, a.Host, a.Text⟩, k)
def mkEntry (a : Entry) (k : Int) : Entry × Int := (⟨⟨mt k, nx k⟩, nx (nx k), (mkL mkRecord a.L (nx (nx (nx k)))).1, (mkL mkRecord a.L (nx (nx (nx k)))).2, nx ((mkL mkRecord a.L (nx (nx (nx k)))).2)⟩, nx (nx ((mkL mkRecord a.L (nx (nx (nx k)))).2)))
theorem mkEntry_lt : ∀ x k, k < 9223372036854775808 → (mkEntry x k).2 < 9223372036854775808 := fun x k h => nx_lt _
def mkvEntry (a : Entry) (k : Int) : Entry × Int := (⟨⟨a.Q.Name, a.Q.Typ⟩, a.Kind, (mkL mkRecord a.L k).1, a.Rank, a.Until⟩, (mkL mkRecord a.L k).2)
def mkCache (a : Cache) (k : Int) : Cache × Int := (⟨k, (mkL mkEntry a.L (nx k)).1⟩, (mkL mkEntry a.L (nx k)).2)
theorem mkCache_lt : ∀ x k, k < 9223372036854775808 → (mkCache x k).2 < 9223372036854775808 := fun x k h => (mkL_lt mkEntry_lt (nx_lt _))
def mkvCache (a : Cache) (k : Int) : Cache × Int := (⟨a.Cap, (mkL mkEntry a.L k).1⟩, (mkL mkEntry a.L k).2)
theorem mkQuest_ok : CntOk mkQuest Quest.wt := fun x k h0 h1 => by
  simp only [Quest.wt] at h1
  have e1 := nx_eq (k := k) (by omega) (by omega)
  generalize hk1 : nx k = k1 at *
  have e2 := nx_eq (k := k1) (by omega) (by omega)
  generalize hk2 : nx k1 = k2 at *
  have e : (mkQuest x k).2 = k2 := by subst hk1 hk2; rfl
  rw [e]; simp only [Quest.wt]; omega
theorem mkvQuest_ok (x : Quest) (k : Int) (h0 : 0 ≤ k) (h1 : k + 16 * (x.wt : Int) < 4611686018427387904) : k ≤ (mkvQuest x k).2 ∧ (mkvQuest x k).2 ≤ k + 16 * (x.wt : Int) := by
  simp only [Quest.wt] at h1 ⊢
  have e : (mkvQuest x k).2 = k := by rfl
  rw [e]; omega
theorem mkvQuest_lt (x : Quest) (k : Int) (h : k < 9223372036854775808) : (mkvQuest x k).2 < 9223372036854775808 := h
theorem mkRecord_ok : CntOk mkRecord Record.wt := fun x k h0 h1 => by
  simp only [Record.wt] at h1
  have e1 := nx_eq (k := k) (by omega) (by omega)
  generalize hk1 : nx k = k1 at *
  have e2 := nx_eq (k := k1) (by omega) (by omega)
  generalize hk2 : nx k1 = k2 at *
  have e3 := nx_eq (k := k2) (by omega) (by omega)
  generalize hk3 : nx k2 = k3 at *
  have e4 := nx_eq (k := k3) (by omega) (by omega)
  generalize hk4 : nx k3 = k4 at *
  have e5 := nx_eq (k := k4) (by omega) (by omega)
  generalize hk5 : nx k4 = k5 at *
  have e6 := nx_eq (k := k5) (by omega) (by omega)
  generalize hk6 : nx k5 = k6 at *
  have e : (mkRecord x k).2 = k6 := by subst hk1 hk2 hk3 hk4 hk5 hk6; rfl
  rw [e]; simp only [Record.wt]; omega
theorem mkvRecord_ok (x : Record) (k : Int) (h0 : 0 ≤ k) (h1 : k + 16 * (x.wt : Int) < 4611686018427387904) : k ≤ (mkvRecord x k).2 ∧ (mkvRecord x k).2 ≤ k + 16 * (x.wt : Int) := by
  simp only [Record.wt] at h1 ⊢
  have e : (mkvRecord x k).2 = k := by rfl
  rw [e]; omega
theorem mkvRecord_lt (x : Record) (k : Int) (h : k < 9223372036854775808) : (mkvRecord x k).2 < 9223372036854775808 := h
theorem mkEntry_ok : CntOk mkEntry Entry.wt := fun x k h0 h1 => by
  simp only [Entry.wt, Quest.wt] at h1
  have e1 := nx_eq (k := k) (by omega) (by omega)
  generalize hk1 : nx k = k1 at *
  have e2 := nx_eq (k := k1) (by omega) (by omega)
  generalize hk2 : nx k1 = k2 at *
  have e3 := nx_eq (k := k2) (by omega) (by omega)
  generalize hk3 : nx k2 = k3 at *
  have e4 := mkL_ge mkRecord_ok (xs := x.L) (k := k3) (by omega) (by omega)
  generalize hk4 : (mkL mkRecord x.L k3).2 = k4 at *
  have e5 := nx_eq (k := k4) (by omega) (by omega)
  generalize hk5 : nx k4 = k5 at *
  have e6 := nx_eq (k := k5) (by omega) (by omega)
  generalize hk6 : nx k5 = k6 at *
  have e : (mkEntry x k).2 = k6 := by subst hk1 hk2 hk3 hk4 hk5 hk6; rfl
  rw [e]; simp only [Entry.wt, Quest.wt]; omega
theorem mkvEntry_ok (x : Entry) (k : Int) (h0 : 0 ≤ k) (h1 : k + 16 * (x.wt : Int) < 4611686018427387904) : k ≤ (mkvEntry x k).2 ∧ (mkvEntry x k).2 ≤ k + 16 * (x.wt : Int) := by
  simp only [Entry.wt, Quest.wt] at h1 ⊢
  have e1 := mkL_ge mkRecord_ok (xs := x.L) (k := k) (by omega) (by omega)
  generalize hk1 : (mkL mkRecord x.L k).2 = k1 at *
  have e : (mkvEntry x k).2 = k1 := by subst hk1; rfl
  rw [e]; omega
theorem mkvEntry_lt (x : Entry) (k : Int) (h : k < 9223372036854775808) : (mkvEntry x k).2 < 9223372036854775808 := mkL_lt mkRecord_lt (h)
theorem mkCache_ok : CntOk mkCache Cache.wt := fun x k h0 h1 => by
  simp only [Cache.wt] at h1
  have e1 := nx_eq (k := k) (by omega) (by omega)
  generalize hk1 : nx k = k1 at *
  have e2 := mkL_ge mkEntry_ok (xs := x.L) (k := k1) (by omega) (by omega)
  generalize hk2 : (mkL mkEntry x.L k1).2 = k2 at *
  have e : (mkCache x k).2 = k2 := by subst hk1 hk2; rfl
  rw [e]; simp only [Cache.wt]; omega
theorem mkvCache_ok (x : Cache) (k : Int) (h0 : 0 ≤ k) (h1 : k + 16 * (x.wt : Int) < 4611686018427387904) : k ≤ (mkvCache x k).2 ∧ (mkvCache x k).2 ≤ k + 16 * (x.wt : Int) := by
  simp only [Cache.wt] at h1 ⊢
  have e1 := mkL_ge mkEntry_ok (xs := x.L) (k := k) (by omega) (by omega)
  generalize hk1 : (mkL mkEntry x.L k).2 = k1 at *
  have e : (mkvCache x k).2 = k1 := by subst hk1; rfl
  rw [e]; omega
theorem mkvCache_lt (x : Cache) (k : Int) (h : k < 9223372036854775808) : (mkvCache x k).2 < 9223372036854775808 := mkL_lt mkEntry_lt (h)
theorem Quest.wt_le (a : Quest) (h : a.Fit) : a.wt ≤ 0 := by
  simp only [Quest.wt]
  omega
theorem Record.wt_le (a : Record) (h : a.Fit) : a.wt ≤ 0 := by
  simp only [Record.wt]
  omega
theorem Entry.wt_le (a : Entry) (h : a.Fit) : a.wt ≤ 4194304 := by
  simp only [Entry.wt]
  have := a.Q.wt_le h.Q
  have := wtL_le2 (wt := Record.wt) (C := 0) (D := 4194304) h.L.1 (fun x hx => x.wt_le (h.L.2 x hx)) rfl
  omega
theorem Cache.wt_le (a : Cache) (h : a.Fit) : a.wt ≤ 17592190238720 := by
  simp only [Cache.wt]
  have := wtL_le2 (wt := Entry.wt) (C := 4194304) (D := 17592190238720) h.L.1 (fun x hx => x.wt_le (h.L.2 x hx)) rfl
  omega
end Go.Proofs.YtglilpigoocgeaaGreatDoor.V
