/-
  Marks, natively; weights.
-/
import Derived.Test.YtglilpigoocgeaaN
import Derived.Test.YtglilpigoocgeaaM
namespace Go.Proofs.Ytglilpigoocgeaa.V
open Go
set_option linter.unusedVariables false
set_option linter.unusedSimpArgs false
def mkConf (a : Conf) (k : Int) : Conf × Int := (⟨k, nx k, nx (nx k), nx (nx (nx k)), nx (nx (nx (nx k))), nx (nx (nx (nx (nx k)))), nx (nx (nx (nx (nx (nx k))))), (mkL mkI a.Roots (nx (nx (nx (nx (nx (nx (nx k)))))))).1⟩, (mkL mkI a.Roots (nx (nx (nx (nx (nx (nx (nx k)))))))).2)
theorem mkConf_lt : ∀ x k, k < 9223372036854775808 → (mkConf x k).2 < 9223372036854775808 := fun x k h => (mkL_lt mkI_lt (nx_lt _))
def mkvConf (a : Conf) (k : Int) : Conf × Int := (⟨a.Quota, a.Depth, a.Chain, a.Glue, a.Tries, a.Addrs, a.Cap, (mkL mkI a.Roots k).1⟩, (mkL mkI a.Roots k).2)
def mkQuest (a : Quest) (k : Int) : Quest × Int := (⟨mt k, nx k⟩, nx (nx k))
theorem mkQuest_lt : ∀ x k, k < 9223372036854775808 → (mkQuest x k).2 < 9223372036854775808 := fun x k h => nx_lt _
def mkvQuest (a : Quest) (k : Int) : Quest × Int := (⟨a.Name, a.Typ⟩, k)
def mkRecord (a : Record) (k : Int) : Record × Int := (⟨mt k, nx k, nx (nx k), nx (nx (nx k)), mt (nx (nx (nx (nx k)))), mt (nx (nx (nx (nx (nx k)))))⟩, nx (nx (nx (nx (nx (nx k))))))
theorem mkRecord_lt : ∀ x k, k < 9223372036854775808 → (mkRecord x k).2 < 9223372036854775808 := fun x k h => nx_lt _
def mkvRecord (a : Record) (k : Int) : Record × Int := (⟨a.Name, a.Typ, a.Ttl, a.N, a.Host, a.Text⟩, k)
def mkEntry (a : Entry) (k : Int) : Entry × Int := (⟨⟨mt k, nx k⟩, nx (nx k), (mkL mkRecord a.L (nx (nx (nx k)))).1, (mkL mkRecord a.L (nx (nx (nx k)))).2, nx ((mkL mkRecord a.L (nx (nx (nx k)))).2)⟩, nx (nx ((mkL mkRecord a.L (nx (nx (nx k)))).2)))
theorem mkEntry_lt : ∀ x k, k < 9223372036854775808 → (mkEntry x k).2 < 9223372036854775808 := fun x k h => nx_lt _
def mkvEntry (a : Entry) (k : Int) : Entry × Int := (⟨⟨a.Q.Name, a.Q.Typ⟩, a.Kind, (mkL mkRecord a.L k).1, a.Rank, a.Until⟩, (mkL mkRecord a.L k).2)
def mkCache (a : Cache) (k : Int) : Cache × Int := (⟨k, (mkL mkEntry a.L (nx k)).1⟩, (mkL mkEntry a.L (nx k)).2)
theorem mkCache_lt : ∀ x k, k < 9223372036854775808 → (mkCache x k).2 < 9223372036854775808 := fun x k h => (mkL_lt mkEntry_lt (nx_lt _))
def mkvCache (a : Cache) (k : Int) : Cache × Int := (⟨a.Cap, (mkL mkEntry a.L k).1⟩, (mkL mkEntry a.L k).2)
def mkLame (a : Lame) (k : Int) : Lame × Int := (⟨k, mt (nx k), nx (nx k)⟩, nx (nx (nx k)))
theorem mkLame_lt : ∀ x k, k < 9223372036854775808 → (mkLame x k).2 < 9223372036854775808 := fun x k h => nx_lt _
def mkvLame (a : Lame) (k : Int) : Lame × Int := (⟨a.Addr, a.Apex, a.Until⟩, k)
def mkExch (a : Exch) (k : Int) : Exch × Int := (⟨k, nx k, nx (nx k), nx (nx (nx k))⟩, nx (nx (nx (nx k))))
theorem mkExch_lt : ∀ x k, k < 9223372036854775808 → (mkExch x k).2 < 9223372036854775808 := fun x k h => nx_lt _
def mkvExch (a : Exch) (k : Int) : Exch × Int := (⟨a.Id, a.Addr, a.Try, a.Due⟩, k)
def mkFrame (a : Frame) (k : Int) : Frame × Int := (⟨⟨mt k, nx k⟩, ⟨mt (nx (nx k)), nx (nx (nx k))⟩, (mkL mkRecord a.Links (nx (nx (nx (nx k))))).1, mt ((mkL mkRecord a.Links (nx (nx (nx (nx k))))).2), (mkL mkI a.Servers (nx ((mkL mkRecord a.Links (nx (nx (nx (nx k))))).2))).1, (mkL mkS a.Need ((mkL mkI a.Servers (nx ((mkL mkRecord a.Links (nx (nx (nx (nx k))))).2))).2)).1, (mkL mkS a.Need ((mkL mkI a.Servers (nx ((mkL mkRecord a.Links (nx (nx (nx (nx k))))).2))).2)).2, nx ((mkL mkS a.Need ((mkL mkI a.Servers (nx ((mkL mkRecord a.Links (nx (nx (nx (nx k))))).2))).2)).2), nx (nx ((mkL mkS a.Need ((mkL mkI a.Servers (nx ((mkL mkRecord a.Links (nx (nx (nx (nx k))))).2))).2)).2)), ⟨nx (nx (nx ((mkL mkS a.Need ((mkL mkI a.Servers (nx ((mkL mkRecord a.Links (nx (nx (nx (nx k))))).2))).2)).2))), nx (nx (nx (nx ((mkL mkS a.Need ((mkL mkI a.Servers (nx ((mkL mkRecord a.Links (nx (nx (nx (nx k))))).2))).2)).2)))), nx (nx (nx (nx (nx ((mkL mkS a.Need ((mkL mkI a.Servers (nx ((mkL mkRecord a.Links (nx (nx (nx (nx k))))).2))).2)).2))))), nx (nx (nx (nx (nx (nx ((mkL mkS a.Need ((mkL mkI a.Servers (nx ((mkL mkRecord a.Links (nx (nx (nx (nx k))))).2))).2)).2))))))⟩⟩, nx (nx (nx (nx (nx (nx (nx ((mkL mkS a.Need ((mkL mkI a.Servers (nx ((mkL mkRecord a.Links (nx (nx (nx (nx k))))).2))).2)).2))))))))
theorem mkFrame_lt : ∀ x k, k < 9223372036854775808 → (mkFrame x k).2 < 9223372036854775808 := fun x k h => nx_lt _
def mkvFrame (a : Frame) (k : Int) : Frame × Int := (⟨⟨a.Ask.Name, a.Ask.Typ⟩, ⟨a.Q.Name, a.Q.Typ⟩, (mkL mkRecord a.Links k).1, a.Apex, (mkL mkI a.Servers ((mkL mkRecord a.Links k).2)).1, (mkL mkS a.Need ((mkL mkI a.Servers ((mkL mkRecord a.Links k).2)).2)).1, a.Down, a.Left, a.Pc, ⟨a.X.Id, a.X.Addr, a.X.Try, a.X.Due⟩⟩, (mkL mkS a.Need ((mkL mkI a.Servers ((mkL mkRecord a.Links k).2)).2)).2)
def mkJob (a : Job) (k : Int) : Job × Int := (⟨k, nx k, ⟨mt (nx (nx k)), nx (nx (nx k))⟩, nx (nx (nx (nx k))), nx (nx (nx (nx (nx k)))), (mkL mkFrame a.Stack (nx (nx (nx (nx (nx (nx k))))))).1⟩, (mkL mkFrame a.Stack (nx (nx (nx (nx (nx (nx k))))))).2)
theorem mkJob_lt : ∀ x k, k < 9223372036854775808 → (mkJob x k).2 < 9223372036854775808 := fun x k h => (mkL_lt mkFrame_lt (nx_lt _))
def mkvJob (a : Job) (k : Int) : Job × Int := (⟨a.No, a.Client, ⟨a.Ask.Name, a.Ask.Typ⟩, a.Sent, a.Fetched, (mkL mkFrame a.Stack k).1⟩, (mkL mkFrame a.Stack k).2)
def mkPacket (a : Packet) (k : Int) : Packet × Int := (⟨k, (mkL mkY a.B (nx k)).1⟩, (mkL mkY a.B (nx k)).2)
theorem mkPacket_lt : ∀ x k, k < 9223372036854775808 → (mkPacket x k).2 < 9223372036854775808 := fun x k h => (mkL_lt mkY_lt (nx_lt _))
def mkvPacket (a : Packet) (k : Int) : Packet × Int := (⟨a.Addr, (mkL mkY a.B k).1⟩, (mkL mkY a.B k).2)
def mkAnswer (a : Answer) (k : Int) : Answer × Int := (⟨k, nx k, nx (nx k), ⟨mt (nx (nx (nx k))), nx (nx (nx (nx k)))⟩, (mkL mkRecord a.Links (nx (nx (nx (nx (nx k)))))).1, (mkL mkRecord a.L ((mkL mkRecord a.Links (nx (nx (nx (nx (nx k)))))).2)).1, (mkL mkRecord a.L ((mkL mkRecord a.Links (nx (nx (nx (nx (nx k)))))).2)).2⟩, nx ((mkL mkRecord a.L ((mkL mkRecord a.Links (nx (nx (nx (nx (nx k)))))).2)).2))
theorem mkAnswer_lt : ∀ x k, k < 9223372036854775808 → (mkAnswer x k).2 < 9223372036854775808 := fun x k h => nx_lt _
def mkvAnswer (a : Answer) (k : Int) : Answer × Int := (⟨a.No, a.Client, a.Code, ⟨a.Q.Name, a.Q.Typ⟩, (mkL mkRecord a.Links k).1, (mkL mkRecord a.L ((mkL mkRecord a.Links k).2)).1, a.Sent⟩, (mkL mkRecord a.L ((mkL mkRecord a.Links k).2)).2)
def mkWorld (a : World) (k : Int) : World × Int := (⟨⟨k, nx k, nx (nx k), nx (nx (nx k)), nx (nx (nx (nx k))), nx (nx (nx (nx (nx k)))), nx (nx (nx (nx (nx (nx k))))), (mkL mkI a.C.Roots (nx (nx (nx (nx (nx (nx (nx k)))))))).1⟩, (mkL mkI a.C.Roots (nx (nx (nx (nx (nx (nx (nx k)))))))).2, ⟨nx ((mkL mkI a.C.Roots (nx (nx (nx (nx (nx (nx (nx k)))))))).2), (mkL mkEntry a.K.L (nx (nx ((mkL mkI a.C.Roots (nx (nx (nx (nx (nx (nx (nx k)))))))).2)))).1⟩, (mkL mkLame a.Bad ((mkL mkEntry a.K.L (nx (nx ((mkL mkI a.C.Roots (nx (nx (nx (nx (nx (nx (nx k)))))))).2)))).2)).1, (mkL mkJob a.Jobs ((mkL mkLame a.Bad ((mkL mkEntry a.K.L (nx (nx ((mkL mkI a.C.Roots (nx (nx (nx (nx (nx (nx (nx k)))))))).2)))).2)).2)).1, (mkL mkPacket a.Outs ((mkL mkJob a.Jobs ((mkL mkLame a.Bad ((mkL mkEntry a.K.L (nx (nx ((mkL mkI a.C.Roots (nx (nx (nx (nx (nx (nx (nx k)))))))).2)))).2)).2)).2)).1, (mkL mkAnswer a.Reps ((mkL mkPacket a.Outs ((mkL mkJob a.Jobs ((mkL mkLame a.Bad ((mkL mkEntry a.K.L (nx (nx ((mkL mkI a.C.Roots (nx (nx (nx (nx (nx (nx (nx k)))))))).2)))).2)).2)).2)).2)).1, (mkL mkAnswer a.Reps ((mkL mkPacket a.Outs ((mkL mkJob a.Jobs ((mkL mkLame a.Bad ((mkL mkEntry a.K.L (nx (nx ((mkL mkI a.C.Roots (nx (nx (nx (nx (nx (nx (nx k)))))))).2)))).2)).2)).2)).2)).2⟩, nx ((mkL mkAnswer a.Reps ((mkL mkPacket a.Outs ((mkL mkJob a.Jobs ((mkL mkLame a.Bad ((mkL mkEntry a.K.L (nx (nx ((mkL mkI a.C.Roots (nx (nx (nx (nx (nx (nx (nx k)))))))).2)))).2)).2)).2)).2)).2))
theorem mkWorld_lt : ∀ x k, k < 9223372036854775808 → (mkWorld x k).2 < 9223372036854775808 := fun x k h => nx_lt _
def mkvWorld (a : World) (k : Int) : World × Int := (⟨⟨a.C.Quota, a.C.Depth, a.C.Chain, a.C.Glue, a.C.Tries, a.C.Addrs, a.C.Cap, (mkL mkI a.C.Roots k).1⟩, a.Now, ⟨a.K.Cap, (mkL mkEntry a.K.L ((mkL mkI a.C.Roots k).2)).1⟩, (mkL mkLame a.Bad ((mkL mkEntry a.K.L ((mkL mkI a.C.Roots k).2)).2)).1, (mkL mkJob a.Jobs ((mkL mkLame a.Bad ((mkL mkEntry a.K.L ((mkL mkI a.C.Roots k).2)).2)).2)).1, (mkL mkPacket a.Outs ((mkL mkJob a.Jobs ((mkL mkLame a.Bad ((mkL mkEntry a.K.L ((mkL mkI a.C.Roots k).2)).2)).2)).2)).1, (mkL mkAnswer a.Reps ((mkL mkPacket a.Outs ((mkL mkJob a.Jobs ((mkL mkLame a.Bad ((mkL mkEntry a.K.L ((mkL mkI a.C.Roots k).2)).2)).2)).2)).2)).1, a.Next⟩, (mkL mkAnswer a.Reps ((mkL mkPacket a.Outs ((mkL mkJob a.Jobs ((mkL mkLame a.Bad ((mkL mkEntry a.K.L ((mkL mkI a.C.Roots k).2)).2)).2)).2)).2)).2)
theorem mkConf_ok : CntOk mkConf Conf.wt := fun x k h0 h1 => by
  simp only [Conf.wt] at h1
  have e1 := nx_eq (k := k) (by omega) (by omega)
  generalize hk1 : nx k = k1 at *
  have e2 := nx_eq (k := k1) (by omega) (by omega)
  generalize hk2 : nx k1 = k2 at *
  have e3 := nx_eq (k := k2) (by omega) (by omega)
  generalize hk3 : nx k2 = k3 at *
  have e4 := nx_eq (k := k3) (by omega) (by omega)
  generalize hk4 : nx k3 = k4 at *
  have e5 := nx_eq (k := k4) (by omega) (by omega)
  generalize hk5 : nx k4 = k5 at *
  have e6 := nx_eq (k := k5) (by omega) (by omega)
  generalize hk6 : nx k5 = k6 at *
  have e7 := nx_eq (k := k6) (by omega) (by omega)
  generalize hk7 : nx k6 = k7 at *
  have e8 := mkL_ge mkI_ok (xs := x.Roots) (k := k7) (by omega) (by omega)
  generalize hk8 : (mkL mkI x.Roots k7).2 = k8 at *
  have e : (mkConf x k).2 = k8 := by subst hk1 hk2 hk3 hk4 hk5 hk6 hk7 hk8; rfl
  rw [e]; simp only [Conf.wt]; omega
theorem mkvConf_ok (x : Conf) (k : Int) (h0 : 0 ≤ k) (h1 : k + 16 * (x.wt : Int) < 4611686018427387904) : k ≤ (mkvConf x k).2 ∧ (mkvConf x k).2 ≤ k + 16 * (x.wt : Int) := by
  simp only [Conf.wt] at h1 ⊢
  have e1 := mkL_ge mkI_ok (xs := x.Roots) (k := k) (by omega) (by omega)
  generalize hk1 : (mkL mkI x.Roots k).2 = k1 at *
  have e : (mkvConf x k).2 = k1 := by subst hk1; rfl
  rw [e]; omega
theorem mkvConf_lt (x : Conf) (k : Int) (h : k < 9223372036854775808) : (mkvConf x k).2 < 9223372036854775808 := mkL_lt mkI_lt (h)
theorem mkQuest_ok : CntOk mkQuest Quest.wt := fun x k h0 h1 => by
  simp only [Quest.wt] at h1
  have e1 := nx_eq (k := k) (by omega) (by omega)
  generalize hk1 : nx k = k1 at *
  have e2 := nx_eq (k := k1) (by omega) (by omega)
  generalize hk2 : nx k1 = k2 at *
  have e : (mkQuest x k).2 = k2 := by subst hk1 hk2; rfl
  rw [e]; simp only [Quest.wt]; omega
theorem mkvQuest_ok (x : Quest) (k : Int) (h0 : 0 ≤ k) (h1 : k + 16 * (x.wt : Int) < 4611686018427387904) : k ≤ (mkvQuest x k).2 ∧ (mkvQuest x k).2 ≤ k + 16 * (x.wt : Int) := by
  simp only [Quest.wt] at h1 ⊢
  have e : (mkvQuest x k).2 = k := by rfl
  rw [e]; omega
theorem mkvQuest_lt (x : Quest) (k : Int) (h : k < 9223372036854775808) : (mkvQuest x k).2 < 9223372036854775808 := h
theorem mkRecord_ok : CntOk mkRecord Record.wt := fun x k h0 h1 => by
  simp only [Record.wt] at h1
  have e1 := nx_eq (k := k) (by omega) (by omega)
  generalize hk1 : nx k = k1 at *
  have e2 := nx_eq (k := k1) (by omega) (by omega)
  generalize hk2 : nx k1 = k2 at *
  have e3 := nx_eq (k := k2) (by omega) (by omega)
  generalize hk3 : nx k2 = k3 at *
  have e4 := nx_eq (k := k3) (by omega) (by omega)
  generalize hk4 : nx k3 = k4 at *
  have e5 := nx_eq (k := k4) (by omega) (by omega)
  generalize hk5 : nx k4 = k5 at *
  have e6 := nx_eq (k := k5) (by omega) (by omega)
  generalize hk6 : nx k5 = k6 at *
  have e : (mkRecord x k).2 = k6 := by subst hk1 hk2 hk3 hk4 hk5 hk6; rfl
  rw [e]; simp only [Record.wt]; omega
theorem mkvRecord_ok (x : Record) (k : Int) (h0 : 0 ≤ k) (h1 : k + 16 * (x.wt : Int) < 4611686018427387904) : k ≤ (mkvRecord x k).2 ∧ (mkvRecord x k).2 ≤ k + 16 * (x.wt : Int) := by
  simp only [Record.wt] at h1 ⊢
  have e : (mkvRecord x k).2 = k := by rfl
  rw [e]; omega
theorem mkvRecord_lt (x : Record) (k : Int) (h : k < 9223372036854775808) : (mkvRecord x k).2 < 9223372036854775808 := h
theorem mkEntry_ok : CntOk mkEntry Entry.wt := fun x k h0 h1 => by
  simp only [Entry.wt, Quest.wt] at h1
  have e1 := nx_eq (k := k) (by omega) (by omega)
  generalize hk1 : nx k = k1 at *
  have e2 := nx_eq (k := k1) (by omega) (by omega)
  generalize hk2 : nx k1 = k2 at *
  have e3 := nx_eq (k := k2) (by omega) (by omega)
  generalize hk3 : nx k2 = k3 at *
  have e4 := mkL_ge mkRecord_ok (xs := x.L) (k := k3) (by omega) (by omega)
  generalize hk4 : (mkL mkRecord x.L k3).2 = k4 at *
  have e5 := nx_eq (k := k4) (by omega) (by omega)
  generalize hk5 : nx k4 = k5 at *
  have e6 := nx_eq (k := k5) (by omega) (by omega)
  generalize hk6 : nx k5 = k6 at *
  have e : (mkEntry x k).2 = k6 := by subst hk1 hk2 hk3 hk4 hk5 hk6; rfl
  rw [e]; simp only [Entry.wt, Quest.wt]; omega
theorem mkvEntry_ok (x : Entry) (k : Int) (h0 : 0 ≤ k) (h1 : k + 16 * (x.wt : Int) < 4611686018427387904) : k ≤ (mkvEntry x k).2 ∧ (mkvEntry x k).2 ≤ k + 16 * (x.wt : Int) := by
  simp only [Entry.wt, Quest.wt] at h1 ⊢
  have e1 := mkL_ge mkRecord_ok (xs := x.L) (k := k) (by omega) (by omega)
  generalize hk1 : (mkL mkRecord x.L k).2 = k1 at *
  have e : (mkvEntry x k).2 = k1 := by subst hk1; rfl
  rw [e]; omega
theorem mkvEntry_lt (x : Entry) (k : Int) (h : k < 9223372036854775808) : (mkvEntry x k).2 < 9223372036854775808 := mkL_lt mkRecord_lt (h)
theorem mkCache_ok : CntOk mkCache Cache.wt := fun x k h0 h1 => by
  simp only [Cache.wt] at h1
  have e1 := nx_eq (k := k) (by omega) (by omega)
  generalize hk1 : nx k = k1 at *
  have e2 := mkL_ge mkEntry_ok (xs := x.L) (k := k1) (by omega) (by omega)
  generalize hk2 : (mkL mkEntry x.L k1).2 = k2 at *
  have e : (mkCache x k).2 = k2 := by subst hk1 hk2; rfl
  rw [e]; simp only [Cache.wt]; omega
theorem mkvCache_ok (x : Cache) (k : Int) (h0 : 0 ≤ k) (h1 : k + 16 * (x.wt : Int) < 4611686018427387904) : k ≤ (mkvCache x k).2 ∧ (mkvCache x k).2 ≤ k + 16 * (x.wt : Int) := by
  simp only [Cache.wt] at h1 ⊢
  have e1 := mkL_ge mkEntry_ok (xs := x.L) (k := k) (by omega) (by omega)
  generalize hk1 : (mkL mkEntry x.L k).2 = k1 at *
  have e : (mkvCache x k).2 = k1 := by subst hk1; rfl
  rw [e]; omega
theorem mkvCache_lt (x : Cache) (k : Int) (h : k < 9223372036854775808) : (mkvCache x k).2 < 9223372036854775808 := mkL_lt mkEntry_lt (h)
theorem mkLame_ok : CntOk mkLame Lame.wt := fun x k h0 h1 => by
  simp only [Lame.wt] at h1
  have e1 := nx_eq (k := k) (by omega) (by omega)
  generalize hk1 : nx k = k1 at *
  have e2 := nx_eq (k := k1) (by omega) (by omega)
  generalize hk2 : nx k1 = k2 at *
  have e3 := nx_eq (k := k2) (by omega) (by omega)
  generalize hk3 : nx k2 = k3 at *
  have e : (mkLame x k).2 = k3 := by subst hk1 hk2 hk3; rfl
  rw [e]; simp only [Lame.wt]; omega
theorem mkvLame_ok (x : Lame) (k : Int) (h0 : 0 ≤ k) (h1 : k + 16 * (x.wt : Int) < 4611686018427387904) : k ≤ (mkvLame x k).2 ∧ (mkvLame x k).2 ≤ k + 16 * (x.wt : Int) := by
  simp only [Lame.wt] at h1 ⊢
  have e : (mkvLame x k).2 = k := by rfl
  rw [e]; omega
theorem mkvLame_lt (x : Lame) (k : Int) (h : k < 9223372036854775808) : (mkvLame x k).2 < 9223372036854775808 := h
theorem mkExch_ok : CntOk mkExch Exch.wt := fun x k h0 h1 => by
  simp only [Exch.wt] at h1
  have e1 := nx_eq (k := k) (by omega) (by omega)
  generalize hk1 : nx k = k1 at *
  have e2 := nx_eq (k := k1) (by omega) (by omega)
  generalize hk2 : nx k1 = k2 at *
  have e3 := nx_eq (k := k2) (by omega) (by omega)
  generalize hk3 : nx k2 = k3 at *
  have e4 := nx_eq (k := k3) (by omega) (by omega)
  generalize hk4 : nx k3 = k4 at *
  have e : (mkExch x k).2 = k4 := by subst hk1 hk2 hk3 hk4; rfl
  rw [e]; simp only [Exch.wt]; omega
theorem mkvExch_ok (x : Exch) (k : Int) (h0 : 0 ≤ k) (h1 : k + 16 * (x.wt : Int) < 4611686018427387904) : k ≤ (mkvExch x k).2 ∧ (mkvExch x k).2 ≤ k + 16 * (x.wt : Int) := by
  simp only [Exch.wt] at h1 ⊢
  have e : (mkvExch x k).2 = k := by rfl
  rw [e]; omega
theorem mkvExch_lt (x : Exch) (k : Int) (h : k < 9223372036854775808) : (mkvExch x k).2 < 9223372036854775808 := h
theorem mkFrame_ok : CntOk mkFrame Frame.wt := fun x k h0 h1 => by
  simp only [Frame.wt, Quest.wt, Exch.wt] at h1
  have e1 := nx_eq (k := k) (by omega) (by omega)
  generalize hk1 : nx k = k1 at *
  have e2 := nx_eq (k := k1) (by omega) (by omega)
  generalize hk2 : nx k1 = k2 at *
  have e3 := nx_eq (k := k2) (by omega) (by omega)
  generalize hk3 : nx k2 = k3 at *
  have e4 := nx_eq (k := k3) (by omega) (by omega)
  generalize hk4 : nx k3 = k4 at *
  have e5 := mkL_ge mkRecord_ok (xs := x.Links) (k := k4) (by omega) (by omega)
  generalize hk5 : (mkL mkRecord x.Links k4).2 = k5 at *
  have e6 := nx_eq (k := k5) (by omega) (by omega)
  generalize hk6 : nx k5 = k6 at *
  have e7 := mkL_ge mkI_ok (xs := x.Servers) (k := k6) (by omega) (by omega)
  generalize hk7 : (mkL mkI x.Servers k6).2 = k7 at *
  have e8 := mkL_ge mkS_ok (xs := x.Need) (k := k7) (by omega) (by omega)
  generalize hk8 : (mkL mkS x.Need k7).2 = k8 at *
  have e9 := nx_eq (k := k8) (by omega) (by omega)
  generalize hk9 : nx k8 = k9 at *
  have e10 := nx_eq (k := k9) (by omega) (by omega)
  generalize hk10 : nx k9 = k10 at *
  have e11 := nx_eq (k := k10) (by omega) (by omega)
  generalize hk11 : nx k10 = k11 at *
  have e12 := nx_eq (k := k11) (by omega) (by omega)
  generalize hk12 : nx k11 = k12 at *
  have e13 := nx_eq (k := k12) (by omega) (by omega)
  generalize hk13 : nx k12 = k13 at *
  have e14 := nx_eq (k := k13) (by omega) (by omega)
  generalize hk14 : nx k13 = k14 at *
  have e15 := nx_eq (k := k14) (by omega) (by omega)
  generalize hk15 : nx k14 = k15 at *
  have e : (mkFrame x k).2 = k15 := by subst hk1 hk2 hk3 hk4 hk5 hk6 hk7 hk8 hk9 hk10 hk11 hk12 hk13 hk14 hk15; rfl
  rw [e]; simp only [Frame.wt, Quest.wt, Exch.wt]; omega
theorem mkvFrame_ok (x : Frame) (k : Int) (h0 : 0 ≤ k) (h1 : k + 16 * (x.wt : Int) < 4611686018427387904) : k ≤ (mkvFrame x k).2 ∧ (mkvFrame x k).2 ≤ k + 16 * (x.wt : Int) := by
  simp only [Frame.wt, Quest.wt, Exch.wt] at h1 ⊢
  have e1 := mkL_ge mkRecord_ok (xs := x.Links) (k := k) (by omega) (by omega)
  generalize hk1 : (mkL mkRecord x.Links k).2 = k1 at *
  have e2 := mkL_ge mkI_ok (xs := x.Servers) (k := k1) (by omega) (by omega)
  generalize hk2 : (mkL mkI x.Servers k1).2 = k2 at *
  have e3 := mkL_ge mkS_ok (xs := x.Need) (k := k2) (by omega) (by omega)
  generalize hk3 : (mkL mkS x.Need k2).2 = k3 at *
  have e : (mkvFrame x k).2 = k3 := by subst hk1 hk2 hk3; rfl
  rw [e]; omega
theorem mkvFrame_lt (x : Frame) (k : Int) (h : k < 9223372036854775808) : (mkvFrame x k).2 < 9223372036854775808 := mkL_lt mkS_lt (mkL_lt mkI_lt (mkL_lt mkRecord_lt (h)))
theorem mkJob_ok : CntOk mkJob Job.wt := fun x k h0 h1 => by
  simp only [Job.wt, Quest.wt] at h1
  have e1 := nx_eq (k := k) (by omega) (by omega)
  generalize hk1 : nx k = k1 at *
  have e2 := nx_eq (k := k1) (by omega) (by omega)
  generalize hk2 : nx k1 = k2 at *
  have e3 := nx_eq (k := k2) (by omega) (by omega)
  generalize hk3 : nx k2 = k3 at *
  have e4 := nx_eq (k := k3) (by omega) (by omega)
  generalize hk4 : nx k3 = k4 at *
  have e5 := nx_eq (k := k4) (by omega) (by omega)
  generalize hk5 : nx k4 = k5 at *
  have e6 := nx_eq (k := k5) (by omega) (by omega)
  generalize hk6 : nx k5 = k6 at *
  have e7 := mkL_ge mkFrame_ok (xs := x.Stack) (k := k6) (by omega) (by omega)
  generalize hk7 : (mkL mkFrame x.Stack k6).2 = k7 at *
  have e : (mkJob x k).2 = k7 := by subst hk1 hk2 hk3 hk4 hk5 hk6 hk7; rfl
  rw [e]; simp only [Job.wt, Quest.wt]; omega
theorem mkvJob_ok (x : Job) (k : Int) (h0 : 0 ≤ k) (h1 : k + 16 * (x.wt : Int) < 4611686018427387904) : k ≤ (mkvJob x k).2 ∧ (mkvJob x k).2 ≤ k + 16 * (x.wt : Int) := by
  simp only [Job.wt, Quest.wt] at h1 ⊢
  have e1 := mkL_ge mkFrame_ok (xs := x.Stack) (k := k) (by omega) (by omega)
  generalize hk1 : (mkL mkFrame x.Stack k).2 = k1 at *
  have e : (mkvJob x k).2 = k1 := by subst hk1; rfl
  rw [e]; omega
theorem mkvJob_lt (x : Job) (k : Int) (h : k < 9223372036854775808) : (mkvJob x k).2 < 9223372036854775808 := mkL_lt mkFrame_lt (h)
theorem mkPacket_ok : CntOk mkPacket Packet.wt := fun x k h0 h1 => by
  simp only [Packet.wt] at h1
  have e1 := nx_eq (k := k) (by omega) (by omega)
  generalize hk1 : nx k = k1 at *
  have e2 := mkL_ge mkY_ok (xs := x.B) (k := k1) (by omega) (by omega)
  generalize hk2 : (mkL mkY x.B k1).2 = k2 at *
  have e : (mkPacket x k).2 = k2 := by subst hk1 hk2; rfl
  rw [e]; simp only [Packet.wt]; omega
theorem mkvPacket_ok (x : Packet) (k : Int) (h0 : 0 ≤ k) (h1 : k + 16 * (x.wt : Int) < 4611686018427387904) : k ≤ (mkvPacket x k).2 ∧ (mkvPacket x k).2 ≤ k + 16 * (x.wt : Int) := by
  simp only [Packet.wt] at h1 ⊢
  have e1 := mkL_ge mkY_ok (xs := x.B) (k := k) (by omega) (by omega)
  generalize hk1 : (mkL mkY x.B k).2 = k1 at *
  have e : (mkvPacket x k).2 = k1 := by subst hk1; rfl
  rw [e]; omega
theorem mkvPacket_lt (x : Packet) (k : Int) (h : k < 9223372036854775808) : (mkvPacket x k).2 < 9223372036854775808 := mkL_lt mkY_lt (h)
theorem mkAnswer_ok : CntOk mkAnswer Answer.wt := fun x k h0 h1 => by
  simp only [Answer.wt, Quest.wt] at h1
  have e1 := nx_eq (k := k) (by omega) (by omega)
  generalize hk1 : nx k = k1 at *
  have e2 := nx_eq (k := k1) (by omega) (by omega)
  generalize hk2 : nx k1 = k2 at *
  have e3 := nx_eq (k := k2) (by omega) (by omega)
  generalize hk3 : nx k2 = k3 at *
  have e4 := nx_eq (k := k3) (by omega) (by omega)
  generalize hk4 : nx k3 = k4 at *
  have e5 := nx_eq (k := k4) (by omega) (by omega)
  generalize hk5 : nx k4 = k5 at *
  have e6 := mkL_ge mkRecord_ok (xs := x.Links) (k := k5) (by omega) (by omega)
  generalize hk6 : (mkL mkRecord x.Links k5).2 = k6 at *
  have e7 := mkL_ge mkRecord_ok (xs := x.L) (k := k6) (by omega) (by omega)
  generalize hk7 : (mkL mkRecord x.L k6).2 = k7 at *
  have e8 := nx_eq (k := k7) (by omega) (by omega)
  generalize hk8 : nx k7 = k8 at *
  have e : (mkAnswer x k).2 = k8 := by subst hk1 hk2 hk3 hk4 hk5 hk6 hk7 hk8; rfl
  rw [e]; simp only [Answer.wt, Quest.wt]; omega
theorem mkvAnswer_ok (x : Answer) (k : Int) (h0 : 0 ≤ k) (h1 : k + 16 * (x.wt : Int) < 4611686018427387904) : k ≤ (mkvAnswer x k).2 ∧ (mkvAnswer x k).2 ≤ k + 16 * (x.wt : Int) := by
  simp only [Answer.wt, Quest.wt] at h1 ⊢
  have e1 := mkL_ge mkRecord_ok (xs := x.Links) (k := k) (by omega) (by omega)
  generalize hk1 : (mkL mkRecord x.Links k).2 = k1 at *
  have e2 := mkL_ge mkRecord_ok (xs := x.L) (k := k1) (by omega) (by omega)
  generalize hk2 : (mkL mkRecord x.L k1).2 = k2 at *
  have e : (mkvAnswer x k).2 = k2 := by subst hk1 hk2; rfl
  rw [e]; omega
theorem mkvAnswer_lt (x : Answer) (k : Int) (h : k < 9223372036854775808) : (mkvAnswer x k).2 < 9223372036854775808 := mkL_lt mkRecord_lt (mkL_lt mkRecord_lt (h))
theorem mkWorld_ok : CntOk mkWorld World.wt := fun x k h0 h1 => by
  simp only [World.wt, Conf.wt, Cache.wt] at h1
  have e1 := nx_eq (k := k) (by omega) (by omega)
  generalize hk1 : nx k = k1 at *
  have e2 := nx_eq (k := k1) (by omega) (by omega)
  generalize hk2 : nx k1 = k2 at *
  have e3 := nx_eq (k := k2) (by omega) (by omega)
  generalize hk3 : nx k2 = k3 at *
  have e4 := nx_eq (k := k3) (by omega) (by omega)
  generalize hk4 : nx k3 = k4 at *
  have e5 := nx_eq (k := k4) (by omega) (by omega)
  generalize hk5 : nx k4 = k5 at *
  have e6 := nx_eq (k := k5) (by omega) (by omega)
  generalize hk6 : nx k5 = k6 at *
  have e7 := nx_eq (k := k6) (by omega) (by omega)
  generalize hk7 : nx k6 = k7 at *
  have e8 := mkL_ge mkI_ok (xs := x.C.Roots) (k := k7) (by omega) (by omega)
  generalize hk8 : (mkL mkI x.C.Roots k7).2 = k8 at *
  have e9 := nx_eq (k := k8) (by omega) (by omega)
  generalize hk9 : nx k8 = k9 at *
  have e10 := nx_eq (k := k9) (by omega) (by omega)
  generalize hk10 : nx k9 = k10 at *
  have e11 := mkL_ge mkEntry_ok (xs := x.K.L) (k := k10) (by omega) (by omega)
  generalize hk11 : (mkL mkEntry x.K.L k10).2 = k11 at *
  have e12 := mkL_ge mkLame_ok (xs := x.Bad) (k := k11) (by omega) (by omega)
  generalize hk12 : (mkL mkLame x.Bad k11).2 = k12 at *
  have e13 := mkL_ge mkJob_ok (xs := x.Jobs) (k := k12) (by omega) (by omega)
  generalize hk13 : (mkL mkJob x.Jobs k12).2 = k13 at *
  have e14 := mkL_ge mkPacket_ok (xs := x.Outs) (k := k13) (by omega) (by omega)
  generalize hk14 : (mkL mkPacket x.Outs k13).2 = k14 at *
  have e15 := mkL_ge mkAnswer_ok (xs := x.Reps) (k := k14) (by omega) (by omega)
  generalize hk15 : (mkL mkAnswer x.Reps k14).2 = k15 at *
  have e16 := nx_eq (k := k15) (by omega) (by omega)
  generalize hk16 : nx k15 = k16 at *
  have e : (mkWorld x k).2 = k16 := by subst hk1 hk2 hk3 hk4 hk5 hk6 hk7 hk8 hk9 hk10 hk11 hk12 hk13 hk14 hk15 hk16; rfl
  rw [e]; simp only [World.wt, Conf.wt, Cache.wt]; omega
theorem mkvWorld_ok (x : World) (k : Int) (h0 : 0 ≤ k) (h1 : k + 16 * (x.wt : Int) < 4611686018427387904) : k ≤ (mkvWorld x k).2 ∧ (mkvWorld x k).2 ≤ k + 16 * (x.wt : Int) := by
  simp only [World.wt, Conf.wt, Cache.wt] at h1 ⊢
  have e1 := mkL_ge mkI_ok (xs := x.C.Roots) (k := k) (by omega) (by omega)
  generalize hk1 : (mkL mkI x.C.Roots k).2 = k1 at *
  have e2 := mkL_ge mkEntry_ok (xs := x.K.L) (k := k1) (by omega) (by omega)
  generalize hk2 : (mkL mkEntry x.K.L k1).2 = k2 at *
  have e3 := mkL_ge mkLame_ok (xs := x.Bad) (k := k2) (by omega) (by omega)
  generalize hk3 : (mkL mkLame x.Bad k2).2 = k3 at *
  have e4 := mkL_ge mkJob_ok (xs := x.Jobs) (k := k3) (by omega) (by omega)
  generalize hk4 : (mkL mkJob x.Jobs k3).2 = k4 at *
  have e5 := mkL_ge mkPacket_ok (xs := x.Outs) (k := k4) (by omega) (by omega)
  generalize hk5 : (mkL mkPacket x.Outs k4).2 = k5 at *
  have e6 := mkL_ge mkAnswer_ok (xs := x.Reps) (k := k5) (by omega) (by omega)
  generalize hk6 : (mkL mkAnswer x.Reps k5).2 = k6 at *
  have e : (mkvWorld x k).2 = k6 := by subst hk1 hk2 hk3 hk4 hk5 hk6; rfl
  rw [e]; omega
theorem mkvWorld_lt (x : World) (k : Int) (h : k < 9223372036854775808) : (mkvWorld x k).2 < 9223372036854775808 := mkL_lt mkAnswer_lt (mkL_lt mkPacket_lt (mkL_lt mkJob_lt (mkL_lt mkLame_lt (mkL_lt mkEntry_lt (mkL_lt mkI_lt (h))))))
theorem Conf.wt_le (a : Conf) (h : a.Fit) : a.wt ≤ 4194304 := by
  simp only [Conf.wt]
  have := wtL_le2 (wt := wtU) (C := 0) (D := 4194304) h.Roots.1 (fun x hx => Nat.le_refl _) rfl
  omega
theorem Quest.wt_le (a : Quest) (h : a.Fit) : a.wt ≤ 0 := by
  simp only [Quest.wt]
  omega
theorem Record.wt_le (a : Record) (h : a.Fit) : a.wt ≤ 0 := by
  simp only [Record.wt]
  omega
theorem Entry.wt_le (a : Entry) (h : a.Fit) : a.wt ≤ 4194304 := by
  simp only [Entry.wt]
  have := a.Q.wt_le h.Q
  have := wtL_le2 (wt := Record.wt) (C := 0) (D := 4194304) h.L.1 (fun x hx => x.wt_le (h.L.2 x hx)) rfl
  omega
theorem Cache.wt_le (a : Cache) (h : a.Fit) : a.wt ≤ 17592190238720 := by
  simp only [Cache.wt]
  have := wtL_le2 (wt := Entry.wt) (C := 4194304) (D := 17592190238720) h.L.1 (fun x hx => x.wt_le (h.L.2 x hx)) rfl
  omega
theorem Lame.wt_le (a : Lame) (h : a.Fit) : a.wt ≤ 0 := by
  simp only [Lame.wt]
  omega
theorem Exch.wt_le (a : Exch) (h : a.Fit) : a.wt ≤ 0 := by
  simp only [Exch.wt]
  omega
theorem Frame.wt_le (a : Frame) (h : a.Fit) : a.wt ≤ 12582912 := by
  simp only [Frame.wt]
  have := a.Ask.wt_le h.Ask
  have := a.Q.wt_le h.Q
  have := wtL_le2 (wt := Record.wt) (C := 0) (D := 4194304) h.Links.1 (fun x hx => x.wt_le (h.Links.2 x hx)) rfl
  have := wtL_le2 (wt := wtU) (C := 0) (D := 4194304) h.Servers.1 (fun x hx => Nat.le_refl _) rfl
  have := wtL_le2 (wt := wtU) (C := 0) (D := 4194304) h.Need.1 (fun x hx => Nat.le_refl _) rfl
  have := a.X.wt_le h.X
  omega
theorem Job.wt_le (a : Job) (h : a.Fit) : a.wt ≤ 52776562327552 := by
  simp only [Job.wt]
  have := a.Ask.wt_le h.Ask
  have := wtL_le2 (wt := Frame.wt) (C := 12582912) (D := 52776562327552) h.Stack.1 (fun x hx => x.wt_le (h.Stack.2 x hx)) rfl
  omega
theorem Packet.wt_le (a : Packet) (h : a.Fit) : a.wt ≤ 4194304 := by
  simp only [Packet.wt]
  have := wtL_le2 (wt := wtU) (C := 0) (D := 4194304) h.B.1 (fun x hx => Nat.le_refl _) rfl
  omega
theorem Answer.wt_le (a : Answer) (h : a.Fit) : a.wt ≤ 8388608 := by
  simp only [Answer.wt]
  have := a.Q.wt_le h.Q
  have := wtL_le2 (wt := Record.wt) (C := 0) (D := 4194304) h.Links.1 (fun x hx => x.wt_le (h.Links.2 x hx)) rfl
  have := wtL_le2 (wt := Record.wt) (C := 0) (D := 4194304) h.L.1 (fun x hx => x.wt_le (h.L.2 x hx)) rfl
  omega
theorem World.wt_le (a : World) (h : a.Fit) : a.wt ≤ 221361016845470007296 := by
  simp only [World.wt]
  have := a.C.wt_le h.C
  have := a.K.wt_le h.K
  have := wtL_le2 (wt := Lame.wt) (C := 0) (D := 4194304) h.Bad.1 (fun x hx => x.wt_le (h.Bad.2 x hx)) rfl
  have := wtL_le2 (wt := Job.wt) (C := 52776562327552) (D := 221360946476704858112) h.Jobs.1 (fun x hx => x.wt_le (h.Jobs.2 x hx)) rfl
  have := wtL_le2 (wt := Packet.wt) (C := 4194304) (D := 17592190238720) h.Outs.1 (fun x hx => x.wt_le (h.Outs.2 x hx)) rfl
  have := wtL_le2 (wt := Answer.wt) (C := 8388608) (D := 35184376283136) h.Reps.1 (fun x hx => x.wt_le (h.Reps.2 x hx)) rfl
  omega
end Go.Proofs.Ytglilpigoocgeaa.V
