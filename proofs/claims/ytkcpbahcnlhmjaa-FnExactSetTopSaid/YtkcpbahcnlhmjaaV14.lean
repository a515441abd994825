/-
  A call, by the callee's contract: what is handed over, what comes back ('does_call').
-/
import Derived.Test.YtkcpbahcnlhmjaaV13
namespace Go.Proofs.Ytkcpbahcnlhmjaa.V
open Go
set_option linter.unusedVariables false
set_option linter.unusedSimpArgs false

/-! ### read by the callee -/
inductive RdL (h : Heap) : List VC → List Dat → List Nat → Prop
  | nil : RdL h [] [] []
  | d {x : Dat} {cs : List VC} {ds : List Dat} {R : List Nat} (t : RdL h cs ds R) : RdL h (.d x :: cs) (x :: ds) R
  | nl {n : Nat} {cs : List VC} {ds : List Dat} {R : List Nat} (t : RdL h cs ds R) : RdL h (.nl n :: cs) (.sl n [] :: ds) R
  | sr {k g off len room n ver : Nat} {es u : List (List Dat)} {dp : Bool} {cs : List VC} {ds : List Dat} {R : List Nat} (hk : h k = .row n es dp g ver) (hl : off + len ≤ es.length) (hu : (es.drop off).take len = u)
      (t : RdL h cs ds R) : RdL h (.sr k g off len room :: cs) (.sl n u :: ds) (k :: R)
  | nr {k ver i j n g m : Nat} {es us : List (List Dat)} {e : List Dat} {cs : List VC} {ds : List Dat} {R : List Nat} (hk : h k = .row n es true g ver) (he : es[i]? = some e) (hj : e[j]? = some (.sl m us))
      (t : RdL h cs ds R) : RdL h (.nr k ver i j :: cs) (.sl m us :: ds) (k :: R)
  | vp {k : Nat} {xs cs : List VC} {dx ds : List Dat} {R' R : List Nat} (hk : h k = .var xs) (hr : RdL h xs dx R') (t : RdL h cs ds R) : RdL h (.vp k 0 :: cs) (.pt dx :: ds) (k :: (R' ++ R))
  | cl {f : FuncId} {caps : List Nat} {cs : List VC} {dc ds : List Dat} {R' R : List Nat} (hr : RdL h (caps.map (.vp · 0)) dc R') (t : RdL h cs ds R) : RdL h (.cl f caps :: cs) (.cl f dc :: ds) (R' ++ R)

section
variable {w0 : World} {M0 : Nat → Prop} {A0 : Cx} {h : Heap} {w : World} {locs : Locs} {RO : Nat → Prop}

theorem RdL.sound (hg : Good w0 M0 A0 h w locs RO) {cs : List VC} {ds : List Dat} {R : List Nat} (hr : RdL h cs ds R) : ∀ {vs : List Value}, All2 (VRel locs h w RO) cs vs →
    ∃ F, Reps false w ds vs F ∧ ∀ b ∈ F, RO b ∨ ∃ k ∈ R, b ∈ (locs k).foot := by
  induction hr with
  | nil => intro vs hv; cases hv; exact ⟨[], .nil, by simp⟩
  | d t ih =>
    intro vs hv
    cases hv with
    | cons h1 h2 =>
      obtain ⟨F, q1, q2⟩ := ih h2
      obtain ⟨F1, q3, q4⟩ := h1
      refine ⟨F1 ++ F, q3.append q1, fun b hb => ?_⟩
      rcases List.mem_append.1 hb with hb | hb
      · exact .inl (q4 b hb)
      · exact q2 b hb
  | nl t ih =>
    intro vs hv
    cases hv with
    | cons h1 h2 =>
      obtain ⟨F, q1, q2⟩ := ih h2
      cases h1
      exact ⟨F, .nl q1, q2⟩
  | sr hk hl hu t ih =>
    rename_i k g off len room n ver es u dp cs ds R
    intro vs hv
    cases hv with
    | cons h1 h2 =>
      obtain ⟨F, q1, q2⟩ := ih h2
      obtain ⟨n', es', dp', g0, ver', hc, hle, hone, hp⟩ := h1
      rw [hk] at hc
      injection hc with a1 a2 a3 a4 a5
      subst a1
      have hob := hg.obj k
      rw [hk] at hob
      obtain ⟨F1, q3, q4, q5⟩ := view_reps hob (hg.nodup k) (hp a4) hl
      rw [hu] at q3
      refine ⟨F1 ++ F, q3.ro.append q1, fun b hb => ?_⟩
      rcases List.mem_append.1 hb with hb | hb
      · cases dp with
        | true => exact .inr ⟨k, by simp, (q4 rfl).2 b hb⟩
        | false =>
          rcases q5 rfl b hb with h1 | h1
          · exact .inr ⟨k, by simp, h1⟩
          · exact .inl h1
      · rcases q2 b hb with h1 | ⟨k', h1, h3⟩
        · exact .inl h1
        · exact .inr ⟨k', by simp [h1], h3⟩
  | nr hk he hj t ih =>
    rename_i k ver i j n g m es us e cs ds R
    intro vs hv
    cases hv with
    | cons h1 h2 =>
      rename_i v vs
      obtain ⟨F, q1, q2⟩ := ih h2
      obtain ⟨n', es', dp', g0, ver', hc, hle, hone, hp⟩ := h1
      rw [hk] at hc
      injection hc with a1 a2 a3 a4 a5
      obtain ⟨_, hcell⟩ := hp a3.symm a5
      rw [← a1] at hcell
      have hob := hg.obj k
      rw [hk] at hob
      obtain ⟨hn, hx | ⟨_, arr, aty, G, hb, ha, hbs, hrr, k1, _⟩⟩ := hob
      · rw [hx.2.1] at he; simp at he
      · have hi : i < es.length := (List.getElem?_eq_some_iff.1 he).1
        have hel : e.length = n := hn e (List.mem_of_getElem? he)
        have hjl : j < n := by rw [← hel]; exact (List.getElem?_eq_some_iff.1 hj).1
        obtain ⟨u, G1, hu, hr1, hG1⟩ := hrr.one (i := i * n + j) (d := .sl m us) (by rw [flat_get hn he hjl]; exact hj)
        rw [seg_get (idx_lt hi hjl), ← Nat.add_assoc] at hu
        rw [cell_block hb, hu] at hcell
        injection hcell with e3
        subst e3
        refine ⟨G1 ++ F, hr1.ro.append q1, fun b hbb => ?_⟩
        rcases List.mem_append.1 hbb with hbb | hbb
        · exact .inr ⟨k, by simp, by rw [k1 rfl]; simp [hG1 b hbb]⟩
        · rcases q2 b hbb with h1 | ⟨k', h1, h3⟩
          · exact .inl h1
          · exact .inr ⟨k', by simp [h1], h3⟩
  | vp hk hr t ih1 ih =>
    rename_i k xs cs dx ds R' R
    intro vs hv
    cases hv with
    | cons h1 h2 =>
      obtain ⟨F, q1, q2⟩ := ih h2
      obtain ⟨_, e⟩ := h1
      subst e
      have hob := hg.obj k
      rw [hk] at hob
      obtain ⟨hft, arr, aty, hb, hsa⟩ := hob
      have hall := hg.cells k xs hk arr aty _ hb
      obtain ⟨F1, q3, q4⟩ := ih1 hall
      have hl : dx.length = arr.size := by have := q3.length; simpa using this.symm
      refine ⟨(locs k).b :: (F1 ++ F), .pt hb (by omega) (by simp) ?_ q1, fun b hbb => ?_⟩
      · rw [hl, seg_all]; exact q3
      · rcases List.mem_cons.1 hbb with rfl | hbb
        · exact .inr ⟨k, by simp, by rw [hft]; simp⟩
        · rcases List.mem_append.1 hbb with hbb | hbb
          · rcases q4 b hbb with h1 | ⟨k', h1, h3⟩
            · exact .inl h1
            · exact .inr ⟨k', by simp [h1], h3⟩
          · rcases q2 b hbb with h1 | ⟨k', h1, h3⟩
            · exact .inl h1
            · exact .inr ⟨k', by simp [h1], h3⟩
  | cl hr t ih1 ih =>
    rename_i f caps cs dc ds R' R
    intro vs hv
    cases hv with
    | cons h1 h2 =>
      obtain ⟨F, q1, q2⟩ := ih h2
      obtain ⟨us, e, hall⟩ := h1
      subst e
      obtain ⟨F1, q3, q4⟩ := ih1 (vs := us.toList) (hall.map_left fun a b hab => hab)
      refine ⟨F1 ++ F, .cl q3 q1, fun b hbb => ?_⟩
      rcases List.mem_append.1 hbb with hbb | hbb
      · rcases q4 b hbb with h1 | ⟨k', h1, h3⟩
        · exact .inl h1
        · exact .inr ⟨k', by simp [h1], h3⟩
      · rcases q2 b hbb with h1 | ⟨k', h1, h3⟩
        · exact .inl h1
        · exact .inr ⟨k', by simp [h1], h3⟩
end

/-! ### written by the callee -/
/-- What became of a written row. -/
structure EOk (h : Heap) (w : World) (locs : Locs) (w' : World) (RO : Nat → Prop) (k : Nat) (o : VO) (L : Loc) (Fk Mk : List Nat) : Prop where
  obj : ObjOk w' RO o L
  same : (locs k).same L
  row : ∃ n es g ver es' ver', h k = .row n es true g ver ∧ o = .row n es' true g ver' ∧ ver ≤ ver' ∧
    (ver' = ver → ∀ (i j : Nat) e m us v, es[i]? = some e → e[j]? = some (.sl m us) → w.cell? ⟨(locs k).b, (locs k).base + i * n + j, none⟩ = some v →
      (∃ e' m' us', es'[i]? = some e' ∧ e'[j]? = some (.sl m' us')) ∧ w'.cell? ⟨L.b, L.base + i * n + j, none⟩ = some v)
  nodup : L.foot.Nodup
  foot : ∀ b ∈ L.foot, b ∈ Fk ∨ (b ∈ (locs k).foot ∧ b ∉ Mk)
  mine : ∀ b ∈ Mk, b ∈ (locs k).foot

inductive EsOk (h : Heap) (w : World) (locs : Locs) (w' : World) (RO : Nat → Prop) : List (Nat × VO) → List Loc → List Nat → List Nat → Prop
  | nil : EsOk h w locs w' RO [] [] [] []
  | cons {k : Nat} {o : VO} {L : Loc} {Fk Mk F M : List Nat} {E : List (Nat × VO)} {Ls : List Loc} (h1 : EOk h w locs w' RO k o L Fk Mk) (t : EsOk h w locs w' RO E Ls F M) :
      EsOk h w locs w' RO ((k, o) :: E) (L :: Ls) (Fk ++ F) (Mk ++ M)

inductive MuC (h : Heap) : List VC → List Dat → List Dat → List (Nat × VO) → Prop
  | nil : MuC h [] [] [] []
  | lf {v : Value} {cs : List VC} {ds ds' : List Dat} {E : List (Nat × VO)} (t : MuC h cs ds ds' E) : MuC h (.d (.lf v) :: cs) (.lf v :: ds) (.lf v :: ds') E
  | nl {n : Nat} {cs : List VC} {ds ds' : List Dat} {E : List (Nat × VO)} (t : MuC h cs ds ds' E) : MuC h (.nl n :: cs) (.sl n [] :: ds) (.sl n [] :: ds') E
  | sr {k g len room n ver : Nat} {es es' : List (List Dat)} {cs : List VC} {ds ds' : List Dat} {E : List (Nat × VO)} (hk : h k = .row n es true g ver) (hlen : es.length = len) (hl : es'.length = len)
      (t : MuC h cs ds ds' E) : MuC h (.sr k g 0 len room :: cs) (.sl n es :: ds) (.sl n es' :: ds') ((k, .row n es' true g (ver + 1)) :: E)

def keys (E : List (Nat × VO)) : List Nat := E.map (·.1)

section
variable {w0 : World} {M0 : Nat → Prop} {A0 : Cx} {h : Heap} {w : World} {locs : Locs} {RO : Nat → Prop}

theorem MuC.sound (hg : Good w0 M0 A0 h w locs RO) {cs : List VC} {ds ds' : List Dat} {E : List (Nat × VO)} (hm : MuC h cs ds ds' E) : ∀ {vs : List Value}, All2 (VRel locs h w RO) cs vs → (keys E).Nodup →
    ∃ M, Reps true w ds vs M ∧ M.Nodup ∧ (∀ b ∈ M, ∃ k ∈ keys E, b ∈ (locs k).foot) ∧
      ∀ w' F, Reps true w' ds' vs F → F.Nodup → (∀ u ∈ vs, szOk w w' u) → ∃ Ls, EsOk h w locs w' RO E Ls F M := by
  induction hm with
  | nil => intro vs hv _; cases hv; exact ⟨[], .nil, List.nodup_nil, by simp, fun w' F hr _ _ => by cases hr; exact ⟨[], .nil⟩⟩
  | lf t ih =>
    intro vs hv hK
    cases hv with
    | cons h1 h2 =>
      obtain ⟨M, q1, q2, q3, q4⟩ := ih h2 hK
      obtain ⟨e, hs⟩ := vrel_lf_eq h1
      subst e
      refine ⟨M, .lf hs q1, q2, q3, fun w' F hr hn hz => ?_⟩
      cases hr with
      | lf _ r => exact q4 w' F r hn fun u hu => hz u (by simp [hu])
  | nl t ih =>
    intro vs hv hK
    cases hv with
    | cons h1 h2 =>
      obtain ⟨M, q1, q2, q3, q4⟩ := ih h2 hK
      cases h1
      refine ⟨M, .nl q1, q2, q3, fun w' F hr hn hz => ?_⟩
      cases hr with
      | nl r => exact q4 w' F r hn fun u hu => hz u (by simp [hu])
  | sr hk hlen hl t ih =>
    rename_i k g len room n ver es es' cs ds ds' E
    intro vs hv hK
    cases hv with
    | cons h1 h2 =>
      rename_i v vs
      simp only [keys, List.map_cons, List.nodup_cons] at hK
      obtain ⟨M, q1, q2, q3, q4⟩ := ih h2 hK.2
      obtain ⟨n', es0, dp', g0, ver', hc, hle, hone, hp⟩ := h1
      rw [hk] at hc
      injection hc with a1 a2 a3 a4 a5
      subst a1
      have hs := hp a4
      have hob := hg.obj k
      rw [hk] at hob
      subst hlen
      obtain ⟨F1, r1, r2, _⟩ := view_reps hob (hg.nodup k) hs (by simp)
      obtain ⟨r3, r4⟩ := r2 rfl
      rw [List.drop_zero, List.take_length] at r1
      refine ⟨F1 ++ M, r1.append q1, List.nodup_append.2 ⟨r3, q2, fun b hb c hc e => ?_⟩, fun b hb => ?_, fun w' F hr hn hz => ?_⟩
      · subst e
        obtain ⟨k', hk', hb'⟩ := q3 b hc
        exact hg.disj k k' (fun e => hK.1 (e ▸ hk')) b (r4 b hb) hb'
      · rcases List.mem_append.1 hb with hb | hb
        · exact ⟨k, by simp [keys], r4 b hb⟩
        · obtain ⟨k', hk', hb'⟩ := q3 b hb
          exact ⟨k', by simp only [keys, List.map_cons, List.mem_cons]; exact .inr hk', hb'⟩
      · have hrow : ∀ (w' : World) (L : Loc), ∃ n0 es0 g0 ver0 es0' ver0', h k = .row n0 es0 true g0 ver0 ∧ (VO.row n es' true g (ver + 1)) = .row n0 es0' true g0 ver0' ∧ ver0 ≤ ver0' ∧
            (ver0' = ver0 → ∀ (i j : Nat) e m us v, es0[i]? = some e → e[j]? = some (.sl m us) → w.cell? ⟨(locs k).b, (locs k).base + i * n0 + j, none⟩ = some v →
              (∃ e' m' us', es0'[i]? = some e' ∧ e'[j]? = some (.sl m' us')) ∧ w'.cell? ⟨L.b, L.base + i * n0 + j, none⟩ = some v) :=
          fun w' L => ⟨n, es, g, ver, es', ver + 1, hk, rfl, Nat.le_succ _, fun e => by omega⟩
        have hz1 := hz v (by simp)
        rcases hs with ⟨b1, b2, b3, rfl⟩ | ⟨b1, cap, rfl, b2, b3, b4⟩
        · have e0 : es' = [] := List.eq_nil_of_length_eq_zero (by omega)
          have e1 : es = [] := List.eq_nil_of_length_eq_zero (by omega)
          subst e0; subst e1
          cases hr with
          | nl r =>
            obtain ⟨Ls, h3⟩ := q4 w' F r hn fun u hu => hz u (by simp [hu])
            have hF1 : F1 = [] := by cases r1 with | nl r => cases r; rfl
            subst hF1
            refine ⟨_, .cons (Fk := []) (Mk := []) (L := { locs k with foot := [] }) ⟨⟨by simp, .inl ⟨b1, rfl, rfl⟩⟩, ⟨rfl, rfl, rfl, rfl⟩, hrow _ _, List.nodup_nil, by simp, by simp⟩ h3⟩
        · have hb0 : bsz w (locs k).b = (locs k).tot := by
            obtain ⟨_, hx | ⟨_, arr, ty, G, hb, hsz, _⟩⟩ := hob
            · rw [b1] at hx; cases hx.1
            · simp [bsz, hb, hsz]
          have hz2 := hz1 _ _ _ rfl
          simp only at hz2
          rw [show es.length = es'.length from hl.symm] at hr
          cases hr with
          | sl hb hcc he hsz hw gg r =>
            rename_i F' G arr ty fr
            obtain ⟨e1, e2⟩ := hw rfl
            subst e1
            have hn' : (((locs k).b :: G) ++ F').Nodup := hn
            obtain ⟨hn1, hn2, _⟩ := List.nodup_append.1 hn'
            obtain ⟨Ls, h3⟩ := q4 w' F' r hn2 fun u hu => hz u (by simp [hu])
            have hbz : arr.size = (locs k).tot := by rw [← hb0, ← hz2]; simp [bsz, hb]
            refine ⟨_, .cons (Fk := (locs k).b :: G) (Mk := F1) (L := { locs k with foot := (locs k).b :: G }) ⟨⟨he, .inr ⟨b1, arr, ty, G, hb, hbz, by simp only at hsz ⊢; rw [Nat.zero_mul, Nat.add_zero] at hsz; omega, ?_, fun _ => rfl, by simp⟩⟩,
              ⟨rfl, rfl, rfl, rfl⟩, hrow _ _, hn1, fun b hb => .inl hb, r4⟩ h3⟩
            simp only [Nat.zero_mul, Nat.add_zero] at gg
            exact gg
          | em h _ => cases h
theorem EsOk.append {w' : World} {E E' : List (Nat × VO)} {Ls Ls' : List Loc} {F F' M M' : List Nat} (h1 : EsOk h w locs w' RO E Ls F M) (h2 : EsOk h w locs w' RO E' Ls' F' M') :
    EsOk h w locs w' RO (E ++ E') (Ls ++ Ls') (F ++ F') (M ++ M') := by
  induction h1 with
  | nil => exact h2
  | cons hh t ih => simp only [List.cons_append, List.append_assoc]; exact .cons hh ih

/-- A part of a row's element is written. -/
theorem el_sound (hg : Good w0 M0 A0 h w locs RO) {k n i j g ver : Nat} {es : List (List Dat)} {e ds ds' : List Dat} (hk : h k = .row n es true g ver) (he : es[i]? = some e) (hds : (e.drop j).take ds.length = ds)
    (hl : ds'.length = ds.length) (hsh : ∀ (q : Nat) m us, ds[q]? = some (.sl m us) → ∃ m' us', ds'[q]? = some (.sl m' us')) {vs : List Value} (hv : All2 (VRel locs h w RO) (rcells k ver true i j ds) vs)
    (hno : ∀ d ∈ ds, simple d = true) :
    ∃ M, Reps true w ds vs M ∧ M.Nodup ∧ (∀ b ∈ M, b ∈ (locs k).foot) ∧
      ∀ w' F, (∀ b, b ∈ (locs k).foot → b ∉ M → w'.heap[b]? = w.heap[b]?) → (∀ b ∈ F, b ∈ (locs k).foot → b ∈ M) → Reps true w' ds' vs F → F.Nodup → ∃ L, EOk h w locs w' RO k (.row n (es.set i (patch e j ds')) true g ver) L F M := by
  have hob := hg.obj k
  have hnd := hg.nodup k
  rw [hk] at hob
  obtain ⟨hn, hx | ⟨hnl, arr, aty, G, hb, hat, hbs, hrr, k1, _⟩⟩ := hob
  · rw [hx.2.1] at he; simp at he
  · have hi : i < es.length := (List.getElem?_eq_some_iff.1 he).1
    have hel : e.length = n := hn e (List.mem_of_getElem? he)
    have hft := k1 rfl
    rw [hft] at hnd
    obtain ⟨hbG, hGn⟩ := List.nodup_cons.1 hnd
    have hdl : ds.length ≤ n - j := by have := congrArg List.length hds; rw [List.length_take, List.length_drop, hel] at this; omega
    by_cases hd0 : ds.length = 0
    · have e0 : ds = [] := List.eq_nil_of_length_eq_zero hd0
      have e1 : ds' = [] := List.eq_nil_of_length_eq_zero (by omega)
      subst e0; subst e1
      cases hv
      refine ⟨[], .nil, List.nodup_nil, by simp, fun w' F hfr hF hr hFn => ?_⟩
      cases hr
      have hp : patch e j [] = e := by simp [patch]
      have hset : es.set i e = es := by
        apply List.ext_getElem?
        intro q
        rw [List.getElem?_set]
        split
        · rename_i hq; subst hq; exact he.symm
        · rfl
      rw [hp, hset]
      have hun : ∀ b ∈ (locs k).foot, w'.heap[b]? = w.heap[b]? := fun b hb => hfr b hb (by simp)
      refine ⟨locs k, ⟨hn, .inr ⟨hnl, arr, aty, G, by rw [hun _ (by rw [hft]; simp)]; exact hb, hat, hbs, hrr.frame fun b hb => hun b (by rw [hft]; simp [hb]), k1, by simp⟩⟩, ⟨rfl, rfl, rfl, rfl⟩,
        ⟨n, es, g, ver, es, ver, hk, rfl, Nat.le_refl _, fun _ i' j' e' m us v h1 h2 h3 => ⟨⟨e', m, us, h1, h2⟩, ?_⟩⟩, hg.nodup k, fun b hb => .inr ⟨hb, by simp⟩, by simp⟩
      rw [cell_same (hun _ (by rw [hft]; simp))]; exact h3
    have hjn : j + ds.length ≤ n := by omega
    have hin : i * n + j + ds.length ≤ es.length * n := by
      have : (i + 1) * n ≤ es.length * n := Nat.mul_le_mul_right n hi
      rw [Nat.succ_mul] at this; omega
    obtain ⟨F1, F2, F3, hG, hr1, hr2, hr3⟩ := hrr.part (k := i * n + j) (l := ds.length)
    -- the data of the part
    have hpart : (es.flatten.drop (i * n + j)).take ds.length = ds := by
      rw [flat_split (n := n) he]
      have hl1 : ((es.take i).flatten).length = i * n := by rw [flat_len (n := n) fun x hx => hn x (List.mem_of_mem_take hx), List.length_take, Nat.min_eq_left (by omega)]
      rw [← hl1, List.drop_append, List.drop_eq_nil_of_le (by omega : ((es.take i).flatten).length ≤ _), List.nil_append, Nat.add_sub_cancel_left, List.drop_append_of_le_length (by omega), List.take_append_of_le_length (by rw [List.length_drop]; omega)]
      exact hds
    rw [hpart, seg_seg (by omega)] at hr2
    -- the values of the part
    have hvs : vs = seg arr ((locs k).base + (i * n + j)) ds.length := by
      apply List.ext_getElem?
      intro q
      by_cases hq : q < ds.length
      · rw [seg_get hq]
        have hdq : ds[q]? = some ds[q] := List.getElem?_eq_getElem hq
        obtain ⟨v, hvq, hrel⟩ := hv.get (i := q) (a := rcell k ver true i (j + q) ds[q]) (by rw [rcells_get, hdq]; rfl)
        rw [hvq]
        have hflat : es.flatten[i * n + (j + q)]? = some ds[q] := by
          rw [flat_get hn he (by omega), ← hdq]
          conv => rhs; rw [← hds]
          rw [List.getElem?_take, if_pos hq, List.getElem?_drop]
        obtain ⟨u, G1, hu, hr4, _⟩ := hrr.one hflat
        rw [seg_get (idx_lt hi (by omega))] at hu
        have hidx : (locs k).base + (i * n + j) + q = (locs k).base + (i * n + (j + q)) := by omega
        rw [hidx, hu]
        have hsim := hno _ (List.getElem_mem hq)
        cases hdd : ds[q] with
        | lf x =>
          rw [hdd] at hrel hr4
          obtain ⟨e1, _⟩ := vrel_lf_eq (v := x) (u := v) hrel
          obtain ⟨e2, _, _⟩ := reps_one_lf hr4
          rw [e1, e2]
        | sl m us =>
          rw [hdd] at hrel
          obtain ⟨n', es', dp', g0, ver', hc, hle, hone, hp⟩ := hrel
          rw [hk] at hc
          injection hc with a1 a2 a3 a4 a5
          obtain ⟨_, hcell⟩ := hp a3.symm a5
          rw [cell_block hb, ← a1] at hcell
          rw [show (locs k).base + (i * n + (j + q)) = (locs k).base + i * n + (j + q) by omega] at hu
          rw [hu] at hcell
          exact hcell.symm
        | pt c => rw [hdd] at hsim; simp [simple] at hsim
        | cl f c => rw [hdd] at hsim; simp [simple] at hsim
        | hole => rw [hdd] at hsim; simp [simple] at hsim
      · rw [List.getElem?_eq_none, List.getElem?_eq_none]
        · rw [seg_length (by omega)]; omega
        · rw [hv.length, rcells_length]; omega
    rw [← hvs] at hr2
    rw [hG] at hGn hbG
    obtain ⟨g1, g23, g4⟩ := List.nodup_append.1 hGn
    obtain ⟨g2, g3, g5⟩ := List.nodup_append.1 g23
    refine ⟨F2, hr2, g2, fun b hb => by rw [hft, hG]; simp [hb], fun w' F hfr hF hr hFn => ?_⟩
    have hb2 : (locs k).b ∉ F2 := fun hh => hbG (by simp [hh])
    have hbu := hfr (locs k).b (by rw [hft]; simp) hb2
    have hnew : Reps true w' (es.set i (patch e j ds')).flatten (seg arr (locs k).base ((es.set i (patch e j ds')).length * n)) (F1 ++ (F ++ F3)) := by
      rw [set_flat (n := n) hn he (by rw [hl]; omega), List.length_set]
      have h1 : seg arr (locs k).base (es.length * n) = (seg arr (locs k).base (es.length * n)).take (i * n + j) ++ (vs ++ ((seg arr (locs k).base (es.length * n)).drop (i * n + j)).drop ds.length) := by
        rw [hvs, ← seg_seg (off := (locs k).base) (k := es.length * n) (a := i * n + j) (l := ds.length) (by omega), List.take_append_drop, List.take_append_drop]
      rw [h1]
      unfold patch
      rw [hl, ← List.drop_drop]
      refine (hr1.frame fun b hb => hfr b (by rw [hft, hG]; simp [hb]) fun h2 => g4 b hb b (by simp [h2]) rfl).append (hr.append (hr3.frame fun b hb => hfr b (by rw [hft, hG]; simp [hb]) fun h2 => g5 b h2 b hb rfl))
    have hFold : ∀ b ∈ F, ∀ c, c ∈ (locs k).foot → c ∉ F2 → b ≠ c := by
      intro b hb c hc hc2 e
      subst e
      exact hc2 (hF b hb hc)
    refine ⟨{ locs k with foot := (locs k).b :: (F1 ++ (F ++ F3)) }, ⟨set_len (n := n) hn he (by rw [hl]; omega), .inr ⟨hnl, arr, aty, _, by rw [hbu]; exact hb, hat, by rw [List.length_set]; exact hbs, hnew, fun _ => rfl, by simp⟩⟩, ⟨rfl, rfl, rfl, rfl⟩,
      ⟨n, es, g, ver, _, ver, hk, rfl, Nat.le_refl _, fun _ i' j' e' m us v h1 h2 h3 => ⟨?_, ?_⟩⟩, ?_, fun b hb => ?_, fun b hb => by rw [hft, hG]; simp [hb]⟩
    · by_cases hii : i' = i
      · subst hii
        rw [he] at h1
        injection h1 with h1; subst h1
        refine ⟨patch e j ds', ?_⟩
        by_cases hjj : j ≤ j' ∧ j' < j + ds.length
        · have hdq : ds[j' - j]? = some (.sl m us) := by
            rw [← hds, List.getElem?_take, if_pos (by omega), List.getElem?_drop, ← h2]; congr 1; omega
          obtain ⟨m', us', h4⟩ := hsh _ _ _ hdq
          refine ⟨m', us', by simp [List.getElem?_set, hi], ?_⟩
          unfold patch
          rw [List.getElem?_append_right (by rw [List.length_take]; omega), List.length_take, List.getElem?_append_left (by rw [hl]; omega), ← h4]; congr 1; omega
        · refine ⟨m, us, by simp [List.getElem?_set, hi], ?_⟩
          unfold patch
          by_cases hlt : j' < j
          · rw [List.getElem?_append_left (by rw [List.length_take]; omega), List.getElem?_take, if_pos hlt]; exact h2
          · rw [List.getElem?_append_right (by rw [List.length_take]; omega), List.length_take, List.getElem?_append_right (by rw [hl]; omega), List.getElem?_drop, ← h2]; congr 1; omega
      · exact ⟨e', m, us, by rw [List.getElem?_set, if_neg (fun hh => hii hh.symm)]; exact h1, h2⟩
    · rw [cell_same hbu]; exact h3
    · refine List.nodup_cons.2 ⟨fun hh => ?_, List.nodup_append.2 ⟨g1, List.nodup_append.2 ⟨hFn, g3, fun b hb c hc e => ?_⟩, fun b hb c hc e => ?_⟩⟩
      · rcases List.mem_append.1 hh with h1 | h1
        · exact hbG (by simp [h1])
        · rcases List.mem_append.1 h1 with h1 | h1
          · exact hFold _ h1 (locs k).b (by rw [hft]; simp) hb2 rfl
          · exact hbG (by simp [h1])
      · exact hFold b hb c (by rw [hft, hG]; simp [hc]) (fun h2 => g5 c h2 c hc rfl) e
      · subst e
        rcases List.mem_append.1 hc with h1 | h1
        · exact hFold b h1 b (by rw [hft, hG]; simp [hb]) (fun h2 => g4 b hb b (by simp [h2]) rfl) rfl
        · exact g4 b hb b (by simp [h1]) rfl
    · rcases List.mem_cons.1 hb with rfl | hb
      · exact .inr ⟨by rw [hft]; simp, hb2⟩
      · rcases List.mem_append.1 hb with h1 | h1
        · exact .inr ⟨by rw [hft, hG]; simp [h1], fun h2 => g4 b h1 b (by simp [h2]) rfl⟩
        · rcases List.mem_append.1 h1 with h1 | h1
          · exact .inl h1
          · exact .inr ⟨by rw [hft, hG]; simp [h1], fun h2 => g5 b h2 b h1 rfl⟩
end

end Go.Proofs.Ytkcpbahcnlhmjaa.V
