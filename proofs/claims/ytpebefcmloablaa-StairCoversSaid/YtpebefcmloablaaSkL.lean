/- Skylines of parts: the plain law; and the contracts of Of and Merge in a short form. -/
import Derived.Test.YtpebefcmloablaaRfM
import Derived.Test.YtpebefcmloablaaSlc
namespace Go.Proofs.Ytpebefcmloablaa
open Go.RowKit Go.Maps

theorem btn_append (A B : List Pt) (p : Pt) : btn (A ++ B) p = (btn A p || btn B p) := by unfold btn; rw [List.any_append]

theorem IsSky.self {l T : List Pt} (h : IsSky l T) : IsSky T T := ⟨h.1, fun p => ⟨fun hp => ⟨hp, by rw [btn_sky h]; exact ((h.2 p).1 hp).2⟩, fun hp => hp.1⟩⟩

theorem sky_sub {l : List Pt} (hu : unl l = true) {p : Pt} (h : p ∈ skyOf l) : p ∈ l := ((skyOf_is ((unl_iff l).1 hu)).2 p).1 h |>.1

theorem unl_sky {l : List Pt} (hu : unl l = true) : unl (skyOf l) = true := by
  rw [unl_iff] at *
  have h1 : (ids (srtX l)).Nodup := ((srtX_perm l).map _).nodup_iff.2 hu
  unfold skyOf sky
  exact h1.sublist (List.Sublist.map _ List.filter_sublist)

theorem rightF_sky {l : List Pt} (hu : unl l = true) : rightF (skyOf l) = true := by
  unfold rightF
  rw [(chainOK_sky _).2 (skyOf_is ((unl_iff l).1 hu)).self, unl_sky hu]
  rfl

theorem sky_idem {l : List Pt} (hu : unl l = true) : skyOf (skyOf l) = skyOf l :=
  (skyOf_is ((unl_iff _).1 (unl_sky hu))).unique (skyOf_is ((unl_iff l).1 hu)).self

theorem wfI_sky {l : List Pt} (hu : unl l = true) (h : wfI l) : wfI (skyOf l) := fun p hp => h p (sky_sub hu hp)

theorem unl_app {A B : List Pt} : unl (A ++ B) = true ↔ unl A = true ∧ unl B = true ∧ ∀ p ∈ A, ∀ q ∈ B, p.2.2 ≠ q.2.2 := by
  simp only [unl_iff, ids, List.map_append, List.nodup_append, List.mem_map]
  refine and_congr Iff.rfl (and_congr Iff.rfl ⟨fun h p hp q hq => h _ ⟨p, hp, rfl⟩ _ ⟨q, hq, rfl⟩, ?_⟩)
  rintro h _ ⟨p, hp, rfl⟩ _ ⟨q, hq, rfl⟩
  exact h p hp q hq

theorem unl_skies {A B : List Pt} (h : unl (A ++ B) = true) : unl (skyOf A ++ skyOf B) = true := by
  rw [unl_app] at *
  exact ⟨unl_sky h.1, unl_sky h.2.1, fun p hp q hq => h.2.2 p (sky_sub h.1 hp) q (sky_sub h.2.1 hq)⟩

theorem unl_swap {A B : List Pt} (h : unl (A ++ B) = true) : unl (B ++ A) = true := by
  rw [unl_app] at *
  exact ⟨h.2.1, h.1, fun p hp q hq => (h.2.2 q hq p hp).symm⟩

theorem sky_congr {l m : List Pt} (hl : unl l = true) (hm : unl m = true) (h : ∀ p, (p ∈ l ∧ btn l p = false) ↔ (p ∈ m ∧ btn m p = false)) : skyOf l = skyOf m := by
  have h1 := skyOf_is ((unl_iff _).1 hl)
  exact IsSky.unique (l := m) ⟨h1.1, fun p => (h1.2 p).trans (h p)⟩ (skyOf_is ((unl_iff _).1 hm))

theorem sky_join {A B : List Pt} (h : unl (A ++ B) = true) : skyOf (skyOf A ++ skyOf B) = skyOf (A ++ B) := by
  have ha := (unl_app.1 h).1
  have hb := (unl_app.1 h).2.1
  have hA := skyOf_is ((unl_iff _).1 ha)
  have hB := skyOf_is ((unl_iff _).1 hb)
  refine sky_congr (unl_skies h) h fun p => ?_
  rw [btn_append, btn_append, btn_sky hA, btn_sky hB, List.mem_append, List.mem_append, hA.2 p, hB.2 p, Bool.or_eq_false_iff]
  constructor
  · rintro ⟨h1 | h1, h2⟩
    · exact ⟨.inl h1.1, h2⟩
    · exact ⟨.inr h1.1, h2⟩
  · rintro ⟨h1 | h1, h2⟩
    · exact ⟨.inl ⟨h1, h2.1⟩, h2⟩
    · exact ⟨.inr ⟨h1, h2.2⟩, h2⟩

theorem sky_swap {A B : List Pt} (h : unl (A ++ B) = true) : skyOf (B ++ A) = skyOf (A ++ B) :=
  sky_congr (unl_swap h) h fun p => by
    rw [btn_append, btn_append, List.mem_append, List.mem_append, Bool.or_comm, Or.comm]

theorem sky_nil : skyOf [] = [] := by simp [skyOf, sky, srtX]

/-! The contracts. -/
/-- what Of and Merge answer: these points, in a slice that reads as them, no error -/
def OkS (S : List Pt) (W : World) (e : Ending) (w' : World) : Prop := ∃ a' c', e = .returned (.tuple #[.slice a' S.length c', .int .i64 0]) ∧ S.length ≤ c' ∧ Hid (RdK ePt 3 w' a' S) ∧ Below W.heap.size W w'
theorem ofC (X : List Pt) (hu : unl X = true) (hw : wfI X) (hl : X.length ≤ 100000) (a : Option Addr) (n c : Nat) (W : World) (hn : X.length = n) (h : RdK ePt 3 W a X) :
    Calls Try.prog 15 #[.slice a n c] W (OkS (skyOf X) W) :=
  (of_yes a X n c W hn h (by omega) hw hu).mono fun e w' => by
    rintro ⟨v, rfl, hown, hb⟩
    obtain ⟨a', c', rfl, -, hc, hr⟩ := RdK.of_owns ePt_len (by decide) hown
    exact ⟨a', c', rfl, hc, hr, hb⟩

theorem mergeC (A B : List Pt) (hA : rightF A = true) (hB : rightF B = true) (hu : unl (A ++ B) = true) (hwa : wfI A) (hwb : wfI B) (hl : A.length + B.length ≤ 100000) (a b : Option Addr) (na nb ca cb : Nat) (W : World) (hna : A.length = na) (hnb : B.length = nb) (hca : na ≤ ca) (hcb : nb ≤ cb) (ha : RdK ePt 3 W a A) (hb : RdK ePt 3 W b B) :
    Calls Try.prog 19 #[.slice a na ca, .slice b nb cb] W (OkS (skyOf (A ++ B)) W) :=
  (merge_yes a b A B na nb ca cb W hna hnb hca hcb ha hb (by omega) hwa hwb hA hB hu).mono fun e w' => by
    rintro ⟨v, rfl, hown, hb⟩
    obtain ⟨a', c', rfl, -, hc, hr⟩ := RdK.of_owns ePt_len (by decide) hown
    exact ⟨a', c', rfl, hc, hr, hb⟩

/-- the skylines of two parts of unlike points, merged -/
theorem mergeSky (A B : List Pt) (hu : unl (A ++ B) = true) (hw : wfI (A ++ B)) (hl : (A ++ B).length ≤ 100000) (a b : Option Addr) (na nb ca cb : Nat) (W : World) (hna : (skyOf A).length = na) (hnb : (skyOf B).length = nb) (hca : na ≤ ca) (hcb : nb ≤ cb) (ha : RdK ePt 3 W a (skyOf A)) (hb : RdK ePt 3 W b (skyOf B)) :
    Calls Try.prog 19 #[.slice a na ca, .slice b nb cb] W (OkS (skyOf (A ++ B)) W) := by
  have hA := (unl_app.1 hu).1
  have hB := (unl_app.1 hu).2.1
  have h1 := skyOf_len (l := A)
  have h2 := skyOf_len (l := B)
  have hw1 : wfI A := fun p hp => hw p (List.mem_append_left _ hp)
  have hw2 : wfI B := fun p hp => hw p (List.mem_append_right _ hp)
  rw [List.length_append] at hl
  have := mergeC (skyOf A) (skyOf B) (rightF_sky hA) (rightF_sky hB) (unl_skies hu) (wfI_sky hA hw1) (wfI_sky hB hw2) (by omega) a b na nb ca cb W hna hnb hca hcb ha hb
  rw [sky_join hu] at this
  exact this

/-- a list is itself -/
theorem sameC (S : List Pt) (hl : S.length ≤ 1000000) (x y : Option Addr) (cx cy : Nat) (W : World) (hx : RdK ePt 3 W x S) (hy : RdK ePt 3 W y S) :
    Calls Try.prog 17 #[.slice x S.length cx, .slice y S.length cy] W fun e w' => e = .returned (.bool true) ∧ Below W.heap.size W w' :=
  (ref_same x y S S S.length S.length cx cy W rfl rfl hx hy hl hl).mono fun e w' h => by
    rw [show decide (S = S) = true by simp] at h
    exact h

end Go.Proofs.Ytpebefcmloablaa
