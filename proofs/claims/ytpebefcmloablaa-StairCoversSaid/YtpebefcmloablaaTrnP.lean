/- A skyline turned: the plain law. No function of the program is walked here. -/
import Derived.Test.YtpebefcmloablaaSkL
import Derived.Test.YtpebefcmloablaaMapJ
namespace Go.Proofs.Ytpebefcmloablaa

def turnP (p : Pt) : Pt := (p.2.1, p.1, p.2.2)
theorem turnP_turnP (p : Pt) : turnP (turnP p) = p := rfl

theorem ovr_turn (p q : Pt) : ovr (turnP p) (turnP q) = ovr p q := by
  rw [Bool.eq_iff_iff, ovr_iff, ovr_iff]
  simp only [turnP]
  omega

theorem mem_turn {l : List Pt} {p : Pt} : turnP p ∈ l.map turnP ↔ p ∈ l := by
  rw [List.mem_map]
  exact ⟨fun ⟨q, hq, e⟩ => by have := congrArg turnP e; rw [turnP_turnP, turnP_turnP] at this; exact this ▸ hq, fun h => ⟨p, h, rfl⟩⟩

theorem btn_turn (l : List Pt) (p : Pt) : btn (l.map turnP) (turnP p) = btn l p := by
  rw [Bool.eq_iff_iff, btn_iff, btn_iff]
  constructor
  · rintro ⟨q, hq, h⟩
    obtain ⟨r, hr, rfl⟩ := List.mem_map.1 hq
    exact ⟨r, hr, by rw [ovr_turn] at h; exact h⟩
  · rintro ⟨q, hq, h⟩
    exact ⟨turnP q, mem_turn.2 hq, by rw [ovr_turn]; exact h⟩

theorem ids_turn (l : List Pt) : ids (l.map turnP) = ids l := by unfold ids; rw [List.map_map]; rfl
theorem unl_turn (l : List Pt) : unl (l.map turnP) = unl l := by unfold unl; rw [ids_turn]

theorem mem_sky_turn {l : List Pt} (hu : unl l = true) (p : Pt) : turnP p ∈ skyOf (l.map turnP) ↔ p ∈ skyOf l := by
  have h1 := skyOf_is ((unl_iff l).1 hu)
  have h2 := skyOf_is ((unl_iff (l.map turnP)).1 (by rw [unl_turn]; exact hu))
  rw [h1.2, h2.2, mem_turn, btn_turn]

theorem nodup_of_unl {l : List Pt} (h : unl l = true) : l.Nodup := by
  rw [unl_iff] at h
  unfold ids at h
  rw [List.nodup_iff_pairwise_ne] at *
  exact (List.pairwise_map.1 h).imp fun h e => h (by rw [e])

theorem sky_turn_perm {l : List Pt} (hu : unl l = true) : ((skyOf l).map turnP).Perm (skyOf (l.map turnP)) := by
  have hu2 : unl (l.map turnP) = true := by rw [unl_turn]; exact hu
  have hn : ((skyOf l).map turnP).Nodup := by
    have := nodup_of_unl (unl_sky hu)
    rw [List.nodup_iff_pairwise_ne] at *
    exact List.pairwise_map.2 (this.imp fun h e => h (by have := congrArg turnP e; rwa [turnP_turnP, turnP_turnP] at this))
  rw [List.perm_ext_iff_of_nodup hn (nodup_of_unl (unl_sky hu2))]
  intro q
  have hq : q = turnP (turnP q) := rfl
  rw [hq, mem_turn, mem_sky_turn hu]

theorem sky_turn_len {l : List Pt} (hu : unl l = true) : (skyOf (l.map turnP)).length = (skyOf l).length := by
  have := (sky_turn_perm hu).length_eq
  rw [List.length_map] at this
  exact this.symm

theorem sky_stR {l : List Pt} (hu : unl l = true) : (skyOf l).Pairwise stR := by
  have h := rightF_sky hu
  unfold rightF at h
  rw [Bool.and_eq_true] at h
  exact chainOK_pairwise h.1

/-- from its other end: the same places -/
theorem sky_turn_at {l : List Pt} (hu : unl l = true) : (skyOf l).map (fun p => (p.1, p.2.1)) = (skyOf (l.map turnP)).reverse.map (fun q => (q.2.1, q.1)) := by
  have hu2 : unl (l.map turnP) = true := by rw [unl_turn]; exact hu
  refine List.Perm.eq_of_pairwise (le := fun (c d : Int × Int) => c.1 ≤ d.1 ∧ d.2 ≤ c.2) (fun a b _ _ h1 h2 => Prod.ext (by omega) (by omega)) ?_ ?_ ?_
  · refine List.pairwise_map.2 ((sky_stR hu).imp fun h => ?_)
    unfold stR at h
    simp only
    omega
  · refine List.pairwise_map.2 (List.pairwise_reverse.2 ((sky_stR hu2).imp fun h => ?_))
    unfold stR at h
    simp only
    omega
  · have h1 := ((sky_turn_perm hu).map (fun q : Pt => (q.2.1, q.1)))
    rw [List.map_map] at h1
    exact h1.trans ((List.reverse_perm _).map _).symm

theorem sky_turn_get {l : List Pt} (hu : unl l = true) (i : Nat) (hi : i < (skyOf l).length) (hj : (skyOf (l.map turnP)).length - 1 - i < (skyOf (l.map turnP)).length) :
    (skyOf l)[i].1 = (skyOf (l.map turnP))[(skyOf (l.map turnP)).length - 1 - i].2.1 ∧ (skyOf l)[i].2.1 = (skyOf (l.map turnP))[(skyOf (l.map turnP)).length - 1 - i].1 := by
  have h := sky_turn_at hu
  have h1 := List.getElem_of_eq h (i := i) (by simpa using hi)
  simp only [List.getElem_map, List.getElem_reverse] at h1
  exact ⟨congrArg Prod.fst h1, congrArg Prod.snd h1⟩

theorem sky_turn_get' {l : List Pt} (hu : unl l = true) (i j : Nat) (e : i + j + 1 = (skyOf l).length) (hi : i < (skyOf l).length) (hj : j < (skyOf (l.map turnP)).length) :
    (skyOf l)[i].1 = (skyOf (l.map turnP))[j].2.1 ∧ (skyOf l)[i].2.1 = (skyOf (l.map turnP))[j].1 := by
  have h2 := sky_turn_len hu
  obtain rfl : j = (skyOf (l.map turnP)).length - 1 - i := by omega
  exact sky_turn_get hu i hi hj

/-- each name of the one is once in the other -/
theorem sky_turn_once {l : List Pt} (hu : unl l = true) (q : Pt) (hq : q ∈ skyOf (l.map turnP)) : (ids (skyOf l)).count q.2.2 = 1 := by
  have h1 : turnP q ∈ skyOf l := by
    rw [← mem_sky_turn hu]
    exact hq
  have h2 : q.2.2 ∈ ids (skyOf l) := List.mem_map.2 ⟨turnP q, h1, rfl⟩
  have hn := (unl_iff _).1 (unl_sky hu)
  have := List.nodup_iff_count.1 hn q.2.2
  have := List.one_le_count_iff.2 h2
  omega

end Go.Proofs.Ytpebefcmloablaa
