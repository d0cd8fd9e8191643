/- Points: orders, being over, skylines: plain lists. No function of the program is walked here. -/
import Derived.WalkKit
namespace Go.Proofs.Ytpebefcmloablaa

abbrev Pt := Int × Int × Int

/-- by X, then by name -/
def ltX (p q : Pt) : Prop := p.1 < q.1 ∨ p.1 = q.1 ∧ p.2.2 < q.2.2
/-- by Y, then by name -/
def ltY (p q : Pt) : Prop := p.2.1 < q.2.1 ∨ p.2.1 = q.2.1 ∧ p.2.2 < q.2.2
/-- is q over p? -/
def ovr (q p : Pt) : Bool := decide (p.1 ≤ q.1) && decide (p.2.1 ≤ q.2.1) && (decide (q.1 ≠ p.1) || decide (q.2.1 ≠ p.2.1))
/-- is p beaten by one of l? -/
def btn (l : List Pt) (p : Pt) : Bool := l.any fun q => ovr q p

instance : DecidableRel ltX := fun p q => by unfold ltX; exact inferInstance
instance : DecidableRel ltY := fun p q => by unfold ltY; exact inferInstance

theorem ovr_iff (q p : Pt) : ovr q p = true ↔ p.1 ≤ q.1 ∧ p.2.1 ≤ q.2.1 ∧ (q.1 ≠ p.1 ∨ q.2.1 ≠ p.2.1) := by
  simp [ovr, and_assoc]
theorem ovr_no (q p : Pt) : ovr q p = false ↔ ¬ (p.1 ≤ q.1 ∧ p.2.1 ≤ q.2.1 ∧ (q.1 ≠ p.1 ∨ q.2.1 ≠ p.2.1)) := by
  rw [← ovr_iff]; simp
theorem btn_iff (l : List Pt) (p : Pt) : btn l p = true ↔ ∃ q ∈ l, ovr q p = true := by simp [btn]
theorem btn_no (l : List Pt) (p : Pt) : btn l p = false ↔ ∀ q ∈ l, ovr q p = false := by simp [btn]

theorem ltX_trans {p q r : Pt} (h : ltX p q) (h2 : ltX q r) : ltX p r := by unfold ltX at *; omega
theorem ltX_irr (p : Pt) : ¬ ltX p p := by unfold ltX; omega
theorem ltX_asymm {p q : Pt} (h : ltX p q) (h2 : ltX q p) : False := by unfold ltX at *; omega
theorem ltY_trans {p q r : Pt} (h : ltY p q) (h2 : ltY q r) : ltY p r := by unfold ltY at *; omega
theorem ltY_irr (p : Pt) : ¬ ltY p p := by unfold ltY; omega
theorem ltY_asymm {p q : Pt} (h : ltY p q) (h2 : ltY q p) : False := by unfold ltY at *; omega
theorem ovr_trans {p q r : Pt} (h : ovr p q = true) (h2 : ovr q r = true) : ovr p r = true := by
  rw [ovr_iff] at *; omega
theorem ovr_irr (p : Pt) : ovr p p = false := by rw [ovr_no]; omega

theorem nodup_of_strict {α : Type} {R : α → α → Prop} (hR : ∀ p, ¬ R p p) {l : List α} (h : l.Pairwise R) : l.Nodup := by
  show l.Pairwise (· ≠ ·)
  exact h.imp fun {a b} hab e => by subst e; exact hR a hab

/-- sorted lists of the same elements are the same -/
theorem sorted_ext {α : Type} {R : α → α → Prop} (hirr : ∀ p, ¬ R p p) (has : ∀ {p q}, R p q → R q p → False) {a b : List α} (ha : a.Pairwise R) (hb : b.Pairwise R) (h : ∀ p, p ∈ a ↔ p ∈ b) : a = b := by
  have hp : a.Perm b := (List.perm_ext_iff_of_nodup (nodup_of_strict hirr ha) (nodup_of_strict hirr hb)).2 h
  exact List.Perm.eq_of_pairwise (fun _ _ _ _ h1 h2 => (has h1 h2).elim) ha hb hp

theorem countP_lt {α : Type} {p q : α → Bool} {l : List α} (h : ∀ x ∈ l, p x = true → q x = true) {y : α} (hy : y ∈ l) (h1 : q y = true) (h2 : p y = false) : l.countP p < l.countP q := by
  induction l with
  | nil => cases hy
  | cons x l ih =>
    have hm : l.countP p ≤ l.countP q := List.countP_mono_left fun z hz => h z (by simp [hz])
    rw [List.countP_cons, List.countP_cons]
    rcases List.mem_cons.1 hy with rfl | hy
    · simp [h1, h2]; omega
    · have := ih (fun z hz => h z (by simp [hz])) hy
      have hx := h x (by simp)
      cases hpx : p x
      · simp; split <;> omega
      · simp [hx hpx]; omega

/-- over each point there is one, or it is itself one, over which there is none -/
theorem top_over (S : List Pt) : ∀ (n : Nat) (q : Pt), q ∈ S → S.countP (fun r => ovr r q) ≤ n → ∃ t ∈ S, (t = q ∨ ovr t q = true) ∧ btn S t = false
  | 0, q, hq, h => by
    refine ⟨q, hq, .inl rfl, ?_⟩
    rw [btn_no]
    intro r hr
    have h0 : S.countP (fun r => ovr r q) = 0 := by omega
    rw [List.countP_eq_zero] at h0
    simpa using h0 r hr
  | n + 1, q, hq, h => by
    cases hb : btn S q
    · exact ⟨q, hq, .inl rfl, hb⟩
    · obtain ⟨r, hr, ho⟩ := (btn_iff S q).1 hb
      have hlt : S.countP (fun s => ovr s r) < S.countP (fun s => ovr s q) :=
        countP_lt (fun s _ hs => ovr_trans hs ho) hr ho (ovr_irr r)
      obtain ⟨t, ht, h1, h2⟩ := top_over S n r hr (by omega)
      refine ⟨t, ht, .inr ?_, h2⟩
      rcases h1 with rfl | h1
      · exact ho
      · exact ovr_trans h1 ho

theorem top_of (S : List Pt) (q : Pt) (hq : q ∈ S) : ∃ t ∈ S, (t = q ∨ ovr t q = true) ∧ btn S t = false := top_over S _ q hq (Nat.le_refl _)

/-- the points over which there is none -/
def sky (S : List Pt) : List Pt := S.filter fun p => !btn S p

theorem mem_sky (S : List Pt) (p : Pt) : p ∈ sky S ↔ p ∈ S ∧ btn S p = false := by simp [sky]
theorem sky_sorted {S : List Pt} (h : S.Pairwise ltX) : (sky S).Pairwise ltX := h.sublist List.filter_sublist

/-- T is the skyline of l -/
def IsSky (l T : List Pt) : Prop := T.Pairwise ltX ∧ ∀ p, p ∈ T ↔ p ∈ l ∧ btn l p = false

theorem IsSky.unique {l A B : List Pt} (hA : IsSky l A) (hB : IsSky l B) : A = B :=
  sorted_ext ltX_irr ltX_asymm hA.1 hB.1 fun p => by rw [hA.2, hB.2]

theorem btn_congr {l m : List Pt} (h : ∀ p, p ∈ l ↔ p ∈ m) (p : Pt) : btn l p = btn m p := by
  rw [Bool.eq_iff_iff, btn_iff, btn_iff]
  constructor
  · rintro ⟨q, hq, ho⟩; exact ⟨q, (h q).1 hq, ho⟩
  · rintro ⟨q, hq, ho⟩; exact ⟨q, (h q).2 hq, ho⟩

theorem IsSky.congr {l m T : List Pt} (h : ∀ p, p ∈ l ↔ p ∈ m) (hT : IsSky l T) : IsSky m T :=
  ⟨hT.1, fun p => by rw [hT.2, h, btn_congr h]⟩

theorem isSky_sky {S : List Pt} (h : S.Pairwise ltX) : IsSky S (sky S) := ⟨sky_sorted h, mem_sky S⟩

/-- what is beaten at all is beaten by a point of the skyline -/
theorem btn_sky {l T : List Pt} (hT : IsSky l T) (p : Pt) : btn T p = btn l p := by
  rw [Bool.eq_iff_iff, btn_iff, btn_iff]
  constructor
  · rintro ⟨q, hq, ho⟩; exact ⟨q, ((hT.2 q).1 hq).1, ho⟩
  · rintro ⟨q, hq, ho⟩
    obtain ⟨t, ht, h1, h2⟩ := top_of l q hq
    refine ⟨t, (hT.2 t).2 ⟨ht, h2⟩, ?_⟩
    rcases h1 with rfl | h1
    · exact ho
    · exact ovr_trans h1 ho

/-- one step of the scan: p stands ahead of all that have been gone through -/
def stp (p : Pt) : List Pt → List Pt
  | [] => [p]
  | t :: T => if p.2.1 < t.2.1 ∨ p.2.1 = t.2.1 ∧ p.1 < t.1 then t :: T else if p.1 = t.1 ∧ t.2.1 < p.2.1 then p :: (t :: T).dropWhile (fun q => decide (q.1 = p.1)) else p :: t :: T

def scanF (S : List Pt) : List Pt := S.foldr stp []

theorem dropWhile_filter_x (c : Int) : ∀ (T : List Pt), T.Pairwise (fun p q => p.1 ≤ q.1) → (∀ q ∈ T, c ≤ q.1) → T.dropWhile (fun q => decide (q.1 = c)) = T.filter fun q => decide (q.1 ≠ c)
  | [], _, _ => rfl
  | t :: T, h, hc => by
    rw [List.pairwise_cons] at h
    by_cases e : t.1 = c
    · rw [List.dropWhile_cons_of_pos (by simp [e]), List.filter_cons_of_neg (by simp [e])]
      exact dropWhile_filter_x c T h.2 fun q hq => hc q (by simp [hq])
    · rw [List.dropWhile_cons_of_neg (by simp [e]), List.filter_cons_of_pos (by simp [e])]
      congr 1
      rw [List.filter_eq_self.2]
      intro q hq
      have h1 := h.1 q hq
      have h2 := hc t (by simp)
      simp
      omega

theorem scanF_sky (S : List Pt) (h : S.Pairwise ltX) : scanF S = sky S := by
  induction S with
  | nil => rfl
  | cons p S ih =>
    rw [List.pairwise_cons] at h
    obtain ⟨hp, hS⟩ := h
    have hT := isSky_sky hS
    show stp p (scanF S) = sky (p :: S)
    rw [ih hS]
    generalize hTe : sky S = T at *
    have hx : ∀ q ∈ S, p.1 ≤ q.1 := fun q hq => by have := hp q hq; unfold ltX at this; omega
    -- what is beaten in p :: S
    have hbt : ∀ q, btn (p :: S) q = (ovr p q || btn S q) := fun q => rfl
    have hpp : btn (p :: S) p = btn S p := by rw [hbt, ovr_irr]; rfl
    have hfil : sky (p :: S) = (if btn S p = true then [] else [p]) ++ T.filter fun q => !ovr p q := by
      rw [← hTe]
      unfold sky
      rw [List.filter_cons, hpp, List.filter_filter]
      have e : (fun q => !btn (p :: S) q) = fun q => (!ovr p q && !btn S q) := by
        funext q; rw [hbt, Bool.not_or]
      rw [e]
      cases btn S p <;> simp
    rw [hfil]
    cases T with
    | nil =>
      have hS0 : btn S p = false := by
        rw [← btn_sky hT]; rfl
      simp [stp, hS0]
    | cons t T =>
      have hTp := hT.1
      have htS := ((hT.2 t).1 (by simp)).1
      have htb := ((hT.2 t).1 (by simp)).2
      have hpt := hx t htS
      -- the first one of the skyline is the highest one
      have htop : ∀ q ∈ t :: T, t.1 ≤ q.1 ∧ q.2.1 ≤ t.2.1 := by
        intro q hq
        rcases List.mem_cons.1 hq with rfl | hq'
        · exact ⟨Int.le_refl _, Int.le_refl _⟩
        · have hlt := (List.pairwise_cons.1 hTp).1 q hq'
          have hno := (btn_no _ _).1 htb q ((hT.2 q).1 hq).1
          rw [ovr_no] at hno
          unfold ltX at hlt
          have hno2 := (btn_no _ _).1 ((hT.2 q).1 hq).2 t htS
          rw [ovr_no] at hno2
          omega
      have hbp : btn S p = true ↔ (p.2.1 < t.2.1 ∨ p.2.1 = t.2.1 ∧ p.1 < t.1) := by
        rw [← btn_sky hT, btn_iff]
        constructor
        · rintro ⟨q, hq, ho⟩
          have h1 := htop q hq
          rw [ovr_iff] at ho
          by_cases e : p.2.1 = t.2.1 ∧ p.1 = t.1
          · have hno := (btn_no _ _).1 htb q ((hT.2 q).1 hq).1
            rw [ovr_no] at hno
            omega
          · omega
        · intro h1
          exact ⟨t, by simp, by rw [ovr_iff]; omega⟩
      by_cases hb : p.2.1 < t.2.1 ∨ p.2.1 = t.2.1 ∧ p.1 < t.1
      · have hb1 : btn S p = true := hbp.2 hb
        rw [if_pos hb1, List.nil_append]
        have hst : stp p (t :: T) = t :: T := by simp only [stp]; rw [if_pos hb]
        rw [hst, List.filter_eq_self.2]
        intro q hq
        have hqb := ((hT.2 q).1 hq).2
        cases hov : ovr p q
        · rfl
        · obtain ⟨r, hr, ho⟩ := (btn_iff S p).1 hb1
          have := (btn_no _ _).1 hqb r hr
          rw [ovr_trans ho hov] at this
          cases this
      · have hb1 : ¬ btn S p = true := fun h => hb (hbp.1 h)
        rw [if_neg hb1, List.singleton_append]
        by_cases hc : p.1 = t.1 ∧ t.2.1 < p.2.1
        · have hst : stp p (t :: T) = p :: (t :: T).dropWhile (fun q => decide (q.1 = p.1)) := by simp only [stp]; rw [if_neg hb, if_pos hc]
          rw [hst, dropWhile_filter_x p.1 (t :: T) (hTp.imp fun {a b} hab => by unfold ltX at hab; omega) (fun q hq => by have := htop q hq; omega)]
          congr 1
          refine List.filter_congr fun q hq => ?_
          have h1 := htop q hq
          by_cases e : q.1 = p.1
          · have ho : ovr p q = true := by rw [ovr_iff]; omega
            simp [e, ho]
          · have ho : ovr p q = false := by rw [ovr_no]; have := hx q ((hT.2 q).1 hq).1; omega
            simp [e, ho]
        · have hst : stp p (t :: T) = p :: t :: T := by simp only [stp]; rw [if_neg hb, if_neg hc]
          rw [hst, List.filter_eq_self.2]
          intro q hq
          have h1 := htop q hq
          have hno2 := (btn_no _ _).1 ((hT.2 q).1 hq).2 t htS
          rw [ovr_no] at hno2
          have ho : ovr p q = false := by rw [ovr_no]; omega
          simp [ho]

/-! ### Stairs -/
/-- q may stand next behind p on a stair -/
def stR (p q : Pt) : Prop := p.1 = q.1 ∧ p.2.1 = q.2.1 ∧ p.2.2 < q.2.2 ∨ p.1 < q.1 ∧ q.2.1 < p.2.1
instance : DecidableRel stR := fun p q => by unfold stR; exact inferInstance

theorem stR_trans {p q r : Pt} (h : stR p q) (h2 : stR q r) : stR p r := by unfold stR at *; omega

theorem pairwise_of_next {α : Type} {R : α → α → Prop} (ht : ∀ a b c, R a b → R b c → R a c) : ∀ l : List α, (∀ i (h : i + 1 < l.length), R l[i] l[i + 1]) → l.Pairwise R
  | [], _ => .nil
  | [x], _ => List.pairwise_singleton _ _
  | x :: y :: l, h => by
    have ih := pairwise_of_next ht (y :: l) fun i hi => by
      have := h (i + 1) (by simpa using hi)
      simpa using this
    rw [List.pairwise_cons]
    refine ⟨fun z hz => ?_, ih⟩
    have h0 : R x y := by simpa using h 0 (by simp)
    rcases List.mem_cons.1 hz with rfl | hz
    · exact h0
    · exact ht _ _ _ h0 ((List.pairwise_cons.1 ih).1 z hz)

theorem pairwise_mem {α : Type} {R : α → α → Prop} {l : List α} (h : l.Pairwise R) {p q : α} (hp : p ∈ l) (hq : q ∈ l) : p = q ∨ R p q ∨ R q p := by
  obtain ⟨i, hi, rfl⟩ := List.getElem_of_mem hp
  obtain ⟨j, hj, rfl⟩ := List.getElem_of_mem hq
  rcases Nat.lt_trichotomy i j with h1 | h1 | h1
  · exact .inr (.inl (List.pairwise_iff_getElem.1 h i j hi hj h1))
  · subst h1; exact .inl rfl
  · exact .inr (.inr (List.pairwise_iff_getElem.1 h j i hj hi h1))

/-- each stands rightly behind the one ahead of it -/
def chainOK (l : List Pt) : Bool := decide (∀ i, i < l.length - 1 → stR (l.getD i (0, 0, 0)) (l.getD (i + 1) (0, 0, 0)))

theorem chainOK_iff (l : List Pt) : chainOK l = true ↔ ∀ i (h : i + 1 < l.length), stR l[i] l[i + 1] := by
  unfold chainOK
  rw [decide_eq_true_iff]
  constructor
  · intro h i hi
    have := h i (by omega)
    simpa [hi, show i < l.length by omega] using this
  · intro h i hi
    have := h i (by omega)
    simpa [show i + 1 < l.length by omega, show i < l.length by omega] using this

theorem chainOK_pairwise {l : List Pt} (h : chainOK l = true) : l.Pairwise stR := pairwise_of_next (R := stR) (fun _ _ _ => stR_trans) l ((chainOK_iff l).1 h)

theorem chainOK_sky (l : List Pt) : chainOK l = true ↔ IsSky l l := by
  constructor
  · intro h
    have hp := chainOK_pairwise h
    refine ⟨hp.imp fun {a b} hab => by unfold stR at hab; unfold ltX; omega, fun p => ⟨fun hpl => ⟨hpl, ?_⟩, fun h => h.1⟩⟩
    rw [btn_no]
    intro q hq
    rw [ovr_no]
    rcases pairwise_mem hp hpl hq with rfl | h1 | h1
    · omega
    · unfold stR at h1; omega
    · unfold stR at h1; omega
  · intro h
    rw [chainOK_iff]
    intro i hi
    have h1 := List.pairwise_iff_getElem.1 h.1 i (i + 1) (by omega) hi (by omega)
    have h2 := (btn_no _ _).1 ((h.2 l[i]).1 (List.getElem_mem _)).2 l[i + 1] (List.getElem_mem _)
    have h3 := (btn_no _ _).1 ((h.2 l[i + 1]).1 (List.getElem_mem _)).2 l[i] (List.getElem_mem _)
    rw [ovr_no] at h2 h3
    unfold ltX at h1
    unfold stR
    omega

/-- the names -/
def ids (l : List Pt) : List Int := l.map fun p => p.2.2
def unl (l : List Pt) : Bool := decide (ids l).Nodup

/-- l in order by X -/
def leX (p q : Pt) : Bool := !decide (ltX q p)
def srtX (l : List Pt) : List Pt := l.mergeSort leX
theorem srtX_perm (l : List Pt) : (srtX l).Perm l := List.mergeSort_perm l leX
theorem srtX_mem (l : List Pt) (p : Pt) : p ∈ srtX l ↔ p ∈ l := (srtX_perm l).mem_iff

theorem ids_inj {l : List Pt} (h : (ids l).Nodup) {p q : Pt} (hp : p ∈ l) (hq : q ∈ l) (e : p.2.2 = q.2.2) : p = q := by
  have h3 : l.Pairwise fun p q => p.2.2 ≠ q.2.2 := List.pairwise_map.1 h
  rcases pairwise_mem h3 hp hq with h1 | h1 | h1
  · exact h1
  · exact absurd e h1
  · exact absurd e.symm h1

theorem srtX_sorted {l : List Pt} (h : (ids l).Nodup) : (srtX l).Pairwise ltX := by
  have h1 : (srtX l).Pairwise fun p q => leX p q = true := List.pairwise_mergeSort (le := leX) (fun p q r hpq hqr => by simp only [leX, Bool.not_eq_true', decide_eq_false_iff_not] at *; unfold ltX at *; omega) (fun p q => by simp only [leX, Bool.or_eq_true, Bool.not_eq_true', decide_eq_false_iff_not]; unfold ltX; omega) l
  have h2 : (ids (srtX l)).Nodup := ((srtX_perm l).map _).nodup_iff.2 h
  have h3 : (srtX l).Pairwise fun p q => p.2.2 ≠ q.2.2 := by
    unfold ids at h2
    exact List.pairwise_map.1 h2
  refine (h1.and h3).imp fun {a b} hab => ?_
  obtain ⟨ha, hb⟩ := hab
  simp only [leX, Bool.not_eq_true', decide_eq_false_iff_not] at ha
  unfold ltX at *
  omega

/-- the skyline of unlike points -/
def skyOf (l : List Pt) : List Pt := sky (srtX l)
theorem skyOf_is {l : List Pt} (h : (ids l).Nodup) : IsSky l (skyOf l) := (isSky_sky (srtX_sorted h)).congr (srtX_mem l)

/-- what is sorted, and has l's points, is l in order -/
theorem srtX_eq {l S : List Pt} (h : (ids l).Nodup) (hS : S.Pairwise ltX) (hm : ∀ p, p ∈ S ↔ p ∈ l) : S = srtX l :=
  sorted_ext ltX_irr ltX_asymm hS (srtX_sorted h) fun p => by rw [hm, srtX_mem]

/-- is one of a stair over p? the first one that is not left of p tells it -/
theorem stair_beats {s : List Pt} (h : IsSky s s) (p : Pt) (k : Nat) (hk : k ≤ s.length) (h1 : ∀ t (ht : t < s.length), t < k → s[t].1 < p.1) (h2 : ∀ t (ht : t < s.length), k ≤ t → p.1 ≤ s[t].1) :
    btn s p = if hk : k < s.length then ovr s[k] p else false := by
  have hst := chainOK_pairwise ((chainOK_sky s).2 h)
  rw [Bool.eq_iff_iff, btn_iff]
  by_cases hk : k < s.length
  · rw [dif_pos hk]
    constructor
    · rintro ⟨q, hq, ho⟩
      obtain ⟨t, ht, rfl⟩ := List.getElem_of_mem hq
      rw [ovr_iff] at ho
      by_cases hkt : k ≤ t
      · have a1 := h2 k hk (Nat.le_refl _)
        rw [ovr_iff]
        by_cases e : k = t
        · subst e; omega
        · have := List.pairwise_iff_getElem.1 hst k t hk ht (by omega)
          unfold stR at this
          omega
      · have := h1 t ht (by omega)
        omega
    · intro ho
      exact ⟨s[k], List.getElem_mem _, ho⟩
  · rw [dif_neg hk]
    constructor
    · rintro ⟨q, hq, ho⟩
      obtain ⟨t, ht, rfl⟩ := List.getElem_of_mem hq
      have := h1 t ht (by omega)
      rw [ovr_iff] at ho
      omega
    · intro h; cases h

end Go.Proofs.Ytpebefcmloablaa
