/- Maps from integers to integers, as functions (for a seat without the Rank texts). No function of the program is walked here. -/
import Derived.Test.YtpebefcmloablaaOwn
import Derived.Maps.OwnSet
import Derived.Maps.OwnOps
namespace Go.Proofs.Ytpebefcmloablaa
open Go.RowKit Go.Maps

theorem nodup_le : ∀ (a b : List Int), a.Nodup → (∀ x ∈ a, x ∈ b) → a.length ≤ b.length
  | [], b, _, _ => Nat.zero_le _
  | x :: a, b, h, hs => by
    rw [List.nodup_cons] at h
    have hx := hs x (by simp)
    have h2 : ∀ y ∈ a, y ∈ b.erase x := by
      intro y hy
      have hne : y ≠ x := fun e => h.1 (e ▸ hy)
      exact (List.mem_erase_of_ne hne).2 (hs y (by simp [hy]))
    have := nodup_le a (b.erase x) h.2 h2
    rw [List.length_erase_of_mem hx] at this
    have : 0 < b.length := List.length_pos_of_mem hx
    simp only [List.length_cons]
    omega

/-- a map's datum D is the function f; s: its keys, each once -/
def IsM {H : Type} (kk vk : IntKind) (D : DataW H) (f : Int → Option Int) (s : List Int) : Prop :=
  Tidy D ∧ Maps.size D = s.length ∧ s.Nodup ∧ (∀ x, x ∈ s ↔ (f x).isSome = true) ∧
    ∀ x, has D (.int kk x) = (f x).isSome ∧ ∀ z, D.atKey (.int kk x) z = (match f x with | none => z | some v => .lit (.int vk v))

def putF (f : Int → Option Int) (x v : Int) : Int → Option Int := fun y => if y = x then some v else f y

theorem IsM.empty {H : Type} (kk vk : IntKind) : IsM (H := H) kk vk (.map []) (fun _ => none) [] :=
  ⟨tidy_empty, rfl, List.nodup_nil, by simp, fun x => ⟨rfl, fun z => rfl⟩⟩

theorem IsM.put {H : Type} {kk vk : IntKind} {D : DataW H} {f : Int → Option Int} {s : List Int} (h : IsM kk vk D f s) (x v : Int) :
    IsM kk vk (D.put (.int kk x) (.lit (.int vk v))) (putF f x v) (if x ∈ s then s else s ++ [x]) := by
  obtain ⟨h1, h2, h3, h4, h5⟩ := h
  have hk : WideAt.IsKeyLit (Lit.int kk x) := trivial
  refine ⟨h1.put hk _, ?_, ?_, ?_, ?_⟩
  · rw [size_put h1, (h5 x).1]
    by_cases hx : x ∈ s
    · rw [if_pos hx, if_pos ((h4 x).1 hx), h2]
    · rw [if_neg hx, if_neg (fun h => hx ((h4 x).2 h)), h2, List.length_append]; rfl
  · by_cases hx : x ∈ s
    · rw [if_pos hx]; exact h3
    · rw [if_neg hx, List.nodup_append]
      exact ⟨h3, by simp, fun a ha b hb => by simp at hb; subst hb; exact fun e => hx (e ▸ ha)⟩
  · intro y
    unfold putF
    by_cases hy : y = x
    · subst hy
      by_cases hx : y ∈ s <;> simp [hx]
    · by_cases hx : x ∈ s <;> simp [hx, hy, h4]
  · intro y
    unfold putF
    by_cases hy : y = x
    · subst hy
      exact ⟨by simpa using has_put_same h1.isMap hk _, fun z => by simpa using atKey_put_same h1.isMap hk _ z⟩
    · have hne : (Lit.int kk y) ≠ (.int kk x) := fun e => hy (by injection e)
      exact ⟨by rw [has_put_other hne]; simpa [hy] using (h5 y).1, fun z => by rw [atKey_put_other hne]; simpa [hy] using (h5 y).2 z⟩

theorem nodup_same_len {a b : List Int} (ha : a.Nodup) (hb : b.Nodup) (h : ∀ x, x ∈ a ↔ x ∈ b) : a.length = b.length :=
  Nat.le_antisymm (nodup_le _ _ ha fun x hx => (h x).1 hx) (nodup_le _ _ hb fun x hx => (h x).2 hx)

/-- how often a number is there -/
def cntF (l : List Int) : Int → Option Int := fun x => if x ∈ l then some (l.count x : Nat) else none

theorem cntF_nil : cntF [] = fun _ => none := by funext x; simp [cntF]

theorem cntF_snoc (l : List Int) (x : Int) : cntF (l ++ [x]) = putF (cntF l) x ((l.count x : Nat) + 1) := by
  funext y
  unfold cntF putF
  by_cases hy : y = x
  · subst hy; simp
  · have : (List.count y [x]) = 0 := List.count_eq_zero.2 (by simp [hy])
    simp [hy, List.count_append, this]

/-- as many keys as numbers: each once -/
theorem nodup_of_len : ∀ (L s : List Int), s.Nodup → (∀ x, x ∈ s ↔ x ∈ L) → s.length = L.length → L.Nodup
  | [], _, _, _, _ => List.nodup_nil
  | x :: L, s, hs, hm, hl => by
    have hxs : x ∈ s := (hm x).2 (by simp)
    have hx : x ∉ L := fun hx => by
      have := nodup_le s L hs (fun y hy => by rcases List.mem_cons.1 ((hm y).1 hy) with rfl | h; exact hx; exact h)
      simp at hl; omega
    refine List.nodup_cons.2 ⟨hx, nodup_of_len L (s.erase x) (hs.erase x) (fun y => ?_) ?_⟩
    · rw [hs.mem_erase_iff, hm y, List.mem_cons]
      constructor
      · rintro ⟨h1, rfl | h⟩
        · exact absurd rfl h1
        · exact h
      · exact fun h => ⟨fun e => hx (e ▸ h), .inr h⟩
    · rw [List.length_erase_of_mem hxs]; simp at hl; omega

theorem len_eq_nodup (L s : List Int) (hs : s.Nodup) (hm : ∀ x, x ∈ s ↔ x ∈ L) : decide (s.length = L.length) = decide L.Nodup := by
  rw [decide_eq_decide]
  exact ⟨nodup_of_len L s hs hm, fun h => nodup_same_len hs h hm⟩

end Go.Proofs.Ytpebefcmloablaa
