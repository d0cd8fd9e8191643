/- The plain law of a directory: what a name put, dropped, and the setting anew do to it; which names are alive. No function of the program is walked here. -/
import Derived.Test.YtpebefcmloablaaNmL
import Derived.Test.YtpebefcmloablaaSetP
namespace Go.Proofs.Ytpebefcmloablaa
open Go.RowKit Go.Maps
set_option linter.unusedSimpArgs false
set_option linter.unusedVariables false

theorem joinB_perm (CB : List (List Ent)) (i : Nat) : (joinB CB i).Perm (CB.take i).flatten := by
  unfold joinB
  exact (List.reverse_perm _).flatten

theorem addB_perm (CB : List (List Ent)) (i : Nat) (x : Ent) (hem : ∀ h : i < CB.length, CB[i] = []) : (addB CB i x).flatten.Perm (x :: CB.flatten) := by
  have e1 : (List.replicate i ([] : List Ent)).flatten = [] := by simp
  have e2 : CB.flatten = (CB.take i).flatten ++ (CB.drop (i + 1)).flatten := by
    by_cases h : i < CB.length
    · have h1 : CB = CB.take i ++ (CB[i] :: CB.drop (i + 1)) := by rw [← List.drop_eq_getElem_cons h, List.take_append_drop]
      have h2 := congrArg List.flatten h1
      rw [hem h, List.flatten_append, List.flatten_cons, List.nil_append] at h2
      exact h2
    · rw [List.take_of_length_le (by omega), List.drop_of_length_le (by omega)]; simp
  unfold addB
  rw [List.flatten_append, e1, List.nil_append, List.flatten_cons, e2]
  have h3 : (joinB CB i ++ [x]).Perm (x :: (CB.take i).flatten) := List.perm_append_comm.trans ((joinB_perm CB i).cons x)
  exact h3.append_right _

theorem joinB_len (CB : List (List Ent)) (i : Nat) (hi : i ≤ CB.length) (h : ∀ j (hj : j < CB.length), j < i → CB[j].length = 2 ^ j) : (joinB CB i).length + 1 = 2 ^ i := by
  rw [(joinB_perm CB i).length_eq]
  induction i with
  | zero => simp
  | succ k ih =>
    rw [List.take_succ_eq_append_getElem (by omega), List.flatten_append, List.length_append]
    have h1 := ih (by omega) (fun j hj hjk => h j hj (by omega))
    have h2 := h k (by omega) (by omega)
    simp only [List.flatten_cons, List.flatten_nil, List.append_nil]
    rw [Nat.pow_succ]
    omega

theorem addB_len (CB : List (List Ent)) (i : Nat) (x : Ent) (hi : i ≤ CB.length) : (addB CB i x).length = if i < CB.length then CB.length else i + 1 := by
  unfold addB
  simp
  split <;> omega

theorem addB_get (CB : List (List Ent)) (i : Nat) (x : Ent) (j : Nat) (hj : j < (addB CB i x).length) : (addB CB i x)[j] = if j < i then [] else if j = i then joinB CB i ++ [x] else CB.getD j [] := by
  have e : (addB CB i x)[j]? = some ((addB CB i x)[j]) := List.getElem?_eq_getElem hj
  generalize (addB CB i x)[j] = X at *
  unfold addB at e
  by_cases h1 : j < i
  · rw [if_pos h1]
    rw [List.getElem?_append_left (by simpa using h1)] at e
    simp [h1] at e
    first | exact e | exact e.symm
  · rw [if_neg h1]
    rw [List.getElem?_append_right (by simp; omega), List.length_replicate] at e
    by_cases h2 : j = i
    · rw [if_pos h2]
      subst h2
      rw [Nat.sub_self, List.getElem?_cons_zero] at e
      injection e with e
      exact e.symm
    · rw [if_neg h2]
      rw [show j - i = (j - i - 1) + 1 by omega, List.getElem?_cons_succ, List.getElem?_drop, show i + 1 + (j - i - 1) = j by omega] at e
      rw [List.getD_eq_getElem?_getD, e]
      rfl

theorem nodup_lt_len {l : List Nat} {n : Nat} (h : l.Nodup) (hl : ∀ k ∈ l, k < n) : l.length ≤ n := by
  have h2 : ((List.range n).filter fun k => decide (k ∈ l)).Nodup := List.Pairwise.filter _ List.nodup_range
  have h3 := (List.perm_ext_iff_of_nodup h h2).2 (fun k => by
    simp only [List.mem_filter, List.mem_range, decide_eq_true_eq]
    exact ⟨fun hk => ⟨hl k hk, hk⟩, fun hk => hk.2⟩)
  rw [h3.length_eq]
  have := List.length_filter_le (fun k => decide (k ∈ l)) (List.range n)
  simpa using this

theorem nodup_perm_map {f : Ent → Int} {l m : List Ent} (h : l.Perm m) : (l.map f).Nodup ↔ (m.map f).Nodup := (h.map f).nodup_iff

theorem count_live (al : List Bool) : ((List.range al.length).filter fun k => al[k]? == some true).length = al.count true := by
  induction al with
  | nil => rfl
  | cons b l ih =>
    rw [List.length_cons, List.range_succ_eq_map, List.filter_cons, List.filter_map, List.count_cons, ← ih]
    have e : ((fun k => (b :: l)[k]? == some true) ∘ Nat.succ) = fun k => l[k]? == some true := rfl
    rw [e]
    cases b <;> simp

/-- those that are alive are as many as are marked so -/
theorem alive_len {ES : List Ent} {al : List Bool} (nums : ∀ x ∈ ES, ∃ k : Nat, x.2 = k ∧ k < al.length) (numsN : (ES.map (·.2)).Nodup) (live : ∀ k : Nat, al[k]? = some true → ∃ x ∈ ES, x.2 = k) : (ES.filter (aliveE al)).length = al.count true := by
  rw [← count_live al]
  have h1 : ((ES.filter (aliveE al)).map fun x => x.2.toNat).Nodup := by
    have h2 : ((ES.filter (aliveE al)).map (·.2)).Nodup := by
      have h3 := List.pairwise_map.1 numsN
      exact List.pairwise_map.2 (List.Pairwise.filter _ h3)
    have h3 := List.pairwise_map.1 h2
    refine List.pairwise_map.2 (h3.imp_of_mem ?_)
    intro a b ha hb hab h
    obtain ⟨k, hk, -⟩ := nums a (List.mem_filter.1 ha).1
    obtain ⟨m, hm, -⟩ := nums b (List.mem_filter.1 hb).1
    rw [hk, hm] at hab
    simp only [hk, hm, Int.toNat_natCast] at h
    exact hab (by rw [h])
  have h2 : ((List.range al.length).filter fun k => al[k]? == some true).Nodup := List.Pairwise.filter _ List.nodup_range
  have h4 := (List.perm_ext_iff_of_nodup h1 h2).2 (fun k => by
    simp only [List.mem_map, List.mem_filter, List.mem_range]
    constructor
    · rintro ⟨x, ⟨hx, ha⟩, rfl⟩
      obtain ⟨m, hm, hml⟩ := nums x hx
      unfold aliveE at ha
      rw [hm, Int.toNat_natCast] at ha ⊢
      exact ⟨hml, ha⟩
    · rintro ⟨hk, ha⟩
      obtain ⟨x, hx, hx2⟩ := live k (by simpa using ha)
      refine ⟨x, ⟨hx, ?_⟩, by rw [hx2, Int.toNat_natCast]⟩
      unfold aliveE
      rw [hx2, Int.toNat_natCast]
      exact ha)
  rw [← h4.length_eq, List.length_map]

theorem wf_new : NmWF [] [] [] [] 0 0 := by
  refine ⟨⟨rfl, by simp, ⟨rfl, fun i h => absurd h (Nat.not_lt_zero _)⟩, by simp, by simp, by simp, by simp, rfl, rfl, by simp, by simp, fun i h => absurd h (Nat.not_lt_zero _), fun i h => absurd h (Nat.not_lt_zero _)⟩, by omega⟩

theorem wf_mark {CB NB : List (List Ent)} {al : List Bool} {pl : List Int} {n N : Int} (h : NmWF CB NB al pl n N) (m : Nat) (p id : Int) (hm : (id, (m : Int)) ∈ CB.flatten) (hd : al[m]? = some false) : NmWF CB NB (al.set m true) (pl.set m p) (n + 1) N := by
  obtain ⟨hml, hmv⟩ := List.getElem?_eq_some_iff.1 hd
  refine ⟨⟨by simpa using h.len, h.sorted, h.perm, h.ids, fun x hx => by simpa using h.nums x hx, h.numsN, ?_, ?_, h.stored, by simpa using h.bound, h.small, h.size, h.last⟩, by have := h.most; omega⟩
  · intro k hk
    by_cases e : k = m
    · subst e; exact ⟨_, hm, rfl⟩
    · rw [List.getElem?_set_ne (fun h => e h.symm)] at hk
      exact h.live k hk
  · rw [List.count_set hml, hmv, h.cnt]
    simp

theorem wf_dead {CB NB : List (List Ent)} {al : List Bool} {pl : List Int} {n N : Int} (h : NmWF CB NB al pl n N) (m : Nat) (hd : al[m]? = some true) : NmW0 CB NB (al.set m false) pl (n - 1) N := by
  obtain ⟨hml, hmv⟩ := List.getElem?_eq_some_iff.1 hd
  refine ⟨by simpa using h.len, h.sorted, h.perm, h.ids, fun x hx => by simpa using h.nums x hx, h.numsN, ?_, ?_, h.stored, by simpa using h.bound, h.small, h.size, h.last⟩
  · intro k hk
    by_cases e : k = m
    · subst e
      rw [List.getElem?_set_self hml] at hk
      cases hk
    · rw [List.getElem?_set_ne (fun h => e h.symm)] at hk
      exact h.live k hk
  · have hc : 0 < al.count true := List.count_pos_iff.2 (hmv ▸ List.getElem_mem hml)
    rw [List.count_set hml, hmv, h.cnt]
    simp
    omega

theorem wf_put {CB NB : List (List Ent)} {al : List Bool} {pl : List Int} {n N : Int} (h : NmWF CB NB al pl n N) (id p : Int) (hno : ∀ x ∈ CB.flatten, x.1 ≠ id) (hb : al.length < 5000) (i : Nat) (hi : i ≤ CB.length) (hne : ∀ j (hj : j < CB.length), j < i → CB[j] ≠ []) (hem : ∀ h : i < CB.length, CB[i] = [])
    (l' : List Ent) (hp : l'.Perm (joinB CB i ++ [(id, (al.length : Int))])) (hs : l'.Pairwise fun p q => p.1 ≤ q.1) :
    NmWF (addB CB i (id, (al.length : Int))) (List.replicate i [] ++ l' :: NB.drop (i + 1)) (al ++ [true]) (pl ++ [p]) (n + 1) (N + 1) := by
  have hP := addB_perm CB i (id, (al.length : Int)) hem
  have hL := h.len
  have hPL := h.perm.1
  have hlen : (addB CB i (id, (al.length : Int))).length = (List.replicate i [] ++ l' :: NB.drop (i + 1)).length := by
    rw [addB_len _ _ _ hi]
    simp
    split <;> omega
  have hfl : CB.flatten.length ≤ al.length := by
    have h1 := h.numsN
    have h2 : (CB.flatten.map fun x => x.2.toNat).Nodup := by
      have h3 := List.pairwise_map.1 h1
      refine List.pairwise_map.2 (h3.imp_of_mem ?_)
      intro a b ha hb hab h9
      obtain ⟨k, hk, -⟩ := h.nums a ha
      obtain ⟨m, hm, -⟩ := h.nums b hb
      rw [hk, hm] at hab
      simp only [hk, hm, Int.toNat_natCast] at h9
      exact hab (by rw [h9])
    have h3 := nodup_lt_len h2 (n := al.length) (fun k hk => by
      obtain ⟨x, hx, rfl⟩ := List.mem_map.1 hk
      obtain ⟨m, hm, hml⟩ := h.nums x hx
      rw [hm, Int.toNat_natCast]
      exact hml)
    rwa [List.length_map] at h3
  refine ⟨⟨by simp [hL], ?_, ⟨hlen.symm, ?_⟩, ?_, ?_, ?_, ?_, ?_, ?_, by simp; omega, by rw [hP.length_eq, List.length_cons]; omega, ?_, ?_⟩, by have := h.most; omega⟩
  · intro l hl
    rcases List.mem_append.1 hl with h1 | h1
    · rw [(List.mem_replicate.1 h1).2]; exact List.Pairwise.nil
    · rcases List.mem_cons.1 h1 with rfl | h1
      · exact hs
      · exact h.sorted l (List.mem_of_mem_drop h1)
  · intro j h1 h2
    rw [addB_get]
    by_cases hji : j < i
    · rw [if_pos hji, List.getElem_append_left (by simpa using hji)]
      simp
    · rw [if_neg hji, List.getElem_append_right (by simp; omega)]
      by_cases hj2 : j = i
      · subst hj2
        rw [if_pos rfl]
        simp
        exact hp
      · rw [if_neg hj2]
        simp only [List.length_replicate]
        have e1 : j - i = (j - i - 1) + 1 := by omega
        have hjn : j < NB.length := by simp at h1; omega
        have e2 : (l' :: NB.drop (i + 1))[j - i]'(by simp at h1 ⊢; omega) = NB[j] := by
          rw [← Option.some.injEq, ← List.getElem?_eq_getElem, ← List.getElem?_eq_getElem, e1, List.getElem?_cons_succ, List.getElem?_drop]
          congr 1
          omega
        rw [e2, List.getD_eq_getElem?_getD, List.getElem?_eq_getElem (by omega), Option.getD_some]
        exact h.perm.2 j hjn (by omega)
  · rw [nodup_perm_map hP, List.map_cons, List.nodup_cons]
    refine ⟨fun hx => ?_, h.ids⟩
    obtain ⟨y, hy, e⟩ := List.mem_map.1 hx
    exact hno y hy e
  · intro x hx
    rcases List.mem_cons.1 (hP.mem_iff.1 hx) with rfl | hx
    · exact ⟨al.length, rfl, by simp⟩
    · obtain ⟨k, hk, hkl⟩ := h.nums x hx
      exact ⟨k, hk, by simp; omega⟩
  · rw [nodup_perm_map hP, List.map_cons, List.nodup_cons]
    refine ⟨fun hx => ?_, h.numsN⟩
    obtain ⟨y, hy, e⟩ := List.mem_map.1 hx
    obtain ⟨k, hk, hkl⟩ := h.nums y hy
    simp only at e
    omega
  · intro k hk
    by_cases hkl : k < al.length
    · rw [List.getElem?_append_left hkl] at hk
      obtain ⟨x, hx, e⟩ := h.live k hk
      exact ⟨x, hP.mem_iff.2 (List.mem_cons_of_mem _ hx), e⟩
    · have hk2 := (List.getElem?_eq_some_iff.1 hk).1
      simp at hk2
      have : k = al.length := by omega
      subst this
      exact ⟨_, hP.mem_iff.2 (List.mem_cons_self), rfl⟩
  · rw [h.cnt]; simp
  · rw [hP.length_eq, h.stored]; simp
  · intro j hj
    rw [addB_get]
    by_cases hji : j < i
    · rw [if_pos hji]; left; rfl
    · rw [if_neg hji]
      by_cases hj2 : j = i
      · subst hj2
        rw [if_pos rfl]
        right
        rw [List.length_append, List.length_singleton]
        refine joinB_len CB j hi fun k hk hkj => ?_
        rcases h.size k hk with h9 | h9
        · exact absurd (List.eq_nil_of_length_eq_zero h9) (hne k hk hkj)
        · exact h9
      · rw [if_neg hj2, List.getD_eq_getElem?_getD]
        have hjc : j < CB.length := by rw [addB_len _ _ _ hi] at hj; split at hj <;> omega
        rw [List.getElem?_eq_getElem hjc, Option.getD_some]
        exact h.size j hjc
  · intro j hj hl
    rw [addB_get]
    rw [addB_len _ _ _ hi] at hl
    by_cases hic : i < CB.length
    · rw [if_pos hic] at hl
      rw [if_neg (by omega)]
      by_cases hj2 : j = i
      · rw [if_pos hj2]; simp
      · rw [if_neg hj2, List.getD_eq_getElem?_getD, List.getElem?_eq_getElem (by omega), Option.getD_some]
        exact h.last j (by omega) hl
    · rw [if_neg hic] at hl
      rw [if_neg (by omega), if_pos (by omega)]
      simp

/-- set anew: those that are alive alone -/
theorem wf_anew {CB NB NB' : List (List Ent)} {al : List Bool} {pl : List Int} {n N : Int} (h : NmW0 CB NB al pl n N) (hn : PermB NB' (setC (Lib.bitLen ((CB.reverse.flatten).filter (aliveE al)).length) ((CB.reverse.flatten).filter (aliveE al)))) (hs : ∀ l ∈ NB', l.Pairwise fun p q => p.1 ≤ q.1) :
    NmWF (setC (Lib.bitLen ((CB.reverse.flatten).filter (aliveE al)).length) ((CB.reverse.flatten).filter (aliveE al))) NB' al pl n ((CB.reverse.flatten).filter (aliveE al)).length ∧
    (∀ id p, LiveAt (setC (Lib.bitLen ((CB.reverse.flatten).filter (aliveE al)).length) ((CB.reverse.flatten).filter (aliveE al))).flatten al pl id p ↔ LiveAt CB.flatten al pl id p) := by
  have hR : CB.reverse.flatten.Perm CB.flatten := (List.reverse_perm CB).flatten
  have hF := hR.filter (aliveE al)
  have hlen : ((CB.reverse.flatten).filter (aliveE al)).length = al.count true := by rw [hF.length_eq]; exact alive_len h.nums h.numsN h.live
  have hc := h.cnt
  have hle : ((CB.reverse.flatten).filter (aliveE al)).length ≤ 5000 := by
    have h1 := List.length_filter_le (aliveE al) CB.reverse.flatten
    rw [hR.length_eq] at h1
    exact Nat.le_trans h1 h.small
  generalize hL : (CB.reverse.flatten).filter (aliveE al) = L at *
  have hlt : L.length < 2 ^ Lib.bitLen L.length := by
    by_cases h0 : L.length = 0
    · rw [h0]; decide
    · exact (bitLen_pos_bounds _ (by omega) h0).2.2
  have hP := (setC_perm _ L hlt).trans hF
  have hmem : ∀ x ∈ CB.flatten.filter (aliveE al), x ∈ CB.flatten := fun x hx => (List.mem_filter.1 hx).1
  refine ⟨⟨⟨h.len, hs, hn, ?_, ?_, ?_, ?_, h.cnt, ?_, h.bound, ?_, setC_size _ _, ?_⟩, by omega⟩, ?_⟩
  · rw [nodup_perm_map hP]
    exact List.pairwise_map.2 (List.Pairwise.filter _ (List.pairwise_map.1 h.ids))
  · intro x hx
    exact h.nums x (hmem x (hP.mem_iff.1 hx))
  · rw [nodup_perm_map hP]
    exact List.pairwise_map.2 (List.Pairwise.filter _ (List.pairwise_map.1 h.numsN))
  · intro k hk
    obtain ⟨x, hx, e⟩ := h.live k hk
    refine ⟨x, hP.mem_iff.2 (List.mem_filter.2 ⟨hx, ?_⟩), e⟩
    unfold aliveE
    rw [e, Int.toNat_natCast, hk]
    rfl
  · rw [(setC_perm _ L hlt).length_eq]
  · rw [(setC_perm _ L hlt).length_eq]; exact hle
  · intro i hi hl
    rw [setC_len] at hl
    have h0 : L.length ≠ 0 := by
      intro h0
      rw [h0] at hl
      rw [show Lib.bitLen 0 = 0 from rfl] at hl
      omega
    have hb := bitLen_pos_bounds L.length (by omega) h0
    have e : Lib.bitLen L.length = i + 1 := hl.symm
    have h9 := setC_last i L (by rw [e] at hb; simpa using hb.2.1) (by rw [setC_len]; omega)
    have e2 : (setC (Lib.bitLen L.length) L)[i]? = (setC (i + 1) L)[i]? := by rw [e]
    intro h8
    rw [List.getElem?_eq_getElem hi, List.getElem?_eq_getElem (by rw [setC_len]; omega), h8] at e2
    injection e2 with e2
    exact h9 e2.symm
  · intro id p
    unfold LiveAt
    constructor
    · rintro ⟨k, h1, h2, h3⟩
      exact ⟨k, hmem _ (hP.mem_iff.1 h1), h2, h3⟩
    · rintro ⟨k, h1, h2, h3⟩
      refine ⟨k, hP.mem_iff.2 (List.mem_filter.2 ⟨h1, ?_⟩), h2, h3⟩
      unfold aliveE
      rw [Int.toNat_natCast, h2]
      rfl

theorem pow_mono_le {a b : Nat} (h : 2 ^ a ≤ b) (hb : b < 2 ^ 13) : a < 13 := by
  rcases Nat.lt_or_ge a 13 with h1 | h1
  · exact h1
  · have := Nat.pow_le_pow_right (n := 2) (by decide) h1
    omega

theorem mem_len_le {l : List Ent} {CB : List (List Ent)} (h : l ∈ CB) : l.length ≤ CB.flatten.length := (List.sublist_flatten_of_mem h).length_le

/-- how many buckets -/
theorem NmW0.levels {CB NB : List (List Ent)} {al : List Bool} {pl : List Int} {n N : Int} (h : NmW0 CB NB al pl n N) : CB.length ≤ 13 ∧ (CB.length ≠ 0 → 2 ^ (CB.length - 1) ≤ CB.flatten.length) := by
  rcases Nat.eq_zero_or_pos CB.length with h0 | h0
  · rw [h0]; exact ⟨by decide, fun h => absurd rfl h⟩
  · have h1 : CB.length - 1 < CB.length := by omega
    have h2 := h.last _ h1 (by omega)
    have h3 : CB[CB.length - 1].length = 2 ^ (CB.length - 1) := by
      rcases h.size _ h1 with h9 | h9
      · exact absurd (List.eq_nil_of_length_eq_zero h9) h2
      · exact h9
    have h4 := mem_len_le (List.getElem_mem h1)
    rw [h3] at h4
    have h5 := pow_mono_le h4 (by have := h.small; omega)
    exact ⟨by omega, fun _ => h4⟩

theorem permB_flatten : ∀ {NB CB : List (List Ent)}, PermB NB CB → NB.flatten.Perm CB.flatten
  | [], [], _ => List.Perm.refl _
  | [], _ :: _, h => by cases h.1
  | _ :: _, [], h => by cases h.1
  | a :: NB, b :: CB, h => by
    rw [List.flatten_cons, List.flatten_cons]
    exact (h.2 0 (by simp) (by simp)).append (permB_flatten (NB := NB) (CB := CB) ⟨by simpa using h.1, fun i h1 h2 => h.2 (i + 1) (by simpa using h1) (by simpa using h2)⟩)

theorem NmW0.nsz {CB NB : List (List Ent)} {al : List Bool} {pl : List Int} {n N : Int} (h : NmW0 CB NB al pl n N) : NB.length ≤ 13 ∧ NB.flatten.length ≤ 5000 ∧ (∀ l ∈ NB, l.length ≤ 5000) ∧ CB.flatten.length ≤ 5000 := by
  have h1 := h.levels.1
  have h2 := h.perm.1
  have hs := h.small
  have h3 : NB.flatten.length = CB.flatten.length := (permB_flatten h.perm).length_eq
  exact ⟨by omega, by omega, fun l hl => by have := mem_len_le hl; omega, hs⟩

/-- the names that are alive are just those of the list -/
structure Dir (CB : List (List Ent)) (al : List Bool) (pl : List Int) (D : List (Int × Int)) : Prop where
  iff : ∀ id p, (id, p) ∈ D ↔ LiveAt CB.flatten al pl id p
  nodup : (D.map (·.1)).Nodup
  len : D.length = al.count true

theorem Dir.new : Dir [] [] [] [] := by
  refine ⟨fun id p => ⟨fun h => absurd h List.not_mem_nil, ?_⟩, List.nodup_nil, rfl⟩
  rintro ⟨k, h, _⟩
  exact absurd h List.not_mem_nil

theorem Dir.key {CB : List (List Ent)} {al : List Bool} {pl : List Int} {D : List (Int × Int)} (h : Dir CB al pl D) {id : Int} (hid : id ∈ D.map (·.1)) : ∃ p, LiveAt CB.flatten al pl id p := by
  obtain ⟨x, hx, rfl⟩ := List.mem_map.1 hid
  exact ⟨x.2, (h.iff x.1 x.2).1 hx⟩

theorem Dir.val {CB NB : List (List Ent)} {al : List Bool} {pl : List Int} {n N : Int} {D : List (Int × Int)} (h : Dir CB al pl D) (hw : NmW0 CB NB al pl n N) {id : Int} {m : Nat} (hm : (id, (m : Int)) ∈ CB.flatten) (ha : al[m]? = some true) : ∃ p, (id, p) ∈ D ∧ pl[m]? = some p := by
  have hml := (List.getElem?_eq_some_iff.1 ha).1
  rw [hw.len] at hml
  exact ⟨pl[m], (h.iff _ _).2 ⟨m, hm, ha, List.getElem?_eq_getElem hml⟩, List.getElem?_eq_getElem hml⟩

theorem nodup_snoc {D : List (Int × Int)} {id p : Int} (h : (D.map (·.1)).Nodup) (hn : id ∉ D.map (·.1)) : ((D ++ [(id, p)]).map (·.1)).Nodup := by
  rw [List.map_append, List.nodup_append]
  refine ⟨h, by simp, ?_⟩
  intro a ha b hb
  simp at hb
  subst hb
  exact fun e => hn (e ▸ ha)

theorem Dir.put {CB CB' NB : List (List Ent)} {al : List Bool} {pl : List Int} {n N : Int} {D : List (Int × Int)} (h : Dir CB al pl D) (hw : NmW0 CB NB al pl n N) {id p : Int} (hno : ∀ x ∈ CB.flatten, x.1 ≠ id) (hP : CB'.flatten.Perm ((id, (al.length : Int)) :: CB.flatten)) : Dir CB' (al ++ [true]) (pl ++ [p]) (D ++ [(id, p)]) := by
  have hL := hw.len
  refine ⟨fun id' p' => ?_, nodup_snoc h.nodup (fun hid => ?_), by simp [h.len]⟩
  · rw [List.mem_append, h.iff]
    constructor
    · rintro (⟨k, h1, h2, h3⟩ | h1)
      · have hk := (List.getElem?_eq_some_iff.1 h2).1
        exact ⟨k, hP.mem_iff.2 (List.mem_cons_of_mem _ h1), by rw [List.getElem?_append_left hk]; exact h2, by rw [List.getElem?_append_left (by omega)]; exact h3⟩
      · simp at h1
        obtain ⟨rfl, rfl⟩ := h1
        exact ⟨al.length, hP.mem_iff.2 List.mem_cons_self, by simp, by rw [hL]; simp⟩
    · rintro ⟨k, h1, h2, h3⟩
      rcases List.mem_cons.1 (hP.mem_iff.1 h1) with e | h1
      · right
        injection e with e1 e2
        have : k = al.length := by omega
        subst this
        rw [hL] at h3
        simp at h3
        simp [e1, h3]
      · left
        obtain ⟨m, hm, hml⟩ := hw.nums _ h1
        simp only at hm
        have : k = m := by omega
        subst this
        rw [List.getElem?_append_left hml] at h2
        rw [List.getElem?_append_left (by omega)] at h3
        exact ⟨k, h1, h2, h3⟩
  · obtain ⟨q, k, h1, _⟩ := h.key hid
    exact hno _ h1 rfl

theorem num_one {CB NB : List (List Ent)} {al : List Bool} {pl : List Int} {n N : Int} (hw : NmW0 CB NB al pl n N) {x y : Ent} (hx : x ∈ CB.flatten) (hy : y ∈ CB.flatten) (e : x.2 = y.2) : x = y := by
  have h3 : CB.flatten.Pairwise fun p q => p.2 ≠ q.2 := List.pairwise_map.1 hw.numsN
  rcases pairwise_mem h3 hx hy with h1 | h1 | h1
  · exact h1
  · exact absurd e h1
  · exact absurd e.symm h1

theorem Dir.again {CB NB : List (List Ent)} {al : List Bool} {pl : List Int} {n N : Int} {D : List (Int × Int)} (h : Dir CB al pl D) (hw : NmW0 CB NB al pl n N) {id p : Int} {m : Nat} (hm : (id, (m : Int)) ∈ CB.flatten) (hd : al[m]? = some false) : Dir CB (al.set m true) (pl.set m p) (D ++ [(id, p)]) := by
  have hL := hw.len
  obtain ⟨hml, hmv⟩ := List.getElem?_eq_some_iff.1 hd
  have hml2 : m < pl.length := by omega
  have hne : ∀ q, ¬ LiveAt CB.flatten al pl id q := fun q ⟨k, h1, h2, h3⟩ => by
    have h4 : (id, (k : Int)) = (id, (m : Int)) := nodup_fst hw.ids h1 hm rfl
    injection h4 with _ h4
    have : k = m := by omega
    subst this
    rw [hd] at h2
    cases h2
  refine ⟨fun id' p' => ?_, nodup_snoc h.nodup (fun hid => ?_), ?_⟩
  · rw [List.mem_append, h.iff]
    constructor
    · rintro (⟨k, h1, h2, h3⟩ | h1)
      · have hk : m ≠ k := fun e => by subst e; rw [hd] at h2; cases h2
        exact ⟨k, h1, by rw [List.getElem?_set_ne hk]; exact h2, by rw [List.getElem?_set_ne hk]; exact h3⟩
      · simp at h1
        obtain ⟨rfl, rfl⟩ := h1
        exact ⟨m, hm, by rw [List.getElem?_set_self hml], by rw [List.getElem?_set_self hml2]⟩
    · rintro ⟨k, h1, h2, h3⟩
      by_cases e : k = m
      · subst e
        right
        have h4 : (id', (k : Int)) = (id, (k : Int)) := num_one hw h1 hm rfl
        injection h4 with h4 _
        rw [List.getElem?_set_self hml2] at h3
        injection h3 with h3
        simp [h4, h3]
      · left
        rw [List.getElem?_set_ne (fun h => e h.symm)] at h2 h3
        exact ⟨k, h1, h2, h3⟩
  · obtain ⟨q, hq⟩ := h.key hid
    exact hne q hq
  · rw [List.count_set hml, hmv]
    simp [h.len]

theorem len_drop {D : List (Int × Int)} {id p : Int} (h : (D.map (·.1)).Nodup) (hm : (id, p) ∈ D) : (D.filter fun x => decide (x.1 ≠ id)).length + 1 = D.length := by
  induction D with
  | nil => cases hm
  | cons x l ih =>
    rw [List.map_cons, List.nodup_cons] at h
    rw [List.filter_cons]
    by_cases e : x.1 = id
    · have h2 : l.filter (fun x => decide (x.1 ≠ id)) = l := List.filter_eq_self.2 fun y hy => by
        simp only [decide_eq_true_eq]
        intro h9
        exact h.1 (by rw [e, ← h9]; exact List.mem_map_of_mem hy)
      rw [if_neg (by simp [e]), h2]
      rfl
    · rw [if_pos (by simp [e])]
      rcases List.mem_cons.1 hm with h9 | h9
      · exact absurd (congrArg Prod.fst h9).symm e
      · simp only [List.length_cons]
        rw [ih h.2 h9]

theorem Dir.drop {CB NB : List (List Ent)} {al : List Bool} {pl : List Int} {n N : Int} {D : List (Int × Int)} (h : Dir CB al pl D) (hw : NmW0 CB NB al pl n N) {id : Int} {m : Nat} (hm : (id, (m : Int)) ∈ CB.flatten) (hd : al[m]? = some true) : Dir CB (al.set m false) pl (D.filter fun x => decide (x.1 ≠ id)) := by
  obtain ⟨hml, hmv⟩ := List.getElem?_eq_some_iff.1 hd
  refine ⟨fun id' p' => ?_, ?_, ?_⟩
  · rw [List.mem_filter, h.iff]
    constructor
    · rintro ⟨⟨k, h1, h2, h3⟩, h4⟩
      have hk : m ≠ k := fun e => by
        subst e
        have h5 : (id', (m : Int)) = (id, (m : Int)) := num_one hw h1 hm rfl
        injection h5 with h5 _
        simp [h5] at h4
      exact ⟨k, h1, by rw [List.getElem?_set_ne hk]; exact h2, h3⟩
    · rintro ⟨k, h1, h2, h3⟩
      by_cases e : k = m
      · subst e
        rw [List.getElem?_set_self hml] at h2
        cases h2
      · rw [List.getElem?_set_ne (fun h => e h.symm)] at h2
        refine ⟨⟨k, h1, h2, h3⟩, ?_⟩
        simp only [decide_eq_true_eq]
        intro h5
        subst h5
        have h6 : (id', (k : Int)) = (id', (m : Int)) := nodup_fst hw.ids h1 hm rfl
        injection h6 with _ h6
        omega
  · exact List.pairwise_map.2 (List.Pairwise.filter _ (List.pairwise_map.1 h.nodup))
  · obtain ⟨p, hp, -⟩ := h.val hw hm hd
    have h1 := len_drop h.nodup hp
    rw [List.count_set hml, hmv]
    have h2 := h.len
    show _ = (al.count true - 1) + 0
    omega

theorem Dir.turn {CB CB' : List (List Ent)} {al : List Bool} {pl : List Int} {D : List (Int × Int)} (h : Dir CB al pl D) (hl : ∀ id p, LiveAt CB'.flatten al pl id p ↔ LiveAt CB.flatten al pl id p) : Dir CB' al pl D := ⟨fun id p => (h.iff id p).trans (hl id p).symm, h.nodup, h.len⟩

theorem Dir.swap {CB : List (List Ent)} {al : List Bool} {pl : List Int} {D D' : List (Int × Int)} (h : Dir CB al pl D) (hp : D'.Perm D) : Dir CB al pl D' := ⟨fun id p => hp.mem_iff.trans (h.iff id p), ((hp.map _).nodup_iff).2 h.nodup, hp.length_eq.trans h.len⟩

theorem Dir.all {CB NB : List (List Ent)} {al : List Bool} {pl : List Int} {n N : Int} {D : List (Int × Int)} (h : Dir CB al pl D) (hw : NmW0 CB NB al pl n N) : (liveIds al NB.flatten).Perm (D.map (·.1)) := by
  have hPf : NB.flatten.Perm CB.flatten := permB_flatten hw.perm
  have h1 : (liveIds al NB.flatten).Perm (liveIds al CB.flatten) := (hPf.filter _).map _
  refine h1.trans ((List.perm_ext_iff_of_nodup ?_ h.nodup).2 fun id => ?_)
  · exact List.pairwise_map.2 (List.Pairwise.filter _ (List.pairwise_map.1 hw.ids))
  · unfold liveIds
    constructor
    · intro hid
      obtain ⟨x, hx, rfl⟩ := List.mem_map.1 hid
      obtain ⟨hx1, hx2⟩ := List.mem_filter.1 hx
      obtain ⟨k, hk, hkl⟩ := hw.nums x hx1
      unfold aliveE at hx2
      rw [hk, Int.toNat_natCast] at hx2
      obtain ⟨p, hp, -⟩ := h.val hw (id := x.1) (m := k) (by rw [← hk]; exact hx1) (by simpa using hx2)
      exact List.mem_map.2 ⟨_, hp, rfl⟩
    · intro hid
      obtain ⟨p, k, h1, h2, -⟩ := h.key hid
      exact List.mem_map.2 ⟨_, List.mem_filter.2 ⟨h1, by unfold aliveE; rw [Int.toNat_natCast, h2]; rfl⟩, rfl⟩

theorem tb_bound {CB NB : List (List Ent)} (hp : PermB NB CB) (hsz : ∀ (i : Nat) (h : i < CB.length), CB[i].length = 0 ∨ CB[i].length = 2 ^ i) (hl : CB.length ≤ 60) : ∀ k, k ≤ NB.length → 2 * tbs (NB.take k) ≤ k * (k + 5)
  | 0, _ => by simp [tbs]
  | k + 1, hk => by
    rw [tbs_take_succ NB k hk]
    have ih := tb_bound hp hsz hl k (by omega)
    have hkc : k < CB.length := by rw [← hp.1]; exact hk
    have h1 : tb NB[k].length ≤ k + 3 := by
      rw [(hp.2 k hk hkc).length_eq]
      unfold tb
      rcases hsz k hkc with h | h
      · rw [h]; simp
      · rw [h]
        have h2 := Lib.bitLen_le (2 ^ k) (k + 1) (by omega) (Nat.pow_lt_pow_right (by decide) (by omega))
        split <;> omega
    have e : (k + 1) * (k + 1 + 5) = k * (k + 5) + 2 * (k + 3) := by
      simp only [Nat.add_mul, Nat.mul_add]
      omega
    omega

theorem tbs_bound {CB NB : List (List Ent)} {al : List Bool} {pl : List Int} {n N : Int} (hw : NmWF CB NB al pl n N) : tbs NB ≤ (Lib.bitLen (2 * al.count true + 1) + 1) * (Lib.bitLen (2 * al.count true + 1) + 1) := by
  have hlv := hw.levels
  have h1 := tb_bound hw.perm hw.size (by omega) NB.length (Nat.le_refl _)
  rw [List.take_of_length_le (Nat.le_refl _), hw.perm.1] at h1
  have hm := hw.most
  rw [hw.cnt, hw.stored] at hm
  have h2 : CB.length ≤ Lib.bitLen (2 * al.count true + 1) := by
    rcases Nat.eq_zero_or_pos CB.length with h0 | h0
    · omega
    · have h3 := hlv.2 (by omega)
      have h4 : al.count true ≤ al.length := List.count_le_length
      have hb := hw.bound
      have h5 := bitLen_pos_bounds (2 * al.count true + 1) (by omega) (by omega)
      generalize Lib.bitLen (2 * al.count true + 1) = b at *
      rcases Nat.lt_or_ge b CB.length with h9 | h9
      · have h6 := Nat.pow_le_pow_right (n := 2) (by decide) (show b ≤ CB.length - 1 by omega)
        omega
      · exact h9
  generalize Lib.bitLen (2 * al.count true + 1) = b at *
  generalize CB.length = L at *
  have h3 : (L + 1) * (L + 1) ≤ (b + 1) * (b + 1) := Nat.mul_le_mul (by omega) (by omega)
  have e1 : (L + 1) * (L + 1) = L * L + 2 * L + 1 := by simp only [Nat.add_mul, Nat.mul_add]; omega
  have e2 : L * (L + 5) = L * L + 5 * L := by rw [Nat.mul_add]; omega
  have h4 : L ≤ L * L + 1 := by
    rcases Nat.eq_zero_or_pos L with h | h
    · omega
    · have := Nat.le_mul_of_pos_left L h; omega
  omega

end Go.Proofs.Ytpebefcmloablaa
