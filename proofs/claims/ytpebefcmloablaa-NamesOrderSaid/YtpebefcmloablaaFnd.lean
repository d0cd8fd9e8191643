/- names.Names: how a directory lies in memory; find. -/
import Derived.Test.YtpebefcmloablaaEntB
namespace Go.Proofs.Ytpebefcmloablaa
open Go.RowKit Go.Maps
set_option linter.unusedSimpArgs false
set_option linter.unusedVariables false

/-- a bucket's header: where it lies, what it holds, its room -/
abbrev Hdr := Option Addr × List Ent × Nat
def eHdr (h : Hdr) : Value := .slice h.1 h.2.1.length h.2.2

/-- entries that lie in a block of entries -/
def RdE (W : World) (a : Option Addr) (l : List Ent) : Prop :=
  l = [] ∨ ∃ b off cur fr, a = some ⟨b, off, none⟩ ∧ W.heap[b]? = some (Obj.cells cur 86 fr) ∧ ∀ i (h : i < l.length), ∀ j, j < 2 → cur[off + i * 2 + j]? = (eEnt l[i])[j]?

theorem RdE.rdk {W : World} {a : Option Addr} {l : List Ent} (h : RdE W a l) : RdK eEnt 2 W a l := by
  rcases h with h | ⟨b, off, cur, fr, rfl, hb, hc⟩
  · exact .inl h
  · refine .inr ⟨b, off, rfl, (Array.getElem?_eq_some_iff.1 hb).1, fun i hi j hj => ?_⟩
    have := hc i hi j hj
    simp only [World.cell?, hb]
    simpa using this

theorem RdE.of_owns {W : World} {base : Nat} {v : Value} {n : Nat} {l : List Ent} (h : W.ownsRow base 86 2 v n (l.flatMap eEnt)) : ∃ a c, v = .slice a l.length c ∧ n = l.length ∧ l.length ≤ c ∧ RdE W a l := by
  obtain ⟨hn, h⟩ := h
  rw [flat_len eEnt_len] at hn
  obtain rfl : n = l.length := by omega
  rcases h with ⟨rfl, h0⟩ | ⟨g, cap, cur, rfl, hg, hh, hc, hm, hs, ht⟩
  · obtain rfl : l = [] := List.eq_nil_of_length_eq_zero h0
    exact ⟨none, 0, rfl, rfl, Nat.le_refl _, .inl rfl⟩
  · refine ⟨_, cap, rfl, rfl, hc, .inr ⟨g, 0, cur, _, rfl, hh, fun i hi j hj => ?_⟩⟩
    have h1 := flat_get eEnt_len l i hi j hj
    rw [← ht, List.getElem?_take, if_pos (by omega)] at h1
    simpa using h1

/-- the blocks of entries stay -/
theorem RdE.kept {W W' : World} {a : Option Addr} {l : List Ent} (h : RdE W a l) (hk : ∀ (b : Nat) cur fr, W.heap[b]? = some (Obj.cells cur 86 fr) → W'.heap[b]? = W.heap[b]?) : RdE W' a l := by
  rcases h with h | ⟨b, off, cur, fr, rfl, hb, hc⟩
  · exact .inl h
  · exact .inr ⟨b, off, cur, fr, rfl, (hk b cur fr hb).trans hb, hc⟩

def RowsE (W : World) (hs : List Hdr) : Prop := ∀ h ∈ hs, RdE W h.1 h.2.1 ∧ h.2.1.length ≤ h.2.2

theorem RowsE.kept {W W' : World} {hs : List Hdr} (h : RowsE W hs) (hk : ∀ (b : Nat) cur fr, W.heap[b]? = some (Obj.cells cur 86 fr) → W'.heap[b]? = W.heap[b]?) : RowsE W' hs := fun x hx => ⟨(h x hx).1.kept hk, (h x hx).2⟩

theorem below_heap {W W' : World} (h : Below W.heap.size W W') {b : Nat} {o : Obj} (hb : W.heap[b]? = some o) : W'.heap[b]? = W.heap[b]? := h.block b (Array.getElem?_eq_some_iff.1 hb).1

/-- what a search in a bucket touches at most -/
def tb (n : Nat) : Nat := if n = 0 then 0 else Lib.bitLen n + 2
def tbs (NB : List (List Ent)) : Nat := (NB.map fun l => tb l.length).sum

theorem tbs_take_succ (NB : List (List Ent)) (i : Nat) (h : i < NB.length) : tbs (NB.take (i + 1)) = tbs (NB.take i) + tb NB[i].length := by
  unfold tbs
  rw [List.take_succ_eq_append_getElem h]
  simp only [List.map_append, List.map_cons, List.map_nil, List.sum_append, List.sum_cons, List.sum_nil]
  omega

/-- what find answers -/
def FndP (NB : List (List Ent)) (id : Int) (W : World) (e : Ending) (w' : World) : Prop :=
  ∃ (k : Int) (t : Nat), e = .returned (.tuple #[.int .i64 k, .int .i64 t]) ∧ t ≤ tbs NB ∧ ((∃ x ∈ NB.flatten, x.1 = id ∧ x.2 = k) ∨ (k = -1 ∧ ∀ x ∈ NB.flatten, x.1 ≠ id)) ∧ Below W.heap.size W w'

theorem tbs_le {NB : List (List Ent)} {i : Nat} : tbs (NB.take i) ≤ tbs NB := by
  have h : tbs NB = tbs (NB.take i) + tbs (NB.drop i) := by
    unfold tbs
    rw [← List.sum_append, ← List.map_append, List.take_append_drop]
  omega

set_option maxRecDepth 100000 in
set_option maxHeartbeats 4000000 in
theorem nm_find0 (A : Nat) (id : Int) (W : World) (NB : List (List Ent)) (bh : List Hdr) (bv : Value) (base : Nat) (hA : W.cell? ⟨A, 1, none⟩ = some bv) (hbv : W.ownsRow base 89 1 bv bh.length (bh.map eHdr)) (hnb : bh.map (·.2.1) = NB) (hrows : RowsE W bh)
    (hs : ∀ l ∈ NB, l.Pairwise fun p q => p.1 ≤ q.1) (hlen : NB.length ≤ 1000) (hsz : ∀ l ∈ NB, l.length ≤ 10000) : Calls Try.prog 50 #[.pointer (some ⟨A, 0, none⟩), .int .u32 id] W (FndP NB id W) := by
  have hbl : bh.length = NB.length := by rw [← hnb]; simp
  have HS := Lib.hid hs
  have HZ := Lib.hid hsz
  have htot : Hid (∀ i, tbs (NB.take i) ≤ 20 * i) := fun i => by
    unfold tbs
    induction i with
    | zero => simp
    | succ i ih =>
      by_cases hi : i < NB.length
      · rw [List.take_succ_eq_append_getElem hi]
        have h1 : tb NB[i].length ≤ 20 := by
          unfold tb
          have := bitLen_mono (HZ.out _ (List.getElem_mem hi)) (by decide)
          have h2 : Lib.bitLen 10000 = 14 := by decide
          split <;> omega
        simp only [List.map_append, List.map_cons, List.map_nil, List.sum_append, List.sum_cons, List.sum_nil]
        omega
      · rw [List.take_of_length_le (by omega)]
        rw [List.take_of_length_le (by omega)] at ih
        omega
  have HR : Hid (∀ i (hi : i < bh.length) (hi2 : i < NB.length), RdK eEnt 2 W bh[i].1 NB[i] ∧ W.heap.size = W.heap.size ∧ bh[i].2.1 = NB[i]) := fun i hi hi2 => by
    have e1 : bh[i].2.1 = NB[i] := by simp [← hnb]
    exact ⟨by rw [← e1]; exact (hrows _ (List.getElem_mem hi)).1.rdk, rfl, e1⟩
  obtain ⟨av, cv, rfl, -, -, hrd⟩ := Rd.of_owns (enc := eHdr) hbv
  have HD := Lib.hid hrd
  have ka := cell_belowW hA
  have hAl := World.block_lt_of_cell? W _ hA
  clear hs hsz hbv hnb hrows hrd
  go_enter Try.func50, Try.ntmps50
  go_wp2
  go_loopw [16] (fun kv wr => ∃ i c : Nat, kv = .int .i64 i ∧ i ≤ bh.length ∧ Hid (Boxed wr W.heap.size 3 (.int .i64 c)) ∧ Hid (c ≤ tbs (NB.take i)) ∧ Hid (∀ x ∈ (NB.take i).flatten, x.1 ≠ id) ∧ Below W.heap.size W wr) (fun kv _ => bh.length - (intOf kv).toNat)
  case atStart => exact ⟨0, 0, rfl, Nat.zero_le _, Boxed.new _ _ _, Nat.zero_le _, by intro x hx; simp at hx, (Below.refl _ _).alloc (Nat.le_refl _) _⟩
  case round =>
    clear ka
    obtain ⟨i, c, rfl, hi, HB, HC, HN, hb⟩ := hrel
    by_cases hlt : i < bh.length
    · have hlt2 : i < NB.length := by omega
      have hc20 : c ≤ 100000 := by have h1 := HC.out; have h2 := htot.out i; omega
      obtain ⟨b, off, ea, hbl2, hcs⟩ := HD.out.get (by omega)
      have z := (hb.cell (p := ⟨b, off + i, none⟩) hbl2).trans (hcs i hlt)
      obtain ⟨r1, -, r3⟩ := HR.out i hlt hlt2
      have HTS := Lib.hid (tbs_take_succ NB i hlt2)
      have HFL : Hid ((∀ x ∈ NB[i], x.1 ≠ id) → ∀ x ∈ (NB.take (i + 1)).flatten, x.1 ≠ id) := fun h x hx => by
        rw [List.take_succ_eq_append_getElem hlt2, List.flatten_append, List.mem_append] at hx
        rcases hx with hx | hx
        · exact HN.out x hx
        · exact h x (by simpa using hx)
      have HMEM : Hid (∀ x ∈ NB[i], x ∈ NB.flatten) := fun x hx => List.mem_flatten.2 ⟨_, List.getElem_mem hlt2, hx⟩
      have hsi := HS.out _ (List.getElem_mem hlt2)
      have hzi := HZ.out _ (List.getElem_mem hlt2)
      have HLE := Lib.hid (tbs_le (NB := NB) (i := i + 1))
      have EA := Lib.hid ea
      unfold eHdr at z
      clear hcs ea
      generalize NB[i] = l at *
      generalize bh[i] = hd at *
      obtain ⟨ai, li, ci⟩ := hd
      simp only at r3 r1 z
      subst r3
      obtain rfl := EA.out
      clear EA
      have hlt3 : (i : Int) < (bh.length : Int) := by omega
      have hw1 := HB.out.lt
      have BS := bsfE ai li li.length ci id W.heap.size c W wr rfl hzi hc20 r1 (Nat.le_refl _) hb hsi HB.out
      go_wp2_with fail
      refine BS.mono ?_
      rintro e w2 ⟨k, c2, bb, rfl, hk, h1, h2, hc2, hc3, hB2, hb2⟩
      have B2 := hb.trans hb2
      clear z BS hb hb2 HB
      have K1 := Lib.hid h1
      have K2 := Lib.hid h2
      have HTB : Hid (tb li.length = if li.length = 0 then 0 else Lib.bitLen li.length + 2) := rfl
      have hbl9 := bitLen_mono hzi (by decide)
      have hbl8 : Lib.bitLen 10000 = 14 := by decide
      by_cases hkl : k < li.length
      · have hne : ¬ li.length = 0 := by omega
        rw [if_neg hne] at hc2
        have hT := HTB.out
        rw [if_neg hne] at hT
        have q0 := hB2.cell
        have q1 := hB2.frozen
        have hB3 := hB2.set (.int .i64 ((c2 + 1 : Nat) : Int))
        have B3 := B2.setCell (p := ⟨W.heap.size, 0, none⟩) (Nat.le_refl _) (.int .i64 ((c2 + 1 : Nat) : Int))
        obtain ⟨b9, off9, ea, -, hcs⟩ := (r1.below B3).get (by omega)
        have x0 := hcs k hkl 0 (by omega)
        have x1 := hcs k hkl 1 (by omega)
        simp only [eEnt, List.getElem?_cons_zero, List.getElem?_cons_succ, Nat.add_zero] at x0 x1
        have HNX : Hid (li[k].1 ≠ id → ∀ x ∈ li, x.1 ≠ id) := fun h x hx => by
          obtain ⟨t, ht, rfl⟩ := List.getElem_of_mem hx
          by_cases htk : t < k
          · have := K1.out t ht htk
            omega
          · have h3 := K2.out k hkl (Nat.le_refl _)
            rcases Nat.lt_or_eq_of_le (Nat.le_of_not_lt htk) with h4 | h4
            · have h5 := List.pairwise_iff_getElem.1 hsi k t hkl ht h4
              omega
            · subst h4; exact h
        have HMK := Lib.hid (HMEM.out li[k] (List.getElem_mem hkl))
        have EA := Lib.hid ea
        have hkl2 : (k : Int) < (li.length : Int) := by omega
        rw [show ((c2 + 1 : Nat) : Int) = (c2 : Int) + 1 by omega] at hB3 B3 x0 x1
        have q2 := hB3.cell
        clear hcs ea h1 h2 K1 K2
        generalize li[k] = y at *
        obtain ⟨yx, yn⟩ := y
        simp only at x0 x1 HNX
        obtain rfl := EA.out
        clear EA r1
        have HBB := Lib.hid hB3
        have HB4 := Lib.hid B3
        clear hB3 B3 B2
        by_cases he : yx = id
        · have de : (yx == id) = true := by simp [he]
          have HIN : Hid (∃ x ∈ NB.flatten, x.1 = id ∧ x.2 = yn) := ⟨_, HMK.out, he, rfl⟩
          have hfin : c2 + 1 ≤ tbs NB := by
            have := HC.out; have := HTS.out; have := HLE.out; omega
          clear he HNX HMK
          go_wp2
          go_region
          all_goals
            go_wp2
            go_ret2
            exact ⟨yn, c2 + 1, rfl, hfin, .inl HIN.out, HB4.out.drew⟩
        · have de : (yx == id) = false := by simp [he]
          have HF2 := Lib.hid (HFL.out (HNX.out he))
          have HC2 : Hid (c2 + 1 ≤ tbs (NB.take (i + 1))) := by
            have := HC.out; have := HTS.out; show _ ≤ _; omega
          clear he HNX HMK
          go_wp2
          go_roundw
          case rel => exact ⟨i + 1, c2 + 1, by go_num, by omega, HBB, HC2, HF2, HB4.out⟩
          case measure => simp [intOf]; omega
      · obtain rfl : k = li.length := by omega
        have HF2 : Hid (∀ x ∈ (NB.take (i + 1)).flatten, x.1 ≠ id) := HFL.out fun x hx => by
          obtain ⟨t, ht, rfl⟩ := List.getElem_of_mem hx
          have := K1.out t ht ht
          omega
        have HC2 : Hid (c2 ≤ tbs (NB.take (i + 1))) := by
          have h3 := HC.out; have h4 := HTS.out; have h5 := HTB.out
          show _ ≤ _
          by_cases h0 : li.length = 0
          · rw [if_pos h0] at h5 hc2
            have h6 : Lib.bitLen li.length = 0 := by rw [h0]; rfl
            omega
          · rw [if_neg h0] at h5 hc2
            omega
        have HBB := Lib.hid hB2
        clear h1 h2 K1 K2 hB2 hc2
        go_wp2
        go_roundw
        case rel => exact ⟨i + 1, c2, by go_num, by omega, HBB, HC2, HF2, B2⟩
        case measure => simp [intOf]; omega
    · obtain rfl : i = bh.length := by omega
      have q0 := HB.out.cell
      have hfin : c ≤ tbs NB := by
        have h1 := HC.out
        rw [List.take_of_length_le (by omega)] at h1
        exact h1
      have HNN : Hid (∀ x ∈ NB.flatten, x.1 ≠ id) := by
        have h1 := HN.out
        rw [List.take_of_length_le (by omega)] at h1
        exact h1
      go_wp2
      go_region
      all_goals
        go_wp2
        go_ret2
        exact ⟨-1, c, rfl, hfin, .inr ⟨rfl, HNN.out⟩, hb.drew⟩

end Go.Proofs.Ytpebefcmloablaa
