/- names.Names: how it lies; none, Len, Stored, Find. -/
import Derived.Test.YtpebefcmloablaaCarB
import Derived.Deep.CutRange
namespace Go.Proofs.Ytpebefcmloablaa
open Go.RowKit Go.Maps
set_option linter.unusedSimpArgs false
set_option linter.unusedVariables false

/-- a directory at block A, its carry at Cb -/
structure NmRep (W : World) (base A Cb : Nat) (bv pv lv cv : Value) (bh ch : List Hdr) (al : List Bool) (pl : List Int) (n N wk : Int) : Prop where
  hb : base ≤ A
  blk : W.heap[A]? = some (Obj.cells #[.pointer (some ⟨Cb, 0, none⟩), bv, pv, lv, .int .i64 n] 72 (0, 0))
  car : CarAt W base Cb cv ch N wk
  brow : W.ownsRow base 89 1 bv bh.length (bh.map eHdr)
  prow : W.ownsRow base 3 1 pv pl.length (pl.map (Value.int .i64))
  arow : W.ownsRow base 4 1 lv al.length (al.map Value.bool)
  bE : RowsE W bh
  cE : RowsE W ch
  sep : bv.ownBlock = none ∨ bv.ownBlock ≠ cv.ownBlock

section
variable {W : World} {base A Cb : Nat} {bv pv lv cv : Value} {bh ch : List Hdr} {al : List Bool} {pl : List Int} {n N wk : Int}

theorem NmRep.cell (h : NmRep W base A Cb bv pv lv cv bh ch al pl n N wk) :
    W.cell? ⟨A, 0, none⟩ = some (.pointer (some ⟨Cb, 0, none⟩)) ∧ W.cell? ⟨A, 1, none⟩ = some bv ∧ W.cell? ⟨A, 2, none⟩ = some pv ∧ W.cell? ⟨A, 3, none⟩ = some lv ∧ W.cell? ⟨A, 4, none⟩ = some (.int .i64 n) := by
  have := h.blk
  refine ⟨?_, ?_, ?_, ?_, ?_⟩ <;> simp [World.cell?, this]
theorem NmRep.frozen (h : NmRep W base A Cb bv pv lv cv bh ch al pl n N wk) (j : Nat) : W.frozen? ⟨A, j, none⟩ = false := by
  have := h.blk
  simp [World.frozen?, this]
theorem NmRep.lt (h : NmRep W base A Cb bv pv lv cv bh ch al pl n N wk) : A < W.heap.size := (Array.getElem?_eq_some_iff.1 h.blk).1
theorem NmRep.below {W' : World} (h : NmRep W base A Cb bv pv lv cv bh ch al pl n N wk) (hb : Below W.heap.size W W') : NmRep W' base A Cb bv pv lv cv bh ch al pl n N wk :=
  ⟨h.hb, (below_heap hb h.blk).trans h.blk, h.car.below hb, ownsRow_below h.brow hb, ownsRow_below h.prow hb, ownsRow_below h.arow hb, h.bE.kept fun b cur fr hk => below_heap hb hk, h.cE.kept fun b cur fr hk => below_heap hb hk, h.sep⟩

set_option maxRecDepth 100000 in
set_option maxHeartbeats 1000000 in
theorem nm_is (h : NmRep W base A Cb bv pv lv cv bh ch al pl n N wk) : Calls Try.prog 49 #[.pointer (some ⟨A, 0, none⟩)] W fun e w' => e = .returned (.bool false) ∧ Below W.heap.size W w' := by
  obtain ⟨c0, -⟩ := h.cell
  clear h
  go_enter Try.func49, Try.ntmps49
  go_wp2
  go_ret
  exact ⟨rfl, Below.refl _ _⟩

set_option maxRecDepth 100000 in
set_option maxHeartbeats 1000000 in
theorem nm_Len (h : NmRep W base A Cb bv pv lv cv bh ch al pl n N wk) : Calls Try.prog 35 #[.pointer (some ⟨A, 0, none⟩)] W fun e w' => e = .returned (.int .i64 n) ∧ Below W.heap.size W w' := by
  have CN := Lib.hid (nm_is h)
  have H := Lib.hid h
  clear h
  go_enter Try.func35, Try.ntmps35
  go_wp2_with fail
  refine CN.out.mono ?_
  rintro e w2 ⟨rfl, hb2⟩
  obtain ⟨-, -, -, -, c4⟩ := (H.out.below hb2).cell
  go_wp2
  go_ret
  exact ⟨rfl, hb2⟩

set_option maxRecDepth 100000 in
set_option maxHeartbeats 1000000 in
theorem nm_Stored (h : NmRep W base A Cb bv pv lv cv bh ch al pl n N wk) : Calls Try.prog 37 #[.pointer (some ⟨A, 0, none⟩)] W fun e w' => e = .returned (.int .i64 N) ∧ Below W.heap.size W w' := by
  have CN := Lib.hid (nm_is h)
  have H := Lib.hid h
  clear h
  go_enter Try.func37, Try.ntmps37
  go_wp2_with fail
  refine CN.out.mono ?_
  rintro e w2 ⟨rfl, hb2⟩
  obtain ⟨c0, -⟩ := (H.out.below hb2).cell
  have CL := Lib.hid (car_len (H.out.below hb2).car)
  go_wp2_with fail
  refine CL.out.mono ?_
  rintro e w3 ⟨rfl, hb3⟩
  go_wp2
  go_ret
  exact ⟨rfl, hb2.trans (hb3.mono hb2.size)⟩
end

/-- a name is there, with its place -/
def LiveAt (ES : List Ent) (al : List Bool) (pl : List Int) (id p : Int) : Prop := ∃ k : Nat, (id, (k : Int)) ∈ ES ∧ al[k]? = some true ∧ pl[k]? = some p

/-- bucket for bucket the same entries -/
def PermB (NB CB : List (List Ent)) : Prop := NB.length = CB.length ∧ ∀ (i : Nat) (h : i < NB.length) (h' : i < CB.length), NB[i].Perm CB[i]

/-- the plain law of a directory -/
structure NmW0 (CB NB : List (List Ent)) (al : List Bool) (pl : List Int) (n N : Int) : Prop where
  len : al.length = pl.length
  sorted : ∀ l ∈ NB, l.Pairwise fun p q => p.1 ≤ q.1
  perm : PermB NB CB
  ids : (CB.flatten.map (·.1)).Nodup
  nums : ∀ x ∈ CB.flatten, ∃ k : Nat, x.2 = k ∧ k < al.length
  numsN : (CB.flatten.map (·.2)).Nodup
  live : ∀ k : Nat, al[k]? = some true → ∃ x ∈ CB.flatten, x.2 = k
  cnt : n = (al.count true : Nat)
  stored : N = (CB.flatten.length : Nat)
  bound : al.length ≤ 5000
  small : CB.flatten.length ≤ 5000
  size : ∀ (i : Nat) (h : i < CB.length), CB[i].length = 0 ∨ CB[i].length = 2 ^ i
  last : ∀ (i : Nat) (h : i < CB.length), i + 1 = CB.length → CB[i] ≠ []
structure NmWF (CB NB : List (List Ent)) (al : List Bool) (pl : List Int) (n N : Int) : Prop extends NmW0 CB NB al pl n N where
  most : N ≤ 2 * n

theorem nodup_fst {L : List Ent} (h : (L.map (·.1)).Nodup) {x y : Ent} (hx : x ∈ L) (hy : y ∈ L) (e : x.1 = y.1) : x = y := by
  have h3 : L.Pairwise fun p q => p.1 ≠ q.1 := List.pairwise_map.1 h
  rcases pairwise_mem h3 hx hy with h1 | h1 | h1
  · exact h1
  · exact absurd e h1
  · exact absurd e.symm h1

theorem forall2_mem {NB CB : List (List Ent)} (h : PermB NB CB) (x : Ent) : x ∈ NB.flatten ↔ x ∈ CB.flatten := by
  simp only [List.mem_flatten]
  constructor
  · rintro ⟨l, hl, hx⟩
    obtain ⟨i, hi, rfl⟩ := List.getElem_of_mem hl
    have hi' : i < CB.length := by rw [← h.1]; exact hi
    exact ⟨CB[i], List.getElem_mem hi', (h.2 i hi hi').mem_iff.1 hx⟩
  · rintro ⟨l, hl, hx⟩
    obtain ⟨i, hi', rfl⟩ := List.getElem_of_mem hl
    have hi : i < NB.length := by rw [h.1]; exact hi'
    exact ⟨NB[i], List.getElem_mem hi, (h.2 i hi hi').mem_iff.2 hx⟩

def FindP (NB CB : List (List Ent)) (al : List Bool) (pl : List Int) (id : Int) (W : World) (e : Ending) (w' : World) : Prop :=
  ∃ t : Nat, t ≤ tbs NB ∧ ((∃ p, LiveAt CB.flatten al pl id p ∧ e = .returned (.tuple #[.int .i64 p, .bool true, .int .i64 t])) ∨ ((∀ p, ¬ LiveAt CB.flatten al pl id p) ∧ e = .returned (.tuple #[.int .i64 0, .bool false, .int .i64 t]))) ∧ Below W.heap.size W w'

section
variable {W : World} {base A Cb : Nat} {bv pv lv cv : Value} {bh ch : List Hdr} {al : List Bool} {pl : List Int} {n N wk : Int}

set_option maxRecDepth 100000 in
set_option maxHeartbeats 2000000 in
theorem nm_Find (h : NmRep W base A Cb bv pv lv cv bh ch al pl n N wk) (hw : NmWF (ch.map (·.2.1)) (bh.map (·.2.1)) al pl n N) (hlen : bh.length ≤ 1000) (hsz : ∀ l ∈ bh.map (·.2.1), l.length ≤ 10000) (id : Int) :
    Calls Try.prog 31 #[.pointer (some ⟨A, 0, none⟩), .int .u32 id] W (FindP (bh.map (·.2.1)) (ch.map (·.2.1)) al pl id W) := by
  have CN := Lib.hid (nm_is h)
  have H := Lib.hid h
  have HF := Lib.hid (fun W' (hb : Below W.heap.size W W') => nm_find0 A id W' _ bh bv base ((h.below hb).cell.2.1) (h.below hb).brow rfl (h.below hb).bE hw.sorted (by simpa using hlen) hsz)
  have HW := Lib.hid hw
  clear h hw hsz
  go_enter Try.func31, Try.ntmps31
  go_wp2_with fail
  refine CN.out.mono ?_
  rintro e w2 ⟨rfl, hb2⟩
  go_wp2_with fail
  refine (HF.out w2 hb2).mono ?_
  rintro e w3 ⟨k, t, rfl, ht, hk, hb3⟩
  have B3 := hb2.trans (hb3.mono hb2.size)
  obtain ⟨-, -, c2, c3, -⟩ := (H.out.below B3).cell
  rcases hk with ⟨y, hy, rfl, rfl⟩ | ⟨rfl, hno⟩
  · rw [forall2_mem HW.out.perm] at hy
    obtain ⟨m, hm, hml⟩ := HW.out.nums y hy
    have hmp : m < pl.length := by rw [← HW.out.len]; exact hml
    obtain ⟨al0, alc, rfl, -, -, hra⟩ := Rd.of_owns (H.out.below B3).arow
    obtain ⟨pl0, plc, rfl, -, -, hrp⟩ := Rd.of_owns (H.out.below B3).prow
    obtain ⟨ab, ao, ea, -, hac⟩ := hra.get (by omega)
    obtain ⟨pb, po, ep, -, hpc⟩ := hrp.get (by omega)
    have za := hac m hml
    have zp := hpc m hmp
    have HLV : Hid (al[m] = true → ∃ p, LiveAt (ch.map (·.2.1)).flatten al pl y.1 p ∧ p = pl[m]) := fun h9 => ⟨pl[m], ⟨m, by rw [← hm]; exact hy, by rw [List.getElem?_eq_getElem hml, h9], by rw [List.getElem?_eq_getElem hmp]⟩, rfl⟩
    have HND : Hid (al[m] = false → ∀ p, ¬ LiveAt (ch.map (·.2.1)).flatten al pl y.1 p) := fun h9 p ⟨k9, h1, h2, h3⟩ => by
      have h4 := HW.out.ids
      have h5 : y = (y.1, (k9 : Int)) := nodup_fst h4 hy h1 rfl
      have h6 : m = k9 := by have := congrArg Prod.snd h5; rw [hm] at this; simp only at this; omega
      subst h6
      rw [List.getElem?_eq_getElem hml, h9] at h2
      cases h2
    have EA := Lib.hid ea
    have EP := Lib.hid ep
    rw [hm]
    clear hac hpc hra hrp ea ep
    generalize al[m] = bb at *
    generalize pl[m] = pp at *
    obtain rfl := EA.out
    obtain rfl := EP.out
    clear EA EP
    have hmi : (m : Int) < (al.length : Int) := by omega
    have hmi2 : (m : Int) < (pl.length : Int) := by omega
    have hml2 : (m : Int) < 9223372036854775807 := by have := HW.out.bound; omega
    cases bb
    · have hnd := Lib.hid (HND.out rfl)
      clear HND HLV hm hy
      go_wp2
      go_ret3
      exact ⟨t, ht, .inr ⟨hnd.out, rfl⟩, B3⟩
    · obtain ⟨p9, hlv, rfl⟩ := HLV.out rfl
      have HL := Lib.hid hlv
      clear HND HLV hm hy hlv HF CN HW hlen hml hmp hb2 hb3 H
      have dneg : decide ((m : Int) < 0) = false := by simp
      go_wp2
      go_ret3
      exact ⟨t, ht, .inl ⟨_, HL.out, rfl⟩, B3⟩
  · have HN : Hid (∀ p, ¬ LiveAt (ch.map (·.2.1)).flatten al pl id p) := fun p ⟨k9, h1, _⟩ => hno _ ((forall2_mem HW.out.perm _).2 h1) rfl
    clear hno
    go_wp2
    go_ret3
    exact ⟨t, ht, .inr ⟨HN.out, rfl⟩, B3⟩
end

end Go.Proofs.Ytpebefcmloablaa
