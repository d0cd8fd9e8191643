/- names.Put: a name that is there, or was there. -/
import Derived.Test.YtpebefcmloablaaNmW
import Derived.Deep.CutBlock
namespace Go.Proofs.Ytpebefcmloablaa
open Go.RowKit Go.Maps
attribute [local irreducible] wpQuiet
set_option linter.unusedSimpArgs false
set_option linter.unusedVariables false

section
variable {W : World} {base A Cb : Nat} {bv pv lv cv : Value} {bh ch : List Hdr} {al : List Bool} {pl : List Int} {n N wk : Int}

theorem row_ne {e t : TypeId} {sz k X : Nat} {v : Value} {xs : List Value} {cs : Array Value} {fr : Nat × Nat} (h : W.ownsRow base e sz v k xs) (hX : W.heap[X]? = some (Obj.cells cs t fr)) (hte : t ≠ e) : ∀ gb, v.ownBlock = some gb → X ≠ gb := by
  rintro gb he rfl
  rcases h.2 with ⟨rfl, _⟩ | ⟨g, cap, cur, rfl, _, hh, _⟩
  · cases he
  · simp only [Value.ownBlock, Option.some.injEq] at he
    subst he
    rw [hX] at hh
    injection hh with hh
    injection hh with _ hh _
    exact hte hh

theorem blk_ne {X Y : Nat} {cs cs' : Array Value} {t t' : TypeId} {fr fr' : Nat × Nat} (hX : W.heap[X]? = some (Obj.cells cs t fr)) (hY : W.heap[Y]? = some (Obj.cells cs' t' fr')) (h : t ≠ t') : X ≠ Y := by
  rintro rfl
  rw [hX] at hY
  injection hY with hY
  injection hY with _ hY _
  exact h hY

/-- the count is written -/
theorem NmRep.setn (h : NmRep W base A Cb bv pv lv cv bh ch al pl n N wk) (n' : Int) : NmRep (W.setCell ⟨A, 4, none⟩ (.int .i64 n')) base A Cb bv pv lv cv bh ch al pl n' N wk where
  hb := h.hb
  blk := by rw [heap_setCell_same W A 4 _ _ _ h.blk]; rfl
  car := ⟨h.car.hb, (heap_setNe (blk_ne h.blk h.car.blk (by decide))).trans h.car.blk, owns_sameH h.car.row fun gb e => heap_setNe (row_ne h.car.row h.blk (by decide) gb e)⟩
  brow := owns_sameH h.brow fun gb e => heap_setNe (row_ne h.brow h.blk (by decide) gb e)
  prow := owns_sameH h.prow fun gb e => heap_setNe (row_ne h.prow h.blk (by decide) gb e)
  arow := owns_sameH h.arow fun gb e => heap_setNe (row_ne h.arow h.blk (by decide) gb e)
  bE := h.bE.kept fun b cur fr hk => heap_setNe (blk_ne h.blk hk (by decide))
  cE := h.cE.kept fun b cur fr hk => heap_setNe (blk_ne h.blk hk (by decide))
  sep := h.sep

theorem row_blk {e : TypeId} {sz k g cp : Nat} {xs : List Value} (h : W.ownsRow base e sz (.slice (some ⟨g, 0, none⟩) k cp) k xs) : ∃ cur, W.heap[g]? = some (Obj.cells cur e (0, 0)) := by
  rcases h.2 with ⟨h1, _⟩ | ⟨g', cap, cur, h1, _, hh, _⟩
  · cases h1
  · injection h1 with h1
    injection h1 with h1
    injection h1 with h1 _ _
    subst h1
    exact ⟨cur, hh⟩

/-- whether a number is alive is written -/
theorem NmRep.setA {g k cp : Nat} (h : NmRep W base A Cb bv pv (.slice (some ⟨g, 0, none⟩) k cp) cv bh ch al pl n N wk) (hk : k = al.length) (m : Nat) (b : Bool) : NmRep (W.setCell ⟨g, m, none⟩ (.bool b)) base A Cb bv pv (.slice (some ⟨g, 0, none⟩) k cp) cv bh ch (al.set m b) pl n N wk := by
  subst hk
  obtain ⟨cur, hg⟩ := row_blk h.arow
  refine ⟨h.hb, (heap_setNe (blk_ne hg h.blk (by decide))).trans h.blk, ⟨h.car.hb, (heap_setNe (blk_ne hg h.car.blk (by decide))).trans h.car.blk, owns_sameH h.car.row fun gb e => heap_setNe (row_ne h.car.row hg (by decide) gb e)⟩,
    owns_sameH h.brow fun gb e => heap_setNe (row_ne h.brow hg (by decide) gb e), owns_sameH h.prow fun gb e => heap_setNe (row_ne h.prow hg (by decide) gb e), ?_,
    h.bE.kept fun b cur fr hk => heap_setNe (blk_ne hg hk (by decide)), h.cE.kept fun b cur fr hk => heap_setNe (blk_ne hg hk (by decide)), h.sep⟩
  rw [List.length_set, List.map_set]
  exact (h.arow.stored m _).1

/-- a place is written -/
theorem NmRep.setP {g k cp : Nat} (h : NmRep W base A Cb bv (.slice (some ⟨g, 0, none⟩) k cp) lv cv bh ch al pl n N wk) (hk : k = pl.length) (m : Nat) (p : Int) : NmRep (W.setCell ⟨g, m, none⟩ (.int .i64 p)) base A Cb bv (.slice (some ⟨g, 0, none⟩) k cp) lv cv bh ch al (pl.set m p) n N wk := by
  subst hk
  obtain ⟨cur, hg⟩ := row_blk h.prow
  refine ⟨h.hb, (heap_setNe (blk_ne hg h.blk (by decide))).trans h.blk, ⟨h.car.hb, (heap_setNe (blk_ne hg h.car.blk (by decide))).trans h.car.blk, owns_sameH h.car.row fun gb e => heap_setNe (row_ne h.car.row hg (by decide) gb e)⟩,
    owns_sameH h.brow fun gb e => heap_setNe (row_ne h.brow hg (by decide) gb e), ?_, owns_sameH h.arow fun gb e => heap_setNe (row_ne h.arow hg (by decide) gb e),
    h.bE.kept fun b cur fr hk => heap_setNe (blk_ne hg hk (by decide)), h.cE.kept fun b cur fr hk => heap_setNe (blk_ne hg hk (by decide)), h.sep⟩
  rw [List.length_set, List.map_set]
  exact (h.prow.stored m _).1

set_option maxRecDepth 100000 in
set_option maxHeartbeats 2000000 in
/-- a name that is there -/
theorem nm_Put_there (h : NmRep W base A Cb bv pv lv cv bh ch al pl n N wk) (hw : NmWF (ch.map (·.2.1)) (bh.map (·.2.1)) al pl n N) (hlen : bh.length ≤ 1000) (hsz : ∀ l ∈ bh.map (·.2.1), l.length ≤ 10000) (id p p0 : Int) (hlive : LiveAt (ch.map (·.2.1)).flatten al pl id p0) :
    Calls Try.prog 30 #[.pointer (some ⟨A, 0, none⟩), .int .u32 id, .int .i64 p] W fun e w' => e = .returned (.int .i64 2) ∧ Below W.heap.size W w' := by
  have CN := Lib.hid (nm_is h)
  have H := Lib.hid h
  have HF := Lib.hid (fun W' (hb : Below W.heap.size W W') => nm_find0 A id W' _ bh bv base ((h.below hb).cell.2.1) (h.below hb).brow rfl (h.below hb).bE hw.sorted (by simpa using hlen) hsz)
  have HW := Lib.hid hw
  have HLV := Lib.hid hlive
  clear h hw hsz hlive
  go_enter Try.func30, Try.ntmps30
  go_wp2_with fail
  refine CN.out.mono ?_
  rintro e w2 ⟨rfl, hb2⟩
  go_wp2_with fail
  refine (HF.out w2 hb2).mono ?_
  rintro e w3 ⟨k, t, rfl, ht, hk, hb3⟩
  have B3 := hb2.trans (hb3.mono hb2.size)
  obtain ⟨m, hm, ham, hpm⟩ := HLV.out
  obtain ⟨-, -, c2, c3, -⟩ := (H.out.below B3).cell
  have hkm : k = (m : Int) := by
    rcases hk with ⟨y, hy, h1, h2⟩ | ⟨-, hno⟩
    · rw [forall2_mem HW.out.perm] at hy
      have := nodup_fst HW.out.ids hy hm (by simpa using h1)
      rw [← h2, this]
    · exact absurd rfl (hno _ ((forall2_mem HW.out.perm _).2 hm))
  subst hkm
  obtain ⟨hml, ham2⟩ := List.getElem?_eq_some_iff.1 ham
  obtain ⟨al0, alc, rfl, -, -, hra⟩ := Rd.of_owns (H.out.below B3).arow
  obtain ⟨ab, ao, ea, -, hac⟩ := hra.get (by omega)
  have za := hac m hml
  rw [ham2] at za
  have hmi : (m : Int) < (al.length : Int) := by omega
  have hge : decide ((0 : Int) ≤ (m : Int)) = true := by simp
  have EA := Lib.hid ea
  clear hac hra ea hk hm HF CN ham ham2
  obtain rfl := EA.out
  clear EA
  go_wp2
  go_ret
  exact ⟨rfl, B3⟩

set_option maxRecDepth 100000 in
set_option maxHeartbeats 4000000 in
/-- a name that was there: its entry is still stored -/
theorem nm_Put_again (h : NmRep W base A Cb bv pv lv cv bh ch al pl n N wk) (hw : NmWF (ch.map (·.2.1)) (bh.map (·.2.1)) al pl n N) (hlen : bh.length ≤ 1000) (hsz : ∀ l ∈ bh.map (·.2.1), l.length ≤ 10000) (id p : Int) (m : Nat) (hm : (id, (m : Int)) ∈ (ch.map (·.2.1)).flatten) (hdead : al[m]? = some false) (hn : 0 ≤ n ∧ n ≤ 100000) :
    Calls Try.prog 30 #[.pointer (some ⟨A, 0, none⟩), .int .u32 id, .int .i64 p] W fun e w' => e = .returned (.int .i64 0) ∧ NmRep w' base A Cb bv pv lv cv bh ch (al.set m true) (pl.set m p) (n + 1) N wk ∧ KpS (fun k => k = A ∨ pv.ownBlock = some k ∨ lv.ownBlock = some k) W w' := by
  have CN := Lib.hid (nm_is h)
  have H := Lib.hid h
  have HF := Lib.hid (fun W' (hb : Below W.heap.size W W') => nm_find0 A id W' _ bh bv base ((h.below hb).cell.2.1) (h.below hb).brow rfl (h.below hb).bE hw.sorted (by simpa using hlen) hsz)
  have HW := Lib.hid hw
  clear h hw hsz
  go_enter Try.func30, Try.ntmps30
  go_wp2_with fail
  refine CN.out.mono ?_
  rintro e w2 ⟨rfl, hb2⟩
  go_wp2_with fail
  refine (HF.out w2 hb2).mono ?_
  rintro e w3 ⟨k, t, rfl, ht, hk, hb3⟩
  have B3 := hb2.trans (hb3.mono hb2.size)
  have R3 := Lib.hid (H.out.below B3)
  obtain ⟨c0, c1, c2, c3, c4⟩ := R3.out.cell
  have hkm : k = (m : Int) := by
    rcases hk with ⟨y, hy, h1, h2⟩ | ⟨-, hno⟩
    · rw [forall2_mem HW.out.perm] at hy
      have := nodup_fst HW.out.ids hy hm (by simpa using h1)
      rw [← h2, this]
    · exact absurd rfl (hno _ ((forall2_mem HW.out.perm _).2 hm))
  subst hkm
  obtain ⟨hml, ham2⟩ := List.getElem?_eq_some_iff.1 hdead
  have hmp : m < pl.length := by rw [← HW.out.len]; exact hml
  obtain ⟨ga, alc, ea, hga1, hga2, -, -⟩ := ownRow_at R3.out.arow (by omega)
  obtain ⟨gp, plc, ep, hgp1, hgp2, -, -⟩ := ownRow_at R3.out.prow (by omega)
  subst ea ep
  have za := R3.out.arow.cellAt m (by omega)
  have zp := R3.out.prow.cellAt m (by omega)
  rw [List.getElem?_map, hdead] at za
  rw [List.getElem?_map, List.getElem?_eq_getElem hmp] at zp
  simp only [Option.map_some] at za zp
  have fa := R3.out.arow.frozenAt m
  have fp := R3.out.prow.frozenAt m
  have f4 := R3.out.frozen 4
  have hmi : (m : Int) < (al.length : Int) := by omega
  have hmi2 : (m : Int) < (pl.length : Int) := by omega
  have hge : decide ((0 : Int) ≤ (m : Int)) = true := by simp
  have hn1 : (-9223372036854775808 : Int) ≤ n + 1 ∧ n + 1 ≤ 9223372036854775807 := by omega
  have S4 := R3.out.setn (n + 1)
  obtain ⟨d0, d1, d2, d3, d4⟩ := S4.cell
  have za4 := S4.arow.cellAt m (by omega)
  have zp4 := S4.prow.cellAt m (by omega)
  rw [List.getElem?_map, hdead] at za4
  rw [List.getElem?_map] at zp4
  have fa4 := S4.arow.frozenAt m
  have fp4 := S4.prow.frozenAt m
  have S5 := (S4.setA rfl m true).setP rfl m p
  have S5a := S4.setA rfl m true
  have zp5 := S5a.prow.cellAt m (by omega)
  rw [List.getElem?_map] at zp5
  have fp5 := S5a.prow.frozenAt m
  have hpm : ∃ q, pl[m]? = some q := ⟨pl[m], List.getElem?_eq_getElem hmp⟩
  obtain ⟨pp, hpp⟩ := hpm
  rw [hpp] at zp4 zp5
  simp only [Option.map_some] at za4 zp4 zp5
  have HS5 := Lib.hid S5
  clear S5 S4 S5a hk hm HF CN ham2
  have HK5 : Hid (KpS (fun k => k = A ∨ Value.ownBlock (.slice (some ⟨gp, 0, none⟩) pl.length plc) = some k ∨ Value.ownBlock (.slice (some ⟨ga, 0, none⟩) al.length alc) = some k) W (((w3.setCell ⟨A, 4, none⟩ (.int .i64 (n + 1))).setCell ⟨ga, m, none⟩ (.bool true)).setCell ⟨gp, m, none⟩ (.int .i64 p)).drew) :=
    ((((KpS.refl _ W).below B3).set _ (.inl (.inl rfl))).set _ (.inl (.inr (.inr rfl)))).set _ (.inl (.inr (.inl rfl))) |>.drew
  go_wp2
  go_region
  all_goals
    go_wp2
    go_ret
    exact ⟨rfl, HS5.out.below (Below.refl _ _).drew, HK5.out⟩
end

end Go.Proofs.Ytpebefcmloablaa
