/- low: the state of Lows; its closure add. -/
import Derived.Test.YtggfdlanobndjaaGreatLwN
namespace Go.Proofs.YtggfdlanobndjaaGreat
open Go.RowKit Go.Sort Go.Shelf Go.Lib Go.Maps
attribute [local irreducible] wpQuiet
set_option linter.unusedSimpArgs false
set_option linter.unusedVariables false

/-- the variables of Lows and its queue; c: what was touched so far -/
structure LsAt (w : World) (hi tb tc vt vq qb base : Nat) (c : Nat) (f : Qf) (n : Nat) : Prop where
  ct : w.heap[tc]? = some (.cells #[.int .i64 c] 3 (0, 0))
  tv : w.heap[vt]? = some (.cells #[.pointer (some ⟨tb, 0, none⟩)] 62 (0, 0))
  qvr : w.heap[vq]? = some (.cells #[.pointer (some ⟨qb, 0, none⟩)] 128 (0, 0))
  q : ∃ qv, QuAt w tb qb base (qrow f n) qv
  ord : hi ≤ tc ∧ hi ≤ vt ∧ hi ≤ vq ∧ hi ≤ qb ∧ tc < base ∧ vt < base ∧ vq < base ∧ qb < base ∧ base ≤ w.heap.size
  ne : tc ≠ vt ∧ tc ≠ vq ∧ tc ≠ qb ∧ vt ≠ vq ∧ vt ≠ qb ∧ vq ≠ qb

/-- what add does -/
def AddP (w' : World) (R : List Pt) (YS : List Nat) (k hi tb tc vt vq qb base c : Nat) (f : Qf) (n : Nat) : Prop :=
  (bst (nds R.length) YS k = none → LsAt w' hi tb tc vt vq qb base (c + 1) f n) ∧ (bst (nds R.length) YS k ≠ none → LsAt w' hi tb tc vt vq qb base (c + 1) (upF (lbQ R (nds R.length) YS) (addF f n k) n) (n + 1))
set_option maxRecDepth 100000 in
set_option maxHeartbeats 4000000 in
theorem low_add {w : World} {lo hi tb fb tc vt vq qb base c n : Nat} {cnt : Int} {R : List Pt} {gone : List Bool} {YS : List Nat} {V : HepV} (f : Qf) (k : Nat) (hA : LptAt w lo hi tb fb R (bst (nds R.length) YS) cnt V) (hW : CscWF R gone YS) (hR : R.length ≤ 20000) (H : LsAt w hi tb tc vt vq qb base c f n) (hn : n < 1000000) (hc : c < 1000000000) (hQ : QNod R YS (qrow f n)) (hk : k < (nds R.length).length) :
    Calls Tryz.prog 76 #[.int .i64 k, .pointer (some ⟨tc, 0, none⟩), .pointer (some ⟨vt, 0, none⟩), .pointer (some ⟨vq, 0, none⟩)] w fun e w' => e = .returned (.tuple #[]) ∧
      AddP w' R YS k hi tb tc vt vq qb base c f n ∧ KpS (fun g => g = tc ∨ g = qb ∨ base ≤ g) w w' ∧ PtsK w w' := by
  obtain ⟨ct, tv, qvr, ⟨qv, hq⟩, hord, hne⟩ := H
  obtain ⟨w1, ew1⟩ : ∃ w1, w1 = w.setCell ⟨tc, 0, none⟩ (.int .i64 ((c + 1 : Nat) : Int)) := ⟨_, rfl⟩
  have K1 : KpS (fun g => g = tc) w w1 := by rw [ew1]; exact (KpS.refl (fun g => g = tc) w).set (a := ⟨tc, 0, none⟩) _ (.inl rfl)
  have ct1 : w1.heap[tc]? = some (.cells #[.int .i64 ((c + 1 : Nat) : Int)] 3 (0, 0)) := by rw [ew1]; exact heap_setCell_same w tc 0 _ _ _ ct
  have tv1 := blkK K1 tv (fun h => hne.1 h.symm)
  have qr1 := blkK K1 qvr (fun h => hne.2.1 h.symm)
  have hq1 : QuAt w1 tb qb base (qrow f n) qv := ⟨blkK K1 hq.blk (fun h => hne.2.2.1 h.symm), rowK hq.row K1 (fun g h h2 => by have := (hq.row.lt g h).1; have := hord.2.2.2.2.1; omega), hq.lt⟩
  have hA1 := hA.kept K1 (fun k h1 h2 h3 => by have := hord.1; omega)
  have hs1 := K1.size
  have HP1 := Lib.hid (PtsK.of K1 fun g cs fr h h2 => blk_ne ct h (by decide) h2.symm)
  have htl := hA1.tbl
  obtain ⟨gh, ch, ehv, -, -, -, -, hghl, hcs, -⟩ := hA1.holds (by have := nds_len R.length; omega)
  have y0 := (hcs k hk).1
  have hb' := hA1.blk
  rw [ehv] at hb'
  have c4 : w1.cell? ⟨tb, 4, none⟩ = some (.slice (some ⟨gh, 0, none⟩) (nds R.length).length ch) := by simp [World.cell?, hb']
  have t1 : w1.cell? ⟨vt, 0, none⟩ = some (.pointer (some ⟨tb, 0, none⟩)) := by simp [World.cell?, tv1]
  have q1 : w1.cell? ⟨vq, 0, none⟩ = some (.pointer (some ⟨qb, 0, none⟩)) := by simp [World.cell?, qr1]
  have a0 : w.cell? ⟨tc, 0, none⟩ = some (.int .i64 c) := by simp [World.cell?, ct]
  have z0 : w.frozen? ⟨tc, 0, none⟩ = false := by simp [World.frozen?, ct]
  have hM : (nds R.length).length ≤ 40000 := by rw [nds_len]; omega
  have CP : Hid (bst (nds R.length) YS k ≠ none → Calls Tryz.prog 77 #[.iface 128 (.pointer (some ⟨qb, 0, none⟩)), .iface 3 (.int .i64 k)] w1 fun e w' => e = .returned (.tuple #[]) ∧ (∃ qv', QuAt w' tb qb base (qrow (upF (lbQ R (nds R.length) YS) (addF f n k) n) (n + 1)) qv') ∧ KpS (fun g => g = qb ∨ base ≤ g) w1 w' ∧ PtsK w1 w') := fun h9 =>
    que_hpush f k hA1 hW hR hord.2.2.2.1 hq1 (by omega) hn (fun x hx => by
      rw [addF_row, List.mem_append, List.mem_singleton] at hx
      rcases hx with hx | rfl
      · exact hQ x hx
      · exact ⟨hk, h9⟩)
  have EW := Lib.hid ew1
  have HK1 := Lib.hid K1
  have HQ1 := Lib.hid hq1
  have HCT := Lib.hid ct1
  have HTV := Lib.hid tv1
  have HQR := Lib.hid qr1
  clear ew1 K1 ct tv qvr hq hq1 ct1 tv1 qr1 hb' hcs ehv hA hA1 hQ hW
  generalize (nds R.length).length = M at *
  go_enter Tryz.func76, Tryz.ntmps76
  go_upto_region 1 with fail
  rw [show ((c : Int) + 1) = ((c + 1 : Nat) : Int) by omega, ← EW.out]
  clear EW a0 z0
  cases hbk : bst (nds R.length) YS k with
  | none =>
    rw [hbk] at y0
    simp only [eHo] at y0
    have HFIN : Hid (LsAt w1 hi tb tc vt vq qb base (c + 1) f n ∧ KpS (fun g => g = tc ∨ g = qb ∨ base ≤ g) w w1 ∧ PtsK w w1) := ⟨⟨HCT.out, HTV.out, HQR.out, ⟨_, HQ1.out⟩, by have := hs1; omega, hne⟩, HK1.out.mono fun g h => .inl h, HP1.out⟩
    have HBK := Lib.hid hbk
    clear hbk
    go_wp2
    go_end0
    exact ⟨rfl, ⟨fun _ => HFIN.out.1, fun h => absurd HBK.out h⟩, HFIN.out.2⟩
  | some i =>
    rw [hbk] at y0
    simp only [eHo] at y0
    have e1 : ((i : Int) == -1) = false := by first | (simp; done) | (simp; omega)
    have e2 : decide ((i : Int) = -1) = false := by first | (simp; done) | (simp; omega)
    have e3 : ((i : Int) != -1) = true := by first | (simp; done) | (simp; omega)
    have CP2 := Lib.hid (CP.out (by rw [hbk]; simp))
    have HBK := Lib.hid hbk
    clear hbk CP
    go_wp2_with fail
    refine CP2.out.mono ?_
    rintro e w3 ⟨rfl, hq3, hk3, hp3⟩
    have HFIN : Hid (LsAt w3 hi tb tc vt vq qb base (c + 1) (upF (lbQ R (nds R.length) YS) (addF f n k) n) (n + 1) ∧ KpS (fun g => g = tc ∨ g = qb ∨ base ≤ g) w w3 ∧ PtsK w w3) :=
      ⟨⟨blkK hk3 HCT.out (fun h => by rcases h with h | h <;> omega), blkK hk3 HTV.out (fun h => by rcases h with h | h <;> omega), blkK hk3 HQR.out (fun h => by rcases h with h | h <;> omega), hq3, by have := hk3.size; omega, hne⟩, (HK1.out.mono fun g h => .inl h).trans (hk3.mono fun g h => .inr h), HP1.out.trans hp3⟩
    clear hq3 hk3 hp3 CP2
    go_wp2
    go_end0
    exact ⟨rfl, ⟨fun h => absurd (HBK.out.symm.trans h) (by simp), fun _ => HFIN.out.1⟩, HFIN.out.2⟩
end Go.Proofs.YtggfdlanobndjaaGreat
