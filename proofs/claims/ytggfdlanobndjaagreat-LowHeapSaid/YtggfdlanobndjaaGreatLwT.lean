/- low: Lows. -/
import Derived.Test.YtggfdlanobndjaaGreatLwS
import Derived.Test.YtggfdlanobndjaaGreatLwO
namespace Go.Proofs.YtggfdlanobndjaaGreat
open Go.RowKit Go.Sort Go.Shelf Go.Lib Go.Maps
attribute [local irreducible] wpQuiet
attribute [local go_sem] Oper.still1
set_option linter.unusedSimpArgs false
set_option linter.unusedVariables false

section
variable {w w' : World} {hi tb tc vt vq qb base c n : Nat} {f : Qf}
/-- what lies elsewhere, or holds points, may change -/
theorem LsAt.kept {S : Nat → Prop} (H : LsAt w hi tb tc vt vq qb base c f n) (K : KpS S w w') (hS : ∀ g, S g → g < w.heap.size → ∃ cs fr, w.heap[g]? = some (Obj.cells cs 34 fr)) : LsAt w' hi tb tc vt vq qb base c f n := by
  obtain ⟨ct, tv, qvr, ⟨qv, hq⟩, hord, hne⟩ := H
  have nb : ∀ {b : Nat} {cs : Array Value} {t : TypeId} {fr : Nat × Nat}, w.heap[b]? = some (Obj.cells cs t fr) → t ≠ 34 → ¬ S b := fun hb ht h => by
    obtain ⟨cs', fr', h2⟩ := hS _ h (Array.getElem?_eq_some_iff.1 hb).1
    exact blk_ne hb h2 ht rfl
  refine ⟨blkK K ct (nb ct (by decide)), blkK K tv (nb tv (by decide)), blkK K qvr (nb qvr (by decide)), ⟨qv, blkK K hq.blk (nb hq.blk (by decide)), rowK hq.row K (fun g h h2 => ?_), hq.lt⟩, by have := K.size; omega, hne⟩
  obtain ⟨cs', fr', h3⟩ := hS g h2 (hq.row.lt g h).2
  exact row_ne hq.row h3 (by decide) g h rfl
theorem LsAt.below (H : LsAt w hi tb tc vt vq qb base c f n) (hb : Below w.heap.size w w') : LsAt w' hi tb tc vt vq qb base c f n :=
  H.kept (S := fun _ => False) ((KpS.refl _ w).below hb) fun _ h => h.elim
/-- one more is touched -/
theorem LsAt.setC (H : LsAt w hi tb tc vt vq qb base c f n) (c' : Nat) : LsAt (w.setCell ⟨tc, 0, none⟩ (.int .i64 c')) hi tb tc vt vq qb base c' f n := by
  obtain ⟨ct, tv, qvr, ⟨qv, hq⟩, hord, hne⟩ := H
  have K : KpS (fun g => g = tc) w (w.setCell ⟨tc, 0, none⟩ (.int .i64 c')) := (KpS.refl (fun g => g = tc) w).set (a := ⟨tc, 0, none⟩) _ (.inl rfl)
  exact ⟨heap_setCell_same w tc 0 _ _ _ ct, blkK K tv (fun h => hne.1 h.symm), blkK K qvr (fun h => hne.2.1 h.symm), ⟨qv, blkK K hq.blk (fun h => hne.2.2.1 h.symm), rowK hq.row K (fun g h h2 => by have := (hq.row.lt g h).1; have := hord.2.2.2.2.1; omega), hq.lt⟩, by simpa using hord, hne⟩
/-- the queue is another one -/
theorem LsAt.queued {f' : Qf} {n' : Nat} (H : LsAt w hi tb tc vt vq qb base c f n) (hq : ∃ qv', QuAt w' tb qb base (qrow f' n') qv') (K : KpS (fun g => g = qb ∨ base ≤ g) w w') : LsAt w' hi tb tc vt vq qb base c f' n' := by
  obtain ⟨ct, tv, qvr, -, hord, hne⟩ := H
  exact ⟨blkK K ct (fun h => by rcases h with h | h <;> omega), blkK K tv (fun h => by rcases h with h | h <;> omega), blkK K qvr (fun h => by rcases h with h | h <;> omega), hq, by have := K.size; omega, hne⟩
theorem LsAt.toBelow {B : Nat} (H : LsAt w hi tb tc vt vq qb base c f n) (K : KpS (fun g => g = tc ∨ g = qb ∨ base ≤ g) w w') (h1 : B ≤ tc) (h2 : B ≤ qb) (h3 : B ≤ base) (hB : B ≤ w.heap.size) : Below B w w' := K.toBelow hB (fun g h => by rcases h with h | h | h <;> omega)
theorem row_pts {base sz m : Nat} {v : Value} {xs : List Value} (h : w.ownsRow base 34 sz v m xs) {g : Nat} (e : v.ownBlock = some g) : ∃ cs fr, w.heap[g]? = some (Obj.cells cs 34 fr) := by
  rcases h.2 with ⟨rfl, _⟩ | ⟨g', cap, cur, rfl, -, h3, -⟩
  · cases e
  · obtain rfl := Option.some.inj e
    exact ⟨_, _, h3⟩
theorem AddP.next {R : List Pt} {YS E rem : List Nat} {k : Nat} (H : AddP w' R YS k hi tb tc vt vq qb base c f n) (h : LQ R YS f n (k :: E) rem) : ∃ f' n', LsAt w' hi tb tc vt vq qb base (c + 1) f' n' ∧ LQ R YS f' n' E rem := by
  by_cases e : bst (nds R.length) YS k = none
  · exact ⟨_, _, H.1 e, h.skip e⟩
  · exact ⟨_, _, H.2 e, h.push e⟩
end

theorem lit3 (w : World) (o o2 o3 : Obj) : (((w.alloc o).alloc o2).alloc o3).heap[w.heap.size]? = some o ∧ (((w.alloc o).alloc o2).alloc o3).heap[w.heap.size + 1]? = some o2 ∧ (((w.alloc o).alloc o2).alloc o3).heap[w.heap.size + 1 + 1]? = some o3 := by
  refine ⟨(Below.heap_alloc _ _ _ (by simp; omega)).trans (lit1 w o o2), (Below.heap_alloc _ _ _ (by simp)).trans (lit2 w o o2), ?_⟩
  have := lit0 ((w.alloc o).alloc o2) o3
  rwa [show ((w.alloc o).alloc o2).heap.size = w.heap.size + 1 + 1 by simp] at this

def LowsP (w : World) (R : List Pt) (YS : List Nat) (x1 x2 K : Int) (e : Ending) (w' : World) : Prop :=
  ∃ (v : Value) (c : Nat) (L : List Pt), L = ((rngX R YS x1 x2).take K.toNat).map (ptAt R) ∧ e = .returned (.tuple #[v, .int .i64 c]) ∧ w'.ownsRow w.heap.size 34 3 v L.length (L.flatMap ePt) ∧ L.length ≤ c ∧ c ≤ (canL R x1 x2).2 + L.length * (1 + (mkT 0 R.length).ht) ∧ Below w.heap.size w w'

def lenV : Value → Nat
  | .slice _ n _ => n
  | _ => 0

set_option maxRecDepth 100000 in
set_option maxHeartbeats 8000000 in
theorem low_lows {w : World} {lo hi tb fb : Nat} {cnt : Int} {R : List Pt} {gone : List Bool} {YS : List Nat} {V : HepV} (hA : LptAt w lo hi tb fb R (bst (nds R.length) YS) cnt V) (hW : CscWF R gone YS) (hR : R.length ≤ 20000) (x1 x2 K : Int) :
    Calls Tryz.prog 35 #[.pointer (some ⟨tb, 0, none⟩), .int .i64 x1, .int .i64 x2, .int .i64 K] w (LowsP w R YS x1 x2 K) := by
  obtain ⟨hsz1, hsz2⟩ := canL_size hR x1 x2
  have HLT := Lib.hid (canL_lt (R := R) (x1 := x1) (x2 := x2))
  have HRG := Lib.hid (canL_rng hW x1 x2)
  have HSRT := Lib.hid (rngX_srt hW x1 x2)
  have HRL := Lib.hid (fun i (h : i ∈ rngX R YS x1 x2) => rngX_lt hW h)
  have hrl0 : (rngX R YS x1 x2).length ≤ 20000 := Nat.le_trans (rngX_len hW x1 x2) hR
  have hhi := hA.tbr.2.2.2.2
  have CC := Lib.hid (fun W (hb : Below w.heap.size w W) => low_canon (hA.below hb hhi) hR x1 x2)
  have HQ : Hid (∀ e w', LowsP w R YS x1 x2 K e w' ↔ LowsP w R YS x1 x2 K e w') := fun _ _ => Iff.rfl
  obtain ⟨ask, hask⟩ : ∃ ask, ask = canL R x1 x2 := ⟨_, rfl⟩
  have HASK := Lib.hid hask
  rw [← hask] at CC HLT HRG hsz1 hsz2
  clear hask
  obtain ⟨ks, tch⟩ := ask
  simp only at hsz1 hsz2 HLT HRG
  have HA := Lib.hid hA
  have HW := Lib.hid hW
  have htl := hA.tbl
  obtain ⟨w1, ew1⟩ : ∃ w1, w1 = w.alloc (.cells #[.pointer (some ⟨tb, 0, none⟩)] 62) := ⟨_, rfl⟩
  have hb1 : Below w.heap.size w w1 := by rw [ew1]; exact (Below.refl _ _).alloc (Nat.le_refl _) _
  have hx1 : w1.heap[w.heap.size]? = some (.cells #[.pointer (some ⟨tb, 0, none⟩)] 62 (0, 0)) := by rw [ew1]; exact lit0 w _
  have HB1 := Lib.hid hb1
  have HX1 := Lib.hid hx1
  have v1 : w1.cell? ⟨w.heap.size, 0, none⟩ = some (.pointer (some ⟨tb, 0, none⟩)) := by simp [World.cell?, hx1]
  have EW := Lib.hid ew1
  clear ew1 hb1 hx1 hA hW
  go_enter Tryz.func35, Tryz.ntmps35
  go_upto_region 1 with fail
  rw [← EW.out]
  clear EW
  by_cases hK : K < 1
  · have d0 : decide (K < 1) = true := by simp [hK]
    have HFIN : Hid (LowsP w R YS x1 x2 K (.returned (.tuple #[.slice none 0 0, .int .i64 (0 : Nat)])) w1) := by
      refine ⟨_, 0, [], ?_, rfl, World.ownsRow_nil _ _ _ _, Nat.le_refl _, Nat.zero_le _, HB1.out⟩
      rw [show K.toNat = 0 by omega]
      rfl
    clear hK
    go_wp2
    go_ret2
    exact HFIN.out
  · have d0 : decide (K < 1) = false := by simp; omega
    have hK0 : 1 ≤ K := by omega
    clear hK
    go_wp2_with fail
    refine (CC.out w1 HB1.out).mono ?_
    rintro e w2 ⟨v, rfl, hown, hb2⟩
    obtain ⟨ka, kc, rfl, -, -, hkr⟩ := Rd.of_owns (enc := eNat) hown
    have HKR := Lib.hid hkr
    have HB2 := Lib.hid (HB1.out.trans (hb2.mono HB1.out.size))
    have hrl : w.heap.size < w1.heap.size := (Array.getElem?_eq_some_iff.1 HX1.out).1
    have HX2 := Lib.hid ((hb2.block w.heap.size hrl).trans HX1.out)
    have hrl2 : w.heap.size < w2.heap.size := (Array.getElem?_eq_some_iff.1 HX2.out).1
    have v2 := (hb2.cell (p := ⟨w.heap.size, 0, none⟩) hrl).trans v1
    clear hown hkr hb2 CC HB1 HX1 v1
    go_upto_region 6 with fail
    obtain ⟨w5, ew5⟩ : ∃ w5, w5 = (((w2.alloc (Obj.cells #[.int .i64 tch] 3)).alloc (Obj.cells #[.pointer (some ⟨tb, 0, none⟩), .slice none 0 0] 130)).alloc (Obj.cells #[.pointer (some ⟨w2.heap.size + 1, 0, none⟩)] 128)) := ⟨_, rfl⟩
    obtain ⟨l1, l2, l3⟩ := lit3 w2 (Obj.cells #[.int .i64 tch] 3) (Obj.cells #[.pointer (some ⟨tb, 0, none⟩), .slice none 0 0] 130) (Obj.cells #[.pointer (some ⟨w2.heap.size + 1, 0, none⟩)] 128)
    have hb5 : Below w2.heap.size w2 w5 := by rw [ew5]; exact ((Below.refl _ _).alloc (Nat.le_refl _) _).alloc (by simp) _ |>.alloc (by simp; omega) _
    have hs5 : w5.heap.size = w2.heap.size + 1 + 1 + 1 := by rw [ew5]; simp
    rw [← ew5] at l1 l2 l3 ⊢
    clear ew5
    have hs2 := HB2.out.size
    obtain ⟨vq, hvq⟩ : ∃ vq, vq = w2.heap.size + 1 + 1 := ⟨_, rfl⟩
    rw [← hvq] at l3 hs5 ⊢
    obtain ⟨qb, hqb⟩ : ∃ qb, qb = w2.heap.size + 1 := ⟨_, rfl⟩
    rw [← hqb] at l2 l3 hvq ⊢
    obtain ⟨tc, htc⟩ : ∃ tc, tc = w2.heap.size := ⟨_, rfl⟩
    rw [← htc] at l1 hqb ⊢
    have HX5 := (hb5.block w.heap.size hrl2).trans HX2.out
    obtain ⟨rem, hrem⟩ : ∃ rem, rem = rngX R YS x1 x2 := ⟨_, rfl⟩
    rw [← hrem] at HRG HSRT HRL hrl0
    have HREM := Lib.hid hrem
    clear hrem HX2
    have HORD : Hid (hi ≤ tc ∧ hi ≤ w.heap.size ∧ hi ≤ vq ∧ hi ≤ qb ∧ w2.heap.size ≤ tc ∧ w2.heap.size ≤ vq ∧ w2.heap.size ≤ qb) := by show _ ∧ _; omega
    have HL5 : Hid (LsAt w5 hi tb tc w.heap.size vq qb w5.heap.size tch (fun _ => 0) 0) := ⟨l1, HX5, l3, ⟨_, l2, World.ownsRow_nil _ _ _ _, by omega⟩, by omega, by omega⟩
    have HQ5 : Hid (LQ R YS (fun _ => 0) 0 (ks.drop 0) rem) := LQ.start (ks := ks) HRG.out HLT.out _
    have HB5 := Lib.hid hb5
    clear l1 l2 l3 HX5 hb5
    obtain ⟨base, hbase⟩ : ∃ base, base = w5.heap.size := ⟨_, rfl⟩
    rw [← hbase] at HL5
    have HBS : Hid (w2.heap.size ≤ base) := by show _ ≤ _; omega
    clear hbase hs5 hvq hqb htc HRG
    go_wp2
    go_loopw [37] (fun jv wr => ∃ (j n : Nat) (f : Qf), jv = .int .i64 j ∧ j ≤ ks.length ∧ Hid (LsAt wr hi tb tc w.heap.size vq qb base tch f n) ∧ Hid (LQ R YS f n (ks.drop j) rem) ∧ Hid (Below w2.heap.size w2 wr)) (fun jv _ => ks.length - (intOf jv).toNat)
    case atStart => exact ⟨0, 0, _, rfl, Nat.zero_le _, HL5, HQ5, HB5⟩
    case round =>
      clear HL5 HQ5 HB5
      obtain ⟨j, n, f, rfl, hj, HL, HQ, HB⟩ := hrel
      by_cases hjl : j < ks.length
      · have hjl2 : (j : Int) < (ks.length : Int) := by omega
        have hkn := HLT.out ks[j] (List.getElem_mem hjl)
        have h0 : 0 < R.length := by have := nds_len R.length; omega
        have HBR := Lib.hid (HB2.out.trans (HB.out.mono hs2))
        have HAr := Lib.hid (HA.out.below HBR.out hhi)
        obtain ⟨gh, ch, ehv, -, -, -, -, hghl, hcs, -⟩ := HAr.out.holds h0
        have hb' := HAr.out.blk
        rw [ehv] at hb'
        have c4 : wr.cell? ⟨tb, 4, none⟩ = some (.slice (some ⟨gh, 0, none⟩) (nds R.length).length ch) := by simp [World.cell?, hb']
        have e1 := (hcs ks[j] hkn).1
        have t1 : wr.cell? ⟨w.heap.size, 0, none⟩ = some (.pointer (some ⟨tb, 0, none⟩)) := by have h9 := HL.out.tv; simp [World.cell?, h9]
        have t2 : wr.cell? ⟨vq, 0, none⟩ = some (.pointer (some ⟨qb, 0, none⟩)) := by have h9 := HL.out.qvr; simp [World.cell?, h9]
        have HQ2 : Hid (LQ R YS f n (ks[j] :: ks.drop (j + 1)) rem) := by have h9 := HQ.out; rw [List.drop_eq_getElem_cons hjl] at h9; exact h9
        have hn := HQ.out.few
        obtain ⟨b, off, ea, hbl, hcs2⟩ := (HKR.out.below HB.out).get (by omega)
        have x0 := hcs2 j hjl
        simp only [eNat] at x0
        have EA := Lib.hid ea
        have hkM : (nds R.length).length ≤ 40000 := by rw [nds_len]; omega
        have HPUSH : Hid (bst (nds R.length) YS ks[j] ≠ none → Calls Tryz.prog 77 #[.iface 128 (.pointer (some ⟨qb, 0, none⟩)), .iface 3 (.int .i64 (ks[j] : Nat))] wr fun e w' => e = .returned (.tuple #[]) ∧ (∃ qv', QuAt w' tb qb base (qrow (upF (lbQ R (nds R.length) YS) (addF f n ks[j]) n) (n + 1)) qv') ∧ KpS (fun g => g = qb ∨ base ≤ g) wr w' ∧ PtsK wr w') := fun h9 => by
          obtain ⟨qv, hq⟩ := HL.out.q
          exact que_hpush f ks[j] HAr.out HW.out hR HL.out.ord.2.2.2.1 hq HL.out.ord.2.2.2.2.2.2.2.2 (by omega) (fun x hx => by
            rw [addF_row, List.mem_append, List.mem_singleton] at hx
            rcases hx with hx | rfl
            · exact HQ.out.qn x hx
            · exact ⟨hkn, h9⟩)
        have HBST : Hid (∀ o, bst (nds R.length) YS ks[j] = o → bst (nds R.length) YS ks[j] = o) := fun _ h => h
        obtain ⟨k, hk⟩ : ∃ k, k = ks[j] := ⟨_, rfl⟩
        rw [← hk] at x0 e1 hkn HQ2 HPUSH
        obtain ⟨M, hMM⟩ : ∃ M, M = (nds R.length).length := ⟨_, rfl⟩
        rw [← hMM] at c4 hkn hkM
        clear hcs hcs2 hb' ehv ea HQ HBST hk hMM
        obtain rfl := EA.out
        clear EA
        cases hbk : bst (nds R.length) YS k with
        | none =>
          rw [hbk] at e1
          simp only [eHo] at e1
          have HQ3 := Lib.hid (HQ2.out.skip hbk)
          clear HQ2 HPUSH hbk
          go_wp2
          go_roundw
          case rel => exact ⟨j + 1, n, f, by go_num, by omega, HL, HQ3, HB⟩
          case measure => simp [intOf]; omega
        | some i =>
          rw [hbk] at e1
          simp only [eHo] at e1
          have f1 : ((i : Int) == -1) = false := by first | (simp; done) | (simp; omega)
          have f2 : decide ((i : Int) = -1) = false := by first | (simp; done) | (simp; omega)
          have f3 : ((i : Int) != -1) = true := by first | (simp; done) | (simp; omega)
          have HQ3 := Lib.hid (HQ2.out.push (by rw [hbk]; simp))
          have HPU := Lib.hid (HPUSH.out (by rw [hbk]; simp))
          clear HQ2 HPUSH hbk
          go_wp2_with fail
          refine HPU.out.mono ?_
          rintro e w6 ⟨rfl, hq6, hk6, hp6⟩
          have HL6 := Lib.hid (HL.out.queued hq6 hk6)
          have HB6 := Lib.hid (HB.out.trans (HL.out.toBelow (hk6.mono fun g h => .inr h) HORD.out.2.2.2.2.1 HORD.out.2.2.2.2.2.2 HBS.out HB.out.size))
          clear hq6 hk6 hp6 HPU
          go_wp2
          go_roundw
          case rel => exact ⟨j + 1, n + 1, _, by go_num, by omega, HL6, HQ3, HB6⟩
          case measure => simp [intOf]; omega
      · obtain rfl : j = ks.length := by omega
        rw [List.drop_length] at HQ
        have hHT : (mkT 0 R.length).ht ≤ 40000 := by
          have h1 := mkT_ht 0 R.length R.length (Nat.le_of_lt Nat.lt_two_pow_self)
          omega
        obtain ⟨H, hH⟩ : ∃ H, H = (mkT 0 R.length).ht := ⟨_, rfl⟩
        rw [← hH] at hHT
        have HHT := Lib.hid hH
        clear hH
        have hcst : ∀ i : Nat, i ≤ rem.length → i * (1 + H) ≤ 20000 * 40001 := fun i hi => Nat.mul_le_mul (by omega) (by omega)
        obtain ⟨wo, ewo⟩ : ∃ wo : World, wo = wr := ⟨_, rfl⟩
        subst ewo
        go_wp2
        go_loopw [16] (fun v wr => ∃ (i n c : Nat) (f : Qf), i ≤ rem.length ∧ (i : Int) ≤ K ∧ lenV v = i ∧ tch + i ≤ c ∧ c ≤ tch + i * (1 + H) ∧ Hid (wr.ownsRow w2.heap.size 34 3 v i (((rem.take i).map (ptAt R)).flatMap ePt)) ∧ Hid (LsAt wr hi tb tc w.heap.size vq qb base c f n) ∧ Hid (LQ R YS f n [] (rem.drop i)) ∧ Hid (Below w2.heap.size w2 wr)) (fun v _ => rem.length - lenV v)
        case atStart => exact ⟨0, n, tch, f, Nat.zero_le _, by omega, rfl, by omega, by omega, World.ownsRow_nil _ _ _ _, HL, HQ, HB⟩
        case round =>
          clear HL HQ HB
          obtain ⟨i, n, c, f, hir, hiK, hiv, hc1, hc2, HO, HL, HQ, HB⟩ := hrel
          obtain ⟨va, vc, rfl⟩ := rowV HO.out
          clear hiv
          have hnf := HQ.out.few
          rw [List.length_drop] at hnf
          have t1 : wr.cell? ⟨w.heap.size, 0, none⟩ = some (.pointer (some ⟨tb, 0, none⟩)) := by have h9 := HL.out.tv; simp [World.cell?, h9]
          have t2 : wr.cell? ⟨vq, 0, none⟩ = some (.pointer (some ⟨qb, 0, none⟩)) := by have h9 := HL.out.qvr; simp [World.cell?, h9]
          have t3 : wr.cell? ⟨tc, 0, none⟩ = some (.int .i64 c) := by have h9 := HL.out.ct; simp [World.cell?, h9]
          obtain ⟨qv, hq⟩ := HL.out.q
          obtain ⟨qa, qc, rfl⟩ := rowV hq.row
          have hqb' := hq.blk
          rw [qrow_len] at hqb'
          have c1 : wr.cell? ⟨qb, 1, none⟩ = some (.slice qa n qc) := by simp [World.cell?, hqb']
          clear hqb'
          have hcs := hcst i hir
          have hc9 : c ≤ 900000000 := by omega
          have HFIN : Hid (rem.take i = rem.take K.toNat → ∀ W, Below wr.heap.size wr W → LowsP w R YS x1 x2 K (.returned (.tuple #[.slice va i vc, .int .i64 (c : Nat)])) W) := fun he W hb => by
            have hL : ((rem.take i).map (ptAt R)).length = i := by rw [List.length_map, List.length_take]; omega
            have hBW : Below w.heap.size w W := HB2.out.trans ((HB.out.trans (hb.mono HB.out.size)).mono hs2)
            refine ⟨_, c, (rem.take i).map (ptAt R), ?_, rfl, ?_, ?_, ?_, hBW⟩
            · rw [he, HREM.out]
            · rw [hL]
              exact rowMono (ownsRow_below HO.out hb) hs2
            · rw [hL]; omega
            · rw [hL, ← HASK.out, ← HHT.out]
              exact hc2
          by_cases hn0 : n = 0
          · subst hn0
            have he : rem.take i = rem.take K.toNat := by
              have h1 := HQ.out.done
              have h2 : rem.length - i = 0 := by rw [← List.length_drop, h1]; rfl
              rw [List.take_of_length_le (by omega), List.take_of_length_le (by omega)]
            have HF := Lib.hid (HFIN.out he)
            clear HFIN he HQ hq
            go_upto_region 25 with fail
            go_quiet (fail)
            go_wp2
            go_ret2
            exact HF.out _ (Below.drewAny _ _)
          · obtain ⟨m, rfl⟩ : ∃ m, n = m + 1 := ⟨n - 1, by omega⟩
            clear hn0
            by_cases hik : (i : Int) < K
            · have d2 : decide ((i : Int) < K) = true := by simp [hik]
              have HBR := Lib.hid (HB2.out.trans (HB.out.mono hs2))
              have HAr := Lib.hid (HA.out.below HBR.out hhi)
              obtain ⟨x, rem', hre, hbx, hf0, hnext⟩ := HQ.out.pop HW.out (HSRT.out.sublist (List.drop_sublist _ _))
              have HNX := Lib.hid hnext
              have CP := Lib.hid (que_hpop f HAr.out HW.out hR HL.out.ord.2.2.2.1 hq (by omega) HQ.out.qn HQ.out.ho)
              have hirl : i < rem.length := by have h9 : 0 < (rem.drop i).length := by rw [hre]; simp
                                               rw [List.length_drop] at h9; omega
              have hxx : rem[i] = x ∧ rem.drop (i + 1) = rem' := by
                rw [List.drop_eq_getElem_cons hirl] at hre
                injection hre with h1 h2
                exact ⟨h1, h2⟩
              have HX := Lib.hid hxx
              have hxR := HRL.out x (by rw [← hxx.1]; exact List.getElem_mem hirl)
              clear hre hnext hq hxx HFIN
              generalize dnF (lbQ R (nds R.length) YS) (swp f 0 m) 0 m = f6 at *
              obtain ⟨at0, hat0⟩ : ∃ at0, at0 = f 0 := ⟨_, rfl⟩
              rw [← hat0] at hbx hf0 HNX CP
              clear hat0
              go_wp2_with fail
              refine CP.out.mono ?_
              rintro e w6 ⟨rfl, hq6, hk6, hp6⟩
              have HL6 := Lib.hid (HL.out.queued hq6 hk6)
              have b6 := HL.out.toBelow (hk6.mono fun g h => .inr h) HORD.out.2.2.2.2.1 HORD.out.2.2.2.2.2.2 HBS.out HB.out.size
              have HB6 := Lib.hid (HB.out.trans b6)
              have HO6 := Lib.hid (hp6.row hk6.size HO.out)
              clear hq6 hk6 hp6 CP b6 HL HQ HAr HBR HB HO t1 t2 t3 c1
              have h0 : 0 < R.length := by omega
              have HBR := Lib.hid (HB2.out.trans (HB6.out.mono hs2))
              have HAr := Lib.hid (HA.out.below HBR.out hhi)
              obtain ⟨gh, ch, ehv, -, -, -, -, hghl, hcs2, -⟩ := HAr.out.holds h0
              obtain ⟨ra, rc, erv, -, -, rrow⟩ := RdK.of_owns ePt_len (by decide) HAr.out.row
              have hb' := HAr.out.blk
              rw [ehv, erv] at hb'
              have c0 : w6.cell? ⟨tb, 0, none⟩ = some (.slice ra R.length rc) := by simp [World.cell?, hb']
              have c4 : w6.cell? ⟨tb, 4, none⟩ = some (.slice (some ⟨gh, 0, none⟩) (nds R.length).length ch) := by simp [World.cell?, hb']
              have e1 := (hcs2 at0 hf0).1
              rw [hbx] at e1
              simp only [eHo] at e1
              have t1 : w6.cell? ⟨w.heap.size, 0, none⟩ = some (.pointer (some ⟨tb, 0, none⟩)) := by have h9 := HL6.out.tv; simp [World.cell?, h9]
              obtain ⟨rb, ro, era, hrb, hrc⟩ := rrow.get (by omega)
              have r0 := hrc x hxR 0 (by omega)
              have r1 := hrc x hxR 1 (by omega)
              have r2 := hrc x hxR 2 (by omega)
              simp only [ePt, List.getElem?_cons_zero, List.getElem?_cons_succ, Nat.add_zero] at r0 r1 r2
              rw [← ptAt_eq hxR] at r0 r1 r2
              subst era
              have HPT : Hid (ptAt R x = ptAt R x) := rfl
              obtain ⟨p, hp⟩ : ∃ p, p = ptAt R x := ⟨_, rfl⟩
              rw [← hp] at r0 r1 r2
              have HP := Lib.hid hp
              obtain ⟨px, py, pi⟩ := p
              simp only at r0 r1 r2
              obtain ⟨M, hMM⟩ : ∃ M, M = (nds R.length).length := ⟨_, rfl⟩
              have hkM : (nds R.length).length ≤ 40000 := by rw [nds_len]; omega
              rw [← hMM] at c4 hf0 hkM
              have HMM := Lib.hid hMM
              obtain ⟨nR, hnR⟩ : ∃ nR, nR = R.length := ⟨_, rfl⟩
              rw [← hnR] at c0 hxR
              have HNR := Lib.hid hnR
              have hnR2 : nR ≤ 20000 := by omega
              have HBX := Lib.hid hbx
              clear HPT hp hMM hnR hrc rrow hb' ehv erv hcs2 hbx
              have k0 := cell_belowW c0
              have k1 := cell_belowW c4
              have k2 := cell_belowW e1
              have k3 := cell_belowW t1
              have k4 := cell_belowW r0
              have k5 := cell_belowW r1
              have k6 := cell_belowW r2
              have hs6 := HB6.out.size
              have HTA : ∀ W, Sem.run Tryz.prog (Instr.typeAssert (.iface 3 (.int .i64 (at0 : Nat))) 20 3 false) W = .ok (.int .i64 (at0 : Nat)) W := fun W => by kernel_rfl
              go_upto_region 15 with fail
              clear HTA
              refine wp_region_head (fun W => ∃ p : BelowW w6, W = p.W) [15, 16] [(0, false), (1, true), (2, false), (3, false), (4, true), (5, true), (6, false), (7, false), (8, true), (9, false), (10, false), (11, true), (12, false), (13, true)] (by kernel_rfl) (by kernel_rfl) (fun _ _ d _ _ h => by cases d <;> exact h) ⟨⟨_, (Below.refl _ _).drew⟩, rfl⟩ 3 rfl (by kernel_rfl) ?_
              simp only [pickB, List.filterMap_cons, List.filterMap_nil, List.getElem?_toArray, List.getElem?_cons_succ, List.getElem?_cons_zero, Option.map_some]
              repeat (refine wpHd_step (fun K hK => ?_); go_simp; first | (refine hK _ ?_; clear hK K) | (apply Exists.intro; refine ⟨fun _ => ?_, hK _ ?_⟩; rfl; clear hK K))
              refine wpHd_nil ?_
              refine wpAnyT_ready [14] (by kernel_rfl) (by simp) ?_
              refine AllReadyT.cons rfl (fun K hK => ?_) AllReadyT.nil
              go_simp
              refine hK _ _ (fun _ _ => ⟨⟨_, ((Below.refl _ w6).alloc (Nat.le_refl _) _).drew⟩, rfl⟩) ?_
              clear hK K
              refine wpAnyT_ready [15] (by kernel_rfl) (by simp) ?_
              refine AllReadyT.cons rfl (fun K hK => ?_) AllReadyT.nil
              refine step_append1E elPt10 w2.heap.size (w := (w6.alloc (.cells #[.int .i64 px, .int .i64 py, .int .u32 pi] 34)).drew) (ownsRow_below HO6.out ((Below.refl _ w6).alloc (Nat.le_refl _) _ |>.drew)) [.int .i64 px, .int .i64 py, .int .u32 pi] rfl (by simp [Value.oneCell']) rfl (.tmp 71) (.tmp 85) rfl rfl w6.heap.size rfl (lit0d _ _) (by unfold maxLen; omega) (by omega) (by simp; omega) ?_
              intro ga capa w8 hown8 hg8 hblk8 hlt8
              have hg68 : w6.grownBy w8 (Value.slice va i vc).ownBlock := grownBy_trans (below_asGrown ((Below.refl _ w6).alloc (Nat.le_refl _) _ |>.drew)) hg8
              have KA8 : KpS (fun k => (Value.slice va i vc).ownBlock = some k) w6 w8 := (KpS.refl _ w6).grown hg68 (fun k hk => .inl hk)
              refine hK _ _ (fun _ h => absurd (by simp) h) ?_
              clear hK K
              refine wpAnyT_line [16] _ _ _ (by kernel_rfl) ?_
              simp only [pick, List.filterMap_cons, List.filterMap_nil, List.getElem?_toArray, List.getElem?_cons_succ, List.getElem?_cons_zero]
              have HL8 := Lib.hid (HL6.out.kept KA8 (fun g h _ => row_pts HO6.out h))
              have HB8 := Lib.hid (HB6.out.trans (KA8.toBelow (B := w2.heap.size) hs6 (fun g h => (HO6.out.lt g h).1)))
              have HO8 : Hid (w8.ownsRow w2.heap.size 34 3 (.slice (some ⟨ga, 0, none⟩) (i + 1) capa) (i + 1) (((rem.take (i + 1)).map (ptAt R)).flatMap ePt)) := by
                show World.ownsRow _ _ _ _ _ _ _
                rw [List.take_succ_eq_append_getElem hirl, HX.out.1, List.map_append, List.flatMap_append]
                have h9 := hown8
                simp only [List.map_cons, List.map_nil, List.flatMap_cons, List.flatMap_nil, List.append_nil, ← HP.out]
                exact h9
              have hct8 := HL8.out.ct
              obtain ⟨c2, hc2e⟩ : ∃ c2, c2 = c + 1 := ⟨_, rfl⟩
              obtain ⟨w9, ew9⟩ : ∃ w9, w9 = w8.setCell ⟨tc, 0, none⟩ (.int .i64 c2) := ⟨_, rfl⟩
              have K9 : KpS (fun g => g = tc) w8 w9 := by rw [ew9]; exact (KpS.refl (fun g => g = tc) w8).set (a := ⟨tc, 0, none⟩) _ (.inl rfl)
              have HL9 : Hid (LsAt w9 hi tb tc w.heap.size vq qb base c2 f6 m) := by rw [ew9]; exact HL8.out.setC c2
              have HO9 := Lib.hid (rowK HO8.out K9 (fun g h e => row_ne HO8.out hct8 (by decide) g h e.symm))
              have HB9 := Lib.hid (HB8.out.trans (K9.toBelow (B := w2.heap.size) HB8.out.size (fun g h => by have := HORD.out; omega)))
              have t3 : w8.cell? ⟨tc, 0, none⟩ = some (.int .i64 c) := by simp [World.cell?, hct8]
              have z3 : w8.frozen? ⟨tc, 0, none⟩ = false := by simp [World.frozen?, hct8]
              have EW := Lib.hid ew9
              clear KA8 hg68 hg8 hown8 hblk8 k0 k1 k2 k3 k4 k5 k6 c0 c4 e1 t1 r0 r1 r2 hct8 K9 ew9 HL8 HO8 HB8 HL6 HO6 HB6 HBR HAr HP hlt8 hrb hghl
              go_upto_region 17 with fail
              rw [show ((c : Int) + 1) = (c2 : Int) by omega, ← EW.out]
              clear EW t3 z3
              have HBR := Lib.hid (HB2.out.trans (HB9.out.mono hs2))
              obtain ⟨gh, ch, ehv, -, -, -, -, hghl, hcs2, -⟩ := (HA.out.below HBR.out hhi).holds h0
              have hb' := (HA.out.below HBR.out hhi).blk
              rw [ehv] at hb'
              have c4 : w9.cell? ⟨tb, 4, none⟩ = some (.slice (some ⟨gh, 0, none⟩) (nds R.length).length ch) := by simp [World.cell?, hb']
              have e1 := (hcs2 at0 (by rw [← HMM.out]; exact hf0)).1
              rw [HBX.out] at e1
              simp only [eHo] at e1
              have t1 : w9.cell? ⟨w.heap.size, 0, none⟩ = some (.pointer (some ⟨tb, 0, none⟩)) := by have h9 := HL9.out.tv; simp [World.cell?, h9]
              rw [← HMM.out] at c4
              obtain ⟨t0, s0, hat, hrt⟩ := nds_get (j := R.length) (k := at0) (by rw [← HMM.out]; exact hf0)
              obtain ⟨hlo0, hhi0, hlq0⟩ := HNX.out t0 s0 hat hrt
              obtain ⟨C1, hC1⟩ : ∃ C1, C1 = c2 + (fars t0 s0 x).length := ⟨_, rfl⟩
              have hCb : tch + (i + 1) ≤ C1 ∧ C1 ≤ tch + (i + 1) * (1 + H) ∧ C1 ≤ 900100000 := by
                have h1 := fars_len t0 s0 x
                have h2 := at_ht hat
                rw [← HHT.out] at h2
                have h3 : (i + 1) * (1 + H) = i * (1 + H) + (1 + H) := Nat.succ_mul _ _
                omega
              have HAT := Lib.hid hat
              have HLQ := Lib.hid hlq0
              have HRT := Lib.hid hrt
              have HC1 := Lib.hid hC1.symm
              have HI : Hid (i < rem.length ∧ (i : Int) < K) := ⟨hirl, hik⟩
              clear hcs2 hb' ehv hat hrt hlq0 hC1 hc1 hc2 hc2e HBX HNX HMM hcs hc9 hiK hir
              obtain ⟨wp, ewp⟩ : ∃ wp : World, wp = wr := ⟨_, rfl⟩
              subst ewp
              go_wp2
              go_loopw [17] (fun av wr => ∃ (t : FT) (s n c' : Nat) (f : Qf), av = .int .i64 (t.root s : Nat) ∧ Hid (FT.At (nds R.length) t s) ∧ t.lo ≤ x ∧ x < t.hi ∧ Hid (c' + (fars t s x).length = C1) ∧ Hid (LsAt wr hi tb tc w.heap.size vq qb base c' f n) ∧ Hid (LQ R YS f n (fars t s x) rem') ∧ Hid (wr.ownsRow w2.heap.size 34 3 (.slice (some ⟨ga, 0, none⟩) (i + 1) capa) (i + 1) (((rem.take (i + 1)).map (ptAt R)).flatMap ePt)) ∧ Hid (Below w2.heap.size w2 wr)) (fun av _ => (intOf av).toNat)
              case atStart => exact ⟨t0, s0, m, c2, f6, by rw [HRT.out], HAT, hlo0, hhi0, HC1, HL9, HLQ, HO9, HB9⟩
              case round =>
                clear HL9 HLQ HO9 HB9 HBR HAT HRT HC1 hlo0 hhi0 c4 e1 t1
                obtain ⟨t, s, n, c', f, rfl, HAT, hlo, hhx, HC, HL, HQ, HO, HB⟩ := hrel
                have hat := HAT.out
                have hrl := hat.lt
                have HBR := Lib.hid (HB2.out.trans (HB.out.mono hs2))
                have HAr := Lib.hid (HA.out.below HBR.out hhi)
                obtain ⟨gn, offn, cn, env, rnd⟩ := HAr.out.nodes h0
                have hb' := HAr.out.blk
                rw [env] at hb'
                have c3 : wr.cell? ⟨tb, 3, none⟩ = some (.slice (some ⟨gn, offn, none⟩) (nds R.length).length cn) := by simp [World.cell?, hb']
                have t1 : wr.cell? ⟨w.heap.size, 0, none⟩ = some (.pointer (some ⟨tb, 0, none⟩)) := by have h9 := HL.out.tv; simp [World.cell?, h9]
                obtain ⟨hgn, n0, n1, n2, n3, n4, n5, n6⟩ := nd_all rnd hat.get
                cases t with
                | leaf a =>
                  have hkd : ((FT.leaf a).top s).kind = 1 := rfl
                  rw [hkd] at n0
                  have HFC : Hid (c' = C1) := HC.out
                  generalize (FT.leaf a).root s = ro at *
                  generalize (nds R.length).length = M at *
                  clear hb' env rnd hat n1 n2 n3 n4 n5 n6 HAT hlo hhx hkd
                  have hfc := HFC.out
                  have hio := HI.out
                  clear HFC HC
                  go_wp2
                  go_roundw
                  case rel => exact ⟨i + 1, n, c', f, by omega, by omega, rfl, by omega, by omega, HO, HL, by rw [HX.out.2]; exact HQ, HB⟩
                  case measure => simp [lenV]; omega
                | node l r =>
                  obtain ⟨hwf, -⟩ := at_wf hat
                  have hm : l.hi = r.lo := hwf.2.2
                  have hkd : ((FT.node l r).top s).kind = 2 := rfl
                  have hdl : ((FT.node l r).top s).l = ((l.root s : Nat) : Int) := by show ((s + l.size : Nat) : Int) - 1 = _; unfold FT.root; have := l.size_pos; omega
                  have hdr : ((FT.node l r).top s).r = ((r.root (s + l.size) : Nat) : Int) := by show ((s + l.size + r.size : Nat) : Int) - 1 = _; unfold FT.root; have := r.size_pos; omega
                  rw [hkd] at n0
                  rw [hdl] at n1
                  rw [hdr] at n2
                  have hll := hat.left.lt
                  have hrr := hat.right.lt
                  have hms : l.root s < (FT.node l r).root s ∧ r.root (s + l.size) < (FT.node l r).root s := by unfold FT.root; simp only [FT.size]; have := l.size_pos; have := r.size_pos; omega
                  obtain ⟨-, -, -, -, q3, -, -, -⟩ := nd_all rnd hat.right.get
                  rw [FT.top_fr] at q3
                  have hnf := HQ.out.few
                  rw [← HX.out.2, List.length_drop] at hnf
                  have HADD := Lib.hid (fun (W : World) (hb : Below wr.heap.size wr W) (k : Nat) (hk : k < (nds R.length).length) => low_add f k (HAr.out.below hb (by have := HAr.out.tbr.2.2.2.2; omega)) HW.out hR (HL.out.below hb) (by omega) (by have := HC.out; omega) HQ.out.qn hk)
                  have HATL := Lib.hid hat.left
                  have HATR := Lib.hid hat.right
                  have hwl := (FT.lo_hi l hwf.1)
                  have hwr := (FT.lo_hi r hwf.2.1)
                  simp only [FT.lo, FT.hi] at hlo hhx
                  have htb : tb < wr.heap.size := HAr.out.tbl
                  have htv : w.heap.size < wr.heap.size := by have := HB.out.size; omega
                  generalize (FT.node l r).top s = d at *
                  clear hat hb' env rnd HAT hdl hdr hkd hwf
                  obtain ⟨w7, ew7⟩ : ∃ w7, w7 = wr.alloc (.cells #[.int .u8 2, .int .i64 (l.root s : Nat), .int .i64 (r.root (s + l.size) : Nat), .int .i64 d.fr, .int .i64 d.til, .int .i64 0, .int .i64 d.item] 119) := ⟨_, rfl⟩
                  have hb7 : Below wr.heap.size wr w7 := by rw [ew7]; exact (Below.refl _ _).alloc (Nat.le_refl _) _
                  have hx7 : w7.heap[wr.heap.size]? = some (.cells #[.int .u8 2, .int .i64 (l.root s : Nat), .int .i64 (r.root (s + l.size) : Nat), .int .i64 d.fr, .int .i64 d.til, .int .i64 0, .int .i64 d.item] 119 (0, 0)) := by rw [ew7]; exact lit0 wr _
                  have m1 : w7.cell? ⟨wr.heap.size, 1, none⟩ = some (.int .i64 (l.root s : Nat)) := by simp [World.cell?, hx7]
                  have m2 : w7.cell? ⟨wr.heap.size, 2, none⟩ = some (.int .i64 (r.root (s + l.size) : Nat)) := by simp [World.cell?, hx7]
                  have c3' := (hb7.cell (p := ⟨tb, 3, none⟩) htb).trans c3
                  have t1' := (hb7.cell (p := ⟨w.heap.size, 0, none⟩) htv).trans t1
                  have q3' := (hb7.cell (p := ⟨gn, offn + r.root (s + l.size) * 7 + 3, none⟩) hgn).trans q3
                  have HB7 := Lib.hid hb7
                  have EW := Lib.hid ew7
                  have hfar : Hid (fars (FT.node l r) s x = if x < l.hi then r.root (s + l.size) :: fars l s x else l.root s :: fars r (s + l.size) x) := rfl
                  rw [hfar.out] at HQ HC
                  clear ew7 hb7 hx7 hfar
                  generalize (FT.node l r).root s = ro at *
                  obtain ⟨kl, hkl⟩ : ∃ kl, kl = l.root s := ⟨_, rfl⟩
                  obtain ⟨kr, hkr⟩ : ∃ kr, kr = r.root (s + l.size) := ⟨_, rfl⟩
                  rw [← hkl] at hll hms m1 HQ HC n1 EW
                  rw [← hkr] at hrr hms m2 q3' HQ HC n2 EW
                  have HKL := Lib.hid hkl
                  have HKR2 := Lib.hid hkr
                  obtain ⟨M, hMM⟩ : ∃ M, M = (nds R.length).length := ⟨_, rfl⟩
                  have hkM : (nds R.length).length ≤ 40000 := by rw [nds_len]; omega
                  rw [← hMM] at c3 c3' hll hrr HADD hrl hkM
                  obtain ⟨rl, hrlo⟩ : ∃ rl, rl = r.lo := ⟨_, rfl⟩
                  rw [← hrlo] at q3' hm hwr
                  clear hkl hkr hMM q3
                  by_cases hxl : x < l.hi
                  · have d1 : decide ((rl : Int) ≤ (x : Int)) = false := by simp; omega
                    have d2 : decide (rl ≤ x) = false := by simp; omega
                    rw [if_pos hxl] at HQ HC
                    have hxn : ¬ rl ≤ x := by omega
                    have HAD2 : Hid (∀ W, Below wr.heap.size wr W → Calls Tryz.prog 76 #[.int .i64 (kr : Nat), .pointer (some ⟨tc, 0, none⟩), .pointer (some ⟨w.heap.size, 0, none⟩), .pointer (some ⟨vq, 0, none⟩)] W fun e w' => e = .returned (.tuple #[]) ∧ (∃ f' n', LsAt w' hi tb tc w.heap.size vq qb base (c' + 1) f' n' ∧ LQ R YS f' n' (fars l s x) rem') ∧ w'.ownsRow w2.heap.size 34 3 (.slice (some ⟨ga, 0, none⟩) (i + 1) capa) (i + 1) (((rem.take (i + 1)).map (ptAt R)).flatMap ePt) ∧ Below w2.heap.size w2 w') := fun W hbW => by
                      refine (HADD.out W hbW kr hrr).mono ?_
                      rintro e wa ⟨h1, hadd, hka, hpa⟩
                      exact ⟨h1, hadd.next HQ.out, hpa.row hka.size (ownsRow_below HO.out hbW), HB.out.trans ((hbW.mono HB.out.size).trans ((HL.out.below hbW).toBelow hka HORD.out.2.2.2.2.1 HORD.out.2.2.2.2.2.2 HBS.out (Nat.le_trans HB.out.size hbW.size)))⟩
                    clear HADD
                    go_upto_region 20 with fail
                    rw [← EW.out]
                    clear EW n0 n1 n2 n3 n4 n5 n6 c3 t1
                    go_quiet (fail)
                    go_upto_region 21 with fail
                    go_quiet (fail)
                    go_wp2_with fail
                    have hbW : ∀ nn, Below wr.heap.size wr (w7.drewN nn) := fun nn => HB7.out.trans ((Below.drewAny (w := w7) _ nn).mono HB7.out.size)
                    refine (HAD2.out _ (hbW _)).mono ?_
                    rintro e wa ⟨rfl, ⟨f', n', hl', hq'⟩, ho', hb'⟩
                    have HLa := Lib.hid hl'
                    have HQa := Lib.hid hq'
                    have HOa := Lib.hid ho'
                    have HBa := Lib.hid hb'
                    have HCa : Hid (c' + 1 + (fars l s x).length = C1) := by have := HC.out; simp only [List.length_cons] at this; show _ = _; omega
                    clear hl' hq' ho' hb' hbW HAD2 m1 m2 c3' t1' q3' HL HO HB HQ HC
                    go_wp2
                    go_roundw
                    case rel => exact ⟨l, s, n', c' + 1, f', by rw [HKL.out], HATL, hlo, hxl, HCa, HLa, HQa, HOa, HBa⟩
                    case measure => simp [intOf]; omega
                  · have d1 : decide ((rl : Int) ≤ (x : Int)) = true := by simp; omega
                    have d2 : decide (rl ≤ x) = true := by simp; omega
                    rw [if_neg hxl] at HQ HC
                    have hrx : r.lo ≤ x := by omega
                    have HAD2 : Hid (∀ W, Below wr.heap.size wr W → Calls Tryz.prog 76 #[.int .i64 (kl : Nat), .pointer (some ⟨tc, 0, none⟩), .pointer (some ⟨w.heap.size, 0, none⟩), .pointer (some ⟨vq, 0, none⟩)] W fun e w' => e = .returned (.tuple #[]) ∧ (∃ f' n', LsAt w' hi tb tc w.heap.size vq qb base (c' + 1) f' n' ∧ LQ R YS f' n' (fars r (s + l.size) x) rem') ∧ w'.ownsRow w2.heap.size 34 3 (.slice (some ⟨ga, 0, none⟩) (i + 1) capa) (i + 1) (((rem.take (i + 1)).map (ptAt R)).flatMap ePt) ∧ Below w2.heap.size w2 w') := fun W hbW => by
                      refine (HADD.out W hbW kl hll).mono ?_
                      rintro e wa ⟨h1, hadd, hka, hpa⟩
                      exact ⟨h1, hadd.next HQ.out, hpa.row hka.size (ownsRow_below HO.out hbW), HB.out.trans ((hbW.mono HB.out.size).trans ((HL.out.below hbW).toBelow hka HORD.out.2.2.2.2.1 HORD.out.2.2.2.2.2.2 HBS.out (Nat.le_trans HB.out.size hbW.size)))⟩
                    clear HADD
                    go_upto_region 20 with fail
                    rw [← EW.out]
                    clear EW n0 n1 n2 n3 n4 n5 n6 c3 t1
                    go_quiet (fail)
                    go_upto_region 21 with fail
                    go_quiet (fail)
                    go_upto_region 22 with fail
                    go_quiet (fail)
                    go_wp2_with fail
                    have hbW : ∀ nn, Below wr.heap.size wr (w7.drewN nn) := fun nn => HB7.out.trans ((Below.drewAny (w := w7) _ nn).mono HB7.out.size)
                    refine (HAD2.out _ (hbW _)).mono ?_
                    rintro e wa ⟨rfl, ⟨f', n', hl', hq'⟩, ho', hb'⟩
                    have HLa := Lib.hid hl'
                    have HQa := Lib.hid hq'
                    have HOa := Lib.hid ho'
                    have HBa := Lib.hid hb'
                    have HCa : Hid (c' + 1 + (fars r (s + l.size) x).length = C1) := by have := HC.out; simp only [List.length_cons] at this; show _ = _; omega
                    clear hl' hq' ho' hb' hbW HAD2 m1 m2 c3' t1' q3' HL HO HB HQ HC
                    go_wp2
                    go_roundw
                    case rel => exact ⟨r, (s + l.size), n', c' + 1, f', by rw [HKR2.out], HATR, hrx, hhx, HCa, HLa, HQa, HOa, HBa⟩
                    case measure => simp [intOf]; omega
            · have d2 : decide ((i : Int) < K) = false := by simp; omega
              have HF := Lib.hid (HFIN.out (by rw [show K.toNat = i by omega]))
              clear HFIN HQ hq
              go_upto_region 25 with fail
              go_quiet (fail)
              go_wp2
              go_ret2
              exact HF.out _ (Below.drewAny _ _)
end Go.Proofs.YtggfdlanobndjaaGreat
