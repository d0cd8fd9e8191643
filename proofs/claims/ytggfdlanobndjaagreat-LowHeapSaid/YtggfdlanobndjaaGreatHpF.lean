/- heap.fill: a node, and those below it, get places in order. -/
import Derived.Test.YtggfdlanobndjaaGreatHpE
import Derived.Test.YtggfdlanobndjaaGreatQ3
import Derived.Deep.CutBlock
import Derived.Deep.CutRange
import Derived.Deep.LoopGhost
namespace Go.Proofs.YtggfdlanobndjaaGreat
open Go.RowKit Go.Sort Go.Shelf Go.Lib Go.Maps
attribute [local irreducible] wpQuiet
attribute [local go_sem] Oper.still1
set_option linter.unusedSimpArgs false
set_option linter.unusedVariables false

theorem wp_sliceN {P : Program} {ops : Array Oper} {rest : List Oper} {op : Oper} {a : Act} {Q : Exit → Act → World → Prop} {α : Type} {enc : α → Value} {t e : TypeId} {bytes : Nat} (E : ElemOK P t e 1 bytes) {W : World} {ad : Option Addr} {l : List α} {c n : Nat} (hl : Rd enc W ad l) (hn : l.length = n) (hc : n ≤ c) (lo hi : Nat) (h1 : lo ≤ hi) (h2 : hi ≤ n)
    (hgd : op.guard = none) (x : Operand) (low high : Option Operand) (ho : op.op = .slice t x low high none) (hx : a.eval x = .slice ad n c)
    (hlow : (low.map a.eval).getD (.int .i64 0) = .int .i64 lo) (hhigh : (high.map a.eval).getD (.int .i64 n) = .int .i64 hi)
    (h : ∀ ad', RdK (fun x => [enc x]) 1 W ad' ((l.take hi).drop lo) → wpList P ops Q rest (a.put op.dst (.slice ad' (hi - lo) (c - lo))) W) : wpList P ops Q (op :: rest) a W := by
  subst hn
  exact wp_sliceK E hl.toK hc lo hi h1 h2 hgd x low high ho hx hlow hhigh h
theorem Rd.ofK {α : Type} {enc : α → Value} {w : World} {a : Option Addr} {l : List α} (h : RdK (fun x => [enc x]) 1 w a l) : Rd enc w a l := by
  rcases h with h | ⟨b, off, rfl, hb, hc⟩
  · exact .inl h
  · exact .inr ⟨b, off, rfl, hb, fun i hi => by simpa using hc i hi 0 (by omega)⟩

/-- a slice that does not lie in a row's block -/
def Off (a : Option Addr) (v : Value) : Prop := ∀ ad, a = some ad → v.ownBlock ≠ some ad.block

def FillP (W : World) (lo hi tb fb : Nat) (R : List Pt) (h' : Hld) (cnt : Int) (V : HepV) (e : Ending) (w' : World) : Prop :=
  e = .returned (.tuple #[]) ∧ HptAt w' lo hi tb fb R h' cnt V ∧ KpS (fun k => V.hv.ownBlock = some k) W w'

theorem fillH_cons (l r : FT) (s i : Nat) (L : List Nat) (h : Hld) : fillH (.node l r) s (i :: L) h = fillH r (s + l.size) (L.filter fun j => !decide (j < l.hi)) (fillH l s (L.filter fun j => decide (j < l.hi)) (updH h ((FT.node l r).root s) (some i))) := rfl

theorem take_filter_nat (p : Nat → Bool) (L : List Nat) {i : Nat} (h : i < L.length) : (L.take (i + 1)).filter p = (L.take i).filter p ++ (if p L[i] then [L[i]] else []) := by
  rw [List.take_succ_eq_append_getElem h, List.filter_append]
  congr 1
  rw [List.filter_cons]
  split <;> rfl

set_option maxRecDepth 100000 in
set_option maxHeartbeats 8000000 in
theorem heap_fill1 {lo hi tb fb : Nat} {R : List Pt} {cnt : Int} {V : HepV} (hR : R.length ≤ 20000) (t : FT) (s : Nat) (ha : FT.At (nds R.length) t s) (hw : t.wf) (hhi : t.hi ≤ R.length) (L : List Nat) (W : World) (h : Hld) (pa : Option Addr) (pc : Nat)
    (H : HptAt W lo hi tb fb R h cnt V) (hp : Rd eNat W pa L) (hlen : L.length ≤ 20000) (hcap : L.length ≤ pc) (hoff : Off pa V.hv) (hbig : ∀ i ∈ L, i ≤ 1000000)
    (hrec : ∀ l r, t = .node l r → (∀ (L : List Nat) (W : World) (h : Hld) (pa : Option Addr) (pc : Nat), HptAt W lo hi tb fb R h cnt V → Rd eNat W pa L → L.length ≤ 20000 → L.length ≤ pc → Off pa V.hv → (∀ i ∈ L, i ≤ 1000000) →
      Calls Tryz.prog 50 #[.pointer (some ⟨tb, 0, none⟩), .int .i64 (l.root s : Nat), .slice pa L.length pc] W (FillP W lo hi tb fb R (fillH l s L h) cnt V)) ∧
      ∀ (L : List Nat) (W : World) (h : Hld) (pa : Option Addr) (pc : Nat), HptAt W lo hi tb fb R h cnt V → Rd eNat W pa L → L.length ≤ 20000 → L.length ≤ pc → Off pa V.hv → (∀ i ∈ L, i ≤ 1000000) →
      Calls Tryz.prog 50 #[.pointer (some ⟨tb, 0, none⟩), .int .i64 (r.root (s + l.size) : Nat), .slice pa L.length pc] W (FillP W lo hi tb fb R (fillH r (s + l.size) L h) cnt V)) :
    Calls Tryz.prog 50 #[.pointer (some ⟨tb, 0, none⟩), .int .i64 (t.root s : Nat), .slice pa L.length pc] W (FillP W lo hi tb fb R (fillH t s L h) cnt V) := by
  have hkl := ha.lt
  have h0 : 0 < R.length := by have := t.lo_hi hw; omega
  cases L with
  | nil =>
    rw [fillH_nil]
    have HQ : Hid (FillP W lo hi tb fb R h cnt V (.returned (.tuple #[])) W) := ⟨rfl, H, KpS.refl _ _⟩
    clear H hp hrec
    simp only [List.length_nil]
    go_enter Tryz.func50, Tryz.ntmps50
    go_wp2
    go_end0
    exact HQ.out
  | cons i L =>
    obtain ⟨gn, off, cn, env, rnd⟩ := H.nodes h0
    obtain ⟨gh, ch, ehv, hg1, hg2, -, -, hghl, hcs, -⟩ := H.holds h0
    obtain ⟨y0, z0⟩ := hcs _ hkl
    have hb' := H.blk
    rw [env, ehv] at hb'
    have c4 : W.cell? ⟨tb, 4, none⟩ = some (.slice (some ⟨gh, 0, none⟩) (nds R.length).length ch) := by simp [World.cell?, hb']
    obtain ⟨b, o, ea, hbl, hpc⟩ := hp.get (by simp)
    have x0 := hpc 0 (by simp)
    simp only [List.getElem_cons_zero, eNat, Nat.add_zero] at x0
    have hne : b ≠ gh := fun e => by
      have := hoff _ ea
      rw [ehv] at this
      exact this (by rw [e]; rfl)
    obtain ⟨w1, ew1⟩ : ∃ w1, w1 = W.drew.setCell ⟨gh, t.root s, none⟩ (.int .i64 (i : Nat)) := ⟨_, rfl⟩
    have hk1 : KpS (fun k => k = gh) W w1 := by rw [ew1]; exact ((KpS.refl (fun k => k = gh) W).drew).set (a := ⟨gh, t.root s, none⟩) _ (.inl rfl)
    have HM1 : Hid (HptAt w1 lo hi tb fb R (updH h (t.root s) (some i)) cnt V) := by
      rw [ew1]
      exact (H.below (Below.refl W.heap.size W).drew H.tbr.2.2.2.2).setHold ehv hkl (some i)
    have HK1 : Hid (KpS (fun k => V.hv.ownBlock = some k) W w1) := hk1.mono fun k e => by subst e; rw [ehv]; rfl
    have hp1 : Rd eNat w1 (some ⟨b, o, none⟩) (i :: L) := .inr ⟨b, o, rfl, Nat.lt_of_lt_of_le hbl hk1.size, fun j hj => ((cellK hk1 hbl hne).1 _).trans (hpc j hj)⟩
    have HP1 := Lib.hid hp1
    have HBIG := Lib.hid hbig
    have HREC := Lib.hid hrec
    have HAT := Lib.hid ha
    have HG := Lib.hid ehv
    have HWF := Lib.hid hw
    have hM : (nds R.length).length ≤ 40000 := by rw [nds_len]; omega
    simp only [List.length_cons] at hlen hcap ⊢
    have d0 : (((L.length + 1 : Nat) : Int) == 0) = false := by first | (simp; done) | (simp; omega)
    subst ea
    clear hcs hb' env ehv H hp hpc hoff hbig hrec hk1 hp1 ha rnd hw
    obtain ⟨n, hn⟩ : ∃ n, n = L.length := ⟨_, rfl⟩
    have HN := Lib.hid hn
    rw [← hn] at hlen hcap d0 ⊢
    obtain ⟨K, hK⟩ : ∃ K, K = t.root s := ⟨_, rfl⟩
    have HK := Lib.hid hK
    obtain ⟨M, hMM⟩ : ∃ M, M = (nds R.length).length := ⟨_, rfl⟩
    have HMM := Lib.hid hMM
    rw [← hK] at y0 z0 hkl ew1 ⊢
    rw [← hMM] at c4 hkl hM
    clear hn hK hMM
    have g0 := cell_belowW c4
    have g1 := cell_belowW x0
    go_enter Tryz.func50, Tryz.ntmps50
    go_upto_region 1 with fail
    refine wp_region_head (fun W' => ∃ p : BelowW W, W' = p.W) [8, 9] [(0, false), (1, false), (2, false), (3, true), (4, false), (5, false), (6, false), (7, true)] (by kernel_rfl) (by kernel_rfl) (fun _ _ d _ _ h => by cases d <;> exact h) ⟨⟨_, (Below.refl _ _).drew⟩, rfl⟩ 2 rfl (by kernel_rfl) ?_
    simp only [pickB, List.filterMap_cons, List.filterMap_nil, List.getElem?_toArray, List.getElem?_cons_succ, List.getElem?_cons_zero, Option.map_some]
    repeat (refine wpHd_step (fun K hK => ?_); go_simp; first | (refine hK _ ?_; clear hK K) | (apply Exists.intro; refine ⟨fun _ => ?_, hK _ ?_⟩; rfl; clear hK K))
    refine wpHd_nil ?_
    refine wpAnyT_line [8, 9] _ _ _ (by kernel_rfl) ?_
    simp only [pick, List.filterMap_cons, List.filterMap_nil, List.getElem?_toArray, List.getElem?_cons_succ, List.getElem?_cons_zero]
    have y0 : W.drew.cell? ⟨gh, K, none⟩ = some (.int .i64 (eHo (h K))) := y0
    have z0 : W.drew.frozen? ⟨gh, K, none⟩ = false := z0
    clear g0 g1 c4 x0
    go_upto_region 2 with fail
    rw [show (W.setCell ⟨gh, K, none⟩ (.int .i64 (i : Nat))).drew = w1 by rw [ew1]; rfl]
    clear ew1 y0 z0
    obtain ⟨gn, off, cn, env, rnd⟩ := HM1.out.nodes h0
    have hb1 := HM1.out.blk
    rw [env] at hb1
    have c3 : w1.cell? ⟨tb, 3, none⟩ = some (.slice (some ⟨gn, off, none⟩) M cn) := by simp [World.cell?, hb1]; exact HMM.out.symm
    obtain ⟨hgn, n0, n1, n2, n3, n4, n5, n6⟩ := nd_all rnd HAT.out.get
    rw [← HK.out] at n0 n1 n2 n3 n4 n5 n6
    have htl1 := HM1.out.tbl
    have HRN := Lib.hid rnd
    obtain ⟨d, hd⟩ : ∃ d, d = t.top s := ⟨_, rfl⟩
    rw [← hd] at n0 n1 n2 n3 n4 n6
    have HD := Lib.hid hd
    clear hd
    obtain ⟨w2, ew2⟩ : ∃ w2, w2 = w1.alloc (.cells #[.int .u8 d.kind, .int .i64 d.l, .int .i64 d.r, .int .i64 d.fr, .int .i64 d.til, .int .i64 0, .int .i64 d.item] 119) := ⟨_, rfl⟩
    have hb2 : Below w1.heap.size w1 w2 := by rw [ew2]; exact (Below.refl _ _).alloc (Nat.le_refl _) _
    have hx2 : w2.heap[w1.heap.size]? = some (.cells #[.int .u8 d.kind, .int .i64 d.l, .int .i64 d.r, .int .i64 d.fr, .int .i64 d.til, .int .i64 0, .int .i64 d.item] 119 (0, 0)) := by rw [ew2]; exact lit0 w1 _
    have x0 : w2.cell? ⟨w1.heap.size, 0, none⟩ = some (.int .u8 d.kind) := by simp [World.cell?, hx2]
    have x1 : w2.cell? ⟨w1.heap.size, 1, none⟩ = some (.int .i64 d.l) := by simp [World.cell?, hx2]
    have x2 : w2.cell? ⟨w1.heap.size, 2, none⟩ = some (.int .i64 d.r) := by simp [World.cell?, hx2]
    have q3 := (hb2.cell (p := ⟨tb, 3, none⟩) htl1).trans c3
    have hxl : w1.heap.size < w2.heap.size := (Array.getElem?_eq_some_iff.1 hx2).1
    have HB2 := Lib.hid hb2
    have HM2 : Hid (HptAt w2 lo hi tb fb R (updH h (t.root s) (some i)) cnt V) := HM1.out.below hb2 HM1.out.tbr.2.2.2.2
    have HK2 : Hid (KpS (fun k => V.hv.ownBlock = some k) W w2) := HK1.out.below hb2
    have HP2 : Hid (Rd eNat w2 (some ⟨b, o, none⟩) (i :: L)) := HP1.out.below hb2
    clear env rnd hb1 hb2 hx2
    go_upto_region 3 with fail
    rw [← ew2]
    clear ew2 n0 n1 n2 n3 n4 n5 n6 c3
    cases t with
    | leaf a =>
      have d1 : (d.kind != (2 : Int)) = true := by rw [HD.out]; rfl
      have HFIN : Hid (FillP W lo hi tb fb R (fillH (.leaf a) s (i :: L) h) cnt V (.returned (.tuple #[])) w2) := ⟨rfl, HM2.out, HK2.out⟩
      clear x1 x2 HREC
      go_wp2
      go_end0
      exact HFIN.out
    | node l r =>
      have d1 : (d.kind != (2 : Int)) = false := by rw [HD.out]; rfl
      have hll := HAT.out.left.lt
      have hrl := HAT.out.right.lt
      have hdl : d.l = ((l.root s : Nat) : Int) := by rw [HD.out]; show ((s + l.size : Nat) : Int) - 1 = _; unfold FT.root; have := l.size_pos; omega
      have hdr : d.r = ((r.root (s + l.size) : Nat) : Int) := by rw [HD.out]; show ((s + l.size + r.size : Nat) : Int) - 1 = _; unfold FT.root; have := r.size_pos; omega
      rw [hdl] at x1
      rw [hdr] at x2
      obtain ⟨REC1, REC2⟩ := HREC.out l r rfl
      have HR1 := Lib.hid REC1
      have HR2 := Lib.hid REC2
      obtain ⟨m0, m1, m2, m3, m4, m5, m6, m7⟩ := nd_all (HRN.out.below HB2.out) HAT.out.left.get
      rw [FT.top_to] at m5
      have hlh := HWF.out
      have hmid : l.hi ≤ 20000 := by
        have := FT.lo_hi r hlh.2.1
        have h3 : (FT.node l r).hi = r.hi := rfl
        have := hlh.2.2
        omega
      have HLM : Hid (∃ mid, mid = l.hi) := ⟨_, rfl⟩
      rw [← HMM.out] at hll hrl
      clear hdl hdr REC1 REC2 HREC m1 m2 m3 m4 m6 m7 hlh HRN
      have HOUT : Hid (fillH (.node l r) s (i :: L) h = fillH r (s + l.size) (L.filter fun j => !decide (j < l.hi)) (fillH l s (L.filter fun j => decide (j < l.hi)) (updH h ((FT.node l r).root s) (some i)))) := rfl
      obtain ⟨mid, hmd⟩ : ∃ mid, mid = l.hi := ⟨_, rfl⟩
      obtain ⟨kl, hkl1⟩ : ∃ kl, kl = l.root s := ⟨_, rfl⟩
      obtain ⟨kr, hkr1⟩ : ∃ kr, kr = r.root (s + l.size) := ⟨_, rfl⟩
      rw [← hmd] at m5 hmid HOUT
      rw [← hkl1] at m5 x1 HR1 hll
      rw [← hkr1] at x2 HR2 hrl
      clear hmd hkl1 hkr1 HLM
      go_upto_region 5 with fail
      have hn1 : (i :: L).length = n + 1 := by simp [HN.out]
      have HN1 := Lib.hid hn1
      clear hn1
      go_wp2_with (refine wp_sliceN elInt HP2.out HN1.out hcap 1 (n + 1) (by omega) (Nat.le_refl _) rfl _ _ _ rfl rfl rfl rfl ?_; intro ad' hr; simp only [Nat.add_sub_cancel])
      have hLr : Rd eNat w2 ad' L := by
        have h9 := Rd.ofK hr
        rw [← HN1.out, List.take_length] at h9
        exact h9
      have HLR := Lib.hid hLr
      clear hr hLr
      obtain ⟨nw, hnw⟩ : ∃ nw, nw = w1.heap.size := ⟨_, rfl⟩
      have hgh1 : gh < w1.heap.size := Nat.lt_of_lt_of_le hghl HK1.out.size
      rw [← hnw] at x0 x1 x2 hxl hgh1 ⊢
      clear hnw
      have htl2 : tb < w2.heap.size := HM2.out.tbl
      have hgn2 : gn < w2.heap.size := Nat.lt_of_lt_of_le hgn HB2.out.size
      have hhi2 : hi ≤ w2.heap.size := HM2.out.tbr.2.2.2.2
      go_loopg [7, 8, 36] n (fun kx s7 s8 s36 wr => ∃ (j : Nat) (va vb : Value), s36 = .int .i64 j ∧ s7 = va ∧ s8 = vb ∧ j ≤ n ∧ n - j ≤ kx ∧ Hid (Below w2.heap.size w2 wr) ∧
        Hid (wr.ownsRow w2.heap.size 3 1 va ((L.take j).filter fun k => decide (k < mid)).length (((L.take j).filter fun k => decide (k < mid)).map eNat)) ∧
        Hid (wr.ownsRow w2.heap.size 3 1 vb ((L.take j).filter fun k => !decide (k < mid)).length (((L.take j).filter fun k => !decide (k < mid)).map eNat)) ∧ Hid (∀ g, va.ownBlock = some g → vb.ownBlock ≠ some g))
      case atStart => exact ⟨0, _, _, rfl, rfl, rfl, Nat.zero_le _, by omega, Below.refl _ _, World.ownsRow_nil _ _ _ _, World.ownsRow_nil _ _ _ _, fun g h => by cases h⟩
      case round =>
        obtain ⟨j, va, vb, rfl, rfl, rfl, hj, hkx, HBr, HOa, HOb, HNE⟩ := hrel
        obtain ⟨aa, ca, rfl⟩ := rowV HOa.out
        obtain ⟨ab, cb, rfl⟩ := rowV HOb.out
        by_cases hlt : j < n
        · have hjl : j < L.length := by have := HN.out; omega
          obtain ⟨b', o', ea, hbl', hcs⟩ := (HLR.out.below HBr.out).get (by omega)
          have xj := hcs j hjl
          simp only [eNat] at xj
          have HT1 := Lib.hid (take_filter_nat (fun k => decide (k < mid)) L hjl)
          have HT2 := Lib.hid (take_filter_nat (fun k => !decide (k < mid)) L hjl)
          have hkb := HBIG.out L[j] (List.mem_cons_of_mem _ (List.getElem_mem hjl))
          obtain ⟨k, hk⟩ : ∃ k, k = L[j] := ⟨_, rfl⟩
          rw [← hk] at xj HT1 HT2 hkb
          have hla : ((L.take j).filter fun k => decide (k < mid)).length ≤ n := Nat.le_trans (List.length_filter_le _ _) (by rw [List.length_take]; omega)
          have hlb : ((L.take j).filter fun k => !decide (k < mid)).length ≤ n := Nat.le_trans (List.length_filter_le _ _) (by rw [List.length_take]; omega)
          generalize (L.take j).filter (fun k => decide (k < mid)) = A at *
          generalize (L.take j).filter (fun k => !decide (k < mid)) = B at *
          have q3 := (HBr.out.cell (p := ⟨tb, 3, none⟩) htl2).trans q3
          have x1 := (HBr.out.cell (p := ⟨nw, 1, none⟩) hxl).trans x1
          have m5 := (HBr.out.cell (p := ⟨gn, off + kl * 7 + 4, none⟩) hgn2).trans m5
          have EA := Lib.hid ea
          clear hcs hk ea
          obtain ⟨nA, hnA⟩ : ∃ nA, nA = A.length := ⟨_, rfl⟩
          obtain ⟨nB, hnB⟩ : ∃ nB, nB = B.length := ⟨_, rfl⟩
          rw [← hnA] at hla HOa HNE ⊢
          rw [← hnB] at hlb HOb HNE ⊢
          have HNA : Hid (nA = A.length ∧ nB = B.length) := ⟨hnA, hnB⟩
          clear hnA hnB
          have F : ∀ q, Below w2.heap.size w2 (wr.drewN q) ∧ (wr.drewN q).ownsRow w2.heap.size 3 1 (.slice aa nA ca) nA (A.map eNat) ∧ (wr.drewN q).ownsRow w2.heap.size 3 1 (.slice ab nB cb) nB (B.map eNat) ∧ w2.heap.size ≤ (wr.drewN q).heap.size := fun q =>
            ⟨HBr.out.trans ((Below.drewAny _ q).mono HBr.out.size), HOa.out.drewAny q, HOb.out.drewAny q, HBr.out.size⟩
          have HF := Lib.hid F
          clear F
          obtain rfl := EA.out
          clear EA HOa HOb hjl
          by_cases hkm : k < mid
          · have e1 : decide ((k : Int) < (mid : Int)) = true := by simp; omega
            have e2 : decide (k < mid) = true := by simp; omega
            rw [e2] at HT1 HT2
            go_upto_region 8 with fail
            go_quiet (fail)
            obtain ⟨f1, f2, f3, f4⟩ := HF.out nq
            have HB5 := Lib.hid f1
            have HOa5 := Lib.hid f2
            have HOb5 := Lib.hid f3
            obtain ⟨w5, ew5⟩ : ∃ w5, w5 = wr.drewN nq := ⟨_, rfl⟩
            rw [← ew5] at HB5 HOa5 HOb5 f4 ⊢
            clear ew5 f1 f2 f3 HF q3 x1 m5 xj
            go_wp2_with (at_builtin; refine wp_append1B elInt w2.heap.size HOa5.out [.int .i64 k] rfl (by simp [Value.oneCell']) rfl _ _ rfl rfl _ rfl (by unfold maxLen; omega) (by omega) f4 ?_; intro v' w6 hown' hg hblk)
            go_roundg (n - (j + 1))
            case measure => omega
            case rel =>
              have hvb : ∀ g, (Value.slice ab nB cb).ownBlock = some g → (Value.slice aa nA ca).ownBlock ≠ some g := fun g h1 h2 => HNE.out g h2 h1
              have K : KpS (fun q => (Value.slice aa nA ca).ownBlock = some q) w5 w6 := (KpS.refl _ w5).grown hg (fun q hq => .inl hq)
              refine ⟨j + 1, v', _, by go_num, rfl, rfl, by omega, Nat.le_refl _, below_grown HB5.out HOa5.out hg HB5.out.size (Nat.le_refl _), ?_, ?_, ?_⟩
              · show World.ownsRow _ _ _ _ _ _ _
                rw [HT1.out]
                simp only [if_true]
                rw [List.map_append, List.length_append, ← HNA.out.1]
                exact hown'
              · show World.ownsRow _ _ _ _ _ _ _
                rw [HT2.out]
                simp only [Bool.not_true, Bool.false_eq_true, if_false, List.append_nil]
                rw [← HNA.out.2]
                exact rowK HOb5.out K (fun g h1 h2 => hvb g h1 h2)
              · intro g e h9
                rcases blkOf_alloc hblk with h8 | ⟨q, h8, h7⟩
                · exact hvb g h9 (h8 ▸ e)
                · rw [h8] at e
                  injection e with e
                  have := (HOb5.out.lt g h9).2
                  omega
          · have e1 : decide ((k : Int) < (mid : Int)) = false := by simp; omega
            have e2 : decide (k < mid) = false := by simp; omega
            rw [e2] at HT1 HT2
            go_upto_region 8 with fail
            go_quiet (fail)
            obtain ⟨f1, f2, f3, f4⟩ := HF.out nq
            have HB5 := Lib.hid f1
            have HOa5 := Lib.hid f2
            have HOb5 := Lib.hid f3
            obtain ⟨w5, ew5⟩ : ∃ w5, w5 = wr.drewN nq := ⟨_, rfl⟩
            rw [← ew5] at HB5 HOa5 HOb5 f4 ⊢
            clear ew5 f1 f2 f3 HF q3 x1 m5 xj
            go_wp2_with (at_builtin; refine wp_append1B elInt w2.heap.size HOb5.out [.int .i64 k] rfl (by simp [Value.oneCell']) rfl _ _ rfl rfl _ rfl (by unfold maxLen; omega) (by omega) f4 ?_; intro v' w6 hown' hg hblk)
            go_roundg (n - (j + 1))
            case measure => omega
            case rel =>
              have K : KpS (fun q => (Value.slice ab nB cb).ownBlock = some q) w5 w6 := (KpS.refl _ w5).grown hg (fun q hq => .inl hq)
              refine ⟨j + 1, _, v', by go_num, rfl, rfl, by omega, Nat.le_refl _, below_grown HB5.out HOb5.out hg HB5.out.size (Nat.le_refl _), ?_, ?_, ?_⟩
              · show World.ownsRow _ _ _ _ _ _ _
                rw [HT1.out]
                simp only [Bool.false_eq_true, if_false, List.append_nil]
                rw [← HNA.out.1]
                exact rowK HOa5.out K (fun g h1 h2 => HNE.out g h1 h2)
              · show World.ownsRow _ _ _ _ _ _ _
                rw [HT2.out]
                simp only [Bool.not_false, if_true]
                rw [List.map_append, List.length_append, ← HNA.out.2]
                exact hown'
              · intro g e h9
                rcases blkOf_alloc hblk with h8 | ⟨q, h8, h7⟩
                · exact HNE.out g e (h8 ▸ h9)
                · rw [h8] at h9
                  injection h9 with h9
                  have := (HOa5.out.lt g e).2
                  omega
        · obtain rfl : j = n := by omega
          have hTK : L.take j = L := by rw [HN.out, List.take_length]
          rw [hTK] at HOa HOb HNE ⊢
          have HM5 : Hid (HptAt wr lo hi tb fb R (updH h ((FT.node l r).root s) (some i)) cnt V) := HM2.out.below HBr.out hhi2
          have HK5 : Hid (KpS (fun k => V.hv.ownBlock = some k) W wr) := HK2.out.below HBr.out
          have hbA : ∀ k ∈ L.filter (fun k => decide (k < mid)), k ≤ 1000000 := fun k hk => HBIG.out k (List.mem_cons_of_mem _ (List.mem_filter.1 hk).1)
          have hbB : ∀ k ∈ L.filter (fun k => !decide (k < mid)), k ≤ 1000000 := fun k hk => HBIG.out k (List.mem_cons_of_mem _ (List.mem_filter.1 hk).1)
          have hla : (L.filter fun k => decide (k < mid)).length ≤ j := Nat.le_trans (List.length_filter_le _ _) (by rw [HN.out]; exact Nat.le_refl _)
          have hlb : (L.filter fun k => !decide (k < mid)).length ≤ j := Nat.le_trans (List.length_filter_le _ _) (by rw [HN.out]; exact Nat.le_refl _)
          generalize L.filter (fun k => decide (k < mid)) = A at *
          generalize L.filter (fun k => !decide (k < mid)) = B at *
          have x1 := (HBr.out.cell (p := ⟨nw, 1, none⟩) hxl).trans x1
          have x2 := (HBr.out.cell (p := ⟨nw, 2, none⟩) hxl).trans x2
          have hnr : nw < wr.heap.size := Nat.lt_of_lt_of_le hxl HBr.out.size
          obtain ⟨aA, cA, eA, -, hcA, hrA⟩ := Rd.of_owns (enc := eNat) HOa.out
          injection eA with eA1 eA2 eA3
          subst eA1 eA3
          have hghw : gh < w2.heap.size := Nat.lt_trans hgh1 hxl
          have offOf : ∀ {v : Value} {m : Nat} {X : List Value} {a : Option Addr} {n' c' : Nat} {w' : World}, w'.ownsRow w2.heap.size 3 1 v m X → v = .slice a n' c' → Off a V.hv := fun {v m X a n' c' w'} h1 h2 ad e h3 => by
            subst h2 e
            rcases h1.2 with ⟨h4, -⟩ | ⟨g, cap, cur, h4, h5, -⟩
            · cases h4
            · injection h4 with h4
              injection h4 with h4
              subst h4
              rw [HG.out] at h3
              injection h3 with h3
              simp only at h3
              omega
          have C1 := Lib.hid (HR1.out A wr _ aa ca HM5.out hrA (by omega) hcA (offOf HOa.out rfl) hbA)
          have HHB := Lib.hid hbB
          have HOF : Hid (Off ab V.hv) := offOf HOb.out rfl
          clear hTK hrA HOa offOf hbA hbB HR1 m5 q3 eA2
          obtain ⟨nA, hnA⟩ : ∃ nA, nA = A.length := ⟨_, rfl⟩
          rw [← hnA] at C1 hcA hla HNE ⊢
          clear hnA
          go_wp2_with fail
          refine C1.out.mono ?_
          rintro e w6 ⟨rfl, hM6, hK6⟩
          have hng : ¬ V.hv.ownBlock = some nw := fun e => by
            rw [HG.out] at e
            have e : gh = nw := Option.some.inj e
            omega
          have x2 := ((cellK hK6 hnr hng).1 2).trans x2
          have hOb6 := rowK HOb.out hK6 (fun g h1 h2 => by
            rw [HG.out] at h2
            have h2 : gh = g := Option.some.inj h2
            have := (HOb.out.lt g h1).1
            omega)
          obtain ⟨aB, cB, eB, -, hcB, hrB⟩ := Rd.of_owns (enc := eNat) hOb6
          injection eB with eB1 eB2 eB3
          subst eB1 eB3
          have C2 := Lib.hid (HR2.out B w6 _ ab cb hM6 hrB (by omega) hcB HOF.out HHB.out)
          have HK6 : Hid (KpS (fun k => V.hv.ownBlock = some k) W w6) := HK5.out.trans hK6
          clear hOb6 hrB hM6 hK6 hng C1 HR2 HOb eB2
          obtain ⟨nB, hnB⟩ : ∃ nB, nB = B.length := ⟨_, rfl⟩
          rw [← hnB] at C2 hcB hlb HNE ⊢
          clear hnB
          go_wp2_with fail
          refine C2.out.mono ?_
          rintro e w7 ⟨rfl, hM7, hK7⟩
          have HFIN : Hid (FillP W lo hi tb fb R (fillH (.node l r) s (i :: L) h) cnt V (.returned (.tuple #[])) w7) := by
            rw [HOUT.out]
            exact ⟨rfl, hM7, HK6.out.trans hK7⟩
          clear hM7 hK7
          go_wp2
          go_end0
          exact HFIN.out

theorem heap_fill {lo hi tb fb : Nat} {R : List Pt} {cnt : Int} {V : HepV} (hR : R.length ≤ 20000) : ∀ (t : FT) (s : Nat), FT.At (nds R.length) t s → t.wf → t.hi ≤ R.length → ∀ (L : List Nat) (W : World) (h : Hld) (pa : Option Addr) (pc : Nat),
    HptAt W lo hi tb fb R h cnt V → Rd eNat W pa L → L.length ≤ 20000 → L.length ≤ pc → Off pa V.hv → (∀ i ∈ L, i ≤ 1000000) →
    Calls Tryz.prog 50 #[.pointer (some ⟨tb, 0, none⟩), .int .i64 (t.root s : Nat), .slice pa L.length pc] W (FillP W lo hi tb fb R (fillH t s L h) cnt V) := by
  intro t
  induction t with
  | leaf a => exact fun s ha hw hh L W h pa pc H hp h1 h2 h3 h4 => heap_fill1 hR _ s ha hw hh L W h pa pc H hp h1 h2 h3 h4 (fun l r e => by cases e)
  | node l r il ir =>
    intro s ha hw hh L W h pa pc H hp h1 h2 h3 h4
    refine heap_fill1 hR _ s ha hw hh L W h pa pc H hp h1 h2 h3 h4 fun l' r' e => ?_
    cases e
    have k1 := FT.lo_hi r hw.2.1
    have k2 := hw.2.2
    have k3 : (FT.node l r).hi = r.hi := rfl
    exact ⟨fun L W h pa pc H hp h1 h2 h3 h4 => il s ha.left hw.1 (by omega) L W h pa pc H hp h1 h2 h3 h4, fun L W h pa pc H hp h1 h2 h3 h4 => ir _ ha.right hw.2.1 (by omega) L W h pa pc H hp h1 h2 h3 h4⟩
end Go.Proofs.YtggfdlanobndjaaGreat
