/- Maps of maps; gridironlaw12.over: for each point how often each name is over it. -/
import Derived.Test.YthpgkldpbbajfaaGreatL12w
import Derived.Test.YthpgkldpbbajfaaGreatQ5
namespace Go.Proofs.YthpgkldpbbajfaaGreat
open Go.RowKit Go.Maps
attribute [local irreducible] wpQuiet
set_option linter.unusedSimpArgs false
set_option linter.unusedVariables false

/-- how a map that is an element reads: by its block -/
def mE : Value → Option (DataW Unit × List MemPlace)
  | .map (some b) => some (.lit (.int .i64 (b : Int)), [])
  | .map none => some (.lit (.int .i64 (-1)), [])
  | _ => none
theorem mE_inv {v : Value} {b : Nat} {ps : List MemPlace} (h : mE v = some (.lit (.int .i64 (b : Int)), ps)) : v = .map (some b) := by
  cases v <;> simp [mE] at h
  rename_i m
  cases m with
  | none => simp at h <;> omega
  | some c => simp at h; obtain ⟨h, -⟩ := h; rw [show c = b by omega]
theorem ownsMap_look {P : Program} {k e t : TypeId} {w : World} {ob n : Nat} {D : DataW Unit} (hown : w.ownsMap P k mE ob n D) (K : Keyed P k) (ht : P.underlying t = some (.map k e)) (hz : (zeroValue e).run P w = .ok (.map none) w) {key : Value} {kl : Lit} (hkey : keyOf P k key = some kl) {b : Nat}
    (hat : D.atKey kl (.lit (.int .i64 (-1))) = .lit (.int .i64 (b : Int))) : (Instr.lookup t (.map (some ob)) key false).run P w = .ok (.map (some b)) w := by
  obtain ⟨v, ps, hrun, hv⟩ := hown.lookup K ht hz (show mE (.map none) = some (.lit (.int .i64 (-1)), []) from rfl) hkey
  rw [hat] at hv
  obtain rfl := mE_inv hv
  exact hrun
/-- m[k], an element that is a map -/
theorem wpList_lookup_own_map {P : Program} (w : World) {ops : Array Oper} {rest : List Oper} {o : Oper} {a : Act} {Q : Exit → Act → World → Prop}
    (hg : o.guard = none) (m x : Operand) (t : TypeId) (hop : o.op = Op.lookup t m x false)
    (k e : TypeId) (K : Keyed P k) (ht : P.underlying t = some (.map k e)) (hz : (zeroValue e).run P w = .ok (.map none) w) (ob n : Nat) (D : DataW Unit)
    (hm : a.eval m = .map (some ob)) (hown : w.ownsMap P k mE ob n D) (key : Value) (kl : Lit) (hx : a.eval x = key) (hkey : keyOf P k key = some kl) (b : Nat) (hat : D.atKey kl (.lit (.int .i64 (-1))) = .lit (.int .i64 (b : Int)))
    (hK : wpList P ops Q rest (a.put o.dst (.map (some b))) w) : wpList P ops Q (o :: rest) a w := by
  refine wpList_plain hg fun K' hK' => ?_
  have hrun := ownsMap_look hown K ht hz hkey hat
  unfold Oper.wp
  simp [execOp, hop, hm, hx, hrun, Result.andThen]
  exact hK' _ _ hK

theorem mapSameR {P : Program} {k : TypeId} {R : Value → Option (DataW Unit × List MemPlace)} {w w' : World} {b n : Nat} {D : DataW Unit} (h : w.ownsMap P k R b n D) (e : w'.heap[b]? = w.heap[b]?) : w'.ownsMap P k R b n D := by
  obtain ⟨es, clock, hb, r⟩ := h
  exact ⟨es, clock, e.trans hb, r⟩
/-- a map of maps: for each of these points a map that counts f of it -/
def OvS (W : World) (ob n lo : Nat) (f : Pt → List Int) (done : List Pt) : Prop :=
  ∃ D : DataW Unit, W.ownsMap Tryz.prog 32 mE ob n D ∧ Tidy D ∧ lo ≤ ob ∧ ∀ p ∈ done, ∃ b m : Nat, ∃ (Dn : DataW Unit) (ks : List Int), D.atKey (.int .u32 p.2.2) (.lit (.int .i64 (-1))) = .lit (.int .i64 (b : Int)) ∧ lo ≤ b ∧ b ≠ ob ∧ W.ownsMap Tryz.prog 32 (plainElem Tryz.prog 3) b m Dn ∧ IsM .u32 .i64 Dn (cntF (f p)) ks
theorem OvS.kept {W W' : World} {ob n lo : Nat} {f : Pt → List Int} {done : List Pt} {r : Option Nat} (h : OvS W ob n lo f done) (hg : W.grownBy W' r) (hr : ∀ b, r = some b → W.heap.size ≤ b) : OvS W' ob n lo f done := by
  obtain ⟨D, h1, h2, h3, h4⟩ := h
  have hne : ∀ b, b < W.heap.size → some b ≠ r := fun b hb e => by have := hr b e.symm; omega
  refine ⟨D, h1.kept hg (hne _ h1.lt), h2, h3, fun p hp => ?_⟩
  obtain ⟨b, m, Dn, ks, g1, g2, g0, g3, g4⟩ := h4 p hp
  exact ⟨b, m, Dn, ks, g1, g2, g0, g3.kept hg (hne _ g3.lt), g4⟩
/-- a further point: a fresh map laid under its name -/
theorem OvS.put {W1 W2 : World} {ob n lo mb m : Nat} {f : Pt → List Int} {done : List Pt} {p : Pt} {D : DataW Unit} (h1 : W1.ownsMap Tryz.prog 32 mE ob n D) (h2 : Tidy D) (h3 : lo ≤ ob)
    (h4 : ∀ p ∈ done, ∃ b m : Nat, ∃ (Dn : DataW Unit) (ks : List Int), D.atKey (.int .u32 p.2.2) (.lit (.int .i64 (-1))) = .lit (.int .i64 (b : Int)) ∧ lo ≤ b ∧ b ≠ mb ∧ b ≠ ob ∧ W1.ownsMap Tryz.prog 32 (plainElem Tryz.prog 3) b m Dn ∧ IsM .u32 .i64 Dn (cntF (f p)) ks)
    (hp : ∀ q ∈ done, q.2.2 ≠ p.2.2) {Dn : DataW Unit} {ks : List Int} (hown : W2.ownsMap Tryz.prog 32 mE ob (n + 1) (D.put (.int .u32 p.2.2) (.lit (.int .i64 (mb : Int))))) (hm : W2.ownsMap Tryz.prog 32 (plainElem Tryz.prog 3) mb m Dn) (hn : IsM .u32 .i64 Dn (cntF (f p)) ks) (hlo : lo ≤ mb) (hmo : mb ≠ ob)
    (hK : ∀ b, b ≠ mb → b ≠ ob → b < W1.heap.size → W2.heap[b]? = W1.heap[b]?) : OvS W2 ob (n + 1) lo f (done ++ [p]) := by
  have hk : WideAt.IsKeyLit (Lit.int .u32 p.2.2) := trivial
  refine ⟨_, hown, h2.put hk _, h3, fun q hq => ?_⟩
  rcases List.mem_append.1 hq with hq | hq
  · obtain ⟨b, m', Dq, ks', g1, g2, g3, g4, g5, g6⟩ := h4 q hq
    have hne : (Lit.int .u32 q.2.2) ≠ (.int .u32 p.2.2) := fun e => hp q hq (by injection e)
    refine ⟨b, m', Dq, ks', by rw [atKey_put_other hne]; exact g1, g2, g4, ?_, g6⟩
    obtain ⟨es, clock, hb, r⟩ := g5
    exact ⟨es, clock, (hK b g3 g4 ((Array.getElem?_eq_some_iff.1 hb).1)).trans hb, r⟩
  · obtain rfl := List.mem_singleton.1 hq
    exact ⟨mb, m, Dn, ks, atKey_put_same h2.isMap hk _ _, hlo, hmo, hm, hn⟩

/-- what a counting map answers -/
theorem cnt_at12 {H : Type} {D : DataW H} {L ks : List Int} (hD : IsM .u32 .i64 D (cntF L) ks) (x cc : Int) (hat : D.atKey (.int .u32 x) (.lit (.int .i64 0)) = .lit (.int .i64 cc)) : (L.count x : Int) = cc := by
  rw [(hD.2.2.2.2 x).2] at hat
  unfold cntF at hat
  by_cases hin : x ∈ L
  · rw [if_pos hin] at hat
    simpa using hat
  · rw [if_neg hin] at hat
    rw [List.count_eq_zero.2 hin]
    simpa using hat
theorem grown_of12 {w w' : World} (h : Below w.heap.size w w') : w.grownBy w' none := ⟨h.os, h.tape, h.output, h.size, fun k hk _ => h.block k hk⟩
theorem hasN_wf {l : List Pt} (hw : wfN l) (f : Pt → Bool) : ∀ k ∈ hasN l f, (Lit.int .u32 k).wf = true := fun k hk => by
  have h1 : k ∈ ids (l.filter f) := (List.mergeSort_perm _ _).mem_iff.1 hk
  obtain ⟨p, hp, rfl⟩ := List.mem_map.1 h1
  exact hw p (List.mem_filter.1 hp).1
theorem hasN_few12 (l : List Pt) (f : Pt → Bool) : (hasN l f).length ≤ l.length := by rw [hasN_len]; exact List.length_filter_le _ _

set_option maxRecDepth 100000 in
set_option maxHeartbeats 8000000 in
theorem over12 {w : World} {lo hi cb : Nat} (a : Option Addr) (l : List Pt) (c : Nat) (hT : CorAt w lo hi cb l.length l) (h : RdK ePt 3 w a l) (hf : wfL l) (hu : (ids l).Nodup) (hlen : l.length ≤ 40) :
    Calls Tryz.prog 21 #[.pointer (some ⟨cb, 0, none⟩), .slice a l.length c] w fun e w' => ∃ ob, e = .returned (.map (some ob)) ∧ OvS w' ob l.length w.heap.size (fun p => hasN l fun q => ovr q p) l ∧ Below w.heap.size w w' := by
  have HT := Lib.hid hT
  have HR := Lib.hid h
  have HWL := Lib.hid hf
  have HW := Lib.hid (show wfN l from fun p hp => (hf p hp).2.2)
  have HN := Lib.hid hu
  clear hT h hf hu
  have hmm := @run_makeMap Tryz.prog
  go_enter Tryz.func21, Tryz.ntmps21
  go_wp2
  clear hmm
  go_loopw [15] (fun iv wr => ∃ i : Nat, iv = .int .i64 i ∧ i ≤ l.length ∧ Hid (OvS wr w.heap.size i w.heap.size (fun p => hasN l fun q => ovr q p) (l.take i)) ∧ Hid (Below w.heap.size w wr)) (fun iv _ => l.length - (intOf iv).toNat)
  case atStart => exact ⟨0, rfl, Nat.zero_le _, ⟨.map [], World.ownsMap_made _ _ _ _, tidy_empty, Nat.le_refl _, fun p hp => by simp at hp⟩, Lib.hid ((Below.refl _ _).alloc (Nat.le_refl _) _)⟩
  case round =>
    obtain ⟨i, rfl, hi, HO, HB⟩ := hrel
    by_cases hil : i < l.length
    · have hb := HB.out
      obtain ⟨wo, ewo⟩ : ∃ wo : World, wo = wr := ⟨_, rfl⟩
      subst ewo
      have hpo : w.heap.size < wo.heap.size := by obtain ⟨D0, hD0, -⟩ := HO.out; exact hD0.lt
      obtain ⟨b9, off9, ea, hbl, hcs⟩ := (HR.out.below hb).get (by omega)
      have x0 := hcs i hil 0 (by omega)
      have x1 := hcs i hil 1 (by omega)
      have x2 := hcs i hil 2 (by omega)
      simp only [ePt, List.getElem?_cons_zero, List.getElem?_cons_succ, Nat.add_zero] at x0 x1 x2
      have HWK := Lib.hid (HWL.out l[i] (List.getElem_mem hil))
      have ET := Lib.hid (List.take_succ_eq_append_getElem hil)
      have HNE : Hid (∀ q ∈ l.take i, q.2.2 ≠ l[i].2.2) := fun q hq e => by
        obtain ⟨j, hj, rfl⟩ := List.getElem_of_mem hq
        rw [List.length_take] at hj
        rw [List.getElem_take] at e
        have h9 := List.pairwise_iff_getElem.1 HN.out j i (by simp [ids]; omega) (by simpa [ids] using hil) (by omega)
        exact h9 (by simpa [ids] using e)
      have EA := Lib.hid ea
      clear hcs ea
      generalize l[i] = p at *
      obtain ⟨px, py, pi⟩ := p
      simp only at x0 x1 x2
      obtain rfl := EA.out
      clear EA
      have hil2 : (i : Int) < (l.length : Int) := by omega
      obtain ⟨w4, ew4⟩ : ∃ w4, w4 = wo.alloc (.cells #[.int .i64 px, .int .i64 py, .int .u32 pi] 34) := ⟨_, rfl⟩
      have b4 : Below wo.heap.size wo w4 := by rw [ew4]; exact (Below.refl _ _).alloc (Nat.le_refl _) _
      have X4 : w4.heap[wo.heap.size]? = some (obP (px, py, pi)) := by rw [ew4]; exact lit0 _ _
      have EX := ew4.symm
      obtain ⟨y0, y1, y2⟩ := obP_cells X4
      simp only at y0 y1 y2
      have XH := Lib.hid X4
      have HB4 := Lib.hid (hb.trans (b4.mono hb.size))
      have HO4 := Lib.hid (HO.out.kept (grown_of12 b4) (by simp))
      have b4s := b4.size
      clear ew4 X4 hb b4 HO HB
      go_wp2_with fail
      have X4 := XH.out
      (try rw [EX])
      clear XH EX x0 x1 x2 y0 y1 y2
      refine (coOver (HT.out.below HB4.out HT.out.hi_le) HWL.out px py pi HWK.out.1 HWK.out.2.1).mono ?_
      rintro e w5 ⟨v5, c5, rfl, -, hown5, hb5⟩
      obtain ⟨a5, k5, rfl, -, -, hr5⟩ := Rd.of_owns hown5
      have X5 := (hb5.block _ (Array.getElem?_eq_some_iff.1 X4).1).trans X4
      have HX5 := Lib.hid X5
      have HOW5 := Lib.hid hown5
      have h45 : wo.heap.size ≤ w4.heap.size := b4s
      have HB5 := Lib.hid (HB4.out.trans (hb5.mono HB4.out.size))
      have HO5 := Lib.hid (HO4.out.kept (grown_of12 hb5) (by simp))
      obtain ⟨y0, y1, y2⟩ := obP_cells X5
      simp only at y0 y1 y2
      have hgl := hasN_few12 l (fun q => ovr q (px, py, pi))
      have FW := Lib.hid (hasN_wf HW.out (fun q => ovr q (px, py, pi)))
      have h56 := hb5.size
      clear hown5 hb5 hr5 X4 X5 HB4 HO4 b4s
      generalize wo.heap.size = pb at *
      generalize w4.heap.size = s4 at *
      obtain ⟨N, hN⟩ : ∃ N, N = hasN l fun q => ovr q (px, py, pi) := ⟨_, rfl⟩
      have HEN : Hid ((hasN l fun q => ovr q (px, py, pi)) = N) := hN.symm
      rw [← hN] at HOW5 hgl FW ⊢
      clear hN
      have hmm := @run_makeMap Tryz.prog
      obtain ⟨D, hown, hti, hlo, hdone⟩ := HO5.out
      have HDN := Lib.hid hdone
      have HTI := Lib.hid hti
      have hobl := hown.lt
      obtain ⟨w6, ew6⟩ : ∃ w6, w6 = w5.alloc (.map #[] 0) := ⟨_, rfl⟩
      have b6 : Below w5.heap.size w5 w6 := by rw [ew6]; exact (Below.refl _ _).alloc (Nat.le_refl _) _
      have hown6 := hown.kept (grown_of12 b6) (by simp)
      have hm6 : w6.ownsMap Tryz.prog 32 (plainElem Tryz.prog 3) w5.heap.size 0 (.map [] : DataW Unit) := by rw [ew6]; exact World.ownsMap_made _ _ _ _
      have EX6 := ew6.symm
      have hkey := keyOf_int_mk Tryz.underlying32 HWK.out.2.2
      (try simp only at hkey)
      have HKY := Lib.hid hkey
      have hiM : i < maxLen := by unfold maxLen; omega
      have HM6 := Lib.hid hm6
      have HOW := Lib.hid hown
      have HO6 := Lib.hid hown6
      have HB6 := Lib.hid b6
      have hpbl := (Array.getElem?_eq_some_iff.1 HX5.out).1
      clear hown hdone hti ew6 b6 hm6 hown6 HO5 hkey
      go_wp2_with (at_mapUpdate; refine wpList_mapUpdate_own _ rfl _ _ _ 38 rfl 32 40 (int_keyed Tryz.underlying32) Tryz.underlying38 _ w.heap.size i _ rfl HO6.out hiM _ _ _ rfl rfl HKY.out _ [] (show mE (.map (some w5.heap.size)) = some (.lit (.int .i64 (w5.heap.size : Int)), []) from rfl) ?_; intro w7 hown7 hgrow7)
      have hs56 := HB6.out.size
      have K7 : KpS (fun k => k = w.heap.size ∨ k = w5.heap.size) w5 w7 := ((KpS.refl _ w5).below HB6.out).grown hgrow7 (fun k e => .inl (.inl (by injection e with e; exact e.symm)))
      have hm7 := HM6.out.kept hgrow7 (fun e => by injection e with e; omega)
      have HO7 := Lib.hid hown7
      have HK7 := Lib.hid K7
      have hs7 := K7.size
      have hpb7 : pb < w7.heap.size := by omega
      have X7 : w7.heap[pb]? = some (obP (px, py, pi)) := blkK K7 HX5.out (by omega)
      have HX7 := Lib.hid X7
      have HM7 : Hid (∃ (Dn : DataW Unit) (ks : List Int), w7.ownsMap Tryz.prog 32 (plainElem Tryz.prog 3) w5.heap.size 0 Dn ∧ IsM .u32 .i64 Dn (cntF (N.take 0)) ks) := ⟨_, _, hm7, by rw [List.take_zero, cntF_nil]; exact IsM.empty _ _⟩
      have hol7 := hown7.lt
      have hml7 := hm7.lt
      clear hm7 hown7 hgrow7 K7 X7 y0 y1 y2 EX6 hmm HX5 HO6 HM6
      go_loopw [31] (fun jv wr => ∃ j : Nat, jv = .int .i64 j ∧ j ≤ N.length ∧ Hid (KpS (fun k => k = w5.heap.size) w7 wr) ∧ Hid (∃ (Dn : DataW Unit) (ks : List Int), wr.ownsMap Tryz.prog 32 (plainElem Tryz.prog 3) w5.heap.size j Dn ∧ IsM .u32 .i64 Dn (cntF (N.take j)) ks)) (fun jv _ => N.length - (intOf jv).toNat)
      case atStart => exact ⟨0, rfl, Nat.zero_le _, Lib.hid (KpS.refl _ _), HM7⟩
      case round =>
        obtain ⟨j, rfl, hj, HK, HM⟩ := hrel
        by_cases hjl : j < N.length
        · have K5 : KpS (fun k => k = w.heap.size ∨ k = w5.heap.size) w5 wr := HK7.out.trans (HK.out.mono (fun k h => .inr h))
          have RR := rowK HOW5.out K5 (fun gb e h => by have h1 := (HOW5.out.lt gb e).1; have h2 := (HOW5.out.lt gb e).2; omega)
          obtain ⟨a9, k9, e9, -, -, hr9⟩ := Rd.of_owns RR
          injection e9 with e9 _ _
          obtain ⟨b, off, ea, hbl, hcs⟩ := hr9.get (by omega)
          have x0 := hcs j hjl
          have et : N.take (j + 1) = N.take j ++ [N[j]] := List.take_succ_eq_append_getElem hjl
          have hkey : Hid (keyOf Tryz.prog 32 (.int .u32 N[j]) = some (.int .u32 N[j])) := Lib.hid (keyOf_int_mk Tryz.underlying32 (FW.out _ (List.getElem_mem _)))
          obtain ⟨Dn, ks, hown0, hD⟩ := HM.out
          have hcnt : List.count N[j] (N.take j) ≤ 600 := Nat.le_trans List.count_le_length (by rw [List.length_take]; omega)
          have hat0 : ∀ cc : Int, Dn.atKey (.int .u32 N[j]) (.lit (.int .i64 0)) = .lit (.int .i64 cc) → cc = (List.count N[j] (N.take j) : Nat) := fun cc hcc => (cnt_at12 hD _ cc hcc).symm
          have HD2 := hD.put N[j] ((List.count N[j] (N.take j) : Nat) + 1)
          rw [← cntF_snoc, ← et] at HD2
          have HD := Lib.hid HD2
          have HA0 := Lib.hid hat0
          have EA := Lib.hid (e9.trans ea)
          have hkl2 : (j : Int) < (N.length : Int) := by omega
          have hownO := mapSameR HO7.out (HK.out.block _ hol7 (by omega))
          have HOO := Lib.hid hownO
          have XW := blkK HK.out HX7.out (by omega)
          obtain ⟨y0, y1, y2⟩ := obP_cells XW
          simp only at y0 y1 y2
          have HAT : Hid ((D.put (.int .u32 pi) (.lit (.int .i64 (w5.heap.size : Int)))).atKey (.int .u32 pi) (.lit (.int .i64 (-1))) = .lit (.int .i64 (w5.heap.size : Int))) := atKey_put_same HTI.out.isMap (show WideAt.IsKeyLit (Lit.int .u32 pi) from trivial) _ _
          clear HM et hcs HD2 hD hat0 ea RR hr9 e9 K5 hownO XW
          generalize List.count N[j] (N.take j) = cn at *
          generalize N[j] = m at *
          obtain rfl := EA.out
          clear EA
          have hTj : j < maxLen := by unfold maxLen; omega
          go_wp2_with (first | (at_lookup; refine wpList_lookup_own_map _ rfl _ _ 38 rfl 32 40 (int_keyed Tryz.underlying32) Tryz.underlying38 (Tryz.zeroValue40 _) w.heap.size (i + 1) _ rfl HOO.out _ _ rfl HKY.out w5.heap.size HAT.out ?_) | (at_lookup; refine wpList_lookup_own_int _ rfl _ _ 40 rfl 32 3 .i64 (int_keyed Tryz.underlying32) Tryz.underlying40 Tryz.underlying3 (Tryz.zeroValue3 _) w5.heap.size j _ rfl hown0 _ _ rfl hkey.out ?_; intro cc hat _; obtain rfl := HA0.out cc hat; clear hat) | (at_mapUpdate; refine wpList_mapUpdate_own _ rfl _ _ _ 40 rfl 32 3 (int_keyed Tryz.underlying32) Tryz.underlying40 _ w5.heap.size j _ rfl hown0 hTj _ _ _ rfl rfl hkey.out _ [] (plainElem_int Tryz.underlying3 (by simp [Lit.wf, IntKind.min, IntKind.max, IntKind.bits, IntKind.signed]; omega)) ?_; intro w33 hown3 hgrow3))
          have HM6 : Hid (∃ (D : DataW Unit) (ks : List Int), w33.ownsMap Tryz.prog 32 (plainElem Tryz.prog 3) w5.heap.size (j + 1) D ∧ IsM .u32 .i64 D (cntF (N.take (j + 1))) ks) := ⟨_, _, hown3, HD.out⟩
          have HM7 : Hid (∃ (D : DataW Unit), w33.ownsMap Tryz.prog 32 (plainElem Tryz.prog 3) w5.heap.size (j + 1) D ∧ ∃ ks, IsM .u32 .i64 D (cntF (N.take (j + 1))) ks) := ⟨_, hown3, _, HD.out⟩
          have HK9 := Lib.hid (HK.out.grown hgrow3 (fun k hk => .inl (by injection hk with hk; exact hk.symm)))
          go_roundw
          case rel => first | exact ⟨j + 1, by go_num, by omega, HK9, by first | exact HM6 | exact HM7⟩ | ((repeat apply Exists.intro); exact ⟨⟨j + 1, by go_num, by omega, HK9, by first | exact HM6 | exact HM7⟩, rfl⟩)
          case measure => simp [intOf]; omega
        · obtain rfl : j = N.length := by omega
          rw [List.take_length] at HM
          obtain ⟨Dn, ks, hown0, hD⟩ := HM.out
          have K5 : KpS (fun k => k = w.heap.size ∨ k = w5.heap.size) w5 wr := HK7.out.trans (HK.out.mono (fun k h => .inr h))
          have hownO := mapSameR HO7.out (HK.out.block _ hol7 (by omega))
          have HOV : Hid (OvS wr w.heap.size (i + 1) w.heap.size (fun p => hasN l fun q => ovr q p) (l.take (i + 1))) := by
            show OvS _ _ _ _ _ _
            rw [ET.out]
            refine OvS.put (p := (px, py, pi)) HOW.out HTI.out (Nat.le_refl _) (fun p hp => ?_) HNE.out hownO hown0 (by rw [HEN.out]; exact hD) (by omega) (by omega) (fun b h1 h2 h3 => K5.block b h3 (fun h => by rcases h with h | h <;> omega))
            obtain ⟨b, m, Dn, ks, g1, g2, g3, g4, g5⟩ := HDN.out p hp
            exact ⟨b, m, Dn, ks, g1, g2, (by have := g4.lt; omega), g3, g4, g5⟩
          have HBF := Lib.hid (HB5.out.trans (K5.toBelow HB5.out.size (fun k h => by rcases h with h | h <;> omega)))
          clear HM hown0 hD K5 hownO
          go_wp2
          go_roundw
          case rel => exact ⟨i + 1, by go_num, by omega, HOV, HBF⟩
          case measure => simp [intOf]; omega
    · obtain rfl : i = l.length := by omega
      rw [List.take_length] at HO
      go_wp2
      go_ret
      exact ⟨_, rfl, HO.out, HB.out⟩
end Go.Proofs.YthpgkldpbbajfaaGreat
