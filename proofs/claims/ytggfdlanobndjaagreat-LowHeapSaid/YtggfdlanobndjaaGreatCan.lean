/- frame.Canon: the nodes that make up a range of leaves. -/
import Derived.Test.YtggfdlanobndjaaGreatQ4
import Derived.Deep.LoopGhost
import Derived.Deep.CutBlock
import Derived.Deep.CutRange
namespace Go.Proofs.YtggfdlanobndjaaGreat
open Go.RowKit Go.Sort Go.Shelf Go.Lib Go.Maps
attribute [local irreducible] wpQuiet
set_option linter.unusedSimpArgs false
set_option linter.unusedVariables false

/-- what the open trees tell, and how many nodes are entered -/
def stk (a b : Nat) : List (FT × Nat) → List Nat × Nat
  | [] => ([], 0)
  | p :: st => ((p.1.canon p.2 a b).1 ++ (stk a b st).1, (p.1.canon p.2 a b).2 + (stk a b st).2)
def stkN : List (FT × Nat) → Nat
  | [] => 0
  | p :: st => p.1.size + stkN st
def stkR (st : List (FT × Nat)) : List Nat := (st.map fun p => p.1.root p.2).reverse
theorem stkR_cons (p : FT × Nat) (st : List (FT × Nat)) : stkR (p :: st) = stkR st ++ [p.1.root p.2] := by simp [stkR]
theorem stkR_len (st : List (FT × Nat)) : (stkR st).length = st.length := by simp [stkR]
theorem stkN_le : ∀ st : List (FT × Nat), st.length ≤ stkN st
  | [] => Nat.le_refl _
  | p :: st => by
    have h1 := stkN_le st
    have h2 := p.1.size_pos
    simp only [stkN, List.length_cons]
    omega
theorem FT.canon_size (a b : Nat) : ∀ (t : FT) (s : Nat), (t.canon s a b).2 ≤ t.size ∧ (t.canon s a b).1.length ≤ t.size := by
  intro t
  induction t with
  | leaf x =>
    intro s
    rw [FT.canon]
    split <;> simp [FT.size]
  | node l r il ir =>
    intro s
    have h1 := il s
    have h2 := ir (s + l.size)
    have h3 := l.size_pos
    rw [FT.canon]
    split
    · simp [FT.size]
    · split
      · simp [FT.size]
      · show _ + _ + 1 ≤ _ ∧ ((_ : List Nat) ++ _).length ≤ _
        rw [List.length_append]
        simp only [FT.size]
        omega

def eNat (i : Nat) : Value := .int .i64 (i : Nat)
def CanP (w : World) (n a b : Nat) (e : Ending) (w' : World) : Prop :=
  ∃ v, e = .returned (.tuple #[v, .int .i64 (((mkT 0 n).canon 0 a b).2 : Nat), .int .i64 0]) ∧ w'.ownsRow w.heap.size 3 1 v ((mkT 0 n).canon 0 a b).1.length (((mkT 0 n).canon 0 a b).1.map eNat) ∧ Below w.heap.size w w'

theorem nd_allC {w : World} {g off : Nat} {N : List Nd} {i : Nat} {d : Nd} (h : RdK eNd 7 w (some ⟨g, off, none⟩) N) (hi : N[i]? = some d) :
    g < w.heap.size ∧ w.cell? ⟨g, off + i * 7, none⟩ = some (.int .u8 d.kind) ∧ w.cell? ⟨g, off + i * 7 + 1, none⟩ = some (.int .i64 d.l) ∧ w.cell? ⟨g, off + i * 7 + 2, none⟩ = some (.int .i64 d.r) ∧ w.cell? ⟨g, off + i * 7 + 3, none⟩ = some (.int .i64 d.fr) ∧ w.cell? ⟨g, off + i * 7 + 4, none⟩ = some (.int .i64 d.til) ∧ w.cell? ⟨g, off + i * 7 + 5, none⟩ = some (.int .i64 0) ∧ w.cell? ⟨g, off + i * 7 + 6, none⟩ = some (.int .i64 d.item) := by
  obtain ⟨hl, hd⟩ := List.getElem?_eq_some_iff.1 hi
  rcases h with h | ⟨b, o, e, hb, hc⟩
  · subst h; simp at hl
  · cases e
    have c := hc i hl
    rw [hd] at c
    exact ⟨hb, c 0 (by omega), c 1 (by omega), c 2 (by omega), c 3 (by omega), c 4 (by omega), c 5 (by omega), c 6 (by omega)⟩
theorem list_two (l : List Nat) (k : Nat) : (l ++ [k]).map eNat = l.map eNat ++ [.int .i64 (k : Nat)] := by simp [eNat]

set_option maxRecDepth 100000 in
set_option maxHeartbeats 4000000 in
theorem frame_canon (base fb n a b : Nat) (nv : Value) (hn : n ≤ 40000) (hab : a < b) (hb : b ≤ n) (w : World) (h : FrmAt w base fb n nv) :
    Calls Tryz.prog 95 #[.pointer (some ⟨fb, 0, none⟩), .int .i64 a, .int .i64 b] w (CanP w n a b) := by
  have hfl : fb < w.heap.size := (Array.getElem?_eq_some_iff.1 h.blk).1
  have hbk := h.blk
  have h5 : w.cell? ⟨fb, 5, none⟩ = some (.bool true) := by simp [World.cell?, hbk]
  have h4 : w.cell? ⟨fb, 4, none⟩ = some (.int .i64 n) := by simp [World.cell?, hbk]
  have CN := frame_none fb w h5
  have hlen := nds_len n
  obtain ⟨na, nc, rfl, -, -, hrd⟩ := RdK.of_owns eNd_len (by decide) h.row
  have hna : ∃ g off, na = some ⟨g, off, none⟩ := by
    rcases hrd with h9 | ⟨g, off, e, _⟩
    · rw [h9] at hlen; simp at hlen; omega
    · exact ⟨g, off, e⟩
  obtain ⟨g, off, rfl⟩ := hna
  have CA := frame_all_done fb n _ ⟨_, _, rfl⟩ w hbk
  have CR := Lib.hid (fun W (hb : Below w.heap.size w W) => frame_root fb n (by omega) (by omega) W ((hb.cell (p := ⟨fb, 5, none⟩) hfl).trans h5) ((hb.cell (p := ⟨fb, 4, none⟩) hfl).trans h4))
  have hT := mkT_spec 0 n (by omega)
  have hS := mkT_size 0 n (by omega)
  have HAT := Lib.hid (nds_at n (by omega))
  have HRD := Lib.hid hrd
  have HT : Hid ((mkT 0 n).root 0 = 2 * n - 2 ∧ (mkT 0 n).size = 2 * n - 1) := ⟨by unfold FT.root; omega, hS⟩
  have hcs := FT.canon_size a b (mkT 0 n) 0
  rw [hS] at hcs
  have d1 : decide ((a : Int) < 0) = false := by simp
  have d2 : decide ((a : Int) > (b : Int)) = false := by simp; omega
  have d3 : decide ((b : Int) < (a : Int)) = false := by simp; omega
  have d4 : decide (b < a) = false := by simp; omega
  have d5 : decide ((b : Int) > (n : Int)) = false := by simp; omega
  have d6 : decide ((n : Int) < (b : Int)) = false := by simp; omega
  have d7 : decide (n < b) = false := by simp; omega
  have d8 : ((a : Int) == (b : Int)) = false := by simp; omega
  have d9 : (a == b) = false := by simp; omega
  have d10 : decide (a = b) = false := by simp; omega
  have hLN : (nds n).length ≤ 100000 := by omega
  have HCS := Lib.hid hcs
  unfold CanP
  generalize hC : (mkT 0 n).canon 0 a b = C at *
  have HC := Lib.hid hC
  generalize hD : nds n = D at *
  clear hD hbk h hrd hT hS hlen hC hcs
  go_enter Tryz.func95, Tryz.ntmps95
  go_wp2_with fail
  with_reducible refine CN.mono ?_
  rintro e w' ⟨rfl, ew⟩
  subst w'
  clear CN
  go_wp2_with fail
  with_reducible refine CA.mono ?_
  rintro e w1 ⟨rfl, hb1⟩
  clear CA d1 d2 d3 d4 d5 d6 d7 d8 d9 d10 h5 h4
  go_wp2_with fail
  refine (CR.out w1 hb1).mono ?_
  rintro e w2 ⟨rfl, ew⟩
  subst ew
  clear CR
  go_wp2_with fail
  have hown0 := owns_lit w2 w.heap.size [.int .i64 ((2 * n - 2 : Nat) : Int)] 3 hb1.size (by unfold maxLen; simp)
  simp only [List.length_cons, List.length_nil, Nat.zero_add] at hown0
  go_loopg [10, 11, 12] (2 * n) (fun kx s10 s11 s12 wr => ∃ (st : List (FT × Nat)) (acc : List Nat) (en : Nat), s11 = .int .i64 en ∧ stkN st ≤ kx ∧ stkN st ≤ 80000 ∧ Below w.heap.size w wr ∧ Hid (∀ p ∈ st, FT.At D p.1 p.2) ∧ Hid (C = (acc ++ (stk a b st).1, en + (stk a b st).2)) ∧
    Hid (wr.ownsRow w.heap.size 3 1 s10 acc.length (acc.map eNat)) ∧ Hid (wr.ownsRow w.heap.size 3 1 s12 st.length ((stkR st).map eNat)) ∧ Hid (∀ g, s10.ownBlock = some g → s12.ownBlock ≠ some g))
  case atStart =>
    refine ⟨[(mkT 0 n, 0)], [], 0, rfl, ?_, ?_, hb1.trans ((Below.refl _ w2).alloc hb1.size _), ?_, ?_, World.ownsRow_nil _ _ _ _, ?_, ?_⟩
    · simp only [stkN]; have := HT.out.2; omega
    · simp only [stkN]; have := HT.out.2; omega
    · intro p hp
      obtain rfl := List.mem_singleton.1 hp
      exact HAT.out
    · show C = _
      simp [stk, HC.out]
    · simp only [stkR, List.map_cons, List.map_nil, List.reverse_singleton, HT.out.1]
      exact hown0
    · intro g h; cases h
  case round =>
    obtain ⟨st, acc, en, rfl, hkx, hk8, hbw, HA, HC2, HOa, HOp, HNE⟩ := hrel
    cases st with
    | nil =>
      have hC2 := HC2.out
      simp only [stk, List.append_nil, Nat.add_zero] at hC2
      have HCC := Lib.hid hC2
      simp only [List.length_nil] at HOp
      obtain ⟨oa, oc, rfl⟩ := rowV HOa.out
      obtain ⟨pa, pc, rfl⟩ := rowV HOp.out
      clear hC2 HC2 HC
      go_wp2
      go_ret3
      rw [HCC.out]
      exact ⟨_, rfl, HOa.out, hbw⟩
    | cons p st =>
      obtain ⟨t, s⟩ := p
      obtain ⟨oa, oc, rfl⟩ := rowV HOa.out
      have hat : FT.At D t s := HA.out _ (.head _)
      obtain ⟨hg, c0, c1, c2, c3, c4, c5, c6⟩ := nd_allC (HRD.out.below hbw) hat.get
      have hrt := hat.lt
      rw [FT.top_fr] at c3
      rw [FT.top_to] at c4
      obtain ⟨go, co, eo, hgo1, hgo2, hco1, hco2⟩ := ownRow_at HOp.out (by simp)
      subst eo
      have hOp := HOp.out
      rw [stkR_cons, list_two] at hOp
      simp only [List.length_cons] at hOp hco1
      have hx : wr.cell? ⟨go, st.length, none⟩ = some (.int .i64 (t.root s : Nat)) := by
        have h9 := hOp.cellAt st.length (by omega)
        rw [List.getElem?_append_right (by simp [stkR_len])] at h9
        simpa [stkR_len] using h9
      have hpop := ownsRow_take hOp (m := st.length) (by omega)
      rw [Nat.mul_one, List.take_append_of_le_length (by simp [stkR_len]), List.take_of_length_le (by simp [stkR_len])] at hpop
      have hCe : C = (acc ++ ((t.canon s a b).1 ++ (stk a b st).1), en + ((t.canon s a b).2 + (stk a b st).2)) := HC2.out
      have HOUT : (t.hi ≤ a ∨ b ≤ t.lo) → Hid (C = (acc ++ (stk a b st).1, (en + 1) + (stk a b st).2)) := fun h => by
        show C = _
        rw [hCe, FT.canon_out h, List.nil_append, Nat.add_assoc]
      have HIN : ¬ (t.hi ≤ a ∨ b ≤ t.lo) → (a ≤ t.lo ∧ t.hi ≤ b) → Hid (C = ((acc ++ [t.root s]) ++ (stk a b st).1, (en + 1) + (stk a b st).2)) := fun h h2 => by
        show C = _
        rw [hCe, FT.canon_in h h2, List.append_assoc, Nat.add_assoc]
      have HPART : ¬ (t.hi ≤ a ∨ b ≤ t.lo) → ¬ (a ≤ t.lo ∧ t.hi ≤ b) → ∃ l r, t = .node l r ∧ Hid (C = (acc ++ (stk a b ((l, s) :: (r, s + l.size) :: st)).1, (en + 1) + (stk a b ((l, s) :: (r, s + l.size) :: st)).2)) := fun h h2 => by
        cases t with
        | leaf x => exact absurd (by simp only [FT.lo, FT.hi] at h ⊢; omega) h2
        | node l r =>
          refine ⟨l, r, rfl, ?_⟩
          show C = _
          rw [hCe, FT.canon_part h h2]
          simp only [stk, List.append_assoc]
          refine Prod.ext rfl ?_
          simp only
          omega
      have hCb : en + 1 ≤ 100000 ∧ acc.length + 1 ≤ 100000 := by
        have h1 := HCS.out
        have h3 := (FT.canon_size a b t s)
        rw [hCe] at h1
        have h4 : 0 < (t.canon s a b).2 := by
          cases t with
          | leaf x => rw [FT.canon]; split <;> simp
          | node l r => rw [FT.canon]; split; simp; split <;> simp
        simp only [List.length_append] at h1
        omega
      have hstn : st.length + 2 ≤ 100000 := by
        have h1 := stkN_le st
        have h2 : t.size + stkN st ≤ 80000 := hk8
        have h3 := t.size_pos
        omega
      have HHA : Hid (∀ p ∈ st, FT.At D p.1 p.2) := fun p hp => HA.out p (.tail _ hp)
      have HAT2 := Lib.hid hat
      have HPO := Lib.hid hpop
      have HKX := Lib.hid (show t.size + stkN st ≤ _ from hkx)
      have hsz : 0 < t.size := t.size_pos
      obtain ⟨m, hm⟩ : ∃ m, m = st.length := ⟨_, rfl⟩
      have HM := Lib.hid hm
      simp only [List.length_cons]
      rw [← hm] at hx hco1 hstn ⊢
      have hg0 : decide ((0 : Int) < ((m + 1 : Nat) : Int)) = true := by simp
      generalize hkk : t.root s = k at *
      have HKK := Lib.hid hkk
      generalize hth : t.hi = th at *
      generalize htl : t.lo = tl at *
      generalize (t.top s).kind = kd at *
      generalize hdl : (t.top s).l = dl at *
      generalize hdr : (t.top s).r = dr at *
      generalize (t.top s).item = it at *
      have HDL : Hid ((t.top s).l = dl ∧ (t.top s).r = dr) := ⟨hdl, hdr⟩
      clear hkk hth htl hdl hdr hm hOp hpop hCe HA HC2 HOp hat hkx
      have hk8' : stkN st ≤ 80000 := by have h2 : t.size + stkN st ≤ 80000 := hk8; omega
      have HK8 : Hid (t.size + stkN st ≤ 80000) := hk8
      have hws := hbw.size
      have HNE2 : Hid (∀ g, (Value.slice oa acc.length oc).ownBlock = some g → g ≠ go) := fun g e e2 => HNE.out g e (by rw [e2]; rfl)
      have hacl : acc.length ≤ 100000 := by omega
      clear hk8 HNE
      by_cases h1 : th ≤ a ∨ b ≤ tl
      · have HC3 := HOUT h1
        clear HOUT HIN HPART HAT2 HDL
        have F : ∀ W, W = wr.alloc (.cells #[.int .u8 kd, .int .i64 dl, .int .i64 dr, .int .i64 tl, .int .i64 th, .int .i64 0, .int .i64 it] 119) → Below w.heap.size w W ∧ W.ownsRow w.heap.size 3 1 (.slice oa acc.length oc) acc.length (acc.map eNat) ∧ W.ownsRow w.heap.size 3 1 (.slice (some ⟨go, 0, none⟩) m co) st.length ((stkR st).map eNat) := fun W e => by
          subst e
          exact ⟨hbw.alloc hws _, HOa.out.alloc _, by rw [HM.out]; exact HPO.out.alloc _⟩
        have HF := Lib.hid F
        clear F
        by_cases h2 : th ≤ a
        · have e1 : decide ((th : Int) ≤ (a : Int)) = true := by simp; omega
          have e2 : decide (th ≤ a) = true := by simp; omega
          clear h1 h2
          go_wp2
          go_roundg (stkN st)
          case measure => have := HKX.out; omega
          case rel =>
            obtain ⟨f1, f2, f3⟩ := HF.out _ rfl
            exact ⟨st, acc, en + 1, by go_num, Nat.le_refl _, hk8', f1, HHA, HC3, f2, f3, fun g e e2 => HNE2.out g e (by injection e2 with e2; exact e2.symm)⟩
        · have e1 : decide ((th : Int) ≤ (a : Int)) = false := by simp; omega
          have e2 : decide (th ≤ a) = false := by simp; omega
          have e3 : decide ((b : Int) ≤ (tl : Int)) = true := by simp; omega
          have e4 : decide (b ≤ tl) = true := by simp; omega
          clear h1 h2
          go_wp2
          go_roundg (stkN st)
          case measure => have := HKX.out; omega
          case rel =>
            obtain ⟨f1, f2, f3⟩ := HF.out _ rfl
            exact ⟨st, acc, en + 1, by go_num, Nat.le_refl _, hk8', f1, HHA, HC3, f2, f3, fun g e e2 => HNE2.out g e (by injection e2 with e2; exact e2.symm)⟩
      · have e1 : decide ((th : Int) ≤ (a : Int)) = false := by simp; omega
        have e2 : decide (th ≤ a) = false := by simp; omega
        have e3 : decide ((b : Int) ≤ (tl : Int)) = false := by simp; omega
        have e4 : decide (b ≤ tl) = false := by simp; omega
        clear HOUT
        by_cases h2 : a ≤ tl ∧ th ≤ b
        · have HC3 := HIN h1 h2
          have e5 : decide ((a : Int) ≤ (tl : Int)) = true := by simp; omega
          have e6 : decide (a ≤ tl) = true := by simp; omega
          have e7 : decide ((th : Int) ≤ (b : Int)) = true := by simp; omega
          have e8 : decide (th ≤ b) = true := by simp; omega
          clear HIN HPART HAT2 HDL h1 h2
          obtain ⟨wN, ewN⟩ : ∃ wN, wN = wr.alloc (.cells #[.int .u8 kd, .int .i64 dl, .int .i64 dr, .int .i64 tl, .int .i64 th, .int .i64 0, .int .i64 it] 119) := ⟨_, rfl⟩
          have HOA : Hid (wN.ownsRow w.heap.size 3 1 (.slice oa acc.length oc) acc.length (acc.map eNat)) := by rw [ewN]; exact HOa.out.alloc _
          have bN : Below wr.heap.size wr wN := by rw [ewN]; exact (Below.refl _ _).alloc (Nat.le_refl _) _
          have HBN := Lib.hid bN
          have hsN : wr.heap.size ≤ wN.heap.size := bN.size
          clear bN
          go_upto_region 19 with fail
          rw [← ewN]
          clear ewN
          go_wp2_with (at_builtin; refine wp_append1B elInt w.heap.size HOA.out [.int .i64 k] rfl (by simp [Value.oneCell']) rfl _ _ rfl rfl _ rfl (by unfold maxLen; omega) (by omega) (by omega) ?_; intro v' w3 hown' hg hblk)
          go_roundg (stkN st)
          case measure => have := HKX.out; omega
          case rel =>
            have b1 : Below w.heap.size w wN := hbw.trans (HBN.out.mono hws)
            have K : KpS (fun q => (Value.slice oa acc.length oc).ownBlock = some q) wr w3 := ((KpS.refl _ wr).below HBN.out).grown hg (fun q hq => .inl hq)
            refine ⟨st, acc ++ [k], en + 1, by go_num, Nat.le_refl _, hk8', below_grown b1 HOA.out hg b1.size (Nat.le_refl _), HHA, HC3, ?_, ?_, ?_⟩
            · show World.ownsRow _ _ _ _ _ _ _
              rw [list_two, List.length_append]
              exact hown'
            · show World.ownsRow _ _ _ _ _ _ _
              have h9 := rowK HPO.out K (fun gb e e2 => HNE2.out gb e2 (by injection e with e; exact e.symm))
              rw [HM.out]
              exact h9
            · intro gb e e2
              have e3 : go = gb := by injection e2
              rcases blkOf_alloc hblk with h9 | ⟨q, h9, h8⟩
              · exact HNE2.out gb (h9 ▸ e) e3.symm
              · rw [h9] at e
                injection e with e
                omega
        · obtain ⟨l, r, et, HC3⟩ := HPART h1 h2
          subst et
          have hll := HAT2.out.left.lt
          have hrl := HAT2.out.right.lt
          have eL : dl = ((l.root s : Nat) : Int) := by rw [← HDL.out.1]; simp only [FT.top]; unfold FT.root; have := l.size_pos; omega
          have eR : dr = ((r.root (s + l.size) : Nat) : Int) := by rw [← HDL.out.2]; simp only [FT.top]; unfold FT.root; have := r.size_pos; omega
          have HAl := Lib.hid HAT2.out.left
          have HAr := Lib.hid HAT2.out.right
          subst eL eR
          have HSZ : Hid ((FT.node l r).size = l.size + r.size + 1) := rfl
          obtain ⟨kl, hkl⟩ : ∃ kl, kl = l.root s := ⟨_, rfl⟩
          obtain ⟨kr, hkr⟩ : ∃ kr, kr = r.root (s + l.size) := ⟨_, rfl⟩
          rw [← hkl] at c1 hll
          rw [← hkr] at c2 hrl
          have HKL : Hid (kl = l.root s ∧ kr = r.root (s + l.size)) := ⟨hkl, hkr⟩
          have HST : Hid ((stkR ((l, s) :: (r, s + l.size) :: st)).map eNat = (stkR st).map eNat ++ [.int .i64 (kr : Nat), .int .i64 (kl : Nat)]) := by
            show _ = _
            rw [stkR_cons, stkR_cons, list_two, list_two, hkl, hkr, List.append_assoc]
            rfl
          clear hkl hkr HIN HPART HDL HAT2 h1
          obtain ⟨wN, ewN⟩ : ∃ wN, wN = wr.alloc (.cells #[.int .u8 kd, .int .i64 kl, .int .i64 kr, .int .i64 tl, .int .i64 th, .int .i64 0, .int .i64 it] 119) := ⟨_, rfl⟩
          have bN : Below wr.heap.size wr wN := by rw [ewN]; exact (Below.refl _ _).alloc (Nat.le_refl _) _
          have hxN : wN.heap[wr.heap.size]? = some (.cells #[.int .u8 kd, .int .i64 kl, .int .i64 kr, .int .i64 tl, .int .i64 th, .int .i64 0, .int .i64 it] 119 (0, 0)) := by rw [ewN]; exact lit0 _ _
          have n1 : wN.cell? ⟨wr.heap.size, 1, none⟩ = some (.int .i64 kl) := by simp [World.cell?, hxN]
          have n2 : wN.cell? ⟨wr.heap.size, 2, none⟩ = some (.int .i64 kr) := by simp [World.cell?, hxN]
          have HPOA : Hid (wN.ownsRow w.heap.size 3 1 (.slice (some ⟨go, 0, none⟩) m co) m ((stkR st).map eNat)) := by
            show World.ownsRow _ _ _ _ _ _ _
            rw [HM.out]
            exact ownsRow_below HPO.out bN
          have HBN := Lib.hid bN
          have hsN : wr.heap.size < wN.heap.size := (Array.getElem?_eq_some_iff.1 hxN).1
          have hlit : RdK (fun x : Int => [Value.int .i64 x]) 1 (wN.alloc (.cells #[.int .i64 kr, .int .i64 kl] 3)) (some ⟨wN.heap.size, 0, none⟩) [(kr : Int), (kl : Int)] := RdK.lit (enc := fun x : Int => [Value.int .i64 x]) (sz := 1) (fun _ => rfl) wN 3 [(kr : Int), (kl : Int)] _ rfl
          have HLIT := Lib.hid hlit
          clear hlit bN hxN
          by_cases h3 : a ≤ tl
          all_goals
            first
              | (have e5 : decide ((a : Int) ≤ (tl : Int)) = true := by simp; omega)
              | (have e5 : decide ((a : Int) ≤ (tl : Int)) = false := by simp; omega)
            first
              | (have e6 : decide (a ≤ tl) = true := by simp; omega)
              | (have e6 : decide (a ≤ tl) = false := by simp; omega)
            first
              | (have e7 : decide ((th : Int) ≤ (b : Int)) = false := by simp; omega)
              | (have e7 : True := trivial)
            first
              | (have e8 : decide (th ≤ b) = false := by simp; omega)
              | (have e8 : True := trivial)
            clear h2 h3
            go_upto_region 16 with fail
            rw [← ewN]
            clear ewN c0 c1 c2 c3 c4 c5 c6 hx
            go_wp2_with (at_builtin; refine wp_appendKB elInt (enc := fun x : Int => [Value.int .i64 x]) (fun _ => rfl) (fun x u hu => by simp at hu; subst hu; rfl) w.heap.size (HPOA.out.alloc _) HLIT.out rfl _ _ rfl rfl 2 rfl (by unfold maxLen; simp; omega) (by simp; omega) (by simp; omega) ?_; intro v' w3 hown' hg hblk)
            go_roundg (stkN ((l, s) :: (r, s + l.size) :: st))
            case measure => have h9 := HKX.out; have h8 := HSZ.out; simp only [stkN]; omega
            case rel =>
              have b1 : Below w.heap.size w (wN.alloc (.cells #[.int .i64 kr, .int .i64 kl] 3)) := (hbw.trans (HBN.out.mono hws)).alloc (by omega) _
              have K : KpS (fun q => q = go) wr w3 := (((KpS.refl _ wr).below HBN.out).alloc _).grown hg (fun q hq => .inl (by injection hq with hq; exact hq.symm))
              refine ⟨(l, s) :: (r, s + l.size) :: st, acc, en + 1, by go_num, Nat.le_refl _, ?_, below_grown b1 (HPOA.out.alloc _) hg b1.size (Nat.le_refl _), ?_, HC3, ?_, ?_, ?_⟩
              · have h9 := HK8.out; have h8 := HSZ.out; simp only [stkN]; omega
              · intro p hp
                rcases List.mem_cons.1 hp with rfl | hp
                · exact HAl.out
                · rcases List.mem_cons.1 hp with rfl | hp
                  · exact HAr.out
                  · exact HHA.out p hp
              · exact rowK HOa.out K (fun gb e e2 => HNE2.out gb e e2)
              · show World.ownsRow _ _ _ _ _ _ _
                rw [HST.out, List.length_cons, List.length_cons, ← HM.out]
                exact hown'
              · intro gb e e2
                have hgl := (HOa.out.lt gb e).2
                rcases hblk with h9 | h9
                · rw [h9] at e2
                  exact HNE2.out gb e (by injection e2 with e2; exact e2.symm)
                · rw [h9] at e2
                  injection e2 with e2
                  simp at e2
                  omega

end Go.Proofs.YtggfdlanobndjaaGreat
