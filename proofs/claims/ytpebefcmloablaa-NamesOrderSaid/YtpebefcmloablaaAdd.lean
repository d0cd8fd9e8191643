/- carry.Add at entries. -/
import Derived.Test.YtpebefcmloablaaCar
import Derived.Deep.CutBlock
namespace Go.Proofs.Ytpebefcmloablaa
open Go.RowKit Go.Maps
attribute [local irreducible] wpQuiet
set_option linter.unusedSimpArgs false
set_option linter.unusedVariables false

/-- what stands in the buckets below i, the last bucket first -/
def joinB (CB : List (List Ent)) (i : Nat) : List Ent := (CB.take i).reverse.flatten
/-- the buckets, one thing more having come into bucket i -/
def addB (CB : List (List Ent)) (i : Nat) (x : Ent) : List (List Ent) := List.replicate i [] ++ (joinB CB i ++ [x]) :: CB.drop (i + 1)

def AddP (W : World) (base Cb : Nat) (cv : Value) (ch : List Hdr) (x : Ent) (N : Int) (e : Ending) (w' : World) : Prop :=
  ∃ (i : Nat) (v cv' : Value) (ch' : List Hdr) (wk' : Int), e = .returned (.tuple #[.int .i64 i, v]) ∧ i ≤ ch.length ∧ (∀ j (hj : j < ch.length), j < i → ch[j].2.1 ≠ []) ∧ (∀ hi : i < ch.length, ch[i].2.1 = []) ∧
    CarAt w' base Cb cv' ch' (N + 1) wk' ∧ (RowsE w' ch' ∧ ∀ W2 : World, (∀ (b : Nat) cur fr, w'.heap[b]? = some (Obj.cells cur 86 fr) → v.ownBlock ≠ some b → W2.heap[b]? = w'.heap[b]?) → RowsE W2 ch') ∧ ch'.map (·.2.1) = addB (ch.map (·.2.1)) i x ∧
    w'.ownsRow W.heap.size 86 2 v (joinB (ch.map (·.2.1)) i ++ [x]).length ((joinB (ch.map (·.2.1)) i ++ [x]).flatMap eEnt) ∧
    (cv'.ownBlock = cv.ownBlock ∨ ∃ b, cv'.ownBlock = some b ∧ W.heap.size ≤ b) ∧ KpS (fun k => k = Cb ∨ cv.ownBlock = some k) W w'

/-- the headers, those from k to i emptied -/
def chK (ch1 : List Hdr) (i k : Nat) : List Hdr := ch1.take k ++ (List.replicate (i - k) nilH ++ ch1.drop i)
theorem chK_len {ch1 : List Hdr} {i k : Nat} (hk : k ≤ i) (hi : i ≤ ch1.length) : (chK ch1 i k).length = ch1.length := by simp [chK]; omega
theorem chK_top {ch1 : List Hdr} {i : Nat} : chK ch1 i i = ch1 := by simp [chK]
theorem chK_zero {ch1 : List Hdr} {i : Nat} : chK ch1 i 0 = List.replicate i nilH ++ ch1.drop i := by simp [chK]
theorem chK_get {ch1 : List Hdr} {i m : Nat} (hi : i ≤ ch1.length) (hm : m < i) : (chK ch1 i (m + 1))[m]? = ch1[m]? := by
  unfold chK
  rw [List.getElem?_append_left (by simp; omega), List.getElem?_take, if_pos (by omega)]
theorem chK_set {ch1 : List Hdr} {i m : Nat} (hi : i ≤ ch1.length) (hm : m < i) : (chK ch1 i (m + 1)).set m nilH = chK ch1 i m := by
  unfold chK
  rw [List.set_append_left _ _ (by simp; omega)]
  have hm1 : m < ch1.length := by omega
  have e1 : (ch1.take (m + 1)).set m nilH = ch1.take m ++ [nilH] := by
    rw [List.take_succ_eq_append_getElem hm1, List.set_append_right _ _ (by simp; omega)]
    have : m - (ch1.take m).length = 0 := by simp; omega
    rw [this]; rfl
  rw [e1, show i - m = (i - (m + 1)) + 1 by omega, List.replicate_succ, List.append_assoc]
  rfl

theorem addB_map {ch ch1 : List Hdr} {i : Nat} (hch : ch1 = ch ∧ i < ch.length ∨ ch1 = ch ++ [nilH] ∧ i = ch.length) (hd : Hdr) (x : Ent) (hx : hd.2.1 = joinB (ch.map (·.2.1)) i ++ [x]) :
    ((chK ch1 i 0).set i hd).map (·.2.1) = addB (ch.map (·.2.1)) i x := by
  have hil : i < ch1.length := by rcases hch with ⟨rfl, h⟩ | ⟨rfl, h⟩ <;> first | omega | (simp; omega)
  have hdr : (ch1.drop (i + 1)).map (·.2.1) = (ch.map (·.2.1)).drop (i + 1) := by
    rcases hch with ⟨rfl, h⟩ | ⟨rfl, h⟩
    · rw [List.map_drop]
    · rw [List.drop_of_length_le (by simp; omega), List.drop_of_length_le (by simp; omega)]; rfl
  rw [chK_zero, List.drop_eq_getElem_cons hil, List.set_append_right _ _ (by simp), List.length_replicate, Nat.sub_self, List.set_cons_zero, List.map_append, List.map_cons, hdr, hx, List.map_replicate]
  rfl
theorem chK_mem {ch ch1 : List Hdr} {i : Nat} (hch : ch1 = ch ∧ i < ch.length ∨ ch1 = ch ++ [nilH] ∧ i = ch.length) {hd h : Hdr} (hh : h ∈ (chK ch1 i 0).set i hd) : h = hd ∨ h = nilH ∨ h ∈ ch := by
  rcases List.mem_or_eq_of_mem_set hh with h1 | h1
  · rw [chK_zero, List.mem_append] at h1
    rcases h1 with h1 | h1
    · exact .inr (.inl (List.mem_replicate.1 h1).2)
    · have h2 := List.mem_of_mem_drop h1
      rcases hch with ⟨rfl, -⟩ | ⟨rfl, -⟩
      · exact .inr (.inr h2)
      · rcases List.mem_append.1 h2 with h3 | h3
        · exact .inr (.inr h3)
        · exact .inr (.inl (by simpa using h3))
  · exact .inl h1

set_option maxRecDepth 100000 in
set_option maxHeartbeats 8000000 in
theorem car_add {W : World} {base Cb : Nat} {cv : Value} {ch : List Hdr} {N wk : Int} (h : CarAt W base Cb cv ch N wk) (hbW : base ≤ W.heap.size) (hrows : RowsE W ch) (x nn : Int) (hN : 0 ≤ N ∧ N ≤ 100000) (hlen : ch.length ≤ 1000) (hsz : (ch.map (·.2.1)).flatten.length ≤ 10000) :
    Calls Try.prog 51 #[.pointer (some ⟨Cb, 0, none⟩), vEnt x nn] W (AddP W base Cb cv ch (x, nn) N) := by
  have B1 : Below W.heap.size W (W.alloc (.cells #[.int .u32 x, .int .i64 nn] 86)) := (Below.refl _ _).alloc (Nat.le_refl _) _
  have x0 : (W.alloc (.cells #[.int .u32 x, .int .i64 nn] 86)).cell? ⟨W.heap.size, 0, none⟩ = some (.int .u32 x) := by rw [World.cell?_alloc_at _ _ _ _ rfl]; rfl
  have x1 : (W.alloc (.cells #[.int .u32 x, .int .i64 nn] 86)).cell? ⟨W.heap.size, 1, none⟩ = some (.int .i64 nn) := by rw [World.cell?_alloc_at _ _ _ _ rfl]; rfl
  have CN := Lib.hid (car_none (h.below B1))
  have H := Lib.hid h
  have HR := Lib.hid hrows
  have HB1 := Lib.hid B1
  clear h hrows B1
  go_enter Try.func51, Try.ntmps51
  go_wp2_with fail
  refine CN.out.mono ?_
  rintro e w2 ⟨rfl, hb2⟩
  have B2 := Lib.hid (HB1.out.trans (hb2.mono (by simp)))
  have y0 := (hb2.cell (p := ⟨W.heap.size, 0, none⟩) (by simp)).trans x0
  have y1 := (hb2.cell (p := ⟨W.heap.size, 1, none⟩) (by simp)).trans x1
  have hs2 : W.heap.size < w2.heap.size := by have := hb2.size; simp at this; omega
  have C2 := Lib.hid (H.out.below B2.out)
  have Y0 := Lib.hid y0
  have Y1 := Lib.hid y1
  clear x0 x1 y0 y1 CN HB1 hb2
  obtain ⟨c0, c1, c2, c3⟩ := C2.out.cell
  go_upto_block 0 with fail
  go_cut [6] from 11 to 30 (fun sv wx => ∃ i : Nat, sv = .int .i64 i ∧ Hid (wx = w2) ∧ i ≤ ch.length ∧ Hid (∀ j (hj : j < ch.length), j < i → ch[j].2.1 ≠ []) ∧ Hid (∀ hi : i < ch.length, ch[i].2.1 = []))
  case first =>
    go_wp2_with fail
    go_loopw [6] (fun iv wr => ∃ i : Nat, iv = .int .i64 i ∧ Hid (wr = w2) ∧ i ≤ ch.length ∧ Hid (∀ j (hj : j < ch.length), j < i → ch[j].2.1 ≠ [])) (fun iv _ => ch.length - (intOf iv).toNat)
    case atStart => exact ⟨0, rfl, (by first | rfl | trivial), Nat.zero_le _, fun j _ h => absurd h (Nat.not_lt_zero _)⟩
    case round =>
      obtain ⟨i, rfl, hwr, hi, HNE⟩ := hrel
      obtain rfl : wr = w2 := hwr.out
      clear hwr
      obtain ⟨av, cp, rfl, -, -, hrd⟩ := Rd.of_owns (enc := eHdr) C2.out.row
      by_cases hlt : i < ch.length
      · obtain ⟨b, off, ea, hbl, hcs⟩ := hrd.get (by omega)
        have z := hcs i hlt
        have HEM : Hid (ch[i].2.1 = [] → ∀ hi : i < ch.length, ch[i].2.1 = []) := fun h _ => h
        have HNE2 : Hid (ch[i].2.1 ≠ [] → ∀ j (hj : j < ch.length), j < i + 1 → ch[j].2.1 ≠ []) := fun h j hj hji => by
          rcases Nat.lt_succ_iff_lt_or_eq.1 hji with h9 | rfl
          · exact HNE.out j hj h9
          · exact h
        have EA := Lib.hid ea
        unfold eHdr at z
        clear hcs ea hrd
        generalize ch[i] = hd at *
        obtain ⟨ai, li, ci⟩ := hd
        simp only at z HEM HNE2
        obtain rfl := EA.out
        clear EA
        have hlt2 : (i : Int) < (ch.length : Int) := by omega
        by_cases h0 : li = []
        · have HE := Lib.hid (HEM.out h0)
          clear HEM HNE2
          subst h0
          go_wp2_with fail
          go_meet
          exact ⟨i, rfl, (by first | rfl | trivial), hi, HNE, HE⟩
        · have HE := Lib.hid (HNE2.out h0)
          have hpos : 0 < li.length := List.length_pos_iff.2 h0
          have hd0 : decide (0 < li.length) = true := by simp [hpos]
          clear h0 HEM HNE2
          go_wp2_with fail
          go_roundw
          case rel => exact ⟨i + 1, by go_num, (by first | rfl | trivial), by omega, HE⟩
          case measure => simp [intOf]; omega
      · have HE : Hid (∀ hi : i < ch.length, ch[i].2.1 = []) := fun h => absurd h hlt
        have hge : ¬ (i : Int) < (ch.length : Int) := by omega
        go_wp2_with fail
        go_meet
        exact ⟨i, rfl, (by first | rfl | trivial), hi, HNE, HE⟩
  case rest =>
    obtain ⟨i, rfl, hwr, hi, HNE, HEM⟩ := hcut
    obtain rfl : wc = w2 := hwr.out
    clear hwr
    obtain ⟨SB, hSB⟩ : ∃ SB, SB = cv.ownBlock := ⟨_, rfl⟩
    have HS : Hid (∀ k, (k = Cb ∨ SB = some k) → base ≤ k) := fun k h => by
      rcases h with rfl | h
      · exact C2.out.hb
      · exact (C2.out.row.lt k (hSB ▸ h)).1
    have HSL : Hid (∀ k, SB = some k → k < W.heap.size ∧ k ≠ Cb) := fun k h => ⟨(H.out.row.lt k (hSB ▸ h)).2, fun e => H.out.ne (by rw [← hSB, h, e])⟩
    have HSB := Lib.hid hSB
    have hCbW := H.out.lt
    obtain ⟨av, cp, rfl, -, hcp, -⟩ := Rd.of_owns (enc := eHdr) C2.out.row
    have K2 : Hid (KpS (fun k => k = Cb ∨ SB = some k) W wc) := (KpS.refl _ _).grown (below_asGrown B2.out) (by simp)
    have HNB : Hid (∀ w6, wc.grownBy w6 (Value.ownBlock (.slice av ch.length cp)) → w6.heap[Cb]? = some (Obj.cells #[.bool true, .slice av ch.length cp, .int .i64 N, .int .i64 wk] 105 (0, 0))) := fun w6 hg => (hg.block Cb C2.out.lt (fun e => C2.out.ne e.symm)).trans C2.out.blk

    clear hSB
    go_upto_if 37 with fail
    go_cut [] from 37 to 46 (fun wx => ∃ cv1 ch1 g1 n1 cp1, Hid (CarAt wx base Cb cv1 ch1 N wk) ∧ cv1 = .slice (some ⟨g1, 0, none⟩) n1 cp1 ∧ n1 = ch1.length ∧ i < n1 ∧ Hid (ch1 = ch ∧ i < ch.length ∨ ch1 = ch ++ [nilH] ∧ i = ch.length) ∧ Hid (cv1.ownBlock = SB ∨ ∃ b, cv1.ownBlock = some b ∧ W.heap.size ≤ b) ∧ Hid (g1 ≠ W.heap.size) ∧ Hid (KpS (fun k => k = Cb ∨ SB = some k) W wx) ∧ Hid (KpS (fun k => k = Cb ∨ SB = some k) wc wx))
    case first =>
      by_cases hil : i = ch.length
      · subst hil
        have hde : ((ch.length : Int) == (ch.length : Int)) = true := by simp
        go_wp2_with (at_builtin; refine wp_append1B elHdr base C2.out.row [.slice none 0 0] rfl (by simp [Value.oneCell']) rfl _ _ rfl rfl _ rfl (by unfold maxLen; omega) (by omega) (by omega) ?_; intro v' w6 hown' hg hblk; obtain ⟨g6, cp6, rfl, hg61, hg62, hg63, hg64⟩ := ownRow_at hown' (by omega); have k6 := HNB.out w6 hg; have q1 : w6.cell? ⟨Cb, 1, none⟩ = some (.slice av ch.length cp) := (by simp [World.cell?, k6]); have q2 : w6.frozen? ⟨Cb, 1, none⟩ = false := (by simp [World.frozen?, k6]))
        go_meet
        have hown2 : w6.ownsRow base 89 1 (.slice (some ⟨g6, 0, none⟩) (ch.length + 1) cp6) (ch ++ [nilH]).length ((ch ++ [nilH]).map eHdr) := by
          rw [List.length_append, List.map_append]
          exact hown'
        have hblk2 : (some g6 = SB ∨ g6 = wc.heap.size + 1) := by
          rcases hblk with h9 | h9
          · exact .inl (h9.trans HSB.out.symm)
          · simp only [Value.ownBlock, Option.some.injEq] at h9
            rw [h9]
            exact .inr (by simp)
        have hgC : g6 ≠ Cb := by
          rcases hblk2 with h9 | h9
          · exact (HSL.out g6 h9.symm).2
          · omega
        refine ⟨_, ch ++ [nilH], g6, ch.length + 1, cp6, CarAt.setV (ch := ch) k6 C2.out.hb hown2 (by simpa [Value.ownBlock] using hgC), rfl, by simp, by omega, (by first | exact .inr ⟨rfl, rfl⟩ | exact .inr ⟨rfl, trivial⟩), ?_, ?_, (K2.out.grown hg fun k hk => .inl (.inr (HSB.out.trans hk))).set _ (.inl (.inl rfl)), ((KpS.refl _ wc).grown hg fun k hk => .inl (.inr (HSB.out.trans hk))).set _ (.inl (.inl rfl))⟩
        · rcases hblk2 with h9 | h9
          · exact .inl (by simpa [Value.ownBlock] using h9)
          · exact .inr ⟨g6, rfl, by omega⟩
        · show g6 ≠ W.heap.size
          rcases hblk2 with h9 | h9
          · have := (HSL.out g6 h9.symm).1; omega
          · omega
      · have hde : ((i : Int) == (ch.length : Int)) = false := by simp only [beq_eq_false_iff_ne]; omega
        have hil2 : i < ch.length := by omega
        obtain ⟨g, cp', e9, hg1, hg2, -, -⟩ := ownRow_at C2.out.row (by omega)
        injection e9 with e9 _ e10
        subst e9 e10
        go_wp2
        go_meet
        have hgS : SB = some g := HSB.out
        exact ⟨_, ch, g, ch.length, cp, C2, rfl, rfl, hil2, .inl ⟨rfl, hil2⟩, .inl HSB.out.symm, (by show g ≠ W.heap.size; have := (HSL.out g hgS).1; omega), K2, KpS.refl _ _⟩
    case rest =>
      obtain ⟨cv1, ch1, g1, n1, cp1, C3, rfl, rfl, hin, HCH, HBK, HG1, K3, K23⟩ := hcut
      obtain ⟨w3, ew3⟩ : ∃ w3 : World, w3 = wc := ⟨_, rfl⟩
      subst ew3
      have HSX : Hid (¬ (W.heap.size = Cb ∨ SB = some W.heap.size)) := fun h9 => by
        rcases h9 with h9 | h9
        · omega
        · have := (HSL.out _ h9).1; omega
      have X0 : Hid (w3.cell? ⟨W.heap.size, 0, none⟩ = some (.int .u32 x)) := (World.cell?_of_block (a := ⟨W.heap.size, 0, none⟩) (K23.out.block _ hs2 HSX.out)).trans Y0.out
      have X1 : Hid (w3.cell? ⟨W.heap.size, 1, none⟩ = some (.int .i64 nn)) := (World.cell?_of_block (a := ⟨W.heap.size, 1, none⟩) (K23.out.block _ hs2 HSX.out)).trans Y1.out
      have hs3 : W.heap.size < w3.heap.size := Nat.lt_of_lt_of_le hs2 K23.out.size
      have hg1 : g1 < w3.heap.size := (C3.out.row.lt g1 rfl).2
      have HAT : Hid (∀ k (hk : k < i) (h1 : k < ch1.length) (h2 : k < ch.length), ch1[k] = ch[k]) := fun k hk h1 h2 => by
        rcases HCH.out with ⟨e, -⟩ | ⟨e, -⟩
        · subst e; rfl
        · subst e; exact List.getElem_append_left h2
      have HEK : Hid (∀ W', KpS (fun k => k = Cb ∨ SB = some k) W W' → ∀ k (hk : k < ch.length), RdK eEnt 2 W' ch[k].1 ch[k].2.1) := fun W' hK k hk => ((HR.out _ (List.getElem_mem hk)).1.kept (H.out.entKept HSB.out hK)).rdk
      have HJN : Hid (∀ k (hk : k < ch.length), k < i → (((ch.map (·.2.1)).take i).drop k).reverse.flatten = (((ch.map (·.2.1)).take i).drop (k + 1)).reverse.flatten ++ ch[k].2.1) := fun k hk hki => by
        rw [List.drop_eq_getElem_cons (by simp; omega)]
        simp
      have HJL : Hid (∀ k, (((ch.map (·.2.1)).take i).drop k).reverse.flatten.length ≤ 10000) := fun k => by
        generalize ch.map (·.2.1) = CB at *
        have e1 : (((CB.take i).drop k).reverse.flatten).length = ((CB.take i).drop k).flatten.length := by simp only [List.length_flatten, List.map_reverse, List.sum_reverse]
        have e2 : ((CB.take i).take k).flatten ++ ((CB.take i).drop k).flatten = (CB.take i).flatten := by rw [← List.flatten_append, List.take_append_drop]
        have e3 : (CB.take i).flatten ++ (CB.drop i).flatten = CB.flatten := by rw [← List.flatten_append, List.take_append_drop]
        have e4 := congrArg List.length e2
        have e5 := congrArg List.length e3
        rw [List.length_append] at e4 e5
        omega
      clear Y0 Y1 c0 c1 c2 c3 K23
      go_upto_block 2 with fail
      go_cut [7] from 49 to 67 (fun vv wx => Hid (wx.ownsRow w3.heap.size 86 2 vv (joinB (ch.map (·.2.1)) i).length ((joinB (ch.map (·.2.1)) i).flatMap eEnt)) ∧ Hid (CarAt wx base Cb (.slice (some ⟨g1, 0, none⟩) ch1.length cp1) (chK ch1 i 0) N wk) ∧ Hid (KpS (fun k => k = Cb ∨ SB = some k) W wx) ∧ Hid (KpS (fun k => k = g1) w3 wx))
      case first =>
        go_wp2_with fail
        go_loopw [8, 7] (fun kv vv wr => ∃ (k : Nat) (va : Value), kv = .int .i64 ((k : Int) - 1) ∧ vv = va ∧ k ≤ i ∧ Hid (wr.ownsRow w3.heap.size 86 2 va (((ch.map (·.2.1)).take i).drop k).reverse.flatten.length ((((ch.map (·.2.1)).take i).drop k).reverse.flatten.flatMap eEnt)) ∧ Hid (CarAt wr base Cb (.slice (some ⟨g1, 0, none⟩) ch1.length cp1) (chK ch1 i k) N wk) ∧ Hid (KpS (fun k => k = Cb ∨ SB = some k) W wr) ∧ Hid (KpS (fun k => k = g1) w3 wr)) (fun kv _ _ => (intOf kv + 1).toNat)
        case atStart =>
          refine ⟨i, _, rfl, rfl, Nat.le_refl _, ?_, ?_, K3, KpS.refl _ _⟩
          · rw [List.drop_of_length_le (by simp; omega)]
            exact World.ownsRow_nil _ _ _ _
          · rw [chK_top]
            exact C3
        case round =>
          obtain ⟨k, va, rfl, rfl, hk, HO, HC, HK, HG⟩ := hrel
          rcases Nat.eq_zero_or_pos k with hk0 | hk0
          · subst hk0
            have hg0 : ¬ (0 : Int) ≤ ((0 : Nat) : Int) - 1 := by omega
            rw [List.drop_zero] at HO
            go_wp2_with fail
            go_meet
            exact ⟨HO, HC, HK, HG⟩
          · obtain ⟨m, rfl⟩ : ∃ m, k = m + 1 := ⟨k - 1, by omega⟩
            have hmc : m < ch.length := by omega
            have hm1 : m < ch1.length := by omega
            obtain ⟨d0, d1, d2, d3⟩ := HC.out.cell
            have hin2 : i ≤ ch1.length := by omega
            have hrow := HC.out.row
            rw [chK_len hk hin2] at hrow
            have z := hrow.cellAt m (by omega)
            rw [List.getElem?_map, chK_get hin2 (by omega), List.getElem?_eq_getElem hm1, HAT.out m (by omega) hm1 hmc] at z
            simp only [Option.map_some] at z
            have hrd := HEK.out wr HK.out m hmc
            have hjn := HJN.out m hmc (by omega)
            have hjl := HJL.out m
            rw [hjn, List.length_append] at hjl
            have hset := chK_set (ch1 := ch1) hin2 (show m < i by omega)
            have hjl2 := hjl
            generalize (((ch.map (·.2.1)).take i).drop (m + 1)).reverse.flatten = L at *
            have HJ2 := Lib.hid hjn
            unfold eHdr at z
            clear hjn hjl
            generalize ch[m] = hd at *
            obtain ⟨am, lm, cm⟩ := hd
            simp only at z hrd hjl2 HJ2
            have hvb := HO.out.lt
            have hCb3 := C3.out.lt
            have hgw := HG.out.size
            have hmi : (m : Int) < (ch1.length : Int) := by omega
            go_wp2_with (at_builtin; refine wp_appendKB elEnt eEnt_len eEnt_one w3.heap.size HO.out hrd rfl _ _ rfl rfl cm rfl (by unfold maxLen; omega) (by omega) hgw ?_; intro v' w6 hown' hg hblk; have C6 := HC.out.grown hg (fun e => (by have := (hvb Cb e).1; omega)) (.inr (fun e => (by have := (hvb g1 e.symm).1; omega))); obtain ⟨f0, f1, f2, f3⟩ := C6.cell; have hbk := hg.block g1 (by omega) (fun e => (by have := (hvb g1 e.symm).1; omega)); have z6 := (World.cell?_of_block (a := ⟨g1, m, none⟩) hbk).trans z; have fz6 := (World.frozen?_of_block (a := ⟨g1, m, none⟩) hbk).trans (hrow.frozenAt m))
            have hvb6 := hown'.lt
            have HO6 : Hid ((w6.setCell ⟨g1, m, none⟩ (.slice none 0 0)).ownsRow w3.heap.size 86 2 v' (((ch.map (·.2.1)).take i).drop m).reverse.flatten.length ((((ch.map (·.2.1)).take i).drop m).reverse.flatten.flatMap eEnt)) := by
              show World.ownsRow _ _ _ _ _ _ _
              rw [HJ2.out, List.length_append, List.flatMap_append]
              exact owns_sameH hown' fun gb e => heap_setNe (fun e2 => by have := (hvb6 gb e).1; simp only at e2; omega)
            have HC6 : Hid (CarAt (w6.setCell ⟨g1, m, none⟩ (.slice none 0 0)) base Cb (.slice (some ⟨g1, 0, none⟩) ch1.length cp1) (chK ch1 i m) N wk) := by
              have := C6.setH (chK_len hk hin2).symm m nilH
              rw [hset] at this
              exact this
            have hg1S : SB = some g1 ∨ W.heap.size ≤ g1 := by
              rcases HBK.out with h9 | ⟨b, h9, h8⟩
              · exact .inl h9.symm
              · simp only [Value.ownBlock, Option.some.injEq] at h9
                exact .inr (by omega)
            have HK6 : Hid (KpS (fun k => k = Cb ∨ SB = some k) W (w6.setCell ⟨g1, m, none⟩ (.slice none 0 0))) :=
              (HK.out.grown hg (fun b hb => .inr (by have := (hvb b hb).1; omega))).set _ (by rcases hg1S with h9 | h9; exact .inl (.inr h9); exact .inr h9)
            have HG6 : Hid (KpS (fun k => k = g1) w3 (w6.setCell ⟨g1, m, none⟩ (.slice none 0 0))) := (HG.out.grown hg (fun b hb => .inr (hvb b hb).1)).set _ (.inl rfl)
            go_roundw
            case rel => exact ⟨m, v', by go_num, rfl, by omega, HO6, HC6, HK6, HG6⟩
            case measure => simp [intOf]
      case rest =>
        obtain ⟨HO, HC, HK, HG⟩ := hcut
        obtain ⟨w4, ew4⟩ : ∃ w4 : World, w4 = wc := ⟨_, rfl⟩
        subst ew4
        have hgw := HG.out.size
        have hin2 : i ≤ ch1.length := by omega
        have hXg : W.heap.size ≠ g1 := fun e => HG1.out e.symm
        have X0' : w4.cell? ⟨W.heap.size, 0, none⟩ = some (.int .u32 x) := (World.cell?_of_block (a := ⟨W.heap.size, 0, none⟩) (HG.out.block _ hs3 hXg)).trans X0.out
        have X1' : w4.cell? ⟨W.heap.size, 1, none⟩ = some (.int .i64 nn) := (World.cell?_of_block (a := ⟨W.heap.size, 1, none⟩) (HG.out.block _ hs3 hXg)).trans X1.out
        have hjl := HJL.out 0
        rw [List.drop_zero] at hjl
        change (joinB (ch.map (·.2.1)) i).length ≤ 10000 at hjl
        have HOd := (HO.out.alloc (.cells #[.int .u32 x, .int .i64 nn] 86)).drewAny 1
        have HCd := (HC.out.grown (World.grownBy_alloc w4 (.cells #[.int .u32 x, .int .i64 nn] 86) none) (by simp) (.inr (by simp [Value.ownBlock]))).drew
        generalize hJ : joinB (ch.map (·.2.1)) i = J at *
        obtain ⟨v2, w6, R1, hown2, hg2, hblk2⟩ := run_append_ownB (ty := 89) (t := 89) (P := Try.prog) elEnt w3.heap.size HOd ⟨w4.heap.size, 0, none⟩ 1 1 [.int .u32 x, .int .i64 nn] rfl (by
          intro j u hu
          have hadd : (⟨w4.heap.size, 0, none⟩ : Addr).add j = ⟨w4.heap.size, j, none⟩ := by unfold Addr.add; split <;> simp_all
          rw [hadd]
          have h9 : (w4.alloc (.cells #[.int .u32 x, .int .i64 nn] 86)).cell? ⟨w4.heap.size, j, none⟩ = some u := by
            rw [World.cell?_alloc_at _ _ _ _ (by rfl)]
            simpa using hu
          exact h9) (by simp [Value.oneCell']) (by unfold maxLen; omega) (by omega) (by simp; omega)
        have hvb := HOd.lt
        have hCb3 := C3.out.lt
        have C6 := HCd.grown hg2 (fun e => (by have := (hvb Cb e).1; omega)) (.inr (fun e => (by have := (hvb g1 e.symm).1; omega)))
        have hown3 : w6.ownsRow w3.heap.size 86 2 v2 (J.length + 1) ((J ++ [(x, nn)]).flatMap eEnt) := by
          rw [List.flatMap_append]
          exact hown2
        have hv2 := hown3.lt
        obtain ⟨a6, cp6, rfl, -, hcp6, hRE⟩ := RdE.of_owns hown3
        have hl9 : (J ++ [(x, nn)]).length = J.length + 1 := by simp
        rw [hl9] at R1 hown3 hcp6 hv2
        obtain ⟨f0, f1, f2, f3⟩ := C6.cell
        have hrow6 := C6.row
        rw [chK_len (Nat.zero_le _) hin2] at hrow6
        have hz6 := hrow6.cellAt i (by omega)
        have fz6 := hrow6.frozenAt i
        have hzl : i < ((chK ch1 i 0).map eHdr).length := by rw [List.length_map, chK_len (Nat.zero_le _) hin2]; omega
        rw [List.getElem?_eq_getElem hzl] at hz6
        have hXa : w4.cell? ⟨Cb, 1, none⟩ = some (.slice (some ⟨g1, 0, none⟩) ch1.length cp1) ∧ w4.cell? ⟨W.heap.size, 0, none⟩ = some (.int .u32 x) ∧ w4.cell? ⟨W.heap.size, 1, none⟩ = some (.int .i64 nn) := ⟨HC.out.cell.2.1, X0', X1'⟩
        have hXb : w4.drew.cell? ⟨Cb, 1, none⟩ = some (.slice (some ⟨g1, 0, none⟩) ch1.length cp1) ∧ w4.drew.cell? ⟨W.heap.size, 0, none⟩ = some (.int .u32 x) ∧ w4.drew.cell? ⟨W.heap.size, 1, none⟩ = some (.int .i64 nn) := hXa
        have hgA := (Below.refl w4.heap.size w4).alloc (Nat.le_refl _) (.cells #[.int .u32 x, .int .i64 nn] 86)
        have hXl : W.heap.size < w4.heap.size := by omega
        have hXc : (w4.alloc (.cells #[.int .u32 x, .int .i64 nn] 86)).drew.cell? ⟨Cb, 1, none⟩ = some (.slice (some ⟨g1, 0, none⟩) ch1.length cp1) ∧ (w4.alloc (.cells #[.int .u32 x, .int .i64 nn] 86)).drew.cell? ⟨W.heap.size, 0, none⟩ = some (.int .u32 x) ∧ (w4.alloc (.cells #[.int .u32 x, .int .i64 nn] 86)).drew.cell? ⟨W.heap.size, 1, none⟩ = some (.int .i64 nn) :=
          ⟨HCd.cell.2.1, (hgA.cell (p := ⟨W.heap.size, 0, none⟩) hXl).trans X0', (hgA.cell (p := ⟨W.heap.size, 1, none⟩) hXl).trans X1'⟩
        have hXk := hg2.block W.heap.size (by simp; omega) (fun e => by have := (hvb _ e.symm).1; omega)
        have hXd : w6.cell? ⟨Cb, 1, none⟩ = some (.slice (some ⟨g1, 0, none⟩) ch1.length cp1) ∧ w6.cell? ⟨W.heap.size, 0, none⟩ = some (.int .u32 x) ∧ w6.cell? ⟨W.heap.size, 1, none⟩ = some (.int .i64 nn) :=
          ⟨f1, (World.cell?_of_block (a := ⟨W.heap.size, 0, none⟩) hXk).trans hXc.2.1, (World.cell?_of_block (a := ⟨W.heap.size, 1, none⟩) hXk).trans hXc.2.2⟩
        have C7 : CarAt (w6.setCell ⟨g1, i, none⟩ (.slice a6 (J.length + 1) cp6)) base Cb (.slice (some ⟨g1, 0, none⟩) ch1.length cp1) ((chK ch1 i 0).set i (a6, J ++ [(x, nn)], cp6)) N wk := by
          have := C6.setH (chK_len (Nat.zero_le _) hin2).symm i (a6, J ++ [(x, nn)], cp6)
          unfold eHdr at this
          rw [hl9] at this
          exact this
        have hXe : (w6.setCell ⟨g1, i, none⟩ (.slice a6 (J.length + 1) cp6)).cell? ⟨Cb, 1, none⟩ = some (.slice (some ⟨g1, 0, none⟩) ch1.length cp1) ∧ (w6.setCell ⟨g1, i, none⟩ (.slice a6 (J.length + 1) cp6)).cell? ⟨W.heap.size, 0, none⟩ = some (.int .u32 x) ∧ (w6.setCell ⟨g1, i, none⟩ (.slice a6 (J.length + 1) cp6)).cell? ⟨W.heap.size, 1, none⟩ = some (.int .i64 nn) :=
          ⟨C7.cell.2.1, (World.cell?_of_block (a := ⟨W.heap.size, 0, none⟩) (heap_setNe (fun e => hXg e.symm))).trans hXd.2.1, (World.cell?_of_block (a := ⟨W.heap.size, 1, none⟩) (heap_setNe (fun e => hXg e.symm))).trans hXd.2.2⟩
        have hii : (i : Int) < (ch1.length : Int) := by omega
        generalize ((chK ch1 i 0).map eHdr)[i] = zz at *
        go_wp2
        go_hide hQ
        go_region_held3 (fun w' => w'.cell? ⟨Cb, 1, none⟩ = some (.slice (some ⟨g1, 0, none⟩) ch1.length cp1) ∧ w'.cell? ⟨W.heap.size, 0, none⟩ = some (.int .u32 x) ∧ w'.cell? ⟨W.heap.size, 1, none⟩ = some (.int .i64 nn))
          (first | (with_reducible exact hXa) | (with_reducible exact hXb) | (with_reducible exact hXc) | (with_reducible exact hXd) | (with_reducible exact hXe) | go_keep)
          ((refine step_run_append rfl (.tmp 73) (.tmp 75) rfl R1 (by simp [Act.eval]) (by simp [Act.eval]) ?_; try simp only [Act.put, List.setIfInBounds_toArray, List.set_cons_zero, List.set_cons_succ]))
        all_goals subst hQ
        clear hXe
        generalize hw7 : w6.setCell ⟨g1, i, none⟩ (.slice a6 (J.length + 1) cp6) = w7 at C7 ⊢
        have C8 := C7.setN (N + 1)
        obtain ⟨s0, s1, s2, s3⟩ := C7.cell
        have fr2 := C7.frozen 2
        obtain ⟨t0, t1, t2, t3⟩ := C8.cell
        have fr3 := C8.frozen 3
        have hcl : ((chK ch1 i 0).set i (a6, J ++ [(x, nn)], cp6)).length = ch1.length := by rw [List.length_set, chK_len (Nat.zero_le _) hin2]
        have hrow8 := C8.row
        rw [hcl] at hrow8
        have z8 := hrow8.cellAt i (by omega)
        have hget : (((chK ch1 i 0).set i (a6, J ++ [(x, nn)], cp6)).map eHdr)[i]? = some (.slice a6 (J.length + 1) cp6) := by
          rw [List.getElem?_map, List.getElem?_set_self (by rw [chK_len (Nat.zero_le _) hin2]; omega)]
          simp [eHdr]
        rw [hget] at z8
        have C9 := (C8.setW (wrap64 (wk + ((J.length : Int) + 1)))).drew
        have HC9 := Lib.hid C9
        clear C9
        have hN1 : (-9223372036854775808 : Int) ≤ N + 1 ∧ N + 1 ≤ 9223372036854775807 := by omega
        have HW7 := Lib.hid hw7
        clear hw7
        clear f0 f1 f2 f3 hz6 fz6 hXa hXb hXc hXd R1
        have HZ8 := Lib.hid z8
        have HHG := Lib.hid hget
        have HRE := Lib.hid hRE
        have hg1S : SB = some g1 ∨ W.heap.size ≤ g1 := by
          rcases HBK.out with h9 | ⟨b, h9, h8⟩
          · exact .inl h9.symm
          · simp only [Value.ownBlock, Option.some.injEq] at h9
            exact .inr (by omega)
        have HK6 : Hid (KpS (fun k => k = Cb ∨ SB = some k) W w6) := ((HK.out.grown (World.grownBy_alloc w4 (.cells #[.int .u32 x, .int .i64 nn] 86) none) (by simp)).drew).grown hg2 (fun b hb => .inr (by have := (hvb b hb).1; omega))
        have HC6 := Lib.hid C6
        clear hget
        go_wp2
        go_region
        have HK67 : Hid (KpS (fun k => k = Cb ∨ some g1 = some k) w6 ((w7.setCell ⟨Cb, 2, none⟩ (.int .i64 (N + 1))).setCell ⟨Cb, 3, none⟩ (.int .i64 (wrap64 (wk + ((J.length : Int) + 1))))).drew) := by
          rw [← HW7.out]
          exact ((((KpS.refl _ w6).set _ (.inl (.inr rfl))).set _ (.inl (.inl rfl))).set _ (.inl (.inl rfl))).drew
        have HKW7 : Hid (KpS (fun k => k = Cb ∨ SB = some k) W ((w7.setCell ⟨Cb, 2, none⟩ (.int .i64 (N + 1))).setCell ⟨Cb, 3, none⟩ (.int .i64 (wrap64 (wk + ((J.length : Int) + 1))))).drew) := by
          rw [← HW7.out]
          exact (((HK6.out.set _ (by rcases hg1S with h9 | h9; exact .inl (.inr h9); exact .inr h9)).set _ (.inl (.inl rfl))).set _ (.inl (.inl rfl))).drew
        have C9 := HC9.out
        clear z8 HC9 s0 s1 s2 s3 t0 t1 t2 t3 fr2 fr3 C7 C8 HW7
        generalize hw9 : ((w7.setCell ⟨Cb, 2, none⟩ (.int .i64 (N + 1))).setCell ⟨Cb, 3, none⟩ (.int .i64 (wrap64 (wk + ((J.length : Int) + 1))))).drew = w9 at *
        obtain ⟨u0, u1, u2, u3⟩ := C9.cell
        have hrow9 := C9.row
        rw [hcl] at hrow9
        have z9 := hrow9.cellAt i (by omega)
        rw [HHG.out] at z9
        have hRE9 := HRE.out.kept (HC6.out.entKept rfl HK67.out)
        have hws9 := HKW7.out.size
        have CLN := cloneEnt a6 (J ++ [(x, nn)]) (J.length + 1) cp6 w9 hl9 hRE9.rdk (by omega)
        have HC9 := Lib.hid C9
        have HRE9 := Lib.hid hRE9
        clear hw9 hrow6 hrow8 hrow9 C9 hRE9 hRE
        go_wp2_with fail
        refine CLN.mono ?_
        rintro e w10 ⟨v10, rfl, hown10, hb10⟩
        go_wp2
        go_ret2
        have HW10 : KpS (fun k => k = Cb ∨ SB = some k) W w10 := HKW7.out.below hb10
        have hent := H.out.entKept HSB.out HW10
        refine ⟨i, v10, .slice (some ⟨g1, 0, none⟩) ch1.length cp1, (chK ch1 i 0).set i (a6, J ++ [(x, nn)], cp6), _, rfl, hi, HNE.out, HEM.out, HC9.out.below hb10, ?_, ?_, ?_, ?_, ?_⟩
        · have hne10 : ∀ b, b < w9.heap.size → v10.ownBlock ≠ some b := fun b hb e => by have := (hown10.lt b e).1; omega
          have hall : ∀ W2 : World, (∀ (b : Nat) cur fr, w10.heap[b]? = some (Obj.cells cur 86 fr) → v10.ownBlock ≠ some b → W2.heap[b]? = w10.heap[b]?) → RowsE W2 ((chK ch1 i 0).set i (a6, J ++ [(x, nn)], cp6)) := by
            intro W2 h2 h hh
            rcases chK_mem HCH.out hh with rfl | rfl | h1
            · exact ⟨HRE9.out.kept fun b cur fr hb => (h2 b cur fr ((below_heap hb10 hb).trans hb) (hne10 b (Array.getElem?_eq_some_iff.1 hb).1)).trans (below_heap hb10 hb), by show (J ++ [(x, nn)]).length ≤ cp6; omega⟩
            · exact ⟨.inl rfl, Nat.le_refl _⟩
            · exact ⟨(HR.out h h1).1.kept fun b cur fr hb => (h2 b cur fr ((hent b cur fr hb).trans hb) (hne10 b (Nat.lt_of_lt_of_le (Array.getElem?_eq_some_iff.1 hb).1 hws9))).trans (hent b cur fr hb), (HR.out h h1).2⟩
          exact ⟨hall w10 (fun _ _ _ _ _ => rfl), hall⟩
        · exact addB_map HCH.out _ (x, nn) (by show J ++ [(x, nn)] = _; rw [hJ])
        · rw [hJ, hl9]
          exact rowMono hown10 hws9
        · rcases HBK.out with h9 | h9
          · exact .inl (h9.trans HSB.out)
          · exact .inr h9
        · exact HW10.mono fun k hk => hk.imp id fun h9 => HSB.out ▸ h9

end Go.Proofs.Ytpebefcmloablaa
