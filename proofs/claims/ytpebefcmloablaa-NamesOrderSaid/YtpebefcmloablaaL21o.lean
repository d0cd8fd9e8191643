/- The law NamesOrder. -/
import Derived.Test.YtpebefcmloablaaL21g
import Derived.Test.YtpebefcmloablaaUnl
namespace Go.Proofs.Ytpebefcmloablaa
open Go.RowKit Go.Maps
set_option linter.unusedSimpArgs false
set_option linter.unusedVariables false

theorem rdk_of_rd {α : Type} {enc : α → Value} {w : World} {a : Option Addr} {l : List α} (h : Rd enc w a l) : RdK (fun x => [enc x]) 1 w a l := by
  rcases h with h | ⟨b, off, rfl, hb, hc⟩
  · exact .inl h
  · refine .inr ⟨b, off, rfl, hb, fun i hi j hj => ?_⟩
    obtain rfl : j = 0 := by omega
    simp [hc i hi]
theorem rd_of_rdk {α : Type} {enc : α → Value} {w : World} {a : Option Addr} {l : List α} (h : RdK (fun x => [enc x]) 1 w a l) : Rd enc w a l := by
  rcases h with h | ⟨b, off, rfl, hb, hc⟩
  · exact .inl h
  · refine .inr ⟨b, off, rfl, hb, fun i hi => ?_⟩
    simpa using hc i hi 0 (by omega)

theorem CarAt.lower {W : World} {base base' Cb : Nat} {cv : Value} {ch : List Hdr} {N wk : Int} (h : CarAt W base Cb cv ch N wk) (hb : base' ≤ base) : CarAt W base' Cb cv ch N wk := ⟨Nat.le_trans hb h.hb, h.blk, rowMono h.row hb⟩

theorem DirAt.lower {W : World} {base base' A m : Nat} {S : Nat → Prop} {D : List (Int × Int)} (h : DirAt W base A S m D) (hb : base' ≤ base) : DirAt W base' A S m D := by
  obtain ⟨Cb, bv, pv, lv, cv, bh, ch, al, pl, n, N, wk, hr, hw, hd, hm, hS⟩ := h
  exact ⟨Cb, bv, pv, lv, cv, bh, ch, al, pl, n, N, wk, ⟨Nat.le_trans hb hr.hb, hr.blk, hr.car.lower hb, rowMono hr.brow hb, rowMono hr.prow hb, rowMono hr.arow hb, hr.bE, hr.cE, hr.sep⟩, hw, hd, hm, hS⟩

theorem DirAt.tight {W : World} {base A m : Nat} {S : Nat → Prop} {D : List (Int × Int)} (h : DirAt W base A S m D) : DirAt W base A (fun k => S k ∧ k < W.heap.size) m D := by
  obtain ⟨Cb, bv, pv, lv, cv, bh, ch, al, pl, n, N, wk, hr, hw, hd, hm, hS⟩ := h
  refine ⟨Cb, bv, pv, lv, cv, bh, ch, al, pl, n, N, wk, hr, hw, hd, hm, fun k hk => ⟨hS k hk, ?_⟩⟩
  obtain ⟨cs, t, fr, h1, -⟩ := mut_typed hr k hk
  exact (Array.getElem?_eq_some_iff.1 h1).1

/-- two directories, each in blocks of its own -/
def Two (W : World) (base A1 A2 m : Nat) (D1 D2 : List (Int × Int)) : Prop :=
  ∃ S1 S2 : Nat → Prop, DirAt W base A1 S1 m D1 ∧ DirAt W base A2 S2 m D2 ∧ (∀ k, S1 k → ¬ S2 k) ∧ (∀ k, S1 k → base ≤ k ∧ k < W.heap.size) ∧ (∀ k, S2 k → base ≤ k ∧ k < W.heap.size)

section
variable {W : World} {base A1 A2 m : Nat} {D1 D2 : List (Int × Int)}
theorem Two.symm (h : Two W base A1 A2 m D1 D2) : Two W base A2 A1 m D2 D1 := by
  obtain ⟨S1, S2, h1, h2, h3, h4, h5⟩ := h
  exact ⟨S2, S1, h2, h1, fun k hk hk1 => h3 k hk1 hk, h5, h4⟩
theorem Two.below {W' : World} (h : Two W base A1 A2 m D1 D2) (hb : Below W.heap.size W W') : Two W' base A1 A2 m D1 D2 := by
  obtain ⟨S1, S2, h1, h2, h3, h4, h5⟩ := h
  have := hb.size
  exact ⟨S1, S2, h1.below hb, h2.below hb, h3, fun k hk => ⟨(h4 k hk).1, Nat.lt_of_lt_of_le (h4 k hk).2 this⟩, fun k hk => ⟨(h5 k hk).1, Nat.lt_of_lt_of_le (h5 k hk).2 this⟩⟩
theorem Two.swap2 {D2' : List (Int × Int)} (h : Two W base A1 A2 m D1 D2) (hp : D2'.Perm D2) : Two W base A1 A2 m D1 D2' := by
  obtain ⟨S1, S2, h1, h2, h3, h4, h5⟩ := h
  exact ⟨S1, S2, h1, h2.swap hp, h3, h4, h5⟩
theorem Two.one (h : Two W base A1 A2 m D1 D2) : ∃ S, DirAt W base A1 S m D1 := by
  obtain ⟨S1, S2, h1, h2, h3, h4, h5⟩ := h
  exact ⟨S1, h1⟩
theorem Two.more {m' : Nat} (h : Two W base A1 A2 m D1 D2) (hm : m ≤ m') : Two W base A1 A2 m' D1 D2 := by
  obtain ⟨S1, S2, h1, h2, h3, h4, h5⟩ := h
  exact ⟨S1, S2, h1.mono (fun k h => h) hm, h2.mono (fun k h => h) hm, h3, h4, h5⟩

theorem two_new {w1 w2 : World} (h1 : DirAt w1 W.heap.size (W.heap.size + 1) (fun k => W.heap.size ≤ k) 0 []) (hb1 : Below W.heap.size W w1) (h2 : DirAt w2 w1.heap.size (w1.heap.size + 1) (fun k => w1.heap.size ≤ k) 0 []) (hb2 : Below w1.heap.size w1 w2) : Two w2 W.heap.size (W.heap.size + 1) (w1.heap.size + 1) 0 [] [] := by
  have hs := hb1.size
  have hs2 := hb2.size
  refine ⟨_, _, h1.tight.below hb2, (h2.lower hs).tight, ?_, ?_, ?_⟩
  · rintro k ⟨-, h⟩ ⟨h', -⟩
    omega
  · rintro k ⟨h, h'⟩
    exact ⟨h, by omega⟩
  · rintro k ⟨h, h'⟩
    exact ⟨Nat.le_trans hs h, h'⟩

theorem two_wrote {w' : World} {S1 S2 : Nat → Prop} {m' : Nat} {D1' : List (Int × Int)} (hbW : base ≤ W.heap.size) (h1 : DirAt W base A1 S1 m D1) (h2 : DirAt W base A2 S2 m D2) (h3 : ∀ k, S1 k → ¬ S2 k) (h4 : ∀ k, S1 k → base ≤ k ∧ k < W.heap.size) (h5 : ∀ k, S2 k → base ≤ k ∧ k < W.heap.size)
    (hd : DirAt w' base A1 (fun k => S1 k ∨ W.heap.size ≤ k) m' D1') (hw : Wrote S1 W w') (hm : m ≤ m') : Two w' base A1 A2 m' D1' D2 ∧ Below base W w' ∧ KeepB W w' := by
  have hs : W.heap.size ≤ w'.heap.size := hw.kps.size
  obtain ⟨T, K, hT⟩ := hw
  have h2' : DirAt w' base A2 S2 m D2 := h2.kept h1 K (fun k hk _ => (hT k hk).2) (fun k hk ht => h3 k (hT k ht).1 hk)
  refine ⟨⟨_, _, hd.tight, h2'.mono (fun k h => h) hm, ?_, ?_, fun k hk => ⟨(h5 k hk).1, Nat.lt_of_lt_of_le (h5 k hk).2 hs⟩⟩, Wrote.below ⟨T, K, hT⟩ hbW (fun k hk => (h4 k hk).1), Wrote.keep ⟨T, K, hT⟩⟩
  · rintro k ⟨h | h, -⟩ hk2
    · exact h3 k h hk2
    · have := (h5 k hk2).2; omega
  · rintro k ⟨h | h, h'⟩
    · exact ⟨(h4 k h).1, h'⟩
    · exact ⟨Nat.le_trans hbW h, h'⟩

theorem twoPut (h : Two W base A1 A2 m D1 D2) (hbW : base ≤ W.heap.size) (hm5 : m < 5000) (id p : Int) (hid : ∀ q, (id, q) ∉ D1) : Calls Try.prog 30 #[.pointer (some ⟨A1, 0, none⟩), .int .u32 id, .int .i64 p] W fun e w' => e = .returned (.int .i64 0) ∧ Two w' base A1 A2 (m + 1) (D1 ++ [(id, p)]) D2 ∧ Below base W w' ∧ KeepB W w' := by
  obtain ⟨S1, S2, h1, h2, h3, h4, h5⟩ := h
  refine (dPut_new h1 hbW hm5 id p hid).mono ?_
  rintro e w' ⟨he, hd, hw⟩
  exact ⟨he, two_wrote hbW h1 h2 h3 h4 h5 hd hw (by omega)⟩

theorem twoDrop (h : Two W base A1 A2 m D1 D2) (hbW : base ≤ W.heap.size) (id p : Int) (hid : (id, p) ∈ D1) : Calls Try.prog 32 #[.pointer (some ⟨A1, 0, none⟩), .int .u32 id] W fun e w' => e = .returned (.tuple #[.int .i64 p, .bool true]) ∧ Two w' base A1 A2 m (D1.filter fun x => decide (x.1 ≠ id)) D2 ∧ Below base W w' ∧ KeepB W w' := by
  obtain ⟨S1, S2, h1, h2, h3, h4, h5⟩ := h
  refine (dDrop_yes h1 hbW id p hid).mono ?_
  rintro e w' ⟨he, hd, hw⟩
  exact ⟨he, two_wrote hbW h1 h2 h3 h4 h5 hd hw (Nat.le_refl _)⟩
end

/-- names with their places -/
def numb (ds : List Int) : List (Int × Int) := ds.mapIdx fun i x => (x, (i : Int))
theorem numb_len (ds : List Int) : (numb ds).length = ds.length := by simp [numb]
theorem numb_get (ds : List Int) (i : Nat) (h : i < ds.length) : (numb ds)[i]'(by rw [numb_len]; exact h) = (ds[i], (i : Int)) := by simp [numb]
theorem numb_keys (ds : List Int) : (numb ds).map (·.1) = ds := by
  unfold numb
  apply List.ext_getElem
  · simp
  · intro i h1 h2
    simp
theorem numb_fresh (ds : List Int) (hn : ds.Nodup) (k : Nat) (hk : k < ds.length) : ∀ q, (ds[k], q) ∉ (numb ds).take k := fun q h => by
  obtain ⟨j, hj, e⟩ := List.getElem_of_mem h
  rw [List.getElem_take] at e
  rw [List.length_take, numb_len] at hj
  rw [numb_get ds j (by omega)] at e
  injection e with e _
  have := (List.nodup_iff_pairwise_ne.1 hn)
  have h2 := List.pairwise_iff_getElem.1 this j k (by omega) hk (by omega)
  exact h2 e
theorem numb_fresh_rev (ds : List Int) (hn : ds.Nodup) (k : Nat) (hk : k < ds.length) : ∀ q, (ds[ds.length - 1 - k], q) ∉ (numb ds).reverse.take k := fun q h => by
  obtain ⟨j, hj, e⟩ := List.getElem_of_mem h
  rw [List.length_take, List.length_reverse, numb_len] at hj
  rw [List.getElem_take, List.getElem_reverse] at e
  have hl := numb_len ds
  rw [numb_get ds ((numb ds).length - 1 - j) (by omega)] at e
  injection e with e _
  have := (List.nodup_iff_pairwise_ne.1 hn)
  have h2 := List.pairwise_iff_getElem.1 this (ds.length - 1 - k) ((numb ds).length - 1 - j) (by omega) (by omega) (by omega)
  exact h2 e.symm
theorem numb_take (ds : List Int) (k : Nat) (hk : k < ds.length) : (numb ds).take (k + 1) = (numb ds).take k ++ [(ds[k], (k : Int))] := by
  rw [List.take_succ_eq_append_getElem (by rw [numb_len]; exact hk), numb_get ds k hk]
theorem numb_take_rev (ds : List Int) (k : Nat) (hk : k < ds.length) : (numb ds).reverse.take (k + 1) = (numb ds).reverse.take k ++ [(ds[ds.length - 1 - k], ((ds.length - 1 - k : Nat) : Int))] := by
  have hl := numb_len ds
  rw [List.take_succ_eq_append_getElem (by rw [List.length_reverse, hl]; exact hk), List.getElem_reverse]
  have e : (numb ds)[(numb ds).length - 1 - k]'(by omega) = (ds[(numb ds).length - 1 - k]'(by omega), (((numb ds).length - 1 - k : Nat) : Int)) := numb_get ds _ (by omega)
  rw [e]
  simp only [hl]
theorem numb_drop (ds : List Int) (hn : ds.Nodup) (k : Nat) (hk : k < ds.length) : ((numb ds).drop k).filter (fun x => decide (x.1 ≠ ds[k])) = (numb ds).drop (k + 1) := by
  have hl := numb_len ds
  rw [List.drop_eq_getElem_cons (by omega), numb_get ds k hk, List.filter_cons, if_neg (by simp), List.filter_eq_self.2]
  intro x hx
  obtain ⟨j, hj, rfl⟩ := List.getElem_of_mem hx
  rw [List.length_drop] at hj
  rw [List.getElem_drop, numb_get ds (k + 1 + j) (by omega)]
  have h2 := List.pairwise_iff_getElem.1 (List.nodup_iff_pairwise_ne.1 hn) k (k + 1 + j) hk (by omega) (by omega)
  simp only [decide_eq_true_eq]
  exact fun e => h2 e.symm

theorem KeysAre.has {H : Type} {D : DataW H} {L : List Int} (h : KeysAre D L) (x : Int) : Maps.has D (.int .u32 x) = decide (x ∈ L) := by
  obtain ⟨f, s, h1, h2⟩ := h
  rw [(h1.2.2.2.2 x).1, Bool.eq_iff_iff, h2 x]
  simp

theorem wf_u32' {x : Int} (h : (Lit.int .u32 x).wf = true) : 0 ≤ x ∧ x ≤ 4294967295 := by
  simpa [Lit.wf, IntKind.min, IntKind.max, IntKind.bits, IntKind.signed] using h

theorem own_map_lt {P : Program} {w : World} {k : TypeId} {R : Value → Option (DataW Unit × List MemPlace)} {b n : Nat} {D : DataW Unit} (h : w.ownsMap P k R b n D) : b < w.heap.size := by
  obtain ⟨es, clock, h1, -⟩ := h
  exact (Array.getElem?_eq_some_iff.1 h1).1
theorem own_ne_map {w : World} {b : Nat} {e : TypeId} {sz n : Nat} {v : Value} {xs : List Value} (h : w.ownsRow (b + 1) e sz v n xs) : v.ownBlock = none ∨ v.ownBlock ≠ some b := by
  rcases Option.eq_none_or_eq_some v.ownBlock with h9 | ⟨g, h9⟩
  · exact .inl h9
  · right
    intro e
    have := (h.lt b e).1
    omega

set_option maxRecDepth 100000 in
set_option maxHeartbeats 16000000 in
theorem wNamesOrder (a : Option Addr) (l : List Int) (n c : Nat) (W : World) (e0 : l.length = n) (r0 : Rd (.int .u32) W a l) (m0 : n ≤ c ∧ c ≤ maxLen) (f0 : ∀ x ∈ l, (Lit.int .u32 x).wf = true) :
    Calls Try.prog 10 #[.slice a n c] W fun e w' => e = .returned (.bool true) ∧ Below W.heap.size W w' := by
  subst e0
  have hc : l.length ≤ c := m0.1
  have hc2 : l.length ≤ 9223372036854775807 := by have := m0.2; unfold maxLen at this; omega
  have HF := Lib.hid f0
  have HRD := Lib.hid (rdk_of_rd r0)
  obtain ⟨B, hB⟩ : ∃ B, B = W.heap.size := ⟨_, rfl⟩
  have C1 : Hid (Calls Try.prog 28 #[] W fun e w' => e = .returned (.pointer (some ⟨B + 1, 0, none⟩)) ∧ DirAt w' W.heap.size (W.heap.size + 1) (fun k => W.heap.size ≤ k) 0 [] ∧ Below W.heap.size W w') := by rw [hB]; exact dNew W
  have HBW := Lib.hid hB
  have hBW : B ≤ W.heap.size := Nat.le_of_eq hB
  have hmm := @run_makeMap Try.prog
  rw [← hB]
  clear m0 f0 r0 hB
  go_enter Try.func10, Try.ntmps10
  go_wp2_with fail
  refine C1.out.mono ?_
  rintro e w1 ⟨rfl, o1, hb1⟩
  have O1 := Lib.hid o1
  have HB1 := Lib.hid hb1
  have C2 := Lib.hid (dNew w1)
  clear o1 hb1 C1
  go_wp2_with fail
  refine C2.out.mono ?_
  rintro e w2 ⟨rfl, o2, hb2⟩
  have T2 : Hid (Two w2 B (B + 1) (w1.heap.size + 1) 0 [] []) := by rw [HBW.out]; exact two_new O1.out HB1.out o2 hb2
  have HB2 : Hid (Below B W w2) := by rw [HBW.out]; exact HB1.out.trans (hb2.mono HB1.out.size)
  have h2 := HB2.out.size
  generalize w1.heap.size + 1 = A2 at *
  clear o2 hb2 C2 O1 HB1
  obtain ⟨m, hm, hm1, hm2⟩ : ∃ m : Nat, min (l.length : Int) 100 = (m : Int) ∧ m ≤ l.length ∧ m ≤ 100 := ⟨min l.length 100, by omega, by omega, by omega⟩
  have hw2B : B ≤ w2.heap.size := Nat.le_trans hBW h2
  go_wp2_with (refine wp_sliceKA (enc := fun x : Int => [Value.int .u32 x]) (sz := 1) elU32 (HRD.out.below (HB2.out.alloc hw2B (.map #[] 0)) (by rw [HBW.out]; exact Nat.le_refl _)) hc 0 m (Nat.zero_le _) hm1 rfl _ _ _ rfl rfl rfl rfl ?_; intro ad hr; simp only [Nat.sub_zero, List.drop_zero] at hr ⊢)
  have HPR : Hid (∀ W', Below B W W' → Rd (.int .u32) W' ad (l.take m)) := fun W' hb => rd_of_rdk (hr W' (HRD.out.below hb (by rw [HBW.out]; exact Nat.le_refl _)))
  have hPl : (l.take m).length = m := by simp; omega
  have HFP : Hid (∀ x ∈ l.take m, (Lit.int .u32 x).wf = true) := fun x hx => HF.out x (List.mem_of_mem_take hx)
  clear hr hm HF
  generalize l.take m = P at *
  subst hPl
  have HMB : Hid (w2.heap.size = w2.heap.size) := Lib.hid rfl
  go_loopw [33, 5] (fun kv pv wr => ∃ (k : Nat) (ds : List Int) (pw : Value), kv = .int .i64 k ∧ pw = pv ∧ k ≤ P.length ∧ ds.length ≤ k ∧ Hid ds.Nodup ∧ Hid (wr.ownsRow (w2.heap.size + 1) 31 1 pw ds.length (ds.map (Value.int .u32))) ∧ Hid (∃ D : DataW Unit, wr.ownsMap Try.prog 31 (plainElem Try.prog 3) w2.heap.size ds.length D ∧ KeysAre D ds) ∧ Below w2.heap.size w2 wr) (fun kv _ _ => P.length - (intOf kv).toNat)
  case atStart => exact ⟨0, [], _, rfl, rfl, Nat.zero_le _, Nat.le_refl _, List.nodup_nil, World.ownsRow_nil _ _ _ _, ⟨.map [], World.ownsMap_made _ _ _ _, KeysAre.nil⟩, (Below.refl _ _).alloc (Nat.le_refl _) _⟩
  case round =>
    obtain ⟨k, ds, pw, rfl, rfl, hk, hdk, HN, HO, HM, hb⟩ := hrel
    have hsr := hb.size
    have hmr : w2.heap.size < wr.heap.size := by
      obtain ⟨D, h1, -⟩ := HM.out
      exact own_map_lt h1
    by_cases hkl : k < P.length
    · obtain ⟨b, off, ea, hbl, hcs⟩ := (HPR.out wr (HB2.out.trans (hb.mono hw2B))).get (by omega)
      have x0 := hcs k hkl
      have hkey : Hid (keyOf Try.prog 31 (.int .u32 P[k]) = some (.int .u32 P[k])) := keyOf_int_mk Try.underlying31 (HFP.out _ (List.getElem_mem _))
      have EA := Lib.hid ea
      clear hcs ea
      generalize P[k] = x at *
      obtain rfl := EA.out
      clear EA
      obtain ⟨D, hown0, hD⟩ := HM.out
      have HK := Lib.hid hD
      have hkl2 : (k : Int) < (P.length : Int) := by omega
      have HBr := Lib.hid hb
      clear HM hD hb
      by_cases hx : x ∈ ds
      · have hhas : Maps.has D (.int .u32 x) = true := by rw [HK.out.has]; simp [hx]
        have HOW := Lib.hid hown0
        clear hx
        go_wp2_with (at_lookup; refine wpList_lookup_own_ok_int _ rfl _ _ 43 rfl 31 3 .i64 (int_keyed Try.underlying31) Try.underlying43 Try.underlying3 (Try.zeroValue3 _) w2.heap.size _ _ rfl hown0 _ _ rfl hkey.out ?_; intro cc hat hwc; clear hat hwc)
        go_roundw
        case rel => exact ⟨k + 1, ds, _, by go_num, rfl, by omega, by omega, HN, HO, ⟨D, HOW.out, HK.out⟩, HBr.out⟩
        case measure => simp [intOf]; omega
      · have hhas : Maps.has D (.int .u32 x) = false := by rw [HK.out.has]; simp [hx]
        have HNX : Hid (ds ++ [x]).Nodup := by
          rw [show Hid (ds ++ [x]).Nodup = (ds ++ [x]).Nodup from rfl, List.nodup_append]
          exact ⟨HN.out, by simp, fun u hu v hv => by simp at hv; subst hv; exact fun e => hx (e ▸ hu)⟩
        have HK2 := Lib.hid (HK.out.put x k)
        clear hx
        go_wp2_with (first
          | (at_lookup; refine wpList_lookup_own_ok_int _ rfl _ _ 43 rfl 31 3 .i64 (int_keyed Try.underlying31) Try.underlying43 Try.underlying3 (Try.zeroValue3 _) w2.heap.size _ _ rfl hown0 _ _ rfl hkey.out ?_; intro cc hat hwc; clear hat hwc)
          | (at_mapUpdate; refine wpList_mapUpdate_own _ rfl _ _ _ 43 rfl 31 3 (int_keyed Try.underlying31) Try.underlying43 _ w2.heap.size ds.length _ rfl hown0 (by unfold maxLen; omega) _ _ _ rfl rfl hkey.out _ [] (plainElem_int Try.underlying3 (by simp [Lit.wf, IntKind.min, IntKind.max, IntKind.bits, IntKind.signed]; omega)) ?_; intro w3 hown3 hgrow3; have HO3 := Lib.hid (HO.out.kept hgrow3 (own_ne_map HO.out)); have HM3 := Lib.hid hown3; have HG3 := Lib.hid hgrow3; have hs3 := hgrow3.size; clear hown3 hgrow3)
          | (at_builtin; refine wp_append1 elU32 (w2.heap.size + 1) HO3.out [.int .u32 x] rfl (by simp [Value.oneCell']) rfl _ _ rfl rfl _ rfl (by unfold maxLen; omega) (by omega) (by omega) ?_; intro v' w4 hown4 hg4))
        have HM4 := HM3.out.kept hg4 (by
          rcases own_ne_map HO.out with h9 | h9
          · rw [h9]; simp
          · exact fun e => h9 e.symm)
        have hb4 : Below w2.heap.size w2 w4 := (HBr.out.grown HG3.out hsr (fun j ej => by cases ej; exact Nat.le_refl _)).grown hg4 (by omega) (fun j ej => by have := (HO.out.lt j ej).1; omega)
        go_roundw
        case rel => exact ⟨k + 1, ds ++ [x], _, by go_num, rfl, by omega, by simp; omega, HNX, by rw [List.length_append, List.map_append]; exact hown4, ⟨_, by rw [List.length_append]; exact HM4, HK2.out⟩, hb4⟩
        case measure => simp [intOf]; omega
    · have HB3 := Lib.hid (HB2.out.trans (hb.mono hw2B))
      have T3 := Lib.hid (T2.out.below hb)
      have hBr : B ≤ wr.heap.size := Nat.le_trans hw2B hsr
      have hge : ¬ (k : Int) < (P.length : Int) := by omega
      have hd100 : ds.length ≤ 100 := by omega
      obtain ⟨pa, pc, epw, -, hpc, -⟩ := Rd.of_owns HO.out
      subst epw
      have HOR := Lib.hid (rowMono (base' := 0) HO.out (Nat.zero_le _))
      obtain ⟨wo, ewo⟩ : ∃ wo : World, wo = wr := ⟨_, rfl⟩
      subst ewo
      clear hb HM HO T2 HB2 HPR HFP HMB hmm
      go_wp2_with fail
      go_loopw [56] (fun kv wr => ∃ i : Nat, kv = .int .i64 i ∧ i ≤ ds.length ∧ Hid (Two wr B (B + 1) A2 (2 * i) ((numb ds).take i) ((numb ds).reverse.take i)) ∧ Hid (wr.ownsRow 0 31 1 (.slice pa ds.length pc) ds.length (ds.map (Value.int .u32))) ∧ Below B W wr) (fun kv _ => ds.length - (intOf kv).toNat)
      case atStart => exact ⟨0, rfl, Nat.zero_le _, T3.out, HOR, HB3.out⟩
      case round =>
        obtain ⟨i, rfl, hi, HT, HR, hb⟩ := hrel
        have hw : B ≤ wr.heap.size := Nat.le_trans hBW hb.size
        by_cases hil : i < ds.length
        · obtain ⟨pa2, pc2, e2, -, -, hrd⟩ := Rd.of_owns HR.out
          injection e2 with e2 _ e3
          subst e2 e3
          have hN := HN.out
          have HF1 := Lib.hid (numb_fresh ds hN i hil)
          have HF2 := Lib.hid (numb_fresh_rev ds hN i hil)
          have HT1 := Lib.hid (numb_take ds i hil)
          have HT2 := Lib.hid (numb_take_rev ds i hil)
          have hj : ds.length - 1 - i < ds.length := by omega
          obtain ⟨b, off, ea, hbl, hcs⟩ := hrd.get (by omega)
          have x0 := hcs i hil
          have EA := Lib.hid ea
          have HBr := Lib.hid hb
          clear hN hrd hcs ea hb
          have HJ : Hid (∃ y, y = ds[ds.length - 1 - i]) := ⟨_, rfl⟩
          generalize hx : ds[i] = x at *
          generalize hy : ds[ds.length - 1 - i] = y at *
          have HX := Lib.hid hx
          have HY := Lib.hid hy
          have HEA := EA.out
          clear hx hy HJ
          have hil2 : (i : Int) < (ds.length : Int) := by omega
          have hidx : ((ds.length : Int) - 1 - (i : Int)) = ((ds.length - 1 - i : Nat) : Int) := by omega
          have hj2 : ((ds.length - 1 - i : Nat) : Int) < (ds.length : Int) := by omega
          have hj0 : (0 : Int) ≤ (ds.length : Int) - 1 - (i : Int) := by omega
          have HROW := Lib.hid HR.out
          clear HR EA
          subst HEA
          go_wp2_with fail
          refine (twoPut HT.out hw (by omega) x i HF1.out).mono ?_
          rintro e w4 ⟨rfl, t4, hb4, hk4⟩
          have HT4 := Lib.hid t4
          have HB4 := Lib.hid (HBr.out.trans hb4)
          have hr4 := hk4.row HROW.out (by decide)
          have HR4 := Lib.hid hr4
          have hw4 : B ≤ w4.heap.size := Nat.le_trans hw hb4.size
          obtain ⟨pa3, pc3, e3, -, -, hrd3⟩ := Rd.of_owns hr4
          injection e3 with e3 _ e4
          subst e3 e4
          obtain ⟨b5, off5, ea5, -, hc5⟩ := hrd3.get (by omega)
          injection ea5 with ea5
          injection ea5 with ea5 ea6
          subst ea5 ea6
          have z1 := hc5 (ds.length - 1 - i) hj
          rw [HY.out] at z1
          clear t4 hb4 hk4 hr4 hrd3 hc5 x0
          go_wp2_with fail
          refine (twoPut HT4.out.symm hw4 (by omega) y ((ds.length - 1 - i : Nat) : Int) HF2.out).mono ?_
          rintro e w5 ⟨rfl, t5, hb5, hk5⟩
          rw [← HT1.out, ← HT2.out] at t5
          have HT5 := Lib.hid t5.symm
          have HB5 := Lib.hid (HB4.out.trans hb5)
          have HR5 := Lib.hid (hk5.row HR4.out (by decide))
          clear t5 hb5 hk5 z1
          go_wp2
          go_roundw
          case rel => exact ⟨i + 1, by go_num, by omega, HT5.out.more (by omega), HR5, HB5.out⟩
          case measure => simp [intOf]; omega
        · obtain rfl : i = ds.length := by omega
          have hl9 := numb_len ds
          have HT0 : Hid (Two wr B (B + 1) A2 (2 * ds.length) (numb ds) (numb ds).reverse) := by
            have h9 := HT.out
            rw [List.take_of_length_le (by omega), List.take_of_length_le (by rw [List.length_reverse]; omega)] at h9
            exact h9
          have HBr := Lib.hid hb
          obtain ⟨SL, hSL⟩ : ∃ SL, SL = ds.mergeSort fun x y => decide (x ≤ y) := ⟨_, rfl⟩
          have hSLl : SL.length = ds.length := by rw [hSL, List.length_mergeSort]
          have HK1 : Hid (((numb ds).map (·.1)).mergeSort (fun x y => decide (x ≤ y)) = SL) := by rw [numb_keys, ← hSL]; exact rfl
          have HK2 : Hid (((numb ds).reverse.map (·.1)).mergeSort (fun x y => decide (x ≤ y)) = SL) := by
            have hp : ((numb ds).reverse.map (·.1)).Perm ds := by
              have := (List.reverse_perm (numb ds)).map (·.1)
              rwa [numb_keys] at this
            show _ = _
            rw [sorted_perm hp, ← hSL]
          have HLS := Lib.hid hSLl
          have HLN := Lib.hid hl9
          clear hb HT hSL hSLl hl9
          obtain ⟨S1, D1⟩ := HT0.out.one
          have HD1 := Lib.hid D1
          clear D1
          go_wp2_with fail
          refine (dAll HD1.out).mono ?_
          rintro e w4 ⟨v4, rfl, hown, hb4⟩
          rw [HK1.out, HLN.out] at hown
          obtain ⟨xa, xc, e4, -, -, -⟩ := Rd.of_owns (enc := Value.int .u32) hown
          rw [HLS.out] at e4
          subst e4
          have HX4 := Lib.hid hown
          have HB4 := Lib.hid (HBr.out.trans (hb4.mono hw))
          have HT4 := Lib.hid (HT0.out.below hb4)
          have HR4 := Lib.hid (ownsRow_below HR.out hb4)
          have hw4 : B ≤ w4.heap.size := Nat.le_trans hw hb4.size
          clear hown hb4 HBr HT0 HR HD1
          obtain ⟨S2, D2⟩ := HT4.out.symm.one
          have HD2 := Lib.hid D2
          clear D2
          go_wp2_with fail
          refine (dAll HD2.out).mono ?_
          rintro e w5 ⟨v5, rfl, hown, hb5⟩
          rw [HK2.out, List.length_reverse, HLN.out] at hown
          obtain ⟨ya, yc, e5, -, -, hyr⟩ := Rd.of_owns (enc := Value.int .u32) hown
          rw [HLS.out] at e5
          subst e5
          have hx5 := ownsRow_below HX4.out hb5
          obtain ⟨xa2, xc2, e6, -, -, hxr⟩ := Rd.of_owns (enc := Value.int .u32) hx5
          injection e6 with e6 e6m e7
          clear e6m
          subst e6 e7
          have HXR := Lib.hid hxr
          have HYR := Lib.hid hyr
          have HB5 := Lib.hid (HB4.out.trans (hb5.mono hw4))
          have HT5 := Lib.hid (HT4.out.below hb5)
          have HR5 := Lib.hid (ownsRow_below HR4.out hb5)
          have hw5 : B ≤ w5.heap.size := Nat.le_trans hw4 hb5.size
          have dn : ((ds.length : Int) != (ds.length : Int)) = false := by simp
          clear hown hb5 hx5 hxr hyr HX4 HB4 HT4 HR4 HD2
          go_wp2_with fail
          go_loopw [104] (fun kv wr => ∃ j : Nat, kv = .int .i64 j ∧ j ≤ ds.length ∧ Below w5.heap.size w5 wr) (fun kv _ => ds.length - (intOf kv).toNat)
          case atStart => exact ⟨0, rfl, Nat.zero_le _, Below.refl _ _⟩
          case round =>
            obtain ⟨j, rfl, hj, hb⟩ := hrel
            by_cases hjl : j < ds.length
            · have hj9 : j < SL.length := by rw [HLS.out]; exact hjl
              obtain ⟨b1, o1, ea1, hbl1, hc1⟩ := (HXR.out.below hb).get (by omega)
              obtain ⟨b2, o2, ea2, hbl2, hc2⟩ := (HYR.out.below hb).get (by omega)
              have x1 := hc1 j hj9
              have x2 := hc2 j hj9
              have EA1 := Lib.hid ea1
              have EA2 := Lib.hid ea2
              clear hc1 hc2 ea1 ea2
              generalize SL[j] = x at *
              obtain rfl := EA1.out
              obtain rfl := EA2.out
              clear EA1 EA2
              have dx : (x != x) = false := by simp
              have hjl2 : (j : Int) < (ds.length : Int) := by omega
              have HB := Lib.hid (hb.drew)
              clear hb
              go_wp2
              go_region
              all_goals
                go_wp2
                go_roundw
                case rel => exact ⟨j + 1, by go_num, by omega, HB.out⟩
                case measure => simp [intOf]; omega
            · obtain rfl : j = ds.length := by omega
              have HB6 := Lib.hid (HB5.out.trans (hb.mono hw5))
              have HT6 := Lib.hid (HT5.out.below hb)
              have HR6 := Lib.hid (ownsRow_below HR5.out hb)
              have HT7 : Hid (Two wr B (B + 1) A2 (2 * ds.length) (numb ds) ((numb ds).drop 0)) := Lib.hid (HT6.out.swap2 (by rw [List.drop_zero]; exact (List.reverse_perm _).symm))
              clear hb HB5 HT5 HR5 HXR HYR HT6
              obtain ⟨wo2, ewo2⟩ : ∃ wo2 : World, wo2 = wr := ⟨_, rfl⟩
              subst ewo2
              go_wp2_with fail
              go_loopw [119] (fun kv wr => ∃ i : Nat, kv = .int .i64 i ∧ i ≤ ds.length ∧ Hid (Two wr B (B + 1) A2 (2 * ds.length) (numb ds) ((numb ds).drop i)) ∧ Hid (wr.ownsRow 0 31 1 (.slice pa ds.length pc) ds.length (ds.map (Value.int .u32))) ∧ Below B W wr) (fun kv _ => ds.length - (intOf kv).toNat)
              case atStart => exact ⟨0, rfl, Nat.zero_le _, HT7, HR6, HB6.out⟩
              case round =>
                obtain ⟨i, rfl, hi, HT, HR, hb⟩ := hrel
                have hw : B ≤ wr.heap.size := Nat.le_trans hBW hb.size
                have HBr := Lib.hid hb
                by_cases hil : i < ds.length
                · obtain ⟨pa2, pc2, e2, -, -, hrd⟩ := Rd.of_owns HR.out
                  injection e2 with e2 _ e3
                  subst e2 e3
                  have HDR := Lib.hid (numb_drop ds HN.out i hil)
                  have HIN : Hid ((ds[i], (i : Int)) ∈ numb ds) := Lib.hid (by rw [← numb_get ds i hil]; exact List.getElem_mem _)
                  have HID : Hid ((ds[i], (i : Int)) ∈ (numb ds).drop i) := Lib.hid (by rw [List.drop_eq_getElem_cons (by rw [HLN.out]; exact hil), numb_get ds i hil]; exact List.mem_cons_self)
                  have HNO : Hid (∀ q, (ds[i], q) ∉ (numb ds).drop (i + 1)) := Lib.hid (by rw [← HDR.out]; exact not_in_filter _ _)
                  have HKN : Hid (((numb ds).map (·.1)).Nodup) := Lib.hid (by rw [numb_keys]; exact HN.out)
                  obtain ⟨b, off, ea, hbl, hcs⟩ := hrd.get (by omega)
                  have x0 := hcs i hil
                  have HEA := Lib.hid ea
                  clear hrd hcs ea hb
                  generalize ds[i] = x at *
                  obtain rfl := HEA.out
                  clear HEA
                  have hil2 : (i : Int) < (ds.length : Int) := by omega
                  have dii : ((i : Int) != (i : Int)) = false := by simp
                  obtain ⟨S3, D3⟩ := HT.out.one
                  have CF := Lib.hid (dFind D3 x)
                  clear D3
                  go_wp2_with fail
                  refine CF.out.mono ?_
                  rintro e w6 ⟨t, -, hf, hb6⟩
                  obtain rfl : e = .returned (.tuple #[.int .i64 i, .bool true, .int .i64 t]) := by
                    rcases hf with ⟨q, h9, h8⟩ | ⟨h9, -⟩
                    · have := nodup_fst HKN.out h9 HIN.out rfl
                      injection this with _ this
                      rw [h8, this]
                    · exact absurd HIN.out (h9 i)
                  have HT6 := Lib.hid (HT.out.below hb6)
                  have HRR6 := Lib.hid (ownsRow_below HR.out hb6)
                  have HBB6 := Lib.hid (HBr.out.trans (hb6.mono hw))
                  have hw6 : B ≤ w6.heap.size := Nat.le_trans hw hb6.size
                  clear hf hb6 CF x0
                  go_wp2_with fail
                  refine (twoDrop HT6.out.symm hw6 x i HID.out).mono ?_
                  rintro e w7 ⟨rfl, t7, hb7, hk7⟩
                  rw [HDR.out] at t7
                  have HT7' := Lib.hid t7.symm
                  have HRR7 := Lib.hid (hk7.row HRR6.out (by decide))
                  have HBB7 := Lib.hid (HBB6.out.trans hb7)
                  have hw7 : B ≤ w7.heap.size := Nat.le_trans hw6 hb7.size
                  obtain ⟨S4, D4⟩ := t7.one
                  have CD := Lib.hid (dDrop_no D4 x HNO.out)
                  clear t7 hb7 hk7 D4
                  go_wp2_with fail
                  refine CD.out.mono ?_
                  rintro e w8 ⟨rfl, hb8⟩
                  have HT8 := Lib.hid (HT7'.out.below hb8)
                  have HRR8 := Lib.hid (ownsRow_below HRR7.out hb8)
                  have HBB8 := Lib.hid (HBB7.out.trans (hb8.mono hw7))
                  clear hb8 CD
                  go_wp2
                  go_roundw
                  case rel => exact ⟨i + 1, by go_num, by omega, HT8, HRR8, HBB8.out⟩
                  case measure => simp [intOf]; omega
                · obtain rfl : i = ds.length := by omega
                  have HT9 := HT.out
                  rw [List.drop_of_length_le (by rw [HLN.out]; exact Nat.le_refl _)] at HT9
                  have HTE := Lib.hid HT9
                  obtain ⟨S5, D5⟩ := HT9.one
                  have CL := dLen D5
                  rw [HLN.out] at CL
                  have HCL := Lib.hid CL
                  have deq : ((ds.length : Int) == (ds.length : Int)) = true := by simp
                  clear hb HT HT9 D5 CL
                  go_wp2_with fail
                  refine HCL.out.mono ?_
                  rintro e w6 ⟨rfl, hb6⟩
                  have HT6 := Lib.hid (HTE.out.below hb6)
                  have HBB6 := Lib.hid (HBr.out.trans (hb6.mono hw))
                  have hw6 : B ≤ w6.heap.size := Nat.le_trans hw hb6.size
                  obtain ⟨S6, D6⟩ := HT6.out.symm.one
                  have CL2 := Lib.hid (dLen D6)
                  clear hb6 HCL D6
                  go_wp2_with fail
                  refine CL2.out.mono ?_
                  rintro e w7 ⟨rfl, hb7⟩
                  have HT7' := Lib.hid (HT6.out.below hb7)
                  have HBB7 := Lib.hid (HBB6.out.trans (hb7.mono hw6))
                  have hw7 : B ≤ w7.heap.size := Nat.le_trans hw6 hb7.size
                  obtain ⟨S7, D7⟩ := HT7'.out.symm.one
                  obtain ⟨N, -, hN, CS⟩ := dStored D7
                  obtain rfl : N = 0 := by simpa using hN
                  have HCS := Lib.hid CS
                  clear hb7 CL2 D7 CS hN
                  go_wp2_with fail
                  refine HCS.out.mono ?_
                  rintro e w8 ⟨rfl, hb8⟩
                  have HBB8 := Lib.hid (HBB7.out.trans (hb8.mono hw7))
                  have hw8 : B ≤ w8.heap.size := Nat.le_trans hw7 hb8.size
                  clear hb8 HCS
                  go_wp2_with fail
                  refine (awake21 w8).mono ?_
                  rintro e w9 ⟨rfl, hb9⟩
                  have HBB9 := Lib.hid (HBB8.out.trans (hb9.mono hw8))
                  clear hb9
                  go_wp2
                  go_ret
                  exact ⟨rfl, HBB9.out⟩

end Go.Proofs.Ytpebefcmloablaa
