/- A directory as a list of names and places: what New, Put, Find, All, Len and Stored answer. -/
import Derived.Test.YtpebefcmloablaaPutR
import Derived.Test.YtpebefcmloablaaDrp
import Derived.Test.YtpebefcmloablaaNmQ
namespace Go.Proofs.Ytpebefcmloablaa
open Go.RowKit Go.Maps
set_option linter.unusedSimpArgs false
set_option linter.unusedVariables false

/-- a directory at block A: its names and places are D; it may write in the blocks S; so many names came at most -/
def DirAt (W : World) (base A : Nat) (S : Nat → Prop) (m : Nat) (D : List (Int × Int)) : Prop :=
  ∃ (Cb : Nat) (bv pv lv cv : Value) (bh ch : List Hdr) (al : List Bool) (pl : List Int) (n N wk : Int), NmRep W base A Cb bv pv lv cv bh ch al pl n N wk ∧ NmWF (ch.map (·.2.1)) (bh.map (·.2.1)) al pl n N ∧ Dir (ch.map (·.2.1)) al pl D ∧ al.length ≤ m ∧ (∀ k, mutS A Cb bv pv lv cv k → S k)

theorem mem_map_fst {D : List (Int × Int)} {id : Int} : id ∈ D.map (·.1) ↔ ∃ p, (id, p) ∈ D := by
  constructor
  · intro h
    obtain ⟨x, hx, rfl⟩ := List.mem_map.1 h
    exact ⟨x.2, hx⟩
  · rintro ⟨p, h⟩
    exact List.mem_map.2 ⟨_, h, rfl⟩

section
variable {W : World} {base A : Nat} {S : Nat → Prop} {m : Nat} {D : List (Int × Int)}

theorem DirAt.below {W' : World} (h : DirAt W base A S m D) (hb : Below W.heap.size W W') : DirAt W' base A S m D := by
  obtain ⟨Cb, bv, pv, lv, cv, bh, ch, al, pl, n, N, wk, hr, hw, hd, hm, hS⟩ := h
  exact ⟨Cb, bv, pv, lv, cv, bh, ch, al, pl, n, N, wk, hr.below hb, hw, hd, hm, hS⟩

theorem DirAt.mono {S' : Nat → Prop} {m' : Nat} (h : DirAt W base A S m D) (hS : ∀ k, S k → S' k) (hm : m ≤ m') : DirAt W base A S' m' D := by
  obtain ⟨Cb, bv, pv, lv, cv, bh, ch, al, pl, n, N, wk, hr, hw, hd, hm2, hS2⟩ := h
  exact ⟨Cb, bv, pv, lv, cv, bh, ch, al, pl, n, N, wk, hr, hw, hd, by omega, fun k hk => hS k (hS2 k hk)⟩

theorem DirAt.swap {D' : List (Int × Int)} (h : DirAt W base A S m D) (hp : D'.Perm D) : DirAt W base A S m D' := by
  obtain ⟨Cb, bv, pv, lv, cv, bh, ch, al, pl, n, N, wk, hr, hw, hd, hm, hS⟩ := h
  exact ⟨Cb, bv, pv, lv, cv, bh, ch, al, pl, n, N, wk, hr, hw, hd.swap hp, hm, hS⟩

theorem DirAt.nodup (h : DirAt W base A S m D) : (D.map (·.1)).Nodup := by
  obtain ⟨Cb, bv, pv, lv, cv, bh, ch, al, pl, n, N, wk, hr, hw, hd, hm, hS⟩ := h
  exact hd.nodup

/-- another directory is written -/
theorem DirAt.kept {W' : World} {base' A' : Nat} {S' : Nat → Prop} {m' : Nat} {D' : List (Int × Int)} (h : DirAt W base A S m D) (h' : DirAt W base' A' S' m' D') {T : Nat → Prop} (K : KpS T W W') (hT : ∀ k, T k → k < W.heap.size → ∃ cs t fr, W.heap[k]? = some (Obj.cells cs t fr) ∧ dirTy t = true) (hd : ∀ k, S k → ¬ T k) : DirAt W' base A S m D := by
  obtain ⟨Cb, bv, pv, lv, cv, bh, ch, al, pl, n, N, wk, hr, hw, hdd, hm, hS⟩ := h
  have hent : ∀ (b : Nat) (cur : Array Value) (fr : Nat × Nat), W.heap[b]? = some (Obj.cells cur 86 fr) → W'.heap[b]? = W.heap[b]? := fun b cur fr hb => by
    have hlt := (Array.getElem?_eq_some_iff.1 hb).1
    refine K.block b hlt fun ht => ?_
    obtain ⟨cs, t, fr', h1, h2⟩ := hT b ht hlt
    exact blk_ne h1 hb (fun e => by subst e; exact absurd h2 (by decide)) rfl
  refine ⟨Cb, bv, pv, lv, cv, bh, ch, al, pl, n, N, wk, ⟨hr.hb, blkK K hr.blk (hd _ (hS _ (.inl rfl))), ⟨hr.car.hb, blkK K hr.car.blk (hd _ (hS _ (.inr (.inl rfl)))), rowK hr.car.row K fun gb e => hd _ (hS _ (.inr (.inr (.inr (.inr (.inr e))))))⟩, rowK hr.brow K fun gb e => hd _ (hS _ (.inr (.inr (.inl e)))), rowK hr.prow K fun gb e => hd _ (hS _ (.inr (.inr (.inr (.inl e))))), rowK hr.arow K fun gb e => hd _ (hS _ (.inr (.inr (.inr (.inr (.inl e)))))), hr.bE.kept hent, hr.cE.kept hent, hr.sep⟩, hw, hdd, hm, hS⟩

theorem dNew (W : World) : Calls Try.prog 28 #[] W fun e w' => e = .returned (.pointer (some ⟨W.heap.size + 1, 0, none⟩)) ∧ DirAt w' W.heap.size (W.heap.size + 1) (fun k => W.heap.size ≤ k) 0 [] ∧ Below W.heap.size W w' := by
  refine (nm_New W).mono ?_
  rintro e w' ⟨he, hr, hb⟩
  refine ⟨he, ⟨W.heap.size, .slice none 0 0, .slice none 0 0, .slice none 0 0, .slice none 0 0, [], [], [], [], 0, 0, 0, hr, nmWF_new, Dir.new, Nat.le_refl _, ?_⟩, hb⟩
  rintro k (h | h | h | h | h | h)
  · show _ ≤ k; omega
  · show _ ≤ k; omega
  all_goals cases h

theorem dLen (h : DirAt W base A S m D) : Calls Try.prog 35 #[.pointer (some ⟨A, 0, none⟩)] W fun e w' => e = .returned (.int .i64 D.length) ∧ Below W.heap.size W w' := by
  obtain ⟨Cb, bv, pv, lv, cv, bh, ch, al, pl, n, N, wk, hr, hw, hd, hm, hS⟩ := h
  have h1 : n = D.length := by rw [hw.cnt, hd.len]
  subst h1
  exact nm_Len hr

theorem dStored (h : DirAt W base A S m D) : ∃ N : Nat, D.length ≤ N ∧ N ≤ 2 * D.length ∧ Calls Try.prog 37 #[.pointer (some ⟨A, 0, none⟩)] W fun e w' => e = .returned (.int .i64 N) ∧ Below W.heap.size W w' := by
  obtain ⟨Cb, bv, pv, lv, cv, bh, ch, al, pl, n, N, wk, hr, hw, hd, hm, hS⟩ := h
  have h1 := hw.stored
  have h2 := hw.most
  have h3 : n = D.length := by rw [hw.cnt, hd.len]
  have h4 := alive_len hw.nums hw.numsN hw.live
  have h5 := List.length_filter_le (aliveE al) (ch.map (·.2.1)).flatten
  have h6 := hd.len
  refine ⟨(ch.map (·.2.1)).flatten.length, by omega, by omega, ?_⟩
  have := nm_Stored hr
  rw [h1] at this
  exact this

def AllP (W : World) (D : List (Int × Int)) (e : Ending) (w' : World) : Prop :=
  ∃ v, e = .returned v ∧ w'.ownsRow W.heap.size 31 1 v D.length (((D.map (·.1)).mergeSort fun x y => decide (x ≤ y)).map (Value.int .u32)) ∧ Below W.heap.size W w'

theorem sorted_perm {l m : List Int} (h : l.Perm m) : (l.mergeSort fun x y => decide (x ≤ y)) = m.mergeSort fun x y => decide (x ≤ y) := by
  have hp : (l.mergeSort fun x y => decide (x ≤ y)).Perm (m.mergeSort fun x y => decide (x ≤ y)) := (List.mergeSort_perm l _).trans (h.trans (List.mergeSort_perm m _).symm)
  refine hp.eq_of_pairwise (le := fun x y => x ≤ y) (fun x y _ _ h1 h2 => by omega) ?_ ?_
  · have := List.pairwise_mergeSort (le := fun x y : Int => decide (x ≤ y)) (fun a b c h1 h2 => by simp at *; omega) (fun a b => by simp; omega) l
    exact this.imp fun h => by simpa using h
  · have := List.pairwise_mergeSort (le := fun x y : Int => decide (x ≤ y)) (fun a b c h1 h2 => by simp at *; omega) (fun a b => by simp; omega) m
    exact this.imp fun h => by simpa using h

theorem dAll (h : DirAt W base A S m D) : Calls Try.prog 34 #[.pointer (some ⟨A, 0, none⟩)] W (AllP W D) := by
  obtain ⟨Cb, bv, pv, lv, cv, bh, ch, al, pl, n, N, wk, hr, hw, hd, hm, hS⟩ := h
  have hz := hw.nsz
  refine (nm_All hr hw (by have := hz.1; simp at this; omega) (by have := hz.2.1; omega)).mono ?_
  rintro e w' ⟨v, he, ho, hb⟩
  have hp := hd.all hw.toNmW0
  rw [sorted_perm hp, hp.length_eq, List.length_map] at ho
  exact ⟨v, he, ho, hb⟩

def DFindP (W : World) (D : List (Int × Int)) (id : Int) (e : Ending) (w' : World) : Prop :=
  ∃ t : Nat, t ≤ (Lib.bitLen (2 * D.length + 1) + 1) * (Lib.bitLen (2 * D.length + 1) + 1) ∧ ((∃ p, (id, p) ∈ D ∧ e = .returned (.tuple #[.int .i64 p, .bool true, .int .i64 t])) ∨ ((∀ p, (id, p) ∉ D) ∧ e = .returned (.tuple #[.int .i64 0, .bool false, .int .i64 t]))) ∧ Below W.heap.size W w'

theorem dFind (h : DirAt W base A S m D) (id : Int) : Calls Try.prog 31 #[.pointer (some ⟨A, 0, none⟩), .int .u32 id] W (DFindP W D id) := by
  obtain ⟨Cb, bv, pv, lv, cv, bh, ch, al, pl, n, N, wk, hr, hw, hd, hm, hS⟩ := h
  have hz := hw.nsz
  refine (nm_Find hr hw (by have := hz.1; simp at this; omega) (fun l hl => by have := hz.2.2.1 l hl; omega) id).mono ?_
  rintro e w' ⟨t, ht, hk, hb⟩
  refine ⟨t, ?_, ?_, hb⟩
  · rw [hd.len]
    exact Nat.le_trans ht (tbs_bound hw)
  · rcases hk with ⟨p, h1, h2⟩ | ⟨h1, h2⟩
    · exact .inl ⟨p, (hd.iff _ _).2 h1, h2⟩
    · exact .inr ⟨fun p hp => h1 p ((hd.iff _ _).1 hp), h2⟩

theorem dPut_there (h : DirAt W base A S m D) (id p p0 : Int) (hid : (id, p0) ∈ D) : Calls Try.prog 30 #[.pointer (some ⟨A, 0, none⟩), .int .u32 id, .int .i64 p] W fun e w' => e = .returned (.int .i64 2) ∧ Below W.heap.size W w' := by
  obtain ⟨Cb, bv, pv, lv, cv, bh, ch, al, pl, n, N, wk, hr, hw, hd, hm, hS⟩ := h
  have hz := hw.nsz
  exact nm_Put_there hr hw (by have := hz.1; simp at this; omega) (fun l hl => by have := hz.2.2.1 l hl; omega) id p p0 ((hd.iff _ _).1 hid)

/-- what was written: blocks of the directory's own, none of them entries -/
def Wrote (S : Nat → Prop) (W w' : World) : Prop := ∃ T : Nat → Prop, KpS T W w' ∧ ∀ k, T k → S k ∧ ∃ cs t fr, W.heap[k]? = some (Obj.cells cs t fr) ∧ dirTy t = true

theorem Wrote.kps {w' : World} (h : Wrote S W w') : KpS S W w' := by
  obtain ⟨T, K, hT⟩ := h
  exact K.mono fun k hk => (hT k hk).1
/-- blocks of other types stay -/
def KeepB (W w' : World) : Prop := ∀ (b : Nat) (cs : Array Value) (t : TypeId) (fr : Nat × Nat), W.heap[b]? = some (Obj.cells cs t fr) → dirTy t = false → w'.heap[b]? = W.heap[b]?
theorem Wrote.keep {w' : World} (h : Wrote S W w') : KeepB W w' := by
  obtain ⟨T, K, hT⟩ := h
  intro b cs t fr hb ht
  refine K.block b (Array.getElem?_eq_some_iff.1 hb).1 fun h9 => ?_
  obtain ⟨-, cs2, t2, fr2, h1, h2⟩ := hT b h9
  rw [hb] at h1
  injection h1 with h1
  injection h1 with _ h1 _
  subst h1
  rw [ht] at h2
  cases h2
theorem KeepB.trans {w1 w2 : World} (h : KeepB W w1) (h2 : KeepB w1 w2) : KeepB W w2 := fun b cs t fr hb ht => (h2 b cs t fr ((h b cs t fr hb ht).trans hb) ht).trans (h b cs t fr hb ht)
theorem KeepB.ofBelow {w' : World} (h : Below W.heap.size W w') : KeepB W w' := fun b cs t fr hb _ => below_heap h hb
theorem KeepB.row {w' : World} (h : KeepB W w') {b' : Nat} {e : TypeId} {sz n : Nat} {v : Value} {xs : List Value} (hr : W.ownsRow b' e sz v n xs) (he : dirTy e = false) : w'.ownsRow b' e sz v n xs := by
  refine owns_sameH hr fun gb e9 => ?_
  rcases hr.2 with ⟨rfl, _⟩ | ⟨g, cap, cur, rfl, _, hh, _⟩
  · cases e9
  · simp only [Value.ownBlock, Option.some.injEq] at e9
    subst e9
    exact h _ _ _ _ hh he
theorem Wrote.below {w' : World} (h : Wrote S W w') (hb : base ≤ W.heap.size) (hS : ∀ k, S k → base ≤ k) : Below base W w' := h.kps.toBelow hb hS

def DPutP (W : World) (base A : Nat) (S : Nat → Prop) (m : Nat) (D : List (Int × Int)) (id p : Int) (e : Ending) (w' : World) : Prop :=
  e = .returned (.int .i64 0) ∧ DirAt w' base A (fun k => S k ∨ W.heap.size ≤ k) (m + 1) (D ++ [(id, p)]) ∧ Wrote S W w'

theorem dPut_new (h : DirAt W base A S m D) (hbW : base ≤ W.heap.size) (hm5 : m < 5000) (id p : Int) (hid : ∀ q, (id, q) ∉ D) : Calls Try.prog 30 #[.pointer (some ⟨A, 0, none⟩), .int .u32 id, .int .i64 p] W (DPutP W base A S m D id p) := by
  obtain ⟨Cb, bv, pv, lv, cv, bh, ch, al, pl, n, N, wk, hr, hw, hd, hm, hS⟩ := h
  have hty : ∀ k, mutS A Cb bv pv lv cv k → ∃ cs t fr, W.heap[k]? = some (Obj.cells cs t fr) ∧ dirTy t = true := mut_typed hr
  have hz := hw.nsz
  by_cases hx : ∃ x ∈ (ch.map (·.2.1)).flatten, x.1 = id
  · obtain ⟨x, hx, hxi⟩ := hx
    obtain ⟨k, hk, hkl⟩ := hw.nums x hx
    have hmem : (id, (k : Int)) ∈ (ch.map (·.2.1)).flatten := by rw [← hxi, ← hk]; exact hx
    have hdead : al[k]? = some false := by
      rw [List.getElem?_eq_getElem hkl]
      cases hb : al[k] with
      | false => rfl
      | true =>
        obtain ⟨q, hq, -⟩ := hd.val hw.toNmW0 hmem (by rw [List.getElem?_eq_getElem hkl, hb])
        exact absurd hq (hid q)
    have hn0 : 0 ≤ n ∧ n ≤ 100000 := by
      have h1 := hw.cnt
      have h2 : al.count true ≤ al.length := List.count_le_length
      have h3 := hw.bound
      omega
    refine (nm_Put_again hr hw (by have := hz.1; simp at this; omega) (fun l hl => by have := hz.2.2.1 l hl; omega) id p k hmem hdead hn0).mono ?_
    rintro e w' ⟨he, hr', hK⟩
    have hK2 : KpS (mutS A Cb bv pv lv cv) W w' := hK.mono fun k hk => by
      rcases hk with h | h | h
      · exact .inl h
      · exact .inr (.inr (.inr (.inl h)))
      · exact .inr (.inr (.inr (.inr (.inl h))))
    exact ⟨he, ⟨Cb, bv, pv, lv, cv, bh, ch, _, _, _, N, wk, hr', wf_mark hw k p id hmem hdead, hd.again hw.toNmW0 hmem hdead, by simp; omega, fun k hk => .inl (hS k hk)⟩, ⟨_, hK2, fun k hk => ⟨hS k hk, hty k hk⟩⟩⟩
  · have hno : ∀ x ∈ (ch.map (·.2.1)).flatten, x.1 ≠ id := fun x h1 h2 => hx ⟨x, h1, h2⟩
    refine (nm_Put_new hr hbW hw (by omega) id p hno).mono ?_
    rintro e w' ⟨bv', pv', lv', cv', bh', ch', wk', he, hr', hw', hP, hmut, hK⟩
    exact ⟨he, ⟨Cb, bv', pv', lv', cv', bh', ch', _, _, _, _, wk', hr', hw', hd.put hw.toNmW0 hno hP, by simp; omega, fun k hk => (hmut k hk).imp (hS k) (fun h => h)⟩, ⟨_, hK, fun k hk => ⟨hS k hk, hty k hk⟩⟩⟩

theorem dDrop_no (h : DirAt W base A S m D) (id : Int) (hid : ∀ q, (id, q) ∉ D) : Calls Try.prog 32 #[.pointer (some ⟨A, 0, none⟩), .int .u32 id] W fun e w' => e = .returned (.tuple #[.int .i64 0, .bool false]) ∧ Below W.heap.size W w' := by
  obtain ⟨Cb, bv, pv, lv, cv, bh, ch, al, pl, n, N, wk, hr, hw, hd, hm, hS⟩ := h
  exact nm_Drop_no hr hw id (fun q hq => hid q ((hd.iff _ _).2 hq))

def DDropP (W : World) (base A : Nat) (S : Nat → Prop) (m : Nat) (D : List (Int × Int)) (id p : Int) (e : Ending) (w' : World) : Prop :=
  e = .returned (.tuple #[.int .i64 p, .bool true]) ∧ DirAt w' base A (fun k => S k ∨ W.heap.size ≤ k) m (D.filter fun x => decide (x.1 ≠ id)) ∧ Wrote S W w'

theorem dDrop_yes (h : DirAt W base A S m D) (hbW : base ≤ W.heap.size) (id p : Int) (hid : (id, p) ∈ D) : Calls Try.prog 32 #[.pointer (some ⟨A, 0, none⟩), .int .u32 id] W (DDropP W base A S m D id p) := by
  obtain ⟨Cb, bv, pv, lv, cv, bh, ch, al, pl, n, N, wk, hr, hw, hd, hm, hS⟩ := h
  have hty := mut_typed hr
  obtain ⟨k, h1, h2, h3⟩ := (hd.iff _ _).1 hid
  have hD := hd.drop hw.toNmW0 h1 h2
  refine (nm_Drop_yes hr hbW hw id p k h1 h2 h3).mono ?_
  rintro e w' ⟨bv', cv', bh', ch', N', wk', he, hr', hw', hiff, hmut, hK⟩
  exact ⟨he, ⟨Cb, bv', pv, lv, cv', bh', ch', _, _, _, N', wk', hr', hw', hD.turn hiff, by simpa using hm, fun k hk => (hmut k hk).imp (hS k) (fun h => h)⟩, ⟨_, hK, fun k hk => ⟨hS k hk, hty k hk⟩⟩⟩
end

/-- a directory of the call's own -/
def Own (W : World) (base A m : Nat) (D : List (Int × Int)) : Prop := DirAt W base A (fun k => base ≤ k) m D

section
variable {W : World} {base A m : Nat} {D : List (Int × Int)}
theorem Own.below {W' : World} (h : Own W base A m D) (hb : Below W.heap.size W W') : Own W' base A m D := DirAt.below h hb
theorem Own.more {m' : Nat} (h : Own W base A m D) (hm : m ≤ m') : Own W base A m' D := DirAt.mono h (fun k h => h) hm
theorem Own.swap {D' : List (Int × Int)} (h : Own W base A m D) (hp : D'.Perm D) : Own W base A m D' := DirAt.swap h hp

theorem oNew (W : World) : Calls Try.prog 28 #[] W fun e w' => e = .returned (.pointer (some ⟨W.heap.size + 1, 0, none⟩)) ∧ Own w' W.heap.size (W.heap.size + 1) 0 [] ∧ Below W.heap.size W w' := dNew W

theorem oPut_new (h : Own W base A m D) (hbW : base ≤ W.heap.size) (hm5 : m < 5000) (id p : Int) (hid : ∀ q, (id, q) ∉ D) : Calls Try.prog 30 #[.pointer (some ⟨A, 0, none⟩), .int .u32 id, .int .i64 p] W fun e w' => e = .returned (.int .i64 0) ∧ Own w' base A (m + 1) (D ++ [(id, p)]) ∧ Below base W w' ∧ KeepB W w' := by
  refine (dPut_new h hbW hm5 id p hid).mono ?_
  rintro e w' ⟨he, hd, hw⟩
  exact ⟨he, hd.mono (fun k hk => hk.elim (fun h => h) (fun h => Nat.le_trans hbW h)) (Nat.le_refl _), hw.below hbW (fun k h => h), hw.keep⟩

theorem oDrop_yes (h : Own W base A m D) (hbW : base ≤ W.heap.size) (id p : Int) (hid : (id, p) ∈ D) : Calls Try.prog 32 #[.pointer (some ⟨A, 0, none⟩), .int .u32 id] W fun e w' => e = .returned (.tuple #[.int .i64 p, .bool true]) ∧ Own w' base A m (D.filter fun x => decide (x.1 ≠ id)) ∧ Below base W w' ∧ KeepB W w' := by
  refine (dDrop_yes h hbW id p hid).mono ?_
  rintro e w' ⟨he, hd, hw⟩
  exact ⟨he, hd.mono (fun k hk => hk.elim (fun h => h) (fun h => Nat.le_trans hbW h)) (Nat.le_refl _), hw.below hbW (fun k h => h), hw.keep⟩

/-- Put, either way -/
theorem oPut (h : Own W base A m D) (hbW : base ≤ W.heap.size) (hm5 : m < 5000) (id p : Int) : Calls Try.prog 30 #[.pointer (some ⟨A, 0, none⟩), .int .u32 id, .int .i64 p] W fun e w' => (∃ k : Int, e = .returned (.int .i64 k)) ∧ (∃ D', Own w' base A (m + 1) D') ∧ Below base W w' ∧ KeepB W w' := by
  by_cases hid : ∃ q, (id, q) ∈ D
  · obtain ⟨q, hq⟩ := hid
    refine (dPut_there h id p q hq).mono ?_
    rintro e w' ⟨he, hb⟩
    exact ⟨⟨2, he⟩, ⟨D, (h.below hb).more (by omega)⟩, hb.mono hbW, .ofBelow hb⟩
  · refine (oPut_new h hbW hm5 id p (fun q hq => hid ⟨q, hq⟩)).mono ?_
    rintro e w' ⟨he, hd, hb, hkp⟩
    exact ⟨⟨0, he⟩, ⟨_, hd⟩, hb, hkp⟩

/-- Drop, either way -/
theorem oDrop (h : Own W base A m D) (hbW : base ≤ W.heap.size) (id : Int) : Calls Try.prog 32 #[.pointer (some ⟨A, 0, none⟩), .int .u32 id] W fun e w' => (∃ (k : Int) (b : Bool), e = .returned (.tuple #[.int .i64 k, .bool b])) ∧ Own w' base A m (D.filter fun x => decide (x.1 ≠ id)) ∧ Below base W w' ∧ KeepB W w' := by
  by_cases hid : ∃ q, (id, q) ∈ D
  · obtain ⟨q, hq⟩ := hid
    refine (oDrop_yes h hbW id q hq).mono ?_
    rintro e w' ⟨he, hd, hb, hkp⟩
    exact ⟨⟨_, _, he⟩, hd, hb, hkp⟩
  · have hf : D.filter (fun x => decide (x.1 ≠ id)) = D := List.filter_eq_self.2 fun x hx => by
      simp only [decide_eq_true_eq]
      intro e
      exact hid ⟨x.2, by rw [← e]; exact hx⟩
    refine (dDrop_no h id (fun q hq => hid ⟨q, hq⟩)).mono ?_
    rintro e w' ⟨he, hb⟩
    exact ⟨⟨_, _, he⟩, by rw [hf]; exact h.below hb, hb.mono hbW, .ofBelow hb⟩
end

end Go.Proofs.Ytpebefcmloablaa
