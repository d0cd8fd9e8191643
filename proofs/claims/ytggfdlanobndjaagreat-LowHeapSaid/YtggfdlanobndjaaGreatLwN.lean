/- low: container/heap.Push and Pop over the queue. -/
import Derived.Test.YtggfdlanobndjaaGreatLwM
namespace Go.Proofs.YtggfdlanobndjaaGreat
open Go.RowKit Go.Sort Go.Shelf Go.Lib Go.Maps
attribute [local irreducible] wpQuiet
set_option linter.unusedSimpArgs false
set_option linter.unusedVariables false

/-- blocks of points stay -/
def PtsK (w w' : World) : Prop := ∀ (g : Nat) (cs : Array Value) (fr : Nat × Nat), w.heap[g]? = some (Obj.cells cs 34 fr) → w'.heap[g]? = some (Obj.cells cs 34 fr)
theorem PtsK.of {S : Nat → Prop} {w w' : World} (K : KpS S w w') (h : ∀ (g : Nat) (cs : Array Value) (fr : Nat × Nat), w.heap[g]? = some (Obj.cells cs 34 fr) → ¬ S g) : PtsK w w' := fun g cs fr hg => blkK K hg (h g cs fr hg)
theorem PtsK.trans {w w1 w2 : World} (h : PtsK w w1) (h2 : PtsK w1 w2) : PtsK w w2 := fun g cs fr hg => h2 g cs fr (h g cs fr hg)
theorem PtsK.refl (w : World) : PtsK w w := fun _ _ _ h => h
theorem PtsK.below {w w' : World} (hb : Below w.heap.size w w') : PtsK w w' := fun g cs fr hg => (hb.block g (Array.getElem?_eq_some_iff.1 hg).1).trans hg
theorem PtsK.row {w w' : World} (h : PtsK w w') {base sz n : Nat} {v : Value} {xs : List Value} (hs : w.heap.size ≤ w'.heap.size) (hr : w.ownsRow base 34 sz v n xs) : w'.ownsRow base 34 sz v n xs :=
  owns_sameH hr fun gb e => by
    rcases hr.2 with ⟨e9, -⟩ | ⟨g', cap, cur, e9, -, h3, -⟩
    · rw [e9] at e; cases e
    · rw [e9] at e
      obtain rfl := Option.some.inj e
      rw [h _ _ _ h3, h3]
theorem QuAt.pts {w : World} {tb qb base : Nat} {q : List Nat} {qv : Value} (H : QuAt w tb qb base q qv) : ∀ (g : Nat) (cs : Array Value) (fr : Nat × Nat), w.heap[g]? = some (Obj.cells cs 34 fr) → ¬ (g = qb ∨ qv.ownBlock = some g) := fun g cs fr hg h => by
  rcases h with h | h
  · exact blk_ne H.blk hg (by decide) h.symm
  · exact row_ne H.row hg (by decide) g h rfl

set_option maxRecDepth 100000 in
set_option maxHeartbeats 4000000 in
theorem que_hpush {w : World} {lo hi tb fb qb base n : Nat} {cnt : Int} {R : List Pt} {gone : List Bool} {YS : List Nat} {V : HepV} {qv : Value} (f : Qf) (x : Nat) (hA : LptAt w lo hi tb fb R (bst (nds R.length) YS) cnt V) (hW : CscWF R gone YS) (hR : R.length ≤ 20000) (hhi : hi ≤ qb) (H : QuAt w tb qb base (qrow f n) qv) (hbw : base ≤ w.heap.size) (hn : n < 1000000) (hQ : QNod R YS (qrow (addF f n x) (n + 1))) :
    Calls Tryz.prog 77 #[.iface 128 (.pointer (some ⟨qb, 0, none⟩)), .iface 3 (.int .i64 x)] w fun e w' => e = .returned (.tuple #[]) ∧ (∃ qv', QuAt w' tb qb base (qrow (upF (lbQ R (nds R.length) YS) (addF f n x) n) (n + 1)) qv') ∧ KpS (fun g => g = qb ∨ base ≤ g) w w' ∧ PtsK w w' := by
  have mP := rch_Push qb
  have mL := rch_Len qb
  have eP := ent_qPush
  have eL := ent_qLen
  have hql : (qrow f n).length = n := by simp [qrow]
  have CP := Lib.hid (que_push H (by omega) hbw x)
  have HA := Lib.hid hA
  have HW := Lib.hid hW
  have HQ := Lib.hid hQ
  have hlt := H.lt
  have hge : ∀ g, qv.ownBlock = some g → base ≤ g := fun g h => (H.row.lt g h).1
  have HGE := Lib.hid hge
  have HPT := Lib.hid H.pts
  clear hA hW hQ H hge
  go_enter Tryz.func77, Tryz.ntmps77
  go_wp2_with fail
  refine CP.out.mono ?_
  rintro e w2 ⟨rfl, ⟨qv2, hq2⟩, hk2⟩
  rw [← addF_row] at hq2
  have K2 : KpS (fun g => g = qb ∨ base ≤ g) w w2 := hk2.mono fun g h => by
    rcases h with h | h
    · exact .inl h
    · exact .inr (HGE.out g h)
  have HK2 := Lib.hid K2
  have HP2 := Lib.hid (PtsK.of hk2 HPT.out)
  have HPT2 := Lib.hid hq2.pts
  have HA2 := Lib.hid (HA.out.kept K2 (fun k h1 h2 h3 => by rcases h3 with h3 | h3 <;> omega))
  have hql2 : (qrow (addF f n x) (n + 1)).length = n + 1 := by simp [qrow]
  have CL := Lib.hid (que_len hq2 (by omega))
  have CU := Lib.hid (que_up (addF f n x) HA2.out HW.out hR (by omega) hq2 (by omega) HQ.out n (by omega))
  have HGE2 : Hid (∀ g, qv2.ownBlock = some g → base ≤ g) := fun g h => (hq2.row.lt g h).1
  rw [hql2] at CL
  clear hk2 hq2 K2 CP hql hql2
  go_wp2_with fail
  refine CL.out.mono ?_
  rintro e w3 ⟨rfl, rfl⟩
  go_wp2_with fail
  refine CU.out.mono ?_
  rintro e w4 ⟨rfl, hq4, hk4⟩
  have HFIN : Hid ((∃ qv', QuAt w4 tb qb base (qrow (upF (lbQ R (nds R.length) YS) (addF f n x) n) (n + 1)) qv') ∧ KpS (fun g => g = qb ∨ base ≤ g) w w4 ∧ PtsK w w4) := ⟨⟨_, hq4⟩, HK2.out.trans (hk4.mono fun g h => .inr (HGE2.out g h)), HP2.out.trans (PtsK.of hk4 fun g cs fr h h2 => HPT2.out g cs fr h (.inr h2))⟩
  clear hq4 hk4 CU CL
  go_wp2
  go_end0
  exact ⟨rfl, HFIN.out⟩

set_option maxRecDepth 100000 in
set_option maxHeartbeats 4000000 in
theorem que_hpop {w : World} {lo hi tb fb qb base n : Nat} {cnt : Int} {R : List Pt} {gone : List Bool} {YS : List Nat} {V : HepV} {qv : Value} (f : Qf) (hA : LptAt w lo hi tb fb R (bst (nds R.length) YS) cnt V) (hW : CscWF R gone YS) (hR : R.length ≤ 20000) (hhi : hi ≤ qb) (H : QuAt w tb qb base (qrow f (n + 1)) qv) (hn : n < 1000000) (hQ : QNod R YS (qrow f (n + 1))) (hO : HO (lbQ R (nds R.length) YS) f (n + 1)) :
    Calls Tryz.prog 78 #[.iface 128 (.pointer (some ⟨qb, 0, none⟩))] w fun e w' => e = .returned (.iface 3 (.int .i64 (f 0 : Nat))) ∧ (∃ qv', QuAt w' tb qb base (qrow (dnF (lbQ R (nds R.length) YS) (swp f 0 n) 0 n) n) qv') ∧ KpS (fun g => g = qb ∨ base ≤ g) w w' ∧ PtsK w w' := by
  have mP := rch_Pop qb
  have mL := rch_Len qb
  have mS := rch_Swap qb
  have eP := ent_qPop
  have eL := ent_qLen
  have eS := ent_qSwap
  have hql : (qrow f (n + 1)).length = n + 1 := by simp [qrow]
  have CL := Lib.hid (que_len H (by omega))
  have CS := que_swap H (by omega) 0 n (by omega) (by omega)
  rw [swL_row] at CS
  have HCS := Lib.hid CS
  rw [hql] at CL
  have HX : Hid (dnF (lbQ R (nds R.length) YS) (swp f 0 n) 0 n n = f 0) := (pop_spec lbQ_order hO).2.2
  have HA := Lib.hid hA
  have HW := Lib.hid hW
  have HQ2 : Hid (QNod R YS (qrow (swp f 0 n) (n + 1))) := fun k hk => hQ k ((swp_perm f (by omega) (by omega)).mem_iff.1 hk)
  have hlt := H.lt
  have HGE : Hid (∀ g, qv.ownBlock = some g → base ≤ g) := fun g h => (H.row.lt g h).1
  have HPT := Lib.hid H.pts
  clear hA hW hQ H hO CS hql
  go_enter Tryz.func78, Tryz.ntmps78
  go_wp2_with fail
  refine CL.out.mono ?_
  rintro e w2 ⟨rfl, rfl⟩
  go_wp2_with fail
  refine HCS.out.mono ?_
  rintro e w3 ⟨rfl, hq3, hk3⟩
  have K3 : KpS (fun g => g = qb ∨ base ≤ g) w2 w3 := hk3.mono fun g h => .inr (HGE.out g h)
  have CD := Lib.hid (que_down (swp f 0 n) (HA.out.kept K3 (fun k h1 h2 h3 => by rcases h3 with h3 | h3 <;> omega)) HW.out hR (by omega) hq3 (by omega) (Nat.le_succ n) HQ2.out 0 (by omega))
  have HK3 := Lib.hid K3
  have HP3 := Lib.hid (PtsK.of hk3 fun g cs fr h h2 => HPT.out g cs fr h (.inr h2))
  have HPT3 := Lib.hid hq3.pts
  clear hq3 hk3 K3 HCS CL
  go_wp2_with fail
  refine CD.out.mono ?_
  rintro e w4 ⟨⟨b4, rfl⟩, hq4, hk4⟩
  rw [qrow_succ] at hq4
  have CP := Lib.hid (que_pop hq4 (by simp [qrow]; omega))
  have HP4 := Lib.hid (HP3.out.trans (PtsK.of hk4 fun g cs fr h h2 => HPT3.out g cs fr h (.inr h2)))
  have HPT4 := Lib.hid hq4.pts
  have HK4 := Lib.hid (HK3.out.trans (hk4.mono fun g h => .inr (HGE.out g h)))
  rw [HX.out] at CP
  clear hq4 hk4 CD
  go_wp2_with fail
  refine CP.out.mono ?_
  rintro e w5 ⟨rfl, ⟨qv5, hq5⟩, hk5⟩
  have HFIN : Hid ((∃ qv', QuAt w5 tb qb base (qrow (dnF (lbQ R (nds R.length) YS) (swp f 0 n) 0 n) n) qv') ∧ KpS (fun g => g = qb ∨ base ≤ g) w2 w5 ∧ PtsK w2 w5) := ⟨⟨_, hq5⟩, HK4.out.trans (hk5.mono fun g h => .inl h), HP4.out.trans (PtsK.of hk5 fun g cs fr h h2 => HPT4.out g cs fr h (.inl h2))⟩
  clear hq5 hk5 CP
  go_wp2
  go_ret
  exact ⟨rfl, HFIN.out⟩
end Go.Proofs.YtggfdlanobndjaaGreat
