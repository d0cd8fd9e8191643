/- low: the queue's Swap. -/
import Derived.Test.YtggfdlanobndjaaGreatLwG
namespace Go.Proofs.YtggfdlanobndjaaGreat
open Go.RowKit Go.Sort Go.Shelf Go.Lib Go.Maps
attribute [local irreducible] wpQuiet
attribute [local go_sem] Oper.still1
set_option linter.unusedSimpArgs false
set_option linter.unusedVariables false

/-- two places changed -/
def swL (q : List Nat) (i k : Nat) (hi : i < q.length) (hk : k < q.length) : List Nat := (q.set i q[k]).set k q[i]
set_option maxRecDepth 100000 in
set_option maxHeartbeats 4000000 in
theorem que_swap {w : World} {tb qb base : Nat} {q : List Nat} {qv : Value} (H : QuAt w tb qb base q qv) (hq : q.length ≤ 1000000) (i k : Nat) (hi : i < q.length) (hk : k < q.length) :
    Calls Tryz.prog 204 #[.pointer (some ⟨qb, 0, none⟩), .int .i64 i, .int .i64 k] w fun e w' => e = .returned (.tuple #[]) ∧ QuAt w' tb qb base (swL q i k hi hk) qv ∧ KpS (fun g => qv.ownBlock = some g) w w' := by
  obtain ⟨qa, qc, rfl, -, -, hqr⟩ := Rd.of_owns (enc := eNat) H.row
  obtain ⟨gq, cq, eqq, hlo, hgq, hc1, hc2⟩ := ownRow_at H.row (by omega)
  injection eqq with eqq ee2 ee3
  subst eqq
  clear ee2 ee3
  have hrow := H.row
  have xi := hrow.cellAt i (by simpa using hi)
  have xk := hrow.cellAt k (by simpa using hk)
  simp only [List.getElem?_map, List.getElem?_eq_getElem hi, List.getElem?_eq_getElem hk, Option.map_some, eNat] at xi xk
  have zi := hrow.frozenAt i
  have zk := hrow.frozenAt k
  have hb := H.blk
  have c1 : w.cell? ⟨qb, 1, none⟩ = some (.slice (some ⟨gq, 0, none⟩) q.length qc) := by simp [World.cell?, hb]
  have hne : gq ≠ qb := by have := H.lt; have := (hrow.lt gq rfl).1; omega
  have HFIN : Hid (∀ wz, wz = ((w.setCell ⟨gq, i, none⟩ (.int .i64 (q[k] : Nat))).setCell ⟨gq, k, none⟩ (.int .i64 (q[i] : Nat))).drew → QuAt wz tb qb base (swL q i k hi hk) (.slice (some ⟨gq, 0, none⟩) q.length qc) ∧ KpS (fun g => (Value.slice (some ⟨gq, 0, none⟩) q.length qc).ownBlock = some g) w wz) := fun wz ez => by
    subst ez
    have r1 := (hrow.stored i (.int .i64 (q[k] : Nat))).1
    have r2 := (r1.stored k (.int .i64 (q[i] : Nat))).1
    refine ⟨⟨?_, ?_, H.lt⟩, (((KpS.refl (fun g => (Value.slice (some ⟨gq, 0, none⟩) q.length qc).ownBlock = some g) w).set (a := ⟨gq, i, none⟩) _ (.inl rfl)).set (a := ⟨gq, k, none⟩) _ (.inl rfl)).drew⟩
    · exact (heap_setNe hne).trans ((heap_setNe hne).trans H.blk)
    · have e1 : ((q.map eNat).set i (.int .i64 (q[k] : Nat))).set k (.int .i64 (q[i] : Nat)) = (swL q i k hi hk).map eNat := by
        unfold swL
        rw [List.map_set, List.map_set]
        rfl
      rw [e1] at r2
      have e2 : (swL q i k hi hk).length = q.length := by simp [swL]
      rw [e2]
      exact r2.drew
  have k1 := cell_belowW c1
  have k4 := cell_belowW xi
  have k5 := cell_belowW xk
  have xi' : w.drew.cell? ⟨gq, i, none⟩ = _ := xi
  have xk' : w.drew.cell? ⟨gq, k, none⟩ = _ := xk
  have zi' : w.drew.frozen? ⟨gq, i, none⟩ = false := zi
  have zk' : w.drew.frozen? ⟨gq, k, none⟩ = false := zk
  clear hrow hc1 hc2 hqr hb H
  have hab : i = k → q[i] = q[k] := fun e => by subst e; rfl
  generalize q[i] = a at *
  generalize q[k] = b at *
  by_cases hik : i = k
  · obtain rfl := hab hik
    subst hik
    clear hab xk xk' zk zk'
    go_enter Tryz.func204, Tryz.ntmps204
    refine wp_region_head (fun W => ∃ p : BelowW w, W = p.W) [24, 25, 26, 27] [(0, false), (1, false), (2, false), (3, true), (4, false), (5, false), (6, false), (7, false), (8, true), (9, false), (10, false), (11, false), (12, false), (13, true), (14, false), (15, false), (16, true), (17, false), (18, false), (19, false), (20, true), (21, false), (22, false), (23, true)] (by kernel_rfl) (by kernel_rfl) (fun _ _ d _ _ h => by cases d <;> exact h) ⟨⟨_, (Below.refl _ _).drew⟩, rfl⟩ 4 rfl (by kernel_rfl) ?_
    simp only [pickB, List.filterMap_cons, List.filterMap_nil, List.getElem?_toArray, List.getElem?_cons_succ, List.getElem?_cons_zero, Option.map_some]
    repeat (refine wpHd_step (fun K hK => ?_); go_simp; first | (refine hK _ ?_; clear hK K) | (apply Exists.intro; refine ⟨fun _ => ?_, hK _ ?_⟩; rfl; clear hK K))
    refine wpHd_nil ?_
    refine wpAnyT_line [24, 25, 26, 27] _ _ _ (by kernel_rfl) ?_
    simp only [pick, List.filterMap_cons, List.filterMap_nil, List.getElem?_toArray, List.getElem?_cons_succ, List.getElem?_cons_zero]
    clear k1 k4 k5
    go_wp2
    go_end0
    exact ⟨rfl, HFIN.out _ rfl⟩
  · have hik2 : ¬ k = i := fun h => hik h.symm
    clear hab
    go_enter Tryz.func204, Tryz.ntmps204
    refine wp_region_head (fun W => ∃ p : BelowW w, W = p.W) [24, 25, 26, 27] [(0, false), (1, false), (2, false), (3, true), (4, false), (5, false), (6, false), (7, false), (8, true), (9, false), (10, false), (11, false), (12, false), (13, true), (14, false), (15, false), (16, true), (17, false), (18, false), (19, false), (20, true), (21, false), (22, false), (23, true)] (by kernel_rfl) (by kernel_rfl) (fun _ _ d _ _ h => by cases d <;> exact h) ⟨⟨_, (Below.refl _ _).drew⟩, rfl⟩ 4 rfl (by kernel_rfl) ?_
    simp only [pickB, List.filterMap_cons, List.filterMap_nil, List.getElem?_toArray, List.getElem?_cons_succ, List.getElem?_cons_zero, Option.map_some]
    repeat (refine wpHd_step (fun K hK => ?_); go_simp; first | (refine hK _ ?_; clear hK K) | (apply Exists.intro; refine ⟨fun _ => ?_, hK _ ?_⟩; rfl; clear hK K))
    refine wpHd_nil ?_
    refine wpAnyT_line [24, 25, 26, 27] _ _ _ (by kernel_rfl) ?_
    simp only [pick, List.filterMap_cons, List.filterMap_nil, List.getElem?_toArray, List.getElem?_cons_succ, List.getElem?_cons_zero]
    clear k1 k4 k5
    go_wp2
    go_end0
    exact ⟨rfl, HFIN.out _ rfl⟩
end Go.Proofs.YtggfdlanobndjaaGreat
