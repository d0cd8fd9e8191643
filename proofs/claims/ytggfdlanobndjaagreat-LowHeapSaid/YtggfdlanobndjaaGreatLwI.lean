/- low: the queue's Push. -/
import Derived.Test.YtggfdlanobndjaaGreatLwG
namespace Go.Proofs.YtggfdlanobndjaaGreat
open Go.RowKit Go.Sort Go.Shelf Go.Lib Go.Maps
attribute [local irreducible] wpQuiet
attribute [local go_sem] Oper.still1
set_option linter.unusedSimpArgs false
set_option linter.unusedVariables false

set_option maxRecDepth 100000 in
set_option maxHeartbeats 4000000 in
theorem que_push {w : World} {tb qb base : Nat} {q : List Nat} {qv : Value} (H : QuAt w tb qb base q qv) (hq : q.length ≤ 1000000) (hbw : base ≤ w.heap.size) (x : Nat) :
    Calls Tryz.prog 203 #[.pointer (some ⟨qb, 0, none⟩), .iface 3 (.int .i64 x)] w fun e w' => e = .returned (.tuple #[]) ∧ (∃ qv', QuAt w' tb qb base (q ++ [x]) qv') ∧ KpS (fun g => g = qb ∨ qv.ownBlock = some g) w w' := by
  obtain ⟨qa, qc, rfl⟩ := rowV H.row
  have hb := H.blk
  have hbl := (Array.getElem?_eq_some_iff.1 hb).1
  have c1 : w.cell? ⟨qb, 1, none⟩ = some (.slice qa q.length qc) := by simp [World.cell?, hb]
  have HH := Lib.hid H
  have k1 := cell_belowW c1
  have nD : ¬ (Value.slice qa q.length qc).ownBlock = some qb := fun h => by have := (H.row.lt qb h).1; have := H.lt; omega
  clear hb H c1
  go_enter Tryz.func203, Tryz.ntmps203
  refine wp_region_head (fun W => ∃ p : BelowW w, W = p.W) [8, 9, 10, 11] [(0, false), (1, false), (2, false), (3, false), (4, true), (5, false), (6, false)] (by kernel_rfl) (by kernel_rfl) (fun _ _ d _ _ h => by cases d <;> exact h) ⟨⟨_, (Below.refl _ _).drew⟩, rfl⟩ 5 rfl (by kernel_rfl) ?_
  simp only [pickB, List.filterMap_cons, List.filterMap_nil, List.getElem?_toArray, List.getElem?_cons_succ, List.getElem?_cons_zero, Option.map_some]
  repeat (refine wpHd_step (fun K hK => ?_); go_simp; first | (refine hK _ ?_; clear hK K) | (apply Exists.intro; refine ⟨fun _ => ?_, hK _ ?_⟩; rfl; clear hK K))
  refine wpHd_nil ?_
  refine wpAnyT_ready [7] (by kernel_rfl) (by simp) ?_
  refine AllReadyT.cons rfl (fun K hK => ?_) AllReadyT.nil
  go_simp
  refine hK _ _ (fun _ _ => ⟨⟨_, ((Below.refl _ w).alloc (Nat.le_refl _) _).drew⟩, rfl⟩) ?_
  clear hK K
  refine wpAnyT_ready [8] (by kernel_rfl) (by simp) ?_
  refine AllReadyT.cons rfl (fun K hK => ?_) AllReadyT.nil
  refine step_append1E elInt base (w := (w.alloc (.cells #[.int .i64 x] 3)).drew) (ownsRow_below HH.out.row ((Below.refl _ w).alloc (Nat.le_refl _) _ |>.drew)) [.int .i64 x] rfl (by simp [Value.oneCell']) rfl (.tmp 8) (.tmp 11) rfl rfl w.heap.size rfl (lit0d _ _) (by unfold maxLen; omega) (by omega) (by simp; omega) ?_
  intro ga capa w8 hown8 hg8 hblk8 hlt8
  have hg68 : w.grownBy w8 (Value.slice qa q.length qc).ownBlock := grownBy_trans (below_asGrown ((Below.refl _ w).alloc (Nat.le_refl _) _ |>.drew)) hg8
  have KA8 : KpS (fun k => (Value.slice qa q.length qc).ownBlock = some k) w w8 := (KpS.refl _ w).grown hg68 (fun k hk => .inl hk)
  refine hK _ _ (fun _ h => absurd (by simp) h) ?_
  clear hK K
  refine wpAnyT_line [9, 10, 11] _ _ _ (by kernel_rfl) ?_
  simp only [pick, List.filterMap_cons, List.filterMap_nil, List.getElem?_toArray, List.getElem?_cons_succ, List.getElem?_cons_zero]
  have ht8 := blkK KA8 HH.out.blk nD
  have q8 : w8.cell? ⟨qb, 1, none⟩ = some (.slice qa q.length qc) := by simp [World.cell?, ht8]
  have f8 : w8.frozen? ⟨qb, 1, none⟩ = false := by simp [World.frozen?, ht8]
  have HFIN : Hid (∀ wz, wz = w8.setCell ⟨qb, 1, none⟩ (.slice (some ⟨ga, 0, none⟩) (q.length + 1) capa) → (∃ qv', QuAt wz tb qb base (q ++ [x]) qv') ∧ KpS (fun g => g = qb ∨ (Value.slice qa q.length qc).ownBlock = some g) w wz) := fun wz ez => by
    subst ez
    have KT : KpS (fun k => k = qb) w8 (w8.setCell ⟨qb, 1, none⟩ (.slice (some ⟨ga, 0, none⟩) (q.length + 1) capa)) := (KpS.refl (fun k => k = qb) w8).set (a := ⟨qb, 1, none⟩) _ (.inl rfl)
    refine ⟨⟨.slice (some ⟨ga, 0, none⟩) (q.length + 1) capa, heap_setCell_same w8 qb 1 _ _ _ ht8, ?_, HH.out.lt⟩, (KA8.mono fun g h => .inr h).trans (KT.mono fun g h => .inl h)⟩
    have h9 := rowK hown8 KT (fun g h h2 => by have := (hown8.lt g h).1; have := HH.out.lt; omega)
    rw [List.map_append, List.length_append]
    exact h9
  clear KA8 hg68 hg8 hown8 ht8 k1 nD
  go_wp2
  go_end0
  exact ⟨rfl, HFIN.out _ rfl⟩
end Go.Proofs.YtggfdlanobndjaaGreat
