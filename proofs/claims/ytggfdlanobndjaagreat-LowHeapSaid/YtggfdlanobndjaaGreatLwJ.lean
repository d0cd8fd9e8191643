/- low: the queue's Pop. -/
import Derived.Test.YtggfdlanobndjaaGreatLwG
import Derived.Test.YtggfdlanobndjaaGreatRep
namespace Go.Proofs.YtggfdlanobndjaaGreat
open Go.RowKit Go.Sort Go.Shelf Go.Lib Go.Maps
attribute [local irreducible] wpQuiet
attribute [local go_sem] Oper.still1
set_option linter.unusedSimpArgs false
set_option linter.unusedVariables false

/-- a row with its last one left out -/
theorem row_less {w : World} {base g n cap : Nat} {e : TypeId} {xs : List Value} (h : w.ownsRow base e 1 (.slice (some ⟨g, 0, none⟩) (n + 1) cap) (n + 1) xs) : w.ownsRow base e 1 (.slice (some ⟨g, 0, none⟩) n cap) n (xs.take n) := by
  obtain ⟨h0, h1⟩ := h
  have hl : xs.length = n + 1 := by simpa using h0
  refine ⟨by simp [hl], ?_⟩
  rcases h1 with ⟨e9, -⟩ | ⟨g', cap', cur, e9, h2, h3, h4, h5, h6, h7⟩
  · cases e9
  · injection e9 with e1 _ e3
    injection e1 with e1
    injection e1 with e1 _ _
    subst e1 e3
    refine .inr ⟨g, cap, cur, rfl, h2, h3, by omega, h5, h6, ?_⟩
    rw [← h7, List.take_take]
    congr 1
    omega

set_option maxRecDepth 100000 in
set_option maxHeartbeats 4000000 in
theorem que_pop {w : World} {tb qb base : Nat} {q : List Nat} {x : Nat} {qv : Value} (H : QuAt w tb qb base (q ++ [x]) qv) (hq : q.length ≤ 1000000) :
    Calls Tryz.prog 202 #[.pointer (some ⟨qb, 0, none⟩)] w fun e w' => e = .returned (.iface 3 (.int .i64 x)) ∧ (∃ qv', QuAt w' tb qb base q qv') ∧ KpS (fun g => g = qb) w w' := by
  obtain ⟨n, hn⟩ : ∃ n, n = q.length := ⟨_, rfl⟩
  have hl : (q ++ [x]).length = n + 1 := by rw [List.length_append, hn]; rfl
  obtain ⟨gq, cq, rfl, hlo, hgq, hc1, hc2⟩ := ownRow_at H.row (by rw [hl]; omega)
  have hrow := H.row
  rw [hl] at hrow H
  have x0 := hrow.cellAt n (by omega)
  simp only [List.map_append, List.getElem?_append, List.length_map, ← hn, Nat.lt_irrefl, if_false, Nat.sub_self, List.map_cons, List.map_nil, List.getElem?_cons_zero, eNat] at x0
  have hb := H.blk
  have c1 : w.cell? ⟨qb, 1, none⟩ = some (.slice (some ⟨gq, 0, none⟩) (n + 1) cq) := by simp [World.cell?, hb]
  have z1 : w.frozen? ⟨qb, 1, none⟩ = false := by simp [World.frozen?, hb]
  have hcap : n + 1 ≤ cq := by
    rcases hrow.2 with ⟨e9, -⟩ | ⟨g', cap', cur, e9, h2, h3, h4, -⟩
    · cases e9
    · injection e9 with _ _ e3; omega
  have hlt := H.lt
  have hgl := (hrow.lt gq rfl).1
  have hrl := row_less hrow
  have htk : ((q ++ [x]).map eNat).take n = q.map eNat := by rw [List.map_append, List.take_left' (by simp [hn])]
  rw [htk] at hrl
  have hbb := hb
  have HFIN : Hid (∀ (wz w2 : World), Below w.heap.size w w2 → (wz = w2.setCell ⟨qb, 1, none⟩ (.slice (some ⟨gq, 0, none⟩) n cq)) → (∃ qv', QuAt wz tb qb base q qv') ∧ KpS (fun g => g = qb) w wz) := fun wz w2 hb2 ez => by
    subst ez
    have hb9 := (hb2.block qb (Array.getElem?_eq_some_iff.1 hbb).1).trans hbb
    have KT : KpS (fun k => k = qb) w (w2.setCell ⟨qb, 1, none⟩ (.slice (some ⟨gq, 0, none⟩) n cq)) := ((KpS.refl (fun k => k = qb) w).below hb2).set (a := ⟨qb, 1, none⟩) _ (.inl rfl)
    refine ⟨⟨_, heap_setCell_same w2 qb 1 _ _ _ hb9, ?_, hlt⟩, KT⟩
    rw [← hn]
    exact rowK hrl KT (fun g h h2 => by have := (hrl.lt g h).1; omega)
  have hn6 : n ≤ 1000000 := by omega
  have hwr : IntKind.i64.wrap (n : Int) = (n : Int) := by rw [IntKind.wrap_i64]; omega
  have hnn : (n : Int) < (n : Int) + 1 := by omega
  have HN := Lib.hid hn
  clear hrl htk hbb H hq hn
  clear hrow hb hc1 hc2 hl
  go_enter Tryz.func202, Tryz.ntmps202
  go_upto_region 1 with fail
  go_quiet (fail)
  obtain ⟨w2, ew2⟩ : ∃ w2, w2 = w.drewN nq := ⟨_, rfl⟩
  have hb2 : Below w.heap.size w w2 := by rw [ew2]; exact Below.drewAny _ _
  have c12 : w2.cell? ⟨qb, 1, none⟩ = some (.slice (some ⟨gq, 0, none⟩) (n + 1) cq) := by rw [ew2]; exact c1
  have z12 : w2.frozen? ⟨qb, 1, none⟩ = false := by rw [ew2]; exact z1
  have k1 := cell_belowW c12
  have HB2 := Lib.hid hb2
  have EW := Lib.hid ew2
  clear ew2 hb2
  go_upto_region 2 with fail
  rw [← EW.out]
  clear EW c1 z1 x0
  refine wp_region_head (fun W => ∃ p : BelowW w2, W = p.W) [12, 13, 14] [(0, false), (1, false), (2, false), (3, false), (4, true), (5, false), (6, false), (7, false), (8, true), (9, false), (10, false), (11, false)] (by kernel_rfl) (by kernel_rfl) (fun _ _ d _ _ h => by cases d <;> exact h) ⟨⟨_, (Below.refl _ _).drew⟩, rfl⟩ 3 rfl (by kernel_rfl) ?_
  simp only [pickB, List.filterMap_cons, List.filterMap_nil, List.getElem?_toArray, List.getElem?_cons_succ, List.getElem?_cons_zero, Option.map_some]
  iterate 11 (refine wpHd_step (fun K hK => ?_); go_simp; first | (refine hK _ ?_; clear hK K) | (apply Exists.intro; refine ⟨fun _ => ?_, hK _ ?_⟩; rfl; clear hK K))
  refine wpHd_step (fun K hK => ?_)
  refine step_hdSliceV elInt (some ⟨gq, 0, none⟩) (n + 1) cq 0 n (Nat.zero_le _) (by omega) rfl _ _ _ rfl rfl rfl (by simp [Act.eval, hwr]) (hK _ ?_)
  clear hK K
  rw [if_neg (by omega)]
  simp only [Option.map_some, Addr.add, Nat.zero_mul, Nat.add_zero, Nat.sub_zero]
  refine wpHd_nil ?_
  refine wpAnyT_line [12, 13, 14] _ _ _ (by kernel_rfl) ?_
  simp only [pick, List.filterMap_cons, List.filterMap_nil, List.getElem?_toArray, List.getElem?_cons_succ, List.getElem?_cons_zero]
  clear k1
  have c13 : w2.drew.cell? ⟨qb, 1, none⟩ = some (.slice (some ⟨gq, 0, none⟩) (n + 1) cq) := c12
  have z13 : w2.drew.frozen? ⟨qb, 1, none⟩ = false := z12
  go_wp2
  go_ret
  exact ⟨rfl, HFIN.out _ w2.drew HB2.out.drew rfl⟩
end Go.Proofs.YtggfdlanobndjaaGreat
