/- Maps from points to integers, counted in; the statement m[p]++. No function of the program is walked here. -/
import Derived.Test.YtpebefcmloablaaPt
import Derived.Maps.OwnSet
import Derived.Maps.OwnOps
import Derived.DeepKeys4
import Derived.MapViews
import Derived.WideKeyEntry
import Derived.Lib.SmallJoins
import Derived.Deep.Fields
namespace Go.Proofs.Ytpebefcmloablaa
open Go.RowKit Go.Maps Go.ChangeShapes Go.WideShapes Go.WideElems
open Go.WideMaps (KeyLaw)
open Go.ChangeMaps (setBlock modify_eq_set)
set_option linter.unusedSimpArgs false
set_option linter.unusedVariables false

theorem ptLaid : laidOutB Try.prog = true := by kernel_rfl
theorem ptRow : (33 : TypeId) < Try.prog.types.size := of_decide_eq_true (by kernel_rfl)
theorem ptWide : (match Try.prog.underlying 33 with | some (.array _ _) | some (.struct _) => true | _ => false) = true := by rw [Try.underlying33]
set_option maxRecDepth 100000 in
theorem ptLaw : KeyLaw Try.prog 33 := deep_law_laid ptLaid (m := 2) (by omega) ptRow (by kernel_rfl) ptWide
set_option maxRecDepth 100000 in
theorem ptDeep : Try.prog.keyTypeAt (Try.prog.types.size + 1) 33 = true := by kernel_rfl
theorem ptCells : Try.prog.cellsOf 33 = 3 := by kernel_rfl

def wfP (p : Pt) : Prop := (Lit.int .i64 p.1).wf = true ∧ (Lit.int .i64 p.2.1).wf = true ∧ (Lit.int .u32 p.2.2).wf = true

/-- a point, as a map's key -/
def kp (p : Pt) : Lit := (DataW.agg [.lit (.int .i64 p.1), .lit (.int .i64 p.2.1), .lit (.int .u32 p.2.2)] : DataW Unit).asKey

theorem int_trod {H : Type} {enc : TypeId × Value → H} {P : Program} {w : World} {base : Nat} {spare : Nat → Bool} {held : Bool} {t : TypeId} {q : IntKind} {n : Int} (ht : P.underlying t = some (.int q)) (hw : (Lit.int q n).wf = true) :
    ∃ m, DataW.trod enc P w base spare held m t [.int q n] = some (.lit (.int q n), []) := ⟨1, by simp [DataW.trod, ht, hw]⟩

set_option maxRecDepth 100000 in
theorem kp_key {p : Pt} (h : wfP p) : keyOf Try.prog 33 (vPt p.1 p.2.1 p.2.2) = some (kp p) := by
  have t0 := Go.Joins.shut_agg3 (enc := fun _ => ()) (w := default) (base := 0) (spare := fun _ => true) (held := false) Try.underlying33 (by kernel_rfl) ptCells
    (int_trod Try.underlying2 h.1) (int_trod Try.underlying2 h.2.1) (int_trod Try.underlying31 h.2.2)
  exact (keyOf_asKey ptDeep ptWide (by simp [Value.formed, Try.underlying33, ptCells]) t0).1

theorem kp_inj {p q : Pt} (hp : wfP p) (hq : wfP q) (h : kp p = kp q) : p = q := by
  have h2 := kp_key hq
  rw [← h] at h2
  have := ptLaw.inj (kp_key hp) h2
  obtain ⟨px, py, pi⟩ := p
  obtain ⟨qx, qy, qi⟩ := q
  simp [vPt] at this
  obtain ⟨rfl, rfl, rfl⟩ := this
  rfl

theorem kp_lit {p : Pt} (h : wfP p) : WideAt.IsKeyLit (kp p) := (Keyed.of_law ptLaw).key (kp_key h)

/-- a map's datum: how often each point is there -/
def IsC {H : Type} (D : DataW H) (L : List Pt) : Prop := Tidy D ∧ ∀ p, wfP p → ∀ z, D.atKey (kp p) z = if p ∈ L then .lit (.int .i64 (L.count p : Nat)) else z

theorem IsC.empty {H : Type} : IsC (H := H) (.map []) [] := ⟨tidy_empty, fun p _ z => by simp; rfl⟩

theorem IsC.at0 {H : Type} {D : DataW H} {L : List Pt} (h : IsC D L) {p : Pt} (hp : wfP p) : D.atKey (kp p) (.lit (.int .i64 0)) = .lit (.int .i64 (L.count p : Nat)) := by
  rw [h.2 p hp]
  by_cases hin : p ∈ L
  · rw [if_pos hin]
  · rw [if_neg hin, List.count_eq_zero.2 hin]
    rfl

theorem IsC.put {H : Type} {D : DataW H} {L : List Pt} (h : IsC D L) {x : Pt} (hx : wfP x) : IsC (D.put (kp x) (.lit (.int .i64 ((L.count x : Nat) + 1 : Int)))) (L ++ [x]) := by
  refine ⟨h.1.put (kp_lit hx) _, fun p hp z => ?_⟩
  by_cases e : p = x
  · subst e
    rw [atKey_put_same h.1.isMap (kp_lit hp), if_pos (by simp), List.count_append]
    simp
  · have hne : kp p ≠ kp x := fun h9 => e (kp_inj hp hx h9)
    rw [atKey_put_other hne, h.2 p hp z]
    have h1 : (p ∈ L ++ [x]) ↔ p ∈ L := by simp [e]
    have h2 : (L ++ [x]).count p = L.count p := by rw [List.count_append, List.count_eq_zero.2 (by simp [e] : p ∉ [x])]; rfl
    simp only [h1, h2]

theorem setBlock_same {w : World} {b : Nat} {o : Obj} (h : w.heap[b]? = some o) : setBlock w b o = w := by
  obtain ⟨hlt, he⟩ := Array.getElem?_eq_some_iff.1 h
  unfold setBlock
  have : w.heap.setIfInBounds b o = w.heap := by
    apply Array.ext_getElem?
    intro i
    rw [Array.getElem?_setIfInBounds]
    by_cases e : b = i
    · subst e; simp [hlt, he]
    · simp [e]
  rw [this]

theorem setBlock_twice (w : World) (b : Nat) (o o' : Obj) : setBlock (setBlock w b o) b o' = setBlock w b o' := by
  unfold setBlock
  simp only [World.mk.injEq, and_true, true_and]
  apply Array.ext_getElem?
  intro i
  simp only [Array.getElem?_setIfInBounds]
  by_cases e : b = i <;> simp [e]

/-- the runs of m[p]++, in whatever order its look-up and its entry come -/
theorem bump_runs {P : Program} {t k e : TypeId} (K : KeyLaw P k) (ht : P.underlying t = some (.map k e)) (he : P.underlying e = some (.int .i64)) (hz : ∀ u : World, (zeroValue e).run P u = .ok (.int .i64 0) u)
    {W : World} {b n : Nat} {D : DataW Unit} (hown : W.ownsMap P k (plainElem P e) b n D) (hn : n < maxLen) {key : Value} {kl : Lit} (hkey : keyOf P k key = some kl) {c : Int} (hat : D.atKey kl (.lit (.int .i64 0)) = .lit (.int .i64 c)) (hc : (Lit.int .i64 (c + 1)).wf = true) :
    ∃ (v0 : Value) (st : Nat) (W1 W2 : World), (Instr.lookup t (.map (some b)) key false).run P W = .ok (.int .i64 c) W ∧ (Instr.mapEntry t (.map (some b)) key).run P W = .ok (.tuple #[v0, .int .i64 st]) W1 ∧
      (Instr.lookup t (.map (some b)) key false).run P W1 = .ok (.int .i64 c) W1 ∧ (Instr.entryStore t (.map (some b)) (.int .i64 st) (.int .i64 (c + 1))).run P W1 = .ok () W2 ∧
      W2.ownsMap P k (plainElem P e) b (n + 1) (D.put kl (.lit (.int .i64 (c + 1)))) ∧ W.grownBy W2 (some b) ∧ W.grownBy W1 (some b) := by
  have hup := hown.update (Keyed.of_law K) ht hn hkey (val := .int .i64 (c + 1)) (plainElem_int he hc)
  obtain ⟨c9, hl, hc9, _⟩ := hown.lookup_int (Keyed.of_law K) ht he (hz W) hkey
  have e9 : c9 = c := by rw [hat] at hc9; simpa using hc9.symm
  subst e9
  obtain ⟨w', hrun, hown', hg⟩ := hup
  have hown0 := hown
  obtain ⟨es, clock, hb, F, hs, rfl⟩ := hown
  obtain ⟨v0, st, es1, clock1, hE, -, hS⟩ := entry_then_store K ht hz hb F hkey
  have hlt : b < W.heap.size := (Array.getElem?_eq_some_iff.1 hb).1
  have hb1 : (setBlock W b (.map es1 clock1)).heap[b]? = some (.map es1 clock1) := by simp [setBlock, hlt]
  obtain ⟨es', clock', h1, h2⟩ := hS (setBlock W b (.map es1 clock1)) (.int .i64 (c9 + 1)) hb1
  rw [setBlock_twice] at h1
  have hw' : w' = setBlock W b (.map es' clock') := by
    rw [hrun] at h2
    injection h2
  refine ⟨v0, st, setBlock W b (.map es1 clock1), w', hl, hE, ?_, by rw [hw']; exact h1, hown', hg, ⟨rfl, rfl, rfl, by simp [setBlock], fun i _ hi => by
    have : b ≠ i := fun e => hi (by rw [e])
    simp [setBlock, Array.getElem?_setIfInBounds, this]⟩⟩
  rcases K.find W hkey es.toList F.keys with ⟨f1, f2⟩ | ⟨j, e0, f1, f2, f3⟩
  · have hE2 : (Instr.mapEntry t (.map (some b)) key).run P W = .ok (.tuple #[.int .i64 0, goInt clock]) (setBlock W b (.map (es.push ⟨key, .int .i64 0, clock⟩) (clock + 1))) := by
      simp [Instr.mapEntry, run_underlying ht, MapKept.run_getObj_map hb, K.check W false hkey, f1, hz, MapKept.run_setObj_map _ hb, Result.andThen, setBlock]
    have hU2 : (Instr.mapUpdate t (.map (some b)) key (.int .i64 0)).run P W = .ok () (setBlock W b (.map (es.push ⟨key, .int .i64 0, clock⟩) (clock + 1))) := by
      simp [Instr.mapUpdate, run_underlying ht, MapKept.run_getObj_map hb, K.check W false hkey, f1, MapKept.run_setObj_map _ hb, Result.andThen, setBlock]
    have hW1 : setBlock W b (.map es1 clock1) = setBlock W b (.map (es.push ⟨key, .int .i64 0, clock⟩) (clock + 1)) := by
      rw [hE] at hE2
      injection hE2
    obtain ⟨w9, hr9, ho9, _⟩ := hown0.update (Keyed.of_law K) ht hn hkey (val := .int .i64 0) (plainElem_int he (by decide))
    have hw9 : w9 = setBlock W b (.map es1 clock1) := by
      rw [hU2, ← hW1] at hr9
      injection hr9 with _ h
      exact h.symm
    subst hw9
    obtain ⟨c8, hl8, hc8, _⟩ := ho9.lookup_int (Keyed.of_law K) ht he (hz _) hkey
    have e8 : c8 = 0 := by
      rw [atKey_put_same ⟨_, rfl⟩ ((Keyed.of_law K).key hkey)] at hc8
      simpa using hc8.symm
    have e0 : c9 = 0 := by
      rcases Maps.fit_look false (Keyed.of_law K) ht (hz W) hb F hkey with ⟨hrun, _, _⟩ | ⟨e0, y, hm, hk, _⟩
      · rw [hrun] at hl
        injection hl with h _
        injection h with _ h
        exact h.symm
      · exact absurd hk (f2 _ hm)
    rw [hl8, e8, e0]
  · have hj : es[j]? = some e0 := by simpa using f2
    have hsame : es.modify j (fun e => { e with key := key }) = es := by
      apply Array.ext'
      rw [Array.toList_modify, modify_eq_set _ _ _ _ f2]
      have : ({ e0 with key := key } : MapEntry) = e0 := by rw [← f3]
      rw [this]
      exact set_self _ _ _ f2
    have hE2 : (Instr.mapEntry t (.map (some b)) key).run P W = .ok (.tuple #[e0.val, goInt e0.born]) (setBlock W b (.map es clock)) := by
      simp [Instr.mapEntry, run_underlying ht, MapKept.run_getObj_map hb, K.check W false hkey, f1, hj, f3, K.stays W hkey, hsame, MapKept.run_setObj_map _ hb, Result.andThen, setBlock]
    have hW1 : setBlock W b (.map es1 clock1) = W := by
      rw [hE] at hE2
      injection hE2 with _ h
      rw [h, setBlock_same hb]
    rw [hW1]
    exact hl

end Go.Proofs.Ytpebefcmloablaa
