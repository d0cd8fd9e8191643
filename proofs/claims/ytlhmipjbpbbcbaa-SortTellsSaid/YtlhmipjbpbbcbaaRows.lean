/-
  No cell of these rows narrows 'for every input' (looked for: loops, veiled, ifaces, maps, wideKeys, modest, calm, conditions, laid).
  DERIVED. THE GIVEN ROWS OF THIS SEAT. 12 by the template 'for every input the law returns true; each argument reads behind the call as it read before'; 0 by the template 'total and deterministic' (their statements: YtlhmipjbpbbcbaaTotals.lean).
  GIVEN WITH THE SEED: the statements are not yours to turn. If you find one false, say at which input.
  Laid BY PROGRAM, IN A SANDBOX (cutbox-rows.mjs): the forced cells as the released guide's own fill.sh prints them over the translation fb2fcbc670b6c7fe… (all of the seat's roots in one cut). By AI agents, Wed Nov 11 2026. No macro, syntax, notation, axiom, sorry.
-/
import Derived.Test.YtlhmipjbpbbcbaaChecked
import GoSem.Claim
import GoSem.ClaimJoined
import GoSem.ClaimMapViews
import Derived.JoinedTies
import Derived.KernelRfl
namespace Go.Proofs.Ytlhmipjbpbbcbaa
/- THE CELL 'sum', in the pinned program and in every row, IS THE sha256 OF THE DUMP (.gsa) THAT YtlhmipjbpbbcbaaProg.lean LOADS. Nothing in Lean hashes anything: it is a label: what it is worth is what the hold of that sum in a sandbox is worth. -/
noncomputable def Try.pinned : Pinned := { name := "ytlhmipjbpbbcbaa", sum := "fb2fcbc670b6c7fed9acf0f152c0f5ac1c9ea3c03febd8eb1d70ef5bd5188da0", checked := Try.checked }
namespace Rows
def none {H : Type} : Left H := { results := [], args := [] }

/-- 'gridironlaw04.RankTells': WHATEVER THE INPUT: true; the input reads as it did. -/
def rankTellsSpec : ChangeSpec := { name := "rankTells", fn := fun _ => fun
  | [d1, d2, d3] => { results := [.lit (.bool true)], args := [d1, d2, d3] }
  | _ => none }
def rankTellsRow : OpenClaim := { program := "ytlhmipjbpbbcbaa", sum := "fb2fcbc670b6c7fed9acf0f152c0f5ac1c9ea3c03febd8eb1d70ef5bd5188da0", func := "gridiron/gridironlaw04.RankTells", spec := "rankTells", unfollowed := true, recurses := true, apart := false }
def RankTellsSaid : Prop := rankTellsRow.holds Try.pinned (OpenSpec.ofChange rankTellsSpec)

/-- ITS FALSE NEIGHBOUR: 'it returns false'. Refute it at one input. -/
def rankTellsWrong : ChangeSpec := { name := "rankTells", fn := fun _ => fun
  | [d1, d2, d3] => { results := [.lit (.bool false)], args := [d1, d2, d3] }
  | _ => none }
def RankTellsWrongFalsely : Prop := rankTellsRow.holds Try.pinned (OpenSpec.ofChange rankTellsWrong)

/-- 'gridironlaw04.RankSplits': WHATEVER THE INPUT: true; the input reads as it did. -/
def rankSplitsSpec : ChangeSpec := { name := "rankSplits", fn := fun _ => fun
  | [d1, d2, d3] => { results := [.lit (.bool true)], args := [d1, d2, d3] }
  | _ => none }
def rankSplitsRow : OpenClaim := { program := "ytlhmipjbpbbcbaa", sum := "fb2fcbc670b6c7fed9acf0f152c0f5ac1c9ea3c03febd8eb1d70ef5bd5188da0", func := "gridiron/gridironlaw04.RankSplits", spec := "rankSplits", unfollowed := true, recurses := true, apart := false }
def RankSplitsSaid : Prop := rankSplitsRow.holds Try.pinned (OpenSpec.ofChange rankSplitsSpec)

/-- ITS FALSE NEIGHBOUR: 'it returns false'. Refute it at one input. -/
def rankSplitsWrong : ChangeSpec := { name := "rankSplits", fn := fun _ => fun
  | [d1, d2, d3] => { results := [.lit (.bool false)], args := [d1, d2, d3] }
  | _ => none }
def RankSplitsWrongFalsely : Prop := rankSplitsRow.holds Try.pinned (OpenSpec.ofChange rankSplitsWrong)

/-- 'gridironlaw04.RankLooked': WHATEVER THE INPUT: true; the input reads as it did. -/
def rankLookedSpec : ChangeSpec := { name := "rankLooked", fn := fun _ => fun
  | [d1, d2] => { results := [.lit (.bool true)], args := [d1, d2] }
  | _ => none }
def rankLookedRow : OpenClaim := { program := "ytlhmipjbpbbcbaa", sum := "fb2fcbc670b6c7fed9acf0f152c0f5ac1c9ea3c03febd8eb1d70ef5bd5188da0", func := "gridiron/gridironlaw04.RankLooked", spec := "rankLooked", unfollowed := true, recurses := true, apart := false }
def RankLookedSaid : Prop := rankLookedRow.holds Try.pinned (OpenSpec.ofChange rankLookedSpec)

/-- ITS FALSE NEIGHBOUR: 'it returns false'. Refute it at one input. -/
def rankLookedWrong : ChangeSpec := { name := "rankLooked", fn := fun _ => fun
  | [d1, d2] => { results := [.lit (.bool false)], args := [d1, d2] }
  | _ => none }
def RankLookedWrongFalsely : Prop := rankLookedRow.holds Try.pinned (OpenSpec.ofChange rankLookedWrong)

/-- 'gridironlaw04.RankSqueeze': WHATEVER THE INPUT: true; the input reads as it did. -/
def rankSqueezeSpec : ChangeSpec := { name := "rankSqueeze", fn := fun _ => fun
  | [d] => { results := [.lit (.bool true)], args := [d] }
  | _ => none }
def rankSqueezeRow : OpenClaim := { program := "ytlhmipjbpbbcbaa", sum := "fb2fcbc670b6c7fed9acf0f152c0f5ac1c9ea3c03febd8eb1d70ef5bd5188da0", func := "gridiron/gridironlaw04.RankSqueeze", spec := "rankSqueeze", unfollowed := true, recurses := true, apart := false }
def RankSqueezeSaid : Prop := rankSqueezeRow.holds Try.pinned (OpenSpec.ofChange rankSqueezeSpec)

/-- ITS FALSE NEIGHBOUR: 'it returns false'. Refute it at one input. -/
def rankSqueezeWrong : ChangeSpec := { name := "rankSqueeze", fn := fun _ => fun
  | [d] => { results := [.lit (.bool false)], args := [d] }
  | _ => none }
def RankSqueezeWrongFalsely : Prop := rankSqueezeRow.holds Try.pinned (OpenSpec.ofChange rankSqueezeWrong)

/-- 'gridironlaw04.RankLog': WHATEVER THE INPUT: true; the input reads as it did. -/
def rankLogSpec : ChangeSpec := { name := "rankLog", fn := fun _ => fun
  | [d] => { results := [.lit (.bool true)], args := [d] }
  | _ => none }
def rankLogRow : OpenClaim := { program := "ytlhmipjbpbbcbaa", sum := "fb2fcbc670b6c7fed9acf0f152c0f5ac1c9ea3c03febd8eb1d70ef5bd5188da0", func := "gridiron/gridironlaw04.RankLog", spec := "rankLog", unfollowed := true, recurses := true, apart := false }
def RankLogSaid : Prop := rankLogRow.holds Try.pinned (OpenSpec.ofChange rankLogSpec)

/-- ITS FALSE NEIGHBOUR: 'it returns false'. Refute it at one input. -/
def rankLogWrong : ChangeSpec := { name := "rankLog", fn := fun _ => fun
  | [d] => { results := [.lit (.bool false)], args := [d] }
  | _ => none }
def RankLogWrongFalsely : Prop := rankLogRow.holds Try.pinned (OpenSpec.ofChange rankLogWrong)

/-- 'gridironlaw04.RankOwn': WHATEVER THE INPUT: true; the input reads as it did. -/
def rankOwnSpec : ChangeSpec := { name := "rankOwn", fn := fun _ => fun
  | [d] => { results := [.lit (.bool true)], args := [d] }
  | _ => none }
def rankOwnRow : OpenClaim := { program := "ytlhmipjbpbbcbaa", sum := "fb2fcbc670b6c7fed9acf0f152c0f5ac1c9ea3c03febd8eb1d70ef5bd5188da0", func := "gridiron/gridironlaw04.RankOwn", spec := "rankOwn", unfollowed := true, recurses := true, apart := false }
def RankOwnSaid : Prop := rankOwnRow.holds Try.pinned (OpenSpec.ofChange rankOwnSpec)

/-- ITS FALSE NEIGHBOUR: 'it returns false'. Refute it at one input. -/
def rankOwnWrong : ChangeSpec := { name := "rankOwn", fn := fun _ => fun
  | [d] => { results := [.lit (.bool false)], args := [d] }
  | _ => none }
def RankOwnWrongFalsely : Prop := rankOwnRow.holds Try.pinned (OpenSpec.ofChange rankOwnWrong)

/-- 'gridironlaw03.SortTells': WHATEVER THE INPUT: true; the input reads as it did. -/
def sortTellsSpec : ChangeSpec := { name := "sortTells", fn := fun _ => fun
  | [d1, d2, d3] => { results := [.lit (.bool true)], args := [d1, d2, d3] }
  | _ => none }
def sortTellsRow : OpenClaim := { program := "ytlhmipjbpbbcbaa", sum := "fb2fcbc670b6c7fed9acf0f152c0f5ac1c9ea3c03febd8eb1d70ef5bd5188da0", func := "gridiron/gridironlaw03.SortTells", spec := "sortTells", unfollowed := true, recurses := true, apart := false }
def SortTellsSaid : Prop := sortTellsRow.holds Try.pinned (OpenSpec.ofChange sortTellsSpec)

/-- ITS FALSE NEIGHBOUR: 'it returns false'. Refute it at one input. -/
def sortTellsWrong : ChangeSpec := { name := "sortTells", fn := fun _ => fun
  | [d1, d2, d3] => { results := [.lit (.bool false)], args := [d1, d2, d3] }
  | _ => none }
def SortTellsWrongFalsely : Prop := sortTellsRow.holds Try.pinned (OpenSpec.ofChange sortTellsWrong)

/-- 'gridironlaw03.SortRises': WHATEVER THE INPUT: true; the input reads as it did. -/
def sortRisesSpec : ChangeSpec := { name := "sortRises", fn := fun _ => fun
  | [d] => { results := [.lit (.bool true)], args := [d] }
  | _ => none }
def sortRisesRow : OpenClaim := { program := "ytlhmipjbpbbcbaa", sum := "fb2fcbc670b6c7fed9acf0f152c0f5ac1c9ea3c03febd8eb1d70ef5bd5188da0", func := "gridiron/gridironlaw03.SortRises", spec := "sortRises", unfollowed := true, recurses := true, apart := false }
def SortRisesSaid : Prop := sortRisesRow.holds Try.pinned (OpenSpec.ofChange sortRisesSpec)

/-- ITS FALSE NEIGHBOUR: 'it returns false'. Refute it at one input. -/
def sortRisesWrong : ChangeSpec := { name := "sortRises", fn := fun _ => fun
  | [d] => { results := [.lit (.bool false)], args := [d] }
  | _ => none }
def SortRisesWrongFalsely : Prop := sortRisesRow.holds Try.pinned (OpenSpec.ofChange sortRisesWrong)

/-- 'gridironlaw03.SortMerges': WHATEVER THE INPUT: true; the input reads as it did. -/
def sortMergesSpec : ChangeSpec := { name := "sortMerges", fn := fun _ => fun
  | [d1, d2] => { results := [.lit (.bool true)], args := [d1, d2] }
  | _ => none }
def sortMergesRow : OpenClaim := { program := "ytlhmipjbpbbcbaa", sum := "fb2fcbc670b6c7fed9acf0f152c0f5ac1c9ea3c03febd8eb1d70ef5bd5188da0", func := "gridiron/gridironlaw03.SortMerges", spec := "sortMerges", unfollowed := true, recurses := true, apart := false }
def SortMergesSaid : Prop := sortMergesRow.holds Try.pinned (OpenSpec.ofChange sortMergesSpec)

/-- ITS FALSE NEIGHBOUR: 'it returns false'. Refute it at one input. -/
def sortMergesWrong : ChangeSpec := { name := "sortMerges", fn := fun _ => fun
  | [d1, d2] => { results := [.lit (.bool false)], args := [d1, d2] }
  | _ => none }
def SortMergesWrongFalsely : Prop := sortMergesRow.holds Try.pinned (OpenSpec.ofChange sortMergesWrong)

/-- 'gridironlaw03.SortWork': WHATEVER THE INPUT: true; the input reads as it did. -/
def sortWorkSpec : ChangeSpec := { name := "sortWork", fn := fun _ => fun
  | [d] => { results := [.lit (.bool true)], args := [d] }
  | _ => none }
def sortWorkRow : OpenClaim := { program := "ytlhmipjbpbbcbaa", sum := "fb2fcbc670b6c7fed9acf0f152c0f5ac1c9ea3c03febd8eb1d70ef5bd5188da0", func := "gridiron/gridironlaw03.SortWork", spec := "sortWork", unfollowed := true, recurses := true, apart := false }
def SortWorkSaid : Prop := sortWorkRow.holds Try.pinned (OpenSpec.ofChange sortWorkSpec)

/-- ITS FALSE NEIGHBOUR: 'it returns false'. Refute it at one input. -/
def sortWorkWrong : ChangeSpec := { name := "sortWork", fn := fun _ => fun
  | [d] => { results := [.lit (.bool false)], args := [d] }
  | _ => none }
def SortWorkWrongFalsely : Prop := sortWorkRow.holds Try.pinned (OpenSpec.ofChange sortWorkWrong)

/-- 'gridironlaw03.SortOnce': WHATEVER THE INPUT: true; the input reads as it did. -/
def sortOnceSpec : ChangeSpec := { name := "sortOnce", fn := fun _ => fun
  | [d] => { results := [.lit (.bool true)], args := [d] }
  | _ => none }
def sortOnceRow : OpenClaim := { program := "ytlhmipjbpbbcbaa", sum := "fb2fcbc670b6c7fed9acf0f152c0f5ac1c9ea3c03febd8eb1d70ef5bd5188da0", func := "gridiron/gridironlaw03.SortOnce", spec := "sortOnce", unfollowed := true, recurses := true, apart := false }
def SortOnceSaid : Prop := sortOnceRow.holds Try.pinned (OpenSpec.ofChange sortOnceSpec)

/-- ITS FALSE NEIGHBOUR: 'it returns false'. Refute it at one input. -/
def sortOnceWrong : ChangeSpec := { name := "sortOnce", fn := fun _ => fun
  | [d] => { results := [.lit (.bool false)], args := [d] }
  | _ => none }
def SortOnceWrongFalsely : Prop := sortOnceRow.holds Try.pinned (OpenSpec.ofChange sortOnceWrong)

/-- 'gridironlaw03.SortOwn': WHATEVER THE INPUT: true; the input reads as it did. -/
def sortOwnSpec : ChangeSpec := { name := "sortOwn", fn := fun _ => fun
  | [d1, d2] => { results := [.lit (.bool true)], args := [d1, d2] }
  | _ => none }
def sortOwnRow : OpenClaim := { program := "ytlhmipjbpbbcbaa", sum := "fb2fcbc670b6c7fed9acf0f152c0f5ac1c9ea3c03febd8eb1d70ef5bd5188da0", func := "gridiron/gridironlaw03.SortOwn", spec := "sortOwn", unfollowed := true, recurses := true, apart := false }
def SortOwnSaid : Prop := sortOwnRow.holds Try.pinned (OpenSpec.ofChange sortOwnSpec)

/-- ITS FALSE NEIGHBOUR: 'it returns false'. Refute it at one input. -/
def sortOwnWrong : ChangeSpec := { name := "sortOwn", fn := fun _ => fun
  | [d1, d2] => { results := [.lit (.bool false)], args := [d1, d2] }
  | _ => none }
def SortOwnWrongFalsely : Prop := sortOwnRow.holds Try.pinned (OpenSpec.ofChange sortOwnWrong)

/- THE SECOND FORM. 'bulk': how many values and letters a reading holds, each counted each time it is reached (what is shared counts as often as it is met; a slice's spare places count too). A statement '..UptoSaid' is the law's where the arguments, and the package variables that the reading takes, are together of bulk at most 1048576: NARROWER than '..Said'. Prove '..Said' where nothing that the law and all that it calls make is longer than what came in: it says more and counts as full. Else prove '..UptoSaid'. A law counts once. -/
mutual
def uptoBulk {H : Type} : DataW H → Nat
  | .lit (.string bytes) => bytes.length + 1
  | .lit _ => 1
  | .nil => 1
  | .ptr d => uptoBulk d + 1
  | .slice elems spare => uptoBulkAll elems + uptoBulkAll spare + 1
  | .agg parts => uptoBulkAll parts + 1
  | .iface _ d => uptoBulk d + 1
  | .map entries => uptoBulkEntries entries + 1
  | .held _ => 1
def uptoBulkAll {H : Type} : List (DataW H) → Nat
  | [] => 0
  | d :: r => uptoBulk d + uptoBulkAll r
def uptoBulkEntries {H : Type} : List (Lit × DataW H) → Nat
  | [] => 0
  | x :: r => uptoBulkEntry x + uptoBulkEntries r
def uptoBulkEntry {H : Type} : Lit × DataW H → Nat
  | (.string bytes, d) => bytes.length + uptoBulk d + 1
  | (_, d) => uptoBulk d + 1
 end
def uptoSmall : (H : Type) → List (DataW H) → Bool := fun _ ds => decide (uptoBulkAll ds ≤ 1048576)
def OpenSpec.upto (s : _root_.Go.ChangeSpec) : _root_.Go.OpenSpec := { _root_.Go.OpenSpec.ofChange s with cond := some uptoSmall }

/-- 'gridironlaw04.RankTells', WHERE WHAT IT READS IS OF BULK AT MOST 1048576: true; the input reads as it did. -/
def rankTellsUptoRow : OpenClaim := { program := "ytlhmipjbpbbcbaa", sum := "fb2fcbc670b6c7fed9acf0f152c0f5ac1c9ea3c03febd8eb1d70ef5bd5188da0", func := "gridiron/gridironlaw04.RankTells", spec := "rankTells", unfollowed := true, recurses := true, apart := false, narrowed := true }
def RankTellsUptoSaid : Prop := rankTellsUptoRow.holds Try.pinned (OpenSpec.upto rankTellsSpec)

/-- 'gridironlaw04.RankSplits', WHERE WHAT IT READS IS OF BULK AT MOST 1048576: true; the input reads as it did. -/
def rankSplitsUptoRow : OpenClaim := { program := "ytlhmipjbpbbcbaa", sum := "fb2fcbc670b6c7fed9acf0f152c0f5ac1c9ea3c03febd8eb1d70ef5bd5188da0", func := "gridiron/gridironlaw04.RankSplits", spec := "rankSplits", unfollowed := true, recurses := true, apart := false, narrowed := true }
def RankSplitsUptoSaid : Prop := rankSplitsUptoRow.holds Try.pinned (OpenSpec.upto rankSplitsSpec)

/-- 'gridironlaw04.RankLooked', WHERE WHAT IT READS IS OF BULK AT MOST 1048576: true; the input reads as it did. -/
def rankLookedUptoRow : OpenClaim := { program := "ytlhmipjbpbbcbaa", sum := "fb2fcbc670b6c7fed9acf0f152c0f5ac1c9ea3c03febd8eb1d70ef5bd5188da0", func := "gridiron/gridironlaw04.RankLooked", spec := "rankLooked", unfollowed := true, recurses := true, apart := false, narrowed := true }
def RankLookedUptoSaid : Prop := rankLookedUptoRow.holds Try.pinned (OpenSpec.upto rankLookedSpec)

/-- 'gridironlaw04.RankSqueeze', WHERE WHAT IT READS IS OF BULK AT MOST 1048576: true; the input reads as it did. -/
def rankSqueezeUptoRow : OpenClaim := { program := "ytlhmipjbpbbcbaa", sum := "fb2fcbc670b6c7fed9acf0f152c0f5ac1c9ea3c03febd8eb1d70ef5bd5188da0", func := "gridiron/gridironlaw04.RankSqueeze", spec := "rankSqueeze", unfollowed := true, recurses := true, apart := false, narrowed := true }
def RankSqueezeUptoSaid : Prop := rankSqueezeUptoRow.holds Try.pinned (OpenSpec.upto rankSqueezeSpec)

/-- 'gridironlaw04.RankLog', WHERE WHAT IT READS IS OF BULK AT MOST 1048576: true; the input reads as it did. -/
def rankLogUptoRow : OpenClaim := { program := "ytlhmipjbpbbcbaa", sum := "fb2fcbc670b6c7fed9acf0f152c0f5ac1c9ea3c03febd8eb1d70ef5bd5188da0", func := "gridiron/gridironlaw04.RankLog", spec := "rankLog", unfollowed := true, recurses := true, apart := false, narrowed := true }
def RankLogUptoSaid : Prop := rankLogUptoRow.holds Try.pinned (OpenSpec.upto rankLogSpec)

/-- 'gridironlaw04.RankOwn', WHERE WHAT IT READS IS OF BULK AT MOST 1048576: true; the input reads as it did. -/
def rankOwnUptoRow : OpenClaim := { program := "ytlhmipjbpbbcbaa", sum := "fb2fcbc670b6c7fed9acf0f152c0f5ac1c9ea3c03febd8eb1d70ef5bd5188da0", func := "gridiron/gridironlaw04.RankOwn", spec := "rankOwn", unfollowed := true, recurses := true, apart := false, narrowed := true }
def RankOwnUptoSaid : Prop := rankOwnUptoRow.holds Try.pinned (OpenSpec.upto rankOwnSpec)

/-- 'gridironlaw03.SortTells', WHERE WHAT IT READS IS OF BULK AT MOST 1048576: true; the input reads as it did. -/
def sortTellsUptoRow : OpenClaim := { program := "ytlhmipjbpbbcbaa", sum := "fb2fcbc670b6c7fed9acf0f152c0f5ac1c9ea3c03febd8eb1d70ef5bd5188da0", func := "gridiron/gridironlaw03.SortTells", spec := "sortTells", unfollowed := true, recurses := true, apart := false, narrowed := true }
def SortTellsUptoSaid : Prop := sortTellsUptoRow.holds Try.pinned (OpenSpec.upto sortTellsSpec)

/-- 'gridironlaw03.SortRises', WHERE WHAT IT READS IS OF BULK AT MOST 1048576: true; the input reads as it did. -/
def sortRisesUptoRow : OpenClaim := { program := "ytlhmipjbpbbcbaa", sum := "fb2fcbc670b6c7fed9acf0f152c0f5ac1c9ea3c03febd8eb1d70ef5bd5188da0", func := "gridiron/gridironlaw03.SortRises", spec := "sortRises", unfollowed := true, recurses := true, apart := false, narrowed := true }
def SortRisesUptoSaid : Prop := sortRisesUptoRow.holds Try.pinned (OpenSpec.upto sortRisesSpec)

/-- 'gridironlaw03.SortMerges', WHERE WHAT IT READS IS OF BULK AT MOST 1048576: true; the input reads as it did. -/
def sortMergesUptoRow : OpenClaim := { program := "ytlhmipjbpbbcbaa", sum := "fb2fcbc670b6c7fed9acf0f152c0f5ac1c9ea3c03febd8eb1d70ef5bd5188da0", func := "gridiron/gridironlaw03.SortMerges", spec := "sortMerges", unfollowed := true, recurses := true, apart := false, narrowed := true }
def SortMergesUptoSaid : Prop := sortMergesUptoRow.holds Try.pinned (OpenSpec.upto sortMergesSpec)

/-- 'gridironlaw03.SortWork', WHERE WHAT IT READS IS OF BULK AT MOST 1048576: true; the input reads as it did. -/
def sortWorkUptoRow : OpenClaim := { program := "ytlhmipjbpbbcbaa", sum := "fb2fcbc670b6c7fed9acf0f152c0f5ac1c9ea3c03febd8eb1d70ef5bd5188da0", func := "gridiron/gridironlaw03.SortWork", spec := "sortWork", unfollowed := true, recurses := true, apart := false, narrowed := true }
def SortWorkUptoSaid : Prop := sortWorkUptoRow.holds Try.pinned (OpenSpec.upto sortWorkSpec)

/-- 'gridironlaw03.SortOnce', WHERE WHAT IT READS IS OF BULK AT MOST 1048576: true; the input reads as it did. -/
def sortOnceUptoRow : OpenClaim := { program := "ytlhmipjbpbbcbaa", sum := "fb2fcbc670b6c7fed9acf0f152c0f5ac1c9ea3c03febd8eb1d70ef5bd5188da0", func := "gridiron/gridironlaw03.SortOnce", spec := "sortOnce", unfollowed := true, recurses := true, apart := false, narrowed := true }
def SortOnceUptoSaid : Prop := sortOnceUptoRow.holds Try.pinned (OpenSpec.upto sortOnceSpec)

/-- 'gridironlaw03.SortOwn', WHERE WHAT IT READS IS OF BULK AT MOST 1048576: true; the input reads as it did. -/
def sortOwnUptoRow : OpenClaim := { program := "ytlhmipjbpbbcbaa", sum := "fb2fcbc670b6c7fed9acf0f152c0f5ac1c9ea3c03febd8eb1d70ef5bd5188da0", func := "gridiron/gridironlaw03.SortOwn", spec := "sortOwn", unfollowed := true, recurses := true, apart := false, narrowed := true }
def SortOwnUptoSaid : Prop := sortOwnUptoRow.holds Try.pinned (OpenSpec.upto sortOwnSpec)

end Rows
end Go.Proofs.Ytlhmipjbpbbcbaa
