/-
  No cell of these rows narrows 'for every input' (looked for: loops, veiled, ifaces, maps, wideKeys, modest, calm, conditions, laid).
  DERIVED. THE GIVEN ROWS OF THIS SEAT. 11 by the template 'for every input the law returns true; each argument reads behind the call as it read before'; 0 by the template 'total and deterministic' (their statements: YtpebefcmloablaaTotals.lean).
  GIVEN WITH THE SEED: the statements are not yours to turn. If you find one false, say at which input.
  Laid BY PROGRAM, IN A SANDBOX (cutbox-rows.mjs): the forced cells as the released guide's own fill.sh prints them over the translation 5f3b29eba67b1ac0… (all of the seat's roots in one cut). By AI agents, Wed Nov 11 2026. No macro, syntax, notation, axiom, sorry.
-/
import Derived.Test.YtpebefcmloablaaChecked
import GoSem.Claim
import GoSem.ClaimJoined
import GoSem.ClaimMapViews
import Derived.JoinedTies
import Derived.KernelRfl
namespace Go.Proofs.Ytpebefcmloablaa
/- THE CELL 'sum', in the pinned program and in every row, IS THE sha256 OF THE DUMP (.gsa) THAT YtpebefcmloablaaProg.lean LOADS. Nothing in Lean hashes anything: it is a label: what it is worth is what the hold of that sum in a sandbox is worth. -/
noncomputable def Try.pinned : Pinned := { name := "ytpebefcmloablaa", sum := "5f3b29eba67b1ac0cc8532d02969d15f7eff562618895de9fe767f65c88603e0", checked := Try.checked }
namespace Rows
def none {H : Type} : Left H := { results := [], args := [] }

/-- 'gridironlaw15.StairTells': WHATEVER THE INPUT: true; the input reads as it did. -/
def stairTellsSpec : ChangeSpec := { name := "stairTells", fn := fun _ => fun
  | [d1, d2, d3, d4] => { results := [.lit (.bool true)], args := [d1, d2, d3, d4] }
  | _ => none }
def stairTellsRow : OpenClaim := { program := "ytpebefcmloablaa", sum := "5f3b29eba67b1ac0cc8532d02969d15f7eff562618895de9fe767f65c88603e0", func := "gridiron/gridironlaw15.StairTells", spec := "stairTells", unfollowed := true, recurses := true, plainKeys := false, apart := false }
def StairTellsSaid : Prop := stairTellsRow.holds Try.pinned (OpenSpec.ofChange stairTellsSpec)

/-- ITS FALSE NEIGHBOUR: 'it returns false'. Refute it at one input. -/
def stairTellsWrong : ChangeSpec := { name := "stairTells", fn := fun _ => fun
  | [d1, d2, d3, d4] => { results := [.lit (.bool false)], args := [d1, d2, d3, d4] }
  | _ => none }
def StairTellsWrongFalsely : Prop := stairTellsRow.holds Try.pinned (OpenSpec.ofChange stairTellsWrong)

/-- 'gridironlaw15.StairCovers': WHATEVER THE INPUT: true; the input reads as it did. -/
def stairCoversSpec : ChangeSpec := { name := "stairCovers", fn := fun _ => fun
  | [d] => { results := [.lit (.bool true)], args := [d] }
  | _ => none }
def stairCoversRow : OpenClaim := { program := "ytpebefcmloablaa", sum := "5f3b29eba67b1ac0cc8532d02969d15f7eff562618895de9fe767f65c88603e0", func := "gridiron/gridironlaw15.StairCovers", spec := "stairCovers", unfollowed := true, recurses := true, plainKeys := false, apart := false }
def StairCoversSaid : Prop := stairCoversRow.holds Try.pinned (OpenSpec.ofChange stairCoversSpec)

/-- ITS FALSE NEIGHBOUR: 'it returns false'. Refute it at one input. -/
def stairCoversWrong : ChangeSpec := { name := "stairCovers", fn := fun _ => fun
  | [d] => { results := [.lit (.bool false)], args := [d] }
  | _ => none }
def StairCoversWrongFalsely : Prop := stairCoversRow.holds Try.pinned (OpenSpec.ofChange stairCoversWrong)

/-- 'gridironlaw15.StairMerges': WHATEVER THE INPUT: true; the input reads as it did. -/
def stairMergesSpec : ChangeSpec := { name := "stairMerges", fn := fun _ => fun
  | [d1, d2] => { results := [.lit (.bool true)], args := [d1, d2] }
  | _ => none }
def stairMergesRow : OpenClaim := { program := "ytpebefcmloablaa", sum := "5f3b29eba67b1ac0cc8532d02969d15f7eff562618895de9fe767f65c88603e0", func := "gridiron/gridironlaw15.StairMerges", spec := "stairMerges", unfollowed := true, recurses := true, plainKeys := false, apart := false }
def StairMergesSaid : Prop := stairMergesRow.holds Try.pinned (OpenSpec.ofChange stairMergesSpec)

/-- ITS FALSE NEIGHBOUR: 'it returns false'. Refute it at one input. -/
def stairMergesWrong : ChangeSpec := { name := "stairMerges", fn := fun _ => fun
  | [d1, d2] => { results := [.lit (.bool false)], args := [d1, d2] }
  | _ => none }
def StairMergesWrongFalsely : Prop := stairMergesRow.holds Try.pinned (OpenSpec.ofChange stairMergesWrong)

/-- 'gridironlaw15.StairThree': WHATEVER THE INPUT: true; the input reads as it did. -/
def stairThreeSpec : ChangeSpec := { name := "stairThree", fn := fun _ => fun
  | [d1, d2, d3] => { results := [.lit (.bool true)], args := [d1, d2, d3] }
  | _ => none }
def stairThreeRow : OpenClaim := { program := "ytpebefcmloablaa", sum := "5f3b29eba67b1ac0cc8532d02969d15f7eff562618895de9fe767f65c88603e0", func := "gridiron/gridironlaw15.StairThree", spec := "stairThree", unfollowed := true, recurses := true, plainKeys := false, apart := false }
def StairThreeSaid : Prop := stairThreeRow.holds Try.pinned (OpenSpec.ofChange stairThreeSpec)

/-- ITS FALSE NEIGHBOUR: 'it returns false'. Refute it at one input. -/
def stairThreeWrong : ChangeSpec := { name := "stairThree", fn := fun _ => fun
  | [d1, d2, d3] => { results := [.lit (.bool false)], args := [d1, d2, d3] }
  | _ => none }
def StairThreeWrongFalsely : Prop := stairThreeRow.holds Try.pinned (OpenSpec.ofChange stairThreeWrong)

/-- 'gridironlaw15.StairTurned': WHATEVER THE INPUT: true; the input reads as it did. -/
def stairTurnedSpec : ChangeSpec := { name := "stairTurned", fn := fun _ => fun
  | [d] => { results := [.lit (.bool true)], args := [d] }
  | _ => none }
def stairTurnedRow : OpenClaim := { program := "ytpebefcmloablaa", sum := "5f3b29eba67b1ac0cc8532d02969d15f7eff562618895de9fe767f65c88603e0", func := "gridiron/gridironlaw15.StairTurned", spec := "stairTurned", unfollowed := true, recurses := true, plainKeys := false, apart := false }
def StairTurnedSaid : Prop := stairTurnedRow.holds Try.pinned (OpenSpec.ofChange stairTurnedSpec)

/-- ITS FALSE NEIGHBOUR: 'it returns false'. Refute it at one input. -/
def stairTurnedWrong : ChangeSpec := { name := "stairTurned", fn := fun _ => fun
  | [d] => { results := [.lit (.bool false)], args := [d] }
  | _ => none }
def StairTurnedWrongFalsely : Prop := stairTurnedRow.holds Try.pinned (OpenSpec.ofChange stairTurnedWrong)

/-- 'gridironlaw15.StairBeats': WHATEVER THE INPUT: true; the input reads as it did. -/
def stairBeatsSpec : ChangeSpec := { name := "stairBeats", fn := fun _ => fun
  | [d1, d2, d3] => { results := [.lit (.bool true)], args := [d1, d2, d3] }
  | _ => none }
def stairBeatsRow : OpenClaim := { program := "ytpebefcmloablaa", sum := "5f3b29eba67b1ac0cc8532d02969d15f7eff562618895de9fe767f65c88603e0", func := "gridiron/gridironlaw15.StairBeats", spec := "stairBeats", unfollowed := true, recurses := true, plainKeys := false, apart := false }
def StairBeatsSaid : Prop := stairBeatsRow.holds Try.pinned (OpenSpec.ofChange stairBeatsSpec)

/-- ITS FALSE NEIGHBOUR: 'it returns false'. Refute it at one input. -/
def stairBeatsWrong : ChangeSpec := { name := "stairBeats", fn := fun _ => fun
  | [d1, d2, d3] => { results := [.lit (.bool false)], args := [d1, d2, d3] }
  | _ => none }
def StairBeatsWrongFalsely : Prop := stairBeatsRow.holds Try.pinned (OpenSpec.ofChange stairBeatsWrong)

/-- 'gridironlaw21.NamesTell': WHATEVER THE INPUT: true; the input reads as it did. -/
def namesTellSpec : ChangeSpec := { name := "namesTell", fn := fun _ => fun
  | [d] => { results := [.lit (.bool true)], args := [d] }
  | _ => none }
def namesTellRow : OpenClaim := { program := "ytpebefcmloablaa", sum := "5f3b29eba67b1ac0cc8532d02969d15f7eff562618895de9fe767f65c88603e0", func := "gridiron/gridironlaw21.NamesTell", spec := "namesTell", unfollowed := true, recurses := true, plainKeys := false, apart := false }
def NamesTellSaid : Prop := namesTellRow.holds Try.pinned (OpenSpec.ofChange namesTellSpec)

/-- ITS FALSE NEIGHBOUR: 'it returns false'. Refute it at one input. -/
def namesTellWrong : ChangeSpec := { name := "namesTell", fn := fun _ => fun
  | [d] => { results := [.lit (.bool false)], args := [d] }
  | _ => none }
def NamesTellWrongFalsely : Prop := namesTellRow.holds Try.pinned (OpenSpec.ofChange namesTellWrong)

/-- 'gridironlaw21.NamesOrder': WHATEVER THE INPUT: true; the input reads as it did. -/
def namesOrderSpec : ChangeSpec := { name := "namesOrder", fn := fun _ => fun
  | [d] => { results := [.lit (.bool true)], args := [d] }
  | _ => none }
def namesOrderRow : OpenClaim := { program := "ytpebefcmloablaa", sum := "5f3b29eba67b1ac0cc8532d02969d15f7eff562618895de9fe767f65c88603e0", func := "gridiron/gridironlaw21.NamesOrder", spec := "namesOrder", unfollowed := true, recurses := true, plainKeys := false, apart := false }
def NamesOrderSaid : Prop := namesOrderRow.holds Try.pinned (OpenSpec.ofChange namesOrderSpec)

/-- ITS FALSE NEIGHBOUR: 'it returns false'. Refute it at one input. -/
def namesOrderWrong : ChangeSpec := { name := "namesOrder", fn := fun _ => fun
  | [d] => { results := [.lit (.bool false)], args := [d] }
  | _ => none }
def NamesOrderWrongFalsely : Prop := namesOrderRow.holds Try.pinned (OpenSpec.ofChange namesOrderWrong)

/-- 'gridironlaw21.NamesAgain': WHATEVER THE INPUT: true; the input reads as it did. -/
def namesAgainSpec : ChangeSpec := { name := "namesAgain", fn := fun _ => fun
  | [d1, d2, d3, d4] => { results := [.lit (.bool true)], args := [d1, d2, d3, d4] }
  | _ => none }
def namesAgainRow : OpenClaim := { program := "ytpebefcmloablaa", sum := "5f3b29eba67b1ac0cc8532d02969d15f7eff562618895de9fe767f65c88603e0", func := "gridiron/gridironlaw21.NamesAgain", spec := "namesAgain", unfollowed := true, recurses := true, plainKeys := false, apart := false }
def NamesAgainSaid : Prop := namesAgainRow.holds Try.pinned (OpenSpec.ofChange namesAgainSpec)

/-- ITS FALSE NEIGHBOUR: 'it returns false'. Refute it at one input. -/
def namesAgainWrong : ChangeSpec := { name := "namesAgain", fn := fun _ => fun
  | [d1, d2, d3, d4] => { results := [.lit (.bool false)], args := [d1, d2, d3, d4] }
  | _ => none }
def NamesAgainWrongFalsely : Prop := namesAgainRow.holds Try.pinned (OpenSpec.ofChange namesAgainWrong)

/-- 'gridironlaw21.NamesNone': WHATEVER THE INPUT: true; the input reads as it did. -/
def namesNoneSpec : ChangeSpec := { name := "namesNone", fn := fun _ => fun
  | [d1, d2] => { results := [.lit (.bool true)], args := [d1, d2] }
  | _ => none }
def namesNoneRow : OpenClaim := { program := "ytpebefcmloablaa", sum := "5f3b29eba67b1ac0cc8532d02969d15f7eff562618895de9fe767f65c88603e0", func := "gridiron/gridironlaw21.NamesNone", spec := "namesNone", unfollowed := true, recurses := true, plainKeys := false, apart := false }
def NamesNoneSaid : Prop := namesNoneRow.holds Try.pinned (OpenSpec.ofChange namesNoneSpec)

/-- ITS FALSE NEIGHBOUR: 'it returns false'. Refute it at one input. -/
def namesNoneWrong : ChangeSpec := { name := "namesNone", fn := fun _ => fun
  | [d1, d2] => { results := [.lit (.bool false)], args := [d1, d2] }
  | _ => none }
def NamesNoneWrongFalsely : Prop := namesNoneRow.holds Try.pinned (OpenSpec.ofChange namesNoneWrong)

/-- 'gridironlaw21.NamesBound': WHATEVER THE INPUT: true; the input reads as it did. -/
def namesBoundSpec : ChangeSpec := { name := "namesBound", fn := fun _ => fun
  | [d1, d2] => { results := [.lit (.bool true)], args := [d1, d2] }
  | _ => none }
def namesBoundRow : OpenClaim := { program := "ytpebefcmloablaa", sum := "5f3b29eba67b1ac0cc8532d02969d15f7eff562618895de9fe767f65c88603e0", func := "gridiron/gridironlaw21.NamesBound", spec := "namesBound", unfollowed := true, recurses := true, plainKeys := false, apart := false }
def NamesBoundSaid : Prop := namesBoundRow.holds Try.pinned (OpenSpec.ofChange namesBoundSpec)

/-- ITS FALSE NEIGHBOUR: 'it returns false'. Refute it at one input. -/
def namesBoundWrong : ChangeSpec := { name := "namesBound", fn := fun _ => fun
  | [d1, d2] => { results := [.lit (.bool false)], args := [d1, d2] }
  | _ => none }
def NamesBoundWrongFalsely : Prop := namesBoundRow.holds Try.pinned (OpenSpec.ofChange namesBoundWrong)

/- THE SECOND FORM. 'bulk': how many values and letters a reading holds, each counted each time it is reached (what is shared counts as often as it is met; a slice's spare places count too). A statement '..UptoSaid' is the law's where the arguments, and the package variables that the reading takes, are together of bulk at most 1048576: NARROWER than '..Said'. Prove '..Said' where nothing that the law and all that it calls make is longer than what came in: it says more and counts as full. Else prove '..UptoSaid'. A law counts once. -/
mutual
def uptoBulk {H : Type} : DataW H → Nat
  | .lit (.string bytes) => bytes.length + 1
  | .lit _ => 1
  | .nil => 1
  | .ptr d => uptoBulk d + 1
  | .slice elems spare => uptoBulkAll elems + uptoBulkAll spare + 1
  | .agg parts => uptoBulkAll parts + 1
  | .iface _ d => uptoBulk d + 1
  | .map entries => uptoBulkEntries entries + 1
  | .held _ => 1
def uptoBulkAll {H : Type} : List (DataW H) → Nat
  | [] => 0
  | d :: r => uptoBulk d + uptoBulkAll r
def uptoBulkEntries {H : Type} : List (Lit × DataW H) → Nat
  | [] => 0
  | x :: r => uptoBulkEntry x + uptoBulkEntries r
def uptoBulkEntry {H : Type} : Lit × DataW H → Nat
  | (.string bytes, d) => bytes.length + uptoBulk d + 1
  | (_, d) => uptoBulk d + 1
 end
def uptoSmall : (H : Type) → List (DataW H) → Bool := fun _ ds => decide (uptoBulkAll ds ≤ 1048576)
def OpenSpec.upto (s : _root_.Go.ChangeSpec) : _root_.Go.OpenSpec := { _root_.Go.OpenSpec.ofChange s with cond := some uptoSmall }

/-- 'gridironlaw15.StairTells', WHERE WHAT IT READS IS OF BULK AT MOST 1048576: true; the input reads as it did. -/
def stairTellsUptoRow : OpenClaim := { program := "ytpebefcmloablaa", sum := "5f3b29eba67b1ac0cc8532d02969d15f7eff562618895de9fe767f65c88603e0", func := "gridiron/gridironlaw15.StairTells", spec := "stairTells", unfollowed := true, recurses := true, plainKeys := false, apart := false, narrowed := true }
def StairTellsUptoSaid : Prop := stairTellsUptoRow.holds Try.pinned (OpenSpec.upto stairTellsSpec)

/-- 'gridironlaw15.StairCovers', WHERE WHAT IT READS IS OF BULK AT MOST 1048576: true; the input reads as it did. -/
def stairCoversUptoRow : OpenClaim := { program := "ytpebefcmloablaa", sum := "5f3b29eba67b1ac0cc8532d02969d15f7eff562618895de9fe767f65c88603e0", func := "gridiron/gridironlaw15.StairCovers", spec := "stairCovers", unfollowed := true, recurses := true, plainKeys := false, apart := false, narrowed := true }
def StairCoversUptoSaid : Prop := stairCoversUptoRow.holds Try.pinned (OpenSpec.upto stairCoversSpec)

/-- 'gridironlaw15.StairMerges', WHERE WHAT IT READS IS OF BULK AT MOST 1048576: true; the input reads as it did. -/
def stairMergesUptoRow : OpenClaim := { program := "ytpebefcmloablaa", sum := "5f3b29eba67b1ac0cc8532d02969d15f7eff562618895de9fe767f65c88603e0", func := "gridiron/gridironlaw15.StairMerges", spec := "stairMerges", unfollowed := true, recurses := true, plainKeys := false, apart := false, narrowed := true }
def StairMergesUptoSaid : Prop := stairMergesUptoRow.holds Try.pinned (OpenSpec.upto stairMergesSpec)

/-- 'gridironlaw15.StairThree', WHERE WHAT IT READS IS OF BULK AT MOST 1048576: true; the input reads as it did. -/
def stairThreeUptoRow : OpenClaim := { program := "ytpebefcmloablaa", sum := "5f3b29eba67b1ac0cc8532d02969d15f7eff562618895de9fe767f65c88603e0", func := "gridiron/gridironlaw15.StairThree", spec := "stairThree", unfollowed := true, recurses := true, plainKeys := false, apart := false, narrowed := true }
def StairThreeUptoSaid : Prop := stairThreeUptoRow.holds Try.pinned (OpenSpec.upto stairThreeSpec)

/-- 'gridironlaw15.StairTurned', WHERE WHAT IT READS IS OF BULK AT MOST 1048576: true; the input reads as it did. -/
def stairTurnedUptoRow : OpenClaim := { program := "ytpebefcmloablaa", sum := "5f3b29eba67b1ac0cc8532d02969d15f7eff562618895de9fe767f65c88603e0", func := "gridiron/gridironlaw15.StairTurned", spec := "stairTurned", unfollowed := true, recurses := true, plainKeys := false, apart := false, narrowed := true }
def StairTurnedUptoSaid : Prop := stairTurnedUptoRow.holds Try.pinned (OpenSpec.upto stairTurnedSpec)

/-- 'gridironlaw15.StairBeats', WHERE WHAT IT READS IS OF BULK AT MOST 1048576: true; the input reads as it did. -/
def stairBeatsUptoRow : OpenClaim := { program := "ytpebefcmloablaa", sum := "5f3b29eba67b1ac0cc8532d02969d15f7eff562618895de9fe767f65c88603e0", func := "gridiron/gridironlaw15.StairBeats", spec := "stairBeats", unfollowed := true, recurses := true, plainKeys := false, apart := false, narrowed := true }
def StairBeatsUptoSaid : Prop := stairBeatsUptoRow.holds Try.pinned (OpenSpec.upto stairBeatsSpec)

/-- 'gridironlaw21.NamesTell', WHERE WHAT IT READS IS OF BULK AT MOST 1048576: true; the input reads as it did. -/
def namesTellUptoRow : OpenClaim := { program := "ytpebefcmloablaa", sum := "5f3b29eba67b1ac0cc8532d02969d15f7eff562618895de9fe767f65c88603e0", func := "gridiron/gridironlaw21.NamesTell", spec := "namesTell", unfollowed := true, recurses := true, plainKeys := false, apart := false, narrowed := true }
def NamesTellUptoSaid : Prop := namesTellUptoRow.holds Try.pinned (OpenSpec.upto namesTellSpec)

/-- 'gridironlaw21.NamesOrder', WHERE WHAT IT READS IS OF BULK AT MOST 1048576: true; the input reads as it did. -/
def namesOrderUptoRow : OpenClaim := { program := "ytpebefcmloablaa", sum := "5f3b29eba67b1ac0cc8532d02969d15f7eff562618895de9fe767f65c88603e0", func := "gridiron/gridironlaw21.NamesOrder", spec := "namesOrder", unfollowed := true, recurses := true, plainKeys := false, apart := false, narrowed := true }
def NamesOrderUptoSaid : Prop := namesOrderUptoRow.holds Try.pinned (OpenSpec.upto namesOrderSpec)

/-- 'gridironlaw21.NamesAgain', WHERE WHAT IT READS IS OF BULK AT MOST 1048576: true; the input reads as it did. -/
def namesAgainUptoRow : OpenClaim := { program := "ytpebefcmloablaa", sum := "5f3b29eba67b1ac0cc8532d02969d15f7eff562618895de9fe767f65c88603e0", func := "gridiron/gridironlaw21.NamesAgain", spec := "namesAgain", unfollowed := true, recurses := true, plainKeys := false, apart := false, narrowed := true }
def NamesAgainUptoSaid : Prop := namesAgainUptoRow.holds Try.pinned (OpenSpec.upto namesAgainSpec)

/-- 'gridironlaw21.NamesNone', WHERE WHAT IT READS IS OF BULK AT MOST 1048576: true; the input reads as it did. -/
def namesNoneUptoRow : OpenClaim := { program := "ytpebefcmloablaa", sum := "5f3b29eba67b1ac0cc8532d02969d15f7eff562618895de9fe767f65c88603e0", func := "gridiron/gridironlaw21.NamesNone", spec := "namesNone", unfollowed := true, recurses := true, plainKeys := false, apart := false, narrowed := true }
def NamesNoneUptoSaid : Prop := namesNoneUptoRow.holds Try.pinned (OpenSpec.upto namesNoneSpec)

/-- 'gridironlaw21.NamesBound', WHERE WHAT IT READS IS OF BULK AT MOST 1048576: true; the input reads as it did. -/
def namesBoundUptoRow : OpenClaim := { program := "ytpebefcmloablaa", sum := "5f3b29eba67b1ac0cc8532d02969d15f7eff562618895de9fe767f65c88603e0", func := "gridiron/gridironlaw21.NamesBound", spec := "namesBound", unfollowed := true, recurses := true, plainKeys := false, apart := false, narrowed := true }
def NamesBoundUptoSaid : Prop := namesBoundUptoRow.holds Try.pinned (OpenSpec.upto namesBoundSpec)

end Rows
end Go.Proofs.Ytpebefcmloablaa
