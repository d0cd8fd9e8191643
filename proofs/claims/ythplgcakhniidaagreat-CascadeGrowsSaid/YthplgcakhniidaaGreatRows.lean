/-
  No cell of these rows narrows 'for every input' (looked for: loops, veiled, ifaces, maps, wideKeys, modest, calm, conditions, laid).
  DERIVED. THE GIVEN ROWS OF THIS SEAT. 12 by the template 'for every input the law returns true; each argument reads behind the call as it read before'; 0 by the template 'total and deterministic' (their statements: YthplgcakhniidaaGreatTotals.lean).
  GIVEN WITH THE SEED: the statements are not yours to turn. If you find one false, say at which input.
  Laid BY PROGRAM, IN A SANDBOX (cutbox-rows.mjs): the forced cells as the released guide's own fill.sh prints them over the translation 30a45d8774909afe… (all of the seat's roots in one cut). By AI agents, Wed Nov 11 2026. No macro, syntax, notation, axiom, sorry.
-/
import Derived.Test.YthplgcakhniidaaGreatChecked
import GoSem.Claim
import GoSem.ClaimJoined
import GoSem.ClaimMapViews
import Derived.JoinedTies
import Derived.KernelRfl
namespace Go.Proofs.YthplgcakhniidaaGreat
/- THE CELL 'sum', in the pinned program and in every row, IS THE sha256 OF THE DUMP (.gsa) THAT YthplgcakhniidaaGreatProg.lean LOADS. Nothing in Lean hashes anything: it is a label: what it is worth is what the hold of that sum in a sandbox is worth. -/
noncomputable def Tryz.pinned : Pinned := { name := "ythplgcakhniidaagreat", sum := "30a45d8774909afe1dbb6adf0c21ae7a4b2da3ce9cca0568d67ef9be88ef80aa", checked := Tryz.checked }
namespace Rows
def none {H : Type} : Left H := { results := [], args := [] }

/-- 'gridironlaw15.StairCorner': WHATEVER THE INPUT: true; the input reads as it did. -/
def stairCornerSpec : ChangeSpec := { name := "stairCorner", fn := fun _ => fun
  | [d] => { results := [.lit (.bool true)], args := [d] }
  | _ => none }
def stairCornerRow : OpenClaim := { program := "ythplgcakhniidaagreat", sum := "30a45d8774909afe1dbb6adf0c21ae7a4b2da3ce9cca0568d67ef9be88ef80aa", func := "gridiron/gridironlaw15.StairCorner", spec := "stairCorner", inPlace := ["sync/atomic.LoadUint32", "(*internal/sync.Mutex).Lock", "internal/race.Disable", "sync/atomic.CompareAndSwapInt32", "internal/race.Enable", "internal/race.Acquire", "(*internal/sync.Mutex).lockSlow", "internal/sync.runtime_canSpin", "internal/sync.runtime_doSpin", "internal/sync.throw", "internal/sync.runtime_nanotime", "internal/sync.runtime_SemacquireMutex", "sync/atomic.AddInt32", "(*internal/sync.Mutex).Unlock", "internal/race.ReleaseMerge", "(*internal/sync.Mutex).unlockSlow", "internal/sync.fatal", "internal/sync.runtime_Semrelease", "sync/atomic.StoreUint32"], unfollowed := true, recurses := true, plainKeys := false, apart := false }
def StairCornerSaid : Prop := stairCornerRow.holds Tryz.pinned (OpenSpec.ofChange stairCornerSpec)

/-- ITS FALSE NEIGHBOUR: 'it returns false'. Refute it at one input. -/
def stairCornerWrong : ChangeSpec := { name := "stairCorner", fn := fun _ => fun
  | [d] => { results := [.lit (.bool false)], args := [d] }
  | _ => none }
def StairCornerWrongFalsely : Prop := stairCornerRow.holds Tryz.pinned (OpenSpec.ofChange stairCornerWrong)

/-- 'gridironlaw11.CascadeCorners': WHATEVER THE INPUT: true; the input reads as it did. -/
def cascadeCornersSpec : ChangeSpec := { name := "cascadeCorners", fn := fun _ => fun
  | [d1, d2, d3] => { results := [.lit (.bool true)], args := [d1, d2, d3] }
  | _ => none }
def cascadeCornersRow : OpenClaim := { program := "ythplgcakhniidaagreat", sum := "30a45d8774909afe1dbb6adf0c21ae7a4b2da3ce9cca0568d67ef9be88ef80aa", func := "gridiron/gridironlaw11.CascadeCorners", spec := "cascadeCorners", inPlace := ["sync/atomic.LoadUint32", "(*internal/sync.Mutex).Lock", "internal/race.Disable", "sync/atomic.CompareAndSwapInt32", "internal/race.Enable", "internal/race.Acquire", "(*internal/sync.Mutex).lockSlow", "internal/sync.runtime_canSpin", "internal/sync.runtime_doSpin", "internal/sync.throw", "internal/sync.runtime_nanotime", "internal/sync.runtime_SemacquireMutex", "sync/atomic.AddInt32", "(*internal/sync.Mutex).Unlock", "internal/race.ReleaseMerge", "(*internal/sync.Mutex).unlockSlow", "internal/sync.fatal", "internal/sync.runtime_Semrelease", "sync/atomic.StoreUint32"], unfollowed := true, recurses := true, plainKeys := false, apart := false }
def CascadeCornersSaid : Prop := cascadeCornersRow.holds Tryz.pinned (OpenSpec.ofChange cascadeCornersSpec)

/-- ITS FALSE NEIGHBOUR: 'it returns false'. Refute it at one input. -/
def cascadeCornersWrong : ChangeSpec := { name := "cascadeCorners", fn := fun _ => fun
  | [d1, d2, d3] => { results := [.lit (.bool false)], args := [d1, d2, d3] }
  | _ => none }
def CascadeCornersWrongFalsely : Prop := cascadeCornersRow.holds Tryz.pinned (OpenSpec.ofChange cascadeCornersWrong)

/-- 'gridironlaw11.CascadeGrows': WHATEVER THE INPUT: true; the input reads as it did. -/
def cascadeGrowsSpec : ChangeSpec := { name := "cascadeGrows", fn := fun _ => fun
  | [d1, d2, d3] => { results := [.lit (.bool true)], args := [d1, d2, d3] }
  | _ => none }
def cascadeGrowsRow : OpenClaim := { program := "ythplgcakhniidaagreat", sum := "30a45d8774909afe1dbb6adf0c21ae7a4b2da3ce9cca0568d67ef9be88ef80aa", func := "gridiron/gridironlaw11.CascadeGrows", spec := "cascadeGrows", inPlace := ["sync/atomic.LoadUint32", "(*internal/sync.Mutex).Lock", "internal/race.Disable", "sync/atomic.CompareAndSwapInt32", "internal/race.Enable", "internal/race.Acquire", "(*internal/sync.Mutex).lockSlow", "internal/sync.runtime_canSpin", "internal/sync.runtime_doSpin", "internal/sync.throw", "internal/sync.runtime_nanotime", "internal/sync.runtime_SemacquireMutex", "sync/atomic.AddInt32", "(*internal/sync.Mutex).Unlock", "internal/race.ReleaseMerge", "(*internal/sync.Mutex).unlockSlow", "internal/sync.fatal", "internal/sync.runtime_Semrelease", "sync/atomic.StoreUint32"], unfollowed := true, recurses := true, plainKeys := false, apart := false }
def CascadeGrowsSaid : Prop := cascadeGrowsRow.holds Tryz.pinned (OpenSpec.ofChange cascadeGrowsSpec)

/-- ITS FALSE NEIGHBOUR: 'it returns false'. Refute it at one input. -/
def cascadeGrowsWrong : ChangeSpec := { name := "cascadeGrows", fn := fun _ => fun
  | [d1, d2, d3] => { results := [.lit (.bool false)], args := [d1, d2, d3] }
  | _ => none }
def CascadeGrowsWrongFalsely : Prop := cascadeGrowsRow.holds Tryz.pinned (OpenSpec.ofChange cascadeGrowsWrong)

/-- 'gridironlaw11.CascadeTells': WHATEVER THE INPUT: true; the input reads as it did. -/
def cascadeTellsSpec : ChangeSpec := { name := "cascadeTells", fn := fun _ => fun
  | [d1, d2, d3] => { results := [.lit (.bool true)], args := [d1, d2, d3] }
  | _ => none }
def cascadeTellsRow : OpenClaim := { program := "ythplgcakhniidaagreat", sum := "30a45d8774909afe1dbb6adf0c21ae7a4b2da3ce9cca0568d67ef9be88ef80aa", func := "gridiron/gridironlaw11.CascadeTells", spec := "cascadeTells", inPlace := ["sync/atomic.LoadUint32", "(*internal/sync.Mutex).Lock", "internal/race.Disable", "sync/atomic.CompareAndSwapInt32", "internal/race.Enable", "internal/race.Acquire", "(*internal/sync.Mutex).lockSlow", "internal/sync.runtime_canSpin", "internal/sync.runtime_doSpin", "internal/sync.throw", "internal/sync.runtime_nanotime", "internal/sync.runtime_SemacquireMutex", "sync/atomic.AddInt32", "(*internal/sync.Mutex).Unlock", "internal/race.ReleaseMerge", "(*internal/sync.Mutex).unlockSlow", "internal/sync.fatal", "internal/sync.runtime_Semrelease", "sync/atomic.StoreUint32"], unfollowed := true, recurses := true, plainKeys := false, apart := false }
def CascadeTellsSaid : Prop := cascadeTellsRow.holds Tryz.pinned (OpenSpec.ofChange cascadeTellsSpec)

/-- ITS FALSE NEIGHBOUR: 'it returns false'. Refute it at one input. -/
def cascadeTellsWrong : ChangeSpec := { name := "cascadeTells", fn := fun _ => fun
  | [d1, d2, d3] => { results := [.lit (.bool false)], args := [d1, d2, d3] }
  | _ => none }
def CascadeTellsWrongFalsely : Prop := cascadeTellsRow.holds Tryz.pinned (OpenSpec.ofChange cascadeTellsWrong)

/-- 'gridironlaw11.CascadeBound': WHATEVER THE INPUT: true; the input reads as it did. -/
def cascadeBoundSpec : ChangeSpec := { name := "cascadeBound", fn := fun _ => fun
  | [d1, d2, d3] => { results := [.lit (.bool true)], args := [d1, d2, d3] }
  | _ => none }
def cascadeBoundRow : OpenClaim := { program := "ythplgcakhniidaagreat", sum := "30a45d8774909afe1dbb6adf0c21ae7a4b2da3ce9cca0568d67ef9be88ef80aa", func := "gridiron/gridironlaw11.CascadeBound", spec := "cascadeBound", inPlace := ["sync/atomic.LoadUint32", "(*internal/sync.Mutex).Lock", "internal/race.Disable", "sync/atomic.CompareAndSwapInt32", "internal/race.Enable", "internal/race.Acquire", "(*internal/sync.Mutex).lockSlow", "internal/sync.runtime_canSpin", "internal/sync.runtime_doSpin", "internal/sync.throw", "internal/sync.runtime_nanotime", "internal/sync.runtime_SemacquireMutex", "sync/atomic.AddInt32", "(*internal/sync.Mutex).Unlock", "internal/race.ReleaseMerge", "(*internal/sync.Mutex).unlockSlow", "internal/sync.fatal", "internal/sync.runtime_Semrelease", "sync/atomic.StoreUint32"], unfollowed := true, recurses := true, plainKeys := false, apart := false }
def CascadeBoundSaid : Prop := cascadeBoundRow.holds Tryz.pinned (OpenSpec.ofChange cascadeBoundSpec)

/-- ITS FALSE NEIGHBOUR: 'it returns false'. Refute it at one input. -/
def cascadeBoundWrong : ChangeSpec := { name := "cascadeBound", fn := fun _ => fun
  | [d1, d2, d3] => { results := [.lit (.bool false)], args := [d1, d2, d3] }
  | _ => none }
def CascadeBoundWrongFalsely : Prop := cascadeBoundRow.holds Tryz.pinned (OpenSpec.ofChange cascadeBoundWrong)

/-- 'gridironlaw11.CascadeWeak': WHATEVER THE INPUT: true; the input reads as it did. -/
def cascadeWeakSpec : ChangeSpec := { name := "cascadeWeak", fn := fun _ => fun
  | [d1, d2, d3] => { results := [.lit (.bool true)], args := [d1, d2, d3] }
  | _ => none }
def cascadeWeakRow : OpenClaim := { program := "ythplgcakhniidaagreat", sum := "30a45d8774909afe1dbb6adf0c21ae7a4b2da3ce9cca0568d67ef9be88ef80aa", func := "gridiron/gridironlaw11.CascadeWeak", spec := "cascadeWeak", inPlace := ["sync/atomic.LoadUint32", "(*internal/sync.Mutex).Lock", "internal/race.Disable", "sync/atomic.CompareAndSwapInt32", "internal/race.Enable", "internal/race.Acquire", "(*internal/sync.Mutex).lockSlow", "internal/sync.runtime_canSpin", "internal/sync.runtime_doSpin", "internal/sync.throw", "internal/sync.runtime_nanotime", "internal/sync.runtime_SemacquireMutex", "sync/atomic.AddInt32", "(*internal/sync.Mutex).Unlock", "internal/race.ReleaseMerge", "(*internal/sync.Mutex).unlockSlow", "internal/sync.fatal", "internal/sync.runtime_Semrelease", "sync/atomic.StoreUint32"], unfollowed := true, recurses := true, plainKeys := false, apart := false }
def CascadeWeakSaid : Prop := cascadeWeakRow.holds Tryz.pinned (OpenSpec.ofChange cascadeWeakSpec)

/-- ITS FALSE NEIGHBOUR: 'it returns false'. Refute it at one input. -/
def cascadeWeakWrong : ChangeSpec := { name := "cascadeWeak", fn := fun _ => fun
  | [d1, d2, d3] => { results := [.lit (.bool false)], args := [d1, d2, d3] }
  | _ => none }
def CascadeWeakWrongFalsely : Prop := cascadeWeakRow.holds Tryz.pinned (OpenSpec.ofChange cascadeWeakWrong)

/-- 'gridironlaw12.CornerOver': WHATEVER THE INPUT: true; the input reads as it did. -/
def cornerOverSpec : ChangeSpec := { name := "cornerOver", fn := fun _ => fun
  | [d] => { results := [.lit (.bool true)], args := [d] }
  | _ => none }
def cornerOverRow : OpenClaim := { program := "ythplgcakhniidaagreat", sum := "30a45d8774909afe1dbb6adf0c21ae7a4b2da3ce9cca0568d67ef9be88ef80aa", func := "gridiron/gridironlaw12.CornerOver", spec := "cornerOver", inPlace := ["sync/atomic.LoadUint32", "(*internal/sync.Mutex).Lock", "internal/race.Disable", "sync/atomic.CompareAndSwapInt32", "internal/race.Enable", "internal/race.Acquire", "(*internal/sync.Mutex).lockSlow", "internal/sync.runtime_canSpin", "internal/sync.runtime_doSpin", "internal/sync.throw", "internal/sync.runtime_nanotime", "internal/sync.runtime_SemacquireMutex", "sync/atomic.AddInt32", "(*internal/sync.Mutex).Unlock", "internal/race.ReleaseMerge", "(*internal/sync.Mutex).unlockSlow", "internal/sync.fatal", "internal/sync.runtime_Semrelease", "sync/atomic.StoreUint32"], unfollowed := true, recurses := true, plainKeys := false, apart := false }
def CornerOverSaid : Prop := cornerOverRow.holds Tryz.pinned (OpenSpec.ofChange cornerOverSpec)

/-- ITS FALSE NEIGHBOUR: 'it returns false'. Refute it at one input. -/
def cornerOverWrong : ChangeSpec := { name := "cornerOver", fn := fun _ => fun
  | [d] => { results := [.lit (.bool false)], args := [d] }
  | _ => none }
def CornerOverWrongFalsely : Prop := cornerOverRow.holds Tryz.pinned (OpenSpec.ofChange cornerOverWrong)

/-- 'gridironlaw12.CornerTurned': WHATEVER THE INPUT: true; the input reads as it did. -/
def cornerTurnedSpec : ChangeSpec := { name := "cornerTurned", fn := fun _ => fun
  | [d1, d2, d3, d4] => { results := [.lit (.bool true)], args := [d1, d2, d3, d4] }
  | _ => none }
def cornerTurnedRow : OpenClaim := { program := "ythplgcakhniidaagreat", sum := "30a45d8774909afe1dbb6adf0c21ae7a4b2da3ce9cca0568d67ef9be88ef80aa", func := "gridiron/gridironlaw12.CornerTurned", spec := "cornerTurned", inPlace := ["sync/atomic.LoadUint32", "(*internal/sync.Mutex).Lock", "internal/race.Disable", "sync/atomic.CompareAndSwapInt32", "internal/race.Enable", "internal/race.Acquire", "(*internal/sync.Mutex).lockSlow", "internal/sync.runtime_canSpin", "internal/sync.runtime_doSpin", "internal/sync.throw", "internal/sync.runtime_nanotime", "internal/sync.runtime_SemacquireMutex", "sync/atomic.AddInt32", "(*internal/sync.Mutex).Unlock", "internal/race.ReleaseMerge", "(*internal/sync.Mutex).unlockSlow", "internal/sync.fatal", "internal/sync.runtime_Semrelease", "sync/atomic.StoreUint32"], unfollowed := true, recurses := true, plainKeys := false, apart := false }
def CornerTurnedSaid : Prop := cornerTurnedRow.holds Tryz.pinned (OpenSpec.ofChange cornerTurnedSpec)

/-- ITS FALSE NEIGHBOUR: 'it returns false'. Refute it at one input. -/
def cornerTurnedWrong : ChangeSpec := { name := "cornerTurned", fn := fun _ => fun
  | [d1, d2, d3, d4] => { results := [.lit (.bool false)], args := [d1, d2, d3, d4] }
  | _ => none }
def CornerTurnedWrongFalsely : Prop := cornerTurnedRow.holds Tryz.pinned (OpenSpec.ofChange cornerTurnedWrong)

/-- 'gridironlaw12.CornerGrows': WHATEVER THE INPUT: true; the input reads as it did. -/
def cornerGrowsSpec : ChangeSpec := { name := "cornerGrows", fn := fun _ => fun
  | [d1, d2, d3, d4] => { results := [.lit (.bool true)], args := [d1, d2, d3, d4] }
  | _ => none }
def cornerGrowsRow : OpenClaim := { program := "ythplgcakhniidaagreat", sum := "30a45d8774909afe1dbb6adf0c21ae7a4b2da3ce9cca0568d67ef9be88ef80aa", func := "gridiron/gridironlaw12.CornerGrows", spec := "cornerGrows", inPlace := ["sync/atomic.LoadUint32", "(*internal/sync.Mutex).Lock", "internal/race.Disable", "sync/atomic.CompareAndSwapInt32", "internal/race.Enable", "internal/race.Acquire", "(*internal/sync.Mutex).lockSlow", "internal/sync.runtime_canSpin", "internal/sync.runtime_doSpin", "internal/sync.throw", "internal/sync.runtime_nanotime", "internal/sync.runtime_SemacquireMutex", "sync/atomic.AddInt32", "(*internal/sync.Mutex).Unlock", "internal/race.ReleaseMerge", "(*internal/sync.Mutex).unlockSlow", "internal/sync.fatal", "internal/sync.runtime_Semrelease", "sync/atomic.StoreUint32"], unfollowed := true, recurses := true, plainKeys := false, apart := false }
def CornerGrowsSaid : Prop := cornerGrowsRow.holds Tryz.pinned (OpenSpec.ofChange cornerGrowsSpec)

/-- ITS FALSE NEIGHBOUR: 'it returns false'. Refute it at one input. -/
def cornerGrowsWrong : ChangeSpec := { name := "cornerGrows", fn := fun _ => fun
  | [d1, d2, d3, d4] => { results := [.lit (.bool false)], args := [d1, d2, d3, d4] }
  | _ => none }
def CornerGrowsWrongFalsely : Prop := cornerGrowsRow.holds Tryz.pinned (OpenSpec.ofChange cornerGrowsWrong)

/-- 'gridironlaw12.CornerFour': WHATEVER THE INPUT: true; the input reads as it did. -/
def cornerFourSpec : ChangeSpec := { name := "cornerFour", fn := fun _ => fun
  | [d1, d2, d3] => { results := [.lit (.bool true)], args := [d1, d2, d3] }
  | _ => none }
def cornerFourRow : OpenClaim := { program := "ythplgcakhniidaagreat", sum := "30a45d8774909afe1dbb6adf0c21ae7a4b2da3ce9cca0568d67ef9be88ef80aa", func := "gridiron/gridironlaw12.CornerFour", spec := "cornerFour", inPlace := ["sync/atomic.LoadUint32", "(*internal/sync.Mutex).Lock", "internal/race.Disable", "sync/atomic.CompareAndSwapInt32", "internal/race.Enable", "internal/race.Acquire", "(*internal/sync.Mutex).lockSlow", "internal/sync.runtime_canSpin", "internal/sync.runtime_doSpin", "internal/sync.throw", "internal/sync.runtime_nanotime", "internal/sync.runtime_SemacquireMutex", "sync/atomic.AddInt32", "(*internal/sync.Mutex).Unlock", "internal/race.ReleaseMerge", "(*internal/sync.Mutex).unlockSlow", "internal/sync.fatal", "internal/sync.runtime_Semrelease", "sync/atomic.StoreUint32"], unfollowed := true, recurses := true, plainKeys := false, apart := false }
def CornerFourSaid : Prop := cornerFourRow.holds Tryz.pinned (OpenSpec.ofChange cornerFourSpec)

/-- ITS FALSE NEIGHBOUR: 'it returns false'. Refute it at one input. -/
def cornerFourWrong : ChangeSpec := { name := "cornerFour", fn := fun _ => fun
  | [d1, d2, d3] => { results := [.lit (.bool false)], args := [d1, d2, d3] }
  | _ => none }
def CornerFourWrongFalsely : Prop := cornerFourRow.holds Tryz.pinned (OpenSpec.ofChange cornerFourWrong)

/-- 'gridironlaw12.CornerBound': WHATEVER THE INPUT: true; the input reads as it did. -/
def cornerBoundSpec : ChangeSpec := { name := "cornerBound", fn := fun _ => fun
  | [d1, d2, d3, d4] => { results := [.lit (.bool true)], args := [d1, d2, d3, d4] }
  | _ => none }
def cornerBoundRow : OpenClaim := { program := "ythplgcakhniidaagreat", sum := "30a45d8774909afe1dbb6adf0c21ae7a4b2da3ce9cca0568d67ef9be88ef80aa", func := "gridiron/gridironlaw12.CornerBound", spec := "cornerBound", inPlace := ["sync/atomic.LoadUint32", "(*internal/sync.Mutex).Lock", "internal/race.Disable", "sync/atomic.CompareAndSwapInt32", "internal/race.Enable", "internal/race.Acquire", "(*internal/sync.Mutex).lockSlow", "internal/sync.runtime_canSpin", "internal/sync.runtime_doSpin", "internal/sync.throw", "internal/sync.runtime_nanotime", "internal/sync.runtime_SemacquireMutex", "sync/atomic.AddInt32", "(*internal/sync.Mutex).Unlock", "internal/race.ReleaseMerge", "(*internal/sync.Mutex).unlockSlow", "internal/sync.fatal", "internal/sync.runtime_Semrelease", "sync/atomic.StoreUint32"], unfollowed := true, recurses := true, plainKeys := false, apart := false }
def CornerBoundSaid : Prop := cornerBoundRow.holds Tryz.pinned (OpenSpec.ofChange cornerBoundSpec)

/-- ITS FALSE NEIGHBOUR: 'it returns false'. Refute it at one input. -/
def cornerBoundWrong : ChangeSpec := { name := "cornerBound", fn := fun _ => fun
  | [d1, d2, d3, d4] => { results := [.lit (.bool false)], args := [d1, d2, d3, d4] }
  | _ => none }
def CornerBoundWrongFalsely : Prop := cornerBoundRow.holds Tryz.pinned (OpenSpec.ofChange cornerBoundWrong)

/-- 'gridironlaw12.CornerTells': WHATEVER THE INPUT: true; the input reads as it did. -/
def cornerTellsSpec : ChangeSpec := { name := "cornerTells", fn := fun _ => fun
  | [d1, d2, d3, d4] => { results := [.lit (.bool true)], args := [d1, d2, d3, d4] }
  | _ => none }
def cornerTellsRow : OpenClaim := { program := "ythplgcakhniidaagreat", sum := "30a45d8774909afe1dbb6adf0c21ae7a4b2da3ce9cca0568d67ef9be88ef80aa", func := "gridiron/gridironlaw12.CornerTells", spec := "cornerTells", inPlace := ["sync/atomic.LoadUint32", "(*internal/sync.Mutex).Lock", "internal/race.Disable", "sync/atomic.CompareAndSwapInt32", "internal/race.Enable", "internal/race.Acquire", "(*internal/sync.Mutex).lockSlow", "internal/sync.runtime_canSpin", "internal/sync.runtime_doSpin", "internal/sync.throw", "internal/sync.runtime_nanotime", "internal/sync.runtime_SemacquireMutex", "sync/atomic.AddInt32", "(*internal/sync.Mutex).Unlock", "internal/race.ReleaseMerge", "(*internal/sync.Mutex).unlockSlow", "internal/sync.fatal", "internal/sync.runtime_Semrelease", "sync/atomic.StoreUint32"], unfollowed := true, recurses := true, plainKeys := false, apart := false }
def CornerTellsSaid : Prop := cornerTellsRow.holds Tryz.pinned (OpenSpec.ofChange cornerTellsSpec)

/-- ITS FALSE NEIGHBOUR: 'it returns false'. Refute it at one input. -/
def cornerTellsWrong : ChangeSpec := { name := "cornerTells", fn := fun _ => fun
  | [d1, d2, d3, d4] => { results := [.lit (.bool false)], args := [d1, d2, d3, d4] }
  | _ => none }
def CornerTellsWrongFalsely : Prop := cornerTellsRow.holds Tryz.pinned (OpenSpec.ofChange cornerTellsWrong)

/- THE SECOND FORM. 'bulk': how many values and letters a reading holds, each counted each time it is reached (what is shared counts as often as it is met; a slice's spare places count too). A statement '..UptoSaid' is the law's where the arguments, and the package variables that the reading takes, are together of bulk at most 1048576: NARROWER than '..Said'. Prove '..Said' where nothing that the law and all that it calls make is longer than what came in: it says more and counts as full. Else prove '..UptoSaid'. A law counts once. -/
mutual
def uptoBulk {H : Type} : DataW H → Nat
  | .lit (.string bytes) => bytes.length + 1
  | .lit _ => 1
  | .nil => 1
  | .ptr d => uptoBulk d + 1
  | .slice elems spare => uptoBulkAll elems + uptoBulkAll spare + 1
  | .agg parts => uptoBulkAll parts + 1
  | .iface _ d => uptoBulk d + 1
  | .map entries => uptoBulkEntries entries + 1
  | .held _ => 1
def uptoBulkAll {H : Type} : List (DataW H) → Nat
  | [] => 0
  | d :: r => uptoBulk d + uptoBulkAll r
def uptoBulkEntries {H : Type} : List (Lit × DataW H) → Nat
  | [] => 0
  | x :: r => uptoBulkEntry x + uptoBulkEntries r
def uptoBulkEntry {H : Type} : Lit × DataW H → Nat
  | (.string bytes, d) => bytes.length + uptoBulk d + 1
  | (_, d) => uptoBulk d + 1
 end
def uptoSmall : (H : Type) → List (DataW H) → Bool := fun _ ds => decide (uptoBulkAll ds ≤ 1048576)
def OpenSpec.upto (s : _root_.Go.ChangeSpec) : _root_.Go.OpenSpec := { _root_.Go.OpenSpec.ofChange s with cond := some uptoSmall }

/-- 'gridironlaw15.StairCorner', WHERE WHAT IT READS IS OF BULK AT MOST 1048576: true; the input reads as it did. -/
def stairCornerUptoRow : OpenClaim := { program := "ythplgcakhniidaagreat", sum := "30a45d8774909afe1dbb6adf0c21ae7a4b2da3ce9cca0568d67ef9be88ef80aa", func := "gridiron/gridironlaw15.StairCorner", spec := "stairCorner", inPlace := ["sync/atomic.LoadUint32", "(*internal/sync.Mutex).Lock", "internal/race.Disable", "sync/atomic.CompareAndSwapInt32", "internal/race.Enable", "internal/race.Acquire", "(*internal/sync.Mutex).lockSlow", "internal/sync.runtime_canSpin", "internal/sync.runtime_doSpin", "internal/sync.throw", "internal/sync.runtime_nanotime", "internal/sync.runtime_SemacquireMutex", "sync/atomic.AddInt32", "(*internal/sync.Mutex).Unlock", "internal/race.ReleaseMerge", "(*internal/sync.Mutex).unlockSlow", "internal/sync.fatal", "internal/sync.runtime_Semrelease", "sync/atomic.StoreUint32"], unfollowed := true, recurses := true, plainKeys := false, apart := false, narrowed := true }
def StairCornerUptoSaid : Prop := stairCornerUptoRow.holds Tryz.pinned (OpenSpec.upto stairCornerSpec)

/-- 'gridironlaw11.CascadeCorners', WHERE WHAT IT READS IS OF BULK AT MOST 1048576: true; the input reads as it did. -/
def cascadeCornersUptoRow : OpenClaim := { program := "ythplgcakhniidaagreat", sum := "30a45d8774909afe1dbb6adf0c21ae7a4b2da3ce9cca0568d67ef9be88ef80aa", func := "gridiron/gridironlaw11.CascadeCorners", spec := "cascadeCorners", inPlace := ["sync/atomic.LoadUint32", "(*internal/sync.Mutex).Lock", "internal/race.Disable", "sync/atomic.CompareAndSwapInt32", "internal/race.Enable", "internal/race.Acquire", "(*internal/sync.Mutex).lockSlow", "internal/sync.runtime_canSpin", "internal/sync.runtime_doSpin", "internal/sync.throw", "internal/sync.runtime_nanotime", "internal/sync.runtime_SemacquireMutex", "sync/atomic.AddInt32", "(*internal/sync.Mutex).Unlock", "internal/race.ReleaseMerge", "(*internal/sync.Mutex).unlockSlow", "internal/sync.fatal", "internal/sync.runtime_Semrelease", "sync/atomic.StoreUint32"], unfollowed := true, recurses := true, plainKeys := false, apart := false, narrowed := true }
def CascadeCornersUptoSaid : Prop := cascadeCornersUptoRow.holds Tryz.pinned (OpenSpec.upto cascadeCornersSpec)

/-- 'gridironlaw11.CascadeGrows', WHERE WHAT IT READS IS OF BULK AT MOST 1048576: true; the input reads as it did. -/
def cascadeGrowsUptoRow : OpenClaim := { program := "ythplgcakhniidaagreat", sum := "30a45d8774909afe1dbb6adf0c21ae7a4b2da3ce9cca0568d67ef9be88ef80aa", func := "gridiron/gridironlaw11.CascadeGrows", spec := "cascadeGrows", inPlace := ["sync/atomic.LoadUint32", "(*internal/sync.Mutex).Lock", "internal/race.Disable", "sync/atomic.CompareAndSwapInt32", "internal/race.Enable", "internal/race.Acquire", "(*internal/sync.Mutex).lockSlow", "internal/sync.runtime_canSpin", "internal/sync.runtime_doSpin", "internal/sync.throw", "internal/sync.runtime_nanotime", "internal/sync.runtime_SemacquireMutex", "sync/atomic.AddInt32", "(*internal/sync.Mutex).Unlock", "internal/race.ReleaseMerge", "(*internal/sync.Mutex).unlockSlow", "internal/sync.fatal", "internal/sync.runtime_Semrelease", "sync/atomic.StoreUint32"], unfollowed := true, recurses := true, plainKeys := false, apart := false, narrowed := true }
def CascadeGrowsUptoSaid : Prop := cascadeGrowsUptoRow.holds Tryz.pinned (OpenSpec.upto cascadeGrowsSpec)

/-- 'gridironlaw11.CascadeTells', WHERE WHAT IT READS IS OF BULK AT MOST 1048576: true; the input reads as it did. -/
def cascadeTellsUptoRow : OpenClaim := { program := "ythplgcakhniidaagreat", sum := "30a45d8774909afe1dbb6adf0c21ae7a4b2da3ce9cca0568d67ef9be88ef80aa", func := "gridiron/gridironlaw11.CascadeTells", spec := "cascadeTells", inPlace := ["sync/atomic.LoadUint32", "(*internal/sync.Mutex).Lock", "internal/race.Disable", "sync/atomic.CompareAndSwapInt32", "internal/race.Enable", "internal/race.Acquire", "(*internal/sync.Mutex).lockSlow", "internal/sync.runtime_canSpin", "internal/sync.runtime_doSpin", "internal/sync.throw", "internal/sync.runtime_nanotime", "internal/sync.runtime_SemacquireMutex", "sync/atomic.AddInt32", "(*internal/sync.Mutex).Unlock", "internal/race.ReleaseMerge", "(*internal/sync.Mutex).unlockSlow", "internal/sync.fatal", "internal/sync.runtime_Semrelease", "sync/atomic.StoreUint32"], unfollowed := true, recurses := true, plainKeys := false, apart := false, narrowed := true }
def CascadeTellsUptoSaid : Prop := cascadeTellsUptoRow.holds Tryz.pinned (OpenSpec.upto cascadeTellsSpec)

/-- 'gridironlaw11.CascadeBound', WHERE WHAT IT READS IS OF BULK AT MOST 1048576: true; the input reads as it did. -/
def cascadeBoundUptoRow : OpenClaim := { program := "ythplgcakhniidaagreat", sum := "30a45d8774909afe1dbb6adf0c21ae7a4b2da3ce9cca0568d67ef9be88ef80aa", func := "gridiron/gridironlaw11.CascadeBound", spec := "cascadeBound", inPlace := ["sync/atomic.LoadUint32", "(*internal/sync.Mutex).Lock", "internal/race.Disable", "sync/atomic.CompareAndSwapInt32", "internal/race.Enable", "internal/race.Acquire", "(*internal/sync.Mutex).lockSlow", "internal/sync.runtime_canSpin", "internal/sync.runtime_doSpin", "internal/sync.throw", "internal/sync.runtime_nanotime", "internal/sync.runtime_SemacquireMutex", "sync/atomic.AddInt32", "(*internal/sync.Mutex).Unlock", "internal/race.ReleaseMerge", "(*internal/sync.Mutex).unlockSlow", "internal/sync.fatal", "internal/sync.runtime_Semrelease", "sync/atomic.StoreUint32"], unfollowed := true, recurses := true, plainKeys := false, apart := false, narrowed := true }
def CascadeBoundUptoSaid : Prop := cascadeBoundUptoRow.holds Tryz.pinned (OpenSpec.upto cascadeBoundSpec)

/-- 'gridironlaw11.CascadeWeak', WHERE WHAT IT READS IS OF BULK AT MOST 1048576: true; the input reads as it did. -/
def cascadeWeakUptoRow : OpenClaim := { program := "ythplgcakhniidaagreat", sum := "30a45d8774909afe1dbb6adf0c21ae7a4b2da3ce9cca0568d67ef9be88ef80aa", func := "gridiron/gridironlaw11.CascadeWeak", spec := "cascadeWeak", inPlace := ["sync/atomic.LoadUint32", "(*internal/sync.Mutex).Lock", "internal/race.Disable", "sync/atomic.CompareAndSwapInt32", "internal/race.Enable", "internal/race.Acquire", "(*internal/sync.Mutex).lockSlow", "internal/sync.runtime_canSpin", "internal/sync.runtime_doSpin", "internal/sync.throw", "internal/sync.runtime_nanotime", "internal/sync.runtime_SemacquireMutex", "sync/atomic.AddInt32", "(*internal/sync.Mutex).Unlock", "internal/race.ReleaseMerge", "(*internal/sync.Mutex).unlockSlow", "internal/sync.fatal", "internal/sync.runtime_Semrelease", "sync/atomic.StoreUint32"], unfollowed := true, recurses := true, plainKeys := false, apart := false, narrowed := true }
def CascadeWeakUptoSaid : Prop := cascadeWeakUptoRow.holds Tryz.pinned (OpenSpec.upto cascadeWeakSpec)

/-- 'gridironlaw12.CornerOver', WHERE WHAT IT READS IS OF BULK AT MOST 1048576: true; the input reads as it did. -/
def cornerOverUptoRow : OpenClaim := { program := "ythplgcakhniidaagreat", sum := "30a45d8774909afe1dbb6adf0c21ae7a4b2da3ce9cca0568d67ef9be88ef80aa", func := "gridiron/gridironlaw12.CornerOver", spec := "cornerOver", inPlace := ["sync/atomic.LoadUint32", "(*internal/sync.Mutex).Lock", "internal/race.Disable", "sync/atomic.CompareAndSwapInt32", "internal/race.Enable", "internal/race.Acquire", "(*internal/sync.Mutex).lockSlow", "internal/sync.runtime_canSpin", "internal/sync.runtime_doSpin", "internal/sync.throw", "internal/sync.runtime_nanotime", "internal/sync.runtime_SemacquireMutex", "sync/atomic.AddInt32", "(*internal/sync.Mutex).Unlock", "internal/race.ReleaseMerge", "(*internal/sync.Mutex).unlockSlow", "internal/sync.fatal", "internal/sync.runtime_Semrelease", "sync/atomic.StoreUint32"], unfollowed := true, recurses := true, plainKeys := false, apart := false, narrowed := true }
def CornerOverUptoSaid : Prop := cornerOverUptoRow.holds Tryz.pinned (OpenSpec.upto cornerOverSpec)

/-- 'gridironlaw12.CornerTurned', WHERE WHAT IT READS IS OF BULK AT MOST 1048576: true; the input reads as it did. -/
def cornerTurnedUptoRow : OpenClaim := { program := "ythplgcakhniidaagreat", sum := "30a45d8774909afe1dbb6adf0c21ae7a4b2da3ce9cca0568d67ef9be88ef80aa", func := "gridiron/gridironlaw12.CornerTurned", spec := "cornerTurned", inPlace := ["sync/atomic.LoadUint32", "(*internal/sync.Mutex).Lock", "internal/race.Disable", "sync/atomic.CompareAndSwapInt32", "internal/race.Enable", "internal/race.Acquire", "(*internal/sync.Mutex).lockSlow", "internal/sync.runtime_canSpin", "internal/sync.runtime_doSpin", "internal/sync.throw", "internal/sync.runtime_nanotime", "internal/sync.runtime_SemacquireMutex", "sync/atomic.AddInt32", "(*internal/sync.Mutex).Unlock", "internal/race.ReleaseMerge", "(*internal/sync.Mutex).unlockSlow", "internal/sync.fatal", "internal/sync.runtime_Semrelease", "sync/atomic.StoreUint32"], unfollowed := true, recurses := true, plainKeys := false, apart := false, narrowed := true }
def CornerTurnedUptoSaid : Prop := cornerTurnedUptoRow.holds Tryz.pinned (OpenSpec.upto cornerTurnedSpec)

/-- 'gridironlaw12.CornerGrows', WHERE WHAT IT READS IS OF BULK AT MOST 1048576: true; the input reads as it did. -/
def cornerGrowsUptoRow : OpenClaim := { program := "ythplgcakhniidaagreat", sum := "30a45d8774909afe1dbb6adf0c21ae7a4b2da3ce9cca0568d67ef9be88ef80aa", func := "gridiron/gridironlaw12.CornerGrows", spec := "cornerGrows", inPlace := ["sync/atomic.LoadUint32", "(*internal/sync.Mutex).Lock", "internal/race.Disable", "sync/atomic.CompareAndSwapInt32", "internal/race.Enable", "internal/race.Acquire", "(*internal/sync.Mutex).lockSlow", "internal/sync.runtime_canSpin", "internal/sync.runtime_doSpin", "internal/sync.throw", "internal/sync.runtime_nanotime", "internal/sync.runtime_SemacquireMutex", "sync/atomic.AddInt32", "(*internal/sync.Mutex).Unlock", "internal/race.ReleaseMerge", "(*internal/sync.Mutex).unlockSlow", "internal/sync.fatal", "internal/sync.runtime_Semrelease", "sync/atomic.StoreUint32"], unfollowed := true, recurses := true, plainKeys := false, apart := false, narrowed := true }
def CornerGrowsUptoSaid : Prop := cornerGrowsUptoRow.holds Tryz.pinned (OpenSpec.upto cornerGrowsSpec)

/-- 'gridironlaw12.CornerFour', WHERE WHAT IT READS IS OF BULK AT MOST 1048576: true; the input reads as it did. -/
def cornerFourUptoRow : OpenClaim := { program := "ythplgcakhniidaagreat", sum := "30a45d8774909afe1dbb6adf0c21ae7a4b2da3ce9cca0568d67ef9be88ef80aa", func := "gridiron/gridironlaw12.CornerFour", spec := "cornerFour", inPlace := ["sync/atomic.LoadUint32", "(*internal/sync.Mutex).Lock", "internal/race.Disable", "sync/atomic.CompareAndSwapInt32", "internal/race.Enable", "internal/race.Acquire", "(*internal/sync.Mutex).lockSlow", "internal/sync.runtime_canSpin", "internal/sync.runtime_doSpin", "internal/sync.throw", "internal/sync.runtime_nanotime", "internal/sync.runtime_SemacquireMutex", "sync/atomic.AddInt32", "(*internal/sync.Mutex).Unlock", "internal/race.ReleaseMerge", "(*internal/sync.Mutex).unlockSlow", "internal/sync.fatal", "internal/sync.runtime_Semrelease", "sync/atomic.StoreUint32"], unfollowed := true, recurses := true, plainKeys := false, apart := false, narrowed := true }
def CornerFourUptoSaid : Prop := cornerFourUptoRow.holds Tryz.pinned (OpenSpec.upto cornerFourSpec)

/-- 'gridironlaw12.CornerBound', WHERE WHAT IT READS IS OF BULK AT MOST 1048576: true; the input reads as it did. -/
def cornerBoundUptoRow : OpenClaim := { program := "ythplgcakhniidaagreat", sum := "30a45d8774909afe1dbb6adf0c21ae7a4b2da3ce9cca0568d67ef9be88ef80aa", func := "gridiron/gridironlaw12.CornerBound", spec := "cornerBound", inPlace := ["sync/atomic.LoadUint32", "(*internal/sync.Mutex).Lock", "internal/race.Disable", "sync/atomic.CompareAndSwapInt32", "internal/race.Enable", "internal/race.Acquire", "(*internal/sync.Mutex).lockSlow", "internal/sync.runtime_canSpin", "internal/sync.runtime_doSpin", "internal/sync.throw", "internal/sync.runtime_nanotime", "internal/sync.runtime_SemacquireMutex", "sync/atomic.AddInt32", "(*internal/sync.Mutex).Unlock", "internal/race.ReleaseMerge", "(*internal/sync.Mutex).unlockSlow", "internal/sync.fatal", "internal/sync.runtime_Semrelease", "sync/atomic.StoreUint32"], unfollowed := true, recurses := true, plainKeys := false, apart := false, narrowed := true }
def CornerBoundUptoSaid : Prop := cornerBoundUptoRow.holds Tryz.pinned (OpenSpec.upto cornerBoundSpec)

/-- 'gridironlaw12.CornerTells', WHERE WHAT IT READS IS OF BULK AT MOST 1048576: true; the input reads as it did. -/
def cornerTellsUptoRow : OpenClaim := { program := "ythplgcakhniidaagreat", sum := "30a45d8774909afe1dbb6adf0c21ae7a4b2da3ce9cca0568d67ef9be88ef80aa", func := "gridiron/gridironlaw12.CornerTells", spec := "cornerTells", inPlace := ["sync/atomic.LoadUint32", "(*internal/sync.Mutex).Lock", "internal/race.Disable", "sync/atomic.CompareAndSwapInt32", "internal/race.Enable", "internal/race.Acquire", "(*internal/sync.Mutex).lockSlow", "internal/sync.runtime_canSpin", "internal/sync.runtime_doSpin", "internal/sync.throw", "internal/sync.runtime_nanotime", "internal/sync.runtime_SemacquireMutex", "sync/atomic.AddInt32", "(*internal/sync.Mutex).Unlock", "internal/race.ReleaseMerge", "(*internal/sync.Mutex).unlockSlow", "internal/sync.fatal", "internal/sync.runtime_Semrelease", "sync/atomic.StoreUint32"], unfollowed := true, recurses := true, plainKeys := false, apart := false, narrowed := true }
def CornerTellsUptoSaid : Prop := cornerTellsUptoRow.holds Tryz.pinned (OpenSpec.upto cornerTellsSpec)

end Rows
end Go.Proofs.YthplgcakhniidaaGreat
