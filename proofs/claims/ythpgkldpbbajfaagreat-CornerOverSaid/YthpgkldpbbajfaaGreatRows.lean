/-
  No cell of these rows narrows 'for every input' (looked for: loops, veiled, ifaces, maps, wideKeys, modest, calm, conditions, laid).
  DERIVED. THE GIVEN ROWS OF THIS SEAT. 12 by the template 'for every input the law returns true; each argument reads behind the call as it read before'; 0 by the template 'total and deterministic' (their statements: YthpgkldpbbajfaaGreatTotals.lean).
  GIVEN WITH THE SEED: the statements are not yours to turn. If you find one false, say at which input.
  Laid BY PROGRAM, IN A SANDBOX (cutbox-rows.mjs): the forced cells as the released guide's own fill.sh prints them over the translation fc063a87452e04e2… (all of the seat's roots in one cut). By AI agents, Wed Nov 11 2026. No macro, syntax, notation, axiom, sorry.
-/
import Derived.Test.YthpgkldpbbajfaaGreatChecked
import GoSem.Claim
import GoSem.ClaimJoined
import GoSem.ClaimMapViews
import Derived.JoinedTies
import Derived.KernelRfl
namespace Go.Proofs.YthpgkldpbbajfaaGreat
/- THE CELL 'sum', in the pinned program and in every row, IS THE sha256 OF THE DUMP (.gsa) THAT YthpgkldpbbajfaaGreatProg.lean LOADS. Nothing in Lean hashes anything: it is a label: what it is worth is what the hold of that sum in a sandbox is worth. -/
noncomputable def Tryz.pinned : Pinned := { name := "ythpgkldpbbajfaagreat", sum := "fc063a87452e04e23fca7309657625273522f5408c020c13dbdb1c365e41bf9a", checked := Tryz.checked }
namespace Rows
def none {H : Type} : Left H := { results := [], args := [] }

/-- 'gridironlaw15.StairCorner': WHATEVER THE INPUT: true; the input reads as it did. -/
def stairCornerSpec : ChangeSpec := { name := "stairCorner", fn := fun _ => fun
  | [d] => { results := [.lit (.bool true)], args := [d] }
  | _ => none }
def stairCornerRow : OpenClaim := { program := "ythpgkldpbbajfaagreat", sum := "fc063a87452e04e23fca7309657625273522f5408c020c13dbdb1c365e41bf9a", func := "gridiron/gridironlaw15.StairCorner", spec := "stairCorner", inPlace := ["sync/atomic.LoadUint32", "(*internal/sync.Mutex).Lock", "internal/race.Disable", "sync/atomic.CompareAndSwapInt32", "internal/race.Enable", "internal/race.Acquire", "(*internal/sync.Mutex).lockSlow", "internal/sync.runtime_canSpin", "internal/sync.runtime_doSpin", "internal/sync.throw", "internal/sync.runtime_nanotime", "internal/sync.runtime_SemacquireMutex", "sync/atomic.AddInt32", "(*internal/sync.Mutex).Unlock", "internal/race.ReleaseMerge", "(*internal/sync.Mutex).unlockSlow", "internal/sync.fatal", "internal/sync.runtime_Semrelease", "sync/atomic.StoreUint32"], unfollowed := true, recurses := true, plainKeys := false, apart := false }
def StairCornerSaid : Prop := stairCornerRow.holds Tryz.pinned (OpenSpec.ofChange stairCornerSpec)

/-- ITS FALSE NEIGHBOUR: 'it returns false'. Refute it at one input. -/
def stairCornerWrong : ChangeSpec := { name := "stairCorner", fn := fun _ => fun
  | [d] => { results := [.lit (.bool false)], args := [d] }
  | _ => none }
def StairCornerWrongFalsely : Prop := stairCornerRow.holds Tryz.pinned (OpenSpec.ofChange stairCornerWrong)

/-- 'gridironlaw12.CornerOver': WHATEVER THE INPUT: true; the input reads as it did. -/
def cornerOverSpec : ChangeSpec := { name := "cornerOver", fn := fun _ => fun
  | [d] => { results := [.lit (.bool true)], args := [d] }
  | _ => none }
def cornerOverRow : OpenClaim := { program := "ythpgkldpbbajfaagreat", sum := "fc063a87452e04e23fca7309657625273522f5408c020c13dbdb1c365e41bf9a", func := "gridiron/gridironlaw12.CornerOver", spec := "cornerOver", inPlace := ["sync/atomic.LoadUint32", "(*internal/sync.Mutex).Lock", "internal/race.Disable", "sync/atomic.CompareAndSwapInt32", "internal/race.Enable", "internal/race.Acquire", "(*internal/sync.Mutex).lockSlow", "internal/sync.runtime_canSpin", "internal/sync.runtime_doSpin", "internal/sync.throw", "internal/sync.runtime_nanotime", "internal/sync.runtime_SemacquireMutex", "sync/atomic.AddInt32", "(*internal/sync.Mutex).Unlock", "internal/race.ReleaseMerge", "(*internal/sync.Mutex).unlockSlow", "internal/sync.fatal", "internal/sync.runtime_Semrelease", "sync/atomic.StoreUint32"], unfollowed := true, recurses := true, plainKeys := false, apart := false }
def CornerOverSaid : Prop := cornerOverRow.holds Tryz.pinned (OpenSpec.ofChange cornerOverSpec)

/-- ITS FALSE NEIGHBOUR: 'it returns false'. Refute it at one input. -/
def cornerOverWrong : ChangeSpec := { name := "cornerOver", fn := fun _ => fun
  | [d] => { results := [.lit (.bool false)], args := [d] }
  | _ => none }
def CornerOverWrongFalsely : Prop := cornerOverRow.holds Tryz.pinned (OpenSpec.ofChange cornerOverWrong)

/-- 'gridironlaw11.CascadeBand': WHATEVER THE INPUT: true; the input reads as it did. -/
def cascadeBandSpec : ChangeSpec := { name := "cascadeBand", fn := fun _ => fun
  | [d1, d2, d3] => { results := [.lit (.bool true)], args := [d1, d2, d3] }
  | _ => none }
def cascadeBandRow : OpenClaim := { program := "ythpgkldpbbajfaagreat", sum := "fc063a87452e04e23fca7309657625273522f5408c020c13dbdb1c365e41bf9a", func := "gridiron/gridironlaw11.CascadeBand", spec := "cascadeBand", inPlace := ["sync/atomic.LoadUint32", "(*internal/sync.Mutex).Lock", "internal/race.Disable", "sync/atomic.CompareAndSwapInt32", "internal/race.Enable", "internal/race.Acquire", "(*internal/sync.Mutex).lockSlow", "internal/sync.runtime_canSpin", "internal/sync.runtime_doSpin", "internal/sync.throw", "internal/sync.runtime_nanotime", "internal/sync.runtime_SemacquireMutex", "sync/atomic.AddInt32", "(*internal/sync.Mutex).Unlock", "internal/race.ReleaseMerge", "(*internal/sync.Mutex).unlockSlow", "internal/sync.fatal", "internal/sync.runtime_Semrelease", "sync/atomic.StoreUint32"], unfollowed := true, recurses := true, plainKeys := false, apart := false }
def CascadeBandSaid : Prop := cascadeBandRow.holds Tryz.pinned (OpenSpec.ofChange cascadeBandSpec)

/-- ITS FALSE NEIGHBOUR: 'it returns false'. Refute it at one input. -/
def cascadeBandWrong : ChangeSpec := { name := "cascadeBand", fn := fun _ => fun
  | [d1, d2, d3] => { results := [.lit (.bool false)], args := [d1, d2, d3] }
  | _ => none }
def CascadeBandWrongFalsely : Prop := cascadeBandRow.holds Tryz.pinned (OpenSpec.ofChange cascadeBandWrong)

/-- 'gridironlaw10.BandSplit': WHATEVER THE INPUT: true; the input reads as it did. -/
def bandSplitSpec : ChangeSpec := { name := "bandSplit", fn := fun _ => fun
  | [d1, d2, d3, d4] => { results := [.lit (.bool true)], args := [d1, d2, d3, d4] }
  | _ => none }
def bandSplitRow : OpenClaim := { program := "ythpgkldpbbajfaagreat", sum := "fc063a87452e04e23fca7309657625273522f5408c020c13dbdb1c365e41bf9a", func := "gridiron/gridironlaw10.BandSplit", spec := "bandSplit", inPlace := ["sync/atomic.LoadUint32", "(*internal/sync.Mutex).Lock", "internal/race.Disable", "sync/atomic.CompareAndSwapInt32", "internal/race.Enable", "internal/race.Acquire", "(*internal/sync.Mutex).lockSlow", "internal/sync.runtime_canSpin", "internal/sync.runtime_doSpin", "internal/sync.throw", "internal/sync.runtime_nanotime", "internal/sync.runtime_SemacquireMutex", "sync/atomic.AddInt32", "(*internal/sync.Mutex).Unlock", "internal/race.ReleaseMerge", "(*internal/sync.Mutex).unlockSlow", "internal/sync.fatal", "internal/sync.runtime_Semrelease", "sync/atomic.StoreUint32"], unfollowed := true, recurses := true, plainKeys := false, apart := false }
def BandSplitSaid : Prop := bandSplitRow.holds Tryz.pinned (OpenSpec.ofChange bandSplitSpec)

/-- ITS FALSE NEIGHBOUR: 'it returns false'. Refute it at one input. -/
def bandSplitWrong : ChangeSpec := { name := "bandSplit", fn := fun _ => fun
  | [d1, d2, d3, d4] => { results := [.lit (.bool false)], args := [d1, d2, d3, d4] }
  | _ => none }
def BandSplitWrongFalsely : Prop := bandSplitRow.holds Tryz.pinned (OpenSpec.ofChange bandSplitWrong)

/-- 'gridironlaw10.BandTurned': WHATEVER THE INPUT: true; the input reads as it did. -/
def bandTurnedSpec : ChangeSpec := { name := "bandTurned", fn := fun _ => fun
  | [d1, d2] => { results := [.lit (.bool true)], args := [d1, d2] }
  | _ => none }
def bandTurnedRow : OpenClaim := { program := "ythpgkldpbbajfaagreat", sum := "fc063a87452e04e23fca7309657625273522f5408c020c13dbdb1c365e41bf9a", func := "gridiron/gridironlaw10.BandTurned", spec := "bandTurned", inPlace := ["sync/atomic.LoadUint32", "(*internal/sync.Mutex).Lock", "internal/race.Disable", "sync/atomic.CompareAndSwapInt32", "internal/race.Enable", "internal/race.Acquire", "(*internal/sync.Mutex).lockSlow", "internal/sync.runtime_canSpin", "internal/sync.runtime_doSpin", "internal/sync.throw", "internal/sync.runtime_nanotime", "internal/sync.runtime_SemacquireMutex", "sync/atomic.AddInt32", "(*internal/sync.Mutex).Unlock", "internal/race.ReleaseMerge", "(*internal/sync.Mutex).unlockSlow", "internal/sync.fatal", "internal/sync.runtime_Semrelease", "sync/atomic.StoreUint32"], unfollowed := true, recurses := true, plainKeys := false, apart := false }
def BandTurnedSaid : Prop := bandTurnedRow.holds Tryz.pinned (OpenSpec.ofChange bandTurnedSpec)

/-- ITS FALSE NEIGHBOUR: 'it returns false'. Refute it at one input. -/
def bandTurnedWrong : ChangeSpec := { name := "bandTurned", fn := fun _ => fun
  | [d1, d2] => { results := [.lit (.bool false)], args := [d1, d2] }
  | _ => none }
def BandTurnedWrongFalsely : Prop := bandTurnedRow.holds Tryz.pinned (OpenSpec.ofChange bandTurnedWrong)

/-- 'gridironlaw10.BandAll': WHATEVER THE INPUT: true; the input reads as it did. -/
def bandAllSpec : ChangeSpec := { name := "bandAll", fn := fun _ => fun
  | [d] => { results := [.lit (.bool true)], args := [d] }
  | _ => none }
def bandAllRow : OpenClaim := { program := "ythpgkldpbbajfaagreat", sum := "fc063a87452e04e23fca7309657625273522f5408c020c13dbdb1c365e41bf9a", func := "gridiron/gridironlaw10.BandAll", spec := "bandAll", inPlace := ["sync/atomic.LoadUint32", "(*internal/sync.Mutex).Lock", "internal/race.Disable", "sync/atomic.CompareAndSwapInt32", "internal/race.Enable", "internal/race.Acquire", "(*internal/sync.Mutex).lockSlow", "internal/sync.runtime_canSpin", "internal/sync.runtime_doSpin", "internal/sync.throw", "internal/sync.runtime_nanotime", "internal/sync.runtime_SemacquireMutex", "sync/atomic.AddInt32", "(*internal/sync.Mutex).Unlock", "internal/race.ReleaseMerge", "(*internal/sync.Mutex).unlockSlow", "internal/sync.fatal", "internal/sync.runtime_Semrelease", "sync/atomic.StoreUint32"], unfollowed := true, recurses := true, plainKeys := false, apart := false }
def BandAllSaid : Prop := bandAllRow.holds Tryz.pinned (OpenSpec.ofChange bandAllSpec)

/-- ITS FALSE NEIGHBOUR: 'it returns false'. Refute it at one input. -/
def bandAllWrong : ChangeSpec := { name := "bandAll", fn := fun _ => fun
  | [d] => { results := [.lit (.bool false)], args := [d] }
  | _ => none }
def BandAllWrongFalsely : Prop := bandAllRow.holds Tryz.pinned (OpenSpec.ofChange bandAllWrong)

/-- 'gridironlaw10.BandWeak': WHATEVER THE INPUT: true; the input reads as it did. -/
def bandWeakSpec : ChangeSpec := { name := "bandWeak", fn := fun _ => fun
  | [d1, d2, d3] => { results := [.lit (.bool true)], args := [d1, d2, d3] }
  | _ => none }
def bandWeakRow : OpenClaim := { program := "ythpgkldpbbajfaagreat", sum := "fc063a87452e04e23fca7309657625273522f5408c020c13dbdb1c365e41bf9a", func := "gridiron/gridironlaw10.BandWeak", spec := "bandWeak", inPlace := ["sync/atomic.LoadUint32", "(*internal/sync.Mutex).Lock", "internal/race.Disable", "sync/atomic.CompareAndSwapInt32", "internal/race.Enable", "internal/race.Acquire", "(*internal/sync.Mutex).lockSlow", "internal/sync.runtime_canSpin", "internal/sync.runtime_doSpin", "internal/sync.throw", "internal/sync.runtime_nanotime", "internal/sync.runtime_SemacquireMutex", "sync/atomic.AddInt32", "(*internal/sync.Mutex).Unlock", "internal/race.ReleaseMerge", "(*internal/sync.Mutex).unlockSlow", "internal/sync.fatal", "internal/sync.runtime_Semrelease", "sync/atomic.StoreUint32"], unfollowed := true, recurses := true, plainKeys := false, apart := false }
def BandWeakSaid : Prop := bandWeakRow.holds Tryz.pinned (OpenSpec.ofChange bandWeakSpec)

/-- ITS FALSE NEIGHBOUR: 'it returns false'. Refute it at one input. -/
def bandWeakWrong : ChangeSpec := { name := "bandWeak", fn := fun _ => fun
  | [d1, d2, d3] => { results := [.lit (.bool false)], args := [d1, d2, d3] }
  | _ => none }
def BandWeakWrongFalsely : Prop := bandWeakRow.holds Tryz.pinned (OpenSpec.ofChange bandWeakWrong)

/-- 'gridironlaw10.BandTells': WHATEVER THE INPUT: true; the input reads as it did. -/
def bandTellsSpec : ChangeSpec := { name := "bandTells", fn := fun _ => fun
  | [d1, d2, d3] => { results := [.lit (.bool true)], args := [d1, d2, d3] }
  | _ => none }
def bandTellsRow : OpenClaim := { program := "ythpgkldpbbajfaagreat", sum := "fc063a87452e04e23fca7309657625273522f5408c020c13dbdb1c365e41bf9a", func := "gridiron/gridironlaw10.BandTells", spec := "bandTells", inPlace := ["sync/atomic.LoadUint32", "(*internal/sync.Mutex).Lock", "internal/race.Disable", "sync/atomic.CompareAndSwapInt32", "internal/race.Enable", "internal/race.Acquire", "(*internal/sync.Mutex).lockSlow", "internal/sync.runtime_canSpin", "internal/sync.runtime_doSpin", "internal/sync.throw", "internal/sync.runtime_nanotime", "internal/sync.runtime_SemacquireMutex", "sync/atomic.AddInt32", "(*internal/sync.Mutex).Unlock", "internal/race.ReleaseMerge", "(*internal/sync.Mutex).unlockSlow", "internal/sync.fatal", "internal/sync.runtime_Semrelease", "sync/atomic.StoreUint32"], unfollowed := true, recurses := true, plainKeys := false, apart := false }
def BandTellsSaid : Prop := bandTellsRow.holds Tryz.pinned (OpenSpec.ofChange bandTellsSpec)

/-- ITS FALSE NEIGHBOUR: 'it returns false'. Refute it at one input. -/
def bandTellsWrong : ChangeSpec := { name := "bandTells", fn := fun _ => fun
  | [d1, d2, d3] => { results := [.lit (.bool false)], args := [d1, d2, d3] }
  | _ => none }
def BandTellsWrongFalsely : Prop := bandTellsRow.holds Tryz.pinned (OpenSpec.ofChange bandTellsWrong)

/-- 'gridironlaw10.BandBound': WHATEVER THE INPUT: true; the input reads as it did. -/
def bandBoundSpec : ChangeSpec := { name := "bandBound", fn := fun _ => fun
  | [d1, d2, d3] => { results := [.lit (.bool true)], args := [d1, d2, d3] }
  | _ => none }
def bandBoundRow : OpenClaim := { program := "ythpgkldpbbajfaagreat", sum := "fc063a87452e04e23fca7309657625273522f5408c020c13dbdb1c365e41bf9a", func := "gridiron/gridironlaw10.BandBound", spec := "bandBound", inPlace := ["sync/atomic.LoadUint32", "(*internal/sync.Mutex).Lock", "internal/race.Disable", "sync/atomic.CompareAndSwapInt32", "internal/race.Enable", "internal/race.Acquire", "(*internal/sync.Mutex).lockSlow", "internal/sync.runtime_canSpin", "internal/sync.runtime_doSpin", "internal/sync.throw", "internal/sync.runtime_nanotime", "internal/sync.runtime_SemacquireMutex", "sync/atomic.AddInt32", "(*internal/sync.Mutex).Unlock", "internal/race.ReleaseMerge", "(*internal/sync.Mutex).unlockSlow", "internal/sync.fatal", "internal/sync.runtime_Semrelease", "sync/atomic.StoreUint32"], unfollowed := true, recurses := true, plainKeys := false, apart := false }
def BandBoundSaid : Prop := bandBoundRow.holds Tryz.pinned (OpenSpec.ofChange bandBoundSpec)

/-- ITS FALSE NEIGHBOUR: 'it returns false'. Refute it at one input. -/
def bandBoundWrong : ChangeSpec := { name := "bandBound", fn := fun _ => fun
  | [d1, d2, d3] => { results := [.lit (.bool false)], args := [d1, d2, d3] }
  | _ => none }
def BandBoundWrongFalsely : Prop := bandBoundRow.holds Tryz.pinned (OpenSpec.ofChange bandBoundWrong)

/-- 'gridironlaw13.HeapBox': WHATEVER THE INPUT: true; the input reads as it did. -/
def heapBoxSpec : ChangeSpec := { name := "heapBox", fn := fun _ => fun
  | [d1, d2, d3] => { results := [.lit (.bool true)], args := [d1, d2, d3] }
  | _ => none }
def heapBoxRow : OpenClaim := { program := "ythpgkldpbbajfaagreat", sum := "fc063a87452e04e23fca7309657625273522f5408c020c13dbdb1c365e41bf9a", func := "gridiron/gridironlaw13.HeapBox", spec := "heapBox", inPlace := ["sync/atomic.LoadUint32", "(*internal/sync.Mutex).Lock", "internal/race.Disable", "sync/atomic.CompareAndSwapInt32", "internal/race.Enable", "internal/race.Acquire", "(*internal/sync.Mutex).lockSlow", "internal/sync.runtime_canSpin", "internal/sync.runtime_doSpin", "internal/sync.throw", "internal/sync.runtime_nanotime", "internal/sync.runtime_SemacquireMutex", "sync/atomic.AddInt32", "(*internal/sync.Mutex).Unlock", "internal/race.ReleaseMerge", "(*internal/sync.Mutex).unlockSlow", "internal/sync.fatal", "internal/sync.runtime_Semrelease", "sync/atomic.StoreUint32"], unfollowed := true, recurses := true, plainKeys := false, apart := false }
def HeapBoxSaid : Prop := heapBoxRow.holds Tryz.pinned (OpenSpec.ofChange heapBoxSpec)

/-- ITS FALSE NEIGHBOUR: 'it returns false'. Refute it at one input. -/
def heapBoxWrong : ChangeSpec := { name := "heapBox", fn := fun _ => fun
  | [d1, d2, d3] => { results := [.lit (.bool false)], args := [d1, d2, d3] }
  | _ => none }
def HeapBoxWrongFalsely : Prop := heapBoxRow.holds Tryz.pinned (OpenSpec.ofChange heapBoxWrong)

/-- 'gridironlaw13.HeapTells': WHATEVER THE INPUT: true; the input reads as it did. -/
def heapTellsSpec : ChangeSpec := { name := "heapTells", fn := fun _ => fun
  | [d1, d2, d3] => { results := [.lit (.bool true)], args := [d1, d2, d3] }
  | _ => none }
def heapTellsRow : OpenClaim := { program := "ythpgkldpbbajfaagreat", sum := "fc063a87452e04e23fca7309657625273522f5408c020c13dbdb1c365e41bf9a", func := "gridiron/gridironlaw13.HeapTells", spec := "heapTells", inPlace := ["sync/atomic.LoadUint32", "(*internal/sync.Mutex).Lock", "internal/race.Disable", "sync/atomic.CompareAndSwapInt32", "internal/race.Enable", "internal/race.Acquire", "(*internal/sync.Mutex).lockSlow", "internal/sync.runtime_canSpin", "internal/sync.runtime_doSpin", "internal/sync.throw", "internal/sync.runtime_nanotime", "internal/sync.runtime_SemacquireMutex", "sync/atomic.AddInt32", "(*internal/sync.Mutex).Unlock", "internal/race.ReleaseMerge", "(*internal/sync.Mutex).unlockSlow", "internal/sync.fatal", "internal/sync.runtime_Semrelease", "sync/atomic.StoreUint32"], unfollowed := true, recurses := true, plainKeys := false, apart := false }
def HeapTellsSaid : Prop := heapTellsRow.holds Tryz.pinned (OpenSpec.ofChange heapTellsSpec)

/-- ITS FALSE NEIGHBOUR: 'it returns false'. Refute it at one input. -/
def heapTellsWrong : ChangeSpec := { name := "heapTells", fn := fun _ => fun
  | [d1, d2, d3] => { results := [.lit (.bool false)], args := [d1, d2, d3] }
  | _ => none }
def HeapTellsWrongFalsely : Prop := heapTellsRow.holds Tryz.pinned (OpenSpec.ofChange heapTellsWrong)

/-- 'gridironlaw13.HeapWeak': WHATEVER THE INPUT: true; the input reads as it did. -/
def heapWeakSpec : ChangeSpec := { name := "heapWeak", fn := fun _ => fun
  | [d1, d2, d3] => { results := [.lit (.bool true)], args := [d1, d2, d3] }
  | _ => none }
def heapWeakRow : OpenClaim := { program := "ythpgkldpbbajfaagreat", sum := "fc063a87452e04e23fca7309657625273522f5408c020c13dbdb1c365e41bf9a", func := "gridiron/gridironlaw13.HeapWeak", spec := "heapWeak", inPlace := ["sync/atomic.LoadUint32", "(*internal/sync.Mutex).Lock", "internal/race.Disable", "sync/atomic.CompareAndSwapInt32", "internal/race.Enable", "internal/race.Acquire", "(*internal/sync.Mutex).lockSlow", "internal/sync.runtime_canSpin", "internal/sync.runtime_doSpin", "internal/sync.throw", "internal/sync.runtime_nanotime", "internal/sync.runtime_SemacquireMutex", "sync/atomic.AddInt32", "(*internal/sync.Mutex).Unlock", "internal/race.ReleaseMerge", "(*internal/sync.Mutex).unlockSlow", "internal/sync.fatal", "internal/sync.runtime_Semrelease", "sync/atomic.StoreUint32"], unfollowed := true, recurses := true, plainKeys := false, apart := false }
def HeapWeakSaid : Prop := heapWeakRow.holds Tryz.pinned (OpenSpec.ofChange heapWeakSpec)

/-- ITS FALSE NEIGHBOUR: 'it returns false'. Refute it at one input. -/
def heapWeakWrong : ChangeSpec := { name := "heapWeak", fn := fun _ => fun
  | [d1, d2, d3] => { results := [.lit (.bool false)], args := [d1, d2, d3] }
  | _ => none }
def HeapWeakWrongFalsely : Prop := heapWeakRow.holds Tryz.pinned (OpenSpec.ofChange heapWeakWrong)

/- THE SECOND FORM. 'bulk': how many values and letters a reading holds, each counted each time it is reached (what is shared counts as often as it is met; a slice's spare places count too). A statement '..UptoSaid' is the law's where the arguments, and the package variables that the reading takes, are together of bulk at most 1048576: NARROWER than '..Said'. Prove '..Said' where nothing that the law and all that it calls make is longer than what came in: it says more and counts as full. Else prove '..UptoSaid'. A law counts once. -/
mutual
def uptoBulk {H : Type} : DataW H → Nat
  | .lit (.string bytes) => bytes.length + 1
  | .lit _ => 1
  | .nil => 1
  | .ptr d => uptoBulk d + 1
  | .slice elems spare => uptoBulkAll elems + uptoBulkAll spare + 1
  | .agg parts => uptoBulkAll parts + 1
  | .iface _ d => uptoBulk d + 1
  | .map entries => uptoBulkEntries entries + 1
  | .held _ => 1
def uptoBulkAll {H : Type} : List (DataW H) → Nat
  | [] => 0
  | d :: r => uptoBulk d + uptoBulkAll r
def uptoBulkEntries {H : Type} : List (Lit × DataW H) → Nat
  | [] => 0
  | x :: r => uptoBulkEntry x + uptoBulkEntries r
def uptoBulkEntry {H : Type} : Lit × DataW H → Nat
  | (.string bytes, d) => bytes.length + uptoBulk d + 1
  | (_, d) => uptoBulk d + 1
 end
def uptoSmall : (H : Type) → List (DataW H) → Bool := fun _ ds => decide (uptoBulkAll ds ≤ 1048576)
def OpenSpec.upto (s : _root_.Go.ChangeSpec) : _root_.Go.OpenSpec := { _root_.Go.OpenSpec.ofChange s with cond := some uptoSmall }

/-- 'gridironlaw15.StairCorner', WHERE WHAT IT READS IS OF BULK AT MOST 1048576: true; the input reads as it did. -/
def stairCornerUptoRow : OpenClaim := { program := "ythpgkldpbbajfaagreat", sum := "fc063a87452e04e23fca7309657625273522f5408c020c13dbdb1c365e41bf9a", func := "gridiron/gridironlaw15.StairCorner", spec := "stairCorner", inPlace := ["sync/atomic.LoadUint32", "(*internal/sync.Mutex).Lock", "internal/race.Disable", "sync/atomic.CompareAndSwapInt32", "internal/race.Enable", "internal/race.Acquire", "(*internal/sync.Mutex).lockSlow", "internal/sync.runtime_canSpin", "internal/sync.runtime_doSpin", "internal/sync.throw", "internal/sync.runtime_nanotime", "internal/sync.runtime_SemacquireMutex", "sync/atomic.AddInt32", "(*internal/sync.Mutex).Unlock", "internal/race.ReleaseMerge", "(*internal/sync.Mutex).unlockSlow", "internal/sync.fatal", "internal/sync.runtime_Semrelease", "sync/atomic.StoreUint32"], unfollowed := true, recurses := true, plainKeys := false, apart := false, narrowed := true }
def StairCornerUptoSaid : Prop := stairCornerUptoRow.holds Tryz.pinned (OpenSpec.upto stairCornerSpec)

/-- 'gridironlaw12.CornerOver', WHERE WHAT IT READS IS OF BULK AT MOST 1048576: true; the input reads as it did. -/
def cornerOverUptoRow : OpenClaim := { program := "ythpgkldpbbajfaagreat", sum := "fc063a87452e04e23fca7309657625273522f5408c020c13dbdb1c365e41bf9a", func := "gridiron/gridironlaw12.CornerOver", spec := "cornerOver", inPlace := ["sync/atomic.LoadUint32", "(*internal/sync.Mutex).Lock", "internal/race.Disable", "sync/atomic.CompareAndSwapInt32", "internal/race.Enable", "internal/race.Acquire", "(*internal/sync.Mutex).lockSlow", "internal/sync.runtime_canSpin", "internal/sync.runtime_doSpin", "internal/sync.throw", "internal/sync.runtime_nanotime", "internal/sync.runtime_SemacquireMutex", "sync/atomic.AddInt32", "(*internal/sync.Mutex).Unlock", "internal/race.ReleaseMerge", "(*internal/sync.Mutex).unlockSlow", "internal/sync.fatal", "internal/sync.runtime_Semrelease", "sync/atomic.StoreUint32"], unfollowed := true, recurses := true, plainKeys := false, apart := false, narrowed := true }
def CornerOverUptoSaid : Prop := cornerOverUptoRow.holds Tryz.pinned (OpenSpec.upto cornerOverSpec)

/-- 'gridironlaw11.CascadeBand', WHERE WHAT IT READS IS OF BULK AT MOST 1048576: true; the input reads as it did. -/
def cascadeBandUptoRow : OpenClaim := { program := "ythpgkldpbbajfaagreat", sum := "fc063a87452e04e23fca7309657625273522f5408c020c13dbdb1c365e41bf9a", func := "gridiron/gridironlaw11.CascadeBand", spec := "cascadeBand", inPlace := ["sync/atomic.LoadUint32", "(*internal/sync.Mutex).Lock", "internal/race.Disable", "sync/atomic.CompareAndSwapInt32", "internal/race.Enable", "internal/race.Acquire", "(*internal/sync.Mutex).lockSlow", "internal/sync.runtime_canSpin", "internal/sync.runtime_doSpin", "internal/sync.throw", "internal/sync.runtime_nanotime", "internal/sync.runtime_SemacquireMutex", "sync/atomic.AddInt32", "(*internal/sync.Mutex).Unlock", "internal/race.ReleaseMerge", "(*internal/sync.Mutex).unlockSlow", "internal/sync.fatal", "internal/sync.runtime_Semrelease", "sync/atomic.StoreUint32"], unfollowed := true, recurses := true, plainKeys := false, apart := false, narrowed := true }
def CascadeBandUptoSaid : Prop := cascadeBandUptoRow.holds Tryz.pinned (OpenSpec.upto cascadeBandSpec)

/-- 'gridironlaw10.BandSplit', WHERE WHAT IT READS IS OF BULK AT MOST 1048576: true; the input reads as it did. -/
def bandSplitUptoRow : OpenClaim := { program := "ythpgkldpbbajfaagreat", sum := "fc063a87452e04e23fca7309657625273522f5408c020c13dbdb1c365e41bf9a", func := "gridiron/gridironlaw10.BandSplit", spec := "bandSplit", inPlace := ["sync/atomic.LoadUint32", "(*internal/sync.Mutex).Lock", "internal/race.Disable", "sync/atomic.CompareAndSwapInt32", "internal/race.Enable", "internal/race.Acquire", "(*internal/sync.Mutex).lockSlow", "internal/sync.runtime_canSpin", "internal/sync.runtime_doSpin", "internal/sync.throw", "internal/sync.runtime_nanotime", "internal/sync.runtime_SemacquireMutex", "sync/atomic.AddInt32", "(*internal/sync.Mutex).Unlock", "internal/race.ReleaseMerge", "(*internal/sync.Mutex).unlockSlow", "internal/sync.fatal", "internal/sync.runtime_Semrelease", "sync/atomic.StoreUint32"], unfollowed := true, recurses := true, plainKeys := false, apart := false, narrowed := true }
def BandSplitUptoSaid : Prop := bandSplitUptoRow.holds Tryz.pinned (OpenSpec.upto bandSplitSpec)

/-- 'gridironlaw10.BandTurned', WHERE WHAT IT READS IS OF BULK AT MOST 1048576: true; the input reads as it did. -/
def bandTurnedUptoRow : OpenClaim := { program := "ythpgkldpbbajfaagreat", sum := "fc063a87452e04e23fca7309657625273522f5408c020c13dbdb1c365e41bf9a", func := "gridiron/gridironlaw10.BandTurned", spec := "bandTurned", inPlace := ["sync/atomic.LoadUint32", "(*internal/sync.Mutex).Lock", "internal/race.Disable", "sync/atomic.CompareAndSwapInt32", "internal/race.Enable", "internal/race.Acquire", "(*internal/sync.Mutex).lockSlow", "internal/sync.runtime_canSpin", "internal/sync.runtime_doSpin", "internal/sync.throw", "internal/sync.runtime_nanotime", "internal/sync.runtime_SemacquireMutex", "sync/atomic.AddInt32", "(*internal/sync.Mutex).Unlock", "internal/race.ReleaseMerge", "(*internal/sync.Mutex).unlockSlow", "internal/sync.fatal", "internal/sync.runtime_Semrelease", "sync/atomic.StoreUint32"], unfollowed := true, recurses := true, plainKeys := false, apart := false, narrowed := true }
def BandTurnedUptoSaid : Prop := bandTurnedUptoRow.holds Tryz.pinned (OpenSpec.upto bandTurnedSpec)

/-- 'gridironlaw10.BandAll', WHERE WHAT IT READS IS OF BULK AT MOST 1048576: true; the input reads as it did. -/
def bandAllUptoRow : OpenClaim := { program := "ythpgkldpbbajfaagreat", sum := "fc063a87452e04e23fca7309657625273522f5408c020c13dbdb1c365e41bf9a", func := "gridiron/gridironlaw10.BandAll", spec := "bandAll", inPlace := ["sync/atomic.LoadUint32", "(*internal/sync.Mutex).Lock", "internal/race.Disable", "sync/atomic.CompareAndSwapInt32", "internal/race.Enable", "internal/race.Acquire", "(*internal/sync.Mutex).lockSlow", "internal/sync.runtime_canSpin", "internal/sync.runtime_doSpin", "internal/sync.throw", "internal/sync.runtime_nanotime", "internal/sync.runtime_SemacquireMutex", "sync/atomic.AddInt32", "(*internal/sync.Mutex).Unlock", "internal/race.ReleaseMerge", "(*internal/sync.Mutex).unlockSlow", "internal/sync.fatal", "internal/sync.runtime_Semrelease", "sync/atomic.StoreUint32"], unfollowed := true, recurses := true, plainKeys := false, apart := false, narrowed := true }
def BandAllUptoSaid : Prop := bandAllUptoRow.holds Tryz.pinned (OpenSpec.upto bandAllSpec)

/-- 'gridironlaw10.BandWeak', WHERE WHAT IT READS IS OF BULK AT MOST 1048576: true; the input reads as it did. -/
def bandWeakUptoRow : OpenClaim := { program := "ythpgkldpbbajfaagreat", sum := "fc063a87452e04e23fca7309657625273522f5408c020c13dbdb1c365e41bf9a", func := "gridiron/gridironlaw10.BandWeak", spec := "bandWeak", inPlace := ["sync/atomic.LoadUint32", "(*internal/sync.Mutex).Lock", "internal/race.Disable", "sync/atomic.CompareAndSwapInt32", "internal/race.Enable", "internal/race.Acquire", "(*internal/sync.Mutex).lockSlow", "internal/sync.runtime_canSpin", "internal/sync.runtime_doSpin", "internal/sync.throw", "internal/sync.runtime_nanotime", "internal/sync.runtime_SemacquireMutex", "sync/atomic.AddInt32", "(*internal/sync.Mutex).Unlock", "internal/race.ReleaseMerge", "(*internal/sync.Mutex).unlockSlow", "internal/sync.fatal", "internal/sync.runtime_Semrelease", "sync/atomic.StoreUint32"], unfollowed := true, recurses := true, plainKeys := false, apart := false, narrowed := true }
def BandWeakUptoSaid : Prop := bandWeakUptoRow.holds Tryz.pinned (OpenSpec.upto bandWeakSpec)

/-- 'gridironlaw10.BandTells', WHERE WHAT IT READS IS OF BULK AT MOST 1048576: true; the input reads as it did. -/
def bandTellsUptoRow : OpenClaim := { program := "ythpgkldpbbajfaagreat", sum := "fc063a87452e04e23fca7309657625273522f5408c020c13dbdb1c365e41bf9a", func := "gridiron/gridironlaw10.BandTells", spec := "bandTells", inPlace := ["sync/atomic.LoadUint32", "(*internal/sync.Mutex).Lock", "internal/race.Disable", "sync/atomic.CompareAndSwapInt32", "internal/race.Enable", "internal/race.Acquire", "(*internal/sync.Mutex).lockSlow", "internal/sync.runtime_canSpin", "internal/sync.runtime_doSpin", "internal/sync.throw", "internal/sync.runtime_nanotime", "internal/sync.runtime_SemacquireMutex", "sync/atomic.AddInt32", "(*internal/sync.Mutex).Unlock", "internal/race.ReleaseMerge", "(*internal/sync.Mutex).unlockSlow", "internal/sync.fatal", "internal/sync.runtime_Semrelease", "sync/atomic.StoreUint32"], unfollowed := true, recurses := true, plainKeys := false, apart := false, narrowed := true }
def BandTellsUptoSaid : Prop := bandTellsUptoRow.holds Tryz.pinned (OpenSpec.upto bandTellsSpec)

/-- 'gridironlaw10.BandBound', WHERE WHAT IT READS IS OF BULK AT MOST 1048576: true; the input reads as it did. -/
def bandBoundUptoRow : OpenClaim := { program := "ythpgkldpbbajfaagreat", sum := "fc063a87452e04e23fca7309657625273522f5408c020c13dbdb1c365e41bf9a", func := "gridiron/gridironlaw10.BandBound", spec := "bandBound", inPlace := ["sync/atomic.LoadUint32", "(*internal/sync.Mutex).Lock", "internal/race.Disable", "sync/atomic.CompareAndSwapInt32", "internal/race.Enable", "internal/race.Acquire", "(*internal/sync.Mutex).lockSlow", "internal/sync.runtime_canSpin", "internal/sync.runtime_doSpin", "internal/sync.throw", "internal/sync.runtime_nanotime", "internal/sync.runtime_SemacquireMutex", "sync/atomic.AddInt32", "(*internal/sync.Mutex).Unlock", "internal/race.ReleaseMerge", "(*internal/sync.Mutex).unlockSlow", "internal/sync.fatal", "internal/sync.runtime_Semrelease", "sync/atomic.StoreUint32"], unfollowed := true, recurses := true, plainKeys := false, apart := false, narrowed := true }
def BandBoundUptoSaid : Prop := bandBoundUptoRow.holds Tryz.pinned (OpenSpec.upto bandBoundSpec)

/-- 'gridironlaw13.HeapBox', WHERE WHAT IT READS IS OF BULK AT MOST 1048576: true; the input reads as it did. -/
def heapBoxUptoRow : OpenClaim := { program := "ythpgkldpbbajfaagreat", sum := "fc063a87452e04e23fca7309657625273522f5408c020c13dbdb1c365e41bf9a", func := "gridiron/gridironlaw13.HeapBox", spec := "heapBox", inPlace := ["sync/atomic.LoadUint32", "(*internal/sync.Mutex).Lock", "internal/race.Disable", "sync/atomic.CompareAndSwapInt32", "internal/race.Enable", "internal/race.Acquire", "(*internal/sync.Mutex).lockSlow", "internal/sync.runtime_canSpin", "internal/sync.runtime_doSpin", "internal/sync.throw", "internal/sync.runtime_nanotime", "internal/sync.runtime_SemacquireMutex", "sync/atomic.AddInt32", "(*internal/sync.Mutex).Unlock", "internal/race.ReleaseMerge", "(*internal/sync.Mutex).unlockSlow", "internal/sync.fatal", "internal/sync.runtime_Semrelease", "sync/atomic.StoreUint32"], unfollowed := true, recurses := true, plainKeys := false, apart := false, narrowed := true }
def HeapBoxUptoSaid : Prop := heapBoxUptoRow.holds Tryz.pinned (OpenSpec.upto heapBoxSpec)

/-- 'gridironlaw13.HeapTells', WHERE WHAT IT READS IS OF BULK AT MOST 1048576: true; the input reads as it did. -/
def heapTellsUptoRow : OpenClaim := { program := "ythpgkldpbbajfaagreat", sum := "fc063a87452e04e23fca7309657625273522f5408c020c13dbdb1c365e41bf9a", func := "gridiron/gridironlaw13.HeapTells", spec := "heapTells", inPlace := ["sync/atomic.LoadUint32", "(*internal/sync.Mutex).Lock", "internal/race.Disable", "sync/atomic.CompareAndSwapInt32", "internal/race.Enable", "internal/race.Acquire", "(*internal/sync.Mutex).lockSlow", "internal/sync.runtime_canSpin", "internal/sync.runtime_doSpin", "internal/sync.throw", "internal/sync.runtime_nanotime", "internal/sync.runtime_SemacquireMutex", "sync/atomic.AddInt32", "(*internal/sync.Mutex).Unlock", "internal/race.ReleaseMerge", "(*internal/sync.Mutex).unlockSlow", "internal/sync.fatal", "internal/sync.runtime_Semrelease", "sync/atomic.StoreUint32"], unfollowed := true, recurses := true, plainKeys := false, apart := false, narrowed := true }
def HeapTellsUptoSaid : Prop := heapTellsUptoRow.holds Tryz.pinned (OpenSpec.upto heapTellsSpec)

/-- 'gridironlaw13.HeapWeak', WHERE WHAT IT READS IS OF BULK AT MOST 1048576: true; the input reads as it did. -/
def heapWeakUptoRow : OpenClaim := { program := "ythpgkldpbbajfaagreat", sum := "fc063a87452e04e23fca7309657625273522f5408c020c13dbdb1c365e41bf9a", func := "gridiron/gridironlaw13.HeapWeak", spec := "heapWeak", inPlace := ["sync/atomic.LoadUint32", "(*internal/sync.Mutex).Lock", "internal/race.Disable", "sync/atomic.CompareAndSwapInt32", "internal/race.Enable", "internal/race.Acquire", "(*internal/sync.Mutex).lockSlow", "internal/sync.runtime_canSpin", "internal/sync.runtime_doSpin", "internal/sync.throw", "internal/sync.runtime_nanotime", "internal/sync.runtime_SemacquireMutex", "sync/atomic.AddInt32", "(*internal/sync.Mutex).Unlock", "internal/race.ReleaseMerge", "(*internal/sync.Mutex).unlockSlow", "internal/sync.fatal", "internal/sync.runtime_Semrelease", "sync/atomic.StoreUint32"], unfollowed := true, recurses := true, plainKeys := false, apart := false, narrowed := true }
def HeapWeakUptoSaid : Prop := heapWeakUptoRow.holds Tryz.pinned (OpenSpec.upto heapWeakSpec)

end Rows
end Go.Proofs.YthpgkldpbbajfaaGreat
