/-
  No cell of these rows narrows 'for every input' (looked for: loops, veiled, ifaces, maps, wideKeys, modest, calm, conditions, laid).
  DERIVED. THE GIVEN ROWS OF THIS SEAT. 8 by the template 'for every input the law returns true; each argument reads behind the call as it read before'; 0 by the template 'total and deterministic' (their statements: YtkjdbndekceffaaGreatTotals.lean).
  GIVEN WITH THE SEED: the statements are not yours to turn. If you find one false, say at which input.
  Laid BY PROGRAM, IN A SANDBOX (cutbox-rows.mjs): the forced cells as the released guide's own fill.sh prints them over the translation 333421e6ed17302f… (all of the seat's roots in one cut). By AI agents, Wed Nov 11 2026. No macro, syntax, notation, axiom, sorry.
-/
import Derived.Test.YtkjdbndekceffaaGreatChecked
import GoSem.Claim
import GoSem.ClaimJoined
import GoSem.ClaimMapViews
import Derived.JoinedTies
import Derived.KernelRfl
namespace Go.Proofs.YtkjdbndekceffaaGreat
/- THE CELL 'sum', in the pinned program and in every row, IS THE sha256 OF THE DUMP (.gsa) THAT YtkjdbndekceffaaGreatProg.lean LOADS. Nothing in Lean hashes anything: it is a label: what it is worth is what the hold of that sum in a sandbox is worth. -/
noncomputable def Tryz.pinned : Pinned := { name := "ytkjdbndekceffaagreat", sum := "333421e6ed17302f8d99b47cba23845985c291e477718a5bc418df2b4566cfb4", checked := Tryz.checked }
namespace Rows
def none {H : Type} : Left H := { results := [], args := [] }

/-- 'gridironlaw23.PointsOrder': WHATEVER THE INPUT: true; the input reads as it did. -/
def pointsOrderSpec : ChangeSpec := { name := "pointsOrder", fn := fun _ => fun
  | [d1, d2, d3, d4] => { results := [.lit (.bool true)], args := [d1, d2, d3, d4] }
  | _ => none }
def pointsOrderRow : OpenClaim := { program := "ytkjdbndekceffaagreat", sum := "333421e6ed17302f8d99b47cba23845985c291e477718a5bc418df2b4566cfb4", func := "gridiron/gridironlaw23.PointsOrder", spec := "pointsOrder", inPlace := ["sync/atomic.LoadUint32", "(*internal/sync.Mutex).Lock", "internal/race.Disable", "sync/atomic.CompareAndSwapInt32", "internal/race.Enable", "internal/race.Acquire", "(*internal/sync.Mutex).lockSlow", "internal/sync.runtime_canSpin", "internal/sync.runtime_doSpin", "internal/sync.throw", "internal/sync.runtime_nanotime", "internal/sync.runtime_SemacquireMutex", "sync/atomic.AddInt32", "(*internal/sync.Mutex).Unlock", "internal/race.ReleaseMerge", "(*internal/sync.Mutex).unlockSlow", "internal/sync.fatal", "internal/sync.runtime_Semrelease", "sync/atomic.StoreUint32", "sync/atomic.AddInt64"], unfollowed := true, recurses := true, plainKeys := false, apart := false }
def PointsOrderSaid : Prop := pointsOrderRow.holds Tryz.pinned (OpenSpec.ofChange pointsOrderSpec)

/-- ITS FALSE NEIGHBOUR: 'it returns false'. Refute it at one input. -/
def pointsOrderWrong : ChangeSpec := { name := "pointsOrder", fn := fun _ => fun
  | [d1, d2, d3, d4] => { results := [.lit (.bool false)], args := [d1, d2, d3, d4] }
  | _ => none }
def PointsOrderWrongFalsely : Prop := pointsOrderRow.holds Tryz.pinned (OpenSpec.ofChange pointsOrderWrong)

/-- 'gridironlaw23.PointsSky': WHATEVER THE INPUT: true; the input reads as it did. -/
def pointsSkySpec : ChangeSpec := { name := "pointsSky", fn := fun _ => fun
  | [d] => { results := [.lit (.bool true)], args := [d] }
  | _ => none }
def pointsSkyRow : OpenClaim := { program := "ytkjdbndekceffaagreat", sum := "333421e6ed17302f8d99b47cba23845985c291e477718a5bc418df2b4566cfb4", func := "gridiron/gridironlaw23.PointsSky", spec := "pointsSky", inPlace := ["sync/atomic.LoadUint32", "(*internal/sync.Mutex).Lock", "internal/race.Disable", "sync/atomic.CompareAndSwapInt32", "internal/race.Enable", "internal/race.Acquire", "(*internal/sync.Mutex).lockSlow", "internal/sync.runtime_canSpin", "internal/sync.runtime_doSpin", "internal/sync.throw", "internal/sync.runtime_nanotime", "internal/sync.runtime_SemacquireMutex", "sync/atomic.AddInt32", "(*internal/sync.Mutex).Unlock", "internal/race.ReleaseMerge", "(*internal/sync.Mutex).unlockSlow", "internal/sync.fatal", "internal/sync.runtime_Semrelease", "sync/atomic.StoreUint32", "sync/atomic.AddInt64"], unfollowed := true, recurses := true, plainKeys := false, apart := false }
def PointsSkySaid : Prop := pointsSkyRow.holds Tryz.pinned (OpenSpec.ofChange pointsSkySpec)

/-- ITS FALSE NEIGHBOUR: 'it returns false'. Refute it at one input. -/
def pointsSkyWrong : ChangeSpec := { name := "pointsSky", fn := fun _ => fun
  | [d] => { results := [.lit (.bool false)], args := [d] }
  | _ => none }
def PointsSkyWrongFalsely : Prop := pointsSkyRow.holds Tryz.pinned (OpenSpec.ofChange pointsSkyWrong)

/-- 'gridironlaw23.PointsSides': WHATEVER THE INPUT: true; the input reads as it did. -/
def pointsSidesSpec : ChangeSpec := { name := "pointsSides", fn := fun _ => fun
  | [d1, d2] => { results := [.lit (.bool true)], args := [d1, d2] }
  | _ => none }
def pointsSidesRow : OpenClaim := { program := "ytkjdbndekceffaagreat", sum := "333421e6ed17302f8d99b47cba23845985c291e477718a5bc418df2b4566cfb4", func := "gridiron/gridironlaw23.PointsSides", spec := "pointsSides", inPlace := ["sync/atomic.LoadUint32", "(*internal/sync.Mutex).Lock", "internal/race.Disable", "sync/atomic.CompareAndSwapInt32", "internal/race.Enable", "internal/race.Acquire", "(*internal/sync.Mutex).lockSlow", "internal/sync.runtime_canSpin", "internal/sync.runtime_doSpin", "internal/sync.throw", "internal/sync.runtime_nanotime", "internal/sync.runtime_SemacquireMutex", "sync/atomic.AddInt32", "(*internal/sync.Mutex).Unlock", "internal/race.ReleaseMerge", "(*internal/sync.Mutex).unlockSlow", "internal/sync.fatal", "internal/sync.runtime_Semrelease", "sync/atomic.StoreUint32", "sync/atomic.AddInt64"], unfollowed := true, recurses := true, plainKeys := false, apart := false }
def PointsSidesSaid : Prop := pointsSidesRow.holds Tryz.pinned (OpenSpec.ofChange pointsSidesSpec)

/-- ITS FALSE NEIGHBOUR: 'it returns false'. Refute it at one input. -/
def pointsSidesWrong : ChangeSpec := { name := "pointsSides", fn := fun _ => fun
  | [d1, d2] => { results := [.lit (.bool false)], args := [d1, d2] }
  | _ => none }
def PointsSidesWrongFalsely : Prop := pointsSidesRow.holds Tryz.pinned (OpenSpec.ofChange pointsSidesWrong)

/-- 'gridironlaw23.PointsTell': WHATEVER THE INPUT: true; the input reads as it did. -/
def pointsTellSpec : ChangeSpec := { name := "pointsTell", fn := fun _ => fun
  | [d] => { results := [.lit (.bool true)], args := [d] }
  | _ => none }
def pointsTellRow : OpenClaim := { program := "ytkjdbndekceffaagreat", sum := "333421e6ed17302f8d99b47cba23845985c291e477718a5bc418df2b4566cfb4", func := "gridiron/gridironlaw23.PointsTell", spec := "pointsTell", inPlace := ["sync/atomic.LoadUint32", "(*internal/sync.Mutex).Lock", "internal/race.Disable", "sync/atomic.CompareAndSwapInt32", "internal/race.Enable", "internal/race.Acquire", "(*internal/sync.Mutex).lockSlow", "internal/sync.runtime_canSpin", "internal/sync.runtime_doSpin", "internal/sync.throw", "internal/sync.runtime_nanotime", "internal/sync.runtime_SemacquireMutex", "sync/atomic.AddInt32", "(*internal/sync.Mutex).Unlock", "internal/race.ReleaseMerge", "(*internal/sync.Mutex).unlockSlow", "internal/sync.fatal", "internal/sync.runtime_Semrelease", "sync/atomic.StoreUint32", "sync/atomic.AddInt64"], unfollowed := true, recurses := true, plainKeys := false, apart := false }
def PointsTellSaid : Prop := pointsTellRow.holds Tryz.pinned (OpenSpec.ofChange pointsTellSpec)

/-- ITS FALSE NEIGHBOUR: 'it returns false'. Refute it at one input. -/
def pointsTellWrong : ChangeSpec := { name := "pointsTell", fn := fun _ => fun
  | [d] => { results := [.lit (.bool false)], args := [d] }
  | _ => none }
def PointsTellWrongFalsely : Prop := pointsTellRow.holds Tryz.pinned (OpenSpec.ofChange pointsTellWrong)

/-- 'gridironlaw23.PointsBound': WHATEVER THE INPUT: true; the input reads as it did. -/
def pointsBoundSpec : ChangeSpec := { name := "pointsBound", fn := fun _ => fun
  | [d] => { results := [.lit (.bool true)], args := [d] }
  | _ => none }
def pointsBoundRow : OpenClaim := { program := "ytkjdbndekceffaagreat", sum := "333421e6ed17302f8d99b47cba23845985c291e477718a5bc418df2b4566cfb4", func := "gridiron/gridironlaw23.PointsBound", spec := "pointsBound", inPlace := ["sync/atomic.LoadUint32", "(*internal/sync.Mutex).Lock", "internal/race.Disable", "sync/atomic.CompareAndSwapInt32", "internal/race.Enable", "internal/race.Acquire", "(*internal/sync.Mutex).lockSlow", "internal/sync.runtime_canSpin", "internal/sync.runtime_doSpin", "internal/sync.throw", "internal/sync.runtime_nanotime", "internal/sync.runtime_SemacquireMutex", "sync/atomic.AddInt32", "(*internal/sync.Mutex).Unlock", "internal/race.ReleaseMerge", "(*internal/sync.Mutex).unlockSlow", "internal/sync.fatal", "internal/sync.runtime_Semrelease", "sync/atomic.StoreUint32", "sync/atomic.AddInt64", "sync/atomic.LoadInt64"], unfollowed := true, recurses := true, plainKeys := false, apart := false }
def PointsBoundSaid : Prop := pointsBoundRow.holds Tryz.pinned (OpenSpec.ofChange pointsBoundSpec)

/-- ITS FALSE NEIGHBOUR: 'it returns false'. Refute it at one input. -/
def pointsBoundWrong : ChangeSpec := { name := "pointsBound", fn := fun _ => fun
  | [d] => { results := [.lit (.bool false)], args := [d] }
  | _ => none }
def PointsBoundWrongFalsely : Prop := pointsBoundRow.holds Tryz.pinned (OpenSpec.ofChange pointsBoundWrong)

/-- 'gridironlaw23.PointsNone': WHATEVER THE INPUT: true; the input reads as it did. -/
def pointsNoneSpec : ChangeSpec := { name := "pointsNone", fn := fun _ => fun
  | [d1, d2] => { results := [.lit (.bool true)], args := [d1, d2] }
  | _ => none }
def pointsNoneRow : OpenClaim := { program := "ytkjdbndekceffaagreat", sum := "333421e6ed17302f8d99b47cba23845985c291e477718a5bc418df2b4566cfb4", func := "gridiron/gridironlaw23.PointsNone", spec := "pointsNone", inPlace := ["sync/atomic.AddInt64", "sync/atomic.LoadUint32", "(*internal/sync.Mutex).Lock", "internal/race.Disable", "sync/atomic.CompareAndSwapInt32", "internal/race.Enable", "internal/race.Acquire", "(*internal/sync.Mutex).lockSlow", "internal/sync.runtime_canSpin", "internal/sync.runtime_doSpin", "internal/sync.throw", "internal/sync.runtime_nanotime", "internal/sync.runtime_SemacquireMutex", "sync/atomic.AddInt32", "(*internal/sync.Mutex).Unlock", "internal/race.ReleaseMerge", "(*internal/sync.Mutex).unlockSlow", "internal/sync.fatal", "internal/sync.runtime_Semrelease", "sync/atomic.StoreUint32", "sync/atomic.LoadInt64"], unfollowed := true, recurses := true, plainKeys := false, apart := false }
def PointsNoneSaid : Prop := pointsNoneRow.holds Tryz.pinned (OpenSpec.ofChange pointsNoneSpec)

/-- ITS FALSE NEIGHBOUR: 'it returns false'. Refute it at one input. -/
def pointsNoneWrong : ChangeSpec := { name := "pointsNone", fn := fun _ => fun
  | [d1, d2] => { results := [.lit (.bool false)], args := [d1, d2] }
  | _ => none }
def PointsNoneWrongFalsely : Prop := pointsNoneRow.holds Tryz.pinned (OpenSpec.ofChange pointsNoneWrong)

/-- 'gridirontop.TopStatic': WHATEVER THE INPUT: true; the input reads as it did. -/
def topStaticSpec : ChangeSpec := { name := "topStatic", fn := fun _ => fun
  | [d1, d2, d3] => { results := [.lit (.bool true)], args := [d1, d2, d3] }
  | _ => none }
def topStaticRow : OpenClaim := { program := "ytkjdbndekceffaagreat", sum := "333421e6ed17302f8d99b47cba23845985c291e477718a5bc418df2b4566cfb4", func := "gridiron/gridirontop.TopStatic", spec := "topStatic", inPlace := ["sync/atomic.LoadUint32", "(*internal/sync.Mutex).Lock", "internal/race.Disable", "sync/atomic.CompareAndSwapInt32", "internal/race.Enable", "internal/race.Acquire", "(*internal/sync.Mutex).lockSlow", "internal/sync.runtime_canSpin", "internal/sync.runtime_doSpin", "internal/sync.throw", "internal/sync.runtime_nanotime", "internal/sync.runtime_SemacquireMutex", "sync/atomic.AddInt32", "(*internal/sync.Mutex).Unlock", "internal/race.ReleaseMerge", "(*internal/sync.Mutex).unlockSlow", "internal/sync.fatal", "internal/sync.runtime_Semrelease", "sync/atomic.StoreUint32", "sync/atomic.AddInt64"], unfollowed := true, recurses := true, plainKeys := false, apart := false }
def TopStaticSaid : Prop := topStaticRow.holds Tryz.pinned (OpenSpec.ofChange topStaticSpec)

/-- ITS FALSE NEIGHBOUR: 'it returns false'. Refute it at one input. -/
def topStaticWrong : ChangeSpec := { name := "topStatic", fn := fun _ => fun
  | [d1, d2, d3] => { results := [.lit (.bool false)], args := [d1, d2, d3] }
  | _ => none }
def TopStaticWrongFalsely : Prop := topStaticRow.holds Tryz.pinned (OpenSpec.ofChange topStaticWrong)

/-- 'gridirontop.TopCorners': WHATEVER THE INPUT: true; the input reads as it did. -/
def topCornersSpec : ChangeSpec := { name := "topCorners", fn := fun _ => fun
  | [d1, d2, d3, d4] => { results := [.lit (.bool true)], args := [d1, d2, d3, d4] }
  | _ => none }
def topCornersRow : OpenClaim := { program := "ytkjdbndekceffaagreat", sum := "333421e6ed17302f8d99b47cba23845985c291e477718a5bc418df2b4566cfb4", func := "gridiron/gridirontop.TopCorners", spec := "topCorners", inPlace := ["sync/atomic.LoadUint32", "(*internal/sync.Mutex).Lock", "internal/race.Disable", "sync/atomic.CompareAndSwapInt32", "internal/race.Enable", "internal/race.Acquire", "(*internal/sync.Mutex).lockSlow", "internal/sync.runtime_canSpin", "internal/sync.runtime_doSpin", "internal/sync.throw", "internal/sync.runtime_nanotime", "internal/sync.runtime_SemacquireMutex", "sync/atomic.AddInt32", "(*internal/sync.Mutex).Unlock", "internal/race.ReleaseMerge", "(*internal/sync.Mutex).unlockSlow", "internal/sync.fatal", "internal/sync.runtime_Semrelease", "sync/atomic.StoreUint32", "sync/atomic.AddInt64"], unfollowed := true, recurses := true, plainKeys := false, apart := false }
def TopCornersSaid : Prop := topCornersRow.holds Tryz.pinned (OpenSpec.ofChange topCornersSpec)

/-- ITS FALSE NEIGHBOUR: 'it returns false'. Refute it at one input. -/
def topCornersWrong : ChangeSpec := { name := "topCorners", fn := fun _ => fun
  | [d1, d2, d3, d4] => { results := [.lit (.bool false)], args := [d1, d2, d3, d4] }
  | _ => none }
def TopCornersWrongFalsely : Prop := topCornersRow.holds Tryz.pinned (OpenSpec.ofChange topCornersWrong)

/- THE SECOND FORM. 'bulk': how many values and letters a reading holds, each counted each time it is reached (what is shared counts as often as it is met; a slice's spare places count too). A statement '..UptoSaid' is the law's where the arguments, and the package variables that the reading takes, are together of bulk at most 1048576: NARROWER than '..Said'. Prove '..Said' where nothing that the law and all that it calls make is longer than what came in: it says more and counts as full. Else prove '..UptoSaid'. A law counts once. -/
mutual
def uptoBulk {H : Type} : DataW H → Nat
  | .lit (.string bytes) => bytes.length + 1
  | .lit _ => 1
  | .nil => 1
  | .ptr d => uptoBulk d + 1
  | .slice elems spare => uptoBulkAll elems + uptoBulkAll spare + 1
  | .agg parts => uptoBulkAll parts + 1
  | .iface _ d => uptoBulk d + 1
  | .map entries => uptoBulkEntries entries + 1
  | .held _ => 1
def uptoBulkAll {H : Type} : List (DataW H) → Nat
  | [] => 0
  | d :: r => uptoBulk d + uptoBulkAll r
def uptoBulkEntries {H : Type} : List (Lit × DataW H) → Nat
  | [] => 0
  | x :: r => uptoBulkEntry x + uptoBulkEntries r
def uptoBulkEntry {H : Type} : Lit × DataW H → Nat
  | (.string bytes, d) => bytes.length + uptoBulk d + 1
  | (_, d) => uptoBulk d + 1
 end
def uptoSmall : (H : Type) → List (DataW H) → Bool := fun _ ds => decide (uptoBulkAll ds ≤ 1048576)
def OpenSpec.upto (s : _root_.Go.ChangeSpec) : _root_.Go.OpenSpec := { _root_.Go.OpenSpec.ofChange s with cond := some uptoSmall }

/-- 'gridironlaw23.PointsOrder', WHERE WHAT IT READS IS OF BULK AT MOST 1048576: true; the input reads as it did. -/
def pointsOrderUptoRow : OpenClaim := { program := "ytkjdbndekceffaagreat", sum := "333421e6ed17302f8d99b47cba23845985c291e477718a5bc418df2b4566cfb4", func := "gridiron/gridironlaw23.PointsOrder", spec := "pointsOrder", inPlace := ["sync/atomic.LoadUint32", "(*internal/sync.Mutex).Lock", "internal/race.Disable", "sync/atomic.CompareAndSwapInt32", "internal/race.Enable", "internal/race.Acquire", "(*internal/sync.Mutex).lockSlow", "internal/sync.runtime_canSpin", "internal/sync.runtime_doSpin", "internal/sync.throw", "internal/sync.runtime_nanotime", "internal/sync.runtime_SemacquireMutex", "sync/atomic.AddInt32", "(*internal/sync.Mutex).Unlock", "internal/race.ReleaseMerge", "(*internal/sync.Mutex).unlockSlow", "internal/sync.fatal", "internal/sync.runtime_Semrelease", "sync/atomic.StoreUint32", "sync/atomic.AddInt64"], unfollowed := true, recurses := true, plainKeys := false, apart := false, narrowed := true }
def PointsOrderUptoSaid : Prop := pointsOrderUptoRow.holds Tryz.pinned (OpenSpec.upto pointsOrderSpec)

/-- 'gridironlaw23.PointsSky', WHERE WHAT IT READS IS OF BULK AT MOST 1048576: true; the input reads as it did. -/
def pointsSkyUptoRow : OpenClaim := { program := "ytkjdbndekceffaagreat", sum := "333421e6ed17302f8d99b47cba23845985c291e477718a5bc418df2b4566cfb4", func := "gridiron/gridironlaw23.PointsSky", spec := "pointsSky", inPlace := ["sync/atomic.LoadUint32", "(*internal/sync.Mutex).Lock", "internal/race.Disable", "sync/atomic.CompareAndSwapInt32", "internal/race.Enable", "internal/race.Acquire", "(*internal/sync.Mutex).lockSlow", "internal/sync.runtime_canSpin", "internal/sync.runtime_doSpin", "internal/sync.throw", "internal/sync.runtime_nanotime", "internal/sync.runtime_SemacquireMutex", "sync/atomic.AddInt32", "(*internal/sync.Mutex).Unlock", "internal/race.ReleaseMerge", "(*internal/sync.Mutex).unlockSlow", "internal/sync.fatal", "internal/sync.runtime_Semrelease", "sync/atomic.StoreUint32", "sync/atomic.AddInt64"], unfollowed := true, recurses := true, plainKeys := false, apart := false, narrowed := true }
def PointsSkyUptoSaid : Prop := pointsSkyUptoRow.holds Tryz.pinned (OpenSpec.upto pointsSkySpec)

/-- 'gridironlaw23.PointsSides', WHERE WHAT IT READS IS OF BULK AT MOST 1048576: true; the input reads as it did. -/
def pointsSidesUptoRow : OpenClaim := { program := "ytkjdbndekceffaagreat", sum := "333421e6ed17302f8d99b47cba23845985c291e477718a5bc418df2b4566cfb4", func := "gridiron/gridironlaw23.PointsSides", spec := "pointsSides", inPlace := ["sync/atomic.LoadUint32", "(*internal/sync.Mutex).Lock", "internal/race.Disable", "sync/atomic.CompareAndSwapInt32", "internal/race.Enable", "internal/race.Acquire", "(*internal/sync.Mutex).lockSlow", "internal/sync.runtime_canSpin", "internal/sync.runtime_doSpin", "internal/sync.throw", "internal/sync.runtime_nanotime", "internal/sync.runtime_SemacquireMutex", "sync/atomic.AddInt32", "(*internal/sync.Mutex).Unlock", "internal/race.ReleaseMerge", "(*internal/sync.Mutex).unlockSlow", "internal/sync.fatal", "internal/sync.runtime_Semrelease", "sync/atomic.StoreUint32", "sync/atomic.AddInt64"], unfollowed := true, recurses := true, plainKeys := false, apart := false, narrowed := true }
def PointsSidesUptoSaid : Prop := pointsSidesUptoRow.holds Tryz.pinned (OpenSpec.upto pointsSidesSpec)

/-- 'gridironlaw23.PointsTell', WHERE WHAT IT READS IS OF BULK AT MOST 1048576: true; the input reads as it did. -/
def pointsTellUptoRow : OpenClaim := { program := "ytkjdbndekceffaagreat", sum := "333421e6ed17302f8d99b47cba23845985c291e477718a5bc418df2b4566cfb4", func := "gridiron/gridironlaw23.PointsTell", spec := "pointsTell", inPlace := ["sync/atomic.LoadUint32", "(*internal/sync.Mutex).Lock", "internal/race.Disable", "sync/atomic.CompareAndSwapInt32", "internal/race.Enable", "internal/race.Acquire", "(*internal/sync.Mutex).lockSlow", "internal/sync.runtime_canSpin", "internal/sync.runtime_doSpin", "internal/sync.throw", "internal/sync.runtime_nanotime", "internal/sync.runtime_SemacquireMutex", "sync/atomic.AddInt32", "(*internal/sync.Mutex).Unlock", "internal/race.ReleaseMerge", "(*internal/sync.Mutex).unlockSlow", "internal/sync.fatal", "internal/sync.runtime_Semrelease", "sync/atomic.StoreUint32", "sync/atomic.AddInt64"], unfollowed := true, recurses := true, plainKeys := false, apart := false, narrowed := true }
def PointsTellUptoSaid : Prop := pointsTellUptoRow.holds Tryz.pinned (OpenSpec.upto pointsTellSpec)

/-- 'gridironlaw23.PointsBound', WHERE WHAT IT READS IS OF BULK AT MOST 1048576: true; the input reads as it did. -/
def pointsBoundUptoRow : OpenClaim := { program := "ytkjdbndekceffaagreat", sum := "333421e6ed17302f8d99b47cba23845985c291e477718a5bc418df2b4566cfb4", func := "gridiron/gridironlaw23.PointsBound", spec := "pointsBound", inPlace := ["sync/atomic.LoadUint32", "(*internal/sync.Mutex).Lock", "internal/race.Disable", "sync/atomic.CompareAndSwapInt32", "internal/race.Enable", "internal/race.Acquire", "(*internal/sync.Mutex).lockSlow", "internal/sync.runtime_canSpin", "internal/sync.runtime_doSpin", "internal/sync.throw", "internal/sync.runtime_nanotime", "internal/sync.runtime_SemacquireMutex", "sync/atomic.AddInt32", "(*internal/sync.Mutex).Unlock", "internal/race.ReleaseMerge", "(*internal/sync.Mutex).unlockSlow", "internal/sync.fatal", "internal/sync.runtime_Semrelease", "sync/atomic.StoreUint32", "sync/atomic.AddInt64", "sync/atomic.LoadInt64"], unfollowed := true, recurses := true, plainKeys := false, apart := false, narrowed := true }
def PointsBoundUptoSaid : Prop := pointsBoundUptoRow.holds Tryz.pinned (OpenSpec.upto pointsBoundSpec)

/-- 'gridironlaw23.PointsNone', WHERE WHAT IT READS IS OF BULK AT MOST 1048576: true; the input reads as it did. -/
def pointsNoneUptoRow : OpenClaim := { program := "ytkjdbndekceffaagreat", sum := "333421e6ed17302f8d99b47cba23845985c291e477718a5bc418df2b4566cfb4", func := "gridiron/gridironlaw23.PointsNone", spec := "pointsNone", inPlace := ["sync/atomic.AddInt64", "sync/atomic.LoadUint32", "(*internal/sync.Mutex).Lock", "internal/race.Disable", "sync/atomic.CompareAndSwapInt32", "internal/race.Enable", "internal/race.Acquire", "(*internal/sync.Mutex).lockSlow", "internal/sync.runtime_canSpin", "internal/sync.runtime_doSpin", "internal/sync.throw", "internal/sync.runtime_nanotime", "internal/sync.runtime_SemacquireMutex", "sync/atomic.AddInt32", "(*internal/sync.Mutex).Unlock", "internal/race.ReleaseMerge", "(*internal/sync.Mutex).unlockSlow", "internal/sync.fatal", "internal/sync.runtime_Semrelease", "sync/atomic.StoreUint32", "sync/atomic.LoadInt64"], unfollowed := true, recurses := true, plainKeys := false, apart := false, narrowed := true }
def PointsNoneUptoSaid : Prop := pointsNoneUptoRow.holds Tryz.pinned (OpenSpec.upto pointsNoneSpec)

/-- 'gridirontop.TopStatic', WHERE WHAT IT READS IS OF BULK AT MOST 1048576: true; the input reads as it did. -/
def topStaticUptoRow : OpenClaim := { program := "ytkjdbndekceffaagreat", sum := "333421e6ed17302f8d99b47cba23845985c291e477718a5bc418df2b4566cfb4", func := "gridiron/gridirontop.TopStatic", spec := "topStatic", inPlace := ["sync/atomic.LoadUint32", "(*internal/sync.Mutex).Lock", "internal/race.Disable", "sync/atomic.CompareAndSwapInt32", "internal/race.Enable", "internal/race.Acquire", "(*internal/sync.Mutex).lockSlow", "internal/sync.runtime_canSpin", "internal/sync.runtime_doSpin", "internal/sync.throw", "internal/sync.runtime_nanotime", "internal/sync.runtime_SemacquireMutex", "sync/atomic.AddInt32", "(*internal/sync.Mutex).Unlock", "internal/race.ReleaseMerge", "(*internal/sync.Mutex).unlockSlow", "internal/sync.fatal", "internal/sync.runtime_Semrelease", "sync/atomic.StoreUint32", "sync/atomic.AddInt64"], unfollowed := true, recurses := true, plainKeys := false, apart := false, narrowed := true }
def TopStaticUptoSaid : Prop := topStaticUptoRow.holds Tryz.pinned (OpenSpec.upto topStaticSpec)

/-- 'gridirontop.TopCorners', WHERE WHAT IT READS IS OF BULK AT MOST 1048576: true; the input reads as it did. -/
def topCornersUptoRow : OpenClaim := { program := "ytkjdbndekceffaagreat", sum := "333421e6ed17302f8d99b47cba23845985c291e477718a5bc418df2b4566cfb4", func := "gridiron/gridirontop.TopCorners", spec := "topCorners", inPlace := ["sync/atomic.LoadUint32", "(*internal/sync.Mutex).Lock", "internal/race.Disable", "sync/atomic.CompareAndSwapInt32", "internal/race.Enable", "internal/race.Acquire", "(*internal/sync.Mutex).lockSlow", "internal/sync.runtime_canSpin", "internal/sync.runtime_doSpin", "internal/sync.throw", "internal/sync.runtime_nanotime", "internal/sync.runtime_SemacquireMutex", "sync/atomic.AddInt32", "(*internal/sync.Mutex).Unlock", "internal/race.ReleaseMerge", "(*internal/sync.Mutex).unlockSlow", "internal/sync.fatal", "internal/sync.runtime_Semrelease", "sync/atomic.StoreUint32", "sync/atomic.AddInt64"], unfollowed := true, recurses := true, plainKeys := false, apart := false, narrowed := true }
def TopCornersUptoSaid : Prop := topCornersUptoRow.holds Tryz.pinned (OpenSpec.upto topCornersSpec)

end Rows
end Go.Proofs.YtkjdbndekceffaaGreat
