/-
  No cell of these rows narrows 'for every input' (looked for: loops, veiled, ifaces, maps, wideKeys, modest, calm, conditions, laid).
  DERIVED. THE GIVEN ROWS OF THIS SEAT. 7 by the template 'for every input the law returns true; each argument reads behind the call as it read before'; 0 by the template 'total and deterministic' (their statements: YtdfgmieinbmfkaaGreatTotals.lean).
  GIVEN WITH THE SEED: the statements are not yours to turn. If you find one false, say at which input.
  Laid BY PROGRAM, IN A SANDBOX (cutbox-rows.mjs): the forced cells as the released guide's own fill.sh prints them over the translation 3b3f6ecf683b6b8c… (all of the seat's roots in one cut). By AI agents, Wed Nov 11 2026. No macro, syntax, notation, axiom, sorry.
-/
import Derived.Test.YtdfgmieinbmfkaaGreatChecked
import GoSem.Claim
import GoSem.ClaimJoined
import GoSem.ClaimMapViews
import Derived.JoinedTies
import Derived.KernelRfl
namespace Go.Proofs.YtdfgmieinbmfkaaGreat
/- THE CELL 'sum', in the pinned program and in every row, IS THE sha256 OF THE DUMP (.gsa) THAT YtdfgmieinbmfkaaGreatProg.lean LOADS. Nothing in Lean hashes anything: it is a label: what it is worth is what the hold of that sum in a sandbox is worth. -/
noncomputable def Tryz.pinned : Pinned := { name := "ytdfgmieinbmfkaagreat", sum := "3b3f6ecf683b6b8cab834fbfb3343420248f31d2ff11ee29e5b9b204be3fd969", checked := Tryz.checked }
namespace Rows
def none {H : Type} : Left H := { results := [], args := [] }

/-- 'twinlocklaw26.ClusterTokens': WHATEVER THE INPUT: true; the input reads as it did. -/
def clusterTokensSpec : ChangeSpec := { name := "clusterTokens", fn := fun _ => fun
  | [d1, d2, d3] => { results := [.lit (.bool true)], args := [d1, d2, d3] }
  | _ => none }
def clusterTokensRow : OpenClaim := { program := "ytdfgmieinbmfkaagreat", sum := "3b3f6ecf683b6b8cab834fbfb3343420248f31d2ff11ee29e5b9b204be3fd969", func := "twinlock/twinlocklaw26.ClusterTokens", spec := "clusterTokens", inPlace := ["internal/abi.NoEscape", "internal/bytealg.MakeNoZero", "internal/bytealg.CountString", "internal/bytealg.IndexByteString", "internal/bytealg.IndexString", "sync/atomic.LoadUint32", "(*internal/sync.Mutex).Lock", "internal/race.Disable", "sync/atomic.CompareAndSwapInt32", "internal/race.Enable", "internal/race.Acquire", "(*internal/sync.Mutex).lockSlow", "internal/sync.runtime_canSpin", "internal/sync.runtime_doSpin", "internal/sync.throw", "internal/sync.runtime_nanotime", "internal/sync.runtime_SemacquireMutex", "sync/atomic.AddInt32", "(*internal/sync.Mutex).Unlock", "internal/race.ReleaseMerge", "(*internal/sync.Mutex).unlockSlow", "internal/sync.fatal", "internal/sync.runtime_Semrelease", "sync/atomic.StoreUint32", "maps.clone", "sync/atomic.LoadUint64", "sync/atomic.AddUint64", "internal/bytealg.abigen_runtime_cmpstring", "slices.overlaps[twinlock/api.Pair]"], unfollowed := true, recurses := true, named := ["internal/bytealg.MaxLen"], plainKeys := false, apart := false }
def ClusterTokensSaid : Prop := clusterTokensRow.holds Tryz.pinned (OpenSpec.ofChange clusterTokensSpec)

/-- ITS FALSE NEIGHBOUR: 'it returns false'. Refute it at one input. -/
def clusterTokensWrong : ChangeSpec := { name := "clusterTokens", fn := fun _ => fun
  | [d1, d2, d3] => { results := [.lit (.bool false)], args := [d1, d2, d3] }
  | _ => none }
def ClusterTokensWrongFalsely : Prop := clusterTokensRow.holds Tryz.pinned (OpenSpec.ofChange clusterTokensWrong)

/-- 'twinlocklaw26.ClusterKnown': WHATEVER THE INPUT: true; the input reads as it did. -/
def clusterKnownSpec : ChangeSpec := { name := "clusterKnown", fn := fun _ => fun
  | [] => { results := [.lit (.bool true)], args := [] }
  | _ => none }
def clusterKnownRow : OpenClaim := { program := "ytdfgmieinbmfkaagreat", sum := "3b3f6ecf683b6b8cab834fbfb3343420248f31d2ff11ee29e5b9b204be3fd969", func := "twinlock/twinlocklaw26.ClusterKnown", spec := "clusterKnown", inPlace := ["internal/abi.NoEscape", "internal/bytealg.MakeNoZero", "internal/bytealg.CountString", "internal/bytealg.IndexByteString", "internal/bytealg.IndexString", "sync/atomic.LoadUint32", "(*internal/sync.Mutex).Lock", "internal/race.Disable", "sync/atomic.CompareAndSwapInt32", "internal/race.Enable", "internal/race.Acquire", "(*internal/sync.Mutex).lockSlow", "internal/sync.runtime_canSpin", "internal/sync.runtime_doSpin", "internal/sync.throw", "internal/sync.runtime_nanotime", "internal/sync.runtime_SemacquireMutex", "sync/atomic.AddInt32", "(*internal/sync.Mutex).Unlock", "internal/race.ReleaseMerge", "(*internal/sync.Mutex).unlockSlow", "internal/sync.fatal", "internal/sync.runtime_Semrelease", "sync/atomic.StoreUint32", "maps.clone", "sync/atomic.LoadUint64", "sync/atomic.AddUint64", "internal/bytealg.abigen_runtime_cmpstring", "slices.overlaps[twinlock/api.Pair]"], unfollowed := true, recurses := true, named := ["internal/bytealg.MaxLen"], plainKeys := false, apart := false }
def ClusterKnownSaid : Prop := clusterKnownRow.holds Tryz.pinned (OpenSpec.ofChange clusterKnownSpec)

/-- ITS FALSE NEIGHBOUR: 'it returns false'. Refute it at one input. -/
def clusterKnownWrong : ChangeSpec := { name := "clusterKnown", fn := fun _ => fun
  | [] => { results := [.lit (.bool false)], args := [] }
  | _ => none }
def ClusterKnownWrongFalsely : Prop := clusterKnownRow.holds Tryz.pinned (OpenSpec.ofChange clusterKnownWrong)

/-- 'twinlocklaw26.ClusterNobody': WHATEVER THE INPUT: true; the input reads as it did. -/
def clusterNobodySpec : ChangeSpec := { name := "clusterNobody", fn := fun _ => fun
  | [d1, d2] => { results := [.lit (.bool true)], args := [d1, d2] }
  | _ => none }
def clusterNobodyRow : OpenClaim := { program := "ytdfgmieinbmfkaagreat", sum := "3b3f6ecf683b6b8cab834fbfb3343420248f31d2ff11ee29e5b9b204be3fd969", func := "twinlock/twinlocklaw26.ClusterNobody", spec := "clusterNobody", inPlace := ["internal/abi.NoEscape", "internal/bytealg.MakeNoZero", "internal/bytealg.CountString", "internal/bytealg.IndexByteString", "internal/bytealg.IndexString", "sync/atomic.LoadUint32", "(*internal/sync.Mutex).Lock", "internal/race.Disable", "sync/atomic.CompareAndSwapInt32", "internal/race.Enable", "internal/race.Acquire", "(*internal/sync.Mutex).lockSlow", "internal/sync.runtime_canSpin", "internal/sync.runtime_doSpin", "internal/sync.throw", "internal/sync.runtime_nanotime", "internal/sync.runtime_SemacquireMutex", "sync/atomic.AddInt32", "(*internal/sync.Mutex).Unlock", "internal/race.ReleaseMerge", "(*internal/sync.Mutex).unlockSlow", "internal/sync.fatal", "internal/sync.runtime_Semrelease", "sync/atomic.StoreUint32", "maps.clone", "sync/atomic.LoadUint64", "sync/atomic.AddUint64", "internal/bytealg.abigen_runtime_cmpstring", "slices.overlaps[twinlock/api.Pair]"], unfollowed := true, recurses := true, named := ["internal/bytealg.MaxLen"], plainKeys := false, apart := false }
def ClusterNobodySaid : Prop := clusterNobodyRow.holds Tryz.pinned (OpenSpec.ofChange clusterNobodySpec)

/-- ITS FALSE NEIGHBOUR: 'it returns false'. Refute it at one input. -/
def clusterNobodyWrong : ChangeSpec := { name := "clusterNobody", fn := fun _ => fun
  | [d1, d2] => { results := [.lit (.bool false)], args := [d1, d2] }
  | _ => none }
def ClusterNobodyWrongFalsely : Prop := clusterNobodyRow.holds Tryz.pinned (OpenSpec.ofChange clusterNobodyWrong)

/-- 'twinlocklaw28.WorldNobody': WHATEVER THE INPUT: true; the input reads as it did. -/
def worldNobodySpec : ChangeSpec := { name := "worldNobody", fn := fun _ => fun
  | [d1, d2] => { results := [.lit (.bool true)], args := [d1, d2] }
  | _ => none }
def worldNobodyRow : OpenClaim := { program := "ytdfgmieinbmfkaagreat", sum := "3b3f6ecf683b6b8cab834fbfb3343420248f31d2ff11ee29e5b9b204be3fd969", func := "twinlock/twinlocklaw28.WorldNobody", spec := "worldNobody", inPlace := ["internal/abi.NoEscape", "internal/bytealg.MakeNoZero", "internal/bytealg.CountString", "internal/bytealg.IndexByteString", "internal/bytealg.IndexString", "sync/atomic.LoadUint32", "(*internal/sync.Mutex).Lock", "internal/race.Disable", "sync/atomic.CompareAndSwapInt32", "internal/race.Enable", "internal/race.Acquire", "(*internal/sync.Mutex).lockSlow", "internal/sync.runtime_canSpin", "internal/sync.runtime_doSpin", "internal/sync.throw", "internal/sync.runtime_nanotime", "internal/sync.runtime_SemacquireMutex", "sync/atomic.AddInt32", "(*internal/sync.Mutex).Unlock", "internal/race.ReleaseMerge", "(*internal/sync.Mutex).unlockSlow", "internal/sync.fatal", "internal/sync.runtime_Semrelease", "sync/atomic.StoreUint32", "maps.clone", "sync/atomic.LoadUint64", "sync/atomic.AddUint64", "internal/bytealg.abigen_runtime_cmpstring", "slices.overlaps[twinlock/api.Pair]"], unfollowed := true, recurses := true, named := ["internal/bytealg.MaxLen"], plainKeys := false, apart := false }
def WorldNobodySaid : Prop := worldNobodyRow.holds Tryz.pinned (OpenSpec.ofChange worldNobodySpec)

/-- ITS FALSE NEIGHBOUR: 'it returns false'. Refute it at one input. -/
def worldNobodyWrong : ChangeSpec := { name := "worldNobody", fn := fun _ => fun
  | [d1, d2] => { results := [.lit (.bool false)], args := [d1, d2] }
  | _ => none }
def WorldNobodyWrongFalsely : Prop := worldNobodyRow.holds Tryz.pinned (OpenSpec.ofChange worldNobodyWrong)

/-- 'twinlocklaw29.JudgeCollides': WHATEVER THE INPUT: true; the input reads as it did. -/
def judgeCollidesSpec : ChangeSpec := { name := "judgeCollides", fn := fun _ => fun
  | [d] => { results := [.lit (.bool true)], args := [d] }
  | _ => none }
def judgeCollidesRow : OpenClaim := { program := "ytdfgmieinbmfkaagreat", sum := "3b3f6ecf683b6b8cab834fbfb3343420248f31d2ff11ee29e5b9b204be3fd969", func := "twinlock/twinlocklaw29.JudgeCollides", spec := "judgeCollides", inPlace := ["internal/abi.NoEscape", "internal/bytealg.MakeNoZero", "internal/bytealg.CountString", "internal/bytealg.IndexByteString", "internal/bytealg.IndexString", "sync/atomic.LoadUint32", "(*internal/sync.Mutex).Lock", "internal/race.Disable", "sync/atomic.CompareAndSwapInt32", "internal/race.Enable", "internal/race.Acquire", "(*internal/sync.Mutex).lockSlow", "internal/sync.runtime_canSpin", "internal/sync.runtime_doSpin", "internal/sync.throw", "internal/sync.runtime_nanotime", "internal/sync.runtime_SemacquireMutex", "sync/atomic.AddInt32", "(*internal/sync.Mutex).Unlock", "internal/race.ReleaseMerge", "(*internal/sync.Mutex).unlockSlow", "internal/sync.fatal", "internal/sync.runtime_Semrelease", "sync/atomic.StoreUint32", "maps.clone", "sync/atomic.LoadUint64", "sync/atomic.AddUint64", "internal/bytealg.abigen_runtime_cmpstring", "slices.overlaps[twinlock/api.Pair]"], unfollowed := true, recurses := true, named := ["internal/bytealg.MaxLen"], plainKeys := false, apart := false }
def JudgeCollidesSaid : Prop := judgeCollidesRow.holds Tryz.pinned (OpenSpec.ofChange judgeCollidesSpec)

/-- ITS FALSE NEIGHBOUR: 'it returns false'. Refute it at one input. -/
def judgeCollidesWrong : ChangeSpec := { name := "judgeCollides", fn := fun _ => fun
  | [d] => { results := [.lit (.bool false)], args := [d] }
  | _ => none }
def JudgeCollidesWrongFalsely : Prop := judgeCollidesRow.holds Tryz.pinned (OpenSpec.ofChange judgeCollidesWrong)

/-- 'twinlocklaw29.JudgeKnown': WHATEVER THE INPUT: true; the input reads as it did. -/
def judgeKnownSpec : ChangeSpec := { name := "judgeKnown", fn := fun _ => fun
  | [] => { results := [.lit (.bool true)], args := [] }
  | _ => none }
def judgeKnownRow : OpenClaim := { program := "ytdfgmieinbmfkaagreat", sum := "3b3f6ecf683b6b8cab834fbfb3343420248f31d2ff11ee29e5b9b204be3fd969", func := "twinlock/twinlocklaw29.JudgeKnown", spec := "judgeKnown", inPlace := ["internal/abi.NoEscape", "internal/bytealg.MakeNoZero", "internal/bytealg.CountString", "internal/bytealg.IndexByteString", "internal/bytealg.IndexString", "sync/atomic.LoadUint32", "(*internal/sync.Mutex).Lock", "internal/race.Disable", "sync/atomic.CompareAndSwapInt32", "internal/race.Enable", "internal/race.Acquire", "(*internal/sync.Mutex).lockSlow", "internal/sync.runtime_canSpin", "internal/sync.runtime_doSpin", "internal/sync.throw", "internal/sync.runtime_nanotime", "internal/sync.runtime_SemacquireMutex", "sync/atomic.AddInt32", "(*internal/sync.Mutex).Unlock", "internal/race.ReleaseMerge", "(*internal/sync.Mutex).unlockSlow", "internal/sync.fatal", "internal/sync.runtime_Semrelease", "sync/atomic.StoreUint32", "maps.clone", "sync/atomic.LoadUint64", "sync/atomic.AddUint64", "internal/bytealg.abigen_runtime_cmpstring", "slices.overlaps[twinlock/api.Pair]"], unfollowed := true, recurses := true, named := ["internal/bytealg.MaxLen"], plainKeys := false, apart := false }
def JudgeKnownSaid : Prop := judgeKnownRow.holds Tryz.pinned (OpenSpec.ofChange judgeKnownSpec)

/-- ITS FALSE NEIGHBOUR: 'it returns false'. Refute it at one input. -/
def judgeKnownWrong : ChangeSpec := { name := "judgeKnown", fn := fun _ => fun
  | [] => { results := [.lit (.bool false)], args := [] }
  | _ => none }
def JudgeKnownWrongFalsely : Prop := judgeKnownRow.holds Tryz.pinned (OpenSpec.ofChange judgeKnownWrong)

/-- 'twinlocklaw29.JudgeNobody': WHATEVER THE INPUT: true; the input reads as it did. -/
def judgeNobodySpec : ChangeSpec := { name := "judgeNobody", fn := fun _ => fun
  | [d1, d2] => { results := [.lit (.bool true)], args := [d1, d2] }
  | _ => none }
def judgeNobodyRow : OpenClaim := { program := "ytdfgmieinbmfkaagreat", sum := "3b3f6ecf683b6b8cab834fbfb3343420248f31d2ff11ee29e5b9b204be3fd969", func := "twinlock/twinlocklaw29.JudgeNobody", spec := "judgeNobody", inPlace := ["internal/abi.NoEscape", "internal/bytealg.MakeNoZero", "internal/bytealg.CountString", "internal/bytealg.IndexByteString", "internal/bytealg.IndexString", "sync/atomic.LoadUint32", "(*internal/sync.Mutex).Lock", "internal/race.Disable", "sync/atomic.CompareAndSwapInt32", "internal/race.Enable", "internal/race.Acquire", "(*internal/sync.Mutex).lockSlow", "internal/sync.runtime_canSpin", "internal/sync.runtime_doSpin", "internal/sync.throw", "internal/sync.runtime_nanotime", "internal/sync.runtime_SemacquireMutex", "sync/atomic.AddInt32", "(*internal/sync.Mutex).Unlock", "internal/race.ReleaseMerge", "(*internal/sync.Mutex).unlockSlow", "internal/sync.fatal", "internal/sync.runtime_Semrelease", "sync/atomic.StoreUint32", "maps.clone", "sync/atomic.LoadUint64", "sync/atomic.AddUint64", "internal/bytealg.abigen_runtime_cmpstring", "slices.overlaps[twinlock/api.Pair]"], unfollowed := true, recurses := true, named := ["internal/bytealg.MaxLen"], plainKeys := false, apart := false }
def JudgeNobodySaid : Prop := judgeNobodyRow.holds Tryz.pinned (OpenSpec.ofChange judgeNobodySpec)

/-- ITS FALSE NEIGHBOUR: 'it returns false'. Refute it at one input. -/
def judgeNobodyWrong : ChangeSpec := { name := "judgeNobody", fn := fun _ => fun
  | [d1, d2] => { results := [.lit (.bool false)], args := [d1, d2] }
  | _ => none }
def JudgeNobodyWrongFalsely : Prop := judgeNobodyRow.holds Tryz.pinned (OpenSpec.ofChange judgeNobodyWrong)

/- THE SECOND FORM. 'bulk': how many values and letters a reading holds, each counted each time it is reached (what is shared counts as often as it is met; a slice's spare places count too). A statement '..UptoSaid' is the law's where the arguments, and the package variables that the reading takes, are together of bulk at most 1048576: NARROWER than '..Said'. Prove '..Said' where nothing that the law and all that it calls make is longer than what came in: it says more and counts as full. Else prove '..UptoSaid'. A law counts once. -/
mutual
def uptoBulk {H : Type} : DataW H → Nat
  | .lit (.string bytes) => bytes.length + 1
  | .lit _ => 1
  | .nil => 1
  | .ptr d => uptoBulk d + 1
  | .slice elems spare => uptoBulkAll elems + uptoBulkAll spare + 1
  | .agg parts => uptoBulkAll parts + 1
  | .iface _ d => uptoBulk d + 1
  | .map entries => uptoBulkEntries entries + 1
  | .held _ => 1
def uptoBulkAll {H : Type} : List (DataW H) → Nat
  | [] => 0
  | d :: r => uptoBulk d + uptoBulkAll r
def uptoBulkEntries {H : Type} : List (Lit × DataW H) → Nat
  | [] => 0
  | x :: r => uptoBulkEntry x + uptoBulkEntries r
def uptoBulkEntry {H : Type} : Lit × DataW H → Nat
  | (.string bytes, d) => bytes.length + uptoBulk d + 1
  | (_, d) => uptoBulk d + 1
 end
def uptoSmall : (H : Type) → List (DataW H) → Bool := fun _ ds => decide (uptoBulkAll ds ≤ 1048576)
def OpenSpec.upto (s : _root_.Go.ChangeSpec) : _root_.Go.OpenSpec := { _root_.Go.OpenSpec.ofChange s with cond := some uptoSmall }

/-- 'twinlocklaw26.ClusterTokens', WHERE WHAT IT READS IS OF BULK AT MOST 1048576: true; the input reads as it did. -/
def clusterTokensUptoRow : OpenClaim := { program := "ytdfgmieinbmfkaagreat", sum := "3b3f6ecf683b6b8cab834fbfb3343420248f31d2ff11ee29e5b9b204be3fd969", func := "twinlock/twinlocklaw26.ClusterTokens", spec := "clusterTokens", inPlace := ["internal/abi.NoEscape", "internal/bytealg.MakeNoZero", "internal/bytealg.CountString", "internal/bytealg.IndexByteString", "internal/bytealg.IndexString", "sync/atomic.LoadUint32", "(*internal/sync.Mutex).Lock", "internal/race.Disable", "sync/atomic.CompareAndSwapInt32", "internal/race.Enable", "internal/race.Acquire", "(*internal/sync.Mutex).lockSlow", "internal/sync.runtime_canSpin", "internal/sync.runtime_doSpin", "internal/sync.throw", "internal/sync.runtime_nanotime", "internal/sync.runtime_SemacquireMutex", "sync/atomic.AddInt32", "(*internal/sync.Mutex).Unlock", "internal/race.ReleaseMerge", "(*internal/sync.Mutex).unlockSlow", "internal/sync.fatal", "internal/sync.runtime_Semrelease", "sync/atomic.StoreUint32", "maps.clone", "sync/atomic.LoadUint64", "sync/atomic.AddUint64", "internal/bytealg.abigen_runtime_cmpstring", "slices.overlaps[twinlock/api.Pair]"], unfollowed := true, recurses := true, named := ["internal/bytealg.MaxLen"], plainKeys := false, apart := false, narrowed := true }
def ClusterTokensUptoSaid : Prop := clusterTokensUptoRow.holds Tryz.pinned (OpenSpec.upto clusterTokensSpec)

/-- 'twinlocklaw26.ClusterKnown', WHERE WHAT IT READS IS OF BULK AT MOST 1048576: true; the input reads as it did. -/
def clusterKnownUptoRow : OpenClaim := { program := "ytdfgmieinbmfkaagreat", sum := "3b3f6ecf683b6b8cab834fbfb3343420248f31d2ff11ee29e5b9b204be3fd969", func := "twinlock/twinlocklaw26.ClusterKnown", spec := "clusterKnown", inPlace := ["internal/abi.NoEscape", "internal/bytealg.MakeNoZero", "internal/bytealg.CountString", "internal/bytealg.IndexByteString", "internal/bytealg.IndexString", "sync/atomic.LoadUint32", "(*internal/sync.Mutex).Lock", "internal/race.Disable", "sync/atomic.CompareAndSwapInt32", "internal/race.Enable", "internal/race.Acquire", "(*internal/sync.Mutex).lockSlow", "internal/sync.runtime_canSpin", "internal/sync.runtime_doSpin", "internal/sync.throw", "internal/sync.runtime_nanotime", "internal/sync.runtime_SemacquireMutex", "sync/atomic.AddInt32", "(*internal/sync.Mutex).Unlock", "internal/race.ReleaseMerge", "(*internal/sync.Mutex).unlockSlow", "internal/sync.fatal", "internal/sync.runtime_Semrelease", "sync/atomic.StoreUint32", "maps.clone", "sync/atomic.LoadUint64", "sync/atomic.AddUint64", "internal/bytealg.abigen_runtime_cmpstring", "slices.overlaps[twinlock/api.Pair]"], unfollowed := true, recurses := true, named := ["internal/bytealg.MaxLen"], plainKeys := false, apart := false, narrowed := true }
def ClusterKnownUptoSaid : Prop := clusterKnownUptoRow.holds Tryz.pinned (OpenSpec.upto clusterKnownSpec)

/-- 'twinlocklaw26.ClusterNobody', WHERE WHAT IT READS IS OF BULK AT MOST 1048576: true; the input reads as it did. -/
def clusterNobodyUptoRow : OpenClaim := { program := "ytdfgmieinbmfkaagreat", sum := "3b3f6ecf683b6b8cab834fbfb3343420248f31d2ff11ee29e5b9b204be3fd969", func := "twinlock/twinlocklaw26.ClusterNobody", spec := "clusterNobody", inPlace := ["internal/abi.NoEscape", "internal/bytealg.MakeNoZero", "internal/bytealg.CountString", "internal/bytealg.IndexByteString", "internal/bytealg.IndexString", "sync/atomic.LoadUint32", "(*internal/sync.Mutex).Lock", "internal/race.Disable", "sync/atomic.CompareAndSwapInt32", "internal/race.Enable", "internal/race.Acquire", "(*internal/sync.Mutex).lockSlow", "internal/sync.runtime_canSpin", "internal/sync.runtime_doSpin", "internal/sync.throw", "internal/sync.runtime_nanotime", "internal/sync.runtime_SemacquireMutex", "sync/atomic.AddInt32", "(*internal/sync.Mutex).Unlock", "internal/race.ReleaseMerge", "(*internal/sync.Mutex).unlockSlow", "internal/sync.fatal", "internal/sync.runtime_Semrelease", "sync/atomic.StoreUint32", "maps.clone", "sync/atomic.LoadUint64", "sync/atomic.AddUint64", "internal/bytealg.abigen_runtime_cmpstring", "slices.overlaps[twinlock/api.Pair]"], unfollowed := true, recurses := true, named := ["internal/bytealg.MaxLen"], plainKeys := false, apart := false, narrowed := true }
def ClusterNobodyUptoSaid : Prop := clusterNobodyUptoRow.holds Tryz.pinned (OpenSpec.upto clusterNobodySpec)

/-- 'twinlocklaw28.WorldNobody', WHERE WHAT IT READS IS OF BULK AT MOST 1048576: true; the input reads as it did. -/
def worldNobodyUptoRow : OpenClaim := { program := "ytdfgmieinbmfkaagreat", sum := "3b3f6ecf683b6b8cab834fbfb3343420248f31d2ff11ee29e5b9b204be3fd969", func := "twinlock/twinlocklaw28.WorldNobody", spec := "worldNobody", inPlace := ["internal/abi.NoEscape", "internal/bytealg.MakeNoZero", "internal/bytealg.CountString", "internal/bytealg.IndexByteString", "internal/bytealg.IndexString", "sync/atomic.LoadUint32", "(*internal/sync.Mutex).Lock", "internal/race.Disable", "sync/atomic.CompareAndSwapInt32", "internal/race.Enable", "internal/race.Acquire", "(*internal/sync.Mutex).lockSlow", "internal/sync.runtime_canSpin", "internal/sync.runtime_doSpin", "internal/sync.throw", "internal/sync.runtime_nanotime", "internal/sync.runtime_SemacquireMutex", "sync/atomic.AddInt32", "(*internal/sync.Mutex).Unlock", "internal/race.ReleaseMerge", "(*internal/sync.Mutex).unlockSlow", "internal/sync.fatal", "internal/sync.runtime_Semrelease", "sync/atomic.StoreUint32", "maps.clone", "sync/atomic.LoadUint64", "sync/atomic.AddUint64", "internal/bytealg.abigen_runtime_cmpstring", "slices.overlaps[twinlock/api.Pair]"], unfollowed := true, recurses := true, named := ["internal/bytealg.MaxLen"], plainKeys := false, apart := false, narrowed := true }
def WorldNobodyUptoSaid : Prop := worldNobodyUptoRow.holds Tryz.pinned (OpenSpec.upto worldNobodySpec)

/-- 'twinlocklaw29.JudgeCollides', WHERE WHAT IT READS IS OF BULK AT MOST 1048576: true; the input reads as it did. -/
def judgeCollidesUptoRow : OpenClaim := { program := "ytdfgmieinbmfkaagreat", sum := "3b3f6ecf683b6b8cab834fbfb3343420248f31d2ff11ee29e5b9b204be3fd969", func := "twinlock/twinlocklaw29.JudgeCollides", spec := "judgeCollides", inPlace := ["internal/abi.NoEscape", "internal/bytealg.MakeNoZero", "internal/bytealg.CountString", "internal/bytealg.IndexByteString", "internal/bytealg.IndexString", "sync/atomic.LoadUint32", "(*internal/sync.Mutex).Lock", "internal/race.Disable", "sync/atomic.CompareAndSwapInt32", "internal/race.Enable", "internal/race.Acquire", "(*internal/sync.Mutex).lockSlow", "internal/sync.runtime_canSpin", "internal/sync.runtime_doSpin", "internal/sync.throw", "internal/sync.runtime_nanotime", "internal/sync.runtime_SemacquireMutex", "sync/atomic.AddInt32", "(*internal/sync.Mutex).Unlock", "internal/race.ReleaseMerge", "(*internal/sync.Mutex).unlockSlow", "internal/sync.fatal", "internal/sync.runtime_Semrelease", "sync/atomic.StoreUint32", "maps.clone", "sync/atomic.LoadUint64", "sync/atomic.AddUint64", "internal/bytealg.abigen_runtime_cmpstring", "slices.overlaps[twinlock/api.Pair]"], unfollowed := true, recurses := true, named := ["internal/bytealg.MaxLen"], plainKeys := false, apart := false, narrowed := true }
def JudgeCollidesUptoSaid : Prop := judgeCollidesUptoRow.holds Tryz.pinned (OpenSpec.upto judgeCollidesSpec)

/-- 'twinlocklaw29.JudgeKnown', WHERE WHAT IT READS IS OF BULK AT MOST 1048576: true; the input reads as it did. -/
def judgeKnownUptoRow : OpenClaim := { program := "ytdfgmieinbmfkaagreat", sum := "3b3f6ecf683b6b8cab834fbfb3343420248f31d2ff11ee29e5b9b204be3fd969", func := "twinlock/twinlocklaw29.JudgeKnown", spec := "judgeKnown", inPlace := ["internal/abi.NoEscape", "internal/bytealg.MakeNoZero", "internal/bytealg.CountString", "internal/bytealg.IndexByteString", "internal/bytealg.IndexString", "sync/atomic.LoadUint32", "(*internal/sync.Mutex).Lock", "internal/race.Disable", "sync/atomic.CompareAndSwapInt32", "internal/race.Enable", "internal/race.Acquire", "(*internal/sync.Mutex).lockSlow", "internal/sync.runtime_canSpin", "internal/sync.runtime_doSpin", "internal/sync.throw", "internal/sync.runtime_nanotime", "internal/sync.runtime_SemacquireMutex", "sync/atomic.AddInt32", "(*internal/sync.Mutex).Unlock", "internal/race.ReleaseMerge", "(*internal/sync.Mutex).unlockSlow", "internal/sync.fatal", "internal/sync.runtime_Semrelease", "sync/atomic.StoreUint32", "maps.clone", "sync/atomic.LoadUint64", "sync/atomic.AddUint64", "internal/bytealg.abigen_runtime_cmpstring", "slices.overlaps[twinlock/api.Pair]"], unfollowed := true, recurses := true, named := ["internal/bytealg.MaxLen"], plainKeys := false, apart := false, narrowed := true }
def JudgeKnownUptoSaid : Prop := judgeKnownUptoRow.holds Tryz.pinned (OpenSpec.upto judgeKnownSpec)

/-- 'twinlocklaw29.JudgeNobody', WHERE WHAT IT READS IS OF BULK AT MOST 1048576: true; the input reads as it did. -/
def judgeNobodyUptoRow : OpenClaim := { program := "ytdfgmieinbmfkaagreat", sum := "3b3f6ecf683b6b8cab834fbfb3343420248f31d2ff11ee29e5b9b204be3fd969", func := "twinlock/twinlocklaw29.JudgeNobody", spec := "judgeNobody", inPlace := ["internal/abi.NoEscape", "internal/bytealg.MakeNoZero", "internal/bytealg.CountString", "internal/bytealg.IndexByteString", "internal/bytealg.IndexString", "sync/atomic.LoadUint32", "(*internal/sync.Mutex).Lock", "internal/race.Disable", "sync/atomic.CompareAndSwapInt32", "internal/race.Enable", "internal/race.Acquire", "(*internal/sync.Mutex).lockSlow", "internal/sync.runtime_canSpin", "internal/sync.runtime_doSpin", "internal/sync.throw", "internal/sync.runtime_nanotime", "internal/sync.runtime_SemacquireMutex", "sync/atomic.AddInt32", "(*internal/sync.Mutex).Unlock", "internal/race.ReleaseMerge", "(*internal/sync.Mutex).unlockSlow", "internal/sync.fatal", "internal/sync.runtime_Semrelease", "sync/atomic.StoreUint32", "maps.clone", "sync/atomic.LoadUint64", "sync/atomic.AddUint64", "internal/bytealg.abigen_runtime_cmpstring", "slices.overlaps[twinlock/api.Pair]"], unfollowed := true, recurses := true, named := ["internal/bytealg.MaxLen"], plainKeys := false, apart := false, narrowed := true }
def JudgeNobodyUptoSaid : Prop := judgeNobodyUptoRow.holds Tryz.pinned (OpenSpec.upto judgeNobodySpec)

end Rows
end Go.Proofs.YtdfgmieinbmfkaaGreat
