/-
  No cell of these rows narrows 'for every input' (looked for: loops, veiled, ifaces, maps, wideKeys, modest, calm, conditions, laid).
  DERIVED. THE GIVEN ROWS OF THIS SEAT. 21 by the template 'for every input the law returns true; each argument reads behind the call as it read before'; 0 by the template 'total and deterministic' (their statements: YtafgohnpnaiomaaTotals.lean).
  GIVEN WITH THE SEED: the statements are not yours to turn. If you find one false, say at which input.
  Laid BY PROGRAM, IN A SANDBOX (cutbox-rows.mjs): the forced cells as the released guide's own fill.sh prints them over the translation 75c8375d67dc4fe5… (all of the seat's roots in one cut). By AI agents, Wed Nov 11 2026. No macro, syntax, notation, axiom, sorry.
-/
import Derived.Test.YtafgohnpnaiomaaChecked
import GoSem.Claim
import GoSem.ClaimJoined
import GoSem.ClaimMapViews
import Derived.JoinedTies
import Derived.KernelRfl
namespace Go.Proofs.Ytafgohnpnaiomaa
/- THE CELL 'sum', in the pinned program and in every row, IS THE sha256 OF THE DUMP (.gsa) THAT YtafgohnpnaiomaaProg.lean LOADS. Nothing in Lean hashes anything: it is a label: what it is worth is what the hold of that sum in a sandbox is worth. -/
noncomputable def Try.pinned : Pinned := { name := "ytafgohnpnaiomaa", sum := "75c8375d67dc4fe580f734a62a9ab00fdba6b690027ea78253b56f6f94cffbd4", checked := Try.checked }
namespace Rows
def none {H : Type} : Left H := { results := [], args := [] }

/-- 'twinlocklaw09.KeptApart': WHATEVER THE INPUT: true; the input reads as it did. -/
def keptApartSpec : ChangeSpec := { name := "keptApart", fn := fun _ => fun
  | [d] => { results := [.lit (.bool true)], args := [d] }
  | _ => none }
def keptApartRow : OpenClaim := { program := "ytafgohnpnaiomaa", sum := "75c8375d67dc4fe580f734a62a9ab00fdba6b690027ea78253b56f6f94cffbd4", func := "twinlock/twinlocklaw09.KeptApart", spec := "keptApart", inPlace := ["internal/abi.NoEscape", "internal/bytealg.MakeNoZero", "internal/bytealg.CountString", "internal/bytealg.IndexByteString", "internal/bytealg.IndexString"], named := ["internal/bytealg.MaxLen"], apart := false }
def KeptApartSaid : Prop := keptApartRow.holds Try.pinned (OpenSpec.ofChange keptApartSpec)

/-- ITS FALSE NEIGHBOUR: 'it returns false'. Refute it at one input. -/
def keptApartWrong : ChangeSpec := { name := "keptApart", fn := fun _ => fun
  | [d] => { results := [.lit (.bool false)], args := [d] }
  | _ => none }
def KeptApartWrongFalsely : Prop := keptApartRow.holds Try.pinned (OpenSpec.ofChange keptApartWrong)

/-- 'twinlocklaw09.KeptAgain': WHATEVER THE INPUT: true; the input reads as it did. -/
def keptAgainSpec : ChangeSpec := { name := "keptAgain", fn := fun _ => fun
  | [d] => { results := [.lit (.bool true)], args := [d] }
  | _ => none }
def keptAgainRow : OpenClaim := { program := "ytafgohnpnaiomaa", sum := "75c8375d67dc4fe580f734a62a9ab00fdba6b690027ea78253b56f6f94cffbd4", func := "twinlock/twinlocklaw09.KeptAgain", spec := "keptAgain", inPlace := ["internal/abi.NoEscape", "internal/bytealg.MakeNoZero", "internal/bytealg.CountString", "internal/bytealg.IndexByteString", "internal/bytealg.IndexString"], named := ["internal/bytealg.MaxLen"], apart := false }
def KeptAgainSaid : Prop := keptAgainRow.holds Try.pinned (OpenSpec.ofChange keptAgainSpec)

/-- ITS FALSE NEIGHBOUR: 'it returns false'. Refute it at one input. -/
def keptAgainWrong : ChangeSpec := { name := "keptAgain", fn := fun _ => fun
  | [d] => { results := [.lit (.bool false)], args := [d] }
  | _ => none }
def KeptAgainWrongFalsely : Prop := keptAgainRow.holds Try.pinned (OpenSpec.ofChange keptAgainWrong)

/-- 'twinlocklaw09.KeptSpoilt': WHATEVER THE INPUT: true; the input reads as it did. -/
def keptSpoiltSpec : ChangeSpec := { name := "keptSpoilt", fn := fun _ => fun
  | [d1, d2, d3, d4] => { results := [.lit (.bool true)], args := [d1, d2, d3, d4] }
  | _ => none }
def keptSpoiltRow : OpenClaim := { program := "ytafgohnpnaiomaa", sum := "75c8375d67dc4fe580f734a62a9ab00fdba6b690027ea78253b56f6f94cffbd4", func := "twinlock/twinlocklaw09.KeptSpoilt", spec := "keptSpoilt", inPlace := ["internal/abi.NoEscape", "internal/bytealg.MakeNoZero", "internal/bytealg.CountString", "internal/bytealg.IndexByteString", "internal/bytealg.IndexString"], named := ["internal/bytealg.MaxLen"], apart := false }
def KeptSpoiltSaid : Prop := keptSpoiltRow.holds Try.pinned (OpenSpec.ofChange keptSpoiltSpec)

/-- ITS FALSE NEIGHBOUR: 'it returns false'. Refute it at one input. -/
def keptSpoiltWrong : ChangeSpec := { name := "keptSpoilt", fn := fun _ => fun
  | [d1, d2, d3, d4] => { results := [.lit (.bool false)], args := [d1, d2, d3, d4] }
  | _ => none }
def KeptSpoiltWrongFalsely : Prop := keptSpoiltRow.holds Try.pinned (OpenSpec.ofChange keptSpoiltWrong)

/-- 'twinlocklaw10.LogKnown': WHATEVER THE INPUT: true; the input reads as it did. -/
def logKnownSpec : ChangeSpec := { name := "logKnown", fn := fun _ => fun
  | [] => { results := [.lit (.bool true)], args := [] }
  | _ => none }
def logKnownRow : OpenClaim := { program := "ytafgohnpnaiomaa", sum := "75c8375d67dc4fe580f734a62a9ab00fdba6b690027ea78253b56f6f94cffbd4", func := "twinlock/twinlocklaw10.LogKnown", spec := "logKnown", inPlace := ["internal/abi.NoEscape", "internal/bytealg.MakeNoZero", "internal/bytealg.CountString", "internal/bytealg.IndexByteString", "internal/bytealg.IndexString"], unfollowed := true, recurses := true, named := ["internal/bytealg.MaxLen"], apart := false }
def LogKnownSaid : Prop := logKnownRow.holds Try.pinned (OpenSpec.ofChange logKnownSpec)

/-- ITS FALSE NEIGHBOUR: 'it returns false'. Refute it at one input. -/
def logKnownWrong : ChangeSpec := { name := "logKnown", fn := fun _ => fun
  | [] => { results := [.lit (.bool false)], args := [] }
  | _ => none }
def LogKnownWrongFalsely : Prop := logKnownRow.holds Try.pinned (OpenSpec.ofChange logKnownWrong)

/-- 'twinlocklaw10.LogEpochs': WHATEVER THE INPUT: true; the input reads as it did. -/
def logEpochsSpec : ChangeSpec := { name := "logEpochs", fn := fun _ => fun
  | [d1, d2, d3, d4] => { results := [.lit (.bool true)], args := [d1, d2, d3, d4] }
  | _ => none }
def logEpochsRow : OpenClaim := { program := "ytafgohnpnaiomaa", sum := "75c8375d67dc4fe580f734a62a9ab00fdba6b690027ea78253b56f6f94cffbd4", func := "twinlock/twinlocklaw10.LogEpochs", spec := "logEpochs", inPlace := ["internal/abi.NoEscape", "internal/bytealg.MakeNoZero", "internal/bytealg.CountString", "internal/bytealg.IndexByteString", "internal/bytealg.IndexString"], unfollowed := true, recurses := true, named := ["internal/bytealg.MaxLen"], apart := false }
def LogEpochsSaid : Prop := logEpochsRow.holds Try.pinned (OpenSpec.ofChange logEpochsSpec)

/-- ITS FALSE NEIGHBOUR: 'it returns false'. Refute it at one input. -/
def logEpochsWrong : ChangeSpec := { name := "logEpochs", fn := fun _ => fun
  | [d1, d2, d3, d4] => { results := [.lit (.bool false)], args := [d1, d2, d3, d4] }
  | _ => none }
def LogEpochsWrongFalsely : Prop := logEpochsRow.holds Try.pinned (OpenSpec.ofChange logEpochsWrong)

/-- 'twinlocklaw10.LogRoom': WHATEVER THE INPUT: true; the input reads as it did. -/
def logRoomSpec : ChangeSpec := { name := "logRoom", fn := fun _ => fun
  | [d1, d2] => { results := [.lit (.bool true)], args := [d1, d2] }
  | _ => none }
def logRoomRow : OpenClaim := { program := "ytafgohnpnaiomaa", sum := "75c8375d67dc4fe580f734a62a9ab00fdba6b690027ea78253b56f6f94cffbd4", func := "twinlock/twinlocklaw10.LogRoom", spec := "logRoom", inPlace := ["internal/abi.NoEscape", "internal/bytealg.MakeNoZero", "internal/bytealg.CountString", "internal/bytealg.IndexByteString", "internal/bytealg.IndexString"], unfollowed := true, recurses := true, named := ["internal/bytealg.MaxLen"], apart := false }
def LogRoomSaid : Prop := logRoomRow.holds Try.pinned (OpenSpec.ofChange logRoomSpec)

/-- ITS FALSE NEIGHBOUR: 'it returns false'. Refute it at one input. -/
def logRoomWrong : ChangeSpec := { name := "logRoom", fn := fun _ => fun
  | [d1, d2] => { results := [.lit (.bool false)], args := [d1, d2] }
  | _ => none }
def LogRoomWrongFalsely : Prop := logRoomRow.holds Try.pinned (OpenSpec.ofChange logRoomWrong)

/-- 'twinlocklaw10.LogSpoilt': WHATEVER THE INPUT: true; the input reads as it did. -/
def logSpoiltSpec : ChangeSpec := { name := "logSpoilt", fn := fun _ => fun
  | [d1, d2, d3, d4, d5] => { results := [.lit (.bool true)], args := [d1, d2, d3, d4, d5] }
  | _ => none }
def logSpoiltRow : OpenClaim := { program := "ytafgohnpnaiomaa", sum := "75c8375d67dc4fe580f734a62a9ab00fdba6b690027ea78253b56f6f94cffbd4", func := "twinlock/twinlocklaw10.LogSpoilt", spec := "logSpoilt", inPlace := ["internal/abi.NoEscape", "internal/bytealg.MakeNoZero", "internal/bytealg.CountString", "internal/bytealg.IndexByteString", "internal/bytealg.IndexString"], unfollowed := true, recurses := true, named := ["internal/bytealg.MaxLen"], apart := false }
def LogSpoiltSaid : Prop := logSpoiltRow.holds Try.pinned (OpenSpec.ofChange logSpoiltSpec)

/-- ITS FALSE NEIGHBOUR: 'it returns false'. Refute it at one input. -/
def logSpoiltWrong : ChangeSpec := { name := "logSpoilt", fn := fun _ => fun
  | [d1, d2, d3, d4, d5] => { results := [.lit (.bool false)], args := [d1, d2, d3, d4, d5] }
  | _ => none }
def LogSpoiltWrongFalsely : Prop := logSpoiltRow.holds Try.pinned (OpenSpec.ofChange logSpoiltWrong)

/-- 'twinlocklaw07.DiskFuse': WHATEVER THE INPUT: true; the input reads as it did. -/
def diskFuseSpec : ChangeSpec := { name := "diskFuse", fn := fun _ => fun
  | [d1, d2, d3] => { results := [.lit (.bool true)], args := [d1, d2, d3] }
  | _ => none }
def diskFuseRow : OpenClaim := { program := "ytafgohnpnaiomaa", sum := "75c8375d67dc4fe580f734a62a9ab00fdba6b690027ea78253b56f6f94cffbd4", func := "twinlock/twinlocklaw07.DiskFuse", spec := "diskFuse", inPlace := ["internal/abi.NoEscape", "internal/bytealg.MakeNoZero"], unfollowed := true, recurses := true, apart := false }
def DiskFuseSaid : Prop := diskFuseRow.holds Try.pinned (OpenSpec.ofChange diskFuseSpec)

/-- ITS FALSE NEIGHBOUR: 'it returns false'. Refute it at one input. -/
def diskFuseWrong : ChangeSpec := { name := "diskFuse", fn := fun _ => fun
  | [d1, d2, d3] => { results := [.lit (.bool false)], args := [d1, d2, d3] }
  | _ => none }
def DiskFuseWrongFalsely : Prop := diskFuseRow.holds Try.pinned (OpenSpec.ofChange diskFuseWrong)

/-- 'twinlocklaw07.DiskSync': WHATEVER THE INPUT: true; the input reads as it did. -/
def diskSyncSpec : ChangeSpec := { name := "diskSync", fn := fun _ => fun
  | [d1, d2, d3, d4, d5] => { results := [.lit (.bool true)], args := [d1, d2, d3, d4, d5] }
  | _ => none }
def diskSyncRow : OpenClaim := { program := "ytafgohnpnaiomaa", sum := "75c8375d67dc4fe580f734a62a9ab00fdba6b690027ea78253b56f6f94cffbd4", func := "twinlock/twinlocklaw07.DiskSync", spec := "diskSync", inPlace := ["internal/abi.NoEscape", "internal/bytealg.MakeNoZero"], unfollowed := true, recurses := true, apart := false }
def DiskSyncSaid : Prop := diskSyncRow.holds Try.pinned (OpenSpec.ofChange diskSyncSpec)

/-- ITS FALSE NEIGHBOUR: 'it returns false'. Refute it at one input. -/
def diskSyncWrong : ChangeSpec := { name := "diskSync", fn := fun _ => fun
  | [d1, d2, d3, d4, d5] => { results := [.lit (.bool false)], args := [d1, d2, d3, d4, d5] }
  | _ => none }
def DiskSyncWrongFalsely : Prop := diskSyncRow.holds Try.pinned (OpenSpec.ofChange diskSyncWrong)

/-- 'twinlocklaw07.DiskCrash': WHATEVER THE INPUT: true; the input reads as it did. -/
def diskCrashSpec : ChangeSpec := { name := "diskCrash", fn := fun _ => fun
  | [d1, d2, d3] => { results := [.lit (.bool true)], args := [d1, d2, d3] }
  | _ => none }
def diskCrashRow : OpenClaim := { program := "ytafgohnpnaiomaa", sum := "75c8375d67dc4fe580f734a62a9ab00fdba6b690027ea78253b56f6f94cffbd4", func := "twinlock/twinlocklaw07.DiskCrash", spec := "diskCrash", inPlace := ["internal/abi.NoEscape", "internal/bytealg.MakeNoZero"], unfollowed := true, recurses := true, apart := false }
def DiskCrashSaid : Prop := diskCrashRow.holds Try.pinned (OpenSpec.ofChange diskCrashSpec)

/-- ITS FALSE NEIGHBOUR: 'it returns false'. Refute it at one input. -/
def diskCrashWrong : ChangeSpec := { name := "diskCrash", fn := fun _ => fun
  | [d1, d2, d3] => { results := [.lit (.bool false)], args := [d1, d2, d3] }
  | _ => none }
def DiskCrashWrongFalsely : Prop := diskCrashRow.holds Try.pinned (OpenSpec.ofChange diskCrashWrong)

/-- 'twinlocklaw07.DiskKnown': WHATEVER THE INPUT: true; the input reads as it did. -/
def diskKnownSpec : ChangeSpec := { name := "diskKnown", fn := fun _ => fun
  | [] => { results := [.lit (.bool true)], args := [] }
  | _ => none }
def diskKnownRow : OpenClaim := { program := "ytafgohnpnaiomaa", sum := "75c8375d67dc4fe580f734a62a9ab00fdba6b690027ea78253b56f6f94cffbd4", func := "twinlock/twinlocklaw07.DiskKnown", spec := "diskKnown", inPlace := ["internal/abi.NoEscape", "internal/bytealg.MakeNoZero"], unfollowed := true, recurses := true, apart := false }
def DiskKnownSaid : Prop := diskKnownRow.holds Try.pinned (OpenSpec.ofChange diskKnownSpec)

/-- ITS FALSE NEIGHBOUR: 'it returns false'. Refute it at one input. -/
def diskKnownWrong : ChangeSpec := { name := "diskKnown", fn := fun _ => fun
  | [] => { results := [.lit (.bool false)], args := [] }
  | _ => none }
def DiskKnownWrongFalsely : Prop := diskKnownRow.holds Try.pinned (OpenSpec.ofChange diskKnownWrong)

/-- 'twinlocklaw07.DiskPlays': WHATEVER THE INPUT: true; the input reads as it did. -/
def diskPlaysSpec : ChangeSpec := { name := "diskPlays", fn := fun _ => fun
  | [d1, d2] => { results := [.lit (.bool true)], args := [d1, d2] }
  | _ => none }
def diskPlaysRow : OpenClaim := { program := "ytafgohnpnaiomaa", sum := "75c8375d67dc4fe580f734a62a9ab00fdba6b690027ea78253b56f6f94cffbd4", func := "twinlock/twinlocklaw07.DiskPlays", spec := "diskPlays", inPlace := ["internal/abi.NoEscape", "internal/bytealg.MakeNoZero"], unfollowed := true, recurses := true, apart := false }
def DiskPlaysSaid : Prop := diskPlaysRow.holds Try.pinned (OpenSpec.ofChange diskPlaysSpec)

/-- ITS FALSE NEIGHBOUR: 'it returns false'. Refute it at one input. -/
def diskPlaysWrong : ChangeSpec := { name := "diskPlays", fn := fun _ => fun
  | [d1, d2] => { results := [.lit (.bool false)], args := [d1, d2] }
  | _ => none }
def DiskPlaysWrongFalsely : Prop := diskPlaysRow.holds Try.pinned (OpenSpec.ofChange diskPlaysWrong)

/-- 'twinlocklaw07.DiskNobody': WHATEVER THE INPUT: true; the input reads as it did. -/
def diskNobodySpec : ChangeSpec := { name := "diskNobody", fn := fun _ => fun
  | [d] => { results := [.lit (.bool true)], args := [d] }
  | _ => none }
def diskNobodyRow : OpenClaim := { program := "ytafgohnpnaiomaa", sum := "75c8375d67dc4fe580f734a62a9ab00fdba6b690027ea78253b56f6f94cffbd4", func := "twinlock/twinlocklaw07.DiskNobody", spec := "diskNobody", inPlace := ["internal/abi.NoEscape", "internal/bytealg.MakeNoZero"], unfollowed := true, recurses := true, apart := false }
def DiskNobodySaid : Prop := diskNobodyRow.holds Try.pinned (OpenSpec.ofChange diskNobodySpec)

/-- ITS FALSE NEIGHBOUR: 'it returns false'. Refute it at one input. -/
def diskNobodyWrong : ChangeSpec := { name := "diskNobody", fn := fun _ => fun
  | [d] => { results := [.lit (.bool false)], args := [d] }
  | _ => none }
def DiskNobodyWrongFalsely : Prop := diskNobodyRow.holds Try.pinned (OpenSpec.ofChange diskNobodyWrong)

/-- 'twinlocklaw07.DiskTwin': WHATEVER THE INPUT: true; the input reads as it did. -/
def diskTwinSpec : ChangeSpec := { name := "diskTwin", fn := fun _ => fun
  | [d1, d2, d3, d4] => { results := [.lit (.bool true)], args := [d1, d2, d3, d4] }
  | _ => none }
def diskTwinRow : OpenClaim := { program := "ytafgohnpnaiomaa", sum := "75c8375d67dc4fe580f734a62a9ab00fdba6b690027ea78253b56f6f94cffbd4", func := "twinlock/twinlocklaw07.DiskTwin", spec := "diskTwin", inPlace := ["internal/abi.NoEscape", "internal/bytealg.MakeNoZero"], unfollowed := true, recurses := true, apart := false }
def DiskTwinSaid : Prop := diskTwinRow.holds Try.pinned (OpenSpec.ofChange diskTwinSpec)

/-- ITS FALSE NEIGHBOUR: 'it returns false'. Refute it at one input. -/
def diskTwinWrong : ChangeSpec := { name := "diskTwin", fn := fun _ => fun
  | [d1, d2, d3, d4] => { results := [.lit (.bool false)], args := [d1, d2, d3, d4] }
  | _ => none }
def DiskTwinWrongFalsely : Prop := diskTwinRow.holds Try.pinned (OpenSpec.ofChange diskTwinWrong)

/-- 'twinlocklaw23.ArbiterBytes': WHATEVER THE INPUT: true; the input reads as it did. -/
def arbiterBytesSpec : ChangeSpec := { name := "arbiterBytes", fn := fun _ => fun
  | [d1, d2, d3] => { results := [.lit (.bool true)], args := [d1, d2, d3] }
  | _ => none }
def arbiterBytesRow : OpenClaim := { program := "ytafgohnpnaiomaa", sum := "75c8375d67dc4fe580f734a62a9ab00fdba6b690027ea78253b56f6f94cffbd4", func := "twinlock/twinlocklaw23.ArbiterBytes", spec := "arbiterBytes", inPlace := ["internal/abi.NoEscape", "internal/bytealg.MakeNoZero", "internal/bytealg.CountString", "internal/bytealg.IndexByteString", "internal/bytealg.IndexString"], named := ["internal/bytealg.MaxLen"], apart := false }
def ArbiterBytesSaid : Prop := arbiterBytesRow.holds Try.pinned (OpenSpec.ofChange arbiterBytesSpec)

/-- ITS FALSE NEIGHBOUR: 'it returns false'. Refute it at one input. -/
def arbiterBytesWrong : ChangeSpec := { name := "arbiterBytes", fn := fun _ => fun
  | [d1, d2, d3] => { results := [.lit (.bool false)], args := [d1, d2, d3] }
  | _ => none }
def ArbiterBytesWrongFalsely : Prop := arbiterBytesRow.holds Try.pinned (OpenSpec.ofChange arbiterBytesWrong)

/-- 'twinlocklaw23.ArbiterKnown': WHATEVER THE INPUT: true; the input reads as it did. -/
def arbiterKnownSpec : ChangeSpec := { name := "arbiterKnown", fn := fun _ => fun
  | [] => { results := [.lit (.bool true)], args := [] }
  | _ => none }
def arbiterKnownRow : OpenClaim := { program := "ytafgohnpnaiomaa", sum := "75c8375d67dc4fe580f734a62a9ab00fdba6b690027ea78253b56f6f94cffbd4", func := "twinlock/twinlocklaw23.ArbiterKnown", spec := "arbiterKnown", inPlace := ["internal/abi.NoEscape", "internal/bytealg.MakeNoZero", "internal/bytealg.CountString", "internal/bytealg.IndexByteString", "internal/bytealg.IndexString"], named := ["internal/bytealg.MaxLen"], apart := false }
def ArbiterKnownSaid : Prop := arbiterKnownRow.holds Try.pinned (OpenSpec.ofChange arbiterKnownSpec)

/-- ITS FALSE NEIGHBOUR: 'it returns false'. Refute it at one input. -/
def arbiterKnownWrong : ChangeSpec := { name := "arbiterKnown", fn := fun _ => fun
  | [] => { results := [.lit (.bool false)], args := [] }
  | _ => none }
def ArbiterKnownWrongFalsely : Prop := arbiterKnownRow.holds Try.pinned (OpenSpec.ofChange arbiterKnownWrong)

/-- 'twinlocklaw07.DiskSums': WHATEVER THE INPUT: true; the input reads as it did. -/
def diskSumsSpec : ChangeSpec := { name := "diskSums", fn := fun _ => fun
  | [d1, d2] => { results := [.lit (.bool true)], args := [d1, d2] }
  | _ => none }
def diskSumsRow : OpenClaim := { program := "ytafgohnpnaiomaa", sum := "75c8375d67dc4fe580f734a62a9ab00fdba6b690027ea78253b56f6f94cffbd4", func := "twinlock/twinlocklaw07.DiskSums", spec := "diskSums", inPlace := ["internal/abi.NoEscape", "internal/bytealg.MakeNoZero", "internal/bytealg.CountString", "internal/bytealg.IndexByteString", "internal/bytealg.IndexString"], unfollowed := true, recurses := true, named := ["internal/bytealg.MaxLen"], apart := false }
def DiskSumsSaid : Prop := diskSumsRow.holds Try.pinned (OpenSpec.ofChange diskSumsSpec)

/-- ITS FALSE NEIGHBOUR: 'it returns false'. Refute it at one input. -/
def diskSumsWrong : ChangeSpec := { name := "diskSums", fn := fun _ => fun
  | [d1, d2] => { results := [.lit (.bool false)], args := [d1, d2] }
  | _ => none }
def DiskSumsWrongFalsely : Prop := diskSumsRow.holds Try.pinned (OpenSpec.ofChange diskSumsWrong)

/-- 'twinlocklaw07.DiskSound': WHATEVER THE INPUT: true; the input reads as it did. -/
def diskSoundSpec : ChangeSpec := { name := "diskSound", fn := fun _ => fun
  | [d1, d2, d3] => { results := [.lit (.bool true)], args := [d1, d2, d3] }
  | _ => none }
def diskSoundRow : OpenClaim := { program := "ytafgohnpnaiomaa", sum := "75c8375d67dc4fe580f734a62a9ab00fdba6b690027ea78253b56f6f94cffbd4", func := "twinlock/twinlocklaw07.DiskSound", spec := "diskSound", inPlace := ["internal/abi.NoEscape", "internal/bytealg.MakeNoZero", "internal/bytealg.CountString", "internal/bytealg.IndexByteString", "internal/bytealg.IndexString"], unfollowed := true, recurses := true, named := ["internal/bytealg.MaxLen"], apart := false }
def DiskSoundSaid : Prop := diskSoundRow.holds Try.pinned (OpenSpec.ofChange diskSoundSpec)

/-- ITS FALSE NEIGHBOUR: 'it returns false'. Refute it at one input. -/
def diskSoundWrong : ChangeSpec := { name := "diskSound", fn := fun _ => fun
  | [d1, d2, d3] => { results := [.lit (.bool false)], args := [d1, d2, d3] }
  | _ => none }
def DiskSoundWrongFalsely : Prop := diskSoundRow.holds Try.pinned (OpenSpec.ofChange diskSoundWrong)

/-- 'twinlocklaw09.KeptKnown': WHATEVER THE INPUT: true; the input reads as it did. -/
def keptKnownSpec : ChangeSpec := { name := "keptKnown", fn := fun _ => fun
  | [] => { results := [.lit (.bool true)], args := [] }
  | _ => none }
def keptKnownRow : OpenClaim := { program := "ytafgohnpnaiomaa", sum := "75c8375d67dc4fe580f734a62a9ab00fdba6b690027ea78253b56f6f94cffbd4", func := "twinlock/twinlocklaw09.KeptKnown", spec := "keptKnown", inPlace := ["internal/abi.NoEscape", "internal/bytealg.MakeNoZero", "internal/bytealg.CountString", "internal/bytealg.IndexByteString", "internal/bytealg.IndexString"], unfollowed := true, recurses := true, named := ["internal/bytealg.MaxLen"], apart := false }
def KeptKnownSaid : Prop := keptKnownRow.holds Try.pinned (OpenSpec.ofChange keptKnownSpec)

/-- ITS FALSE NEIGHBOUR: 'it returns false'. Refute it at one input. -/
def keptKnownWrong : ChangeSpec := { name := "keptKnown", fn := fun _ => fun
  | [] => { results := [.lit (.bool false)], args := [] }
  | _ => none }
def KeptKnownWrongFalsely : Prop := keptKnownRow.holds Try.pinned (OpenSpec.ofChange keptKnownWrong)

/-- 'twinlocklaw09.KeptLasts': WHATEVER THE INPUT: true; the input reads as it did. -/
def keptLastsSpec : ChangeSpec := { name := "keptLasts", fn := fun _ => fun
  | [d] => { results := [.lit (.bool true)], args := [d] }
  | _ => none }
def keptLastsRow : OpenClaim := { program := "ytafgohnpnaiomaa", sum := "75c8375d67dc4fe580f734a62a9ab00fdba6b690027ea78253b56f6f94cffbd4", func := "twinlock/twinlocklaw09.KeptLasts", spec := "keptLasts", inPlace := ["internal/abi.NoEscape", "internal/bytealg.MakeNoZero", "internal/bytealg.CountString", "internal/bytealg.IndexByteString", "internal/bytealg.IndexString"], unfollowed := true, recurses := true, named := ["internal/bytealg.MaxLen"], apart := false }
def KeptLastsSaid : Prop := keptLastsRow.holds Try.pinned (OpenSpec.ofChange keptLastsSpec)

/-- ITS FALSE NEIGHBOUR: 'it returns false'. Refute it at one input. -/
def keptLastsWrong : ChangeSpec := { name := "keptLasts", fn := fun _ => fun
  | [d] => { results := [.lit (.bool false)], args := [d] }
  | _ => none }
def KeptLastsWrongFalsely : Prop := keptLastsRow.holds Try.pinned (OpenSpec.ofChange keptLastsWrong)

/-- 'twinlocklaw10.LogLasts': WHATEVER THE INPUT: true; the input reads as it did. -/
def logLastsSpec : ChangeSpec := { name := "logLasts", fn := fun _ => fun
  | [d1, d2] => { results := [.lit (.bool true)], args := [d1, d2] }
  | _ => none }
def logLastsRow : OpenClaim := { program := "ytafgohnpnaiomaa", sum := "75c8375d67dc4fe580f734a62a9ab00fdba6b690027ea78253b56f6f94cffbd4", func := "twinlock/twinlocklaw10.LogLasts", spec := "logLasts", inPlace := ["internal/abi.NoEscape", "internal/bytealg.MakeNoZero", "internal/bytealg.CountString", "internal/bytealg.IndexByteString", "internal/bytealg.IndexString"], unfollowed := true, recurses := true, named := ["internal/bytealg.MaxLen"], apart := false }
def LogLastsSaid : Prop := logLastsRow.holds Try.pinned (OpenSpec.ofChange logLastsSpec)

/-- ITS FALSE NEIGHBOUR: 'it returns false'. Refute it at one input. -/
def logLastsWrong : ChangeSpec := { name := "logLasts", fn := fun _ => fun
  | [d1, d2] => { results := [.lit (.bool false)], args := [d1, d2] }
  | _ => none }
def LogLastsWrongFalsely : Prop := logLastsRow.holds Try.pinned (OpenSpec.ofChange logLastsWrong)

/- THE SECOND FORM. 'bulk': how many values and letters a reading holds, each counted each time it is reached (what is shared counts as often as it is met; a slice's spare places count too). A statement '..UptoSaid' is the law's where the arguments, and the package variables that the reading takes, are together of bulk at most 1048576: NARROWER than '..Said'. Prove '..Said' where nothing that the law and all that it calls make is longer than what came in: it says more and counts as full. Else prove '..UptoSaid'. A law counts once. -/
mutual
def uptoBulk {H : Type} : DataW H → Nat
  | .lit (.string bytes) => bytes.length + 1
  | .lit _ => 1
  | .nil => 1
  | .ptr d => uptoBulk d + 1
  | .slice elems spare => uptoBulkAll elems + uptoBulkAll spare + 1
  | .agg parts => uptoBulkAll parts + 1
  | .iface _ d => uptoBulk d + 1
  | .map entries => uptoBulkEntries entries + 1
  | .held _ => 1
def uptoBulkAll {H : Type} : List (DataW H) → Nat
  | [] => 0
  | d :: r => uptoBulk d + uptoBulkAll r
def uptoBulkEntries {H : Type} : List (Lit × DataW H) → Nat
  | [] => 0
  | x :: r => uptoBulkEntry x + uptoBulkEntries r
def uptoBulkEntry {H : Type} : Lit × DataW H → Nat
  | (.string bytes, d) => bytes.length + uptoBulk d + 1
  | (_, d) => uptoBulk d + 1
 end
def uptoSmall : (H : Type) → List (DataW H) → Bool := fun _ ds => decide (uptoBulkAll ds ≤ 1048576)
def OpenSpec.upto (s : _root_.Go.ChangeSpec) : _root_.Go.OpenSpec := { _root_.Go.OpenSpec.ofChange s with cond := some uptoSmall }

/-- 'twinlocklaw09.KeptApart', WHERE WHAT IT READS IS OF BULK AT MOST 1048576: true; the input reads as it did. -/
def keptApartUptoRow : OpenClaim := { program := "ytafgohnpnaiomaa", sum := "75c8375d67dc4fe580f734a62a9ab00fdba6b690027ea78253b56f6f94cffbd4", func := "twinlock/twinlocklaw09.KeptApart", spec := "keptApart", inPlace := ["internal/abi.NoEscape", "internal/bytealg.MakeNoZero", "internal/bytealg.CountString", "internal/bytealg.IndexByteString", "internal/bytealg.IndexString"], named := ["internal/bytealg.MaxLen"], apart := false, narrowed := true }
def KeptApartUptoSaid : Prop := keptApartUptoRow.holds Try.pinned (OpenSpec.upto keptApartSpec)

/-- 'twinlocklaw09.KeptAgain', WHERE WHAT IT READS IS OF BULK AT MOST 1048576: true; the input reads as it did. -/
def keptAgainUptoRow : OpenClaim := { program := "ytafgohnpnaiomaa", sum := "75c8375d67dc4fe580f734a62a9ab00fdba6b690027ea78253b56f6f94cffbd4", func := "twinlock/twinlocklaw09.KeptAgain", spec := "keptAgain", inPlace := ["internal/abi.NoEscape", "internal/bytealg.MakeNoZero", "internal/bytealg.CountString", "internal/bytealg.IndexByteString", "internal/bytealg.IndexString"], named := ["internal/bytealg.MaxLen"], apart := false, narrowed := true }
def KeptAgainUptoSaid : Prop := keptAgainUptoRow.holds Try.pinned (OpenSpec.upto keptAgainSpec)

/-- 'twinlocklaw09.KeptSpoilt', WHERE WHAT IT READS IS OF BULK AT MOST 1048576: true; the input reads as it did. -/
def keptSpoiltUptoRow : OpenClaim := { program := "ytafgohnpnaiomaa", sum := "75c8375d67dc4fe580f734a62a9ab00fdba6b690027ea78253b56f6f94cffbd4", func := "twinlock/twinlocklaw09.KeptSpoilt", spec := "keptSpoilt", inPlace := ["internal/abi.NoEscape", "internal/bytealg.MakeNoZero", "internal/bytealg.CountString", "internal/bytealg.IndexByteString", "internal/bytealg.IndexString"], named := ["internal/bytealg.MaxLen"], apart := false, narrowed := true }
def KeptSpoiltUptoSaid : Prop := keptSpoiltUptoRow.holds Try.pinned (OpenSpec.upto keptSpoiltSpec)

/-- 'twinlocklaw10.LogKnown', WHERE WHAT IT READS IS OF BULK AT MOST 1048576: true; the input reads as it did. -/
def logKnownUptoRow : OpenClaim := { program := "ytafgohnpnaiomaa", sum := "75c8375d67dc4fe580f734a62a9ab00fdba6b690027ea78253b56f6f94cffbd4", func := "twinlock/twinlocklaw10.LogKnown", spec := "logKnown", inPlace := ["internal/abi.NoEscape", "internal/bytealg.MakeNoZero", "internal/bytealg.CountString", "internal/bytealg.IndexByteString", "internal/bytealg.IndexString"], unfollowed := true, recurses := true, named := ["internal/bytealg.MaxLen"], apart := false, narrowed := true }
def LogKnownUptoSaid : Prop := logKnownUptoRow.holds Try.pinned (OpenSpec.upto logKnownSpec)

/-- 'twinlocklaw10.LogEpochs', WHERE WHAT IT READS IS OF BULK AT MOST 1048576: true; the input reads as it did. -/
def logEpochsUptoRow : OpenClaim := { program := "ytafgohnpnaiomaa", sum := "75c8375d67dc4fe580f734a62a9ab00fdba6b690027ea78253b56f6f94cffbd4", func := "twinlock/twinlocklaw10.LogEpochs", spec := "logEpochs", inPlace := ["internal/abi.NoEscape", "internal/bytealg.MakeNoZero", "internal/bytealg.CountString", "internal/bytealg.IndexByteString", "internal/bytealg.IndexString"], unfollowed := true, recurses := true, named := ["internal/bytealg.MaxLen"], apart := false, narrowed := true }
def LogEpochsUptoSaid : Prop := logEpochsUptoRow.holds Try.pinned (OpenSpec.upto logEpochsSpec)

/-- 'twinlocklaw10.LogRoom', WHERE WHAT IT READS IS OF BULK AT MOST 1048576: true; the input reads as it did. -/
def logRoomUptoRow : OpenClaim := { program := "ytafgohnpnaiomaa", sum := "75c8375d67dc4fe580f734a62a9ab00fdba6b690027ea78253b56f6f94cffbd4", func := "twinlock/twinlocklaw10.LogRoom", spec := "logRoom", inPlace := ["internal/abi.NoEscape", "internal/bytealg.MakeNoZero", "internal/bytealg.CountString", "internal/bytealg.IndexByteString", "internal/bytealg.IndexString"], unfollowed := true, recurses := true, named := ["internal/bytealg.MaxLen"], apart := false, narrowed := true }
def LogRoomUptoSaid : Prop := logRoomUptoRow.holds Try.pinned (OpenSpec.upto logRoomSpec)

/-- 'twinlocklaw10.LogSpoilt', WHERE WHAT IT READS IS OF BULK AT MOST 1048576: true; the input reads as it did. -/
def logSpoiltUptoRow : OpenClaim := { program := "ytafgohnpnaiomaa", sum := "75c8375d67dc4fe580f734a62a9ab00fdba6b690027ea78253b56f6f94cffbd4", func := "twinlock/twinlocklaw10.LogSpoilt", spec := "logSpoilt", inPlace := ["internal/abi.NoEscape", "internal/bytealg.MakeNoZero", "internal/bytealg.CountString", "internal/bytealg.IndexByteString", "internal/bytealg.IndexString"], unfollowed := true, recurses := true, named := ["internal/bytealg.MaxLen"], apart := false, narrowed := true }
def LogSpoiltUptoSaid : Prop := logSpoiltUptoRow.holds Try.pinned (OpenSpec.upto logSpoiltSpec)

/-- 'twinlocklaw07.DiskFuse', WHERE WHAT IT READS IS OF BULK AT MOST 1048576: true; the input reads as it did. -/
def diskFuseUptoRow : OpenClaim := { program := "ytafgohnpnaiomaa", sum := "75c8375d67dc4fe580f734a62a9ab00fdba6b690027ea78253b56f6f94cffbd4", func := "twinlock/twinlocklaw07.DiskFuse", spec := "diskFuse", inPlace := ["internal/abi.NoEscape", "internal/bytealg.MakeNoZero"], unfollowed := true, recurses := true, apart := false, narrowed := true }
def DiskFuseUptoSaid : Prop := diskFuseUptoRow.holds Try.pinned (OpenSpec.upto diskFuseSpec)

/-- 'twinlocklaw07.DiskSync', WHERE WHAT IT READS IS OF BULK AT MOST 1048576: true; the input reads as it did. -/
def diskSyncUptoRow : OpenClaim := { program := "ytafgohnpnaiomaa", sum := "75c8375d67dc4fe580f734a62a9ab00fdba6b690027ea78253b56f6f94cffbd4", func := "twinlock/twinlocklaw07.DiskSync", spec := "diskSync", inPlace := ["internal/abi.NoEscape", "internal/bytealg.MakeNoZero"], unfollowed := true, recurses := true, apart := false, narrowed := true }
def DiskSyncUptoSaid : Prop := diskSyncUptoRow.holds Try.pinned (OpenSpec.upto diskSyncSpec)

/-- 'twinlocklaw07.DiskCrash', WHERE WHAT IT READS IS OF BULK AT MOST 1048576: true; the input reads as it did. -/
def diskCrashUptoRow : OpenClaim := { program := "ytafgohnpnaiomaa", sum := "75c8375d67dc4fe580f734a62a9ab00fdba6b690027ea78253b56f6f94cffbd4", func := "twinlock/twinlocklaw07.DiskCrash", spec := "diskCrash", inPlace := ["internal/abi.NoEscape", "internal/bytealg.MakeNoZero"], unfollowed := true, recurses := true, apart := false, narrowed := true }
def DiskCrashUptoSaid : Prop := diskCrashUptoRow.holds Try.pinned (OpenSpec.upto diskCrashSpec)

/-- 'twinlocklaw07.DiskKnown', WHERE WHAT IT READS IS OF BULK AT MOST 1048576: true; the input reads as it did. -/
def diskKnownUptoRow : OpenClaim := { program := "ytafgohnpnaiomaa", sum := "75c8375d67dc4fe580f734a62a9ab00fdba6b690027ea78253b56f6f94cffbd4", func := "twinlock/twinlocklaw07.DiskKnown", spec := "diskKnown", inPlace := ["internal/abi.NoEscape", "internal/bytealg.MakeNoZero"], unfollowed := true, recurses := true, apart := false, narrowed := true }
def DiskKnownUptoSaid : Prop := diskKnownUptoRow.holds Try.pinned (OpenSpec.upto diskKnownSpec)

/-- 'twinlocklaw07.DiskPlays', WHERE WHAT IT READS IS OF BULK AT MOST 1048576: true; the input reads as it did. -/
def diskPlaysUptoRow : OpenClaim := { program := "ytafgohnpnaiomaa", sum := "75c8375d67dc4fe580f734a62a9ab00fdba6b690027ea78253b56f6f94cffbd4", func := "twinlock/twinlocklaw07.DiskPlays", spec := "diskPlays", inPlace := ["internal/abi.NoEscape", "internal/bytealg.MakeNoZero"], unfollowed := true, recurses := true, apart := false, narrowed := true }
def DiskPlaysUptoSaid : Prop := diskPlaysUptoRow.holds Try.pinned (OpenSpec.upto diskPlaysSpec)

/-- 'twinlocklaw07.DiskNobody', WHERE WHAT IT READS IS OF BULK AT MOST 1048576: true; the input reads as it did. -/
def diskNobodyUptoRow : OpenClaim := { program := "ytafgohnpnaiomaa", sum := "75c8375d67dc4fe580f734a62a9ab00fdba6b690027ea78253b56f6f94cffbd4", func := "twinlock/twinlocklaw07.DiskNobody", spec := "diskNobody", inPlace := ["internal/abi.NoEscape", "internal/bytealg.MakeNoZero"], unfollowed := true, recurses := true, apart := false, narrowed := true }
def DiskNobodyUptoSaid : Prop := diskNobodyUptoRow.holds Try.pinned (OpenSpec.upto diskNobodySpec)

/-- 'twinlocklaw07.DiskTwin', WHERE WHAT IT READS IS OF BULK AT MOST 1048576: true; the input reads as it did. -/
def diskTwinUptoRow : OpenClaim := { program := "ytafgohnpnaiomaa", sum := "75c8375d67dc4fe580f734a62a9ab00fdba6b690027ea78253b56f6f94cffbd4", func := "twinlock/twinlocklaw07.DiskTwin", spec := "diskTwin", inPlace := ["internal/abi.NoEscape", "internal/bytealg.MakeNoZero"], unfollowed := true, recurses := true, apart := false, narrowed := true }
def DiskTwinUptoSaid : Prop := diskTwinUptoRow.holds Try.pinned (OpenSpec.upto diskTwinSpec)

/-- 'twinlocklaw23.ArbiterBytes', WHERE WHAT IT READS IS OF BULK AT MOST 1048576: true; the input reads as it did. -/
def arbiterBytesUptoRow : OpenClaim := { program := "ytafgohnpnaiomaa", sum := "75c8375d67dc4fe580f734a62a9ab00fdba6b690027ea78253b56f6f94cffbd4", func := "twinlock/twinlocklaw23.ArbiterBytes", spec := "arbiterBytes", inPlace := ["internal/abi.NoEscape", "internal/bytealg.MakeNoZero", "internal/bytealg.CountString", "internal/bytealg.IndexByteString", "internal/bytealg.IndexString"], named := ["internal/bytealg.MaxLen"], apart := false, narrowed := true }
def ArbiterBytesUptoSaid : Prop := arbiterBytesUptoRow.holds Try.pinned (OpenSpec.upto arbiterBytesSpec)

/-- 'twinlocklaw23.ArbiterKnown', WHERE WHAT IT READS IS OF BULK AT MOST 1048576: true; the input reads as it did. -/
def arbiterKnownUptoRow : OpenClaim := { program := "ytafgohnpnaiomaa", sum := "75c8375d67dc4fe580f734a62a9ab00fdba6b690027ea78253b56f6f94cffbd4", func := "twinlock/twinlocklaw23.ArbiterKnown", spec := "arbiterKnown", inPlace := ["internal/abi.NoEscape", "internal/bytealg.MakeNoZero", "internal/bytealg.CountString", "internal/bytealg.IndexByteString", "internal/bytealg.IndexString"], named := ["internal/bytealg.MaxLen"], apart := false, narrowed := true }
def ArbiterKnownUptoSaid : Prop := arbiterKnownUptoRow.holds Try.pinned (OpenSpec.upto arbiterKnownSpec)

/-- 'twinlocklaw07.DiskSums', WHERE WHAT IT READS IS OF BULK AT MOST 1048576: true; the input reads as it did. -/
def diskSumsUptoRow : OpenClaim := { program := "ytafgohnpnaiomaa", sum := "75c8375d67dc4fe580f734a62a9ab00fdba6b690027ea78253b56f6f94cffbd4", func := "twinlock/twinlocklaw07.DiskSums", spec := "diskSums", inPlace := ["internal/abi.NoEscape", "internal/bytealg.MakeNoZero", "internal/bytealg.CountString", "internal/bytealg.IndexByteString", "internal/bytealg.IndexString"], unfollowed := true, recurses := true, named := ["internal/bytealg.MaxLen"], apart := false, narrowed := true }
def DiskSumsUptoSaid : Prop := diskSumsUptoRow.holds Try.pinned (OpenSpec.upto diskSumsSpec)

/-- 'twinlocklaw07.DiskSound', WHERE WHAT IT READS IS OF BULK AT MOST 1048576: true; the input reads as it did. -/
def diskSoundUptoRow : OpenClaim := { program := "ytafgohnpnaiomaa", sum := "75c8375d67dc4fe580f734a62a9ab00fdba6b690027ea78253b56f6f94cffbd4", func := "twinlock/twinlocklaw07.DiskSound", spec := "diskSound", inPlace := ["internal/abi.NoEscape", "internal/bytealg.MakeNoZero", "internal/bytealg.CountString", "internal/bytealg.IndexByteString", "internal/bytealg.IndexString"], unfollowed := true, recurses := true, named := ["internal/bytealg.MaxLen"], apart := false, narrowed := true }
def DiskSoundUptoSaid : Prop := diskSoundUptoRow.holds Try.pinned (OpenSpec.upto diskSoundSpec)

/-- 'twinlocklaw09.KeptKnown', WHERE WHAT IT READS IS OF BULK AT MOST 1048576: true; the input reads as it did. -/
def keptKnownUptoRow : OpenClaim := { program := "ytafgohnpnaiomaa", sum := "75c8375d67dc4fe580f734a62a9ab00fdba6b690027ea78253b56f6f94cffbd4", func := "twinlock/twinlocklaw09.KeptKnown", spec := "keptKnown", inPlace := ["internal/abi.NoEscape", "internal/bytealg.MakeNoZero", "internal/bytealg.CountString", "internal/bytealg.IndexByteString", "internal/bytealg.IndexString"], unfollowed := true, recurses := true, named := ["internal/bytealg.MaxLen"], apart := false, narrowed := true }
def KeptKnownUptoSaid : Prop := keptKnownUptoRow.holds Try.pinned (OpenSpec.upto keptKnownSpec)

/-- 'twinlocklaw09.KeptLasts', WHERE WHAT IT READS IS OF BULK AT MOST 1048576: true; the input reads as it did. -/
def keptLastsUptoRow : OpenClaim := { program := "ytafgohnpnaiomaa", sum := "75c8375d67dc4fe580f734a62a9ab00fdba6b690027ea78253b56f6f94cffbd4", func := "twinlock/twinlocklaw09.KeptLasts", spec := "keptLasts", inPlace := ["internal/abi.NoEscape", "internal/bytealg.MakeNoZero", "internal/bytealg.CountString", "internal/bytealg.IndexByteString", "internal/bytealg.IndexString"], unfollowed := true, recurses := true, named := ["internal/bytealg.MaxLen"], apart := false, narrowed := true }
def KeptLastsUptoSaid : Prop := keptLastsUptoRow.holds Try.pinned (OpenSpec.upto keptLastsSpec)

/-- 'twinlocklaw10.LogLasts', WHERE WHAT IT READS IS OF BULK AT MOST 1048576: true; the input reads as it did. -/
def logLastsUptoRow : OpenClaim := { program := "ytafgohnpnaiomaa", sum := "75c8375d67dc4fe580f734a62a9ab00fdba6b690027ea78253b56f6f94cffbd4", func := "twinlock/twinlocklaw10.LogLasts", spec := "logLasts", inPlace := ["internal/abi.NoEscape", "internal/bytealg.MakeNoZero", "internal/bytealg.CountString", "internal/bytealg.IndexByteString", "internal/bytealg.IndexString"], unfollowed := true, recurses := true, named := ["internal/bytealg.MaxLen"], apart := false, narrowed := true }
def LogLastsUptoSaid : Prop := logLastsUptoRow.holds Try.pinned (OpenSpec.upto logLastsSpec)

end Rows
end Go.Proofs.Ytafgohnpnaiomaa
