/-
  No cell of these rows narrows 'for every input' (looked for: loops, veiled, ifaces, maps, wideKeys, modest, calm, conditions, laid).
  DERIVED. THE GIVEN ROWS OF THIS SEAT. 17 by the template 'for every input the law returns true; each argument reads behind the call as it read before'; 0 by the template 'total and deterministic' (their statements: YtiihllfjlgbfcaaTotals.lean).
  GIVEN WITH THE SEED: the statements are not yours to turn. If you find one false, say at which input.
  Laid BY PROGRAM, IN A SANDBOX (cutbox-rows.mjs): the forced cells as the released guide's own fill.sh prints them over the translation bcbff782543bed58… (all of the seat's roots in one cut). By AI agents, Wed Nov 11 2026. No macro, syntax, notation, axiom, sorry.
-/
import Derived.Test.YtiihllfjlgbfcaaChecked
import GoSem.Claim
import GoSem.ClaimJoined
import GoSem.ClaimMapViews
import Derived.JoinedTies
import Derived.KernelRfl
namespace Go.Proofs.Ytiihllfjlgbfcaa
/- THE CELL 'sum', in the pinned program and in every row, IS THE sha256 OF THE DUMP (.gsa) THAT YtiihllfjlgbfcaaProg.lean LOADS. Nothing in Lean hashes anything: it is a label: what it is worth is what the hold of that sum in a sandbox is worth. -/
noncomputable def Try.pinned : Pinned := { name := "ytiihllfjlgbfcaa", sum := "bcbff782543bed586b820998a5130e074345b5256f3ef919d3fcdbe455cb9424", checked := Try.checked }
namespace Rows
def none {H : Type} : Left H := { results := [], args := [] }

/-- 'voilelaw02.CrcSums': WHATEVER THE INPUT: true; the input reads as it did. -/
def crcSumsSpec : ChangeSpec := { name := "crcSums", fn := fun _ => fun
  | [d1, d2, d3] => { results := [.lit (.bool true)], args := [d1, d2, d3] }
  | _ => none }
def crcSumsRow : OpenClaim := { program := "ytiihllfjlgbfcaa", sum := "bcbff782543bed586b820998a5130e074345b5256f3ef919d3fcdbe455cb9424", func := "voile/voilelaw02.CrcSums", spec := "crcSums", unfollowed := true, recurses := true, apart := false }
def CrcSumsSaid : Prop := crcSumsRow.holds Try.pinned (OpenSpec.ofChange crcSumsSpec)

/-- ITS FALSE NEIGHBOUR: 'it returns false'. Refute it at one input. -/
def crcSumsWrong : ChangeSpec := { name := "crcSums", fn := fun _ => fun
  | [d1, d2, d3] => { results := [.lit (.bool false)], args := [d1, d2, d3] }
  | _ => none }
def CrcSumsWrongFalsely : Prop := crcSumsRow.holds Try.pinned (OpenSpec.ofChange crcSumsWrong)

/-- 'voilelaw02.CrcSeals': WHATEVER THE INPUT: true; the input reads as it did. -/
def crcSealsSpec : ChangeSpec := { name := "crcSeals", fn := fun _ => fun
  | [d1, d2] => { results := [.lit (.bool true)], args := [d1, d2] }
  | _ => none }
def crcSealsRow : OpenClaim := { program := "ytiihllfjlgbfcaa", sum := "bcbff782543bed586b820998a5130e074345b5256f3ef919d3fcdbe455cb9424", func := "voile/voilelaw02.CrcSeals", spec := "crcSeals", unfollowed := true, recurses := true, apart := false }
def CrcSealsSaid : Prop := crcSealsRow.holds Try.pinned (OpenSpec.ofChange crcSealsSpec)

/-- ITS FALSE NEIGHBOUR: 'it returns false'. Refute it at one input. -/
def crcSealsWrong : ChangeSpec := { name := "crcSeals", fn := fun _ => fun
  | [d1, d2] => { results := [.lit (.bool false)], args := [d1, d2] }
  | _ => none }
def CrcSealsWrongFalsely : Prop := crcSealsRow.holds Try.pinned (OpenSpec.ofChange crcSealsWrong)

/-- 'voilelaw02.CrcMeans': WHATEVER THE INPUT: true; the input reads as it did. -/
def crcMeansSpec : ChangeSpec := { name := "crcMeans", fn := fun _ => fun
  | [d1, d2, d3, d4] => { results := [.lit (.bool true)], args := [d1, d2, d3, d4] }
  | _ => none }
def crcMeansRow : OpenClaim := { program := "ytiihllfjlgbfcaa", sum := "bcbff782543bed586b820998a5130e074345b5256f3ef919d3fcdbe455cb9424", func := "voile/voilelaw02.CrcMeans", spec := "crcMeans", unfollowed := true, recurses := true, apart := false }
def CrcMeansSaid : Prop := crcMeansRow.holds Try.pinned (OpenSpec.ofChange crcMeansSpec)

/-- ITS FALSE NEIGHBOUR: 'it returns false'. Refute it at one input. -/
def crcMeansWrong : ChangeSpec := { name := "crcMeans", fn := fun _ => fun
  | [d1, d2, d3, d4] => { results := [.lit (.bool false)], args := [d1, d2, d3, d4] }
  | _ => none }
def CrcMeansWrongFalsely : Prop := crcMeansRow.holds Try.pinned (OpenSpec.ofChange crcMeansWrong)

/-- 'voilelaw07.PageMeans': WHATEVER THE INPUT: true; the input reads as it did. -/
def pageMeansSpec : ChangeSpec := { name := "pageMeans", fn := fun _ => fun
  | [d1, d2, d3, d4, d5, d6] => { results := [.lit (.bool true)], args := [d1, d2, d3, d4, d5, d6] }
  | _ => none }
def pageMeansRow : OpenClaim := { program := "ytiihllfjlgbfcaa", sum := "bcbff782543bed586b820998a5130e074345b5256f3ef919d3fcdbe455cb9424", func := "voile/voilelaw07.PageMeans", spec := "pageMeans", unfollowed := true, recurses := true, apart := false }
def PageMeansSaid : Prop := pageMeansRow.holds Try.pinned (OpenSpec.ofChange pageMeansSpec)

/-- ITS FALSE NEIGHBOUR: 'it returns false'. Refute it at one input. -/
def pageMeansWrong : ChangeSpec := { name := "pageMeans", fn := fun _ => fun
  | [d1, d2, d3, d4, d5, d6] => { results := [.lit (.bool false)], args := [d1, d2, d3, d4, d5, d6] }
  | _ => none }
def PageMeansWrongFalsely : Prop := pageMeansRow.holds Try.pinned (OpenSpec.ofChange pageMeansWrong)

/-- 'voilelaw03.DiskNone': WHATEVER THE INPUT: true; the input reads as it did. -/
def diskNoneSpec : ChangeSpec := { name := "diskNone", fn := fun _ => fun
  | [] => { results := [.lit (.bool true)], args := [] }
  | _ => none }
def diskNoneRow : OpenClaim := { program := "ytiihllfjlgbfcaa", sum := "bcbff782543bed586b820998a5130e074345b5256f3ef919d3fcdbe455cb9424", func := "voile/voilelaw03.DiskNone", spec := "diskNone", inPlace := ["slices.overlaps[int]"], unfollowed := true, recurses := true, apart := false }
def DiskNoneSaid : Prop := diskNoneRow.holds Try.pinned (OpenSpec.ofChange diskNoneSpec)

/-- ITS FALSE NEIGHBOUR: 'it returns false'. Refute it at one input. -/
def diskNoneWrong : ChangeSpec := { name := "diskNone", fn := fun _ => fun
  | [] => { results := [.lit (.bool false)], args := [] }
  | _ => none }
def DiskNoneWrongFalsely : Prop := diskNoneRow.holds Try.pinned (OpenSpec.ofChange diskNoneWrong)

/-- 'voilelaw07.PageParts': WHATEVER THE INPUT: true; the input reads as it did. -/
def pagePartsSpec : ChangeSpec := { name := "pageParts", fn := fun _ => fun
  | [d1, d2, d3, d4] => { results := [.lit (.bool true)], args := [d1, d2, d3, d4] }
  | _ => none }
def pagePartsRow : OpenClaim := { program := "ytiihllfjlgbfcaa", sum := "bcbff782543bed586b820998a5130e074345b5256f3ef919d3fcdbe455cb9424", func := "voile/voilelaw07.PageParts", spec := "pageParts", unfollowed := true, recurses := true, apart := false }
def PagePartsSaid : Prop := pagePartsRow.holds Try.pinned (OpenSpec.ofChange pagePartsSpec)

/-- ITS FALSE NEIGHBOUR: 'it returns false'. Refute it at one input. -/
def pagePartsWrong : ChangeSpec := { name := "pageParts", fn := fun _ => fun
  | [d1, d2, d3, d4] => { results := [.lit (.bool false)], args := [d1, d2, d3, d4] }
  | _ => none }
def PagePartsWrongFalsely : Prop := pagePartsRow.holds Try.pinned (OpenSpec.ofChange pagePartsWrong)

/-- 'voilelaw05.SuperAgain': WHATEVER THE INPUT: true; the input reads as it did. -/
def superAgainSpec : ChangeSpec := { name := "superAgain", fn := fun _ => fun
  | [d1, d2, d3, d4, d5] => { results := [.lit (.bool true)], args := [d1, d2, d3, d4, d5] }
  | _ => none }
def superAgainRow : OpenClaim := { program := "ytiihllfjlgbfcaa", sum := "bcbff782543bed586b820998a5130e074345b5256f3ef919d3fcdbe455cb9424", func := "voile/voilelaw05.SuperAgain", spec := "superAgain", inPlace := ["slices.overlaps[int]"], unfollowed := true, recurses := true, apart := false }
def SuperAgainSaid : Prop := superAgainRow.holds Try.pinned (OpenSpec.ofChange superAgainSpec)

/-- ITS FALSE NEIGHBOUR: 'it returns false'. Refute it at one input. -/
def superAgainWrong : ChangeSpec := { name := "superAgain", fn := fun _ => fun
  | [d1, d2, d3, d4, d5] => { results := [.lit (.bool false)], args := [d1, d2, d3, d4, d5] }
  | _ => none }
def SuperAgainWrongFalsely : Prop := superAgainRow.holds Try.pinned (OpenSpec.ofChange superAgainWrong)

/-- 'voilelaw04.BlockMeans': WHATEVER THE INPUT: true; the input reads as it did. -/
def blockMeansSpec : ChangeSpec := { name := "blockMeans", fn := fun _ => fun
  | [d1, d2, d3, d4, d5] => { results := [.lit (.bool true)], args := [d1, d2, d3, d4, d5] }
  | _ => none }
def blockMeansRow : OpenClaim := { program := "ytiihllfjlgbfcaa", sum := "bcbff782543bed586b820998a5130e074345b5256f3ef919d3fcdbe455cb9424", func := "voile/voilelaw04.BlockMeans", spec := "blockMeans", unfollowed := true, recurses := true, apart := false }
def BlockMeansSaid : Prop := blockMeansRow.holds Try.pinned (OpenSpec.ofChange blockMeansSpec)

/-- ITS FALSE NEIGHBOUR: 'it returns false'. Refute it at one input. -/
def blockMeansWrong : ChangeSpec := { name := "blockMeans", fn := fun _ => fun
  | [d1, d2, d3, d4, d5] => { results := [.lit (.bool false)], args := [d1, d2, d3, d4, d5] }
  | _ => none }
def BlockMeansWrongFalsely : Prop := blockMeansRow.holds Try.pinned (OpenSpec.ofChange blockMeansWrong)

/-- 'voilelaw04.BlockFinds': WHATEVER THE INPUT: true; the input reads as it did. -/
def blockFindsSpec : ChangeSpec := { name := "blockFinds", fn := fun _ => fun
  | [d1, d2, d3] => { results := [.lit (.bool true)], args := [d1, d2, d3] }
  | _ => none }
def blockFindsRow : OpenClaim := { program := "ytiihllfjlgbfcaa", sum := "bcbff782543bed586b820998a5130e074345b5256f3ef919d3fcdbe455cb9424", func := "voile/voilelaw04.BlockFinds", spec := "blockFinds", unfollowed := true, recurses := true, apart := false }
def BlockFindsSaid : Prop := blockFindsRow.holds Try.pinned (OpenSpec.ofChange blockFindsSpec)

/-- ITS FALSE NEIGHBOUR: 'it returns false'. Refute it at one input. -/
def blockFindsWrong : ChangeSpec := { name := "blockFinds", fn := fun _ => fun
  | [d1, d2, d3] => { results := [.lit (.bool false)], args := [d1, d2, d3] }
  | _ => none }
def BlockFindsWrongFalsely : Prop := blockFindsRow.holds Try.pinned (OpenSpec.ofChange blockFindsWrong)

/-- 'voilelaw05.SuperBlocks': WHATEVER THE INPUT: true; the input reads as it did. -/
def superBlocksSpec : ChangeSpec := { name := "superBlocks", fn := fun _ => fun
  | [d1, d2, d3] => { results := [.lit (.bool true)], args := [d1, d2, d3] }
  | _ => none }
def superBlocksRow : OpenClaim := { program := "ytiihllfjlgbfcaa", sum := "bcbff782543bed586b820998a5130e074345b5256f3ef919d3fcdbe455cb9424", func := "voile/voilelaw05.SuperBlocks", spec := "superBlocks", unfollowed := true, recurses := true, apart := false }
def SuperBlocksSaid : Prop := superBlocksRow.holds Try.pinned (OpenSpec.ofChange superBlocksSpec)

/-- ITS FALSE NEIGHBOUR: 'it returns false'. Refute it at one input. -/
def superBlocksWrong : ChangeSpec := { name := "superBlocks", fn := fun _ => fun
  | [d1, d2, d3] => { results := [.lit (.bool false)], args := [d1, d2, d3] }
  | _ => none }
def SuperBlocksWrongFalsely : Prop := superBlocksRow.holds Try.pinned (OpenSpec.ofChange superBlocksWrong)

/-- 'voilelaw05.SuperNil': WHATEVER THE INPUT: true; the input reads as it did. -/
def superNilSpec : ChangeSpec := { name := "superNil", fn := fun _ => fun
  | [] => { results := [.lit (.bool true)], args := [] }
  | _ => none }
def superNilRow : OpenClaim := { program := "ytiihllfjlgbfcaa", sum := "bcbff782543bed586b820998a5130e074345b5256f3ef919d3fcdbe455cb9424", func := "voile/voilelaw05.SuperNil", spec := "superNil", unfollowed := true, recurses := true, apart := false }
def SuperNilSaid : Prop := superNilRow.holds Try.pinned (OpenSpec.ofChange superNilSpec)

/-- ITS FALSE NEIGHBOUR: 'it returns false'. Refute it at one input. -/
def superNilWrong : ChangeSpec := { name := "superNil", fn := fun _ => fun
  | [] => { results := [.lit (.bool false)], args := [] }
  | _ => none }
def SuperNilWrongFalsely : Prop := superNilRow.holds Try.pinned (OpenSpec.ofChange superNilWrong)

/-- 'voilelaw05.SuperMeans': WHATEVER THE INPUT: true; the input reads as it did. -/
def superMeansSpec : ChangeSpec := { name := "superMeans", fn := fun _ => fun
  | [d1, d2, d3, d4] => { results := [.lit (.bool true)], args := [d1, d2, d3, d4] }
  | _ => none }
def superMeansRow : OpenClaim := { program := "ytiihllfjlgbfcaa", sum := "bcbff782543bed586b820998a5130e074345b5256f3ef919d3fcdbe455cb9424", func := "voile/voilelaw05.SuperMeans", spec := "superMeans", unfollowed := true, recurses := true, apart := false }
def SuperMeansSaid : Prop := superMeansRow.holds Try.pinned (OpenSpec.ofChange superMeansSpec)

/-- ITS FALSE NEIGHBOUR: 'it returns false'. Refute it at one input. -/
def superMeansWrong : ChangeSpec := { name := "superMeans", fn := fun _ => fun
  | [d1, d2, d3, d4] => { results := [.lit (.bool false)], args := [d1, d2, d3, d4] }
  | _ => none }
def SuperMeansWrongFalsely : Prop := superMeansRow.holds Try.pinned (OpenSpec.ofChange superMeansWrong)

/-- 'voilelaw03.DiskCommits': WHATEVER THE INPUT: true; the input reads as it did. -/
def diskCommitsSpec : ChangeSpec := { name := "diskCommits", fn := fun _ => fun
  | [d1, d2, d3, d4, d5] => { results := [.lit (.bool true)], args := [d1, d2, d3, d4, d5] }
  | _ => none }
def diskCommitsRow : OpenClaim := { program := "ytiihllfjlgbfcaa", sum := "bcbff782543bed586b820998a5130e074345b5256f3ef919d3fcdbe455cb9424", func := "voile/voilelaw03.DiskCommits", spec := "diskCommits", inPlace := ["slices.overlaps[int]"], apart := false }
def DiskCommitsSaid : Prop := diskCommitsRow.holds Try.pinned (OpenSpec.ofChange diskCommitsSpec)

/-- ITS FALSE NEIGHBOUR: 'it returns false'. Refute it at one input. -/
def diskCommitsWrong : ChangeSpec := { name := "diskCommits", fn := fun _ => fun
  | [d1, d2, d3, d4, d5] => { results := [.lit (.bool false)], args := [d1, d2, d3, d4, d5] }
  | _ => none }
def DiskCommitsWrongFalsely : Prop := diskCommitsRow.holds Try.pinned (OpenSpec.ofChange diskCommitsWrong)

/-- 'voilelaw03.DiskHistory': WHATEVER THE INPUT: true; the input reads as it did. -/
def diskHistorySpec : ChangeSpec := { name := "diskHistory", fn := fun _ => fun
  | [d1, d2] => { results := [.lit (.bool true)], args := [d1, d2] }
  | _ => none }
def diskHistoryRow : OpenClaim := { program := "ytiihllfjlgbfcaa", sum := "bcbff782543bed586b820998a5130e074345b5256f3ef919d3fcdbe455cb9424", func := "voile/voilelaw03.DiskHistory", spec := "diskHistory", inPlace := ["slices.overlaps[int]"], apart := false }
def DiskHistorySaid : Prop := diskHistoryRow.holds Try.pinned (OpenSpec.ofChange diskHistorySpec)

/-- ITS FALSE NEIGHBOUR: 'it returns false'. Refute it at one input. -/
def diskHistoryWrong : ChangeSpec := { name := "diskHistory", fn := fun _ => fun
  | [d1, d2] => { results := [.lit (.bool false)], args := [d1, d2] }
  | _ => none }
def DiskHistoryWrongFalsely : Prop := diskHistoryRow.holds Try.pinned (OpenSpec.ofChange diskHistoryWrong)

/-- 'voilelaw03.DiskAdds': WHATEVER THE INPUT: true; the input reads as it did. -/
def diskAddsSpec : ChangeSpec := { name := "diskAdds", fn := fun _ => fun
  | [d1, d2, d3, d4] => { results := [.lit (.bool true)], args := [d1, d2, d3, d4] }
  | _ => none }
def diskAddsRow : OpenClaim := { program := "ytiihllfjlgbfcaa", sum := "bcbff782543bed586b820998a5130e074345b5256f3ef919d3fcdbe455cb9424", func := "voile/voilelaw03.DiskAdds", spec := "diskAdds", inPlace := ["slices.overlaps[int]"], apart := false }
def DiskAddsSaid : Prop := diskAddsRow.holds Try.pinned (OpenSpec.ofChange diskAddsSpec)

/-- ITS FALSE NEIGHBOUR: 'it returns false'. Refute it at one input. -/
def diskAddsWrong : ChangeSpec := { name := "diskAdds", fn := fun _ => fun
  | [d1, d2, d3, d4] => { results := [.lit (.bool false)], args := [d1, d2, d3, d4] }
  | _ => none }
def DiskAddsWrongFalsely : Prop := diskAddsRow.holds Try.pinned (OpenSpec.ofChange diskAddsWrong)

/-- 'voilelaw03.DiskFutures': WHATEVER THE INPUT: true; the input reads as it did. -/
def diskFuturesSpec : ChangeSpec := { name := "diskFutures", fn := fun _ => fun
  | [d1, d2, d3, d4] => { results := [.lit (.bool true)], args := [d1, d2, d3, d4] }
  | _ => none }
def diskFuturesRow : OpenClaim := { program := "ytiihllfjlgbfcaa", sum := "bcbff782543bed586b820998a5130e074345b5256f3ef919d3fcdbe455cb9424", func := "voile/voilelaw03.DiskFutures", spec := "diskFutures", inPlace := ["slices.overlaps[int]"], unfollowed := true, recurses := true, apart := false }
def DiskFuturesSaid : Prop := diskFuturesRow.holds Try.pinned (OpenSpec.ofChange diskFuturesSpec)

/-- ITS FALSE NEIGHBOUR: 'it returns false'. Refute it at one input. -/
def diskFuturesWrong : ChangeSpec := { name := "diskFutures", fn := fun _ => fun
  | [d1, d2, d3, d4] => { results := [.lit (.bool false)], args := [d1, d2, d3, d4] }
  | _ => none }
def DiskFuturesWrongFalsely : Prop := diskFuturesRow.holds Try.pinned (OpenSpec.ofChange diskFuturesWrong)

/-- 'voilelaw03.DiskTwins': WHATEVER THE INPUT: true; the input reads as it did. -/
def diskTwinsSpec : ChangeSpec := { name := "diskTwins", fn := fun _ => fun
  | [d1, d2, d3] => { results := [.lit (.bool true)], args := [d1, d2, d3] }
  | _ => none }
def diskTwinsRow : OpenClaim := { program := "ytiihllfjlgbfcaa", sum := "bcbff782543bed586b820998a5130e074345b5256f3ef919d3fcdbe455cb9424", func := "voile/voilelaw03.DiskTwins", spec := "diskTwins", inPlace := ["slices.overlaps[int]"], unfollowed := true, recurses := true, apart := false }
def DiskTwinsSaid : Prop := diskTwinsRow.holds Try.pinned (OpenSpec.ofChange diskTwinsSpec)

/-- ITS FALSE NEIGHBOUR: 'it returns false'. Refute it at one input. -/
def diskTwinsWrong : ChangeSpec := { name := "diskTwins", fn := fun _ => fun
  | [d1, d2, d3] => { results := [.lit (.bool false)], args := [d1, d2, d3] }
  | _ => none }
def DiskTwinsWrongFalsely : Prop := diskTwinsRow.holds Try.pinned (OpenSpec.ofChange diskTwinsWrong)

/- THE SECOND FORM. 'bulk': how many values and letters a reading holds, each counted each time it is reached (what is shared counts as often as it is met; a slice's spare places count too). A statement '..UptoSaid' is the law's where the arguments, and the package variables that the reading takes, are together of bulk at most 1048576: NARROWER than '..Said'. Prove '..Said' where nothing that the law and all that it calls make is longer than what came in: it says more and counts as full. Else prove '..UptoSaid'. A law counts once. -/
mutual
def uptoBulk {H : Type} : DataW H → Nat
  | .lit (.string bytes) => bytes.length + 1
  | .lit _ => 1
  | .nil => 1
  | .ptr d => uptoBulk d + 1
  | .slice elems spare => uptoBulkAll elems + uptoBulkAll spare + 1
  | .agg parts => uptoBulkAll parts + 1
  | .iface _ d => uptoBulk d + 1
  | .map entries => uptoBulkEntries entries + 1
  | .held _ => 1
def uptoBulkAll {H : Type} : List (DataW H) → Nat
  | [] => 0
  | d :: r => uptoBulk d + uptoBulkAll r
def uptoBulkEntries {H : Type} : List (Lit × DataW H) → Nat
  | [] => 0
  | x :: r => uptoBulkEntry x + uptoBulkEntries r
def uptoBulkEntry {H : Type} : Lit × DataW H → Nat
  | (.string bytes, d) => bytes.length + uptoBulk d + 1
  | (_, d) => uptoBulk d + 1
 end
def uptoSmall : (H : Type) → List (DataW H) → Bool := fun _ ds => decide (uptoBulkAll ds ≤ 1048576)
def OpenSpec.upto (s : _root_.Go.ChangeSpec) : _root_.Go.OpenSpec := { _root_.Go.OpenSpec.ofChange s with cond := some uptoSmall }

/-- 'voilelaw02.CrcSums', WHERE WHAT IT READS IS OF BULK AT MOST 1048576: true; the input reads as it did. -/
def crcSumsUptoRow : OpenClaim := { program := "ytiihllfjlgbfcaa", sum := "bcbff782543bed586b820998a5130e074345b5256f3ef919d3fcdbe455cb9424", func := "voile/voilelaw02.CrcSums", spec := "crcSums", unfollowed := true, recurses := true, apart := false, narrowed := true }
def CrcSumsUptoSaid : Prop := crcSumsUptoRow.holds Try.pinned (OpenSpec.upto crcSumsSpec)

/-- 'voilelaw02.CrcSeals', WHERE WHAT IT READS IS OF BULK AT MOST 1048576: true; the input reads as it did. -/
def crcSealsUptoRow : OpenClaim := { program := "ytiihllfjlgbfcaa", sum := "bcbff782543bed586b820998a5130e074345b5256f3ef919d3fcdbe455cb9424", func := "voile/voilelaw02.CrcSeals", spec := "crcSeals", unfollowed := true, recurses := true, apart := false, narrowed := true }
def CrcSealsUptoSaid : Prop := crcSealsUptoRow.holds Try.pinned (OpenSpec.upto crcSealsSpec)

/-- 'voilelaw02.CrcMeans', WHERE WHAT IT READS IS OF BULK AT MOST 1048576: true; the input reads as it did. -/
def crcMeansUptoRow : OpenClaim := { program := "ytiihllfjlgbfcaa", sum := "bcbff782543bed586b820998a5130e074345b5256f3ef919d3fcdbe455cb9424", func := "voile/voilelaw02.CrcMeans", spec := "crcMeans", unfollowed := true, recurses := true, apart := false, narrowed := true }
def CrcMeansUptoSaid : Prop := crcMeansUptoRow.holds Try.pinned (OpenSpec.upto crcMeansSpec)

/-- 'voilelaw07.PageMeans', WHERE WHAT IT READS IS OF BULK AT MOST 1048576: true; the input reads as it did. -/
def pageMeansUptoRow : OpenClaim := { program := "ytiihllfjlgbfcaa", sum := "bcbff782543bed586b820998a5130e074345b5256f3ef919d3fcdbe455cb9424", func := "voile/voilelaw07.PageMeans", spec := "pageMeans", unfollowed := true, recurses := true, apart := false, narrowed := true }
def PageMeansUptoSaid : Prop := pageMeansUptoRow.holds Try.pinned (OpenSpec.upto pageMeansSpec)

/-- 'voilelaw03.DiskNone', WHERE WHAT IT READS IS OF BULK AT MOST 1048576: true; the input reads as it did. -/
def diskNoneUptoRow : OpenClaim := { program := "ytiihllfjlgbfcaa", sum := "bcbff782543bed586b820998a5130e074345b5256f3ef919d3fcdbe455cb9424", func := "voile/voilelaw03.DiskNone", spec := "diskNone", inPlace := ["slices.overlaps[int]"], unfollowed := true, recurses := true, apart := false, narrowed := true }
def DiskNoneUptoSaid : Prop := diskNoneUptoRow.holds Try.pinned (OpenSpec.upto diskNoneSpec)

/-- 'voilelaw07.PageParts', WHERE WHAT IT READS IS OF BULK AT MOST 1048576: true; the input reads as it did. -/
def pagePartsUptoRow : OpenClaim := { program := "ytiihllfjlgbfcaa", sum := "bcbff782543bed586b820998a5130e074345b5256f3ef919d3fcdbe455cb9424", func := "voile/voilelaw07.PageParts", spec := "pageParts", unfollowed := true, recurses := true, apart := false, narrowed := true }
def PagePartsUptoSaid : Prop := pagePartsUptoRow.holds Try.pinned (OpenSpec.upto pagePartsSpec)

/-- 'voilelaw05.SuperAgain', WHERE WHAT IT READS IS OF BULK AT MOST 1048576: true; the input reads as it did. -/
def superAgainUptoRow : OpenClaim := { program := "ytiihllfjlgbfcaa", sum := "bcbff782543bed586b820998a5130e074345b5256f3ef919d3fcdbe455cb9424", func := "voile/voilelaw05.SuperAgain", spec := "superAgain", inPlace := ["slices.overlaps[int]"], unfollowed := true, recurses := true, apart := false, narrowed := true }
def SuperAgainUptoSaid : Prop := superAgainUptoRow.holds Try.pinned (OpenSpec.upto superAgainSpec)

/-- 'voilelaw04.BlockMeans', WHERE WHAT IT READS IS OF BULK AT MOST 1048576: true; the input reads as it did. -/
def blockMeansUptoRow : OpenClaim := { program := "ytiihllfjlgbfcaa", sum := "bcbff782543bed586b820998a5130e074345b5256f3ef919d3fcdbe455cb9424", func := "voile/voilelaw04.BlockMeans", spec := "blockMeans", unfollowed := true, recurses := true, apart := false, narrowed := true }
def BlockMeansUptoSaid : Prop := blockMeansUptoRow.holds Try.pinned (OpenSpec.upto blockMeansSpec)

/-- 'voilelaw04.BlockFinds', WHERE WHAT IT READS IS OF BULK AT MOST 1048576: true; the input reads as it did. -/
def blockFindsUptoRow : OpenClaim := { program := "ytiihllfjlgbfcaa", sum := "bcbff782543bed586b820998a5130e074345b5256f3ef919d3fcdbe455cb9424", func := "voile/voilelaw04.BlockFinds", spec := "blockFinds", unfollowed := true, recurses := true, apart := false, narrowed := true }
def BlockFindsUptoSaid : Prop := blockFindsUptoRow.holds Try.pinned (OpenSpec.upto blockFindsSpec)

/-- 'voilelaw05.SuperBlocks', WHERE WHAT IT READS IS OF BULK AT MOST 1048576: true; the input reads as it did. -/
def superBlocksUptoRow : OpenClaim := { program := "ytiihllfjlgbfcaa", sum := "bcbff782543bed586b820998a5130e074345b5256f3ef919d3fcdbe455cb9424", func := "voile/voilelaw05.SuperBlocks", spec := "superBlocks", unfollowed := true, recurses := true, apart := false, narrowed := true }
def SuperBlocksUptoSaid : Prop := superBlocksUptoRow.holds Try.pinned (OpenSpec.upto superBlocksSpec)

/-- 'voilelaw05.SuperNil', WHERE WHAT IT READS IS OF BULK AT MOST 1048576: true; the input reads as it did. -/
def superNilUptoRow : OpenClaim := { program := "ytiihllfjlgbfcaa", sum := "bcbff782543bed586b820998a5130e074345b5256f3ef919d3fcdbe455cb9424", func := "voile/voilelaw05.SuperNil", spec := "superNil", unfollowed := true, recurses := true, apart := false, narrowed := true }
def SuperNilUptoSaid : Prop := superNilUptoRow.holds Try.pinned (OpenSpec.upto superNilSpec)

/-- 'voilelaw05.SuperMeans', WHERE WHAT IT READS IS OF BULK AT MOST 1048576: true; the input reads as it did. -/
def superMeansUptoRow : OpenClaim := { program := "ytiihllfjlgbfcaa", sum := "bcbff782543bed586b820998a5130e074345b5256f3ef919d3fcdbe455cb9424", func := "voile/voilelaw05.SuperMeans", spec := "superMeans", unfollowed := true, recurses := true, apart := false, narrowed := true }
def SuperMeansUptoSaid : Prop := superMeansUptoRow.holds Try.pinned (OpenSpec.upto superMeansSpec)

/-- 'voilelaw03.DiskCommits', WHERE WHAT IT READS IS OF BULK AT MOST 1048576: true; the input reads as it did. -/
def diskCommitsUptoRow : OpenClaim := { program := "ytiihllfjlgbfcaa", sum := "bcbff782543bed586b820998a5130e074345b5256f3ef919d3fcdbe455cb9424", func := "voile/voilelaw03.DiskCommits", spec := "diskCommits", inPlace := ["slices.overlaps[int]"], apart := false, narrowed := true }
def DiskCommitsUptoSaid : Prop := diskCommitsUptoRow.holds Try.pinned (OpenSpec.upto diskCommitsSpec)

/-- 'voilelaw03.DiskHistory', WHERE WHAT IT READS IS OF BULK AT MOST 1048576: true; the input reads as it did. -/
def diskHistoryUptoRow : OpenClaim := { program := "ytiihllfjlgbfcaa", sum := "bcbff782543bed586b820998a5130e074345b5256f3ef919d3fcdbe455cb9424", func := "voile/voilelaw03.DiskHistory", spec := "diskHistory", inPlace := ["slices.overlaps[int]"], apart := false, narrowed := true }
def DiskHistoryUptoSaid : Prop := diskHistoryUptoRow.holds Try.pinned (OpenSpec.upto diskHistorySpec)

/-- 'voilelaw03.DiskAdds', WHERE WHAT IT READS IS OF BULK AT MOST 1048576: true; the input reads as it did. -/
def diskAddsUptoRow : OpenClaim := { program := "ytiihllfjlgbfcaa", sum := "bcbff782543bed586b820998a5130e074345b5256f3ef919d3fcdbe455cb9424", func := "voile/voilelaw03.DiskAdds", spec := "diskAdds", inPlace := ["slices.overlaps[int]"], apart := false, narrowed := true }
def DiskAddsUptoSaid : Prop := diskAddsUptoRow.holds Try.pinned (OpenSpec.upto diskAddsSpec)

/-- 'voilelaw03.DiskFutures', WHERE WHAT IT READS IS OF BULK AT MOST 1048576: true; the input reads as it did. -/
def diskFuturesUptoRow : OpenClaim := { program := "ytiihllfjlgbfcaa", sum := "bcbff782543bed586b820998a5130e074345b5256f3ef919d3fcdbe455cb9424", func := "voile/voilelaw03.DiskFutures", spec := "diskFutures", inPlace := ["slices.overlaps[int]"], unfollowed := true, recurses := true, apart := false, narrowed := true }
def DiskFuturesUptoSaid : Prop := diskFuturesUptoRow.holds Try.pinned (OpenSpec.upto diskFuturesSpec)

/-- 'voilelaw03.DiskTwins', WHERE WHAT IT READS IS OF BULK AT MOST 1048576: true; the input reads as it did. -/
def diskTwinsUptoRow : OpenClaim := { program := "ytiihllfjlgbfcaa", sum := "bcbff782543bed586b820998a5130e074345b5256f3ef919d3fcdbe455cb9424", func := "voile/voilelaw03.DiskTwins", spec := "diskTwins", inPlace := ["slices.overlaps[int]"], unfollowed := true, recurses := true, apart := false, narrowed := true }
def DiskTwinsUptoSaid : Prop := diskTwinsUptoRow.holds Try.pinned (OpenSpec.upto diskTwinsSpec)

end Rows
end Go.Proofs.Ytiihllfjlgbfcaa
