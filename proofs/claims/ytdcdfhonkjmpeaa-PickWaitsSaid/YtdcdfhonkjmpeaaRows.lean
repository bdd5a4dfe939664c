/-
  No cell of these rows narrows 'for every input' (looked for: loops, veiled, ifaces, maps, wideKeys, modest, calm, conditions, laid).
  DERIVED. THE GIVEN ROWS OF THIS SEAT. 12 by the template 'for every input the law returns true; each argument reads behind the call as it read before'; 0 by the template 'total and deterministic' (their statements: YtdcdfhonkjmpeaaTotals.lean).
  GIVEN WITH THE SEED: the statements are not yours to turn. If you find one false, say at which input.
  Laid BY PROGRAM, IN A SANDBOX (cutbox-rows.mjs): the forced cells as the released guide's own fill.sh prints them over the translation e21a8b91499e10ca… (all of the seat's roots in one cut). By AI agents, Wed Nov 11 2026. No macro, syntax, notation, axiom, sorry.
-/
import Derived.Test.YtdcdfhonkjmpeaaChecked
import GoSem.Claim
import GoSem.ClaimJoined
import GoSem.ClaimMapViews
import Derived.JoinedTies
import Derived.KernelRfl
namespace Go.Proofs.Ytdcdfhonkjmpeaa
/- THE CELL 'sum', in the pinned program and in every row, IS THE sha256 OF THE DUMP (.gsa) THAT YtdcdfhonkjmpeaaProg.lean LOADS. Nothing in Lean hashes anything: it is a label: what it is worth is what the hold of that sum in a sandbox is worth. -/
noncomputable def Try.pinned : Pinned := { name := "ytdcdfhonkjmpeaa", sum := "e21a8b91499e10ca63e0f295a80629ec964faad389e2f5836822a780ffadca6e", checked := Try.checked }
namespace Rows
def none {H : Type} : Left H := { results := [], args := [] }

/-- 'paternosterlaw37.ChunkCuts': WHATEVER THE INPUT: true; the input reads as it did. -/
def chunkCutsSpec : ChangeSpec := { name := "chunkCuts", fn := fun _ => fun
  | [d1, d2] => { results := [.lit (.bool true)], args := [d1, d2] }
  | _ => none }
def chunkCutsRow : OpenClaim := { program := "ytdcdfhonkjmpeaa", sum := "e21a8b91499e10ca63e0f295a80629ec964faad389e2f5836822a780ffadca6e", func := "paternoster/paternosterlaw37.ChunkCuts", spec := "chunkCuts", unfollowed := true, recurses := true, apart := false }
def ChunkCutsSaid : Prop := chunkCutsRow.holds Try.pinned (OpenSpec.ofChange chunkCutsSpec)

/-- ITS FALSE NEIGHBOUR: 'it returns false'. Refute it at one input. -/
def chunkCutsWrong : ChangeSpec := { name := "chunkCuts", fn := fun _ => fun
  | [d1, d2] => { results := [.lit (.bool false)], args := [d1, d2] }
  | _ => none }
def ChunkCutsWrongFalsely : Prop := chunkCutsRow.holds Try.pinned (OpenSpec.ofChange chunkCutsWrong)

/-- 'paternosterlaw37.ChunkMany': WHATEVER THE INPUT: true; the input reads as it did. -/
def chunkManySpec : ChangeSpec := { name := "chunkMany", fn := fun _ => fun
  | [d1, d2] => { results := [.lit (.bool true)], args := [d1, d2] }
  | _ => none }
def chunkManyRow : OpenClaim := { program := "ytdcdfhonkjmpeaa", sum := "e21a8b91499e10ca63e0f295a80629ec964faad389e2f5836822a780ffadca6e", func := "paternoster/paternosterlaw37.ChunkMany", spec := "chunkMany", unfollowed := true, recurses := true, apart := false }
def ChunkManySaid : Prop := chunkManyRow.holds Try.pinned (OpenSpec.ofChange chunkManySpec)

/-- ITS FALSE NEIGHBOUR: 'it returns false'. Refute it at one input. -/
def chunkManyWrong : ChangeSpec := { name := "chunkMany", fn := fun _ => fun
  | [d1, d2] => { results := [.lit (.bool false)], args := [d1, d2] }
  | _ => none }
def ChunkManyWrongFalsely : Prop := chunkManyRow.holds Try.pinned (OpenSpec.ofChange chunkManyWrong)

/-- 'paternosterlaw37.ChunkJoins': WHATEVER THE INPUT: true; the input reads as it did. -/
def chunkJoinsSpec : ChangeSpec := { name := "chunkJoins", fn := fun _ => fun
  | [d1, d2] => { results := [.lit (.bool true)], args := [d1, d2] }
  | _ => none }
def chunkJoinsRow : OpenClaim := { program := "ytdcdfhonkjmpeaa", sum := "e21a8b91499e10ca63e0f295a80629ec964faad389e2f5836822a780ffadca6e", func := "paternoster/paternosterlaw37.ChunkJoins", spec := "chunkJoins", unfollowed := true, recurses := true, apart := false }
def ChunkJoinsSaid : Prop := chunkJoinsRow.holds Try.pinned (OpenSpec.ofChange chunkJoinsSpec)

/-- ITS FALSE NEIGHBOUR: 'it returns false'. Refute it at one input. -/
def chunkJoinsWrong : ChangeSpec := { name := "chunkJoins", fn := fun _ => fun
  | [d1, d2] => { results := [.lit (.bool false)], args := [d1, d2] }
  | _ => none }
def ChunkJoinsWrongFalsely : Prop := chunkJoinsRow.holds Try.pinned (OpenSpec.ofChange chunkJoinsWrong)

/-- 'paternosterlaw37.ChunkBack': WHATEVER THE INPUT: true; the input reads as it did. -/
def chunkBackSpec : ChangeSpec := { name := "chunkBack", fn := fun _ => fun
  | [d] => { results := [.lit (.bool true)], args := [d] }
  | _ => none }
def chunkBackRow : OpenClaim := { program := "ytdcdfhonkjmpeaa", sum := "e21a8b91499e10ca63e0f295a80629ec964faad389e2f5836822a780ffadca6e", func := "paternoster/paternosterlaw37.ChunkBack", spec := "chunkBack", unfollowed := true, recurses := true, apart := false }
def ChunkBackSaid : Prop := chunkBackRow.holds Try.pinned (OpenSpec.ofChange chunkBackSpec)

/-- ITS FALSE NEIGHBOUR: 'it returns false'. Refute it at one input. -/
def chunkBackWrong : ChangeSpec := { name := "chunkBack", fn := fun _ => fun
  | [d] => { results := [.lit (.bool false)], args := [d] }
  | _ => none }
def ChunkBackWrongFalsely : Prop := chunkBackRow.holds Try.pinned (OpenSpec.ofChange chunkBackWrong)

/-- 'paternosterlaw08.PaceHalf': WHATEVER THE INPUT: true; the input reads as it did. -/
def paceHalfSpec : ChangeSpec := { name := "paceHalf", fn := fun _ => fun
  | [d1, d2] => { results := [.lit (.bool true)], args := [d1, d2] }
  | _ => none }
def paceHalfRow : OpenClaim := { program := "ytdcdfhonkjmpeaa", sum := "e21a8b91499e10ca63e0f295a80629ec964faad389e2f5836822a780ffadca6e", func := "paternoster/paternosterlaw08.PaceHalf", spec := "paceHalf", unfollowed := true, recurses := true, apart := false }
def PaceHalfSaid : Prop := paceHalfRow.holds Try.pinned (OpenSpec.ofChange paceHalfSpec)

/-- ITS FALSE NEIGHBOUR: 'it returns false'. Refute it at one input. -/
def paceHalfWrong : ChangeSpec := { name := "paceHalf", fn := fun _ => fun
  | [d1, d2] => { results := [.lit (.bool false)], args := [d1, d2] }
  | _ => none }
def PaceHalfWrongFalsely : Prop := paceHalfRow.holds Try.pinned (OpenSpec.ofChange paceHalfWrong)

/-- 'paternosterlaw15.PickFair': WHATEVER THE INPUT: true; the input reads as it did. -/
def pickFairSpec : ChangeSpec := { name := "pickFair", fn := fun _ => fun
  | [d1, d2] => { results := [.lit (.bool true)], args := [d1, d2] }
  | _ => none }
def pickFairRow : OpenClaim := { program := "ytdcdfhonkjmpeaa", sum := "e21a8b91499e10ca63e0f295a80629ec964faad389e2f5836822a780ffadca6e", func := "paternoster/paternosterlaw15.PickFair", spec := "pickFair", unfollowed := true, recurses := true, apart := false }
def PickFairSaid : Prop := pickFairRow.holds Try.pinned (OpenSpec.ofChange pickFairSpec)

/-- ITS FALSE NEIGHBOUR: 'it returns false'. Refute it at one input. -/
def pickFairWrong : ChangeSpec := { name := "pickFair", fn := fun _ => fun
  | [d1, d2] => { results := [.lit (.bool false)], args := [d1, d2] }
  | _ => none }
def PickFairWrongFalsely : Prop := pickFairRow.holds Try.pinned (OpenSpec.ofChange pickFairWrong)

/-- 'paternosterlaw15.PickWaits': WHATEVER THE INPUT: true; the input reads as it did. -/
def pickWaitsSpec : ChangeSpec := { name := "pickWaits", fn := fun _ => fun
  | [d] => { results := [.lit (.bool true)], args := [d] }
  | _ => none }
def pickWaitsRow : OpenClaim := { program := "ytdcdfhonkjmpeaa", sum := "e21a8b91499e10ca63e0f295a80629ec964faad389e2f5836822a780ffadca6e", func := "paternoster/paternosterlaw15.PickWaits", spec := "pickWaits", unfollowed := true, recurses := true, apart := false }
def PickWaitsSaid : Prop := pickWaitsRow.holds Try.pinned (OpenSpec.ofChange pickWaitsSpec)

/-- ITS FALSE NEIGHBOUR: 'it returns false'. Refute it at one input. -/
def pickWaitsWrong : ChangeSpec := { name := "pickWaits", fn := fun _ => fun
  | [d] => { results := [.lit (.bool false)], args := [d] }
  | _ => none }
def PickWaitsWrongFalsely : Prop := pickWaitsRow.holds Try.pinned (OpenSpec.ofChange pickWaitsWrong)

/-- 'paternosterlaw08.PaceBounds': WHATEVER THE INPUT: true; the input reads as it did. -/
def paceBoundsSpec : ChangeSpec := { name := "paceBounds", fn := fun _ => fun
  | [d1, d2] => { results := [.lit (.bool true)], args := [d1, d2] }
  | _ => none }
def paceBoundsRow : OpenClaim := { program := "ytdcdfhonkjmpeaa", sum := "e21a8b91499e10ca63e0f295a80629ec964faad389e2f5836822a780ffadca6e", func := "paternoster/paternosterlaw08.PaceBounds", spec := "paceBounds", unfollowed := true, recurses := true, apart := false }
def PaceBoundsSaid : Prop := paceBoundsRow.holds Try.pinned (OpenSpec.ofChange paceBoundsSpec)

/-- ITS FALSE NEIGHBOUR: 'it returns false'. Refute it at one input. -/
def paceBoundsWrong : ChangeSpec := { name := "paceBounds", fn := fun _ => fun
  | [d1, d2] => { results := [.lit (.bool false)], args := [d1, d2] }
  | _ => none }
def PaceBoundsWrongFalsely : Prop := paceBoundsRow.holds Try.pinned (OpenSpec.ofChange paceBoundsWrong)

/-- 'paternosterlaw15.PickDoes': WHATEVER THE INPUT: true; the input reads as it did. -/
def pickDoesSpec : ChangeSpec := { name := "pickDoes", fn := fun _ => fun
  | [d] => { results := [.lit (.bool true)], args := [d] }
  | _ => none }
def pickDoesRow : OpenClaim := { program := "ytdcdfhonkjmpeaa", sum := "e21a8b91499e10ca63e0f295a80629ec964faad389e2f5836822a780ffadca6e", func := "paternoster/paternosterlaw15.PickDoes", spec := "pickDoes", unfollowed := true, recurses := true, apart := false }
def PickDoesSaid : Prop := pickDoesRow.holds Try.pinned (OpenSpec.ofChange pickDoesSpec)

/-- ITS FALSE NEIGHBOUR: 'it returns false'. Refute it at one input. -/
def pickDoesWrong : ChangeSpec := { name := "pickDoes", fn := fun _ => fun
  | [d] => { results := [.lit (.bool false)], args := [d] }
  | _ => none }
def PickDoesWrongFalsely : Prop := pickDoesRow.holds Try.pinned (OpenSpec.ofChange pickDoesWrong)

/-- 'paternosterlaw08.PaceDoes': WHATEVER THE INPUT: true; the input reads as it did. -/
def paceDoesSpec : ChangeSpec := { name := "paceDoes", fn := fun _ => fun
  | [d1, d2] => { results := [.lit (.bool true)], args := [d1, d2] }
  | _ => none }
def paceDoesRow : OpenClaim := { program := "ytdcdfhonkjmpeaa", sum := "e21a8b91499e10ca63e0f295a80629ec964faad389e2f5836822a780ffadca6e", func := "paternoster/paternosterlaw08.PaceDoes", spec := "paceDoes", unfollowed := true, recurses := true, apart := false }
def PaceDoesSaid : Prop := paceDoesRow.holds Try.pinned (OpenSpec.ofChange paceDoesSpec)

/-- ITS FALSE NEIGHBOUR: 'it returns false'. Refute it at one input. -/
def paceDoesWrong : ChangeSpec := { name := "paceDoes", fn := fun _ => fun
  | [d1, d2] => { results := [.lit (.bool false)], args := [d1, d2] }
  | _ => none }
def PaceDoesWrongFalsely : Prop := paceDoesRow.holds Try.pinned (OpenSpec.ofChange paceDoesWrong)

/-- 'paternosterlaw08.PaceNone': WHATEVER THE INPUT: true; the input reads as it did. -/
def paceNoneSpec : ChangeSpec := { name := "paceNone", fn := fun _ => fun
  | [d] => { results := [.lit (.bool true)], args := [d] }
  | _ => none }
def paceNoneRow : OpenClaim := { program := "ytdcdfhonkjmpeaa", sum := "e21a8b91499e10ca63e0f295a80629ec964faad389e2f5836822a780ffadca6e", func := "paternoster/paternosterlaw08.PaceNone", spec := "paceNone", unfollowed := true, recurses := true, apart := false }
def PaceNoneSaid : Prop := paceNoneRow.holds Try.pinned (OpenSpec.ofChange paceNoneSpec)

/-- ITS FALSE NEIGHBOUR: 'it returns false'. Refute it at one input. -/
def paceNoneWrong : ChangeSpec := { name := "paceNone", fn := fun _ => fun
  | [d] => { results := [.lit (.bool false)], args := [d] }
  | _ => none }
def PaceNoneWrongFalsely : Prop := paceNoneRow.holds Try.pinned (OpenSpec.ofChange paceNoneWrong)

/-- 'paternosterlaw15.PickCosts': WHATEVER THE INPUT: true; the input reads as it did. -/
def pickCostsSpec : ChangeSpec := { name := "pickCosts", fn := fun _ => fun
  | [d1, d2] => { results := [.lit (.bool true)], args := [d1, d2] }
  | _ => none }
def pickCostsRow : OpenClaim := { program := "ytdcdfhonkjmpeaa", sum := "e21a8b91499e10ca63e0f295a80629ec964faad389e2f5836822a780ffadca6e", func := "paternoster/paternosterlaw15.PickCosts", spec := "pickCosts", unfollowed := true, recurses := true, apart := false }
def PickCostsSaid : Prop := pickCostsRow.holds Try.pinned (OpenSpec.ofChange pickCostsSpec)

/-- ITS FALSE NEIGHBOUR: 'it returns false'. Refute it at one input. -/
def pickCostsWrong : ChangeSpec := { name := "pickCosts", fn := fun _ => fun
  | [d1, d2] => { results := [.lit (.bool false)], args := [d1, d2] }
  | _ => none }
def PickCostsWrongFalsely : Prop := pickCostsRow.holds Try.pinned (OpenSpec.ofChange pickCostsWrong)

/- THE SECOND FORM. 'bulk': how many values and letters a reading holds, each counted each time it is reached (what is shared counts as often as it is met; a slice's spare places count too). A statement '..UptoSaid' is the law's where the arguments, and the package variables that the reading takes, are together of bulk at most 1048576: NARROWER than '..Said'. Prove '..Said' where nothing that the law and all that it calls make is longer than what came in: it says more and counts as full. Else prove '..UptoSaid'. A law counts once. -/
mutual
def uptoBulk {H : Type} : DataW H → Nat
  | .lit (.string bytes) => bytes.length + 1
  | .lit _ => 1
  | .nil => 1
  | .ptr d => uptoBulk d + 1
  | .slice elems spare => uptoBulkAll elems + uptoBulkAll spare + 1
  | .agg parts => uptoBulkAll parts + 1
  | .iface _ d => uptoBulk d + 1
  | .map entries => uptoBulkEntries entries + 1
  | .held _ => 1
def uptoBulkAll {H : Type} : List (DataW H) → Nat
  | [] => 0
  | d :: r => uptoBulk d + uptoBulkAll r
def uptoBulkEntries {H : Type} : List (Lit × DataW H) → Nat
  | [] => 0
  | x :: r => uptoBulkEntry x + uptoBulkEntries r
def uptoBulkEntry {H : Type} : Lit × DataW H → Nat
  | (.string bytes, d) => bytes.length + uptoBulk d + 1
  | (_, d) => uptoBulk d + 1
 end
def uptoSmall : (H : Type) → List (DataW H) → Bool := fun _ ds => decide (uptoBulkAll ds ≤ 1048576)
def OpenSpec.upto (s : _root_.Go.ChangeSpec) : _root_.Go.OpenSpec := { _root_.Go.OpenSpec.ofChange s with cond := some uptoSmall }

/-- 'paternosterlaw37.ChunkCuts', WHERE WHAT IT READS IS OF BULK AT MOST 1048576: true; the input reads as it did. -/
def chunkCutsUptoRow : OpenClaim := { program := "ytdcdfhonkjmpeaa", sum := "e21a8b91499e10ca63e0f295a80629ec964faad389e2f5836822a780ffadca6e", func := "paternoster/paternosterlaw37.ChunkCuts", spec := "chunkCuts", unfollowed := true, recurses := true, apart := false, narrowed := true }
def ChunkCutsUptoSaid : Prop := chunkCutsUptoRow.holds Try.pinned (OpenSpec.upto chunkCutsSpec)

/-- 'paternosterlaw37.ChunkMany', WHERE WHAT IT READS IS OF BULK AT MOST 1048576: true; the input reads as it did. -/
def chunkManyUptoRow : OpenClaim := { program := "ytdcdfhonkjmpeaa", sum := "e21a8b91499e10ca63e0f295a80629ec964faad389e2f5836822a780ffadca6e", func := "paternoster/paternosterlaw37.ChunkMany", spec := "chunkMany", unfollowed := true, recurses := true, apart := false, narrowed := true }
def ChunkManyUptoSaid : Prop := chunkManyUptoRow.holds Try.pinned (OpenSpec.upto chunkManySpec)

/-- 'paternosterlaw37.ChunkJoins', WHERE WHAT IT READS IS OF BULK AT MOST 1048576: true; the input reads as it did. -/
def chunkJoinsUptoRow : OpenClaim := { program := "ytdcdfhonkjmpeaa", sum := "e21a8b91499e10ca63e0f295a80629ec964faad389e2f5836822a780ffadca6e", func := "paternoster/paternosterlaw37.ChunkJoins", spec := "chunkJoins", unfollowed := true, recurses := true, apart := false, narrowed := true }
def ChunkJoinsUptoSaid : Prop := chunkJoinsUptoRow.holds Try.pinned (OpenSpec.upto chunkJoinsSpec)

/-- 'paternosterlaw37.ChunkBack', WHERE WHAT IT READS IS OF BULK AT MOST 1048576: true; the input reads as it did. -/
def chunkBackUptoRow : OpenClaim := { program := "ytdcdfhonkjmpeaa", sum := "e21a8b91499e10ca63e0f295a80629ec964faad389e2f5836822a780ffadca6e", func := "paternoster/paternosterlaw37.ChunkBack", spec := "chunkBack", unfollowed := true, recurses := true, apart := false, narrowed := true }
def ChunkBackUptoSaid : Prop := chunkBackUptoRow.holds Try.pinned (OpenSpec.upto chunkBackSpec)

/-- 'paternosterlaw08.PaceHalf', WHERE WHAT IT READS IS OF BULK AT MOST 1048576: true; the input reads as it did. -/
def paceHalfUptoRow : OpenClaim := { program := "ytdcdfhonkjmpeaa", sum := "e21a8b91499e10ca63e0f295a80629ec964faad389e2f5836822a780ffadca6e", func := "paternoster/paternosterlaw08.PaceHalf", spec := "paceHalf", unfollowed := true, recurses := true, apart := false, narrowed := true }
def PaceHalfUptoSaid : Prop := paceHalfUptoRow.holds Try.pinned (OpenSpec.upto paceHalfSpec)

/-- 'paternosterlaw15.PickFair', WHERE WHAT IT READS IS OF BULK AT MOST 1048576: true; the input reads as it did. -/
def pickFairUptoRow : OpenClaim := { program := "ytdcdfhonkjmpeaa", sum := "e21a8b91499e10ca63e0f295a80629ec964faad389e2f5836822a780ffadca6e", func := "paternoster/paternosterlaw15.PickFair", spec := "pickFair", unfollowed := true, recurses := true, apart := false, narrowed := true }
def PickFairUptoSaid : Prop := pickFairUptoRow.holds Try.pinned (OpenSpec.upto pickFairSpec)

/-- 'paternosterlaw15.PickWaits', WHERE WHAT IT READS IS OF BULK AT MOST 1048576: true; the input reads as it did. -/
def pickWaitsUptoRow : OpenClaim := { program := "ytdcdfhonkjmpeaa", sum := "e21a8b91499e10ca63e0f295a80629ec964faad389e2f5836822a780ffadca6e", func := "paternoster/paternosterlaw15.PickWaits", spec := "pickWaits", unfollowed := true, recurses := true, apart := false, narrowed := true }
def PickWaitsUptoSaid : Prop := pickWaitsUptoRow.holds Try.pinned (OpenSpec.upto pickWaitsSpec)

/-- 'paternosterlaw08.PaceBounds', WHERE WHAT IT READS IS OF BULK AT MOST 1048576: true; the input reads as it did. -/
def paceBoundsUptoRow : OpenClaim := { program := "ytdcdfhonkjmpeaa", sum := "e21a8b91499e10ca63e0f295a80629ec964faad389e2f5836822a780ffadca6e", func := "paternoster/paternosterlaw08.PaceBounds", spec := "paceBounds", unfollowed := true, recurses := true, apart := false, narrowed := true }
def PaceBoundsUptoSaid : Prop := paceBoundsUptoRow.holds Try.pinned (OpenSpec.upto paceBoundsSpec)

/-- 'paternosterlaw15.PickDoes', WHERE WHAT IT READS IS OF BULK AT MOST 1048576: true; the input reads as it did. -/
def pickDoesUptoRow : OpenClaim := { program := "ytdcdfhonkjmpeaa", sum := "e21a8b91499e10ca63e0f295a80629ec964faad389e2f5836822a780ffadca6e", func := "paternoster/paternosterlaw15.PickDoes", spec := "pickDoes", unfollowed := true, recurses := true, apart := false, narrowed := true }
def PickDoesUptoSaid : Prop := pickDoesUptoRow.holds Try.pinned (OpenSpec.upto pickDoesSpec)

/-- 'paternosterlaw08.PaceDoes', WHERE WHAT IT READS IS OF BULK AT MOST 1048576: true; the input reads as it did. -/
def paceDoesUptoRow : OpenClaim := { program := "ytdcdfhonkjmpeaa", sum := "e21a8b91499e10ca63e0f295a80629ec964faad389e2f5836822a780ffadca6e", func := "paternoster/paternosterlaw08.PaceDoes", spec := "paceDoes", unfollowed := true, recurses := true, apart := false, narrowed := true }
def PaceDoesUptoSaid : Prop := paceDoesUptoRow.holds Try.pinned (OpenSpec.upto paceDoesSpec)

/-- 'paternosterlaw08.PaceNone', WHERE WHAT IT READS IS OF BULK AT MOST 1048576: true; the input reads as it did. -/
def paceNoneUptoRow : OpenClaim := { program := "ytdcdfhonkjmpeaa", sum := "e21a8b91499e10ca63e0f295a80629ec964faad389e2f5836822a780ffadca6e", func := "paternoster/paternosterlaw08.PaceNone", spec := "paceNone", unfollowed := true, recurses := true, apart := false, narrowed := true }
def PaceNoneUptoSaid : Prop := paceNoneUptoRow.holds Try.pinned (OpenSpec.upto paceNoneSpec)

/-- 'paternosterlaw15.PickCosts', WHERE WHAT IT READS IS OF BULK AT MOST 1048576: true; the input reads as it did. -/
def pickCostsUptoRow : OpenClaim := { program := "ytdcdfhonkjmpeaa", sum := "e21a8b91499e10ca63e0f295a80629ec964faad389e2f5836822a780ffadca6e", func := "paternoster/paternosterlaw15.PickCosts", spec := "pickCosts", unfollowed := true, recurses := true, apart := false, narrowed := true }
def PickCostsUptoSaid : Prop := pickCostsUptoRow.holds Try.pinned (OpenSpec.upto pickCostsSpec)

end Rows
end Go.Proofs.Ytdcdfhonkjmpeaa
