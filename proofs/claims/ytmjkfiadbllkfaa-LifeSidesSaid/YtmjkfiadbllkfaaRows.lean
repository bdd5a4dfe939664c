/-
  No cell of these rows narrows 'for every input' (looked for: loops, veiled, ifaces, maps, wideKeys, modest, calm, conditions, laid).
  DERIVED. THE GIVEN ROWS OF THIS SEAT. 12 by the template 'for every input the law returns true; each argument reads behind the call as it read before'; 0 by the template 'total and deterministic' (their statements: YtmjkfiadbllkfaaTotals.lean).
  GIVEN WITH THE SEED: the statements are not yours to turn. If you find one false, say at which input.
  Laid BY PROGRAM, IN A SANDBOX (cutbox-rows.mjs): the forced cells as the released guide's own fill.sh prints them over the translation ba8bd57d6d31d0a6… (all of the seat's roots in one cut). By AI agents, Wed Nov 11 2026. No macro, syntax, notation, axiom, sorry.
-/
import Derived.Test.YtmjkfiadbllkfaaChecked
import GoSem.Claim
import GoSem.ClaimJoined
import GoSem.ClaimMapViews
import Derived.JoinedTies
import Derived.KernelRfl
namespace Go.Proofs.Ytmjkfiadbllkfaa
/- THE CELL 'sum', in the pinned program and in every row, IS THE sha256 OF THE DUMP (.gsa) THAT YtmjkfiadbllkfaaProg.lean LOADS. Nothing in Lean hashes anything: it is a label: what it is worth is what the hold of that sum in a sandbox is worth. -/
noncomputable def Try.pinned : Pinned := { name := "ytmjkfiadbllkfaa", sum := "ba8bd57d6d31d0a66470d7430b6bfaea681099e0d2cab2b5264e16e52375b665", checked := Try.checked }
namespace Rows
def none {H : Type} : Left H := { results := [], args := [] }

/-- 'paternosterlaw19.StallOnly': WHATEVER THE INPUT: true; the input reads as it did. -/
def stallOnlySpec : ChangeSpec := { name := "stallOnly", fn := fun _ => fun
  | [d1, d2] => { results := [.lit (.bool true)], args := [d1, d2] }
  | _ => none }
def stallOnlyRow : OpenClaim := { program := "ytmjkfiadbllkfaa", sum := "ba8bd57d6d31d0a66470d7430b6bfaea681099e0d2cab2b5264e16e52375b665", func := "paternoster/paternosterlaw19.StallOnly", spec := "stallOnly", unfollowed := true, recurses := true, apart := false }
def StallOnlySaid : Prop := stallOnlyRow.holds Try.pinned (OpenSpec.ofChange stallOnlySpec)

/-- ITS FALSE NEIGHBOUR: 'it returns false'. Refute it at one input. -/
def stallOnlyWrong : ChangeSpec := { name := "stallOnly", fn := fun _ => fun
  | [d1, d2] => { results := [.lit (.bool false)], args := [d1, d2] }
  | _ => none }
def StallOnlyWrongFalsely : Prop := stallOnlyRow.holds Try.pinned (OpenSpec.ofChange stallOnlyWrong)

/-- 'paternosterlaw27.LinkOrder': WHATEVER THE INPUT: true; the input reads as it did. -/
def linkOrderSpec : ChangeSpec := { name := "linkOrder", fn := fun _ => fun
  | [d] => { results := [.lit (.bool true)], args := [d] }
  | _ => none }
def linkOrderRow : OpenClaim := { program := "ytmjkfiadbllkfaa", sum := "ba8bd57d6d31d0a66470d7430b6bfaea681099e0d2cab2b5264e16e52375b665", func := "paternoster/paternosterlaw27.LinkOrder", spec := "linkOrder", unfollowed := true, recurses := true, apart := false }
def LinkOrderSaid : Prop := linkOrderRow.holds Try.pinned (OpenSpec.ofChange linkOrderSpec)

/-- ITS FALSE NEIGHBOUR: 'it returns false'. Refute it at one input. -/
def linkOrderWrong : ChangeSpec := { name := "linkOrder", fn := fun _ => fun
  | [d] => { results := [.lit (.bool false)], args := [d] }
  | _ => none }
def LinkOrderWrongFalsely : Prop := linkOrderRow.holds Try.pinned (OpenSpec.ofChange linkOrderWrong)

/-- 'paternosterlaw19.StallNone': WHATEVER THE INPUT: true; the input reads as it did. -/
def stallNoneSpec : ChangeSpec := { name := "stallNone", fn := fun _ => fun
  | [d1, d2] => { results := [.lit (.bool true)], args := [d1, d2] }
  | _ => none }
def stallNoneRow : OpenClaim := { program := "ytmjkfiadbllkfaa", sum := "ba8bd57d6d31d0a66470d7430b6bfaea681099e0d2cab2b5264e16e52375b665", func := "paternoster/paternosterlaw19.StallNone", spec := "stallNone", unfollowed := true, recurses := true, apart := false }
def StallNoneSaid : Prop := stallNoneRow.holds Try.pinned (OpenSpec.ofChange stallNoneSpec)

/-- ITS FALSE NEIGHBOUR: 'it returns false'. Refute it at one input. -/
def stallNoneWrong : ChangeSpec := { name := "stallNone", fn := fun _ => fun
  | [d1, d2] => { results := [.lit (.bool false)], args := [d1, d2] }
  | _ => none }
def StallNoneWrongFalsely : Prop := stallNoneRow.holds Try.pinned (OpenSpec.ofChange stallNoneWrong)

/-- 'paternosterlaw27.LinkDoes': WHATEVER THE INPUT: true; the input reads as it did. -/
def linkDoesSpec : ChangeSpec := { name := "linkDoes", fn := fun _ => fun
  | [d1, d2] => { results := [.lit (.bool true)], args := [d1, d2] }
  | _ => none }
def linkDoesRow : OpenClaim := { program := "ytmjkfiadbllkfaa", sum := "ba8bd57d6d31d0a66470d7430b6bfaea681099e0d2cab2b5264e16e52375b665", func := "paternoster/paternosterlaw27.LinkDoes", spec := "linkDoes", unfollowed := true, recurses := true, apart := false }
def LinkDoesSaid : Prop := linkDoesRow.holds Try.pinned (OpenSpec.ofChange linkDoesSpec)

/-- ITS FALSE NEIGHBOUR: 'it returns false'. Refute it at one input. -/
def linkDoesWrong : ChangeSpec := { name := "linkDoes", fn := fun _ => fun
  | [d1, d2] => { results := [.lit (.bool false)], args := [d1, d2] }
  | _ => none }
def LinkDoesWrongFalsely : Prop := linkDoesRow.holds Try.pinned (OpenSpec.ofChange linkDoesWrong)

/-- 'paternosterlaw27.LinkNone': WHATEVER THE INPUT: true; the input reads as it did. -/
def linkNoneSpec : ChangeSpec := { name := "linkNone", fn := fun _ => fun
  | [d] => { results := [.lit (.bool true)], args := [d] }
  | _ => none }
def linkNoneRow : OpenClaim := { program := "ytmjkfiadbllkfaa", sum := "ba8bd57d6d31d0a66470d7430b6bfaea681099e0d2cab2b5264e16e52375b665", func := "paternoster/paternosterlaw27.LinkNone", spec := "linkNone", unfollowed := true, recurses := true, apart := false }
def LinkNoneSaid : Prop := linkNoneRow.holds Try.pinned (OpenSpec.ofChange linkNoneSpec)

/-- ITS FALSE NEIGHBOUR: 'it returns false'. Refute it at one input. -/
def linkNoneWrong : ChangeSpec := { name := "linkNone", fn := fun _ => fun
  | [d] => { results := [.lit (.bool false)], args := [d] }
  | _ => none }
def LinkNoneWrongFalsely : Prop := linkNoneRow.holds Try.pinned (OpenSpec.ofChange linkNoneWrong)

/-- 'paternosterlaw12.LifeNext': WHATEVER THE INPUT: true; the input reads as it did. -/
def lifeNextSpec : ChangeSpec := { name := "lifeNext", fn := fun _ => fun
  | [d1, d2] => { results := [.lit (.bool true)], args := [d1, d2] }
  | _ => none }
def lifeNextRow : OpenClaim := { program := "ytmjkfiadbllkfaa", sum := "ba8bd57d6d31d0a66470d7430b6bfaea681099e0d2cab2b5264e16e52375b665", func := "paternoster/paternosterlaw12.LifeNext", spec := "lifeNext", unfollowed := true, recurses := true, apart := false }
def LifeNextSaid : Prop := lifeNextRow.holds Try.pinned (OpenSpec.ofChange lifeNextSpec)

/-- ITS FALSE NEIGHBOUR: 'it returns false'. Refute it at one input. -/
def lifeNextWrong : ChangeSpec := { name := "lifeNext", fn := fun _ => fun
  | [d1, d2] => { results := [.lit (.bool false)], args := [d1, d2] }
  | _ => none }
def LifeNextWrongFalsely : Prop := lifeNextRow.holds Try.pinned (OpenSpec.ofChange lifeNextWrong)

/-- 'paternosterlaw12.LifeGoes': WHATEVER THE INPUT: true; the input reads as it did. -/
def lifeGoesSpec : ChangeSpec := { name := "lifeGoes", fn := fun _ => fun
  | [d] => { results := [.lit (.bool true)], args := [d] }
  | _ => none }
def lifeGoesRow : OpenClaim := { program := "ytmjkfiadbllkfaa", sum := "ba8bd57d6d31d0a66470d7430b6bfaea681099e0d2cab2b5264e16e52375b665", func := "paternoster/paternosterlaw12.LifeGoes", spec := "lifeGoes", unfollowed := true, recurses := true, apart := false }
def LifeGoesSaid : Prop := lifeGoesRow.holds Try.pinned (OpenSpec.ofChange lifeGoesSpec)

/-- ITS FALSE NEIGHBOUR: 'it returns false'. Refute it at one input. -/
def lifeGoesWrong : ChangeSpec := { name := "lifeGoes", fn := fun _ => fun
  | [d] => { results := [.lit (.bool false)], args := [d] }
  | _ => none }
def LifeGoesWrongFalsely : Prop := lifeGoesRow.holds Try.pinned (OpenSpec.ofChange lifeGoesWrong)

/-- 'paternosterlaw12.LifeSides': WHATEVER THE INPUT: true; the input reads as it did. -/
def lifeSidesSpec : ChangeSpec := { name := "lifeSides", fn := fun _ => fun
  | [d] => { results := [.lit (.bool true)], args := [d] }
  | _ => none }
def lifeSidesRow : OpenClaim := { program := "ytmjkfiadbllkfaa", sum := "ba8bd57d6d31d0a66470d7430b6bfaea681099e0d2cab2b5264e16e52375b665", func := "paternoster/paternosterlaw12.LifeSides", spec := "lifeSides", unfollowed := true, recurses := true, apart := false }
def LifeSidesSaid : Prop := lifeSidesRow.holds Try.pinned (OpenSpec.ofChange lifeSidesSpec)

/-- ITS FALSE NEIGHBOUR: 'it returns false'. Refute it at one input. -/
def lifeSidesWrong : ChangeSpec := { name := "lifeSides", fn := fun _ => fun
  | [d] => { results := [.lit (.bool false)], args := [d] }
  | _ => none }
def LifeSidesWrongFalsely : Prop := lifeSidesRow.holds Try.pinned (OpenSpec.ofChange lifeSidesWrong)

/-- 'paternosterlaw12.LifeNone': WHATEVER THE INPUT: true; the input reads as it did. -/
def lifeNoneSpec : ChangeSpec := { name := "lifeNone", fn := fun _ => fun
  | [d] => { results := [.lit (.bool true)], args := [d] }
  | _ => none }
def lifeNoneRow : OpenClaim := { program := "ytmjkfiadbllkfaa", sum := "ba8bd57d6d31d0a66470d7430b6bfaea681099e0d2cab2b5264e16e52375b665", func := "paternoster/paternosterlaw12.LifeNone", spec := "lifeNone", unfollowed := true, recurses := true, apart := false }
def LifeNoneSaid : Prop := lifeNoneRow.holds Try.pinned (OpenSpec.ofChange lifeNoneSpec)

/-- ITS FALSE NEIGHBOUR: 'it returns false'. Refute it at one input. -/
def lifeNoneWrong : ChangeSpec := { name := "lifeNone", fn := fun _ => fun
  | [d] => { results := [.lit (.bool false)], args := [d] }
  | _ => none }
def LifeNoneWrongFalsely : Prop := lifeNoneRow.holds Try.pinned (OpenSpec.ofChange lifeNoneWrong)

/-- 'paternosterlaw20.DrainEnds': WHATEVER THE INPUT: true; the input reads as it did. -/
def drainEndsSpec : ChangeSpec := { name := "drainEnds", fn := fun _ => fun
  | [d1, d2, d3] => { results := [.lit (.bool true)], args := [d1, d2, d3] }
  | _ => none }
def drainEndsRow : OpenClaim := { program := "ytmjkfiadbllkfaa", sum := "ba8bd57d6d31d0a66470d7430b6bfaea681099e0d2cab2b5264e16e52375b665", func := "paternoster/paternosterlaw20.DrainEnds", spec := "drainEnds", unfollowed := true, recurses := true, apart := false }
def DrainEndsSaid : Prop := drainEndsRow.holds Try.pinned (OpenSpec.ofChange drainEndsSpec)

/-- ITS FALSE NEIGHBOUR: 'it returns false'. Refute it at one input. -/
def drainEndsWrong : ChangeSpec := { name := "drainEnds", fn := fun _ => fun
  | [d1, d2, d3] => { results := [.lit (.bool false)], args := [d1, d2, d3] }
  | _ => none }
def DrainEndsWrongFalsely : Prop := drainEndsRow.holds Try.pinned (OpenSpec.ofChange drainEndsWrong)

/-- 'paternosterlaw20.DrainDoes': WHATEVER THE INPUT: true; the input reads as it did. -/
def drainDoesSpec : ChangeSpec := { name := "drainDoes", fn := fun _ => fun
  | [d1, d2] => { results := [.lit (.bool true)], args := [d1, d2] }
  | _ => none }
def drainDoesRow : OpenClaim := { program := "ytmjkfiadbllkfaa", sum := "ba8bd57d6d31d0a66470d7430b6bfaea681099e0d2cab2b5264e16e52375b665", func := "paternoster/paternosterlaw20.DrainDoes", spec := "drainDoes", unfollowed := true, recurses := true, apart := false }
def DrainDoesSaid : Prop := drainDoesRow.holds Try.pinned (OpenSpec.ofChange drainDoesSpec)

/-- ITS FALSE NEIGHBOUR: 'it returns false'. Refute it at one input. -/
def drainDoesWrong : ChangeSpec := { name := "drainDoes", fn := fun _ => fun
  | [d1, d2] => { results := [.lit (.bool false)], args := [d1, d2] }
  | _ => none }
def DrainDoesWrongFalsely : Prop := drainDoesRow.holds Try.pinned (OpenSpec.ofChange drainDoesWrong)

/-- 'paternosterlaw20.DrainNone': WHATEVER THE INPUT: true; the input reads as it did. -/
def drainNoneSpec : ChangeSpec := { name := "drainNone", fn := fun _ => fun
  | [d] => { results := [.lit (.bool true)], args := [d] }
  | _ => none }
def drainNoneRow : OpenClaim := { program := "ytmjkfiadbllkfaa", sum := "ba8bd57d6d31d0a66470d7430b6bfaea681099e0d2cab2b5264e16e52375b665", func := "paternoster/paternosterlaw20.DrainNone", spec := "drainNone", unfollowed := true, recurses := true, apart := false }
def DrainNoneSaid : Prop := drainNoneRow.holds Try.pinned (OpenSpec.ofChange drainNoneSpec)

/-- ITS FALSE NEIGHBOUR: 'it returns false'. Refute it at one input. -/
def drainNoneWrong : ChangeSpec := { name := "drainNone", fn := fun _ => fun
  | [d] => { results := [.lit (.bool false)], args := [d] }
  | _ => none }
def DrainNoneWrongFalsely : Prop := drainNoneRow.holds Try.pinned (OpenSpec.ofChange drainNoneWrong)

/- THE SECOND FORM. 'bulk': how many values and letters a reading holds, each counted each time it is reached (what is shared counts as often as it is met; a slice's spare places count too). A statement '..UptoSaid' is the law's where the arguments, and the package variables that the reading takes, are together of bulk at most 1048576: NARROWER than '..Said'. Prove '..Said' where nothing that the law and all that it calls make is longer than what came in: it says more and counts as full. Else prove '..UptoSaid'. A law counts once. -/
mutual
def uptoBulk {H : Type} : DataW H → Nat
  | .lit (.string bytes) => bytes.length + 1
  | .lit _ => 1
  | .nil => 1
  | .ptr d => uptoBulk d + 1
  | .slice elems spare => uptoBulkAll elems + uptoBulkAll spare + 1
  | .agg parts => uptoBulkAll parts + 1
  | .iface _ d => uptoBulk d + 1
  | .map entries => uptoBulkEntries entries + 1
  | .held _ => 1
def uptoBulkAll {H : Type} : List (DataW H) → Nat
  | [] => 0
  | d :: r => uptoBulk d + uptoBulkAll r
def uptoBulkEntries {H : Type} : List (Lit × DataW H) → Nat
  | [] => 0
  | x :: r => uptoBulkEntry x + uptoBulkEntries r
def uptoBulkEntry {H : Type} : Lit × DataW H → Nat
  | (.string bytes, d) => bytes.length + uptoBulk d + 1
  | (_, d) => uptoBulk d + 1
 end
def uptoSmall : (H : Type) → List (DataW H) → Bool := fun _ ds => decide (uptoBulkAll ds ≤ 1048576)
def OpenSpec.upto (s : _root_.Go.ChangeSpec) : _root_.Go.OpenSpec := { _root_.Go.OpenSpec.ofChange s with cond := some uptoSmall }

/-- 'paternosterlaw19.StallOnly', WHERE WHAT IT READS IS OF BULK AT MOST 1048576: true; the input reads as it did. -/
def stallOnlyUptoRow : OpenClaim := { program := "ytmjkfiadbllkfaa", sum := "ba8bd57d6d31d0a66470d7430b6bfaea681099e0d2cab2b5264e16e52375b665", func := "paternoster/paternosterlaw19.StallOnly", spec := "stallOnly", unfollowed := true, recurses := true, apart := false, narrowed := true }
def StallOnlyUptoSaid : Prop := stallOnlyUptoRow.holds Try.pinned (OpenSpec.upto stallOnlySpec)

/-- 'paternosterlaw27.LinkOrder', WHERE WHAT IT READS IS OF BULK AT MOST 1048576: true; the input reads as it did. -/
def linkOrderUptoRow : OpenClaim := { program := "ytmjkfiadbllkfaa", sum := "ba8bd57d6d31d0a66470d7430b6bfaea681099e0d2cab2b5264e16e52375b665", func := "paternoster/paternosterlaw27.LinkOrder", spec := "linkOrder", unfollowed := true, recurses := true, apart := false, narrowed := true }
def LinkOrderUptoSaid : Prop := linkOrderUptoRow.holds Try.pinned (OpenSpec.upto linkOrderSpec)

/-- 'paternosterlaw19.StallNone', WHERE WHAT IT READS IS OF BULK AT MOST 1048576: true; the input reads as it did. -/
def stallNoneUptoRow : OpenClaim := { program := "ytmjkfiadbllkfaa", sum := "ba8bd57d6d31d0a66470d7430b6bfaea681099e0d2cab2b5264e16e52375b665", func := "paternoster/paternosterlaw19.StallNone", spec := "stallNone", unfollowed := true, recurses := true, apart := false, narrowed := true }
def StallNoneUptoSaid : Prop := stallNoneUptoRow.holds Try.pinned (OpenSpec.upto stallNoneSpec)

/-- 'paternosterlaw27.LinkDoes', WHERE WHAT IT READS IS OF BULK AT MOST 1048576: true; the input reads as it did. -/
def linkDoesUptoRow : OpenClaim := { program := "ytmjkfiadbllkfaa", sum := "ba8bd57d6d31d0a66470d7430b6bfaea681099e0d2cab2b5264e16e52375b665", func := "paternoster/paternosterlaw27.LinkDoes", spec := "linkDoes", unfollowed := true, recurses := true, apart := false, narrowed := true }
def LinkDoesUptoSaid : Prop := linkDoesUptoRow.holds Try.pinned (OpenSpec.upto linkDoesSpec)

/-- 'paternosterlaw27.LinkNone', WHERE WHAT IT READS IS OF BULK AT MOST 1048576: true; the input reads as it did. -/
def linkNoneUptoRow : OpenClaim := { program := "ytmjkfiadbllkfaa", sum := "ba8bd57d6d31d0a66470d7430b6bfaea681099e0d2cab2b5264e16e52375b665", func := "paternoster/paternosterlaw27.LinkNone", spec := "linkNone", unfollowed := true, recurses := true, apart := false, narrowed := true }
def LinkNoneUptoSaid : Prop := linkNoneUptoRow.holds Try.pinned (OpenSpec.upto linkNoneSpec)

/-- 'paternosterlaw12.LifeNext', WHERE WHAT IT READS IS OF BULK AT MOST 1048576: true; the input reads as it did. -/
def lifeNextUptoRow : OpenClaim := { program := "ytmjkfiadbllkfaa", sum := "ba8bd57d6d31d0a66470d7430b6bfaea681099e0d2cab2b5264e16e52375b665", func := "paternoster/paternosterlaw12.LifeNext", spec := "lifeNext", unfollowed := true, recurses := true, apart := false, narrowed := true }
def LifeNextUptoSaid : Prop := lifeNextUptoRow.holds Try.pinned (OpenSpec.upto lifeNextSpec)

/-- 'paternosterlaw12.LifeGoes', WHERE WHAT IT READS IS OF BULK AT MOST 1048576: true; the input reads as it did. -/
def lifeGoesUptoRow : OpenClaim := { program := "ytmjkfiadbllkfaa", sum := "ba8bd57d6d31d0a66470d7430b6bfaea681099e0d2cab2b5264e16e52375b665", func := "paternoster/paternosterlaw12.LifeGoes", spec := "lifeGoes", unfollowed := true, recurses := true, apart := false, narrowed := true }
def LifeGoesUptoSaid : Prop := lifeGoesUptoRow.holds Try.pinned (OpenSpec.upto lifeGoesSpec)

/-- 'paternosterlaw12.LifeSides', WHERE WHAT IT READS IS OF BULK AT MOST 1048576: true; the input reads as it did. -/
def lifeSidesUptoRow : OpenClaim := { program := "ytmjkfiadbllkfaa", sum := "ba8bd57d6d31d0a66470d7430b6bfaea681099e0d2cab2b5264e16e52375b665", func := "paternoster/paternosterlaw12.LifeSides", spec := "lifeSides", unfollowed := true, recurses := true, apart := false, narrowed := true }
def LifeSidesUptoSaid : Prop := lifeSidesUptoRow.holds Try.pinned (OpenSpec.upto lifeSidesSpec)

/-- 'paternosterlaw12.LifeNone', WHERE WHAT IT READS IS OF BULK AT MOST 1048576: true; the input reads as it did. -/
def lifeNoneUptoRow : OpenClaim := { program := "ytmjkfiadbllkfaa", sum := "ba8bd57d6d31d0a66470d7430b6bfaea681099e0d2cab2b5264e16e52375b665", func := "paternoster/paternosterlaw12.LifeNone", spec := "lifeNone", unfollowed := true, recurses := true, apart := false, narrowed := true }
def LifeNoneUptoSaid : Prop := lifeNoneUptoRow.holds Try.pinned (OpenSpec.upto lifeNoneSpec)

/-- 'paternosterlaw20.DrainEnds', WHERE WHAT IT READS IS OF BULK AT MOST 1048576: true; the input reads as it did. -/
def drainEndsUptoRow : OpenClaim := { program := "ytmjkfiadbllkfaa", sum := "ba8bd57d6d31d0a66470d7430b6bfaea681099e0d2cab2b5264e16e52375b665", func := "paternoster/paternosterlaw20.DrainEnds", spec := "drainEnds", unfollowed := true, recurses := true, apart := false, narrowed := true }
def DrainEndsUptoSaid : Prop := drainEndsUptoRow.holds Try.pinned (OpenSpec.upto drainEndsSpec)

/-- 'paternosterlaw20.DrainDoes', WHERE WHAT IT READS IS OF BULK AT MOST 1048576: true; the input reads as it did. -/
def drainDoesUptoRow : OpenClaim := { program := "ytmjkfiadbllkfaa", sum := "ba8bd57d6d31d0a66470d7430b6bfaea681099e0d2cab2b5264e16e52375b665", func := "paternoster/paternosterlaw20.DrainDoes", spec := "drainDoes", unfollowed := true, recurses := true, apart := false, narrowed := true }
def DrainDoesUptoSaid : Prop := drainDoesUptoRow.holds Try.pinned (OpenSpec.upto drainDoesSpec)

/-- 'paternosterlaw20.DrainNone', WHERE WHAT IT READS IS OF BULK AT MOST 1048576: true; the input reads as it did. -/
def drainNoneUptoRow : OpenClaim := { program := "ytmjkfiadbllkfaa", sum := "ba8bd57d6d31d0a66470d7430b6bfaea681099e0d2cab2b5264e16e52375b665", func := "paternoster/paternosterlaw20.DrainNone", spec := "drainNone", unfollowed := true, recurses := true, apart := false, narrowed := true }
def DrainNoneUptoSaid : Prop := drainNoneUptoRow.holds Try.pinned (OpenSpec.upto drainNoneSpec)

end Rows
end Go.Proofs.Ytmjkfiadbllkfaa
