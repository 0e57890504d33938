/-
  No cell of these rows narrows 'for every input' (looked for: loops, veiled, ifaces, maps, wideKeys, modest, calm, conditions, laid).
  DERIVED. THE GIVEN ROWS OF THIS SEAT. 8 by the template 'for every input the law returns true; each argument reads behind the call as it read before'; 0 by the template 'total and deterministic' (their statements: YtkpkeachhkbbkaaTotals.lean).
  GIVEN WITH THE SEED: the statements are not yours to turn. If you find one false, say at which input.
  Laid BY PROGRAM, IN A SANDBOX (cutbox-rows.mjs): the forced cells as the released guide's own fill.sh prints them over the translation 60dea59aabb686a7… (all of the seat's roots in one cut). By AI agents, Wed Nov 11 2026. No macro, syntax, notation, axiom, sorry.
-/
import Derived.Test.YtkpkeachhkbbkaaChecked
import GoSem.Claim
import GoSem.ClaimJoined
import GoSem.ClaimMapViews
import Derived.JoinedTies
import Derived.KernelRfl
namespace Go.Proofs.Ytkpkeachhkbbkaa
/- THE CELL 'sum', in the pinned program and in every row, IS THE sha256 OF THE DUMP (.gsa) THAT YtkpkeachhkbbkaaProg.lean LOADS. Nothing in Lean hashes anything: it is a label: what it is worth is what the hold of that sum in a sandbox is worth. -/
noncomputable def Try.pinned : Pinned := { name := "ytkpkeachhkbbkaa", sum := "60dea59aabb686a74228bd2a7d3ddadd00ca551a0a7ea0650739c25b37e8a96f", checked := Try.checked }
namespace Rows
def none {H : Type} : Left H := { results := [], args := [] }

/-- 'tocsinlaw13.MuteAny': WHATEVER THE INPUT: true; the input reads as it did. -/
def muteAnySpec : ChangeSpec := { name := "muteAny", fn := fun _ => fun
  | [d1, d2] => { results := [.lit (.bool true)], args := [d1, d2] }
  | _ => none }
def muteAnyRow : OpenClaim := { program := "ytkpkeachhkbbkaa", sum := "60dea59aabb686a74228bd2a7d3ddadd00ca551a0a7ea0650739c25b37e8a96f", func := "tocsin/tocsinlaw13.MuteAny", spec := "muteAny", unfollowed := true, recurses := true, apart := false }
def MuteAnySaid : Prop := muteAnyRow.holds Try.pinned (OpenSpec.ofChange muteAnySpec)

/-- ITS FALSE NEIGHBOUR: 'it returns false'. Refute it at one input. -/
def muteAnyWrong : ChangeSpec := { name := "muteAny", fn := fun _ => fun
  | [d1, d2] => { results := [.lit (.bool false)], args := [d1, d2] }
  | _ => none }
def MuteAnyWrongFalsely : Prop := muteAnyRow.holds Try.pinned (OpenSpec.ofChange muteAnyWrong)

/-- 'tocsinlaw13.MuteSilent': WHATEVER THE INPUT: true; the input reads as it did. -/
def muteSilentSpec : ChangeSpec := { name := "muteSilent", fn := fun _ => fun
  | [d1, d2] => { results := [.lit (.bool true)], args := [d1, d2] }
  | _ => none }
def muteSilentRow : OpenClaim := { program := "ytkpkeachhkbbkaa", sum := "60dea59aabb686a74228bd2a7d3ddadd00ca551a0a7ea0650739c25b37e8a96f", func := "tocsin/tocsinlaw13.MuteSilent", spec := "muteSilent", unfollowed := true, recurses := true, apart := false }
def MuteSilentSaid : Prop := muteSilentRow.holds Try.pinned (OpenSpec.ofChange muteSilentSpec)

/-- ITS FALSE NEIGHBOUR: 'it returns false'. Refute it at one input. -/
def muteSilentWrong : ChangeSpec := { name := "muteSilent", fn := fun _ => fun
  | [d1, d2] => { results := [.lit (.bool false)], args := [d1, d2] }
  | _ => none }
def MuteSilentWrongFalsely : Prop := muteSilentRow.holds Try.pinned (OpenSpec.ofChange muteSilentWrong)

/-- 'tocsinlaw13.MuteWeek': WHATEVER THE INPUT: true; the input reads as it did. -/
def muteWeekSpec : ChangeSpec := { name := "muteWeek", fn := fun _ => fun
  | [d1, d2] => { results := [.lit (.bool true)], args := [d1, d2] }
  | _ => none }
def muteWeekRow : OpenClaim := { program := "ytkpkeachhkbbkaa", sum := "60dea59aabb686a74228bd2a7d3ddadd00ca551a0a7ea0650739c25b37e8a96f", func := "tocsin/tocsinlaw13.MuteWeek", spec := "muteWeek", unfollowed := true, recurses := true, apart := false }
def MuteWeekSaid : Prop := muteWeekRow.holds Try.pinned (OpenSpec.ofChange muteWeekSpec)

/-- ITS FALSE NEIGHBOUR: 'it returns false'. Refute it at one input. -/
def muteWeekWrong : ChangeSpec := { name := "muteWeek", fn := fun _ => fun
  | [d1, d2] => { results := [.lit (.bool false)], args := [d1, d2] }
  | _ => none }
def MuteWeekWrongFalsely : Prop := muteWeekRow.holds Try.pinned (OpenSpec.ofChange muteWeekWrong)

/-- 'tocsinlaw13.MuteBetween': WHATEVER THE INPUT: true; the input reads as it did. -/
def muteBetweenSpec : ChangeSpec := { name := "muteBetween", fn := fun _ => fun
  | [d1, d2, d3] => { results := [.lit (.bool true)], args := [d1, d2, d3] }
  | _ => none }
def muteBetweenRow : OpenClaim := { program := "ytkpkeachhkbbkaa", sum := "60dea59aabb686a74228bd2a7d3ddadd00ca551a0a7ea0650739c25b37e8a96f", func := "tocsin/tocsinlaw13.MuteBetween", spec := "muteBetween", unfollowed := true, recurses := true, apart := false }
def MuteBetweenSaid : Prop := muteBetweenRow.holds Try.pinned (OpenSpec.ofChange muteBetweenSpec)

/-- ITS FALSE NEIGHBOUR: 'it returns false'. Refute it at one input. -/
def muteBetweenWrong : ChangeSpec := { name := "muteBetween", fn := fun _ => fun
  | [d1, d2, d3] => { results := [.lit (.bool false)], args := [d1, d2, d3] }
  | _ => none }
def MuteBetweenWrongFalsely : Prop := muteBetweenRow.holds Try.pinned (OpenSpec.ofChange muteBetweenWrong)

/-- 'tocsinlaw13.MuteTurned': WHATEVER THE INPUT: true; the input reads as it did. -/
def muteTurnedSpec : ChangeSpec := { name := "muteTurned", fn := fun _ => fun
  | [d1, d2, d3] => { results := [.lit (.bool true)], args := [d1, d2, d3] }
  | _ => none }
def muteTurnedRow : OpenClaim := { program := "ytkpkeachhkbbkaa", sum := "60dea59aabb686a74228bd2a7d3ddadd00ca551a0a7ea0650739c25b37e8a96f", func := "tocsin/tocsinlaw13.MuteTurned", spec := "muteTurned", unfollowed := true, recurses := true, apart := false }
def MuteTurnedSaid : Prop := muteTurnedRow.holds Try.pinned (OpenSpec.ofChange muteTurnedSpec)

/-- ITS FALSE NEIGHBOUR: 'it returns false'. Refute it at one input. -/
def muteTurnedWrong : ChangeSpec := { name := "muteTurned", fn := fun _ => fun
  | [d1, d2, d3] => { results := [.lit (.bool false)], args := [d1, d2, d3] }
  | _ => none }
def MuteTurnedWrongFalsely : Prop := muteTurnedRow.holds Try.pinned (OpenSpec.ofChange muteTurnedWrong)

/-- 'tocsinlaw13.MuteUnion': WHATEVER THE INPUT: true; the input reads as it did. -/
def muteUnionSpec : ChangeSpec := { name := "muteUnion", fn := fun _ => fun
  | [d1, d2, d3, d4, d5] => { results := [.lit (.bool true)], args := [d1, d2, d3, d4, d5] }
  | _ => none }
def muteUnionRow : OpenClaim := { program := "ytkpkeachhkbbkaa", sum := "60dea59aabb686a74228bd2a7d3ddadd00ca551a0a7ea0650739c25b37e8a96f", func := "tocsin/tocsinlaw13.MuteUnion", spec := "muteUnion", unfollowed := true, recurses := true, apart := false }
def MuteUnionSaid : Prop := muteUnionRow.holds Try.pinned (OpenSpec.ofChange muteUnionSpec)

/-- ITS FALSE NEIGHBOUR: 'it returns false'. Refute it at one input. -/
def muteUnionWrong : ChangeSpec := { name := "muteUnion", fn := fun _ => fun
  | [d1, d2, d3, d4, d5] => { results := [.lit (.bool false)], args := [d1, d2, d3, d4, d5] }
  | _ => none }
def MuteUnionWrongFalsely : Prop := muteUnionRow.holds Try.pinned (OpenSpec.ofChange muteUnionWrong)

/-- 'tocsinlaw13.MuteNever': WHATEVER THE INPUT: true; the input reads as it did. -/
def muteNeverSpec : ChangeSpec := { name := "muteNever", fn := fun _ => fun
  | [d1, d2] => { results := [.lit (.bool true)], args := [d1, d2] }
  | _ => none }
def muteNeverRow : OpenClaim := { program := "ytkpkeachhkbbkaa", sum := "60dea59aabb686a74228bd2a7d3ddadd00ca551a0a7ea0650739c25b37e8a96f", func := "tocsin/tocsinlaw13.MuteNever", spec := "muteNever", unfollowed := true, recurses := true, apart := false }
def MuteNeverSaid : Prop := muteNeverRow.holds Try.pinned (OpenSpec.ofChange muteNeverSpec)

/-- ITS FALSE NEIGHBOUR: 'it returns false'. Refute it at one input. -/
def muteNeverWrong : ChangeSpec := { name := "muteNever", fn := fun _ => fun
  | [d1, d2] => { results := [.lit (.bool false)], args := [d1, d2] }
  | _ => none }
def MuteNeverWrongFalsely : Prop := muteNeverRow.holds Try.pinned (OpenSpec.ofChange muteNeverWrong)

/-- 'tocsinlaw13.MuteBegins': WHATEVER THE INPUT: true; the input reads as it did. -/
def muteBeginsSpec : ChangeSpec := { name := "muteBegins", fn := fun _ => fun
  | [d1, d2, d3, d4] => { results := [.lit (.bool true)], args := [d1, d2, d3, d4] }
  | _ => none }
def muteBeginsRow : OpenClaim := { program := "ytkpkeachhkbbkaa", sum := "60dea59aabb686a74228bd2a7d3ddadd00ca551a0a7ea0650739c25b37e8a96f", func := "tocsin/tocsinlaw13.MuteBegins", spec := "muteBegins", unfollowed := true, recurses := true, apart := false }
def MuteBeginsSaid : Prop := muteBeginsRow.holds Try.pinned (OpenSpec.ofChange muteBeginsSpec)

/-- ITS FALSE NEIGHBOUR: 'it returns false'. Refute it at one input. -/
def muteBeginsWrong : ChangeSpec := { name := "muteBegins", fn := fun _ => fun
  | [d1, d2, d3, d4] => { results := [.lit (.bool false)], args := [d1, d2, d3, d4] }
  | _ => none }
def MuteBeginsWrongFalsely : Prop := muteBeginsRow.holds Try.pinned (OpenSpec.ofChange muteBeginsWrong)

/- THE SECOND FORM. 'bulk': how many values and letters a reading holds, each counted each time it is reached (what is shared counts as often as it is met; a slice's spare places count too). A statement '..UptoSaid' is the law's where the arguments, and the package variables that the reading takes, are together of bulk at most 1048576: NARROWER than '..Said'. Prove '..Said' where nothing that the law and all that it calls make is longer than what came in: it says more and counts as full. Else prove '..UptoSaid'. A law counts once. -/
mutual
def uptoBulk {H : Type} : DataW H → Nat
  | .lit (.string bytes) => bytes.length + 1
  | .lit _ => 1
  | .nil => 1
  | .ptr d => uptoBulk d + 1
  | .slice elems spare => uptoBulkAll elems + uptoBulkAll spare + 1
  | .agg parts => uptoBulkAll parts + 1
  | .iface _ d => uptoBulk d + 1
  | .map entries => uptoBulkEntries entries + 1
  | .held _ => 1
def uptoBulkAll {H : Type} : List (DataW H) → Nat
  | [] => 0
  | d :: r => uptoBulk d + uptoBulkAll r
def uptoBulkEntries {H : Type} : List (Lit × DataW H) → Nat
  | [] => 0
  | x :: r => uptoBulkEntry x + uptoBulkEntries r
def uptoBulkEntry {H : Type} : Lit × DataW H → Nat
  | (.string bytes, d) => bytes.length + uptoBulk d + 1
  | (_, d) => uptoBulk d + 1
 end
def uptoSmall : (H : Type) → List (DataW H) → Bool := fun _ ds => decide (uptoBulkAll ds ≤ 1048576)
def OpenSpec.upto (s : _root_.Go.ChangeSpec) : _root_.Go.OpenSpec := { _root_.Go.OpenSpec.ofChange s with cond := some uptoSmall }

/-- 'tocsinlaw13.MuteAny', WHERE WHAT IT READS IS OF BULK AT MOST 1048576: true; the input reads as it did. -/
def muteAnyUptoRow : OpenClaim := { program := "ytkpkeachhkbbkaa", sum := "60dea59aabb686a74228bd2a7d3ddadd00ca551a0a7ea0650739c25b37e8a96f", func := "tocsin/tocsinlaw13.MuteAny", spec := "muteAny", unfollowed := true, recurses := true, apart := false, narrowed := true }
def MuteAnyUptoSaid : Prop := muteAnyUptoRow.holds Try.pinned (OpenSpec.upto muteAnySpec)

/-- 'tocsinlaw13.MuteSilent', WHERE WHAT IT READS IS OF BULK AT MOST 1048576: true; the input reads as it did. -/
def muteSilentUptoRow : OpenClaim := { program := "ytkpkeachhkbbkaa", sum := "60dea59aabb686a74228bd2a7d3ddadd00ca551a0a7ea0650739c25b37e8a96f", func := "tocsin/tocsinlaw13.MuteSilent", spec := "muteSilent", unfollowed := true, recurses := true, apart := false, narrowed := true }
def MuteSilentUptoSaid : Prop := muteSilentUptoRow.holds Try.pinned (OpenSpec.upto muteSilentSpec)

/-- 'tocsinlaw13.MuteWeek', WHERE WHAT IT READS IS OF BULK AT MOST 1048576: true; the input reads as it did. -/
def muteWeekUptoRow : OpenClaim := { program := "ytkpkeachhkbbkaa", sum := "60dea59aabb686a74228bd2a7d3ddadd00ca551a0a7ea0650739c25b37e8a96f", func := "tocsin/tocsinlaw13.MuteWeek", spec := "muteWeek", unfollowed := true, recurses := true, apart := false, narrowed := true }
def MuteWeekUptoSaid : Prop := muteWeekUptoRow.holds Try.pinned (OpenSpec.upto muteWeekSpec)

/-- 'tocsinlaw13.MuteBetween', WHERE WHAT IT READS IS OF BULK AT MOST 1048576: true; the input reads as it did. -/
def muteBetweenUptoRow : OpenClaim := { program := "ytkpkeachhkbbkaa", sum := "60dea59aabb686a74228bd2a7d3ddadd00ca551a0a7ea0650739c25b37e8a96f", func := "tocsin/tocsinlaw13.MuteBetween", spec := "muteBetween", unfollowed := true, recurses := true, apart := false, narrowed := true }
def MuteBetweenUptoSaid : Prop := muteBetweenUptoRow.holds Try.pinned (OpenSpec.upto muteBetweenSpec)

/-- 'tocsinlaw13.MuteTurned', WHERE WHAT IT READS IS OF BULK AT MOST 1048576: true; the input reads as it did. -/
def muteTurnedUptoRow : OpenClaim := { program := "ytkpkeachhkbbkaa", sum := "60dea59aabb686a74228bd2a7d3ddadd00ca551a0a7ea0650739c25b37e8a96f", func := "tocsin/tocsinlaw13.MuteTurned", spec := "muteTurned", unfollowed := true, recurses := true, apart := false, narrowed := true }
def MuteTurnedUptoSaid : Prop := muteTurnedUptoRow.holds Try.pinned (OpenSpec.upto muteTurnedSpec)

/-- 'tocsinlaw13.MuteUnion', WHERE WHAT IT READS IS OF BULK AT MOST 1048576: true; the input reads as it did. -/
def muteUnionUptoRow : OpenClaim := { program := "ytkpkeachhkbbkaa", sum := "60dea59aabb686a74228bd2a7d3ddadd00ca551a0a7ea0650739c25b37e8a96f", func := "tocsin/tocsinlaw13.MuteUnion", spec := "muteUnion", unfollowed := true, recurses := true, apart := false, narrowed := true }
def MuteUnionUptoSaid : Prop := muteUnionUptoRow.holds Try.pinned (OpenSpec.upto muteUnionSpec)

/-- 'tocsinlaw13.MuteNever', WHERE WHAT IT READS IS OF BULK AT MOST 1048576: true; the input reads as it did. -/
def muteNeverUptoRow : OpenClaim := { program := "ytkpkeachhkbbkaa", sum := "60dea59aabb686a74228bd2a7d3ddadd00ca551a0a7ea0650739c25b37e8a96f", func := "tocsin/tocsinlaw13.MuteNever", spec := "muteNever", unfollowed := true, recurses := true, apart := false, narrowed := true }
def MuteNeverUptoSaid : Prop := muteNeverUptoRow.holds Try.pinned (OpenSpec.upto muteNeverSpec)

/-- 'tocsinlaw13.MuteBegins', WHERE WHAT IT READS IS OF BULK AT MOST 1048576: true; the input reads as it did. -/
def muteBeginsUptoRow : OpenClaim := { program := "ytkpkeachhkbbkaa", sum := "60dea59aabb686a74228bd2a7d3ddadd00ca551a0a7ea0650739c25b37e8a96f", func := "tocsin/tocsinlaw13.MuteBegins", spec := "muteBegins", unfollowed := true, recurses := true, apart := false, narrowed := true }
def MuteBeginsUptoSaid : Prop := muteBeginsUptoRow.holds Try.pinned (OpenSpec.upto muteBeginsSpec)

end Rows
end Go.Proofs.Ytkpkeachhkbbkaa
