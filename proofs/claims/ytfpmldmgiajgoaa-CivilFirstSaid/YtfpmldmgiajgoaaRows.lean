/-
  No cell of these rows narrows 'for every input' (looked for: loops, veiled, ifaces, maps, wideKeys, modest, calm, conditions, laid).
  DERIVED. THE GIVEN ROWS OF THIS SEAT. 8 by the template 'for every input the law returns true; each argument reads behind the call as it read before'; 0 by the template 'total and deterministic' (their statements: YtfpmldmgiajgoaaTotals.lean).
  GIVEN WITH THE SEED: the statements are not yours to turn. If you find one false, say at which input.
  Laid BY PROGRAM, IN A SANDBOX (cutbox-rows.mjs): the forced cells as the released guide's own fill.sh prints them over the translation 9ec4cb8aa436dee6… (all of the seat's roots in one cut). By AI agents, Wed Nov 11 2026. No macro, syntax, notation, axiom, sorry.
-/
import Derived.Test.YtfpmldmgiajgoaaChecked
import GoSem.Claim
import GoSem.ClaimJoined
import GoSem.ClaimMapViews
import Derived.JoinedTies
import Derived.KernelRfl
namespace Go.Proofs.Ytfpmldmgiajgoaa
/- THE CELL 'sum', in the pinned program and in every row, IS THE sha256 OF THE DUMP (.gsa) THAT YtfpmldmgiajgoaaProg.lean LOADS. Nothing in Lean hashes anything: it is a label: what it is worth is what the hold of that sum in a sandbox is worth. -/
noncomputable def Try.pinned : Pinned := { name := "ytfpmldmgiajgoaa", sum := "9ec4cb8aa436dee6a3f19c2d9003a1b1a3469ddf133057aa78a5535871a1a4d5", checked := Try.checked }
namespace Rows
def none {H : Type} : Left H := { results := [], args := [] }

/-- 'tocsinlaw12.CivilMinutes': WHATEVER THE INPUT: true; the input reads as it did. -/
def civilMinutesSpec : ChangeSpec := { name := "civilMinutes", fn := fun _ => fun
  | [d1, d2, d3, d4] => { results := [.lit (.bool true)], args := [d1, d2, d3, d4] }
  | _ => none }
def civilMinutesRow : OpenClaim := { program := "ytfpmldmgiajgoaa", sum := "9ec4cb8aa436dee6a3f19c2d9003a1b1a3469ddf133057aa78a5535871a1a4d5", func := "tocsin/tocsinlaw12.CivilMinutes", spec := "civilMinutes", unfollowed := true, recurses := true, apart := false }
def CivilMinutesSaid : Prop := civilMinutesRow.holds Try.pinned (OpenSpec.ofChange civilMinutesSpec)

/-- ITS FALSE NEIGHBOUR: 'it returns false'. Refute it at one input. -/
def civilMinutesWrong : ChangeSpec := { name := "civilMinutes", fn := fun _ => fun
  | [d1, d2, d3, d4] => { results := [.lit (.bool false)], args := [d1, d2, d3, d4] }
  | _ => none }
def CivilMinutesWrongFalsely : Prop := civilMinutesRow.holds Try.pinned (OpenSpec.ofChange civilMinutesWrong)

/-- 'tocsinlaw12.CivilDates': WHATEVER THE INPUT: true; the input reads as it did. -/
def civilDatesSpec : ChangeSpec := { name := "civilDates", fn := fun _ => fun
  | [d] => { results := [.lit (.bool true)], args := [d] }
  | _ => none }
def civilDatesRow : OpenClaim := { program := "ytfpmldmgiajgoaa", sum := "9ec4cb8aa436dee6a3f19c2d9003a1b1a3469ddf133057aa78a5535871a1a4d5", func := "tocsin/tocsinlaw12.CivilDates", spec := "civilDates", unfollowed := true, recurses := true, apart := false }
def CivilDatesSaid : Prop := civilDatesRow.holds Try.pinned (OpenSpec.ofChange civilDatesSpec)

/-- ITS FALSE NEIGHBOUR: 'it returns false'. Refute it at one input. -/
def civilDatesWrong : ChangeSpec := { name := "civilDates", fn := fun _ => fun
  | [d] => { results := [.lit (.bool false)], args := [d] }
  | _ => none }
def CivilDatesWrongFalsely : Prop := civilDatesRow.holds Try.pinned (OpenSpec.ofChange civilDatesWrong)

/-- 'tocsinlaw12.CivilBack': WHATEVER THE INPUT: true; the input reads as it did. -/
def civilBackSpec : ChangeSpec := { name := "civilBack", fn := fun _ => fun
  | [d1, d2, d3, d4, d5] => { results := [.lit (.bool true)], args := [d1, d2, d3, d4, d5] }
  | _ => none }
def civilBackRow : OpenClaim := { program := "ytfpmldmgiajgoaa", sum := "9ec4cb8aa436dee6a3f19c2d9003a1b1a3469ddf133057aa78a5535871a1a4d5", func := "tocsin/tocsinlaw12.CivilBack", spec := "civilBack", unfollowed := true, recurses := true, apart := false }
def CivilBackSaid : Prop := civilBackRow.holds Try.pinned (OpenSpec.ofChange civilBackSpec)

/-- ITS FALSE NEIGHBOUR: 'it returns false'. Refute it at one input. -/
def civilBackWrong : ChangeSpec := { name := "civilBack", fn := fun _ => fun
  | [d1, d2, d3, d4, d5] => { results := [.lit (.bool false)], args := [d1, d2, d3, d4, d5] }
  | _ => none }
def CivilBackWrongFalsely : Prop := civilBackRow.holds Try.pinned (OpenSpec.ofChange civilBackWrong)

/-- 'tocsinlaw12.CivilNext': WHATEVER THE INPUT: true; the input reads as it did. -/
def civilNextSpec : ChangeSpec := { name := "civilNext", fn := fun _ => fun
  | [d] => { results := [.lit (.bool true)], args := [d] }
  | _ => none }
def civilNextRow : OpenClaim := { program := "ytfpmldmgiajgoaa", sum := "9ec4cb8aa436dee6a3f19c2d9003a1b1a3469ddf133057aa78a5535871a1a4d5", func := "tocsin/tocsinlaw12.CivilNext", spec := "civilNext", unfollowed := true, recurses := true, apart := false }
def CivilNextSaid : Prop := civilNextRow.holds Try.pinned (OpenSpec.ofChange civilNextSpec)

/-- ITS FALSE NEIGHBOUR: 'it returns false'. Refute it at one input. -/
def civilNextWrong : ChangeSpec := { name := "civilNext", fn := fun _ => fun
  | [d] => { results := [.lit (.bool false)], args := [d] }
  | _ => none }
def CivilNextWrongFalsely : Prop := civilNextRow.holds Try.pinned (OpenSpec.ofChange civilNextWrong)

/-- 'tocsinlaw12.CivilYears': WHATEVER THE INPUT: true; the input reads as it did. -/
def civilYearsSpec : ChangeSpec := { name := "civilYears", fn := fun _ => fun
  | [d] => { results := [.lit (.bool true)], args := [d] }
  | _ => none }
def civilYearsRow : OpenClaim := { program := "ytfpmldmgiajgoaa", sum := "9ec4cb8aa436dee6a3f19c2d9003a1b1a3469ddf133057aa78a5535871a1a4d5", func := "tocsin/tocsinlaw12.CivilYears", spec := "civilYears", unfollowed := true, recurses := true, apart := false }
def CivilYearsSaid : Prop := civilYearsRow.holds Try.pinned (OpenSpec.ofChange civilYearsSpec)

/-- ITS FALSE NEIGHBOUR: 'it returns false'. Refute it at one input. -/
def civilYearsWrong : ChangeSpec := { name := "civilYears", fn := fun _ => fun
  | [d] => { results := [.lit (.bool false)], args := [d] }
  | _ => none }
def CivilYearsWrongFalsely : Prop := civilYearsRow.holds Try.pinned (OpenSpec.ofChange civilYearsWrong)

/-- 'tocsinlaw12.CivilOrder': WHATEVER THE INPUT: true; the input reads as it did. -/
def civilOrderSpec : ChangeSpec := { name := "civilOrder", fn := fun _ => fun
  | [d1, d2] => { results := [.lit (.bool true)], args := [d1, d2] }
  | _ => none }
def civilOrderRow : OpenClaim := { program := "ytfpmldmgiajgoaa", sum := "9ec4cb8aa436dee6a3f19c2d9003a1b1a3469ddf133057aa78a5535871a1a4d5", func := "tocsin/tocsinlaw12.CivilOrder", spec := "civilOrder", unfollowed := true, recurses := true, apart := false }
def CivilOrderSaid : Prop := civilOrderRow.holds Try.pinned (OpenSpec.ofChange civilOrderSpec)

/-- ITS FALSE NEIGHBOUR: 'it returns false'. Refute it at one input. -/
def civilOrderWrong : ChangeSpec := { name := "civilOrder", fn := fun _ => fun
  | [d1, d2] => { results := [.lit (.bool false)], args := [d1, d2] }
  | _ => none }
def CivilOrderWrongFalsely : Prop := civilOrderRow.holds Try.pinned (OpenSpec.ofChange civilOrderWrong)

/-- 'tocsinlaw12.CivilWeek': WHATEVER THE INPUT: true; the input reads as it did. -/
def civilWeekSpec : ChangeSpec := { name := "civilWeek", fn := fun _ => fun
  | [d] => { results := [.lit (.bool true)], args := [d] }
  | _ => none }
def civilWeekRow : OpenClaim := { program := "ytfpmldmgiajgoaa", sum := "9ec4cb8aa436dee6a3f19c2d9003a1b1a3469ddf133057aa78a5535871a1a4d5", func := "tocsin/tocsinlaw12.CivilWeek", spec := "civilWeek", unfollowed := true, recurses := true, apart := false }
def CivilWeekSaid : Prop := civilWeekRow.holds Try.pinned (OpenSpec.ofChange civilWeekSpec)

/-- ITS FALSE NEIGHBOUR: 'it returns false'. Refute it at one input. -/
def civilWeekWrong : ChangeSpec := { name := "civilWeek", fn := fun _ => fun
  | [d] => { results := [.lit (.bool false)], args := [d] }
  | _ => none }
def CivilWeekWrongFalsely : Prop := civilWeekRow.holds Try.pinned (OpenSpec.ofChange civilWeekWrong)

/-- 'tocsinlaw12.CivilFirst': WHATEVER THE INPUT: true; the input reads as it did. -/
def civilFirstSpec : ChangeSpec := { name := "civilFirst", fn := fun _ => fun
  | [d1, d2] => { results := [.lit (.bool true)], args := [d1, d2] }
  | _ => none }
def civilFirstRow : OpenClaim := { program := "ytfpmldmgiajgoaa", sum := "9ec4cb8aa436dee6a3f19c2d9003a1b1a3469ddf133057aa78a5535871a1a4d5", func := "tocsin/tocsinlaw12.CivilFirst", spec := "civilFirst", unfollowed := true, recurses := true, apart := false }
def CivilFirstSaid : Prop := civilFirstRow.holds Try.pinned (OpenSpec.ofChange civilFirstSpec)

/-- ITS FALSE NEIGHBOUR: 'it returns false'. Refute it at one input. -/
def civilFirstWrong : ChangeSpec := { name := "civilFirst", fn := fun _ => fun
  | [d1, d2] => { results := [.lit (.bool false)], args := [d1, d2] }
  | _ => none }
def CivilFirstWrongFalsely : Prop := civilFirstRow.holds Try.pinned (OpenSpec.ofChange civilFirstWrong)

/- THE SECOND FORM. 'bulk': how many values and letters a reading holds, each counted each time it is reached (what is shared counts as often as it is met; a slice's spare places count too). A statement '..UptoSaid' is the law's where the arguments, and the package variables that the reading takes, are together of bulk at most 1048576: NARROWER than '..Said'. Prove '..Said' where nothing that the law and all that it calls make is longer than what came in: it says more and counts as full. Else prove '..UptoSaid'. A law counts once. -/
mutual
def uptoBulk {H : Type} : DataW H → Nat
  | .lit (.string bytes) => bytes.length + 1
  | .lit _ => 1
  | .nil => 1
  | .ptr d => uptoBulk d + 1
  | .slice elems spare => uptoBulkAll elems + uptoBulkAll spare + 1
  | .agg parts => uptoBulkAll parts + 1
  | .iface _ d => uptoBulk d + 1
  | .map entries => uptoBulkEntries entries + 1
  | .held _ => 1
def uptoBulkAll {H : Type} : List (DataW H) → Nat
  | [] => 0
  | d :: r => uptoBulk d + uptoBulkAll r
def uptoBulkEntries {H : Type} : List (Lit × DataW H) → Nat
  | [] => 0
  | x :: r => uptoBulkEntry x + uptoBulkEntries r
def uptoBulkEntry {H : Type} : Lit × DataW H → Nat
  | (.string bytes, d) => bytes.length + uptoBulk d + 1
  | (_, d) => uptoBulk d + 1
 end
def uptoSmall : (H : Type) → List (DataW H) → Bool := fun _ ds => decide (uptoBulkAll ds ≤ 1048576)
def OpenSpec.upto (s : _root_.Go.ChangeSpec) : _root_.Go.OpenSpec := { _root_.Go.OpenSpec.ofChange s with cond := some uptoSmall }

/-- 'tocsinlaw12.CivilMinutes', WHERE WHAT IT READS IS OF BULK AT MOST 1048576: true; the input reads as it did. -/
def civilMinutesUptoRow : OpenClaim := { program := "ytfpmldmgiajgoaa", sum := "9ec4cb8aa436dee6a3f19c2d9003a1b1a3469ddf133057aa78a5535871a1a4d5", func := "tocsin/tocsinlaw12.CivilMinutes", spec := "civilMinutes", unfollowed := true, recurses := true, apart := false, narrowed := true }
def CivilMinutesUptoSaid : Prop := civilMinutesUptoRow.holds Try.pinned (OpenSpec.upto civilMinutesSpec)

/-- 'tocsinlaw12.CivilDates', WHERE WHAT IT READS IS OF BULK AT MOST 1048576: true; the input reads as it did. -/
def civilDatesUptoRow : OpenClaim := { program := "ytfpmldmgiajgoaa", sum := "9ec4cb8aa436dee6a3f19c2d9003a1b1a3469ddf133057aa78a5535871a1a4d5", func := "tocsin/tocsinlaw12.CivilDates", spec := "civilDates", unfollowed := true, recurses := true, apart := false, narrowed := true }
def CivilDatesUptoSaid : Prop := civilDatesUptoRow.holds Try.pinned (OpenSpec.upto civilDatesSpec)

/-- 'tocsinlaw12.CivilBack', WHERE WHAT IT READS IS OF BULK AT MOST 1048576: true; the input reads as it did. -/
def civilBackUptoRow : OpenClaim := { program := "ytfpmldmgiajgoaa", sum := "9ec4cb8aa436dee6a3f19c2d9003a1b1a3469ddf133057aa78a5535871a1a4d5", func := "tocsin/tocsinlaw12.CivilBack", spec := "civilBack", unfollowed := true, recurses := true, apart := false, narrowed := true }
def CivilBackUptoSaid : Prop := civilBackUptoRow.holds Try.pinned (OpenSpec.upto civilBackSpec)

/-- 'tocsinlaw12.CivilNext', WHERE WHAT IT READS IS OF BULK AT MOST 1048576: true; the input reads as it did. -/
def civilNextUptoRow : OpenClaim := { program := "ytfpmldmgiajgoaa", sum := "9ec4cb8aa436dee6a3f19c2d9003a1b1a3469ddf133057aa78a5535871a1a4d5", func := "tocsin/tocsinlaw12.CivilNext", spec := "civilNext", unfollowed := true, recurses := true, apart := false, narrowed := true }
def CivilNextUptoSaid : Prop := civilNextUptoRow.holds Try.pinned (OpenSpec.upto civilNextSpec)

/-- 'tocsinlaw12.CivilYears', WHERE WHAT IT READS IS OF BULK AT MOST 1048576: true; the input reads as it did. -/
def civilYearsUptoRow : OpenClaim := { program := "ytfpmldmgiajgoaa", sum := "9ec4cb8aa436dee6a3f19c2d9003a1b1a3469ddf133057aa78a5535871a1a4d5", func := "tocsin/tocsinlaw12.CivilYears", spec := "civilYears", unfollowed := true, recurses := true, apart := false, narrowed := true }
def CivilYearsUptoSaid : Prop := civilYearsUptoRow.holds Try.pinned (OpenSpec.upto civilYearsSpec)

/-- 'tocsinlaw12.CivilOrder', WHERE WHAT IT READS IS OF BULK AT MOST 1048576: true; the input reads as it did. -/
def civilOrderUptoRow : OpenClaim := { program := "ytfpmldmgiajgoaa", sum := "9ec4cb8aa436dee6a3f19c2d9003a1b1a3469ddf133057aa78a5535871a1a4d5", func := "tocsin/tocsinlaw12.CivilOrder", spec := "civilOrder", unfollowed := true, recurses := true, apart := false, narrowed := true }
def CivilOrderUptoSaid : Prop := civilOrderUptoRow.holds Try.pinned (OpenSpec.upto civilOrderSpec)

/-- 'tocsinlaw12.CivilWeek', WHERE WHAT IT READS IS OF BULK AT MOST 1048576: true; the input reads as it did. -/
def civilWeekUptoRow : OpenClaim := { program := "ytfpmldmgiajgoaa", sum := "9ec4cb8aa436dee6a3f19c2d9003a1b1a3469ddf133057aa78a5535871a1a4d5", func := "tocsin/tocsinlaw12.CivilWeek", spec := "civilWeek", unfollowed := true, recurses := true, apart := false, narrowed := true }
def CivilWeekUptoSaid : Prop := civilWeekUptoRow.holds Try.pinned (OpenSpec.upto civilWeekSpec)

/-- 'tocsinlaw12.CivilFirst', WHERE WHAT IT READS IS OF BULK AT MOST 1048576: true; the input reads as it did. -/
def civilFirstUptoRow : OpenClaim := { program := "ytfpmldmgiajgoaa", sum := "9ec4cb8aa436dee6a3f19c2d9003a1b1a3469ddf133057aa78a5535871a1a4d5", func := "tocsin/tocsinlaw12.CivilFirst", spec := "civilFirst", unfollowed := true, recurses := true, apart := false, narrowed := true }
def CivilFirstUptoSaid : Prop := civilFirstUptoRow.holds Try.pinned (OpenSpec.upto civilFirstSpec)

end Rows
end Go.Proofs.Ytfpmldmgiajgoaa
