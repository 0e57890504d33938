/-
  No cell of these rows narrows 'for every input' (looked for: loops, veiled, ifaces, maps, wideKeys, modest, calm, conditions, laid).
  DERIVED. THE GIVEN ROWS OF THIS SEAT. 9 by the template 'for every input the law returns true; each argument reads behind the call as it read before'; 0 by the template 'total and deterministic' (their statements: YthligipgmicgfaaTotals.lean).
  GIVEN WITH THE SEED: the statements are not yours to turn. If you find one false, say at which input.
  Laid BY PROGRAM, IN A SANDBOX (cutbox-rows.mjs): the forced cells as the released guide's own fill.sh prints them over the translation 91c293a51f70061f… (all of the seat's roots in one cut). By AI agents, Wed Nov 11 2026. No macro, syntax, notation, axiom, sorry.
-/
import Derived.Test.YthligipgmicgfaaChecked
import GoSem.Claim
import GoSem.ClaimJoined
import GoSem.ClaimMapViews
import Derived.JoinedTies
import Derived.KernelRfl
namespace Go.Proofs.Ythligipgmicgfaa
/- THE CELL 'sum', in the pinned program and in every row, IS THE sha256 OF THE DUMP (.gsa) THAT YthligipgmicgfaaProg.lean LOADS. Nothing in Lean hashes anything: it is a label: what it is worth is what the hold of that sum in a sandbox is worth. -/
noncomputable def Try.pinned : Pinned := { name := "ythligipgmicgfaa", sum := "91c293a51f70061f504e8b4f4a87a19f67a39fd8146c579f09f8d86555e9d0fc", checked := Try.checked }
namespace Rows
def none {H : Type} : Left H := { results := [], args := [] }

/-- 'tocsinlaw20.QueueRoom': WHATEVER THE INPUT: true; the input reads as it did. -/
def queueRoomSpec : ChangeSpec := { name := "queueRoom", fn := fun _ => fun
  | [d1, d2] => { results := [.lit (.bool true)], args := [d1, d2] }
  | _ => none }
def queueRoomRow : OpenClaim := { program := "ythligipgmicgfaa", sum := "91c293a51f70061f504e8b4f4a87a19f67a39fd8146c579f09f8d86555e9d0fc", func := "tocsin/tocsinlaw20.QueueRoom", spec := "queueRoom", apart := false }
def QueueRoomSaid : Prop := queueRoomRow.holds Try.pinned (OpenSpec.ofChange queueRoomSpec)

/-- ITS FALSE NEIGHBOUR: 'it returns false'. Refute it at one input. -/
def queueRoomWrong : ChangeSpec := { name := "queueRoom", fn := fun _ => fun
  | [d1, d2] => { results := [.lit (.bool false)], args := [d1, d2] }
  | _ => none }
def QueueRoomWrongFalsely : Prop := queueRoomRow.holds Try.pinned (OpenSpec.ofChange queueRoomWrong)

/-- 'tocsinlaw20.QueuePlays': WHATEVER THE INPUT: true; the input reads as it did. -/
def queuePlaysSpec : ChangeSpec := { name := "queuePlays", fn := fun _ => fun
  | [d] => { results := [.lit (.bool true)], args := [d] }
  | _ => none }
def queuePlaysRow : OpenClaim := { program := "ythligipgmicgfaa", sum := "91c293a51f70061f504e8b4f4a87a19f67a39fd8146c579f09f8d86555e9d0fc", func := "tocsin/tocsinlaw20.QueuePlays", spec := "queuePlays", apart := false }
def QueuePlaysSaid : Prop := queuePlaysRow.holds Try.pinned (OpenSpec.ofChange queuePlaysSpec)

/-- ITS FALSE NEIGHBOUR: 'it returns false'. Refute it at one input. -/
def queuePlaysWrong : ChangeSpec := { name := "queuePlays", fn := fun _ => fun
  | [d] => { results := [.lit (.bool false)], args := [d] }
  | _ => none }
def QueuePlaysWrongFalsely : Prop := queuePlaysRow.holds Try.pinned (OpenSpec.ofChange queuePlaysWrong)

/-- 'tocsinlaw20.QueueNil': WHATEVER THE INPUT: true; the input reads as it did. -/
def queueNilSpec : ChangeSpec := { name := "queueNil", fn := fun _ => fun
  | [d] => { results := [.lit (.bool true)], args := [d] }
  | _ => none }
def queueNilRow : OpenClaim := { program := "ythligipgmicgfaa", sum := "91c293a51f70061f504e8b4f4a87a19f67a39fd8146c579f09f8d86555e9d0fc", func := "tocsin/tocsinlaw20.QueueNil", spec := "queueNil", apart := false }
def QueueNilSaid : Prop := queueNilRow.holds Try.pinned (OpenSpec.ofChange queueNilSpec)

/-- ITS FALSE NEIGHBOUR: 'it returns false'. Refute it at one input. -/
def queueNilWrong : ChangeSpec := { name := "queueNil", fn := fun _ => fun
  | [d] => { results := [.lit (.bool false)], args := [d] }
  | _ => none }
def QueueNilWrongFalsely : Prop := queueNilRow.holds Try.pinned (OpenSpec.ofChange queueNilWrong)

/-- 'tocsinlaw20.QueueOrder': WHATEVER THE INPUT: true; the input reads as it did. -/
def queueOrderSpec : ChangeSpec := { name := "queueOrder", fn := fun _ => fun
  | [d] => { results := [.lit (.bool true)], args := [d] }
  | _ => none }
def queueOrderRow : OpenClaim := { program := "ythligipgmicgfaa", sum := "91c293a51f70061f504e8b4f4a87a19f67a39fd8146c579f09f8d86555e9d0fc", func := "tocsin/tocsinlaw20.QueueOrder", spec := "queueOrder", apart := false }
def QueueOrderSaid : Prop := queueOrderRow.holds Try.pinned (OpenSpec.ofChange queueOrderSpec)

/-- ITS FALSE NEIGHBOUR: 'it returns false'. Refute it at one input. -/
def queueOrderWrong : ChangeSpec := { name := "queueOrder", fn := fun _ => fun
  | [d] => { results := [.lit (.bool false)], args := [d] }
  | _ => none }
def QueueOrderWrongFalsely : Prop := queueOrderRow.holds Try.pinned (OpenSpec.ofChange queueOrderWrong)

/-- 'tocsinlaw21.DrrShare': WHATEVER THE INPUT: true; the input reads as it did. -/
def drrShareSpec : ChangeSpec := { name := "drrShare", fn := fun _ => fun
  | [d1, d2, d3] => { results := [.lit (.bool true)], args := [d1, d2, d3] }
  | _ => none }
def drrShareRow : OpenClaim := { program := "ythligipgmicgfaa", sum := "91c293a51f70061f504e8b4f4a87a19f67a39fd8146c579f09f8d86555e9d0fc", func := "tocsin/tocsinlaw21.DrrShare", spec := "drrShare", unfollowed := true, recurses := true, apart := false }
def DrrShareSaid : Prop := drrShareRow.holds Try.pinned (OpenSpec.ofChange drrShareSpec)

/-- ITS FALSE NEIGHBOUR: 'it returns false'. Refute it at one input. -/
def drrShareWrong : ChangeSpec := { name := "drrShare", fn := fun _ => fun
  | [d1, d2, d3] => { results := [.lit (.bool false)], args := [d1, d2, d3] }
  | _ => none }
def DrrShareWrongFalsely : Prop := drrShareRow.holds Try.pinned (OpenSpec.ofChange drrShareWrong)

/-- 'tocsinlaw21.DrrServes': WHATEVER THE INPUT: true; the input reads as it did. -/
def drrServesSpec : ChangeSpec := { name := "drrServes", fn := fun _ => fun
  | [d] => { results := [.lit (.bool true)], args := [d] }
  | _ => none }
def drrServesRow : OpenClaim := { program := "ythligipgmicgfaa", sum := "91c293a51f70061f504e8b4f4a87a19f67a39fd8146c579f09f8d86555e9d0fc", func := "tocsin/tocsinlaw21.DrrServes", spec := "drrServes", unfollowed := true, recurses := true, apart := false }
def DrrServesSaid : Prop := drrServesRow.holds Try.pinned (OpenSpec.ofChange drrServesSpec)

/-- ITS FALSE NEIGHBOUR: 'it returns false'. Refute it at one input. -/
def drrServesWrong : ChangeSpec := { name := "drrServes", fn := fun _ => fun
  | [d] => { results := [.lit (.bool false)], args := [d] }
  | _ => none }
def DrrServesWrongFalsely : Prop := drrServesRow.holds Try.pinned (OpenSpec.ofChange drrServesWrong)

/-- 'tocsinlaw21.DrrBound': WHATEVER THE INPUT: true; the input reads as it did. -/
def drrBoundSpec : ChangeSpec := { name := "drrBound", fn := fun _ => fun
  | [d1, d2, d3] => { results := [.lit (.bool true)], args := [d1, d2, d3] }
  | _ => none }
def drrBoundRow : OpenClaim := { program := "ythligipgmicgfaa", sum := "91c293a51f70061f504e8b4f4a87a19f67a39fd8146c579f09f8d86555e9d0fc", func := "tocsin/tocsinlaw21.DrrBound", spec := "drrBound", unfollowed := true, recurses := true, apart := false }
def DrrBoundSaid : Prop := drrBoundRow.holds Try.pinned (OpenSpec.ofChange drrBoundSpec)

/-- ITS FALSE NEIGHBOUR: 'it returns false'. Refute it at one input. -/
def drrBoundWrong : ChangeSpec := { name := "drrBound", fn := fun _ => fun
  | [d1, d2, d3] => { results := [.lit (.bool false)], args := [d1, d2, d3] }
  | _ => none }
def DrrBoundWrongFalsely : Prop := drrBoundRow.holds Try.pinned (OpenSpec.ofChange drrBoundWrong)

/-- 'tocsinlaw21.DrrNil': WHATEVER THE INPUT: true; the input reads as it did. -/
def drrNilSpec : ChangeSpec := { name := "drrNil", fn := fun _ => fun
  | [d] => { results := [.lit (.bool true)], args := [d] }
  | _ => none }
def drrNilRow : OpenClaim := { program := "ythligipgmicgfaa", sum := "91c293a51f70061f504e8b4f4a87a19f67a39fd8146c579f09f8d86555e9d0fc", func := "tocsin/tocsinlaw21.DrrNil", spec := "drrNil", unfollowed := true, recurses := true, apart := false }
def DrrNilSaid : Prop := drrNilRow.holds Try.pinned (OpenSpec.ofChange drrNilSpec)

/-- ITS FALSE NEIGHBOUR: 'it returns false'. Refute it at one input. -/
def drrNilWrong : ChangeSpec := { name := "drrNil", fn := fun _ => fun
  | [d] => { results := [.lit (.bool false)], args := [d] }
  | _ => none }
def DrrNilWrongFalsely : Prop := drrNilRow.holds Try.pinned (OpenSpec.ofChange drrNilWrong)

/-- 'tocsinlaw21.DrrRounds': WHATEVER THE INPUT: true; the input reads as it did. -/
def drrRoundsSpec : ChangeSpec := { name := "drrRounds", fn := fun _ => fun
  | [d1, d2, d3] => { results := [.lit (.bool true)], args := [d1, d2, d3] }
  | _ => none }
def drrRoundsRow : OpenClaim := { program := "ythligipgmicgfaa", sum := "91c293a51f70061f504e8b4f4a87a19f67a39fd8146c579f09f8d86555e9d0fc", func := "tocsin/tocsinlaw21.DrrRounds", spec := "drrRounds", unfollowed := true, recurses := true, apart := false }
def DrrRoundsSaid : Prop := drrRoundsRow.holds Try.pinned (OpenSpec.ofChange drrRoundsSpec)

/-- ITS FALSE NEIGHBOUR: 'it returns false'. Refute it at one input. -/
def drrRoundsWrong : ChangeSpec := { name := "drrRounds", fn := fun _ => fun
  | [d1, d2, d3] => { results := [.lit (.bool false)], args := [d1, d2, d3] }
  | _ => none }
def DrrRoundsWrongFalsely : Prop := drrRoundsRow.holds Try.pinned (OpenSpec.ofChange drrRoundsWrong)

/- THE SECOND FORM. 'bulk': how many values and letters a reading holds, each counted each time it is reached (what is shared counts as often as it is met; a slice's spare places count too). A statement '..UptoSaid' is the law's where the arguments, and the package variables that the reading takes, are together of bulk at most 1048576: NARROWER than '..Said'. Prove '..Said' where nothing that the law and all that it calls make is longer than what came in: it says more and counts as full. Else prove '..UptoSaid'. A law counts once. -/
mutual
def uptoBulk {H : Type} : DataW H → Nat
  | .lit (.string bytes) => bytes.length + 1
  | .lit _ => 1
  | .nil => 1
  | .ptr d => uptoBulk d + 1
  | .slice elems spare => uptoBulkAll elems + uptoBulkAll spare + 1
  | .agg parts => uptoBulkAll parts + 1
  | .iface _ d => uptoBulk d + 1
  | .map entries => uptoBulkEntries entries + 1
  | .held _ => 1
def uptoBulkAll {H : Type} : List (DataW H) → Nat
  | [] => 0
  | d :: r => uptoBulk d + uptoBulkAll r
def uptoBulkEntries {H : Type} : List (Lit × DataW H) → Nat
  | [] => 0
  | x :: r => uptoBulkEntry x + uptoBulkEntries r
def uptoBulkEntry {H : Type} : Lit × DataW H → Nat
  | (.string bytes, d) => bytes.length + uptoBulk d + 1
  | (_, d) => uptoBulk d + 1
 end
def uptoSmall : (H : Type) → List (DataW H) → Bool := fun _ ds => decide (uptoBulkAll ds ≤ 1048576)
def OpenSpec.upto (s : _root_.Go.ChangeSpec) : _root_.Go.OpenSpec := { _root_.Go.OpenSpec.ofChange s with cond := some uptoSmall }

/-- 'tocsinlaw20.QueueRoom', WHERE WHAT IT READS IS OF BULK AT MOST 1048576: true; the input reads as it did. -/
def queueRoomUptoRow : OpenClaim := { program := "ythligipgmicgfaa", sum := "91c293a51f70061f504e8b4f4a87a19f67a39fd8146c579f09f8d86555e9d0fc", func := "tocsin/tocsinlaw20.QueueRoom", spec := "queueRoom", apart := false, narrowed := true }
def QueueRoomUptoSaid : Prop := queueRoomUptoRow.holds Try.pinned (OpenSpec.upto queueRoomSpec)

/-- 'tocsinlaw20.QueuePlays', WHERE WHAT IT READS IS OF BULK AT MOST 1048576: true; the input reads as it did. -/
def queuePlaysUptoRow : OpenClaim := { program := "ythligipgmicgfaa", sum := "91c293a51f70061f504e8b4f4a87a19f67a39fd8146c579f09f8d86555e9d0fc", func := "tocsin/tocsinlaw20.QueuePlays", spec := "queuePlays", apart := false, narrowed := true }
def QueuePlaysUptoSaid : Prop := queuePlaysUptoRow.holds Try.pinned (OpenSpec.upto queuePlaysSpec)

/-- 'tocsinlaw20.QueueNil', WHERE WHAT IT READS IS OF BULK AT MOST 1048576: true; the input reads as it did. -/
def queueNilUptoRow : OpenClaim := { program := "ythligipgmicgfaa", sum := "91c293a51f70061f504e8b4f4a87a19f67a39fd8146c579f09f8d86555e9d0fc", func := "tocsin/tocsinlaw20.QueueNil", spec := "queueNil", apart := false, narrowed := true }
def QueueNilUptoSaid : Prop := queueNilUptoRow.holds Try.pinned (OpenSpec.upto queueNilSpec)

/-- 'tocsinlaw20.QueueOrder', WHERE WHAT IT READS IS OF BULK AT MOST 1048576: true; the input reads as it did. -/
def queueOrderUptoRow : OpenClaim := { program := "ythligipgmicgfaa", sum := "91c293a51f70061f504e8b4f4a87a19f67a39fd8146c579f09f8d86555e9d0fc", func := "tocsin/tocsinlaw20.QueueOrder", spec := "queueOrder", apart := false, narrowed := true }
def QueueOrderUptoSaid : Prop := queueOrderUptoRow.holds Try.pinned (OpenSpec.upto queueOrderSpec)

/-- 'tocsinlaw21.DrrShare', WHERE WHAT IT READS IS OF BULK AT MOST 1048576: true; the input reads as it did. -/
def drrShareUptoRow : OpenClaim := { program := "ythligipgmicgfaa", sum := "91c293a51f70061f504e8b4f4a87a19f67a39fd8146c579f09f8d86555e9d0fc", func := "tocsin/tocsinlaw21.DrrShare", spec := "drrShare", unfollowed := true, recurses := true, apart := false, narrowed := true }
def DrrShareUptoSaid : Prop := drrShareUptoRow.holds Try.pinned (OpenSpec.upto drrShareSpec)

/-- 'tocsinlaw21.DrrServes', WHERE WHAT IT READS IS OF BULK AT MOST 1048576: true; the input reads as it did. -/
def drrServesUptoRow : OpenClaim := { program := "ythligipgmicgfaa", sum := "91c293a51f70061f504e8b4f4a87a19f67a39fd8146c579f09f8d86555e9d0fc", func := "tocsin/tocsinlaw21.DrrServes", spec := "drrServes", unfollowed := true, recurses := true, apart := false, narrowed := true }
def DrrServesUptoSaid : Prop := drrServesUptoRow.holds Try.pinned (OpenSpec.upto drrServesSpec)

/-- 'tocsinlaw21.DrrBound', WHERE WHAT IT READS IS OF BULK AT MOST 1048576: true; the input reads as it did. -/
def drrBoundUptoRow : OpenClaim := { program := "ythligipgmicgfaa", sum := "91c293a51f70061f504e8b4f4a87a19f67a39fd8146c579f09f8d86555e9d0fc", func := "tocsin/tocsinlaw21.DrrBound", spec := "drrBound", unfollowed := true, recurses := true, apart := false, narrowed := true }
def DrrBoundUptoSaid : Prop := drrBoundUptoRow.holds Try.pinned (OpenSpec.upto drrBoundSpec)

/-- 'tocsinlaw21.DrrNil', WHERE WHAT IT READS IS OF BULK AT MOST 1048576: true; the input reads as it did. -/
def drrNilUptoRow : OpenClaim := { program := "ythligipgmicgfaa", sum := "91c293a51f70061f504e8b4f4a87a19f67a39fd8146c579f09f8d86555e9d0fc", func := "tocsin/tocsinlaw21.DrrNil", spec := "drrNil", unfollowed := true, recurses := true, apart := false, narrowed := true }
def DrrNilUptoSaid : Prop := drrNilUptoRow.holds Try.pinned (OpenSpec.upto drrNilSpec)

/-- 'tocsinlaw21.DrrRounds', WHERE WHAT IT READS IS OF BULK AT MOST 1048576: true; the input reads as it did. -/
def drrRoundsUptoRow : OpenClaim := { program := "ythligipgmicgfaa", sum := "91c293a51f70061f504e8b4f4a87a19f67a39fd8146c579f09f8d86555e9d0fc", func := "tocsin/tocsinlaw21.DrrRounds", spec := "drrRounds", unfollowed := true, recurses := true, apart := false, narrowed := true }
def DrrRoundsUptoSaid : Prop := drrRoundsUptoRow.holds Try.pinned (OpenSpec.upto drrRoundsSpec)

end Rows
end Go.Proofs.Ythligipgmicgfaa
