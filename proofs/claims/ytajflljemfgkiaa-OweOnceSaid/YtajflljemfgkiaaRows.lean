/-
  No cell of these rows narrows 'for every input' (looked for: loops, veiled, ifaces, maps, wideKeys, modest, calm, conditions, laid).
  DERIVED. THE GIVEN ROWS OF THIS SEAT. 7 by the template 'for every input the law returns true; each argument reads behind the call as it read before'; 0 by the template 'total and deterministic' (their statements: YtajflljemfgkiaaTotals.lean).
  GIVEN WITH THE SEED: the statements are not yours to turn. If you find one false, say at which input.
  Laid BY PROGRAM, IN A SANDBOX (cutbox-rows.mjs): the forced cells as the released guide's own fill.sh prints them over the translation bff28e6bbe1336e5… (all of the seat's roots in one cut). By AI agents, Wed Nov 11 2026. No macro, syntax, notation, axiom, sorry.
-/
import Derived.Test.YtajflljemfgkiaaChecked
import GoSem.Claim
import GoSem.ClaimJoined
import GoSem.ClaimMapViews
import Derived.JoinedTies
import Derived.KernelRfl
namespace Go.Proofs.Ytajflljemfgkiaa
/- THE CELL 'sum', in the pinned program and in every row, IS THE sha256 OF THE DUMP (.gsa) THAT YtajflljemfgkiaaProg.lean LOADS. Nothing in Lean hashes anything: it is a label: what it is worth is what the hold of that sum in a sandbox is worth. -/
noncomputable def Try.pinned : Pinned := { name := "ytajflljemfgkiaa", sum := "bff28e6bbe1336e5f3809e7943901e15456b07bbc4b5c8998689a669adbff900", checked := Try.checked }
namespace Rows
def none {H : Type} : Left H := { results := [], args := [] }

/-- 'tocsinlaw23.OweTells': WHATEVER THE INPUT: true; the input reads as it did. -/
def oweTellsSpec : ChangeSpec := { name := "oweTells", fn := fun _ => fun
  | [d1, d2, d3, d4, d5] => { results := [.lit (.bool true)], args := [d1, d2, d3, d4, d5] }
  | _ => none }
def oweTellsRow : OpenClaim := { program := "ytajflljemfgkiaa", sum := "bff28e6bbe1336e5f3809e7943901e15456b07bbc4b5c8998689a669adbff900", func := "tocsin/tocsinlaw23.OweTells", spec := "oweTells", unfollowed := true, recurses := true, apart := false }
def OweTellsSaid : Prop := oweTellsRow.holds Try.pinned (OpenSpec.ofChange oweTellsSpec)

/-- ITS FALSE NEIGHBOUR: 'it returns false'. Refute it at one input. -/
def oweTellsWrong : ChangeSpec := { name := "oweTells", fn := fun _ => fun
  | [d1, d2, d3, d4, d5] => { results := [.lit (.bool false)], args := [d1, d2, d3, d4, d5] }
  | _ => none }
def OweTellsWrongFalsely : Prop := oweTellsRow.holds Try.pinned (OpenSpec.ofChange oweTellsWrong)

/-- 'tocsinlaw23.OweDue': WHATEVER THE INPUT: true; the input reads as it did. -/
def oweDueSpec : ChangeSpec := { name := "oweDue", fn := fun _ => fun
  | [d1, d2, d3, d4] => { results := [.lit (.bool true)], args := [d1, d2, d3, d4] }
  | _ => none }
def oweDueRow : OpenClaim := { program := "ytajflljemfgkiaa", sum := "bff28e6bbe1336e5f3809e7943901e15456b07bbc4b5c8998689a669adbff900", func := "tocsin/tocsinlaw23.OweDue", spec := "oweDue", unfollowed := true, recurses := true, apart := false }
def OweDueSaid : Prop := oweDueRow.holds Try.pinned (OpenSpec.ofChange oweDueSpec)

/-- ITS FALSE NEIGHBOUR: 'it returns false'. Refute it at one input. -/
def oweDueWrong : ChangeSpec := { name := "oweDue", fn := fun _ => fun
  | [d1, d2, d3, d4] => { results := [.lit (.bool false)], args := [d1, d2, d3, d4] }
  | _ => none }
def OweDueWrongFalsely : Prop := oweDueRow.holds Try.pinned (OpenSpec.ofChange oweDueWrong)

/-- 'tocsinlaw23.OweOnce': WHATEVER THE INPUT: true; the input reads as it did. -/
def oweOnceSpec : ChangeSpec := { name := "oweOnce", fn := fun _ => fun
  | [d1, d2, d3, d4, d5] => { results := [.lit (.bool true)], args := [d1, d2, d3, d4, d5] }
  | _ => none }
def oweOnceRow : OpenClaim := { program := "ytajflljemfgkiaa", sum := "bff28e6bbe1336e5f3809e7943901e15456b07bbc4b5c8998689a669adbff900", func := "tocsin/tocsinlaw23.OweOnce", spec := "oweOnce", unfollowed := true, recurses := true, apart := false }
def OweOnceSaid : Prop := oweOnceRow.holds Try.pinned (OpenSpec.ofChange oweOnceSpec)

/-- ITS FALSE NEIGHBOUR: 'it returns false'. Refute it at one input. -/
def oweOnceWrong : ChangeSpec := { name := "oweOnce", fn := fun _ => fun
  | [d1, d2, d3, d4, d5] => { results := [.lit (.bool false)], args := [d1, d2, d3, d4, d5] }
  | _ => none }
def OweOnceWrongFalsely : Prop := oweOnceRow.holds Try.pinned (OpenSpec.ofChange oweOnceWrong)

/-- 'tocsinlaw23.OweSilent': WHATEVER THE INPUT: true; the input reads as it did. -/
def oweSilentSpec : ChangeSpec := { name := "oweSilent", fn := fun _ => fun
  | [d1, d2, d3, d4] => { results := [.lit (.bool true)], args := [d1, d2, d3, d4] }
  | _ => none }
def oweSilentRow : OpenClaim := { program := "ytajflljemfgkiaa", sum := "bff28e6bbe1336e5f3809e7943901e15456b07bbc4b5c8998689a669adbff900", func := "tocsin/tocsinlaw23.OweSilent", spec := "oweSilent", unfollowed := true, recurses := true, apart := false }
def OweSilentSaid : Prop := oweSilentRow.holds Try.pinned (OpenSpec.ofChange oweSilentSpec)

/-- ITS FALSE NEIGHBOUR: 'it returns false'. Refute it at one input. -/
def oweSilentWrong : ChangeSpec := { name := "oweSilent", fn := fun _ => fun
  | [d1, d2, d3, d4] => { results := [.lit (.bool false)], args := [d1, d2, d3, d4] }
  | _ => none }
def OweSilentWrongFalsely : Prop := oweSilentRow.holds Try.pinned (OpenSpec.ofChange oweSilentWrong)

/-- 'tocsinlaw23.OweFires': WHATEVER THE INPUT: true; the input reads as it did. -/
def oweFiresSpec : ChangeSpec := { name := "oweFires", fn := fun _ => fun
  | [d1, d2, d3, d4] => { results := [.lit (.bool true)], args := [d1, d2, d3, d4] }
  | _ => none }
def oweFiresRow : OpenClaim := { program := "ytajflljemfgkiaa", sum := "bff28e6bbe1336e5f3809e7943901e15456b07bbc4b5c8998689a669adbff900", func := "tocsin/tocsinlaw23.OweFires", spec := "oweFires", unfollowed := true, recurses := true, apart := false }
def OweFiresSaid : Prop := oweFiresRow.holds Try.pinned (OpenSpec.ofChange oweFiresSpec)

/-- ITS FALSE NEIGHBOUR: 'it returns false'. Refute it at one input. -/
def oweFiresWrong : ChangeSpec := { name := "oweFires", fn := fun _ => fun
  | [d1, d2, d3, d4] => { results := [.lit (.bool false)], args := [d1, d2, d3, d4] }
  | _ => none }
def OweFiresWrongFalsely : Prop := oweFiresRow.holds Try.pinned (OpenSpec.ofChange oweFiresWrong)

/-- 'tocsinlaw23.OweOthers': WHATEVER THE INPUT: true; the input reads as it did. -/
def oweOthersSpec : ChangeSpec := { name := "oweOthers", fn := fun _ => fun
  | [d1, d2, d3] => { results := [.lit (.bool true)], args := [d1, d2, d3] }
  | _ => none }
def oweOthersRow : OpenClaim := { program := "ytajflljemfgkiaa", sum := "bff28e6bbe1336e5f3809e7943901e15456b07bbc4b5c8998689a669adbff900", func := "tocsin/tocsinlaw23.OweOthers", spec := "oweOthers", unfollowed := true, recurses := true, apart := false }
def OweOthersSaid : Prop := oweOthersRow.holds Try.pinned (OpenSpec.ofChange oweOthersSpec)

/-- ITS FALSE NEIGHBOUR: 'it returns false'. Refute it at one input. -/
def oweOthersWrong : ChangeSpec := { name := "oweOthers", fn := fun _ => fun
  | [d1, d2, d3] => { results := [.lit (.bool false)], args := [d1, d2, d3] }
  | _ => none }
def OweOthersWrongFalsely : Prop := oweOthersRow.holds Try.pinned (OpenSpec.ofChange oweOthersWrong)

/-- 'tocsinlaw23.OweMessage': WHATEVER THE INPUT: true; the input reads as it did. -/
def oweMessageSpec : ChangeSpec := { name := "oweMessage", fn := fun _ => fun
  | [d1, d2, d3, d4] => { results := [.lit (.bool true)], args := [d1, d2, d3, d4] }
  | _ => none }
def oweMessageRow : OpenClaim := { program := "ytajflljemfgkiaa", sum := "bff28e6bbe1336e5f3809e7943901e15456b07bbc4b5c8998689a669adbff900", func := "tocsin/tocsinlaw23.OweMessage", spec := "oweMessage", unfollowed := true, recurses := true, apart := false }
def OweMessageSaid : Prop := oweMessageRow.holds Try.pinned (OpenSpec.ofChange oweMessageSpec)

/-- ITS FALSE NEIGHBOUR: 'it returns false'. Refute it at one input. -/
def oweMessageWrong : ChangeSpec := { name := "oweMessage", fn := fun _ => fun
  | [d1, d2, d3, d4] => { results := [.lit (.bool false)], args := [d1, d2, d3, d4] }
  | _ => none }
def OweMessageWrongFalsely : Prop := oweMessageRow.holds Try.pinned (OpenSpec.ofChange oweMessageWrong)

/- THE SECOND FORM. 'bulk': how many values and letters a reading holds, each counted each time it is reached (what is shared counts as often as it is met; a slice's spare places count too). A statement '..UptoSaid' is the law's where the arguments, and the package variables that the reading takes, are together of bulk at most 1048576: NARROWER than '..Said'. Prove '..Said' where nothing that the law and all that it calls make is longer than what came in: it says more and counts as full. Else prove '..UptoSaid'. A law counts once. -/
mutual
def uptoBulk {H : Type} : DataW H → Nat
  | .lit (.string bytes) => bytes.length + 1
  | .lit _ => 1
  | .nil => 1
  | .ptr d => uptoBulk d + 1
  | .slice elems spare => uptoBulkAll elems + uptoBulkAll spare + 1
  | .agg parts => uptoBulkAll parts + 1
  | .iface _ d => uptoBulk d + 1
  | .map entries => uptoBulkEntries entries + 1
  | .held _ => 1
def uptoBulkAll {H : Type} : List (DataW H) → Nat
  | [] => 0
  | d :: r => uptoBulk d + uptoBulkAll r
def uptoBulkEntries {H : Type} : List (Lit × DataW H) → Nat
  | [] => 0
  | x :: r => uptoBulkEntry x + uptoBulkEntries r
def uptoBulkEntry {H : Type} : Lit × DataW H → Nat
  | (.string bytes, d) => bytes.length + uptoBulk d + 1
  | (_, d) => uptoBulk d + 1
 end
def uptoSmall : (H : Type) → List (DataW H) → Bool := fun _ ds => decide (uptoBulkAll ds ≤ 1048576)
def OpenSpec.upto (s : _root_.Go.ChangeSpec) : _root_.Go.OpenSpec := { _root_.Go.OpenSpec.ofChange s with cond := some uptoSmall }

/-- 'tocsinlaw23.OweTells', WHERE WHAT IT READS IS OF BULK AT MOST 1048576: true; the input reads as it did. -/
def oweTellsUptoRow : OpenClaim := { program := "ytajflljemfgkiaa", sum := "bff28e6bbe1336e5f3809e7943901e15456b07bbc4b5c8998689a669adbff900", func := "tocsin/tocsinlaw23.OweTells", spec := "oweTells", unfollowed := true, recurses := true, apart := false, narrowed := true }
def OweTellsUptoSaid : Prop := oweTellsUptoRow.holds Try.pinned (OpenSpec.upto oweTellsSpec)

/-- 'tocsinlaw23.OweDue', WHERE WHAT IT READS IS OF BULK AT MOST 1048576: true; the input reads as it did. -/
def oweDueUptoRow : OpenClaim := { program := "ytajflljemfgkiaa", sum := "bff28e6bbe1336e5f3809e7943901e15456b07bbc4b5c8998689a669adbff900", func := "tocsin/tocsinlaw23.OweDue", spec := "oweDue", unfollowed := true, recurses := true, apart := false, narrowed := true }
def OweDueUptoSaid : Prop := oweDueUptoRow.holds Try.pinned (OpenSpec.upto oweDueSpec)

/-- 'tocsinlaw23.OweOnce', WHERE WHAT IT READS IS OF BULK AT MOST 1048576: true; the input reads as it did. -/
def oweOnceUptoRow : OpenClaim := { program := "ytajflljemfgkiaa", sum := "bff28e6bbe1336e5f3809e7943901e15456b07bbc4b5c8998689a669adbff900", func := "tocsin/tocsinlaw23.OweOnce", spec := "oweOnce", unfollowed := true, recurses := true, apart := false, narrowed := true }
def OweOnceUptoSaid : Prop := oweOnceUptoRow.holds Try.pinned (OpenSpec.upto oweOnceSpec)

/-- 'tocsinlaw23.OweSilent', WHERE WHAT IT READS IS OF BULK AT MOST 1048576: true; the input reads as it did. -/
def oweSilentUptoRow : OpenClaim := { program := "ytajflljemfgkiaa", sum := "bff28e6bbe1336e5f3809e7943901e15456b07bbc4b5c8998689a669adbff900", func := "tocsin/tocsinlaw23.OweSilent", spec := "oweSilent", unfollowed := true, recurses := true, apart := false, narrowed := true }
def OweSilentUptoSaid : Prop := oweSilentUptoRow.holds Try.pinned (OpenSpec.upto oweSilentSpec)

/-- 'tocsinlaw23.OweFires', WHERE WHAT IT READS IS OF BULK AT MOST 1048576: true; the input reads as it did. -/
def oweFiresUptoRow : OpenClaim := { program := "ytajflljemfgkiaa", sum := "bff28e6bbe1336e5f3809e7943901e15456b07bbc4b5c8998689a669adbff900", func := "tocsin/tocsinlaw23.OweFires", spec := "oweFires", unfollowed := true, recurses := true, apart := false, narrowed := true }
def OweFiresUptoSaid : Prop := oweFiresUptoRow.holds Try.pinned (OpenSpec.upto oweFiresSpec)

/-- 'tocsinlaw23.OweOthers', WHERE WHAT IT READS IS OF BULK AT MOST 1048576: true; the input reads as it did. -/
def oweOthersUptoRow : OpenClaim := { program := "ytajflljemfgkiaa", sum := "bff28e6bbe1336e5f3809e7943901e15456b07bbc4b5c8998689a669adbff900", func := "tocsin/tocsinlaw23.OweOthers", spec := "oweOthers", unfollowed := true, recurses := true, apart := false, narrowed := true }
def OweOthersUptoSaid : Prop := oweOthersUptoRow.holds Try.pinned (OpenSpec.upto oweOthersSpec)

/-- 'tocsinlaw23.OweMessage', WHERE WHAT IT READS IS OF BULK AT MOST 1048576: true; the input reads as it did. -/
def oweMessageUptoRow : OpenClaim := { program := "ytajflljemfgkiaa", sum := "bff28e6bbe1336e5f3809e7943901e15456b07bbc4b5c8998689a669adbff900", func := "tocsin/tocsinlaw23.OweMessage", spec := "oweMessage", unfollowed := true, recurses := true, apart := false, narrowed := true }
def OweMessageUptoSaid : Prop := oweMessageUptoRow.holds Try.pinned (OpenSpec.upto oweMessageSpec)

end Rows
end Go.Proofs.Ytajflljemfgkiaa
