/-
  No cell of these rows narrows 'for every input' (looked for: loops, veiled, ifaces, maps, wideKeys, modest, calm, conditions, laid).
  DERIVED. THE GIVEN ROWS OF THIS SEAT. 5 by the template 'for every input the law returns true; each argument reads behind the call as it read before'; 0 by the template 'total and deterministic' (their statements: YtfaafndaelmbfaaTotals.lean).
  GIVEN WITH THE SEED: the statements are not yours to turn. If you find one false, say at which input.
  Laid BY PROGRAM, IN A SANDBOX (cutbox-rows.mjs): the forced cells as the released guide's own fill.sh prints them over the translation bab30015f8ba3420… (all of the seat's roots in one cut). By AI agents, Wed Nov 11 2026. No macro, syntax, notation, axiom, sorry.
-/
import Derived.Test.YtfaafndaelmbfaaChecked
import GoSem.Claim
import GoSem.ClaimJoined
import GoSem.ClaimMapViews
import Derived.JoinedTies
import Derived.KernelRfl
namespace Go.Proofs.Ytfaafndaelmbfaa
/- THE CELL 'sum', in the pinned program and in every row, IS THE sha256 OF THE DUMP (.gsa) THAT YtfaafndaelmbfaaProg.lean LOADS. Nothing in Lean hashes anything: it is a label: what it is worth is what the hold of that sum in a sandbox is worth. -/
noncomputable def Try.pinned : Pinned := { name := "ytfaafndaelmbfaa", sum := "bab30015f8ba34200825348fec208d2f52270106fae8aea19f0c3db32ddf6ed9", checked := Try.checked }
namespace Rows
def none {H : Type} : Left H := { results := [], args := [] }

/-- 'tocsinlaw24.OutboxRoom': WHATEVER THE INPUT: true; the input reads as it did. -/
def outboxRoomSpec : ChangeSpec := { name := "outboxRoom", fn := fun _ => fun
  | [d] => { results := [.lit (.bool true)], args := [d] }
  | _ => none }
def outboxRoomRow : OpenClaim := { program := "ytfaafndaelmbfaa", sum := "bab30015f8ba34200825348fec208d2f52270106fae8aea19f0c3db32ddf6ed9", func := "tocsin/tocsinlaw24.OutboxRoom", spec := "outboxRoom", unfollowed := true, recurses := true, apart := false }
def OutboxRoomSaid : Prop := outboxRoomRow.holds Try.pinned (OpenSpec.ofChange outboxRoomSpec)

/-- ITS FALSE NEIGHBOUR: 'it returns false'. Refute it at one input. -/
def outboxRoomWrong : ChangeSpec := { name := "outboxRoom", fn := fun _ => fun
  | [d] => { results := [.lit (.bool false)], args := [d] }
  | _ => none }
def OutboxRoomWrongFalsely : Prop := outboxRoomRow.holds Try.pinned (OpenSpec.ofChange outboxRoomWrong)

/-- 'tocsinlaw24.OutboxMinutes': WHATEVER THE INPUT: true; the input reads as it did. -/
def outboxMinutesSpec : ChangeSpec := { name := "outboxMinutes", fn := fun _ => fun
  | [d1, d2, d3] => { results := [.lit (.bool true)], args := [d1, d2, d3] }
  | _ => none }
def outboxMinutesRow : OpenClaim := { program := "ytfaafndaelmbfaa", sum := "bab30015f8ba34200825348fec208d2f52270106fae8aea19f0c3db32ddf6ed9", func := "tocsin/tocsinlaw24.OutboxMinutes", spec := "outboxMinutes", unfollowed := true, recurses := true, apart := false }
def OutboxMinutesSaid : Prop := outboxMinutesRow.holds Try.pinned (OpenSpec.ofChange outboxMinutesSpec)

/-- ITS FALSE NEIGHBOUR: 'it returns false'. Refute it at one input. -/
def outboxMinutesWrong : ChangeSpec := { name := "outboxMinutes", fn := fun _ => fun
  | [d1, d2, d3] => { results := [.lit (.bool false)], args := [d1, d2, d3] }
  | _ => none }
def OutboxMinutesWrongFalsely : Prop := outboxMinutesRow.holds Try.pinned (OpenSpec.ofChange outboxMinutesWrong)

/-- 'tocsinlaw24.OutboxSends': WHATEVER THE INPUT: true; the input reads as it did. -/
def outboxSendsSpec : ChangeSpec := { name := "outboxSends", fn := fun _ => fun
  | [d1, d2, d3, d4, d5] => { results := [.lit (.bool true)], args := [d1, d2, d3, d4, d5] }
  | _ => none }
def outboxSendsRow : OpenClaim := { program := "ytfaafndaelmbfaa", sum := "bab30015f8ba34200825348fec208d2f52270106fae8aea19f0c3db32ddf6ed9", func := "tocsin/tocsinlaw24.OutboxSends", spec := "outboxSends", unfollowed := true, recurses := true, apart := false }
def OutboxSendsSaid : Prop := outboxSendsRow.holds Try.pinned (OpenSpec.ofChange outboxSendsSpec)

/-- ITS FALSE NEIGHBOUR: 'it returns false'. Refute it at one input. -/
def outboxSendsWrong : ChangeSpec := { name := "outboxSends", fn := fun _ => fun
  | [d1, d2, d3, d4, d5] => { results := [.lit (.bool false)], args := [d1, d2, d3, d4, d5] }
  | _ => none }
def OutboxSendsWrongFalsely : Prop := outboxSendsRow.holds Try.pinned (OpenSpec.ofChange outboxSendsWrong)

/-- 'tocsinlaw24.OutboxNil': WHATEVER THE INPUT: true; the input reads as it did. -/
def outboxNilSpec : ChangeSpec := { name := "outboxNil", fn := fun _ => fun
  | [d] => { results := [.lit (.bool true)], args := [d] }
  | _ => none }
def outboxNilRow : OpenClaim := { program := "ytfaafndaelmbfaa", sum := "bab30015f8ba34200825348fec208d2f52270106fae8aea19f0c3db32ddf6ed9", func := "tocsin/tocsinlaw24.OutboxNil", spec := "outboxNil", unfollowed := true, recurses := true, apart := false }
def OutboxNilSaid : Prop := outboxNilRow.holds Try.pinned (OpenSpec.ofChange outboxNilSpec)

/-- ITS FALSE NEIGHBOUR: 'it returns false'. Refute it at one input. -/
def outboxNilWrong : ChangeSpec := { name := "outboxNil", fn := fun _ => fun
  | [d] => { results := [.lit (.bool false)], args := [d] }
  | _ => none }
def OutboxNilWrongFalsely : Prop := outboxNilRow.holds Try.pinned (OpenSpec.ofChange outboxNilWrong)

/-- 'tocsinlaw24.OutboxPlays': WHATEVER THE INPUT: true; the input reads as it did. -/
def outboxPlaysSpec : ChangeSpec := { name := "outboxPlays", fn := fun _ => fun
  | [d1, d2] => { results := [.lit (.bool true)], args := [d1, d2] }
  | _ => none }
def outboxPlaysRow : OpenClaim := { program := "ytfaafndaelmbfaa", sum := "bab30015f8ba34200825348fec208d2f52270106fae8aea19f0c3db32ddf6ed9", func := "tocsin/tocsinlaw24.OutboxPlays", spec := "outboxPlays", unfollowed := true, recurses := true, apart := false }
def OutboxPlaysSaid : Prop := outboxPlaysRow.holds Try.pinned (OpenSpec.ofChange outboxPlaysSpec)

/-- ITS FALSE NEIGHBOUR: 'it returns false'. Refute it at one input. -/
def outboxPlaysWrong : ChangeSpec := { name := "outboxPlays", fn := fun _ => fun
  | [d1, d2] => { results := [.lit (.bool false)], args := [d1, d2] }
  | _ => none }
def OutboxPlaysWrongFalsely : Prop := outboxPlaysRow.holds Try.pinned (OpenSpec.ofChange outboxPlaysWrong)

/- THE SECOND FORM. 'bulk': how many values and letters a reading holds, each counted each time it is reached (what is shared counts as often as it is met; a slice's spare places count too). A statement '..UptoSaid' is the law's where the arguments, and the package variables that the reading takes, are together of bulk at most 1048576: NARROWER than '..Said'. Prove '..Said' where nothing that the law and all that it calls make is longer than what came in: it says more and counts as full. Else prove '..UptoSaid'. A law counts once. -/
mutual
def uptoBulk {H : Type} : DataW H → Nat
  | .lit (.string bytes) => bytes.length + 1
  | .lit _ => 1
  | .nil => 1
  | .ptr d => uptoBulk d + 1
  | .slice elems spare => uptoBulkAll elems + uptoBulkAll spare + 1
  | .agg parts => uptoBulkAll parts + 1
  | .iface _ d => uptoBulk d + 1
  | .map entries => uptoBulkEntries entries + 1
  | .held _ => 1
def uptoBulkAll {H : Type} : List (DataW H) → Nat
  | [] => 0
  | d :: r => uptoBulk d + uptoBulkAll r
def uptoBulkEntries {H : Type} : List (Lit × DataW H) → Nat
  | [] => 0
  | x :: r => uptoBulkEntry x + uptoBulkEntries r
def uptoBulkEntry {H : Type} : Lit × DataW H → Nat
  | (.string bytes, d) => bytes.length + uptoBulk d + 1
  | (_, d) => uptoBulk d + 1
 end
def uptoSmall : (H : Type) → List (DataW H) → Bool := fun _ ds => decide (uptoBulkAll ds ≤ 1048576)
def OpenSpec.upto (s : _root_.Go.ChangeSpec) : _root_.Go.OpenSpec := { _root_.Go.OpenSpec.ofChange s with cond := some uptoSmall }

/-- 'tocsinlaw24.OutboxRoom', WHERE WHAT IT READS IS OF BULK AT MOST 1048576: true; the input reads as it did. -/
def outboxRoomUptoRow : OpenClaim := { program := "ytfaafndaelmbfaa", sum := "bab30015f8ba34200825348fec208d2f52270106fae8aea19f0c3db32ddf6ed9", func := "tocsin/tocsinlaw24.OutboxRoom", spec := "outboxRoom", unfollowed := true, recurses := true, apart := false, narrowed := true }
def OutboxRoomUptoSaid : Prop := outboxRoomUptoRow.holds Try.pinned (OpenSpec.upto outboxRoomSpec)

/-- 'tocsinlaw24.OutboxMinutes', WHERE WHAT IT READS IS OF BULK AT MOST 1048576: true; the input reads as it did. -/
def outboxMinutesUptoRow : OpenClaim := { program := "ytfaafndaelmbfaa", sum := "bab30015f8ba34200825348fec208d2f52270106fae8aea19f0c3db32ddf6ed9", func := "tocsin/tocsinlaw24.OutboxMinutes", spec := "outboxMinutes", unfollowed := true, recurses := true, apart := false, narrowed := true }
def OutboxMinutesUptoSaid : Prop := outboxMinutesUptoRow.holds Try.pinned (OpenSpec.upto outboxMinutesSpec)

/-- 'tocsinlaw24.OutboxSends', WHERE WHAT IT READS IS OF BULK AT MOST 1048576: true; the input reads as it did. -/
def outboxSendsUptoRow : OpenClaim := { program := "ytfaafndaelmbfaa", sum := "bab30015f8ba34200825348fec208d2f52270106fae8aea19f0c3db32ddf6ed9", func := "tocsin/tocsinlaw24.OutboxSends", spec := "outboxSends", unfollowed := true, recurses := true, apart := false, narrowed := true }
def OutboxSendsUptoSaid : Prop := outboxSendsUptoRow.holds Try.pinned (OpenSpec.upto outboxSendsSpec)

/-- 'tocsinlaw24.OutboxNil', WHERE WHAT IT READS IS OF BULK AT MOST 1048576: true; the input reads as it did. -/
def outboxNilUptoRow : OpenClaim := { program := "ytfaafndaelmbfaa", sum := "bab30015f8ba34200825348fec208d2f52270106fae8aea19f0c3db32ddf6ed9", func := "tocsin/tocsinlaw24.OutboxNil", spec := "outboxNil", unfollowed := true, recurses := true, apart := false, narrowed := true }
def OutboxNilUptoSaid : Prop := outboxNilUptoRow.holds Try.pinned (OpenSpec.upto outboxNilSpec)

/-- 'tocsinlaw24.OutboxPlays', WHERE WHAT IT READS IS OF BULK AT MOST 1048576: true; the input reads as it did. -/
def outboxPlaysUptoRow : OpenClaim := { program := "ytfaafndaelmbfaa", sum := "bab30015f8ba34200825348fec208d2f52270106fae8aea19f0c3db32ddf6ed9", func := "tocsin/tocsinlaw24.OutboxPlays", spec := "outboxPlays", unfollowed := true, recurses := true, apart := false, narrowed := true }
def OutboxPlaysUptoSaid : Prop := outboxPlaysUptoRow.holds Try.pinned (OpenSpec.upto outboxPlaysSpec)

end Rows
end Go.Proofs.Ytfaafndaelmbfaa
