/-
  No cell of these rows narrows 'for every input' (looked for: loops, veiled, ifaces, maps, wideKeys, modest, calm, conditions, laid).
  DERIVED. THE GIVEN ROWS OF THIS SEAT. 6 by the template 'for every input the law returns true; each argument reads behind the call as it read before'; 0 by the template 'total and deterministic' (their statements: YtkjneelekfdpfaaTotals.lean).
  GIVEN WITH THE SEED: the statements are not yours to turn. If you find one false, say at which input.
  Laid BY PROGRAM, IN A SANDBOX (cutbox-rows.mjs): the forced cells as the released guide's own fill.sh prints them over the translation 2e6b1d0563b1156a… (all of the seat's roots in one cut). By AI agents, Wed Nov 11 2026. No macro, syntax, notation, axiom, sorry.
-/
import Derived.Test.YtkjneelekfdpfaaChecked
import GoSem.Claim
import GoSem.ClaimJoined
import GoSem.ClaimMapViews
import Derived.JoinedTies
import Derived.KernelRfl
namespace Go.Proofs.Ytkjneelekfdpfaa
/- THE CELL 'sum', in the pinned program and in every row, IS THE sha256 OF THE DUMP (.gsa) THAT YtkjneelekfdpfaaProg.lean LOADS. Nothing in Lean hashes anything: it is a label: what it is worth is what the hold of that sum in a sandbox is worth. -/
noncomputable def Try.pinned : Pinned := { name := "ytkjneelekfdpfaa", sum := "2e6b1d0563b1156aef3098c82668d95719e7747171fd562c3f21af9318fc7321", checked := Try.checked }
namespace Rows
def none {H : Type} : Left H := { results := [], args := [] }

/-- 'pinstripelaw18.JournalKnown': WHATEVER THE INPUT: true; the input reads as it did. -/
def journalKnownSpec : ChangeSpec := { name := "journalKnown", fn := fun _ => fun
  | [] => { results := [.lit (.bool true)], args := [] }
  | _ => none }
def journalKnownRow : OpenClaim := { program := "ytkjneelekfdpfaa", sum := "2e6b1d0563b1156aef3098c82668d95719e7747171fd562c3f21af9318fc7321", func := "pinstripe/pinstripelaw18.JournalKnown", spec := "journalKnown", unfollowed := true, recurses := true, apart := false }
def JournalKnownSaid : Prop := journalKnownRow.holds Try.pinned (OpenSpec.ofChange journalKnownSpec)

/-- ITS FALSE NEIGHBOUR: 'it returns false'. Refute it at one input. -/
def journalKnownWrong : ChangeSpec := { name := "journalKnown", fn := fun _ => fun
  | [] => { results := [.lit (.bool false)], args := [] }
  | _ => none }
def JournalKnownWrongFalsely : Prop := journalKnownRow.holds Try.pinned (OpenSpec.ofChange journalKnownWrong)

/-- 'pinstripelaw18.JournalDies': WHATEVER THE INPUT: true; the input reads as it did. -/
def journalDiesSpec : ChangeSpec := { name := "journalDies", fn := fun _ => fun
  | [d1, d2, d3] => { results := [.lit (.bool true)], args := [d1, d2, d3] }
  | _ => none }
def journalDiesRow : OpenClaim := { program := "ytkjneelekfdpfaa", sum := "2e6b1d0563b1156aef3098c82668d95719e7747171fd562c3f21af9318fc7321", func := "pinstripe/pinstripelaw18.JournalDies", spec := "journalDies", unfollowed := true, recurses := true, apart := false }
def JournalDiesSaid : Prop := journalDiesRow.holds Try.pinned (OpenSpec.ofChange journalDiesSpec)

/-- ITS FALSE NEIGHBOUR: 'it returns false'. Refute it at one input. -/
def journalDiesWrong : ChangeSpec := { name := "journalDies", fn := fun _ => fun
  | [d1, d2, d3] => { results := [.lit (.bool false)], args := [d1, d2, d3] }
  | _ => none }
def JournalDiesWrongFalsely : Prop := journalDiesRow.holds Try.pinned (OpenSpec.ofChange journalDiesWrong)

/-- 'pinstripelaw18.JournalFills': WHATEVER THE INPUT: true; the input reads as it did. -/
def journalFillsSpec : ChangeSpec := { name := "journalFills", fn := fun _ => fun
  | [d1, d2] => { results := [.lit (.bool true)], args := [d1, d2] }
  | _ => none }
def journalFillsRow : OpenClaim := { program := "ytkjneelekfdpfaa", sum := "2e6b1d0563b1156aef3098c82668d95719e7747171fd562c3f21af9318fc7321", func := "pinstripe/pinstripelaw18.JournalFills", spec := "journalFills", unfollowed := true, recurses := true, apart := false }
def JournalFillsSaid : Prop := journalFillsRow.holds Try.pinned (OpenSpec.ofChange journalFillsSpec)

/-- ITS FALSE NEIGHBOUR: 'it returns false'. Refute it at one input. -/
def journalFillsWrong : ChangeSpec := { name := "journalFills", fn := fun _ => fun
  | [d1, d2] => { results := [.lit (.bool false)], args := [d1, d2] }
  | _ => none }
def JournalFillsWrongFalsely : Prop := journalFillsRow.holds Try.pinned (OpenSpec.ofChange journalFillsWrong)

/-- 'pinstripelaw18.JournalTwice': WHATEVER THE INPUT: true; the input reads as it did. -/
def journalTwiceSpec : ChangeSpec := { name := "journalTwice", fn := fun _ => fun
  | [d1, d2, d3] => { results := [.lit (.bool true)], args := [d1, d2, d3] }
  | _ => none }
def journalTwiceRow : OpenClaim := { program := "ytkjneelekfdpfaa", sum := "2e6b1d0563b1156aef3098c82668d95719e7747171fd562c3f21af9318fc7321", func := "pinstripe/pinstripelaw18.JournalTwice", spec := "journalTwice", unfollowed := true, recurses := true, apart := false }
def JournalTwiceSaid : Prop := journalTwiceRow.holds Try.pinned (OpenSpec.ofChange journalTwiceSpec)

/-- ITS FALSE NEIGHBOUR: 'it returns false'. Refute it at one input. -/
def journalTwiceWrong : ChangeSpec := { name := "journalTwice", fn := fun _ => fun
  | [d1, d2, d3] => { results := [.lit (.bool false)], args := [d1, d2, d3] }
  | _ => none }
def JournalTwiceWrongFalsely : Prop := journalTwiceRow.holds Try.pinned (OpenSpec.ofChange journalTwiceWrong)

/-- 'pinstripelaw18.JournalPlays': WHATEVER THE INPUT: true; the input reads as it did. -/
def journalPlaysSpec : ChangeSpec := { name := "journalPlays", fn := fun _ => fun
  | [d1, d2] => { results := [.lit (.bool true)], args := [d1, d2] }
  | _ => none }
def journalPlaysRow : OpenClaim := { program := "ytkjneelekfdpfaa", sum := "2e6b1d0563b1156aef3098c82668d95719e7747171fd562c3f21af9318fc7321", func := "pinstripe/pinstripelaw18.JournalPlays", spec := "journalPlays", unfollowed := true, recurses := true, apart := false }
def JournalPlaysSaid : Prop := journalPlaysRow.holds Try.pinned (OpenSpec.ofChange journalPlaysSpec)

/-- ITS FALSE NEIGHBOUR: 'it returns false'. Refute it at one input. -/
def journalPlaysWrong : ChangeSpec := { name := "journalPlays", fn := fun _ => fun
  | [d1, d2] => { results := [.lit (.bool false)], args := [d1, d2] }
  | _ => none }
def JournalPlaysWrongFalsely : Prop := journalPlaysRow.holds Try.pinned (OpenSpec.ofChange journalPlaysWrong)

/-- 'pinstripelaw18.JournalOpens': WHATEVER THE INPUT: true; the input reads as it did. -/
def journalOpensSpec : ChangeSpec := { name := "journalOpens", fn := fun _ => fun
  | [d1, d2] => { results := [.lit (.bool true)], args := [d1, d2] }
  | _ => none }
def journalOpensRow : OpenClaim := { program := "ytkjneelekfdpfaa", sum := "2e6b1d0563b1156aef3098c82668d95719e7747171fd562c3f21af9318fc7321", func := "pinstripe/pinstripelaw18.JournalOpens", spec := "journalOpens", unfollowed := true, recurses := true, apart := false }
def JournalOpensSaid : Prop := journalOpensRow.holds Try.pinned (OpenSpec.ofChange journalOpensSpec)

/-- ITS FALSE NEIGHBOUR: 'it returns false'. Refute it at one input. -/
def journalOpensWrong : ChangeSpec := { name := "journalOpens", fn := fun _ => fun
  | [d1, d2] => { results := [.lit (.bool false)], args := [d1, d2] }
  | _ => none }
def JournalOpensWrongFalsely : Prop := journalOpensRow.holds Try.pinned (OpenSpec.ofChange journalOpensWrong)

/- THE SECOND FORM. 'bulk': how many values and letters a reading holds, each counted each time it is reached (what is shared counts as often as it is met; a slice's spare places count too). A statement '..UptoSaid' is the law's where the arguments, and the package variables that the reading takes, are together of bulk at most 1048576: NARROWER than '..Said'. Prove '..Said' where nothing that the law and all that it calls make is longer than what came in: it says more and counts as full. Else prove '..UptoSaid'. A law counts once. -/
mutual
def uptoBulk {H : Type} : DataW H → Nat
  | .lit (.string bytes) => bytes.length + 1
  | .lit _ => 1
  | .nil => 1
  | .ptr d => uptoBulk d + 1
  | .slice elems spare => uptoBulkAll elems + uptoBulkAll spare + 1
  | .agg parts => uptoBulkAll parts + 1
  | .iface _ d => uptoBulk d + 1
  | .map entries => uptoBulkEntries entries + 1
  | .held _ => 1
def uptoBulkAll {H : Type} : List (DataW H) → Nat
  | [] => 0
  | d :: r => uptoBulk d + uptoBulkAll r
def uptoBulkEntries {H : Type} : List (Lit × DataW H) → Nat
  | [] => 0
  | x :: r => uptoBulkEntry x + uptoBulkEntries r
def uptoBulkEntry {H : Type} : Lit × DataW H → Nat
  | (.string bytes, d) => bytes.length + uptoBulk d + 1
  | (_, d) => uptoBulk d + 1
 end
def uptoSmall : (H : Type) → List (DataW H) → Bool := fun _ ds => decide (uptoBulkAll ds ≤ 1048576)
def OpenSpec.upto (s : _root_.Go.ChangeSpec) : _root_.Go.OpenSpec := { _root_.Go.OpenSpec.ofChange s with cond := some uptoSmall }

/-- 'pinstripelaw18.JournalKnown', WHERE WHAT IT READS IS OF BULK AT MOST 1048576: true; the input reads as it did. -/
def journalKnownUptoRow : OpenClaim := { program := "ytkjneelekfdpfaa", sum := "2e6b1d0563b1156aef3098c82668d95719e7747171fd562c3f21af9318fc7321", func := "pinstripe/pinstripelaw18.JournalKnown", spec := "journalKnown", unfollowed := true, recurses := true, apart := false, narrowed := true }
def JournalKnownUptoSaid : Prop := journalKnownUptoRow.holds Try.pinned (OpenSpec.upto journalKnownSpec)

/-- 'pinstripelaw18.JournalDies', WHERE WHAT IT READS IS OF BULK AT MOST 1048576: true; the input reads as it did. -/
def journalDiesUptoRow : OpenClaim := { program := "ytkjneelekfdpfaa", sum := "2e6b1d0563b1156aef3098c82668d95719e7747171fd562c3f21af9318fc7321", func := "pinstripe/pinstripelaw18.JournalDies", spec := "journalDies", unfollowed := true, recurses := true, apart := false, narrowed := true }
def JournalDiesUptoSaid : Prop := journalDiesUptoRow.holds Try.pinned (OpenSpec.upto journalDiesSpec)

/-- 'pinstripelaw18.JournalFills', WHERE WHAT IT READS IS OF BULK AT MOST 1048576: true; the input reads as it did. -/
def journalFillsUptoRow : OpenClaim := { program := "ytkjneelekfdpfaa", sum := "2e6b1d0563b1156aef3098c82668d95719e7747171fd562c3f21af9318fc7321", func := "pinstripe/pinstripelaw18.JournalFills", spec := "journalFills", unfollowed := true, recurses := true, apart := false, narrowed := true }
def JournalFillsUptoSaid : Prop := journalFillsUptoRow.holds Try.pinned (OpenSpec.upto journalFillsSpec)

/-- 'pinstripelaw18.JournalTwice', WHERE WHAT IT READS IS OF BULK AT MOST 1048576: true; the input reads as it did. -/
def journalTwiceUptoRow : OpenClaim := { program := "ytkjneelekfdpfaa", sum := "2e6b1d0563b1156aef3098c82668d95719e7747171fd562c3f21af9318fc7321", func := "pinstripe/pinstripelaw18.JournalTwice", spec := "journalTwice", unfollowed := true, recurses := true, apart := false, narrowed := true }
def JournalTwiceUptoSaid : Prop := journalTwiceUptoRow.holds Try.pinned (OpenSpec.upto journalTwiceSpec)

/-- 'pinstripelaw18.JournalPlays', WHERE WHAT IT READS IS OF BULK AT MOST 1048576: true; the input reads as it did. -/
def journalPlaysUptoRow : OpenClaim := { program := "ytkjneelekfdpfaa", sum := "2e6b1d0563b1156aef3098c82668d95719e7747171fd562c3f21af9318fc7321", func := "pinstripe/pinstripelaw18.JournalPlays", spec := "journalPlays", unfollowed := true, recurses := true, apart := false, narrowed := true }
def JournalPlaysUptoSaid : Prop := journalPlaysUptoRow.holds Try.pinned (OpenSpec.upto journalPlaysSpec)

/-- 'pinstripelaw18.JournalOpens', WHERE WHAT IT READS IS OF BULK AT MOST 1048576: true; the input reads as it did. -/
def journalOpensUptoRow : OpenClaim := { program := "ytkjneelekfdpfaa", sum := "2e6b1d0563b1156aef3098c82668d95719e7747171fd562c3f21af9318fc7321", func := "pinstripe/pinstripelaw18.JournalOpens", spec := "journalOpens", unfollowed := true, recurses := true, apart := false, narrowed := true }
def JournalOpensUptoSaid : Prop := journalOpensUptoRow.holds Try.pinned (OpenSpec.upto journalOpensSpec)

end Rows
end Go.Proofs.Ytkjneelekfdpfaa
