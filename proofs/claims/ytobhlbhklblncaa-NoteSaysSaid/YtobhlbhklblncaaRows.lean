/-
  No cell of these rows narrows 'for every input' (looked for: loops, veiled, ifaces, maps, wideKeys, modest, calm, conditions, laid).
  DERIVED. THE GIVEN ROWS OF THIS SEAT. 3 by the template 'for every input the law returns true; each argument reads behind the call as it read before'; 0 by the template 'total and deterministic' (their statements: YtobhlbhklblncaaTotals.lean).
  GIVEN WITH THE SEED: the statements are not yours to turn. If you find one false, say at which input.
  Laid BY PROGRAM, IN A SANDBOX (cutbox-rows.mjs): the forced cells as the released guide's own fill.sh prints them over the translation 6239ea4b79daa8cb… (all of the seat's roots in one cut). By AI agents, Wed Nov 11 2026. No macro, syntax, notation, axiom, sorry.
-/
import Derived.Test.YtobhlbhklblncaaChecked
import GoSem.Claim
import GoSem.ClaimJoined
import GoSem.ClaimMapViews
import Derived.JoinedTies
import Derived.KernelRfl
namespace Go.Proofs.Ytobhlbhklblncaa
/- THE CELL 'sum', in the pinned program and in every row, IS THE sha256 OF THE DUMP (.gsa) THAT YtobhlbhklblncaaProg.lean LOADS. Nothing in Lean hashes anything: it is a label: what it is worth is what the hold of that sum in a sandbox is worth. -/
noncomputable def Try.pinned : Pinned := { name := "ytobhlbhklblncaa", sum := "6239ea4b79daa8cb8ae3ae00f313b3487cdcd5ffab0976d6802cb2b738457fd7", checked := Try.checked }
namespace Rows
def none {H : Type} : Left H := { results := [], args := [] }

/-- 'pinstripelaw16.NoteAsks': WHATEVER THE INPUT: true; the input reads as it did. -/
def noteAsksSpec : ChangeSpec := { name := "noteAsks", fn := fun _ => fun
  | [d1, d2] => { results := [.lit (.bool true)], args := [d1, d2] }
  | _ => none }
def noteAsksRow : OpenClaim := { program := "ytobhlbhklblncaa", sum := "6239ea4b79daa8cb8ae3ae00f313b3487cdcd5ffab0976d6802cb2b738457fd7", func := "pinstripe/pinstripelaw16.NoteAsks", spec := "noteAsks", unfollowed := true, recurses := true, apart := false }
def NoteAsksSaid : Prop := noteAsksRow.holds Try.pinned (OpenSpec.ofChange noteAsksSpec)

/-- ITS FALSE NEIGHBOUR: 'it returns false'. Refute it at one input. -/
def noteAsksWrong : ChangeSpec := { name := "noteAsks", fn := fun _ => fun
  | [d1, d2] => { results := [.lit (.bool false)], args := [d1, d2] }
  | _ => none }
def NoteAsksWrongFalsely : Prop := noteAsksRow.holds Try.pinned (OpenSpec.ofChange noteAsksWrong)

/-- 'pinstripelaw16.NoteKnown': WHATEVER THE INPUT: true; the input reads as it did. -/
def noteKnownSpec : ChangeSpec := { name := "noteKnown", fn := fun _ => fun
  | [] => { results := [.lit (.bool true)], args := [] }
  | _ => none }
def noteKnownRow : OpenClaim := { program := "ytobhlbhklblncaa", sum := "6239ea4b79daa8cb8ae3ae00f313b3487cdcd5ffab0976d6802cb2b738457fd7", func := "pinstripe/pinstripelaw16.NoteKnown", spec := "noteKnown", unfollowed := true, recurses := true, apart := false }
def NoteKnownSaid : Prop := noteKnownRow.holds Try.pinned (OpenSpec.ofChange noteKnownSpec)

/-- ITS FALSE NEIGHBOUR: 'it returns false'. Refute it at one input. -/
def noteKnownWrong : ChangeSpec := { name := "noteKnown", fn := fun _ => fun
  | [] => { results := [.lit (.bool false)], args := [] }
  | _ => none }
def NoteKnownWrongFalsely : Prop := noteKnownRow.holds Try.pinned (OpenSpec.ofChange noteKnownWrong)

/-- 'pinstripelaw16.NoteSays': WHATEVER THE INPUT: true; the input reads as it did. -/
def noteSaysSpec : ChangeSpec := { name := "noteSays", fn := fun _ => fun
  | [d1, d2] => { results := [.lit (.bool true)], args := [d1, d2] }
  | _ => none }
def noteSaysRow : OpenClaim := { program := "ytobhlbhklblncaa", sum := "6239ea4b79daa8cb8ae3ae00f313b3487cdcd5ffab0976d6802cb2b738457fd7", func := "pinstripe/pinstripelaw16.NoteSays", spec := "noteSays", unfollowed := true, recurses := true, apart := false }
def NoteSaysSaid : Prop := noteSaysRow.holds Try.pinned (OpenSpec.ofChange noteSaysSpec)

/-- ITS FALSE NEIGHBOUR: 'it returns false'. Refute it at one input. -/
def noteSaysWrong : ChangeSpec := { name := "noteSays", fn := fun _ => fun
  | [d1, d2] => { results := [.lit (.bool false)], args := [d1, d2] }
  | _ => none }
def NoteSaysWrongFalsely : Prop := noteSaysRow.holds Try.pinned (OpenSpec.ofChange noteSaysWrong)

/- THE SECOND FORM. 'bulk': how many values and letters a reading holds, each counted each time it is reached (what is shared counts as often as it is met; a slice's spare places count too). A statement '..UptoSaid' is the law's where the arguments, and the package variables that the reading takes, are together of bulk at most 1048576: NARROWER than '..Said'. Prove '..Said' where nothing that the law and all that it calls make is longer than what came in: it says more and counts as full. Else prove '..UptoSaid'. A law counts once. -/
mutual
def uptoBulk {H : Type} : DataW H → Nat
  | .lit (.string bytes) => bytes.length + 1
  | .lit _ => 1
  | .nil => 1
  | .ptr d => uptoBulk d + 1
  | .slice elems spare => uptoBulkAll elems + uptoBulkAll spare + 1
  | .agg parts => uptoBulkAll parts + 1
  | .iface _ d => uptoBulk d + 1
  | .map entries => uptoBulkEntries entries + 1
  | .held _ => 1
def uptoBulkAll {H : Type} : List (DataW H) → Nat
  | [] => 0
  | d :: r => uptoBulk d + uptoBulkAll r
def uptoBulkEntries {H : Type} : List (Lit × DataW H) → Nat
  | [] => 0
  | x :: r => uptoBulkEntry x + uptoBulkEntries r
def uptoBulkEntry {H : Type} : Lit × DataW H → Nat
  | (.string bytes, d) => bytes.length + uptoBulk d + 1
  | (_, d) => uptoBulk d + 1
 end
def uptoSmall : (H : Type) → List (DataW H) → Bool := fun _ ds => decide (uptoBulkAll ds ≤ 1048576)
def OpenSpec.upto (s : _root_.Go.ChangeSpec) : _root_.Go.OpenSpec := { _root_.Go.OpenSpec.ofChange s with cond := some uptoSmall }

/-- 'pinstripelaw16.NoteAsks', WHERE WHAT IT READS IS OF BULK AT MOST 1048576: true; the input reads as it did. -/
def noteAsksUptoRow : OpenClaim := { program := "ytobhlbhklblncaa", sum := "6239ea4b79daa8cb8ae3ae00f313b3487cdcd5ffab0976d6802cb2b738457fd7", func := "pinstripe/pinstripelaw16.NoteAsks", spec := "noteAsks", unfollowed := true, recurses := true, apart := false, narrowed := true }
def NoteAsksUptoSaid : Prop := noteAsksUptoRow.holds Try.pinned (OpenSpec.upto noteAsksSpec)

/-- 'pinstripelaw16.NoteKnown', WHERE WHAT IT READS IS OF BULK AT MOST 1048576: true; the input reads as it did. -/
def noteKnownUptoRow : OpenClaim := { program := "ytobhlbhklblncaa", sum := "6239ea4b79daa8cb8ae3ae00f313b3487cdcd5ffab0976d6802cb2b738457fd7", func := "pinstripe/pinstripelaw16.NoteKnown", spec := "noteKnown", unfollowed := true, recurses := true, apart := false, narrowed := true }
def NoteKnownUptoSaid : Prop := noteKnownUptoRow.holds Try.pinned (OpenSpec.upto noteKnownSpec)

/-- 'pinstripelaw16.NoteSays', WHERE WHAT IT READS IS OF BULK AT MOST 1048576: true; the input reads as it did. -/
def noteSaysUptoRow : OpenClaim := { program := "ytobhlbhklblncaa", sum := "6239ea4b79daa8cb8ae3ae00f313b3487cdcd5ffab0976d6802cb2b738457fd7", func := "pinstripe/pinstripelaw16.NoteSays", spec := "noteSays", unfollowed := true, recurses := true, apart := false, narrowed := true }
def NoteSaysUptoSaid : Prop := noteSaysUptoRow.holds Try.pinned (OpenSpec.upto noteSaysSpec)

end Rows
end Go.Proofs.Ytobhlbhklblncaa
