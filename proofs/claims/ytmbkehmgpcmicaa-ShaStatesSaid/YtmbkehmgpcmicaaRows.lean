/-
  No cell of these rows narrows 'for every input' (looked for: loops, veiled, ifaces, maps, wideKeys, modest, calm, conditions, laid).
  DERIVED. THE GIVEN ROWS OF THIS SEAT. 9 by the template 'for every input the law returns true; each argument reads behind the call as it read before'; 0 by the template 'total and deterministic' (their statements: YtmbkehmgpcmicaaTotals.lean).
  GIVEN WITH THE SEED: the statements are not yours to turn. If you find one false, say at which input.
  Laid BY PROGRAM, IN A SANDBOX (cutbox-rows.mjs): the forced cells as the released guide's own fill.sh prints them over the translation 6ad5ba73311846e4… (all of the seat's roots in one cut). By AI agents, Wed Nov 11 2026. No macro, syntax, notation, axiom, sorry.
-/
import Derived.Test.YtmbkehmgpcmicaaChecked
import GoSem.Claim
import GoSem.ClaimJoined
import GoSem.ClaimMapViews
import Derived.JoinedTies
import Derived.KernelRfl
namespace Go.Proofs.Ytmbkehmgpcmicaa
/- THE CELL 'sum', in the pinned program and in every row, IS THE sha256 OF THE DUMP (.gsa) THAT YtmbkehmgpcmicaaProg.lean LOADS. Nothing in Lean hashes anything: it is a label: what it is worth is what the hold of that sum in a sandbox is worth. -/
noncomputable def Try.pinned : Pinned := { name := "ytmbkehmgpcmicaa", sum := "6ad5ba73311846e4d97286efc6aea618af6c282af18e8db48243978af0407fd3", checked := Try.checked }
namespace Rows
def none {H : Type} : Left H := { results := [], args := [] }

/-- 'lintellaw03.ShaSums': WHATEVER THE INPUT: true; the input reads as it did. -/
def shaSumsSpec : ChangeSpec := { name := "shaSums", fn := fun _ => fun
  | [d] => { results := [.lit (.bool true)], args := [d] }
  | _ => none }
def shaSumsRow : OpenClaim := { program := "ytmbkehmgpcmicaa", sum := "6ad5ba73311846e4d97286efc6aea618af6c282af18e8db48243978af0407fd3", func := "lintel/lintellaw03.ShaSums", spec := "shaSums", unfollowed := true, recurses := true, apart := false }
def ShaSumsSaid : Prop := shaSumsRow.holds Try.pinned (OpenSpec.ofChange shaSumsSpec)

/-- ITS FALSE NEIGHBOUR: 'it returns false'. Refute it at one input. -/
def shaSumsWrong : ChangeSpec := { name := "shaSums", fn := fun _ => fun
  | [d] => { results := [.lit (.bool false)], args := [d] }
  | _ => none }
def ShaSumsWrongFalsely : Prop := shaSumsRow.holds Try.pinned (OpenSpec.ofChange shaSumsWrong)

/-- 'lintellaw03.ShaStates': WHATEVER THE INPUT: true; the input reads as it did. -/
def shaStatesSpec : ChangeSpec := { name := "shaStates", fn := fun _ => fun
  | [d] => { results := [.lit (.bool true)], args := [d] }
  | _ => none }
def shaStatesRow : OpenClaim := { program := "ytmbkehmgpcmicaa", sum := "6ad5ba73311846e4d97286efc6aea618af6c282af18e8db48243978af0407fd3", func := "lintel/lintellaw03.ShaStates", spec := "shaStates", unfollowed := true, recurses := true, apart := false }
def ShaStatesSaid : Prop := shaStatesRow.holds Try.pinned (OpenSpec.ofChange shaStatesSpec)

/-- ITS FALSE NEIGHBOUR: 'it returns false'. Refute it at one input. -/
def shaStatesWrong : ChangeSpec := { name := "shaStates", fn := fun _ => fun
  | [d] => { results := [.lit (.bool false)], args := [d] }
  | _ => none }
def ShaStatesWrongFalsely : Prop := shaStatesRow.holds Try.pinned (OpenSpec.ofChange shaStatesWrong)

/-- 'lintellaw03.ShaPieces': WHATEVER THE INPUT: true; the input reads as it did. -/
def shaPiecesSpec : ChangeSpec := { name := "shaPieces", fn := fun _ => fun
  | [d1, d2] => { results := [.lit (.bool true)], args := [d1, d2] }
  | _ => none }
def shaPiecesRow : OpenClaim := { program := "ytmbkehmgpcmicaa", sum := "6ad5ba73311846e4d97286efc6aea618af6c282af18e8db48243978af0407fd3", func := "lintel/lintellaw03.ShaPieces", spec := "shaPieces", unfollowed := true, recurses := true, apart := false }
def ShaPiecesSaid : Prop := shaPiecesRow.holds Try.pinned (OpenSpec.ofChange shaPiecesSpec)

/-- ITS FALSE NEIGHBOUR: 'it returns false'. Refute it at one input. -/
def shaPiecesWrong : ChangeSpec := { name := "shaPieces", fn := fun _ => fun
  | [d1, d2] => { results := [.lit (.bool false)], args := [d1, d2] }
  | _ => none }
def ShaPiecesWrongFalsely : Prop := shaPiecesRow.holds Try.pinned (OpenSpec.ofChange shaPiecesWrong)

/-- 'lintellaw03.ShaSame': WHATEVER THE INPUT: true; the input reads as it did. -/
def shaSameSpec : ChangeSpec := { name := "shaSame", fn := fun _ => fun
  | [d1, d2] => { results := [.lit (.bool true)], args := [d1, d2] }
  | _ => none }
def shaSameRow : OpenClaim := { program := "ytmbkehmgpcmicaa", sum := "6ad5ba73311846e4d97286efc6aea618af6c282af18e8db48243978af0407fd3", func := "lintel/lintellaw03.ShaSame", spec := "shaSame", unfollowed := true, recurses := true, apart := false }
def ShaSameSaid : Prop := shaSameRow.holds Try.pinned (OpenSpec.ofChange shaSameSpec)

/-- ITS FALSE NEIGHBOUR: 'it returns false'. Refute it at one input. -/
def shaSameWrong : ChangeSpec := { name := "shaSame", fn := fun _ => fun
  | [d1, d2] => { results := [.lit (.bool false)], args := [d1, d2] }
  | _ => none }
def ShaSameWrongFalsely : Prop := shaSameRow.holds Try.pinned (OpenSpec.ofChange shaSameWrong)

/-- 'lintellaw03.ShaNil': WHATEVER THE INPUT: true; the input reads as it did. -/
def shaNilSpec : ChangeSpec := { name := "shaNil", fn := fun _ => fun
  | [d] => { results := [.lit (.bool true)], args := [d] }
  | _ => none }
def shaNilRow : OpenClaim := { program := "ytmbkehmgpcmicaa", sum := "6ad5ba73311846e4d97286efc6aea618af6c282af18e8db48243978af0407fd3", func := "lintel/lintellaw03.ShaNil", spec := "shaNil", unfollowed := true, recurses := true, apart := false }
def ShaNilSaid : Prop := shaNilRow.holds Try.pinned (OpenSpec.ofChange shaNilSpec)

/-- ITS FALSE NEIGHBOUR: 'it returns false'. Refute it at one input. -/
def shaNilWrong : ChangeSpec := { name := "shaNil", fn := fun _ => fun
  | [d] => { results := [.lit (.bool false)], args := [d] }
  | _ => none }
def ShaNilWrongFalsely : Prop := shaNilRow.holds Try.pinned (OpenSpec.ofChange shaNilWrong)

/-- 'lintellaw03.ShaZero': WHATEVER THE INPUT: true; the input reads as it did. -/
def shaZeroSpec : ChangeSpec := { name := "shaZero", fn := fun _ => fun
  | [d] => { results := [.lit (.bool true)], args := [d] }
  | _ => none }
def shaZeroRow : OpenClaim := { program := "ytmbkehmgpcmicaa", sum := "6ad5ba73311846e4d97286efc6aea618af6c282af18e8db48243978af0407fd3", func := "lintel/lintellaw03.ShaZero", spec := "shaZero", unfollowed := true, recurses := true, apart := false }
def ShaZeroSaid : Prop := shaZeroRow.holds Try.pinned (OpenSpec.ofChange shaZeroSpec)

/-- ITS FALSE NEIGHBOUR: 'it returns false'. Refute it at one input. -/
def shaZeroWrong : ChangeSpec := { name := "shaZero", fn := fun _ => fun
  | [d] => { results := [.lit (.bool false)], args := [d] }
  | _ => none }
def ShaZeroWrongFalsely : Prop := shaZeroRow.holds Try.pinned (OpenSpec.ofChange shaZeroWrong)

/-- 'lintellaw03.ShaTwo': WHATEVER THE INPUT: true; the input reads as it did. -/
def shaTwoSpec : ChangeSpec := { name := "shaTwo", fn := fun _ => fun
  | [d1, d2] => { results := [.lit (.bool true)], args := [d1, d2] }
  | _ => none }
def shaTwoRow : OpenClaim := { program := "ytmbkehmgpcmicaa", sum := "6ad5ba73311846e4d97286efc6aea618af6c282af18e8db48243978af0407fd3", func := "lintel/lintellaw03.ShaTwo", spec := "shaTwo", unfollowed := true, recurses := true, apart := false }
def ShaTwoSaid : Prop := shaTwoRow.holds Try.pinned (OpenSpec.ofChange shaTwoSpec)

/-- ITS FALSE NEIGHBOUR: 'it returns false'. Refute it at one input. -/
def shaTwoWrong : ChangeSpec := { name := "shaTwo", fn := fun _ => fun
  | [d1, d2] => { results := [.lit (.bool false)], args := [d1, d2] }
  | _ => none }
def ShaTwoWrongFalsely : Prop := shaTwoRow.holds Try.pinned (OpenSpec.ofChange shaTwoWrong)

/-- 'lintellaw03.ShaBytes': WHATEVER THE INPUT: true; the input reads as it did. -/
def shaBytesSpec : ChangeSpec := { name := "shaBytes", fn := fun _ => fun
  | [d] => { results := [.lit (.bool true)], args := [d] }
  | _ => none }
def shaBytesRow : OpenClaim := { program := "ytmbkehmgpcmicaa", sum := "6ad5ba73311846e4d97286efc6aea618af6c282af18e8db48243978af0407fd3", func := "lintel/lintellaw03.ShaBytes", spec := "shaBytes", unfollowed := true, recurses := true, apart := false }
def ShaBytesSaid : Prop := shaBytesRow.holds Try.pinned (OpenSpec.ofChange shaBytesSpec)

/-- ITS FALSE NEIGHBOUR: 'it returns false'. Refute it at one input. -/
def shaBytesWrong : ChangeSpec := { name := "shaBytes", fn := fun _ => fun
  | [d] => { results := [.lit (.bool false)], args := [d] }
  | _ => none }
def ShaBytesWrongFalsely : Prop := shaBytesRow.holds Try.pinned (OpenSpec.ofChange shaBytesWrong)

/-- 'lintellaw03.ShaAlike': WHATEVER THE INPUT: true; the input reads as it did. -/
def shaAlikeSpec : ChangeSpec := { name := "shaAlike", fn := fun _ => fun
  | [d] => { results := [.lit (.bool true)], args := [d] }
  | _ => none }
def shaAlikeRow : OpenClaim := { program := "ytmbkehmgpcmicaa", sum := "6ad5ba73311846e4d97286efc6aea618af6c282af18e8db48243978af0407fd3", func := "lintel/lintellaw03.ShaAlike", spec := "shaAlike", unfollowed := true, recurses := true, apart := false }
def ShaAlikeSaid : Prop := shaAlikeRow.holds Try.pinned (OpenSpec.ofChange shaAlikeSpec)

/-- ITS FALSE NEIGHBOUR: 'it returns false'. Refute it at one input. -/
def shaAlikeWrong : ChangeSpec := { name := "shaAlike", fn := fun _ => fun
  | [d] => { results := [.lit (.bool false)], args := [d] }
  | _ => none }
def ShaAlikeWrongFalsely : Prop := shaAlikeRow.holds Try.pinned (OpenSpec.ofChange shaAlikeWrong)

/- THE SECOND FORM. 'bulk': how many values and letters a reading holds, each counted each time it is reached (what is shared counts as often as it is met; a slice's spare places count too). A statement '..UptoSaid' is the law's where the arguments, and the package variables that the reading takes, are together of bulk at most 1048576: NARROWER than '..Said'. Prove '..Said' where nothing that the law and all that it calls make is longer than what came in: it says more and counts as full. Else prove '..UptoSaid'. A law counts once. -/
mutual
def uptoBulk {H : Type} : DataW H → Nat
  | .lit (.string bytes) => bytes.length + 1
  | .lit _ => 1
  | .nil => 1
  | .ptr d => uptoBulk d + 1
  | .slice elems spare => uptoBulkAll elems + uptoBulkAll spare + 1
  | .agg parts => uptoBulkAll parts + 1
  | .iface _ d => uptoBulk d + 1
  | .map entries => uptoBulkEntries entries + 1
  | .held _ => 1
def uptoBulkAll {H : Type} : List (DataW H) → Nat
  | [] => 0
  | d :: r => uptoBulk d + uptoBulkAll r
def uptoBulkEntries {H : Type} : List (Lit × DataW H) → Nat
  | [] => 0
  | x :: r => uptoBulkEntry x + uptoBulkEntries r
def uptoBulkEntry {H : Type} : Lit × DataW H → Nat
  | (.string bytes, d) => bytes.length + uptoBulk d + 1
  | (_, d) => uptoBulk d + 1
 end
def uptoSmall : (H : Type) → List (DataW H) → Bool := fun _ ds => decide (uptoBulkAll ds ≤ 1048576)
def OpenSpec.upto (s : _root_.Go.ChangeSpec) : _root_.Go.OpenSpec := { _root_.Go.OpenSpec.ofChange s with cond := some uptoSmall }

/-- 'lintellaw03.ShaSums', WHERE WHAT IT READS IS OF BULK AT MOST 1048576: true; the input reads as it did. -/
def shaSumsUptoRow : OpenClaim := { program := "ytmbkehmgpcmicaa", sum := "6ad5ba73311846e4d97286efc6aea618af6c282af18e8db48243978af0407fd3", func := "lintel/lintellaw03.ShaSums", spec := "shaSums", unfollowed := true, recurses := true, apart := false, narrowed := true }
def ShaSumsUptoSaid : Prop := shaSumsUptoRow.holds Try.pinned (OpenSpec.upto shaSumsSpec)

/-- 'lintellaw03.ShaStates', WHERE WHAT IT READS IS OF BULK AT MOST 1048576: true; the input reads as it did. -/
def shaStatesUptoRow : OpenClaim := { program := "ytmbkehmgpcmicaa", sum := "6ad5ba73311846e4d97286efc6aea618af6c282af18e8db48243978af0407fd3", func := "lintel/lintellaw03.ShaStates", spec := "shaStates", unfollowed := true, recurses := true, apart := false, narrowed := true }
def ShaStatesUptoSaid : Prop := shaStatesUptoRow.holds Try.pinned (OpenSpec.upto shaStatesSpec)

/-- 'lintellaw03.ShaPieces', WHERE WHAT IT READS IS OF BULK AT MOST 1048576: true; the input reads as it did. -/
def shaPiecesUptoRow : OpenClaim := { program := "ytmbkehmgpcmicaa", sum := "6ad5ba73311846e4d97286efc6aea618af6c282af18e8db48243978af0407fd3", func := "lintel/lintellaw03.ShaPieces", spec := "shaPieces", unfollowed := true, recurses := true, apart := false, narrowed := true }
def ShaPiecesUptoSaid : Prop := shaPiecesUptoRow.holds Try.pinned (OpenSpec.upto shaPiecesSpec)

/-- 'lintellaw03.ShaSame', WHERE WHAT IT READS IS OF BULK AT MOST 1048576: true; the input reads as it did. -/
def shaSameUptoRow : OpenClaim := { program := "ytmbkehmgpcmicaa", sum := "6ad5ba73311846e4d97286efc6aea618af6c282af18e8db48243978af0407fd3", func := "lintel/lintellaw03.ShaSame", spec := "shaSame", unfollowed := true, recurses := true, apart := false, narrowed := true }
def ShaSameUptoSaid : Prop := shaSameUptoRow.holds Try.pinned (OpenSpec.upto shaSameSpec)

/-- 'lintellaw03.ShaNil', WHERE WHAT IT READS IS OF BULK AT MOST 1048576: true; the input reads as it did. -/
def shaNilUptoRow : OpenClaim := { program := "ytmbkehmgpcmicaa", sum := "6ad5ba73311846e4d97286efc6aea618af6c282af18e8db48243978af0407fd3", func := "lintel/lintellaw03.ShaNil", spec := "shaNil", unfollowed := true, recurses := true, apart := false, narrowed := true }
def ShaNilUptoSaid : Prop := shaNilUptoRow.holds Try.pinned (OpenSpec.upto shaNilSpec)

/-- 'lintellaw03.ShaZero', WHERE WHAT IT READS IS OF BULK AT MOST 1048576: true; the input reads as it did. -/
def shaZeroUptoRow : OpenClaim := { program := "ytmbkehmgpcmicaa", sum := "6ad5ba73311846e4d97286efc6aea618af6c282af18e8db48243978af0407fd3", func := "lintel/lintellaw03.ShaZero", spec := "shaZero", unfollowed := true, recurses := true, apart := false, narrowed := true }
def ShaZeroUptoSaid : Prop := shaZeroUptoRow.holds Try.pinned (OpenSpec.upto shaZeroSpec)

/-- 'lintellaw03.ShaTwo', WHERE WHAT IT READS IS OF BULK AT MOST 1048576: true; the input reads as it did. -/
def shaTwoUptoRow : OpenClaim := { program := "ytmbkehmgpcmicaa", sum := "6ad5ba73311846e4d97286efc6aea618af6c282af18e8db48243978af0407fd3", func := "lintel/lintellaw03.ShaTwo", spec := "shaTwo", unfollowed := true, recurses := true, apart := false, narrowed := true }
def ShaTwoUptoSaid : Prop := shaTwoUptoRow.holds Try.pinned (OpenSpec.upto shaTwoSpec)

/-- 'lintellaw03.ShaBytes', WHERE WHAT IT READS IS OF BULK AT MOST 1048576: true; the input reads as it did. -/
def shaBytesUptoRow : OpenClaim := { program := "ytmbkehmgpcmicaa", sum := "6ad5ba73311846e4d97286efc6aea618af6c282af18e8db48243978af0407fd3", func := "lintel/lintellaw03.ShaBytes", spec := "shaBytes", unfollowed := true, recurses := true, apart := false, narrowed := true }
def ShaBytesUptoSaid : Prop := shaBytesUptoRow.holds Try.pinned (OpenSpec.upto shaBytesSpec)

/-- 'lintellaw03.ShaAlike', WHERE WHAT IT READS IS OF BULK AT MOST 1048576: true; the input reads as it did. -/
def shaAlikeUptoRow : OpenClaim := { program := "ytmbkehmgpcmicaa", sum := "6ad5ba73311846e4d97286efc6aea618af6c282af18e8db48243978af0407fd3", func := "lintel/lintellaw03.ShaAlike", spec := "shaAlike", unfollowed := true, recurses := true, apart := false, narrowed := true }
def ShaAlikeUptoSaid : Prop := shaAlikeUptoRow.holds Try.pinned (OpenSpec.upto shaAlikeSpec)

end Rows
end Go.Proofs.Ytmbkehmgpcmicaa
