/-
  No cell of these rows narrows 'for every input' (looked for: loops, veiled, ifaces, maps, wideKeys, modest, calm, conditions, laid).
  DERIVED. THE GIVEN ROWS OF THIS SEAT. 12 by the template 'for every input the law returns true; each argument reads behind the call as it read before'; 0 by the template 'total and deterministic' (their statements: YtfclpieijbgodaaTotals.lean).
  GIVEN WITH THE SEED: the statements are not yours to turn. If you find one false, say at which input.
  Laid BY PROGRAM, IN A SANDBOX (cutbox-rows.mjs): the forced cells as the released guide's own fill.sh prints them over the translation 1760abd043cbd1e2… (all of the seat's roots in one cut). By AI agents, Wed Nov 11 2026. No macro, syntax, notation, axiom, sorry.
-/
import Derived.Test.YtfclpieijbgodaaChecked
import GoSem.Claim
import GoSem.ClaimJoined
import GoSem.ClaimMapViews
import Derived.JoinedTies
import Derived.KernelRfl
namespace Go.Proofs.Ytfclpieijbgodaa
/- THE CELL 'sum', in the pinned program and in every row, IS THE sha256 OF THE DUMP (.gsa) THAT YtfclpieijbgodaaProg.lean LOADS. Nothing in Lean hashes anything: it is a label: what it is worth is what the hold of that sum in a sandbox is worth. -/
noncomputable def Try.pinned : Pinned := { name := "ytfclpieijbgodaa", sum := "1760abd043cbd1e29d92cc8c7d6b95bed1920f161fd35a2fba839671a04e9721", checked := Try.checked }
namespace Rows
def none {H : Type} : Left H := { results := [], args := [] }

/-- 'lintellaw04.NatReckons': WHATEVER THE INPUT: true; the input reads as it did. -/
def natReckonsSpec : ChangeSpec := { name := "natReckons", fn := fun _ => fun
  | [d1, d2] => { results := [.lit (.bool true)], args := [d1, d2] }
  | _ => none }
def natReckonsRow : OpenClaim := { program := "ytfclpieijbgodaa", sum := "1760abd043cbd1e29d92cc8c7d6b95bed1920f161fd35a2fba839671a04e9721", func := "lintel/lintellaw04.NatReckons", spec := "natReckons", unfollowed := true, recurses := true, apart := false }
def NatReckonsSaid : Prop := natReckonsRow.holds Try.pinned (OpenSpec.ofChange natReckonsSpec)

/-- ITS FALSE NEIGHBOUR: 'it returns false'. Refute it at one input. -/
def natReckonsWrong : ChangeSpec := { name := "natReckons", fn := fun _ => fun
  | [d1, d2] => { results := [.lit (.bool false)], args := [d1, d2] }
  | _ => none }
def NatReckonsWrongFalsely : Prop := natReckonsRow.holds Try.pinned (OpenSpec.ofChange natReckonsWrong)

/-- 'lintellaw05.MontReckons': WHATEVER THE INPUT: true; the input reads as it did. -/
def montReckonsSpec : ChangeSpec := { name := "montReckons", fn := fun _ => fun
  | [d1, d2, d3, d4] => { results := [.lit (.bool true)], args := [d1, d2, d3, d4] }
  | _ => none }
def montReckonsRow : OpenClaim := { program := "ytfclpieijbgodaa", sum := "1760abd043cbd1e29d92cc8c7d6b95bed1920f161fd35a2fba839671a04e9721", func := "lintel/lintellaw05.MontReckons", spec := "montReckons", unfollowed := true, recurses := true, apart := false }
def MontReckonsSaid : Prop := montReckonsRow.holds Try.pinned (OpenSpec.ofChange montReckonsSpec)

/-- ITS FALSE NEIGHBOUR: 'it returns false'. Refute it at one input. -/
def montReckonsWrong : ChangeSpec := { name := "montReckons", fn := fun _ => fun
  | [d1, d2, d3, d4] => { results := [.lit (.bool false)], args := [d1, d2, d3, d4] }
  | _ => none }
def MontReckonsWrongFalsely : Prop := montReckonsRow.holds Try.pinned (OpenSpec.ofChange montReckonsWrong)

/-- 'lintellaw05.MontPowers': WHATEVER THE INPUT: true; the input reads as it did. -/
def montPowersSpec : ChangeSpec := { name := "montPowers", fn := fun _ => fun
  | [d1, d2, d3, d4, d5] => { results := [.lit (.bool true)], args := [d1, d2, d3, d4, d5] }
  | _ => none }
def montPowersRow : OpenClaim := { program := "ytfclpieijbgodaa", sum := "1760abd043cbd1e29d92cc8c7d6b95bed1920f161fd35a2fba839671a04e9721", func := "lintel/lintellaw05.MontPowers", spec := "montPowers", unfollowed := true, recurses := true, apart := false }
def MontPowersSaid : Prop := montPowersRow.holds Try.pinned (OpenSpec.ofChange montPowersSpec)

/-- ITS FALSE NEIGHBOUR: 'it returns false'. Refute it at one input. -/
def montPowersWrong : ChangeSpec := { name := "montPowers", fn := fun _ => fun
  | [d1, d2, d3, d4, d5] => { results := [.lit (.bool false)], args := [d1, d2, d3, d4, d5] }
  | _ => none }
def MontPowersWrongFalsely : Prop := montPowersRow.holds Try.pinned (OpenSpec.ofChange montPowersWrong)

/-- 'lintellaw05.MontNil': WHATEVER THE INPUT: true; the input reads as it did. -/
def montNilSpec : ChangeSpec := { name := "montNil", fn := fun _ => fun
  | [d1, d2] => { results := [.lit (.bool true)], args := [d1, d2] }
  | _ => none }
def montNilRow : OpenClaim := { program := "ytfclpieijbgodaa", sum := "1760abd043cbd1e29d92cc8c7d6b95bed1920f161fd35a2fba839671a04e9721", func := "lintel/lintellaw05.MontNil", spec := "montNil", unfollowed := true, recurses := true, apart := false }
def MontNilSaid : Prop := montNilRow.holds Try.pinned (OpenSpec.ofChange montNilSpec)

/-- ITS FALSE NEIGHBOUR: 'it returns false'. Refute it at one input. -/
def montNilWrong : ChangeSpec := { name := "montNil", fn := fun _ => fun
  | [d1, d2] => { results := [.lit (.bool false)], args := [d1, d2] }
  | _ => none }
def MontNilWrongFalsely : Prop := montNilRow.holds Try.pinned (OpenSpec.ofChange montNilWrong)

/-- 'lintellaw05.MontSmall': WHATEVER THE INPUT: true; the input reads as it did. -/
def montSmallSpec : ChangeSpec := { name := "montSmall", fn := fun _ => fun
  | [d1, d2, d3, d4] => { results := [.lit (.bool true)], args := [d1, d2, d3, d4] }
  | _ => none }
def montSmallRow : OpenClaim := { program := "ytfclpieijbgodaa", sum := "1760abd043cbd1e29d92cc8c7d6b95bed1920f161fd35a2fba839671a04e9721", func := "lintel/lintellaw05.MontSmall", spec := "montSmall", unfollowed := true, recurses := true, apart := false }
def MontSmallSaid : Prop := montSmallRow.holds Try.pinned (OpenSpec.ofChange montSmallSpec)

/-- ITS FALSE NEIGHBOUR: 'it returns false'. Refute it at one input. -/
def montSmallWrong : ChangeSpec := { name := "montSmall", fn := fun _ => fun
  | [d1, d2, d3, d4] => { results := [.lit (.bool false)], args := [d1, d2, d3, d4] }
  | _ => none }
def MontSmallWrongFalsely : Prop := montSmallRow.holds Try.pinned (OpenSpec.ofChange montSmallWrong)

/-- 'lintellaw05.MontPrimes': WHATEVER THE INPUT: true; the input reads as it did. -/
def montPrimesSpec : ChangeSpec := { name := "montPrimes", fn := fun _ => fun
  | [d1, d2] => { results := [.lit (.bool true)], args := [d1, d2] }
  | _ => none }
def montPrimesRow : OpenClaim := { program := "ytfclpieijbgodaa", sum := "1760abd043cbd1e29d92cc8c7d6b95bed1920f161fd35a2fba839671a04e9721", func := "lintel/lintellaw05.MontPrimes", spec := "montPrimes", unfollowed := true, recurses := true, apart := false }
def MontPrimesSaid : Prop := montPrimesRow.holds Try.pinned (OpenSpec.ofChange montPrimesSpec)

/-- ITS FALSE NEIGHBOUR: 'it returns false'. Refute it at one input. -/
def montPrimesWrong : ChangeSpec := { name := "montPrimes", fn := fun _ => fun
  | [d1, d2] => { results := [.lit (.bool false)], args := [d1, d2] }
  | _ => none }
def MontPrimesWrongFalsely : Prop := montPrimesRow.holds Try.pinned (OpenSpec.ofChange montPrimesWrong)

/-- 'lintellaw06.RsaEncodes': WHATEVER THE INPUT: true; the input reads as it did. -/
def rsaEncodesSpec : ChangeSpec := { name := "rsaEncodes", fn := fun _ => fun
  | [d1, d2, d3] => { results := [.lit (.bool true)], args := [d1, d2, d3] }
  | _ => none }
def rsaEncodesRow : OpenClaim := { program := "ytfclpieijbgodaa", sum := "1760abd043cbd1e29d92cc8c7d6b95bed1920f161fd35a2fba839671a04e9721", func := "lintel/lintellaw06.RsaEncodes", spec := "rsaEncodes", inPlace := ["internal/bytealg.MakeNoZero"], unfollowed := true, recurses := true, apart := false }
def RsaEncodesSaid : Prop := rsaEncodesRow.holds Try.pinned (OpenSpec.ofChange rsaEncodesSpec)

/-- ITS FALSE NEIGHBOUR: 'it returns false'. Refute it at one input. -/
def rsaEncodesWrong : ChangeSpec := { name := "rsaEncodes", fn := fun _ => fun
  | [d1, d2, d3] => { results := [.lit (.bool false)], args := [d1, d2, d3] }
  | _ => none }
def RsaEncodesWrongFalsely : Prop := rsaEncodesRow.holds Try.pinned (OpenSpec.ofChange rsaEncodesWrong)

/-- 'lintellaw06.RsaVerifies': WHATEVER THE INPUT: true; the input reads as it did. -/
def rsaVerifiesSpec : ChangeSpec := { name := "rsaVerifies", fn := fun _ => fun
  | [d1, d2, d3] => { results := [.lit (.bool true)], args := [d1, d2, d3] }
  | _ => none }
def rsaVerifiesRow : OpenClaim := { program := "ytfclpieijbgodaa", sum := "1760abd043cbd1e29d92cc8c7d6b95bed1920f161fd35a2fba839671a04e9721", func := "lintel/lintellaw06.RsaVerifies", spec := "rsaVerifies", inPlace := ["internal/bytealg.MakeNoZero"], unfollowed := true, recurses := true, apart := false }
def RsaVerifiesSaid : Prop := rsaVerifiesRow.holds Try.pinned (OpenSpec.ofChange rsaVerifiesSpec)

/-- ITS FALSE NEIGHBOUR: 'it returns false'. Refute it at one input. -/
def rsaVerifiesWrong : ChangeSpec := { name := "rsaVerifies", fn := fun _ => fun
  | [d1, d2, d3] => { results := [.lit (.bool false)], args := [d1, d2, d3] }
  | _ => none }
def RsaVerifiesWrongFalsely : Prop := rsaVerifiesRow.holds Try.pinned (OpenSpec.ofChange rsaVerifiesWrong)

/-- 'lintellaw06.RsaOne': WHATEVER THE INPUT: true; the input reads as it did. -/
def rsaOneSpec : ChangeSpec := { name := "rsaOne", fn := fun _ => fun
  | [d1, d2, d3] => { results := [.lit (.bool true)], args := [d1, d2, d3] }
  | _ => none }
def rsaOneRow : OpenClaim := { program := "ytfclpieijbgodaa", sum := "1760abd043cbd1e29d92cc8c7d6b95bed1920f161fd35a2fba839671a04e9721", func := "lintel/lintellaw06.RsaOne", spec := "rsaOne", inPlace := ["internal/bytealg.MakeNoZero"], unfollowed := true, recurses := true, apart := false }
def RsaOneSaid : Prop := rsaOneRow.holds Try.pinned (OpenSpec.ofChange rsaOneSpec)

/-- ITS FALSE NEIGHBOUR: 'it returns false'. Refute it at one input. -/
def rsaOneWrong : ChangeSpec := { name := "rsaOne", fn := fun _ => fun
  | [d1, d2, d3] => { results := [.lit (.bool false)], args := [d1, d2, d3] }
  | _ => none }
def RsaOneWrongFalsely : Prop := rsaOneRow.holds Try.pinned (OpenSpec.ofChange rsaOneWrong)

/-- 'lintellaw06.RsaTurned': WHATEVER THE INPUT: true; the input reads as it did. -/
def rsaTurnedSpec : ChangeSpec := { name := "rsaTurned", fn := fun _ => fun
  | [d1, d2] => { results := [.lit (.bool true)], args := [d1, d2] }
  | _ => none }
def rsaTurnedRow : OpenClaim := { program := "ytfclpieijbgodaa", sum := "1760abd043cbd1e29d92cc8c7d6b95bed1920f161fd35a2fba839671a04e9721", func := "lintel/lintellaw06.RsaTurned", spec := "rsaTurned", inPlace := ["internal/bytealg.MakeNoZero"], unfollowed := true, recurses := true, apart := false }
def RsaTurnedSaid : Prop := rsaTurnedRow.holds Try.pinned (OpenSpec.ofChange rsaTurnedSpec)

/-- ITS FALSE NEIGHBOUR: 'it returns false'. Refute it at one input. -/
def rsaTurnedWrong : ChangeSpec := { name := "rsaTurned", fn := fun _ => fun
  | [d1, d2] => { results := [.lit (.bool false)], args := [d1, d2] }
  | _ => none }
def RsaTurnedWrongFalsely : Prop := rsaTurnedRow.holds Try.pinned (OpenSpec.ofChange rsaTurnedWrong)

/-- 'lintellaw06.RsaShape': WHATEVER THE INPUT: true; the input reads as it did. -/
def rsaShapeSpec : ChangeSpec := { name := "rsaShape", fn := fun _ => fun
  | [d1, d2] => { results := [.lit (.bool true)], args := [d1, d2] }
  | _ => none }
def rsaShapeRow : OpenClaim := { program := "ytfclpieijbgodaa", sum := "1760abd043cbd1e29d92cc8c7d6b95bed1920f161fd35a2fba839671a04e9721", func := "lintel/lintellaw06.RsaShape", spec := "rsaShape", inPlace := ["internal/bytealg.MakeNoZero"], unfollowed := true, recurses := true, apart := false }
def RsaShapeSaid : Prop := rsaShapeRow.holds Try.pinned (OpenSpec.ofChange rsaShapeSpec)

/-- ITS FALSE NEIGHBOUR: 'it returns false'. Refute it at one input. -/
def rsaShapeWrong : ChangeSpec := { name := "rsaShape", fn := fun _ => fun
  | [d1, d2] => { results := [.lit (.bool false)], args := [d1, d2] }
  | _ => none }
def RsaShapeWrongFalsely : Prop := rsaShapeRow.holds Try.pinned (OpenSpec.ofChange rsaShapeWrong)

/-- 'lintellaw06.RsaKeys': WHATEVER THE INPUT: true; the input reads as it did. -/
def rsaKeysSpec : ChangeSpec := { name := "rsaKeys", fn := fun _ => fun
  | [d1, d2, d3, d4] => { results := [.lit (.bool true)], args := [d1, d2, d3, d4] }
  | _ => none }
def rsaKeysRow : OpenClaim := { program := "ytfclpieijbgodaa", sum := "1760abd043cbd1e29d92cc8c7d6b95bed1920f161fd35a2fba839671a04e9721", func := "lintel/lintellaw06.RsaKeys", spec := "rsaKeys", inPlace := ["internal/bytealg.MakeNoZero"], unfollowed := true, recurses := true, apart := false }
def RsaKeysSaid : Prop := rsaKeysRow.holds Try.pinned (OpenSpec.ofChange rsaKeysSpec)

/-- ITS FALSE NEIGHBOUR: 'it returns false'. Refute it at one input. -/
def rsaKeysWrong : ChangeSpec := { name := "rsaKeys", fn := fun _ => fun
  | [d1, d2, d3, d4] => { results := [.lit (.bool false)], args := [d1, d2, d3, d4] }
  | _ => none }
def RsaKeysWrongFalsely : Prop := rsaKeysRow.holds Try.pinned (OpenSpec.ofChange rsaKeysWrong)

/- THE SECOND FORM. 'bulk': how many values and letters a reading holds, each counted each time it is reached (what is shared counts as often as it is met; a slice's spare places count too). A statement '..UptoSaid' is the law's where the arguments, and the package variables that the reading takes, are together of bulk at most 1048576: NARROWER than '..Said'. Prove '..Said' where nothing that the law and all that it calls make is longer than what came in: it says more and counts as full. Else prove '..UptoSaid'. A law counts once. -/
mutual
def uptoBulk {H : Type} : DataW H → Nat
  | .lit (.string bytes) => bytes.length + 1
  | .lit _ => 1
  | .nil => 1
  | .ptr d => uptoBulk d + 1
  | .slice elems spare => uptoBulkAll elems + uptoBulkAll spare + 1
  | .agg parts => uptoBulkAll parts + 1
  | .iface _ d => uptoBulk d + 1
  | .map entries => uptoBulkEntries entries + 1
  | .held _ => 1
def uptoBulkAll {H : Type} : List (DataW H) → Nat
  | [] => 0
  | d :: r => uptoBulk d + uptoBulkAll r
def uptoBulkEntries {H : Type} : List (Lit × DataW H) → Nat
  | [] => 0
  | x :: r => uptoBulkEntry x + uptoBulkEntries r
def uptoBulkEntry {H : Type} : Lit × DataW H → Nat
  | (.string bytes, d) => bytes.length + uptoBulk d + 1
  | (_, d) => uptoBulk d + 1
 end
def uptoSmall : (H : Type) → List (DataW H) → Bool := fun _ ds => decide (uptoBulkAll ds ≤ 1048576)
def OpenSpec.upto (s : _root_.Go.ChangeSpec) : _root_.Go.OpenSpec := { _root_.Go.OpenSpec.ofChange s with cond := some uptoSmall }

/-- 'lintellaw04.NatReckons', WHERE WHAT IT READS IS OF BULK AT MOST 1048576: true; the input reads as it did. -/
def natReckonsUptoRow : OpenClaim := { program := "ytfclpieijbgodaa", sum := "1760abd043cbd1e29d92cc8c7d6b95bed1920f161fd35a2fba839671a04e9721", func := "lintel/lintellaw04.NatReckons", spec := "natReckons", unfollowed := true, recurses := true, apart := false, narrowed := true }
def NatReckonsUptoSaid : Prop := natReckonsUptoRow.holds Try.pinned (OpenSpec.upto natReckonsSpec)

/-- 'lintellaw05.MontReckons', WHERE WHAT IT READS IS OF BULK AT MOST 1048576: true; the input reads as it did. -/
def montReckonsUptoRow : OpenClaim := { program := "ytfclpieijbgodaa", sum := "1760abd043cbd1e29d92cc8c7d6b95bed1920f161fd35a2fba839671a04e9721", func := "lintel/lintellaw05.MontReckons", spec := "montReckons", unfollowed := true, recurses := true, apart := false, narrowed := true }
def MontReckonsUptoSaid : Prop := montReckonsUptoRow.holds Try.pinned (OpenSpec.upto montReckonsSpec)

/-- 'lintellaw05.MontPowers', WHERE WHAT IT READS IS OF BULK AT MOST 1048576: true; the input reads as it did. -/
def montPowersUptoRow : OpenClaim := { program := "ytfclpieijbgodaa", sum := "1760abd043cbd1e29d92cc8c7d6b95bed1920f161fd35a2fba839671a04e9721", func := "lintel/lintellaw05.MontPowers", spec := "montPowers", unfollowed := true, recurses := true, apart := false, narrowed := true }
def MontPowersUptoSaid : Prop := montPowersUptoRow.holds Try.pinned (OpenSpec.upto montPowersSpec)

/-- 'lintellaw05.MontNil', WHERE WHAT IT READS IS OF BULK AT MOST 1048576: true; the input reads as it did. -/
def montNilUptoRow : OpenClaim := { program := "ytfclpieijbgodaa", sum := "1760abd043cbd1e29d92cc8c7d6b95bed1920f161fd35a2fba839671a04e9721", func := "lintel/lintellaw05.MontNil", spec := "montNil", unfollowed := true, recurses := true, apart := false, narrowed := true }
def MontNilUptoSaid : Prop := montNilUptoRow.holds Try.pinned (OpenSpec.upto montNilSpec)

/-- 'lintellaw05.MontSmall', WHERE WHAT IT READS IS OF BULK AT MOST 1048576: true; the input reads as it did. -/
def montSmallUptoRow : OpenClaim := { program := "ytfclpieijbgodaa", sum := "1760abd043cbd1e29d92cc8c7d6b95bed1920f161fd35a2fba839671a04e9721", func := "lintel/lintellaw05.MontSmall", spec := "montSmall", unfollowed := true, recurses := true, apart := false, narrowed := true }
def MontSmallUptoSaid : Prop := montSmallUptoRow.holds Try.pinned (OpenSpec.upto montSmallSpec)

/-- 'lintellaw05.MontPrimes', WHERE WHAT IT READS IS OF BULK AT MOST 1048576: true; the input reads as it did. -/
def montPrimesUptoRow : OpenClaim := { program := "ytfclpieijbgodaa", sum := "1760abd043cbd1e29d92cc8c7d6b95bed1920f161fd35a2fba839671a04e9721", func := "lintel/lintellaw05.MontPrimes", spec := "montPrimes", unfollowed := true, recurses := true, apart := false, narrowed := true }
def MontPrimesUptoSaid : Prop := montPrimesUptoRow.holds Try.pinned (OpenSpec.upto montPrimesSpec)

/-- 'lintellaw06.RsaEncodes', WHERE WHAT IT READS IS OF BULK AT MOST 1048576: true; the input reads as it did. -/
def rsaEncodesUptoRow : OpenClaim := { program := "ytfclpieijbgodaa", sum := "1760abd043cbd1e29d92cc8c7d6b95bed1920f161fd35a2fba839671a04e9721", func := "lintel/lintellaw06.RsaEncodes", spec := "rsaEncodes", inPlace := ["internal/bytealg.MakeNoZero"], unfollowed := true, recurses := true, apart := false, narrowed := true }
def RsaEncodesUptoSaid : Prop := rsaEncodesUptoRow.holds Try.pinned (OpenSpec.upto rsaEncodesSpec)

/-- 'lintellaw06.RsaVerifies', WHERE WHAT IT READS IS OF BULK AT MOST 1048576: true; the input reads as it did. -/
def rsaVerifiesUptoRow : OpenClaim := { program := "ytfclpieijbgodaa", sum := "1760abd043cbd1e29d92cc8c7d6b95bed1920f161fd35a2fba839671a04e9721", func := "lintel/lintellaw06.RsaVerifies", spec := "rsaVerifies", inPlace := ["internal/bytealg.MakeNoZero"], unfollowed := true, recurses := true, apart := false, narrowed := true }
def RsaVerifiesUptoSaid : Prop := rsaVerifiesUptoRow.holds Try.pinned (OpenSpec.upto rsaVerifiesSpec)

/-- 'lintellaw06.RsaOne', WHERE WHAT IT READS IS OF BULK AT MOST 1048576: true; the input reads as it did. -/
def rsaOneUptoRow : OpenClaim := { program := "ytfclpieijbgodaa", sum := "1760abd043cbd1e29d92cc8c7d6b95bed1920f161fd35a2fba839671a04e9721", func := "lintel/lintellaw06.RsaOne", spec := "rsaOne", inPlace := ["internal/bytealg.MakeNoZero"], unfollowed := true, recurses := true, apart := false, narrowed := true }
def RsaOneUptoSaid : Prop := rsaOneUptoRow.holds Try.pinned (OpenSpec.upto rsaOneSpec)

/-- 'lintellaw06.RsaTurned', WHERE WHAT IT READS IS OF BULK AT MOST 1048576: true; the input reads as it did. -/
def rsaTurnedUptoRow : OpenClaim := { program := "ytfclpieijbgodaa", sum := "1760abd043cbd1e29d92cc8c7d6b95bed1920f161fd35a2fba839671a04e9721", func := "lintel/lintellaw06.RsaTurned", spec := "rsaTurned", inPlace := ["internal/bytealg.MakeNoZero"], unfollowed := true, recurses := true, apart := false, narrowed := true }
def RsaTurnedUptoSaid : Prop := rsaTurnedUptoRow.holds Try.pinned (OpenSpec.upto rsaTurnedSpec)

/-- 'lintellaw06.RsaShape', WHERE WHAT IT READS IS OF BULK AT MOST 1048576: true; the input reads as it did. -/
def rsaShapeUptoRow : OpenClaim := { program := "ytfclpieijbgodaa", sum := "1760abd043cbd1e29d92cc8c7d6b95bed1920f161fd35a2fba839671a04e9721", func := "lintel/lintellaw06.RsaShape", spec := "rsaShape", inPlace := ["internal/bytealg.MakeNoZero"], unfollowed := true, recurses := true, apart := false, narrowed := true }
def RsaShapeUptoSaid : Prop := rsaShapeUptoRow.holds Try.pinned (OpenSpec.upto rsaShapeSpec)

/-- 'lintellaw06.RsaKeys', WHERE WHAT IT READS IS OF BULK AT MOST 1048576: true; the input reads as it did. -/
def rsaKeysUptoRow : OpenClaim := { program := "ytfclpieijbgodaa", sum := "1760abd043cbd1e29d92cc8c7d6b95bed1920f161fd35a2fba839671a04e9721", func := "lintel/lintellaw06.RsaKeys", spec := "rsaKeys", inPlace := ["internal/bytealg.MakeNoZero"], unfollowed := true, recurses := true, apart := false, narrowed := true }
def RsaKeysUptoSaid : Prop := rsaKeysUptoRow.holds Try.pinned (OpenSpec.upto rsaKeysSpec)

end Rows
end Go.Proofs.Ytfclpieijbgodaa
