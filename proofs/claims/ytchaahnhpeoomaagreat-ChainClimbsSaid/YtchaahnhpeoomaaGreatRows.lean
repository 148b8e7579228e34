/-
  No cell of these rows narrows 'for every input' (looked for: loops, veiled, ifaces, maps, wideKeys, modest, calm, conditions, laid).
  DERIVED. THE GIVEN ROWS OF THIS SEAT. 18 by the template 'for every input the law returns true; each argument reads behind the call as it read before'; 0 by the template 'total and deterministic' (their statements: YtchaahnhpeoomaaGreatTotals.lean).
  GIVEN WITH THE SEED: the statements are not yours to turn. If you find one false, say at which input.
  Laid BY PROGRAM, IN A SANDBOX (cutbox-rows.mjs): the forced cells as the released guide's own fill.sh prints them over the translation d42e4adbd29bf985… (all of the seat's roots in one cut). By AI agents, Wed Nov 11 2026. No macro, syntax, notation, axiom, sorry.
-/
import Derived.Test.YtchaahnhpeoomaaGreatChecked
import GoSem.Claim
import GoSem.ClaimJoined
import GoSem.ClaimMapViews
import Derived.JoinedTies
import Derived.KernelRfl
namespace Go.Proofs.YtchaahnhpeoomaaGreat
/- THE CELL 'sum', in the pinned program and in every row, IS THE sha256 OF THE DUMP (.gsa) THAT YtchaahnhpeoomaaGreatProg.lean LOADS. Nothing in Lean hashes anything: it is a label: what it is worth is what the hold of that sum in a sandbox is worth. -/
noncomputable def Tryz.pinned : Pinned := { name := "ytchaahnhpeoomaagreat", sum := "d42e4adbd29bf9850b776d5b6091d317f961872bd9427ecc0a5affcbfd633155", checked := Tryz.checked }
namespace Rows
def none {H : Type} : Left H := { results := [], args := [] }

/-- 'lintellaw13.ChainTwice': WHATEVER THE INPUT: true; the input reads as it did. -/
def chainTwiceSpec : ChangeSpec := { name := "chainTwice", fn := fun _ => fun
  | [d] => { results := [.lit (.bool true)], args := [d] }
  | _ => none }
def chainTwiceRow : OpenClaim := { program := "ytchaahnhpeoomaagreat", sum := "d42e4adbd29bf9850b776d5b6091d317f961872bd9427ecc0a5affcbfd633155", func := "lintel/lintellaw13.ChainTwice", spec := "chainTwice", inPlace := ["internal/bytealg.MakeNoZero"], unfollowed := true, recurses := true, plainKeys := false, apart := false }
def ChainTwiceSaid : Prop := chainTwiceRow.holds Tryz.pinned (OpenSpec.ofChange chainTwiceSpec)

/-- ITS FALSE NEIGHBOUR: 'it returns false'. Refute it at one input. -/
def chainTwiceWrong : ChangeSpec := { name := "chainTwice", fn := fun _ => fun
  | [d] => { results := [.lit (.bool false)], args := [d] }
  | _ => none }
def ChainTwiceWrongFalsely : Prop := chainTwiceRow.holds Tryz.pinned (OpenSpec.ofChange chainTwiceWrong)

/-- 'lintellaw13.ChainMore': WHATEVER THE INPUT: true; the input reads as it did. -/
def chainMoreSpec : ChangeSpec := { name := "chainMore", fn := fun _ => fun
  | [d1, d2, d3] => { results := [.lit (.bool true)], args := [d1, d2, d3] }
  | _ => none }
def chainMoreRow : OpenClaim := { program := "ytchaahnhpeoomaagreat", sum := "d42e4adbd29bf9850b776d5b6091d317f961872bd9427ecc0a5affcbfd633155", func := "lintel/lintellaw13.ChainMore", spec := "chainMore", inPlace := ["internal/bytealg.MakeNoZero"], unfollowed := true, recurses := true, plainKeys := false, apart := false }
def ChainMoreSaid : Prop := chainMoreRow.holds Tryz.pinned (OpenSpec.ofChange chainMoreSpec)

/-- ITS FALSE NEIGHBOUR: 'it returns false'. Refute it at one input. -/
def chainMoreWrong : ChangeSpec := { name := "chainMore", fn := fun _ => fun
  | [d1, d2, d3] => { results := [.lit (.bool false)], args := [d1, d2, d3] }
  | _ => none }
def ChainMoreWrongFalsely : Prop := chainMoreRow.holds Tryz.pinned (OpenSpec.ofChange chainMoreWrong)

/-- 'lintellaw15.SignerRight': WHATEVER THE INPUT: true; the input reads as it did. -/
def signerRightSpec : ChangeSpec := { name := "signerRight", fn := fun _ => fun
  | [d1, d2] => { results := [.lit (.bool true)], args := [d1, d2] }
  | _ => none }
def signerRightRow : OpenClaim := { program := "ytchaahnhpeoomaagreat", sum := "d42e4adbd29bf9850b776d5b6091d317f961872bd9427ecc0a5affcbfd633155", func := "lintel/lintellaw15.SignerRight", spec := "signerRight", inPlace := ["internal/bytealg.MakeNoZero"], unfollowed := true, recurses := true, plainKeys := false, apart := false }
def SignerRightSaid : Prop := signerRightRow.holds Tryz.pinned (OpenSpec.ofChange signerRightSpec)

/-- ITS FALSE NEIGHBOUR: 'it returns false'. Refute it at one input. -/
def signerRightWrong : ChangeSpec := { name := "signerRight", fn := fun _ => fun
  | [d1, d2] => { results := [.lit (.bool false)], args := [d1, d2] }
  | _ => none }
def SignerRightWrongFalsely : Prop := signerRightRow.holds Tryz.pinned (OpenSpec.ofChange signerRightWrong)

/-- 'lintellaw15.SignerBack': WHATEVER THE INPUT: true; the input reads as it did. -/
def signerBackSpec : ChangeSpec := { name := "signerBack", fn := fun _ => fun
  | [d1, d2, d3] => { results := [.lit (.bool true)], args := [d1, d2, d3] }
  | _ => none }
def signerBackRow : OpenClaim := { program := "ytchaahnhpeoomaagreat", sum := "d42e4adbd29bf9850b776d5b6091d317f961872bd9427ecc0a5affcbfd633155", func := "lintel/lintellaw15.SignerBack", spec := "signerBack", inPlace := ["internal/bytealg.MakeNoZero"], unfollowed := true, recurses := true, plainKeys := false, apart := false }
def SignerBackSaid : Prop := signerBackRow.holds Tryz.pinned (OpenSpec.ofChange signerBackSpec)

/-- ITS FALSE NEIGHBOUR: 'it returns false'. Refute it at one input. -/
def signerBackWrong : ChangeSpec := { name := "signerBack", fn := fun _ => fun
  | [d1, d2, d3] => { results := [.lit (.bool false)], args := [d1, d2, d3] }
  | _ => none }
def SignerBackWrongFalsely : Prop := signerBackRow.holds Tryz.pinned (OpenSpec.ofChange signerBackWrong)

/-- 'lintellaw15.SignerAlone': WHATEVER THE INPUT: true; the input reads as it did. -/
def signerAloneSpec : ChangeSpec := { name := "signerAlone", fn := fun _ => fun
  | [d1, d2] => { results := [.lit (.bool true)], args := [d1, d2] }
  | _ => none }
def signerAloneRow : OpenClaim := { program := "ytchaahnhpeoomaagreat", sum := "d42e4adbd29bf9850b776d5b6091d317f961872bd9427ecc0a5affcbfd633155", func := "lintel/lintellaw15.SignerAlone", spec := "signerAlone", inPlace := ["internal/bytealg.MakeNoZero"], unfollowed := true, recurses := true, plainKeys := false, apart := false }
def SignerAloneSaid : Prop := signerAloneRow.holds Tryz.pinned (OpenSpec.ofChange signerAloneSpec)

/-- ITS FALSE NEIGHBOUR: 'it returns false'. Refute it at one input. -/
def signerAloneWrong : ChangeSpec := { name := "signerAlone", fn := fun _ => fun
  | [d1, d2] => { results := [.lit (.bool false)], args := [d1, d2] }
  | _ => none }
def SignerAloneWrongFalsely : Prop := signerAloneRow.holds Tryz.pinned (OpenSpec.ofChange signerAloneWrong)

/-- 'lintellaw15.SignerNone': WHATEVER THE INPUT: true; the input reads as it did. -/
def signerNoneSpec : ChangeSpec := { name := "signerNone", fn := fun _ => fun
  | [d1, d2] => { results := [.lit (.bool true)], args := [d1, d2] }
  | _ => none }
def signerNoneRow : OpenClaim := { program := "ytchaahnhpeoomaagreat", sum := "d42e4adbd29bf9850b776d5b6091d317f961872bd9427ecc0a5affcbfd633155", func := "lintel/lintellaw15.SignerNone", spec := "signerNone", inPlace := ["internal/bytealg.MakeNoZero"], unfollowed := true, recurses := true, plainKeys := false, apart := false }
def SignerNoneSaid : Prop := signerNoneRow.holds Tryz.pinned (OpenSpec.ofChange signerNoneSpec)

/-- ITS FALSE NEIGHBOUR: 'it returns false'. Refute it at one input. -/
def signerNoneWrong : ChangeSpec := { name := "signerNone", fn := fun _ => fun
  | [d1, d2] => { results := [.lit (.bool false)], args := [d1, d2] }
  | _ => none }
def SignerNoneWrongFalsely : Prop := signerNoneRow.holds Tryz.pinned (OpenSpec.ofChange signerNoneWrong)

/-- 'lintellaw15.SignerFirst': WHATEVER THE INPUT: true; the input reads as it did. -/
def signerFirstSpec : ChangeSpec := { name := "signerFirst", fn := fun _ => fun
  | [d1, d2] => { results := [.lit (.bool true)], args := [d1, d2] }
  | _ => none }
def signerFirstRow : OpenClaim := { program := "ytchaahnhpeoomaagreat", sum := "d42e4adbd29bf9850b776d5b6091d317f961872bd9427ecc0a5affcbfd633155", func := "lintel/lintellaw15.SignerFirst", spec := "signerFirst", inPlace := ["internal/bytealg.MakeNoZero"], unfollowed := true, recurses := true, plainKeys := false, apart := false }
def SignerFirstSaid : Prop := signerFirstRow.holds Tryz.pinned (OpenSpec.ofChange signerFirstSpec)

/-- ITS FALSE NEIGHBOUR: 'it returns false'. Refute it at one input. -/
def signerFirstWrong : ChangeSpec := { name := "signerFirst", fn := fun _ => fun
  | [d1, d2] => { results := [.lit (.bool false)], args := [d1, d2] }
  | _ => none }
def SignerFirstWrongFalsely : Prop := signerFirstRow.holds Tryz.pinned (OpenSpec.ofChange signerFirstWrong)

/-- 'lintellaw15.SignerPlaces': WHATEVER THE INPUT: true; the input reads as it did. -/
def signerPlacesSpec : ChangeSpec := { name := "signerPlaces", fn := fun _ => fun
  | [d1, d2, d3] => { results := [.lit (.bool true)], args := [d1, d2, d3] }
  | _ => none }
def signerPlacesRow : OpenClaim := { program := "ytchaahnhpeoomaagreat", sum := "d42e4adbd29bf9850b776d5b6091d317f961872bd9427ecc0a5affcbfd633155", func := "lintel/lintellaw15.SignerPlaces", spec := "signerPlaces", inPlace := ["internal/bytealg.MakeNoZero"], unfollowed := true, recurses := true, plainKeys := false, apart := false }
def SignerPlacesSaid : Prop := signerPlacesRow.holds Tryz.pinned (OpenSpec.ofChange signerPlacesSpec)

/-- ITS FALSE NEIGHBOUR: 'it returns false'. Refute it at one input. -/
def signerPlacesWrong : ChangeSpec := { name := "signerPlaces", fn := fun _ => fun
  | [d1, d2, d3] => { results := [.lit (.bool false)], args := [d1, d2, d3] }
  | _ => none }
def SignerPlacesWrongFalsely : Prop := signerPlacesRow.holds Tryz.pinned (OpenSpec.ofChange signerPlacesWrong)

/-- 'lintellaw15.SignerAttrs': WHATEVER THE INPUT: true; the input reads as it did. -/
def signerAttrsSpec : ChangeSpec := { name := "signerAttrs", fn := fun _ => fun
  | [d1, d2] => { results := [.lit (.bool true)], args := [d1, d2] }
  | _ => none }
def signerAttrsRow : OpenClaim := { program := "ytchaahnhpeoomaagreat", sum := "d42e4adbd29bf9850b776d5b6091d317f961872bd9427ecc0a5affcbfd633155", func := "lintel/lintellaw15.SignerAttrs", spec := "signerAttrs", inPlace := ["internal/bytealg.MakeNoZero"], unfollowed := true, recurses := true, plainKeys := false, apart := false }
def SignerAttrsSaid : Prop := signerAttrsRow.holds Tryz.pinned (OpenSpec.ofChange signerAttrsSpec)

/-- ITS FALSE NEIGHBOUR: 'it returns false'. Refute it at one input. -/
def signerAttrsWrong : ChangeSpec := { name := "signerAttrs", fn := fun _ => fun
  | [d1, d2] => { results := [.lit (.bool false)], args := [d1, d2] }
  | _ => none }
def SignerAttrsWrongFalsely : Prop := signerAttrsRow.holds Tryz.pinned (OpenSpec.ofChange signerAttrsWrong)

/-- 'lintellaw15.SignerPlain': WHATEVER THE INPUT: true; the input reads as it did. -/
def signerPlainSpec : ChangeSpec := { name := "signerPlain", fn := fun _ => fun
  | [d] => { results := [.lit (.bool true)], args := [d] }
  | _ => none }
def signerPlainRow : OpenClaim := { program := "ytchaahnhpeoomaagreat", sum := "d42e4adbd29bf9850b776d5b6091d317f961872bd9427ecc0a5affcbfd633155", func := "lintel/lintellaw15.SignerPlain", spec := "signerPlain", inPlace := ["internal/bytealg.MakeNoZero"], unfollowed := true, recurses := true, plainKeys := false, apart := false }
def SignerPlainSaid : Prop := signerPlainRow.holds Tryz.pinned (OpenSpec.ofChange signerPlainSpec)

/-- ITS FALSE NEIGHBOUR: 'it returns false'. Refute it at one input. -/
def signerPlainWrong : ChangeSpec := { name := "signerPlain", fn := fun _ => fun
  | [d] => { results := [.lit (.bool false)], args := [d] }
  | _ => none }
def SignerPlainWrongFalsely : Prop := signerPlainRow.holds Tryz.pinned (OpenSpec.ofChange signerPlainWrong)

/-- 'lintellaw15.SignerOf': WHATEVER THE INPUT: true; the input reads as it did. -/
def signerOfSpec : ChangeSpec := { name := "signerOf", fn := fun _ => fun
  | [d1, d2, d3] => { results := [.lit (.bool true)], args := [d1, d2, d3] }
  | _ => none }
def signerOfRow : OpenClaim := { program := "ytchaahnhpeoomaagreat", sum := "d42e4adbd29bf9850b776d5b6091d317f961872bd9427ecc0a5affcbfd633155", func := "lintel/lintellaw15.SignerOf", spec := "signerOf", inPlace := ["internal/bytealg.MakeNoZero"], unfollowed := true, recurses := true, plainKeys := false, apart := false }
def SignerOfSaid : Prop := signerOfRow.holds Tryz.pinned (OpenSpec.ofChange signerOfSpec)

/-- ITS FALSE NEIGHBOUR: 'it returns false'. Refute it at one input. -/
def signerOfWrong : ChangeSpec := { name := "signerOf", fn := fun _ => fun
  | [d1, d2, d3] => { results := [.lit (.bool false)], args := [d1, d2, d3] }
  | _ => none }
def SignerOfWrongFalsely : Prop := signerOfRow.holds Tryz.pinned (OpenSpec.ofChange signerOfWrong)

/-- 'lintellaw13.ChainRight': WHATEVER THE INPUT: true; the input reads as it did. -/
def chainRightSpec : ChangeSpec := { name := "chainRight", fn := fun _ => fun
  | [d] => { results := [.lit (.bool true)], args := [d] }
  | _ => none }
def chainRightRow : OpenClaim := { program := "ytchaahnhpeoomaagreat", sum := "d42e4adbd29bf9850b776d5b6091d317f961872bd9427ecc0a5affcbfd633155", func := "lintel/lintellaw13.ChainRight", spec := "chainRight", inPlace := ["internal/bytealg.MakeNoZero"], unfollowed := true, recurses := true, plainKeys := false, apart := false }
def ChainRightSaid : Prop := chainRightRow.holds Tryz.pinned (OpenSpec.ofChange chainRightSpec)

/-- ITS FALSE NEIGHBOUR: 'it returns false'. Refute it at one input. -/
def chainRightWrong : ChangeSpec := { name := "chainRight", fn := fun _ => fun
  | [d] => { results := [.lit (.bool false)], args := [d] }
  | _ => none }
def ChainRightWrongFalsely : Prop := chainRightRow.holds Tryz.pinned (OpenSpec.ofChange chainRightWrong)

/-- 'lintellaw13.ChainOthers': WHATEVER THE INPUT: true; the input reads as it did. -/
def chainOthersSpec : ChangeSpec := { name := "chainOthers", fn := fun _ => fun
  | [d1, d2, d3] => { results := [.lit (.bool true)], args := [d1, d2, d3] }
  | _ => none }
def chainOthersRow : OpenClaim := { program := "ytchaahnhpeoomaagreat", sum := "d42e4adbd29bf9850b776d5b6091d317f961872bd9427ecc0a5affcbfd633155", func := "lintel/lintellaw13.ChainOthers", spec := "chainOthers", inPlace := ["internal/bytealg.MakeNoZero"], unfollowed := true, recurses := true, plainKeys := false, apart := false }
def ChainOthersSaid : Prop := chainOthersRow.holds Tryz.pinned (OpenSpec.ofChange chainOthersSpec)

/-- ITS FALSE NEIGHBOUR: 'it returns false'. Refute it at one input. -/
def chainOthersWrong : ChangeSpec := { name := "chainOthers", fn := fun _ => fun
  | [d1, d2, d3] => { results := [.lit (.bool false)], args := [d1, d2, d3] }
  | _ => none }
def ChainOthersWrongFalsely : Prop := chainOthersRow.holds Tryz.pinned (OpenSpec.ofChange chainOthersWrong)

/-- 'lintellaw13.ChainNil': WHATEVER THE INPUT: true; the input reads as it did. -/
def chainNilSpec : ChangeSpec := { name := "chainNil", fn := fun _ => fun
  | [d] => { results := [.lit (.bool true)], args := [d] }
  | _ => none }
def chainNilRow : OpenClaim := { program := "ytchaahnhpeoomaagreat", sum := "d42e4adbd29bf9850b776d5b6091d317f961872bd9427ecc0a5affcbfd633155", func := "lintel/lintellaw13.ChainNil", spec := "chainNil", inPlace := ["internal/bytealg.MakeNoZero"], unfollowed := true, recurses := true, plainKeys := false, apart := false }
def ChainNilSaid : Prop := chainNilRow.holds Tryz.pinned (OpenSpec.ofChange chainNilSpec)

/-- ITS FALSE NEIGHBOUR: 'it returns false'. Refute it at one input. -/
def chainNilWrong : ChangeSpec := { name := "chainNil", fn := fun _ => fun
  | [d] => { results := [.lit (.bool false)], args := [d] }
  | _ => none }
def ChainNilWrongFalsely : Prop := chainNilRow.holds Tryz.pinned (OpenSpec.ofChange chainNilWrong)

/-- 'lintellaw13.ChainLadders': WHATEVER THE INPUT: true; the input reads as it did. -/
def chainLaddersSpec : ChangeSpec := { name := "chainLadders", fn := fun _ => fun
  | [d] => { results := [.lit (.bool true)], args := [d] }
  | _ => none }
def chainLaddersRow : OpenClaim := { program := "ytchaahnhpeoomaagreat", sum := "d42e4adbd29bf9850b776d5b6091d317f961872bd9427ecc0a5affcbfd633155", func := "lintel/lintellaw13.ChainLadders", spec := "chainLadders", inPlace := ["internal/bytealg.MakeNoZero"], unfollowed := true, recurses := true, plainKeys := false, apart := false }
def ChainLaddersSaid : Prop := chainLaddersRow.holds Tryz.pinned (OpenSpec.ofChange chainLaddersSpec)

/-- ITS FALSE NEIGHBOUR: 'it returns false'. Refute it at one input. -/
def chainLaddersWrong : ChangeSpec := { name := "chainLadders", fn := fun _ => fun
  | [d] => { results := [.lit (.bool false)], args := [d] }
  | _ => none }
def ChainLaddersWrongFalsely : Prop := chainLaddersRow.holds Tryz.pinned (OpenSpec.ofChange chainLaddersWrong)

/-- 'lintellaw13.ChainClimbs': WHATEVER THE INPUT: true; the input reads as it did. -/
def chainClimbsSpec : ChangeSpec := { name := "chainClimbs", fn := fun _ => fun
  | [d] => { results := [.lit (.bool true)], args := [d] }
  | _ => none }
def chainClimbsRow : OpenClaim := { program := "ytchaahnhpeoomaagreat", sum := "d42e4adbd29bf9850b776d5b6091d317f961872bd9427ecc0a5affcbfd633155", func := "lintel/lintellaw13.ChainClimbs", spec := "chainClimbs", inPlace := ["internal/bytealg.MakeNoZero"], unfollowed := true, recurses := true, plainKeys := false, apart := false }
def ChainClimbsSaid : Prop := chainClimbsRow.holds Tryz.pinned (OpenSpec.ofChange chainClimbsSpec)

/-- ITS FALSE NEIGHBOUR: 'it returns false'. Refute it at one input. -/
def chainClimbsWrong : ChangeSpec := { name := "chainClimbs", fn := fun _ => fun
  | [d] => { results := [.lit (.bool false)], args := [d] }
  | _ => none }
def ChainClimbsWrongFalsely : Prop := chainClimbsRow.holds Tryz.pinned (OpenSpec.ofChange chainClimbsWrong)

/-- 'lintellaw13.ChainNearest': WHATEVER THE INPUT: true; the input reads as it did. -/
def chainNearestSpec : ChangeSpec := { name := "chainNearest", fn := fun _ => fun
  | [d1, d2] => { results := [.lit (.bool true)], args := [d1, d2] }
  | _ => none }
def chainNearestRow : OpenClaim := { program := "ytchaahnhpeoomaagreat", sum := "d42e4adbd29bf9850b776d5b6091d317f961872bd9427ecc0a5affcbfd633155", func := "lintel/lintellaw13.ChainNearest", spec := "chainNearest", inPlace := ["internal/bytealg.MakeNoZero"], unfollowed := true, recurses := true, plainKeys := false, apart := false }
def ChainNearestSaid : Prop := chainNearestRow.holds Tryz.pinned (OpenSpec.ofChange chainNearestSpec)

/-- ITS FALSE NEIGHBOUR: 'it returns false'. Refute it at one input. -/
def chainNearestWrong : ChangeSpec := { name := "chainNearest", fn := fun _ => fun
  | [d1, d2] => { results := [.lit (.bool false)], args := [d1, d2] }
  | _ => none }
def ChainNearestWrongFalsely : Prop := chainNearestRow.holds Tryz.pinned (OpenSpec.ofChange chainNearestWrong)

/-- 'lintellaw13.ChainTurned': WHATEVER THE INPUT: true; the input reads as it did. -/
def chainTurnedSpec : ChangeSpec := { name := "chainTurned", fn := fun _ => fun
  | [d1, d2] => { results := [.lit (.bool true)], args := [d1, d2] }
  | _ => none }
def chainTurnedRow : OpenClaim := { program := "ytchaahnhpeoomaagreat", sum := "d42e4adbd29bf9850b776d5b6091d317f961872bd9427ecc0a5affcbfd633155", func := "lintel/lintellaw13.ChainTurned", spec := "chainTurned", inPlace := ["internal/bytealg.MakeNoZero"], unfollowed := true, recurses := true, plainKeys := false, apart := false }
def ChainTurnedSaid : Prop := chainTurnedRow.holds Tryz.pinned (OpenSpec.ofChange chainTurnedSpec)

/-- ITS FALSE NEIGHBOUR: 'it returns false'. Refute it at one input. -/
def chainTurnedWrong : ChangeSpec := { name := "chainTurned", fn := fun _ => fun
  | [d1, d2] => { results := [.lit (.bool false)], args := [d1, d2] }
  | _ => none }
def ChainTurnedWrongFalsely : Prop := chainTurnedRow.holds Tryz.pinned (OpenSpec.ofChange chainTurnedWrong)

/- THE SECOND FORM. 'bulk': how many values and letters a reading holds, each counted each time it is reached (what is shared counts as often as it is met; a slice's spare places count too). A statement '..UptoSaid' is the law's where the arguments, and the package variables that the reading takes, are together of bulk at most 1048576: NARROWER than '..Said'. Prove '..Said' where nothing that the law and all that it calls make is longer than what came in: it says more and counts as full. Else prove '..UptoSaid'. A law counts once. -/
mutual
def uptoBulk {H : Type} : DataW H → Nat
  | .lit (.string bytes) => bytes.length + 1
  | .lit _ => 1
  | .nil => 1
  | .ptr d => uptoBulk d + 1
  | .slice elems spare => uptoBulkAll elems + uptoBulkAll spare + 1
  | .agg parts => uptoBulkAll parts + 1
  | .iface _ d => uptoBulk d + 1
  | .map entries => uptoBulkEntries entries + 1
  | .held _ => 1
def uptoBulkAll {H : Type} : List (DataW H) → Nat
  | [] => 0
  | d :: r => uptoBulk d + uptoBulkAll r
def uptoBulkEntries {H : Type} : List (Lit × DataW H) → Nat
  | [] => 0
  | x :: r => uptoBulkEntry x + uptoBulkEntries r
def uptoBulkEntry {H : Type} : Lit × DataW H → Nat
  | (.string bytes, d) => bytes.length + uptoBulk d + 1
  | (_, d) => uptoBulk d + 1
 end
def uptoSmall : (H : Type) → List (DataW H) → Bool := fun _ ds => decide (uptoBulkAll ds ≤ 1048576)
def OpenSpec.upto (s : _root_.Go.ChangeSpec) : _root_.Go.OpenSpec := { _root_.Go.OpenSpec.ofChange s with cond := some uptoSmall }

/-- 'lintellaw13.ChainTwice', WHERE WHAT IT READS IS OF BULK AT MOST 1048576: true; the input reads as it did. -/
def chainTwiceUptoRow : OpenClaim := { program := "ytchaahnhpeoomaagreat", sum := "d42e4adbd29bf9850b776d5b6091d317f961872bd9427ecc0a5affcbfd633155", func := "lintel/lintellaw13.ChainTwice", spec := "chainTwice", inPlace := ["internal/bytealg.MakeNoZero"], unfollowed := true, recurses := true, plainKeys := false, apart := false, narrowed := true }
def ChainTwiceUptoSaid : Prop := chainTwiceUptoRow.holds Tryz.pinned (OpenSpec.upto chainTwiceSpec)

/-- 'lintellaw13.ChainMore', WHERE WHAT IT READS IS OF BULK AT MOST 1048576: true; the input reads as it did. -/
def chainMoreUptoRow : OpenClaim := { program := "ytchaahnhpeoomaagreat", sum := "d42e4adbd29bf9850b776d5b6091d317f961872bd9427ecc0a5affcbfd633155", func := "lintel/lintellaw13.ChainMore", spec := "chainMore", inPlace := ["internal/bytealg.MakeNoZero"], unfollowed := true, recurses := true, plainKeys := false, apart := false, narrowed := true }
def ChainMoreUptoSaid : Prop := chainMoreUptoRow.holds Tryz.pinned (OpenSpec.upto chainMoreSpec)

/-- 'lintellaw15.SignerRight', WHERE WHAT IT READS IS OF BULK AT MOST 1048576: true; the input reads as it did. -/
def signerRightUptoRow : OpenClaim := { program := "ytchaahnhpeoomaagreat", sum := "d42e4adbd29bf9850b776d5b6091d317f961872bd9427ecc0a5affcbfd633155", func := "lintel/lintellaw15.SignerRight", spec := "signerRight", inPlace := ["internal/bytealg.MakeNoZero"], unfollowed := true, recurses := true, plainKeys := false, apart := false, narrowed := true }
def SignerRightUptoSaid : Prop := signerRightUptoRow.holds Tryz.pinned (OpenSpec.upto signerRightSpec)

/-- 'lintellaw15.SignerBack', WHERE WHAT IT READS IS OF BULK AT MOST 1048576: true; the input reads as it did. -/
def signerBackUptoRow : OpenClaim := { program := "ytchaahnhpeoomaagreat", sum := "d42e4adbd29bf9850b776d5b6091d317f961872bd9427ecc0a5affcbfd633155", func := "lintel/lintellaw15.SignerBack", spec := "signerBack", inPlace := ["internal/bytealg.MakeNoZero"], unfollowed := true, recurses := true, plainKeys := false, apart := false, narrowed := true }
def SignerBackUptoSaid : Prop := signerBackUptoRow.holds Tryz.pinned (OpenSpec.upto signerBackSpec)

/-- 'lintellaw15.SignerAlone', WHERE WHAT IT READS IS OF BULK AT MOST 1048576: true; the input reads as it did. -/
def signerAloneUptoRow : OpenClaim := { program := "ytchaahnhpeoomaagreat", sum := "d42e4adbd29bf9850b776d5b6091d317f961872bd9427ecc0a5affcbfd633155", func := "lintel/lintellaw15.SignerAlone", spec := "signerAlone", inPlace := ["internal/bytealg.MakeNoZero"], unfollowed := true, recurses := true, plainKeys := false, apart := false, narrowed := true }
def SignerAloneUptoSaid : Prop := signerAloneUptoRow.holds Tryz.pinned (OpenSpec.upto signerAloneSpec)

/-- 'lintellaw15.SignerNone', WHERE WHAT IT READS IS OF BULK AT MOST 1048576: true; the input reads as it did. -/
def signerNoneUptoRow : OpenClaim := { program := "ytchaahnhpeoomaagreat", sum := "d42e4adbd29bf9850b776d5b6091d317f961872bd9427ecc0a5affcbfd633155", func := "lintel/lintellaw15.SignerNone", spec := "signerNone", inPlace := ["internal/bytealg.MakeNoZero"], unfollowed := true, recurses := true, plainKeys := false, apart := false, narrowed := true }
def SignerNoneUptoSaid : Prop := signerNoneUptoRow.holds Tryz.pinned (OpenSpec.upto signerNoneSpec)

/-- 'lintellaw15.SignerFirst', WHERE WHAT IT READS IS OF BULK AT MOST 1048576: true; the input reads as it did. -/
def signerFirstUptoRow : OpenClaim := { program := "ytchaahnhpeoomaagreat", sum := "d42e4adbd29bf9850b776d5b6091d317f961872bd9427ecc0a5affcbfd633155", func := "lintel/lintellaw15.SignerFirst", spec := "signerFirst", inPlace := ["internal/bytealg.MakeNoZero"], unfollowed := true, recurses := true, plainKeys := false, apart := false, narrowed := true }
def SignerFirstUptoSaid : Prop := signerFirstUptoRow.holds Tryz.pinned (OpenSpec.upto signerFirstSpec)

/-- 'lintellaw15.SignerPlaces', WHERE WHAT IT READS IS OF BULK AT MOST 1048576: true; the input reads as it did. -/
def signerPlacesUptoRow : OpenClaim := { program := "ytchaahnhpeoomaagreat", sum := "d42e4adbd29bf9850b776d5b6091d317f961872bd9427ecc0a5affcbfd633155", func := "lintel/lintellaw15.SignerPlaces", spec := "signerPlaces", inPlace := ["internal/bytealg.MakeNoZero"], unfollowed := true, recurses := true, plainKeys := false, apart := false, narrowed := true }
def SignerPlacesUptoSaid : Prop := signerPlacesUptoRow.holds Tryz.pinned (OpenSpec.upto signerPlacesSpec)

/-- 'lintellaw15.SignerAttrs', WHERE WHAT IT READS IS OF BULK AT MOST 1048576: true; the input reads as it did. -/
def signerAttrsUptoRow : OpenClaim := { program := "ytchaahnhpeoomaagreat", sum := "d42e4adbd29bf9850b776d5b6091d317f961872bd9427ecc0a5affcbfd633155", func := "lintel/lintellaw15.SignerAttrs", spec := "signerAttrs", inPlace := ["internal/bytealg.MakeNoZero"], unfollowed := true, recurses := true, plainKeys := false, apart := false, narrowed := true }
def SignerAttrsUptoSaid : Prop := signerAttrsUptoRow.holds Tryz.pinned (OpenSpec.upto signerAttrsSpec)

/-- 'lintellaw15.SignerPlain', WHERE WHAT IT READS IS OF BULK AT MOST 1048576: true; the input reads as it did. -/
def signerPlainUptoRow : OpenClaim := { program := "ytchaahnhpeoomaagreat", sum := "d42e4adbd29bf9850b776d5b6091d317f961872bd9427ecc0a5affcbfd633155", func := "lintel/lintellaw15.SignerPlain", spec := "signerPlain", inPlace := ["internal/bytealg.MakeNoZero"], unfollowed := true, recurses := true, plainKeys := false, apart := false, narrowed := true }
def SignerPlainUptoSaid : Prop := signerPlainUptoRow.holds Tryz.pinned (OpenSpec.upto signerPlainSpec)

/-- 'lintellaw15.SignerOf', WHERE WHAT IT READS IS OF BULK AT MOST 1048576: true; the input reads as it did. -/
def signerOfUptoRow : OpenClaim := { program := "ytchaahnhpeoomaagreat", sum := "d42e4adbd29bf9850b776d5b6091d317f961872bd9427ecc0a5affcbfd633155", func := "lintel/lintellaw15.SignerOf", spec := "signerOf", inPlace := ["internal/bytealg.MakeNoZero"], unfollowed := true, recurses := true, plainKeys := false, apart := false, narrowed := true }
def SignerOfUptoSaid : Prop := signerOfUptoRow.holds Tryz.pinned (OpenSpec.upto signerOfSpec)

/-- 'lintellaw13.ChainRight', WHERE WHAT IT READS IS OF BULK AT MOST 1048576: true; the input reads as it did. -/
def chainRightUptoRow : OpenClaim := { program := "ytchaahnhpeoomaagreat", sum := "d42e4adbd29bf9850b776d5b6091d317f961872bd9427ecc0a5affcbfd633155", func := "lintel/lintellaw13.ChainRight", spec := "chainRight", inPlace := ["internal/bytealg.MakeNoZero"], unfollowed := true, recurses := true, plainKeys := false, apart := false, narrowed := true }
def ChainRightUptoSaid : Prop := chainRightUptoRow.holds Tryz.pinned (OpenSpec.upto chainRightSpec)

/-- 'lintellaw13.ChainOthers', WHERE WHAT IT READS IS OF BULK AT MOST 1048576: true; the input reads as it did. -/
def chainOthersUptoRow : OpenClaim := { program := "ytchaahnhpeoomaagreat", sum := "d42e4adbd29bf9850b776d5b6091d317f961872bd9427ecc0a5affcbfd633155", func := "lintel/lintellaw13.ChainOthers", spec := "chainOthers", inPlace := ["internal/bytealg.MakeNoZero"], unfollowed := true, recurses := true, plainKeys := false, apart := false, narrowed := true }
def ChainOthersUptoSaid : Prop := chainOthersUptoRow.holds Tryz.pinned (OpenSpec.upto chainOthersSpec)

/-- 'lintellaw13.ChainNil', WHERE WHAT IT READS IS OF BULK AT MOST 1048576: true; the input reads as it did. -/
def chainNilUptoRow : OpenClaim := { program := "ytchaahnhpeoomaagreat", sum := "d42e4adbd29bf9850b776d5b6091d317f961872bd9427ecc0a5affcbfd633155", func := "lintel/lintellaw13.ChainNil", spec := "chainNil", inPlace := ["internal/bytealg.MakeNoZero"], unfollowed := true, recurses := true, plainKeys := false, apart := false, narrowed := true }
def ChainNilUptoSaid : Prop := chainNilUptoRow.holds Tryz.pinned (OpenSpec.upto chainNilSpec)

/-- 'lintellaw13.ChainLadders', WHERE WHAT IT READS IS OF BULK AT MOST 1048576: true; the input reads as it did. -/
def chainLaddersUptoRow : OpenClaim := { program := "ytchaahnhpeoomaagreat", sum := "d42e4adbd29bf9850b776d5b6091d317f961872bd9427ecc0a5affcbfd633155", func := "lintel/lintellaw13.ChainLadders", spec := "chainLadders", inPlace := ["internal/bytealg.MakeNoZero"], unfollowed := true, recurses := true, plainKeys := false, apart := false, narrowed := true }
def ChainLaddersUptoSaid : Prop := chainLaddersUptoRow.holds Tryz.pinned (OpenSpec.upto chainLaddersSpec)

/-- 'lintellaw13.ChainClimbs', WHERE WHAT IT READS IS OF BULK AT MOST 1048576: true; the input reads as it did. -/
def chainClimbsUptoRow : OpenClaim := { program := "ytchaahnhpeoomaagreat", sum := "d42e4adbd29bf9850b776d5b6091d317f961872bd9427ecc0a5affcbfd633155", func := "lintel/lintellaw13.ChainClimbs", spec := "chainClimbs", inPlace := ["internal/bytealg.MakeNoZero"], unfollowed := true, recurses := true, plainKeys := false, apart := false, narrowed := true }
def ChainClimbsUptoSaid : Prop := chainClimbsUptoRow.holds Tryz.pinned (OpenSpec.upto chainClimbsSpec)

/-- 'lintellaw13.ChainNearest', WHERE WHAT IT READS IS OF BULK AT MOST 1048576: true; the input reads as it did. -/
def chainNearestUptoRow : OpenClaim := { program := "ytchaahnhpeoomaagreat", sum := "d42e4adbd29bf9850b776d5b6091d317f961872bd9427ecc0a5affcbfd633155", func := "lintel/lintellaw13.ChainNearest", spec := "chainNearest", inPlace := ["internal/bytealg.MakeNoZero"], unfollowed := true, recurses := true, plainKeys := false, apart := false, narrowed := true }
def ChainNearestUptoSaid : Prop := chainNearestUptoRow.holds Tryz.pinned (OpenSpec.upto chainNearestSpec)

/-- 'lintellaw13.ChainTurned', WHERE WHAT IT READS IS OF BULK AT MOST 1048576: true; the input reads as it did. -/
def chainTurnedUptoRow : OpenClaim := { program := "ytchaahnhpeoomaagreat", sum := "d42e4adbd29bf9850b776d5b6091d317f961872bd9427ecc0a5affcbfd633155", func := "lintel/lintellaw13.ChainTurned", spec := "chainTurned", inPlace := ["internal/bytealg.MakeNoZero"], unfollowed := true, recurses := true, plainKeys := false, apart := false, narrowed := true }
def ChainTurnedUptoSaid : Prop := chainTurnedUptoRow.holds Tryz.pinned (OpenSpec.upto chainTurnedSpec)

end Rows
end Go.Proofs.YtchaahnhpeoomaaGreat
