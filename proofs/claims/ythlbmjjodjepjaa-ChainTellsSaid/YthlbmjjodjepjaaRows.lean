/-
  No cell of these rows narrows 'for every input' (looked for: loops, veiled, ifaces, maps, wideKeys, modest, calm, conditions, laid).
  DERIVED. THE GIVEN ROWS OF THIS SEAT. 12 by the template 'for every input the law returns true; each argument reads behind the call as it read before'; 0 by the template 'total and deterministic' (their statements: YthlbmjjodjepjaaTotals.lean).
  GIVEN WITH THE SEED: the statements are not yours to turn. If you find one false, say at which input.
  Laid BY PROGRAM, IN A SANDBOX (cutbox-rows.mjs): the forced cells as the released guide's own fill.sh prints them over the translation d4ad0387889d88c9… (all of the seat's roots in one cut). By AI agents, Wed Nov 11 2026. No macro, syntax, notation, axiom, sorry.
-/
import Derived.Test.YthlbmjjodjepjaaChecked
import GoSem.Claim
import GoSem.ClaimJoined
import GoSem.ClaimMapViews
import Derived.JoinedTies
import Derived.KernelRfl
namespace Go.Proofs.Ythlbmjjodjepjaa
/- THE CELL 'sum', in the pinned program and in every row, IS THE sha256 OF THE DUMP (.gsa) THAT YthlbmjjodjepjaaProg.lean LOADS. Nothing in Lean hashes anything: it is a label: what it is worth is what the hold of that sum in a sandbox is worth. -/
noncomputable def Try.pinned : Pinned := { name := "ythlbmjjodjepjaa", sum := "d4ad0387889d88c9762143793dc6059ed0d4252ad63ff5dbbc4c96495698dbd9", checked := Try.checked }
namespace Rows
def none {H : Type} : Left H := { results := [], args := [] }

/-- 'conclavelaw19.ChainTurned': WHATEVER THE INPUT: true; the input reads as it did. -/
def chainTurnedSpec : ChangeSpec := { name := "chainTurned", fn := fun _ => fun
  | [d1, d2, d3] => { results := [.lit (.bool true)], args := [d1, d2, d3] }
  | _ => none }
def chainTurnedRow : OpenClaim := { program := "ythlbmjjodjepjaa", sum := "d4ad0387889d88c9762143793dc6059ed0d4252ad63ff5dbbc4c96495698dbd9", func := "conclave/conclavelaw19.ChainTurned", spec := "chainTurned", apart := false }
def ChainTurnedSaid : Prop := chainTurnedRow.holds Try.pinned (OpenSpec.ofChange chainTurnedSpec)

/-- ITS FALSE NEIGHBOUR: 'it returns false'. Refute it at one input. -/
def chainTurnedWrong : ChangeSpec := { name := "chainTurned", fn := fun _ => fun
  | [d1, d2, d3] => { results := [.lit (.bool false)], args := [d1, d2, d3] }
  | _ => none }
def ChainTurnedWrongFalsely : Prop := chainTurnedRow.holds Try.pinned (OpenSpec.ofChange chainTurnedWrong)

/-- 'conclavelaw19.ChainLinks': WHATEVER THE INPUT: true; the input reads as it did. -/
def chainLinksSpec : ChangeSpec := { name := "chainLinks", fn := fun _ => fun
  | [d1, d2] => { results := [.lit (.bool true)], args := [d1, d2] }
  | _ => none }
def chainLinksRow : OpenClaim := { program := "ythlbmjjodjepjaa", sum := "d4ad0387889d88c9762143793dc6059ed0d4252ad63ff5dbbc4c96495698dbd9", func := "conclave/conclavelaw19.ChainLinks", spec := "chainLinks", apart := false }
def ChainLinksSaid : Prop := chainLinksRow.holds Try.pinned (OpenSpec.ofChange chainLinksSpec)

/-- ITS FALSE NEIGHBOUR: 'it returns false'. Refute it at one input. -/
def chainLinksWrong : ChangeSpec := { name := "chainLinks", fn := fun _ => fun
  | [d1, d2] => { results := [.lit (.bool false)], args := [d1, d2] }
  | _ => none }
def ChainLinksWrongFalsely : Prop := chainLinksRow.holds Try.pinned (OpenSpec.ofChange chainLinksWrong)

/-- 'conclavelaw6.WalFrames': WHATEVER THE INPUT: true; the input reads as it did. -/
def walFramesSpec : ChangeSpec := { name := "walFrames", fn := fun _ => fun
  | [d1, d2, d3, d4, d5, d6] => { results := [.lit (.bool true)], args := [d1, d2, d3, d4, d5, d6] }
  | _ => none }
def walFramesRow : OpenClaim := { program := "ythlbmjjodjepjaa", sum := "d4ad0387889d88c9762143793dc6059ed0d4252ad63ff5dbbc4c96495698dbd9", func := "conclave/conclavelaw6.WalFrames", spec := "walFrames", apart := false }
def WalFramesSaid : Prop := walFramesRow.holds Try.pinned (OpenSpec.ofChange walFramesSpec)

/-- ITS FALSE NEIGHBOUR: 'it returns false'. Refute it at one input. -/
def walFramesWrong : ChangeSpec := { name := "walFrames", fn := fun _ => fun
  | [d1, d2, d3, d4, d5, d6] => { results := [.lit (.bool false)], args := [d1, d2, d3, d4, d5, d6] }
  | _ => none }
def WalFramesWrongFalsely : Prop := walFramesRow.holds Try.pinned (OpenSpec.ofChange walFramesWrong)

/-- 'conclavelaw6.WalBack': WHATEVER THE INPUT: true; the input reads as it did. -/
def walBackSpec : ChangeSpec := { name := "walBack", fn := fun _ => fun
  | [d] => { results := [.lit (.bool true)], args := [d] }
  | _ => none }
def walBackRow : OpenClaim := { program := "ythlbmjjodjepjaa", sum := "d4ad0387889d88c9762143793dc6059ed0d4252ad63ff5dbbc4c96495698dbd9", func := "conclave/conclavelaw6.WalBack", spec := "walBack", apart := false }
def WalBackSaid : Prop := walBackRow.holds Try.pinned (OpenSpec.ofChange walBackSpec)

/-- ITS FALSE NEIGHBOUR: 'it returns false'. Refute it at one input. -/
def walBackWrong : ChangeSpec := { name := "walBack", fn := fun _ => fun
  | [d] => { results := [.lit (.bool false)], args := [d] }
  | _ => none }
def WalBackWrongFalsely : Prop := walBackRow.holds Try.pinned (OpenSpec.ofChange walBackWrong)

/-- 'conclavelaw6.WalTorn': WHATEVER THE INPUT: true; the input reads as it did. -/
def walTornSpec : ChangeSpec := { name := "walTorn", fn := fun _ => fun
  | [d1, d2] => { results := [.lit (.bool true)], args := [d1, d2] }
  | _ => none }
def walTornRow : OpenClaim := { program := "ythlbmjjodjepjaa", sum := "d4ad0387889d88c9762143793dc6059ed0d4252ad63ff5dbbc4c96495698dbd9", func := "conclave/conclavelaw6.WalTorn", spec := "walTorn", apart := false }
def WalTornSaid : Prop := walTornRow.holds Try.pinned (OpenSpec.ofChange walTornSpec)

/-- ITS FALSE NEIGHBOUR: 'it returns false'. Refute it at one input. -/
def walTornWrong : ChangeSpec := { name := "walTorn", fn := fun _ => fun
  | [d1, d2] => { results := [.lit (.bool false)], args := [d1, d2] }
  | _ => none }
def WalTornWrongFalsely : Prop := walTornRow.holds Try.pinned (OpenSpec.ofChange walTornWrong)

/-- 'conclavelaw6.WalKinds': WHATEVER THE INPUT: true; the input reads as it did. -/
def walKindsSpec : ChangeSpec := { name := "walKinds", fn := fun _ => fun
  | [d1, d2, d3, d4, d5] => { results := [.lit (.bool true)], args := [d1, d2, d3, d4, d5] }
  | _ => none }
def walKindsRow : OpenClaim := { program := "ythlbmjjodjepjaa", sum := "d4ad0387889d88c9762143793dc6059ed0d4252ad63ff5dbbc4c96495698dbd9", func := "conclave/conclavelaw6.WalKinds", spec := "walKinds", apart := false }
def WalKindsSaid : Prop := walKindsRow.holds Try.pinned (OpenSpec.ofChange walKindsSpec)

/-- ITS FALSE NEIGHBOUR: 'it returns false'. Refute it at one input. -/
def walKindsWrong : ChangeSpec := { name := "walKinds", fn := fun _ => fun
  | [d1, d2, d3, d4, d5] => { results := [.lit (.bool false)], args := [d1, d2, d3, d4, d5] }
  | _ => none }
def WalKindsWrongFalsely : Prop := walKindsRow.holds Try.pinned (OpenSpec.ofChange walKindsWrong)

/-- 'conclavelaw6.WalSurvives': WHATEVER THE INPUT: true; the input reads as it did. -/
def walSurvivesSpec : ChangeSpec := { name := "walSurvives", fn := fun _ => fun
  | [d1, d2, d3, d4] => { results := [.lit (.bool true)], args := [d1, d2, d3, d4] }
  | _ => none }
def walSurvivesRow : OpenClaim := { program := "ythlbmjjodjepjaa", sum := "d4ad0387889d88c9762143793dc6059ed0d4252ad63ff5dbbc4c96495698dbd9", func := "conclave/conclavelaw6.WalSurvives", spec := "walSurvives", apart := false }
def WalSurvivesSaid : Prop := walSurvivesRow.holds Try.pinned (OpenSpec.ofChange walSurvivesSpec)

/-- ITS FALSE NEIGHBOUR: 'it returns false'. Refute it at one input. -/
def walSurvivesWrong : ChangeSpec := { name := "walSurvives", fn := fun _ => fun
  | [d1, d2, d3, d4] => { results := [.lit (.bool false)], args := [d1, d2, d3, d4] }
  | _ => none }
def WalSurvivesWrongFalsely : Prop := walSurvivesRow.holds Try.pinned (OpenSpec.ofChange walSurvivesWrong)

/-- 'conclavelaw6.WalNumbers': WHATEVER THE INPUT: true; the input reads as it did. -/
def walNumbersSpec : ChangeSpec := { name := "walNumbers", fn := fun _ => fun
  | [] => { results := [.lit (.bool true)], args := [] }
  | _ => none }
def walNumbersRow : OpenClaim := { program := "ythlbmjjodjepjaa", sum := "d4ad0387889d88c9762143793dc6059ed0d4252ad63ff5dbbc4c96495698dbd9", func := "conclave/conclavelaw6.WalNumbers", spec := "walNumbers", apart := false }
def WalNumbersSaid : Prop := walNumbersRow.holds Try.pinned (OpenSpec.ofChange walNumbersSpec)

/-- ITS FALSE NEIGHBOUR: 'it returns false'. Refute it at one input. -/
def walNumbersWrong : ChangeSpec := { name := "walNumbers", fn := fun _ => fun
  | [] => { results := [.lit (.bool false)], args := [] }
  | _ => none }
def WalNumbersWrongFalsely : Prop := walNumbersRow.holds Try.pinned (OpenSpec.ofChange walNumbersWrong)

/-- 'conclavelaw6.WalPlays': WHATEVER THE INPUT: true; the input reads as it did. -/
def walPlaysSpec : ChangeSpec := { name := "walPlays", fn := fun _ => fun
  | [d] => { results := [.lit (.bool true)], args := [d] }
  | _ => none }
def walPlaysRow : OpenClaim := { program := "ythlbmjjodjepjaa", sum := "d4ad0387889d88c9762143793dc6059ed0d4252ad63ff5dbbc4c96495698dbd9", func := "conclave/conclavelaw6.WalPlays", spec := "walPlays", apart := false }
def WalPlaysSaid : Prop := walPlaysRow.holds Try.pinned (OpenSpec.ofChange walPlaysSpec)

/-- ITS FALSE NEIGHBOUR: 'it returns false'. Refute it at one input. -/
def walPlaysWrong : ChangeSpec := { name := "walPlays", fn := fun _ => fun
  | [d] => { results := [.lit (.bool false)], args := [d] }
  | _ => none }
def WalPlaysWrongFalsely : Prop := walPlaysRow.holds Try.pinned (OpenSpec.ofChange walPlaysWrong)

/-- 'conclavelaw19.ChainTells': WHATEVER THE INPUT: true; the input reads as it did. -/
def chainTellsSpec : ChangeSpec := { name := "chainTells", fn := fun _ => fun
  | [d1, d2, d3, d4] => { results := [.lit (.bool true)], args := [d1, d2, d3, d4] }
  | _ => none }
def chainTellsRow : OpenClaim := { program := "ythlbmjjodjepjaa", sum := "d4ad0387889d88c9762143793dc6059ed0d4252ad63ff5dbbc4c96495698dbd9", func := "conclave/conclavelaw19.ChainTells", spec := "chainTells", apart := false }
def ChainTellsSaid : Prop := chainTellsRow.holds Try.pinned (OpenSpec.ofChange chainTellsSpec)

/-- ITS FALSE NEIGHBOUR: 'it returns false'. Refute it at one input. -/
def chainTellsWrong : ChangeSpec := { name := "chainTells", fn := fun _ => fun
  | [d1, d2, d3, d4] => { results := [.lit (.bool false)], args := [d1, d2, d3, d4] }
  | _ => none }
def ChainTellsWrongFalsely : Prop := chainTellsRow.holds Try.pinned (OpenSpec.ofChange chainTellsWrong)

/-- 'conclavelaw19.ChainBack': WHATEVER THE INPUT: true; the input reads as it did. -/
def chainBackSpec : ChangeSpec := { name := "chainBack", fn := fun _ => fun
  | [d1, d2] => { results := [.lit (.bool true)], args := [d1, d2] }
  | _ => none }
def chainBackRow : OpenClaim := { program := "ythlbmjjodjepjaa", sum := "d4ad0387889d88c9762143793dc6059ed0d4252ad63ff5dbbc4c96495698dbd9", func := "conclave/conclavelaw19.ChainBack", spec := "chainBack", apart := false }
def ChainBackSaid : Prop := chainBackRow.holds Try.pinned (OpenSpec.ofChange chainBackSpec)

/-- ITS FALSE NEIGHBOUR: 'it returns false'. Refute it at one input. -/
def chainBackWrong : ChangeSpec := { name := "chainBack", fn := fun _ => fun
  | [d1, d2] => { results := [.lit (.bool false)], args := [d1, d2] }
  | _ => none }
def ChainBackWrongFalsely : Prop := chainBackRow.holds Try.pinned (OpenSpec.ofChange chainBackWrong)

/-- 'conclavelaw19.ChainNumbers': WHATEVER THE INPUT: true; the input reads as it did. -/
def chainNumbersSpec : ChangeSpec := { name := "chainNumbers", fn := fun _ => fun
  | [] => { results := [.lit (.bool true)], args := [] }
  | _ => none }
def chainNumbersRow : OpenClaim := { program := "ythlbmjjodjepjaa", sum := "d4ad0387889d88c9762143793dc6059ed0d4252ad63ff5dbbc4c96495698dbd9", func := "conclave/conclavelaw19.ChainNumbers", spec := "chainNumbers", apart := false }
def ChainNumbersSaid : Prop := chainNumbersRow.holds Try.pinned (OpenSpec.ofChange chainNumbersSpec)

/-- ITS FALSE NEIGHBOUR: 'it returns false'. Refute it at one input. -/
def chainNumbersWrong : ChangeSpec := { name := "chainNumbers", fn := fun _ => fun
  | [] => { results := [.lit (.bool false)], args := [] }
  | _ => none }
def ChainNumbersWrongFalsely : Prop := chainNumbersRow.holds Try.pinned (OpenSpec.ofChange chainNumbersWrong)

/- THE SECOND FORM. 'bulk': how many values and letters a reading holds, each counted each time it is reached (what is shared counts as often as it is met; a slice's spare places count too). A statement '..UptoSaid' is the law's where the arguments, and the package variables that the reading takes, are together of bulk at most 1048576: NARROWER than '..Said'. Prove '..Said' where nothing that the law and all that it calls make is longer than what came in: it says more and counts as full. Else prove '..UptoSaid'. A law counts once. -/
mutual
def uptoBulk {H : Type} : DataW H → Nat
  | .lit (.string bytes) => bytes.length + 1
  | .lit _ => 1
  | .nil => 1
  | .ptr d => uptoBulk d + 1
  | .slice elems spare => uptoBulkAll elems + uptoBulkAll spare + 1
  | .agg parts => uptoBulkAll parts + 1
  | .iface _ d => uptoBulk d + 1
  | .map entries => uptoBulkEntries entries + 1
  | .held _ => 1
def uptoBulkAll {H : Type} : List (DataW H) → Nat
  | [] => 0
  | d :: r => uptoBulk d + uptoBulkAll r
def uptoBulkEntries {H : Type} : List (Lit × DataW H) → Nat
  | [] => 0
  | x :: r => uptoBulkEntry x + uptoBulkEntries r
def uptoBulkEntry {H : Type} : Lit × DataW H → Nat
  | (.string bytes, d) => bytes.length + uptoBulk d + 1
  | (_, d) => uptoBulk d + 1
 end
def uptoSmall : (H : Type) → List (DataW H) → Bool := fun _ ds => decide (uptoBulkAll ds ≤ 1048576)
def OpenSpec.upto (s : _root_.Go.ChangeSpec) : _root_.Go.OpenSpec := { _root_.Go.OpenSpec.ofChange s with cond := some uptoSmall }

/-- 'conclavelaw19.ChainTurned', WHERE WHAT IT READS IS OF BULK AT MOST 1048576: true; the input reads as it did. -/
def chainTurnedUptoRow : OpenClaim := { program := "ythlbmjjodjepjaa", sum := "d4ad0387889d88c9762143793dc6059ed0d4252ad63ff5dbbc4c96495698dbd9", func := "conclave/conclavelaw19.ChainTurned", spec := "chainTurned", apart := false, narrowed := true }
def ChainTurnedUptoSaid : Prop := chainTurnedUptoRow.holds Try.pinned (OpenSpec.upto chainTurnedSpec)

/-- 'conclavelaw19.ChainLinks', WHERE WHAT IT READS IS OF BULK AT MOST 1048576: true; the input reads as it did. -/
def chainLinksUptoRow : OpenClaim := { program := "ythlbmjjodjepjaa", sum := "d4ad0387889d88c9762143793dc6059ed0d4252ad63ff5dbbc4c96495698dbd9", func := "conclave/conclavelaw19.ChainLinks", spec := "chainLinks", apart := false, narrowed := true }
def ChainLinksUptoSaid : Prop := chainLinksUptoRow.holds Try.pinned (OpenSpec.upto chainLinksSpec)

/-- 'conclavelaw6.WalFrames', WHERE WHAT IT READS IS OF BULK AT MOST 1048576: true; the input reads as it did. -/
def walFramesUptoRow : OpenClaim := { program := "ythlbmjjodjepjaa", sum := "d4ad0387889d88c9762143793dc6059ed0d4252ad63ff5dbbc4c96495698dbd9", func := "conclave/conclavelaw6.WalFrames", spec := "walFrames", apart := false, narrowed := true }
def WalFramesUptoSaid : Prop := walFramesUptoRow.holds Try.pinned (OpenSpec.upto walFramesSpec)

/-- 'conclavelaw6.WalBack', WHERE WHAT IT READS IS OF BULK AT MOST 1048576: true; the input reads as it did. -/
def walBackUptoRow : OpenClaim := { program := "ythlbmjjodjepjaa", sum := "d4ad0387889d88c9762143793dc6059ed0d4252ad63ff5dbbc4c96495698dbd9", func := "conclave/conclavelaw6.WalBack", spec := "walBack", apart := false, narrowed := true }
def WalBackUptoSaid : Prop := walBackUptoRow.holds Try.pinned (OpenSpec.upto walBackSpec)

/-- 'conclavelaw6.WalTorn', WHERE WHAT IT READS IS OF BULK AT MOST 1048576: true; the input reads as it did. -/
def walTornUptoRow : OpenClaim := { program := "ythlbmjjodjepjaa", sum := "d4ad0387889d88c9762143793dc6059ed0d4252ad63ff5dbbc4c96495698dbd9", func := "conclave/conclavelaw6.WalTorn", spec := "walTorn", apart := false, narrowed := true }
def WalTornUptoSaid : Prop := walTornUptoRow.holds Try.pinned (OpenSpec.upto walTornSpec)

/-- 'conclavelaw6.WalKinds', WHERE WHAT IT READS IS OF BULK AT MOST 1048576: true; the input reads as it did. -/
def walKindsUptoRow : OpenClaim := { program := "ythlbmjjodjepjaa", sum := "d4ad0387889d88c9762143793dc6059ed0d4252ad63ff5dbbc4c96495698dbd9", func := "conclave/conclavelaw6.WalKinds", spec := "walKinds", apart := false, narrowed := true }
def WalKindsUptoSaid : Prop := walKindsUptoRow.holds Try.pinned (OpenSpec.upto walKindsSpec)

/-- 'conclavelaw6.WalSurvives', WHERE WHAT IT READS IS OF BULK AT MOST 1048576: true; the input reads as it did. -/
def walSurvivesUptoRow : OpenClaim := { program := "ythlbmjjodjepjaa", sum := "d4ad0387889d88c9762143793dc6059ed0d4252ad63ff5dbbc4c96495698dbd9", func := "conclave/conclavelaw6.WalSurvives", spec := "walSurvives", apart := false, narrowed := true }
def WalSurvivesUptoSaid : Prop := walSurvivesUptoRow.holds Try.pinned (OpenSpec.upto walSurvivesSpec)

/-- 'conclavelaw6.WalNumbers', WHERE WHAT IT READS IS OF BULK AT MOST 1048576: true; the input reads as it did. -/
def walNumbersUptoRow : OpenClaim := { program := "ythlbmjjodjepjaa", sum := "d4ad0387889d88c9762143793dc6059ed0d4252ad63ff5dbbc4c96495698dbd9", func := "conclave/conclavelaw6.WalNumbers", spec := "walNumbers", apart := false, narrowed := true }
def WalNumbersUptoSaid : Prop := walNumbersUptoRow.holds Try.pinned (OpenSpec.upto walNumbersSpec)

/-- 'conclavelaw6.WalPlays', WHERE WHAT IT READS IS OF BULK AT MOST 1048576: true; the input reads as it did. -/
def walPlaysUptoRow : OpenClaim := { program := "ythlbmjjodjepjaa", sum := "d4ad0387889d88c9762143793dc6059ed0d4252ad63ff5dbbc4c96495698dbd9", func := "conclave/conclavelaw6.WalPlays", spec := "walPlays", apart := false, narrowed := true }
def WalPlaysUptoSaid : Prop := walPlaysUptoRow.holds Try.pinned (OpenSpec.upto walPlaysSpec)

/-- 'conclavelaw19.ChainTells', WHERE WHAT IT READS IS OF BULK AT MOST 1048576: true; the input reads as it did. -/
def chainTellsUptoRow : OpenClaim := { program := "ythlbmjjodjepjaa", sum := "d4ad0387889d88c9762143793dc6059ed0d4252ad63ff5dbbc4c96495698dbd9", func := "conclave/conclavelaw19.ChainTells", spec := "chainTells", apart := false, narrowed := true }
def ChainTellsUptoSaid : Prop := chainTellsUptoRow.holds Try.pinned (OpenSpec.upto chainTellsSpec)

/-- 'conclavelaw19.ChainBack', WHERE WHAT IT READS IS OF BULK AT MOST 1048576: true; the input reads as it did. -/
def chainBackUptoRow : OpenClaim := { program := "ythlbmjjodjepjaa", sum := "d4ad0387889d88c9762143793dc6059ed0d4252ad63ff5dbbc4c96495698dbd9", func := "conclave/conclavelaw19.ChainBack", spec := "chainBack", apart := false, narrowed := true }
def ChainBackUptoSaid : Prop := chainBackUptoRow.holds Try.pinned (OpenSpec.upto chainBackSpec)

/-- 'conclavelaw19.ChainNumbers', WHERE WHAT IT READS IS OF BULK AT MOST 1048576: true; the input reads as it did. -/
def chainNumbersUptoRow : OpenClaim := { program := "ythlbmjjodjepjaa", sum := "d4ad0387889d88c9762143793dc6059ed0d4252ad63ff5dbbc4c96495698dbd9", func := "conclave/conclavelaw19.ChainNumbers", spec := "chainNumbers", apart := false, narrowed := true }
def ChainNumbersUptoSaid : Prop := chainNumbersUptoRow.holds Try.pinned (OpenSpec.upto chainNumbersSpec)

end Rows
end Go.Proofs.Ythlbmjjodjepjaa
