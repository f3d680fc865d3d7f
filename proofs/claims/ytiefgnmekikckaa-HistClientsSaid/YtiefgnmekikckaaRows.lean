/-
  No cell of these rows narrows 'for every input' (looked for: loops, veiled, ifaces, maps, wideKeys, modest, calm, conditions, laid).
  DERIVED. THE GIVEN ROWS OF THIS SEAT. 12 by the template 'for every input the law returns true; each argument reads behind the call as it read before'; 0 by the template 'total and deterministic' (their statements: YtiefgnmekikckaaTotals.lean).
  GIVEN WITH THE SEED: the statements are not yours to turn. If you find one false, say at which input.
  Laid BY PROGRAM, IN A SANDBOX (cutbox-rows.mjs): the forced cells as the released guide's own fill.sh prints them over the translation c36ef63cf94f40ce… (all of the seat's roots in one cut). By AI agents, Wed Nov 11 2026. No macro, syntax, notation, axiom, sorry.
-/
import Derived.Test.YtiefgnmekikckaaChecked
import GoSem.Claim
import GoSem.ClaimJoined
import GoSem.ClaimMapViews
import Derived.JoinedTies
import Derived.KernelRfl
namespace Go.Proofs.Ytiefgnmekikckaa
/- THE CELL 'sum', in the pinned program and in every row, IS THE sha256 OF THE DUMP (.gsa) THAT YtiefgnmekikckaaProg.lean LOADS. Nothing in Lean hashes anything: it is a label: what it is worth is what the hold of that sum in a sandbox is worth. -/
noncomputable def Try.pinned : Pinned := { name := "ytiefgnmekikckaa", sum := "c36ef63cf94f40ce1fdb2262986d4ddb6c93e6d9eca5559430cc58cde11fb019", checked := Try.checked }
namespace Rows
def none {H : Type} : Left H := { results := [], args := [] }

/-- 'conclavelaw2.SumTurns': WHATEVER THE INPUT: true; the input reads as it did. -/
def sumTurnsSpec : ChangeSpec := { name := "sumTurns", fn := fun _ => fun
  | [d1, d2, d3] => { results := [.lit (.bool true)], args := [d1, d2, d3] }
  | _ => none }
def sumTurnsRow : OpenClaim := { program := "ytiefgnmekikckaa", sum := "c36ef63cf94f40ce1fdb2262986d4ddb6c93e6d9eca5559430cc58cde11fb019", func := "conclave/conclavelaw2.SumTurns", spec := "sumTurns", apart := false }
def SumTurnsSaid : Prop := sumTurnsRow.holds Try.pinned (OpenSpec.ofChange sumTurnsSpec)

/-- ITS FALSE NEIGHBOUR: 'it returns false'. Refute it at one input. -/
def sumTurnsWrong : ChangeSpec := { name := "sumTurns", fn := fun _ => fun
  | [d1, d2, d3] => { results := [.lit (.bool false)], args := [d1, d2, d3] }
  | _ => none }
def SumTurnsWrongFalsely : Prop := sumTurnsRow.holds Try.pinned (OpenSpec.ofChange sumTurnsWrong)

/-- 'conclavelaw2.SumHash': WHATEVER THE INPUT: true; the input reads as it did. -/
def sumHashSpec : ChangeSpec := { name := "sumHash", fn := fun _ => fun
  | [d1, d2] => { results := [.lit (.bool true)], args := [d1, d2] }
  | _ => none }
def sumHashRow : OpenClaim := { program := "ytiefgnmekikckaa", sum := "c36ef63cf94f40ce1fdb2262986d4ddb6c93e6d9eca5559430cc58cde11fb019", func := "conclave/conclavelaw2.SumHash", spec := "sumHash", apart := false }
def SumHashSaid : Prop := sumHashRow.holds Try.pinned (OpenSpec.ofChange sumHashSpec)

/-- ITS FALSE NEIGHBOUR: 'it returns false'. Refute it at one input. -/
def sumHashWrong : ChangeSpec := { name := "sumHash", fn := fun _ => fun
  | [d1, d2] => { results := [.lit (.bool false)], args := [d1, d2] }
  | _ => none }
def SumHashWrongFalsely : Prop := sumHashRow.holds Try.pinned (OpenSpec.ofChange sumHashWrong)

/-- 'conclavelaw4.DiskSafe': WHATEVER THE INPUT: true; the input reads as it did. -/
def diskSafeSpec : ChangeSpec := { name := "diskSafe", fn := fun _ => fun
  | [d1, d2, d3] => { results := [.lit (.bool true)], args := [d1, d2, d3] }
  | _ => none }
def diskSafeRow : OpenClaim := { program := "ytiefgnmekikckaa", sum := "c36ef63cf94f40ce1fdb2262986d4ddb6c93e6d9eca5559430cc58cde11fb019", func := "conclave/conclavelaw4.DiskSafe", spec := "diskSafe", apart := false }
def DiskSafeSaid : Prop := diskSafeRow.holds Try.pinned (OpenSpec.ofChange diskSafeSpec)

/-- ITS FALSE NEIGHBOUR: 'it returns false'. Refute it at one input. -/
def diskSafeWrong : ChangeSpec := { name := "diskSafe", fn := fun _ => fun
  | [d1, d2, d3] => { results := [.lit (.bool false)], args := [d1, d2, d3] }
  | _ => none }
def DiskSafeWrongFalsely : Prop := diskSafeRow.holds Try.pinned (OpenSpec.ofChange diskSafeWrong)

/-- 'conclavelaw4.DiskKept': WHATEVER THE INPUT: true; the input reads as it did. -/
def diskKeptSpec : ChangeSpec := { name := "diskKept", fn := fun _ => fun
  | [d] => { results := [.lit (.bool true)], args := [d] }
  | _ => none }
def diskKeptRow : OpenClaim := { program := "ytiefgnmekikckaa", sum := "c36ef63cf94f40ce1fdb2262986d4ddb6c93e6d9eca5559430cc58cde11fb019", func := "conclave/conclavelaw4.DiskKept", spec := "diskKept", apart := false }
def DiskKeptSaid : Prop := diskKeptRow.holds Try.pinned (OpenSpec.ofChange diskKeptSpec)

/-- ITS FALSE NEIGHBOUR: 'it returns false'. Refute it at one input. -/
def diskKeptWrong : ChangeSpec := { name := "diskKept", fn := fun _ => fun
  | [d] => { results := [.lit (.bool false)], args := [d] }
  | _ => none }
def DiskKeptWrongFalsely : Prop := diskKeptRow.holds Try.pinned (OpenSpec.ofChange diskKeptWrong)

/-- 'conclavelaw4.DiskNumbers': WHATEVER THE INPUT: true; the input reads as it did. -/
def diskNumbersSpec : ChangeSpec := { name := "diskNumbers", fn := fun _ => fun
  | [] => { results := [.lit (.bool true)], args := [] }
  | _ => none }
def diskNumbersRow : OpenClaim := { program := "ytiefgnmekikckaa", sum := "c36ef63cf94f40ce1fdb2262986d4ddb6c93e6d9eca5559430cc58cde11fb019", func := "conclave/conclavelaw4.DiskNumbers", spec := "diskNumbers", apart := false }
def DiskNumbersSaid : Prop := diskNumbersRow.holds Try.pinned (OpenSpec.ofChange diskNumbersSpec)

/-- ITS FALSE NEIGHBOUR: 'it returns false'. Refute it at one input. -/
def diskNumbersWrong : ChangeSpec := { name := "diskNumbers", fn := fun _ => fun
  | [] => { results := [.lit (.bool false)], args := [] }
  | _ => none }
def DiskNumbersWrongFalsely : Prop := diskNumbersRow.holds Try.pinned (OpenSpec.ofChange diskNumbersWrong)

/-- 'conclavelaw4.DiskPlays': WHATEVER THE INPUT: true; the input reads as it did. -/
def diskPlaysSpec : ChangeSpec := { name := "diskPlays", fn := fun _ => fun
  | [d] => { results := [.lit (.bool true)], args := [d] }
  | _ => none }
def diskPlaysRow : OpenClaim := { program := "ytiefgnmekikckaa", sum := "c36ef63cf94f40ce1fdb2262986d4ddb6c93e6d9eca5559430cc58cde11fb019", func := "conclave/conclavelaw4.DiskPlays", spec := "diskPlays", apart := false }
def DiskPlaysSaid : Prop := diskPlaysRow.holds Try.pinned (OpenSpec.ofChange diskPlaysSpec)

/-- ITS FALSE NEIGHBOUR: 'it returns false'. Refute it at one input. -/
def diskPlaysWrong : ChangeSpec := { name := "diskPlays", fn := fun _ => fun
  | [d] => { results := [.lit (.bool false)], args := [d] }
  | _ => none }
def DiskPlaysWrongFalsely : Prop := diskPlaysRow.holds Try.pinned (OpenSpec.ofChange diskPlaysWrong)

/-- 'conclavelaw4.DiskRounds': WHATEVER THE INPUT: true; the input reads as it did. -/
def diskRoundsSpec : ChangeSpec := { name := "diskRounds", fn := fun _ => fun
  | [d1, d2] => { results := [.lit (.bool true)], args := [d1, d2] }
  | _ => none }
def diskRoundsRow : OpenClaim := { program := "ytiefgnmekikckaa", sum := "c36ef63cf94f40ce1fdb2262986d4ddb6c93e6d9eca5559430cc58cde11fb019", func := "conclave/conclavelaw4.DiskRounds", spec := "diskRounds", apart := false }
def DiskRoundsSaid : Prop := diskRoundsRow.holds Try.pinned (OpenSpec.ofChange diskRoundsSpec)

/-- ITS FALSE NEIGHBOUR: 'it returns false'. Refute it at one input. -/
def diskRoundsWrong : ChangeSpec := { name := "diskRounds", fn := fun _ => fun
  | [d1, d2] => { results := [.lit (.bool false)], args := [d1, d2] }
  | _ => none }
def DiskRoundsWrongFalsely : Prop := diskRoundsRow.holds Try.pinned (OpenSpec.ofChange diskRoundsWrong)

/-- 'conclavelaw21.HistClients': WHATEVER THE INPUT: true; the input reads as it did. -/
def histClientsSpec : ChangeSpec := { name := "histClients", fn := fun _ => fun
  | [d] => { results := [.lit (.bool true)], args := [d] }
  | _ => none }
def histClientsRow : OpenClaim := { program := "ytiefgnmekikckaa", sum := "c36ef63cf94f40ce1fdb2262986d4ddb6c93e6d9eca5559430cc58cde11fb019", func := "conclave/conclavelaw21.HistClients", spec := "histClients", apart := false }
def HistClientsSaid : Prop := histClientsRow.holds Try.pinned (OpenSpec.ofChange histClientsSpec)

/-- ITS FALSE NEIGHBOUR: 'it returns false'. Refute it at one input. -/
def histClientsWrong : ChangeSpec := { name := "histClients", fn := fun _ => fun
  | [d] => { results := [.lit (.bool false)], args := [d] }
  | _ => none }
def HistClientsWrongFalsely : Prop := histClientsRow.holds Try.pinned (OpenSpec.ofChange histClientsWrong)

/-- 'conclavelaw21.HistAlike': WHATEVER THE INPUT: true; the input reads as it did. -/
def histAlikeSpec : ChangeSpec := { name := "histAlike", fn := fun _ => fun
  | [d1, d2] => { results := [.lit (.bool true)], args := [d1, d2] }
  | _ => none }
def histAlikeRow : OpenClaim := { program := "ytiefgnmekikckaa", sum := "c36ef63cf94f40ce1fdb2262986d4ddb6c93e6d9eca5559430cc58cde11fb019", func := "conclave/conclavelaw21.HistAlike", spec := "histAlike", apart := false }
def HistAlikeSaid : Prop := histAlikeRow.holds Try.pinned (OpenSpec.ofChange histAlikeSpec)

/-- ITS FALSE NEIGHBOUR: 'it returns false'. Refute it at one input. -/
def histAlikeWrong : ChangeSpec := { name := "histAlike", fn := fun _ => fun
  | [d1, d2] => { results := [.lit (.bool false)], args := [d1, d2] }
  | _ => none }
def HistAlikeWrongFalsely : Prop := histAlikeRow.holds Try.pinned (OpenSpec.ofChange histAlikeWrong)

/-- 'conclavelaw2.SumLengths': WHATEVER THE INPUT: true; the input reads as it did. -/
def sumLengthsSpec : ChangeSpec := { name := "sumLengths", fn := fun _ => fun
  | [d] => { results := [.lit (.bool true)], args := [d] }
  | _ => none }
def sumLengthsRow : OpenClaim := { program := "ytiefgnmekikckaa", sum := "c36ef63cf94f40ce1fdb2262986d4ddb6c93e6d9eca5559430cc58cde11fb019", func := "conclave/conclavelaw2.SumLengths", spec := "sumLengths", apart := false }
def SumLengthsSaid : Prop := sumLengthsRow.holds Try.pinned (OpenSpec.ofChange sumLengthsSpec)

/-- ITS FALSE NEIGHBOUR: 'it returns false'. Refute it at one input. -/
def sumLengthsWrong : ChangeSpec := { name := "sumLengths", fn := fun _ => fun
  | [d] => { results := [.lit (.bool false)], args := [d] }
  | _ => none }
def SumLengthsWrongFalsely : Prop := sumLengthsRow.holds Try.pinned (OpenSpec.ofChange sumLengthsWrong)

/-- 'conclavelaw2.SumNumbers': WHATEVER THE INPUT: true; the input reads as it did. -/
def sumNumbersSpec : ChangeSpec := { name := "sumNumbers", fn := fun _ => fun
  | [] => { results := [.lit (.bool true)], args := [] }
  | _ => none }
def sumNumbersRow : OpenClaim := { program := "ytiefgnmekikckaa", sum := "c36ef63cf94f40ce1fdb2262986d4ddb6c93e6d9eca5559430cc58cde11fb019", func := "conclave/conclavelaw2.SumNumbers", spec := "sumNumbers", apart := false }
def SumNumbersSaid : Prop := sumNumbersRow.holds Try.pinned (OpenSpec.ofChange sumNumbersSpec)

/-- ITS FALSE NEIGHBOUR: 'it returns false'. Refute it at one input. -/
def sumNumbersWrong : ChangeSpec := { name := "sumNumbers", fn := fun _ => fun
  | [] => { results := [.lit (.bool false)], args := [] }
  | _ => none }
def SumNumbersWrongFalsely : Prop := sumNumbersRow.holds Try.pinned (OpenSpec.ofChange sumNumbersWrong)

/-- 'conclavelaw2.SumTells': WHATEVER THE INPUT: true; the input reads as it did. -/
def sumTellsSpec : ChangeSpec := { name := "sumTells", fn := fun _ => fun
  | [d] => { results := [.lit (.bool true)], args := [d] }
  | _ => none }
def sumTellsRow : OpenClaim := { program := "ytiefgnmekikckaa", sum := "c36ef63cf94f40ce1fdb2262986d4ddb6c93e6d9eca5559430cc58cde11fb019", func := "conclave/conclavelaw2.SumTells", spec := "sumTells", apart := false }
def SumTellsSaid : Prop := sumTellsRow.holds Try.pinned (OpenSpec.ofChange sumTellsSpec)

/-- ITS FALSE NEIGHBOUR: 'it returns false'. Refute it at one input. -/
def sumTellsWrong : ChangeSpec := { name := "sumTells", fn := fun _ => fun
  | [d] => { results := [.lit (.bool false)], args := [d] }
  | _ => none }
def SumTellsWrongFalsely : Prop := sumTellsRow.holds Try.pinned (OpenSpec.ofChange sumTellsWrong)

/- THE SECOND FORM. 'bulk': how many values and letters a reading holds, each counted each time it is reached (what is shared counts as often as it is met; a slice's spare places count too). A statement '..UptoSaid' is the law's where the arguments, and the package variables that the reading takes, are together of bulk at most 1048576: NARROWER than '..Said'. Prove '..Said' where nothing that the law and all that it calls make is longer than what came in: it says more and counts as full. Else prove '..UptoSaid'. A law counts once. -/
mutual
def uptoBulk {H : Type} : DataW H → Nat
  | .lit (.string bytes) => bytes.length + 1
  | .lit _ => 1
  | .nil => 1
  | .ptr d => uptoBulk d + 1
  | .slice elems spare => uptoBulkAll elems + uptoBulkAll spare + 1
  | .agg parts => uptoBulkAll parts + 1
  | .iface _ d => uptoBulk d + 1
  | .map entries => uptoBulkEntries entries + 1
  | .held _ => 1
def uptoBulkAll {H : Type} : List (DataW H) → Nat
  | [] => 0
  | d :: r => uptoBulk d + uptoBulkAll r
def uptoBulkEntries {H : Type} : List (Lit × DataW H) → Nat
  | [] => 0
  | x :: r => uptoBulkEntry x + uptoBulkEntries r
def uptoBulkEntry {H : Type} : Lit × DataW H → Nat
  | (.string bytes, d) => bytes.length + uptoBulk d + 1
  | (_, d) => uptoBulk d + 1
 end
def uptoSmall : (H : Type) → List (DataW H) → Bool := fun _ ds => decide (uptoBulkAll ds ≤ 1048576)
def OpenSpec.upto (s : _root_.Go.ChangeSpec) : _root_.Go.OpenSpec := { _root_.Go.OpenSpec.ofChange s with cond := some uptoSmall }

/-- 'conclavelaw2.SumTurns', WHERE WHAT IT READS IS OF BULK AT MOST 1048576: true; the input reads as it did. -/
def sumTurnsUptoRow : OpenClaim := { program := "ytiefgnmekikckaa", sum := "c36ef63cf94f40ce1fdb2262986d4ddb6c93e6d9eca5559430cc58cde11fb019", func := "conclave/conclavelaw2.SumTurns", spec := "sumTurns", apart := false, narrowed := true }
def SumTurnsUptoSaid : Prop := sumTurnsUptoRow.holds Try.pinned (OpenSpec.upto sumTurnsSpec)

/-- 'conclavelaw2.SumHash', WHERE WHAT IT READS IS OF BULK AT MOST 1048576: true; the input reads as it did. -/
def sumHashUptoRow : OpenClaim := { program := "ytiefgnmekikckaa", sum := "c36ef63cf94f40ce1fdb2262986d4ddb6c93e6d9eca5559430cc58cde11fb019", func := "conclave/conclavelaw2.SumHash", spec := "sumHash", apart := false, narrowed := true }
def SumHashUptoSaid : Prop := sumHashUptoRow.holds Try.pinned (OpenSpec.upto sumHashSpec)

/-- 'conclavelaw4.DiskSafe', WHERE WHAT IT READS IS OF BULK AT MOST 1048576: true; the input reads as it did. -/
def diskSafeUptoRow : OpenClaim := { program := "ytiefgnmekikckaa", sum := "c36ef63cf94f40ce1fdb2262986d4ddb6c93e6d9eca5559430cc58cde11fb019", func := "conclave/conclavelaw4.DiskSafe", spec := "diskSafe", apart := false, narrowed := true }
def DiskSafeUptoSaid : Prop := diskSafeUptoRow.holds Try.pinned (OpenSpec.upto diskSafeSpec)

/-- 'conclavelaw4.DiskKept', WHERE WHAT IT READS IS OF BULK AT MOST 1048576: true; the input reads as it did. -/
def diskKeptUptoRow : OpenClaim := { program := "ytiefgnmekikckaa", sum := "c36ef63cf94f40ce1fdb2262986d4ddb6c93e6d9eca5559430cc58cde11fb019", func := "conclave/conclavelaw4.DiskKept", spec := "diskKept", apart := false, narrowed := true }
def DiskKeptUptoSaid : Prop := diskKeptUptoRow.holds Try.pinned (OpenSpec.upto diskKeptSpec)

/-- 'conclavelaw4.DiskNumbers', WHERE WHAT IT READS IS OF BULK AT MOST 1048576: true; the input reads as it did. -/
def diskNumbersUptoRow : OpenClaim := { program := "ytiefgnmekikckaa", sum := "c36ef63cf94f40ce1fdb2262986d4ddb6c93e6d9eca5559430cc58cde11fb019", func := "conclave/conclavelaw4.DiskNumbers", spec := "diskNumbers", apart := false, narrowed := true }
def DiskNumbersUptoSaid : Prop := diskNumbersUptoRow.holds Try.pinned (OpenSpec.upto diskNumbersSpec)

/-- 'conclavelaw4.DiskPlays', WHERE WHAT IT READS IS OF BULK AT MOST 1048576: true; the input reads as it did. -/
def diskPlaysUptoRow : OpenClaim := { program := "ytiefgnmekikckaa", sum := "c36ef63cf94f40ce1fdb2262986d4ddb6c93e6d9eca5559430cc58cde11fb019", func := "conclave/conclavelaw4.DiskPlays", spec := "diskPlays", apart := false, narrowed := true }
def DiskPlaysUptoSaid : Prop := diskPlaysUptoRow.holds Try.pinned (OpenSpec.upto diskPlaysSpec)

/-- 'conclavelaw4.DiskRounds', WHERE WHAT IT READS IS OF BULK AT MOST 1048576: true; the input reads as it did. -/
def diskRoundsUptoRow : OpenClaim := { program := "ytiefgnmekikckaa", sum := "c36ef63cf94f40ce1fdb2262986d4ddb6c93e6d9eca5559430cc58cde11fb019", func := "conclave/conclavelaw4.DiskRounds", spec := "diskRounds", apart := false, narrowed := true }
def DiskRoundsUptoSaid : Prop := diskRoundsUptoRow.holds Try.pinned (OpenSpec.upto diskRoundsSpec)

/-- 'conclavelaw21.HistClients', WHERE WHAT IT READS IS OF BULK AT MOST 1048576: true; the input reads as it did. -/
def histClientsUptoRow : OpenClaim := { program := "ytiefgnmekikckaa", sum := "c36ef63cf94f40ce1fdb2262986d4ddb6c93e6d9eca5559430cc58cde11fb019", func := "conclave/conclavelaw21.HistClients", spec := "histClients", apart := false, narrowed := true }
def HistClientsUptoSaid : Prop := histClientsUptoRow.holds Try.pinned (OpenSpec.upto histClientsSpec)

/-- 'conclavelaw21.HistAlike', WHERE WHAT IT READS IS OF BULK AT MOST 1048576: true; the input reads as it did. -/
def histAlikeUptoRow : OpenClaim := { program := "ytiefgnmekikckaa", sum := "c36ef63cf94f40ce1fdb2262986d4ddb6c93e6d9eca5559430cc58cde11fb019", func := "conclave/conclavelaw21.HistAlike", spec := "histAlike", apart := false, narrowed := true }
def HistAlikeUptoSaid : Prop := histAlikeUptoRow.holds Try.pinned (OpenSpec.upto histAlikeSpec)

/-- 'conclavelaw2.SumLengths', WHERE WHAT IT READS IS OF BULK AT MOST 1048576: true; the input reads as it did. -/
def sumLengthsUptoRow : OpenClaim := { program := "ytiefgnmekikckaa", sum := "c36ef63cf94f40ce1fdb2262986d4ddb6c93e6d9eca5559430cc58cde11fb019", func := "conclave/conclavelaw2.SumLengths", spec := "sumLengths", apart := false, narrowed := true }
def SumLengthsUptoSaid : Prop := sumLengthsUptoRow.holds Try.pinned (OpenSpec.upto sumLengthsSpec)

/-- 'conclavelaw2.SumNumbers', WHERE WHAT IT READS IS OF BULK AT MOST 1048576: true; the input reads as it did. -/
def sumNumbersUptoRow : OpenClaim := { program := "ytiefgnmekikckaa", sum := "c36ef63cf94f40ce1fdb2262986d4ddb6c93e6d9eca5559430cc58cde11fb019", func := "conclave/conclavelaw2.SumNumbers", spec := "sumNumbers", apart := false, narrowed := true }
def SumNumbersUptoSaid : Prop := sumNumbersUptoRow.holds Try.pinned (OpenSpec.upto sumNumbersSpec)

/-- 'conclavelaw2.SumTells', WHERE WHAT IT READS IS OF BULK AT MOST 1048576: true; the input reads as it did. -/
def sumTellsUptoRow : OpenClaim := { program := "ytiefgnmekikckaa", sum := "c36ef63cf94f40ce1fdb2262986d4ddb6c93e6d9eca5559430cc58cde11fb019", func := "conclave/conclavelaw2.SumTells", spec := "sumTells", apart := false, narrowed := true }
def SumTellsUptoSaid : Prop := sumTellsUptoRow.holds Try.pinned (OpenSpec.upto sumTellsSpec)

end Rows
end Go.Proofs.Ytiefgnmekikckaa
