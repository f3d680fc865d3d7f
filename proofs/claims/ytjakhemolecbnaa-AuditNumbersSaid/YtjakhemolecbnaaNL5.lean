/-
  The texts NumPhi of this proof in one (what is used of them): what each proves is said at its head. No conditions beyond those that each theorem says.
-/
import Derived.Test.YtjakhemolecbnaaNL4

/-
  The properties of the runs that AuditNumbers lays out. Printed by mknum.py.
-/
section
set_option linter.unusedVariables false
set_option linter.unusedSimpArgs false
namespace Go.Proofs.Ytjakhemolecbnaa
open Go.RowKit
def phi8 : List (Value → World → Prop) := [PC, (PL 1), PR, PR, (PS 2), PC, (PL 1), PR, (PS 1), PC, (PL 1), PR, (PS 1), PC, (PL 1), PI, PR, (PS 1), PC, (PL 1), PR, PR, (PS 2), PC, PR, PR, PR, (PS 3), PC, (PL 2), PR, PR, (PS 2), PC, PR, PR, PR, (PS 3), PC, PR, PR, (PS 2), PC, (PL 3), PR, PR, PR, (PS 3), PC, (PL 1), PR, PR, PR, (PS 3), PC, (PL 1), PR, PR, (PS 2), PC, (PL 1), PR, PR, PR, (PS 3), PC, (PL 1), PR, (PS 1), PC, (PL 1), PR, PR, (PS 2), PC, PR, PR, (PS 2), PC, (PL 2), PR, PR, (PS 2), PC, (PL 1), PR, PR, (PS 2), PC, PR, PR, (PS 2), PC, (PL 2), P15, (fun v _ => v = .int .i64 15), (fun v _ => v = .int .i64 0)]
set_option maxRecDepth 100000 in
theorem phi8_mono {W W' : World} (hb : Below W.heap.size W W') (j : Nat) (u : Value) : nth phi8 j u W → nth phi8 j u W' := by
  match j with
  | 0 => exact fun h => PC.below h hb
  | 1 => exact fun h => PL.below h hb
  | 2 => exact fun h => PR.below h hb
  | 3 => exact fun h => PR.below h hb
  | 4 => exact fun h => PS.below h hb
  | 5 => exact fun h => PC.below h hb
  | 6 => exact fun h => PL.below h hb
  | 7 => exact fun h => PR.below h hb
  | 8 => exact fun h => PS.below h hb
  | 9 => exact fun h => PC.below h hb
  | 10 => exact fun h => PL.below h hb
  | 11 => exact fun h => PR.below h hb
  | 12 => exact fun h => PS.below h hb
  | 13 => exact fun h => PC.below h hb
  | 14 => exact fun h => PL.below h hb
  | 15 => exact fun h => PI.below h hb
  | 16 => exact fun h => PR.below h hb
  | 17 => exact fun h => PS.below h hb
  | 18 => exact fun h => PC.below h hb
  | 19 => exact fun h => PL.below h hb
  | 20 => exact fun h => PR.below h hb
  | 21 => exact fun h => PR.below h hb
  | 22 => exact fun h => PS.below h hb
  | 23 => exact fun h => PC.below h hb
  | 24 => exact fun h => PR.below h hb
  | 25 => exact fun h => PR.below h hb
  | 26 => exact fun h => PR.below h hb
  | 27 => exact fun h => PS.below h hb
  | 28 => exact fun h => PC.below h hb
  | 29 => exact fun h => PL.below h hb
  | 30 => exact fun h => PR.below h hb
  | 31 => exact fun h => PR.below h hb
  | 32 => exact fun h => PS.below h hb
  | 33 => exact fun h => PC.below h hb
  | 34 => exact fun h => PR.below h hb
  | 35 => exact fun h => PR.below h hb
  | 36 => exact fun h => PR.below h hb
  | 37 => exact fun h => PS.below h hb
  | 38 => exact fun h => PC.below h hb
  | 39 => exact fun h => PR.below h hb
  | 40 => exact fun h => PR.below h hb
  | 41 => exact fun h => PS.below h hb
  | 42 => exact fun h => PC.below h hb
  | 43 => exact fun h => PL.below h hb
  | 44 => exact fun h => PR.below h hb
  | 45 => exact fun h => PR.below h hb
  | 46 => exact fun h => PR.below h hb
  | 47 => exact fun h => PS.below h hb
  | 48 => exact fun h => PC.below h hb
  | 49 => exact fun h => PL.below h hb
  | 50 => exact fun h => PR.below h hb
  | 51 => exact fun h => PR.below h hb
  | 52 => exact fun h => PR.below h hb
  | 53 => exact fun h => PS.below h hb
  | 54 => exact fun h => PC.below h hb
  | 55 => exact fun h => PL.below h hb
  | 56 => exact fun h => PR.below h hb
  | 57 => exact fun h => PR.below h hb
  | 58 => exact fun h => PS.below h hb
  | 59 => exact fun h => PC.below h hb
  | 60 => exact fun h => PL.below h hb
  | 61 => exact fun h => PR.below h hb
  | 62 => exact fun h => PR.below h hb
  | 63 => exact fun h => PR.below h hb
  | 64 => exact fun h => PS.below h hb
  | 65 => exact fun h => PC.below h hb
  | 66 => exact fun h => PL.below h hb
  | 67 => exact fun h => PR.below h hb
  | 68 => exact fun h => PS.below h hb
  | 69 => exact fun h => PC.below h hb
  | 70 => exact fun h => PL.below h hb
  | 71 => exact fun h => PR.below h hb
  | 72 => exact fun h => PR.below h hb
  | 73 => exact fun h => PS.below h hb
  | 74 => exact fun h => PC.below h hb
  | 75 => exact fun h => PR.below h hb
  | 76 => exact fun h => PR.below h hb
  | 77 => exact fun h => PS.below h hb
  | 78 => exact fun h => PC.below h hb
  | 79 => exact fun h => PL.below h hb
  | 80 => exact fun h => PR.below h hb
  | 81 => exact fun h => PR.below h hb
  | 82 => exact fun h => PS.below h hb
  | 83 => exact fun h => PC.below h hb
  | 84 => exact fun h => PL.below h hb
  | 85 => exact fun h => PR.below h hb
  | 86 => exact fun h => PR.below h hb
  | 87 => exact fun h => PS.below h hb
  | 88 => exact fun h => PC.below h hb
  | 89 => exact fun h => PR.below h hb
  | 90 => exact fun h => PR.below h hb
  | 91 => exact fun h => PS.below h hb
  | 92 => exact fun h => PC.below h hb
  | 93 => exact fun h => PL.below h hb
  | 94 => exact fun h => P15.below h hb
  | 95 => exact fun h => h
  | 96 => exact fun h => h
  | _ + 97 => exact fun _ => trivial
end Go.Proofs.Ytjakhemolecbnaa
end
