/-
  Part 4 of what the proof stands on: lemmas and contracts, each with its conditions ahead of the colon.
-/
import Derived.Test.YtkapjlkeohjjbaaPk03
namespace Go.Proofs.Ytkapjlkeohjjbaa
set_option linter.unusedVariables false
set_option linter.unusedSimpArgs false
open Ieee

/-- From nothing to one by quarters, as words. -/
def tW (s : Nat) : Nat := (floatBits .mul .f64 4598175219545276416 (floatOfInt .f64 (s : Int))).getD 0
def qU : Nat := 1072
theorem qU_is : qU = 1072 := rfl
/-- What lies between two whole numbers, by quarters. -/
def linW (p r s : Nat) : Option Nat := match double.sub (floatOfInt .f64 (r : Int)) (floatOfInt .f64 (p : Int)) with
  | none => none
  | some d => match double.mul (tW s) d with
    | none => none
    | some e => double.add (floatOfInt .f64 (p : Int)) e
def linOk (p r s : Nat) : Bool := match linW p r s with
  | none => false
  | some b => match double.read b with
    | .number false m e => decide (-1074 ≤ e) && decide (((m * 2 ^ (e + 1074).toNat : Nat) : Int) = (4 * (p : Int) + (s : Int) * ((r : Int) - (p : Int))) * ((2 ^ qU : Nat) : Int))
    | _ => false
theorem lin_table : ((List.range 20).all fun p => (List.range 20).all fun r => (List.range 5).all fun s => linOk p r s) = true := by decide +kernel
end Go.Proofs.Ytkapjlkeohjjbaa
