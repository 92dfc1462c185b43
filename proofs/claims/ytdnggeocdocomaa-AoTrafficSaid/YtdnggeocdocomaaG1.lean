/- Walks of functions, each by evaluation: what each returns; with the layer beneath. -/
import Derived.ProofKit
import Derived.JoinedOf
set_option linter.unusedVariables false
set_option linter.unusedSimpArgs false
namespace DH
open Go

/-! The words of a program's head, told once: what hangs on them is then reckoned from the words. -/

abbrev headWords (P : Program) : List (List Char) := behindMainWord (wordsSigns P.initOrder.toList)

def mayG (P : Program) (ws : List (List Char)) : {b : Bool // headWords P = ws → P.mayEnter = b} := by
  refine ⟨?b, fun h => ?g⟩
  case g =>
    unfold headWords at h
    unfold Program.mayEnter
    rw [h]

def makeG (P : Program) (ws : List (List Char)) : {b : Option Make // headWords P = ws → P.make = b} := by
  refine ⟨?b, fun h => ?g⟩
  case g =>
    unfold headWords at h
    unfold Program.make Program.headLifts
    rw [h]

def liftsG (P : Program) (ws : List (List Char)) : {b : Bool // headWords P = ws → P.liftsFinal = b} := by
  refine ⟨?b, fun h => ?g⟩
  case g =>
    unfold headWords at h
    unfold Program.liftsFinal Program.headLifts
    rw [h]

theorem may_of {P : Program} {ws : List (List Char)} {b : Bool} (h : headWords P = ws) (k : (mayG P ws).1 = b) : P.mayEnter = b := ((mayG P ws).2 h).trans k
theorem make_of {P : Program} {ws : List (List Char)} {b : Option Make} (h : headWords P = ws) (k : (makeG P ws).1 = b) : P.make = b := ((makeG P ws).2 h).trans k
theorem lifts_of {P : Program} {ws : List (List Char)} {b : Bool} (h : headWords P = ws) (k : (liftsG P ws).1 = b) : P.liftsFinal = b := ((liftsG P ws).2 h).trans k

theorem headWords_of {P : Program} {l : List Char} {v ws : List (List Char)} (h : P.initOrder = String.ofList l) (h1 : wordsSigns l = v) (h2 : behindMainWord v = ws) : headWords P = ws := by
  unfold headWords
  rw [h, String.toList_ofList, h1, h2]

def factsG (P : Program) (f : FuncId) (fn : Func) (s : ChangeSpec) (c : OpenClaim) : {b : Bool // P.mayEnter = true → P.liftsFinal = false → P.make = some .cut → joinedFacts P f fn s c = b} := by
  refine ⟨?b, fun h1 h2 h3 => ?g⟩
  case g =>
    unfold joinedFacts
    rw [h1, h2, h3]

theorem facts_of {P : Program} {f : FuncId} {fn : Func} {s : ChangeSpec} {c : OpenClaim} (h1 : P.mayEnter = true) (h2 : P.liftsFinal = false) (h3 : P.make = some .cut) (k : (factsG P f fn s c).1 = true) : joinedFacts P f fn s c = true :=
  ((factsG P f fn s c).2 h1 h2 h3).trans k
end DH
