/-
  No cell of these rows narrows 'for every input' (looked for: loops, veiled, ifaces, maps, wideKeys, modest, calm, conditions, laid).
  DERIVED. THE GIVEN ROWS OF THIS SEAT. 7 by the template 'for every input the law returns true; each argument reads behind the call as it read before'; 0 by the template 'total and deterministic' (their statements: YticpbpahccmldaaTotals.lean).
  GIVEN WITH THE SEED: the statements are not yours to turn. If you find one false, say at which input.
  Laid BY PROGRAM, IN A SANDBOX (cutbox-rows.mjs): the forced cells as the released guide's own fill.sh prints them over the translation 06e797dfd96827a8… (all of the seat's roots in one cut). By AI agents, Wed Nov 11 2026. No macro, syntax, notation, axiom, sorry.
-/
import Derived.Test.YticpbpahccmldaaChecked
import GoSem.Claim
import GoSem.ClaimJoined
import GoSem.ClaimMapViews
import Derived.JoinedTies
import Derived.KernelRfl
namespace Go.Proofs.Yticpbpahccmldaa
/- THE CELL 'sum', in the pinned program and in every row, IS THE sha256 OF THE DUMP (.gsa) THAT YticpbpahccmldaaProg.lean LOADS. Nothing in Lean hashes anything: it is a label: what it is worth is what the hold of that sum in a sandbox is worth. -/
noncomputable def Try.pinned : Pinned := { name := "yticpbpahccmldaa", sum := "06e797dfd96827a8ff83cd6240e0148d67267d98a025c6f31d5884b7c7970fba", checked := Try.checked }
namespace Rows
def none {H : Type} : Left H := { results := [], args := [] }

/-- 'downhaullaw18.DrawStands': WHATEVER THE INPUT: true; the input reads as it did. -/
def drawStandsSpec : ChangeSpec := { name := "drawStands", fn := fun _ => fun
  | [d1, d2] => { results := [.lit (.bool true)], args := [d1, d2] }
  | _ => none }
def drawStandsRow : OpenClaim := { program := "yticpbpahccmldaa", sum := "06e797dfd96827a8ff83cd6240e0148d67267d98a025c6f31d5884b7c7970fba", func := "downhaul/downhaullaw18.DrawStands", spec := "drawStands", inPlace := ["math.Float64bits", "math.archMin", "math.Float64frombits"], apart := false }
def DrawStandsSaid : Prop := drawStandsRow.holds Try.pinned (OpenSpec.ofChange drawStandsSpec)

/-- ITS FALSE NEIGHBOUR: 'it returns false'. Refute it at one input. -/
def drawStandsWrong : ChangeSpec := { name := "drawStands", fn := fun _ => fun
  | [d1, d2] => { results := [.lit (.bool false)], args := [d1, d2] }
  | _ => none }
def DrawStandsWrongFalsely : Prop := drawStandsRow.holds Try.pinned (OpenSpec.ofChange drawStandsWrong)

/-- 'downhaullaw18.DrawPicks': WHATEVER THE INPUT: true; the input reads as it did. -/
def drawPicksSpec : ChangeSpec := { name := "drawPicks", fn := fun _ => fun
  | [d1, d2] => { results := [.lit (.bool true)], args := [d1, d2] }
  | _ => none }
def drawPicksRow : OpenClaim := { program := "yticpbpahccmldaa", sum := "06e797dfd96827a8ff83cd6240e0148d67267d98a025c6f31d5884b7c7970fba", func := "downhaul/downhaullaw18.DrawPicks", spec := "drawPicks", inPlace := ["math.Float64frombits", "math.Float64bits", "math.archMin"], apart := false }
def DrawPicksSaid : Prop := drawPicksRow.holds Try.pinned (OpenSpec.ofChange drawPicksSpec)

/-- ITS FALSE NEIGHBOUR: 'it returns false'. Refute it at one input. -/
def drawPicksWrong : ChangeSpec := { name := "drawPicks", fn := fun _ => fun
  | [d1, d2] => { results := [.lit (.bool false)], args := [d1, d2] }
  | _ => none }
def DrawPicksWrongFalsely : Prop := drawPicksRow.holds Try.pinned (OpenSpec.ofChange drawPicksWrong)

/-- 'downhaullaw18.DrawDelays': WHATEVER THE INPUT: true; the input reads as it did. -/
def drawDelaysSpec : ChangeSpec := { name := "drawDelays", fn := fun _ => fun
  | [d1, d2, d3] => { results := [.lit (.bool true)], args := [d1, d2, d3] }
  | _ => none }
def drawDelaysRow : OpenClaim := { program := "yticpbpahccmldaa", sum := "06e797dfd96827a8ff83cd6240e0148d67267d98a025c6f31d5884b7c7970fba", func := "downhaul/downhaullaw18.DrawDelays", spec := "drawDelays", inPlace := ["math.Float64frombits", "math.Float64bits", "math.archMin"], apart := false }
def DrawDelaysSaid : Prop := drawDelaysRow.holds Try.pinned (OpenSpec.ofChange drawDelaysSpec)

/-- ITS FALSE NEIGHBOUR: 'it returns false'. Refute it at one input. -/
def drawDelaysWrong : ChangeSpec := { name := "drawDelays", fn := fun _ => fun
  | [d1, d2, d3] => { results := [.lit (.bool false)], args := [d1, d2, d3] }
  | _ => none }
def DrawDelaysWrongFalsely : Prop := drawDelaysRow.holds Try.pinned (OpenSpec.ofChange drawDelaysWrong)

/-- 'downhaullaw18.DrawSure': WHATEVER THE INPUT: true; the input reads as it did. -/
def drawSureSpec : ChangeSpec := { name := "drawSure", fn := fun _ => fun
  | [d1, d2, d3] => { results := [.lit (.bool true)], args := [d1, d2, d3] }
  | _ => none }
def drawSureRow : OpenClaim := { program := "yticpbpahccmldaa", sum := "06e797dfd96827a8ff83cd6240e0148d67267d98a025c6f31d5884b7c7970fba", func := "downhaul/downhaullaw18.DrawSure", spec := "drawSure", inPlace := ["math.Float64bits", "math.archMin", "math.Float64frombits"], apart := false }
def DrawSureSaid : Prop := drawSureRow.holds Try.pinned (OpenSpec.ofChange drawSureSpec)

/-- ITS FALSE NEIGHBOUR: 'it returns false'. Refute it at one input. -/
def drawSureWrong : ChangeSpec := { name := "drawSure", fn := fun _ => fun
  | [d1, d2, d3] => { results := [.lit (.bool false)], args := [d1, d2, d3] }
  | _ => none }
def DrawSureWrongFalsely : Prop := drawSureRow.holds Try.pinned (OpenSpec.ofChange drawSureWrong)

/-- 'downhaullaw18.DrawPicked': WHATEVER THE INPUT: true; the input reads as it did. -/
def drawPickedSpec : ChangeSpec := { name := "drawPicked", fn := fun _ => fun
  | [d1, d2] => { results := [.lit (.bool true)], args := [d1, d2] }
  | _ => none }
def drawPickedRow : OpenClaim := { program := "yticpbpahccmldaa", sum := "06e797dfd96827a8ff83cd6240e0148d67267d98a025c6f31d5884b7c7970fba", func := "downhaul/downhaullaw18.DrawPicked", spec := "drawPicked", inPlace := ["math.Float64frombits", "math.Float64bits", "math.archMin"], apart := false }
def DrawPickedSaid : Prop := drawPickedRow.holds Try.pinned (OpenSpec.ofChange drawPickedSpec)

/-- ITS FALSE NEIGHBOUR: 'it returns false'. Refute it at one input. -/
def drawPickedWrong : ChangeSpec := { name := "drawPicked", fn := fun _ => fun
  | [d1, d2] => { results := [.lit (.bool false)], args := [d1, d2] }
  | _ => none }
def DrawPickedWrongFalsely : Prop := drawPickedRow.holds Try.pinned (OpenSpec.ofChange drawPickedWrong)

/-- 'downhaullaw18.DrawHits': WHATEVER THE INPUT: true; the input reads as it did. -/
def drawHitsSpec : ChangeSpec := { name := "drawHits", fn := fun _ => fun
  | [d1, d2, d3] => { results := [.lit (.bool true)], args := [d1, d2, d3] }
  | _ => none }
def drawHitsRow : OpenClaim := { program := "yticpbpahccmldaa", sum := "06e797dfd96827a8ff83cd6240e0148d67267d98a025c6f31d5884b7c7970fba", func := "downhaul/downhaullaw18.DrawHits", spec := "drawHits", inPlace := ["math.Float64bits", "math.archMin", "math.Float64frombits"], apart := false }
def DrawHitsSaid : Prop := drawHitsRow.holds Try.pinned (OpenSpec.ofChange drawHitsSpec)

/-- ITS FALSE NEIGHBOUR: 'it returns false'. Refute it at one input. -/
def drawHitsWrong : ChangeSpec := { name := "drawHits", fn := fun _ => fun
  | [d1, d2, d3] => { results := [.lit (.bool false)], args := [d1, d2, d3] }
  | _ => none }
def DrawHitsWrongFalsely : Prop := drawHitsRow.holds Try.pinned (OpenSpec.ofChange drawHitsWrong)

/-- 'downhaullaw18.DrawBounds': WHATEVER THE INPUT: true; the input reads as it did. -/
def drawBoundsSpec : ChangeSpec := { name := "drawBounds", fn := fun _ => fun
  | [d1, d2, d3] => { results := [.lit (.bool true)], args := [d1, d2, d3] }
  | _ => none }
def drawBoundsRow : OpenClaim := { program := "yticpbpahccmldaa", sum := "06e797dfd96827a8ff83cd6240e0148d67267d98a025c6f31d5884b7c7970fba", func := "downhaul/downhaullaw18.DrawBounds", spec := "drawBounds", inPlace := ["math.Float64frombits", "math.Float64bits", "math.archMin"], apart := false }
def DrawBoundsSaid : Prop := drawBoundsRow.holds Try.pinned (OpenSpec.ofChange drawBoundsSpec)

/-- ITS FALSE NEIGHBOUR: 'it returns false'. Refute it at one input. -/
def drawBoundsWrong : ChangeSpec := { name := "drawBounds", fn := fun _ => fun
  | [d1, d2, d3] => { results := [.lit (.bool false)], args := [d1, d2, d3] }
  | _ => none }
def DrawBoundsWrongFalsely : Prop := drawBoundsRow.holds Try.pinned (OpenSpec.ofChange drawBoundsWrong)

/- THE SECOND FORM. 'bulk': how many values and letters a reading holds, each counted each time it is reached (what is shared counts as often as it is met; a slice's spare places count too). A statement '..UptoSaid' is the law's where the arguments, and the package variables that the reading takes, are together of bulk at most 1048576: NARROWER than '..Said'. Prove '..Said' where nothing that the law and all that it calls make is longer than what came in: it says more and counts as full. Else prove '..UptoSaid'. A law counts once. -/
mutual
def uptoBulk {H : Type} : DataW H → Nat
  | .lit (.string bytes) => bytes.length + 1
  | .lit _ => 1
  | .nil => 1
  | .ptr d => uptoBulk d + 1
  | .slice elems spare => uptoBulkAll elems + uptoBulkAll spare + 1
  | .agg parts => uptoBulkAll parts + 1
  | .iface _ d => uptoBulk d + 1
  | .map entries => uptoBulkEntries entries + 1
  | .held _ => 1
def uptoBulkAll {H : Type} : List (DataW H) → Nat
  | [] => 0
  | d :: r => uptoBulk d + uptoBulkAll r
def uptoBulkEntries {H : Type} : List (Lit × DataW H) → Nat
  | [] => 0
  | x :: r => uptoBulkEntry x + uptoBulkEntries r
def uptoBulkEntry {H : Type} : Lit × DataW H → Nat
  | (.string bytes, d) => bytes.length + uptoBulk d + 1
  | (_, d) => uptoBulk d + 1
 end
def uptoSmall : (H : Type) → List (DataW H) → Bool := fun _ ds => decide (uptoBulkAll ds ≤ 1048576)
def OpenSpec.upto (s : _root_.Go.ChangeSpec) : _root_.Go.OpenSpec := { _root_.Go.OpenSpec.ofChange s with cond := some uptoSmall }

/-- 'downhaullaw18.DrawStands', WHERE WHAT IT READS IS OF BULK AT MOST 1048576: true; the input reads as it did. -/
def drawStandsUptoRow : OpenClaim := { program := "yticpbpahccmldaa", sum := "06e797dfd96827a8ff83cd6240e0148d67267d98a025c6f31d5884b7c7970fba", func := "downhaul/downhaullaw18.DrawStands", spec := "drawStands", inPlace := ["math.Float64bits", "math.archMin", "math.Float64frombits"], apart := false, narrowed := true }
def DrawStandsUptoSaid : Prop := drawStandsUptoRow.holds Try.pinned (OpenSpec.upto drawStandsSpec)

/-- 'downhaullaw18.DrawPicks', WHERE WHAT IT READS IS OF BULK AT MOST 1048576: true; the input reads as it did. -/
def drawPicksUptoRow : OpenClaim := { program := "yticpbpahccmldaa", sum := "06e797dfd96827a8ff83cd6240e0148d67267d98a025c6f31d5884b7c7970fba", func := "downhaul/downhaullaw18.DrawPicks", spec := "drawPicks", inPlace := ["math.Float64frombits", "math.Float64bits", "math.archMin"], apart := false, narrowed := true }
def DrawPicksUptoSaid : Prop := drawPicksUptoRow.holds Try.pinned (OpenSpec.upto drawPicksSpec)

/-- 'downhaullaw18.DrawDelays', WHERE WHAT IT READS IS OF BULK AT MOST 1048576: true; the input reads as it did. -/
def drawDelaysUptoRow : OpenClaim := { program := "yticpbpahccmldaa", sum := "06e797dfd96827a8ff83cd6240e0148d67267d98a025c6f31d5884b7c7970fba", func := "downhaul/downhaullaw18.DrawDelays", spec := "drawDelays", inPlace := ["math.Float64frombits", "math.Float64bits", "math.archMin"], apart := false, narrowed := true }
def DrawDelaysUptoSaid : Prop := drawDelaysUptoRow.holds Try.pinned (OpenSpec.upto drawDelaysSpec)

/-- 'downhaullaw18.DrawSure', WHERE WHAT IT READS IS OF BULK AT MOST 1048576: true; the input reads as it did. -/
def drawSureUptoRow : OpenClaim := { program := "yticpbpahccmldaa", sum := "06e797dfd96827a8ff83cd6240e0148d67267d98a025c6f31d5884b7c7970fba", func := "downhaul/downhaullaw18.DrawSure", spec := "drawSure", inPlace := ["math.Float64bits", "math.archMin", "math.Float64frombits"], apart := false, narrowed := true }
def DrawSureUptoSaid : Prop := drawSureUptoRow.holds Try.pinned (OpenSpec.upto drawSureSpec)

/-- 'downhaullaw18.DrawPicked', WHERE WHAT IT READS IS OF BULK AT MOST 1048576: true; the input reads as it did. -/
def drawPickedUptoRow : OpenClaim := { program := "yticpbpahccmldaa", sum := "06e797dfd96827a8ff83cd6240e0148d67267d98a025c6f31d5884b7c7970fba", func := "downhaul/downhaullaw18.DrawPicked", spec := "drawPicked", inPlace := ["math.Float64frombits", "math.Float64bits", "math.archMin"], apart := false, narrowed := true }
def DrawPickedUptoSaid : Prop := drawPickedUptoRow.holds Try.pinned (OpenSpec.upto drawPickedSpec)

/-- 'downhaullaw18.DrawHits', WHERE WHAT IT READS IS OF BULK AT MOST 1048576: true; the input reads as it did. -/
def drawHitsUptoRow : OpenClaim := { program := "yticpbpahccmldaa", sum := "06e797dfd96827a8ff83cd6240e0148d67267d98a025c6f31d5884b7c7970fba", func := "downhaul/downhaullaw18.DrawHits", spec := "drawHits", inPlace := ["math.Float64bits", "math.archMin", "math.Float64frombits"], apart := false, narrowed := true }
def DrawHitsUptoSaid : Prop := drawHitsUptoRow.holds Try.pinned (OpenSpec.upto drawHitsSpec)

/-- 'downhaullaw18.DrawBounds', WHERE WHAT IT READS IS OF BULK AT MOST 1048576: true; the input reads as it did. -/
def drawBoundsUptoRow : OpenClaim := { program := "yticpbpahccmldaa", sum := "06e797dfd96827a8ff83cd6240e0148d67267d98a025c6f31d5884b7c7970fba", func := "downhaul/downhaullaw18.DrawBounds", spec := "drawBounds", inPlace := ["math.Float64frombits", "math.Float64bits", "math.archMin"], apart := false, narrowed := true }
def DrawBoundsUptoSaid : Prop := drawBoundsUptoRow.holds Try.pinned (OpenSpec.upto drawBoundsSpec)

end Rows
end Go.Proofs.Yticpbpahccmldaa
