/-
  No cell of these rows narrows 'for every input' (looked for: loops, veiled, ifaces, maps, wideKeys, modest, calm, conditions, laid).
  DERIVED. THE GIVEN ROWS OF THIS SEAT. 13 by the template 'for every input the law returns true; each argument reads behind the call as it read before'; 0 by the template 'total and deterministic' (their statements: YtfkiagnehomefaaTotals.lean).
  GIVEN WITH THE SEED: the statements are not yours to turn. If you find one false, say at which input.
  Laid BY PROGRAM, IN A SANDBOX (cutbox-rows.mjs): the forced cells as the released guide's own fill.sh prints them over the translation 19949de1f4bce02d… (all of the seat's roots in one cut). By AI agents, Wed Nov 11 2026. No macro, syntax, notation, axiom, sorry.
-/
import Derived.Test.YtfkiagnehomefaaChecked
import GoSem.Claim
import GoSem.ClaimJoined
import GoSem.ClaimMapViews
import Derived.JoinedTies
import Derived.KernelRfl
namespace Go.Proofs.Ytfkiagnehomefaa
/- THE CELL 'sum', in the pinned program and in every row, IS THE sha256 OF THE DUMP (.gsa) THAT YtfkiagnehomefaaProg.lean LOADS. Nothing in Lean hashes anything: it is a label: what it is worth is what the hold of that sum in a sandbox is worth. -/
noncomputable def Try.pinned : Pinned := { name := "ytfkiagnehomefaa", sum := "19949de1f4bce02d3b117f56a1ff3fbfa4375f91fd548081d297498f6aac457f", checked := Try.checked }
namespace Rows
def none {H : Type} : Left H := { results := [], args := [] }

/-- 'downhaullaw22.RtoSmooth': WHATEVER THE INPUT: true; the input reads as it did. -/
def rtoSmoothSpec : ChangeSpec := { name := "rtoSmooth", fn := fun _ => fun
  | [d1, d2] => { results := [.lit (.bool true)], args := [d1, d2] }
  | _ => none }
def rtoSmoothRow : OpenClaim := { program := "ytfkiagnehomefaa", sum := "19949de1f4bce02d3b117f56a1ff3fbfa4375f91fd548081d297498f6aac457f", func := "downhaul/downhaullaw22.RtoSmooth", spec := "rtoSmooth", apart := false }
def RtoSmoothSaid : Prop := rtoSmoothRow.holds Try.pinned (OpenSpec.ofChange rtoSmoothSpec)

/-- ITS FALSE NEIGHBOUR: 'it returns false'. Refute it at one input. -/
def rtoSmoothWrong : ChangeSpec := { name := "rtoSmooth", fn := fun _ => fun
  | [d1, d2] => { results := [.lit (.bool false)], args := [d1, d2] }
  | _ => none }
def RtoSmoothWrongFalsely : Prop := rtoSmoothRow.holds Try.pinned (OpenSpec.ofChange rtoSmoothWrong)

/-- 'downhaullaw22.RtoPlays': WHATEVER THE INPUT: true; the input reads as it did. -/
def rtoPlaysSpec : ChangeSpec := { name := "rtoPlays", fn := fun _ => fun
  | [d] => { results := [.lit (.bool true)], args := [d] }
  | _ => none }
def rtoPlaysRow : OpenClaim := { program := "ytfkiagnehomefaa", sum := "19949de1f4bce02d3b117f56a1ff3fbfa4375f91fd548081d297498f6aac457f", func := "downhaul/downhaullaw22.RtoPlays", spec := "rtoPlays", apart := false }
def RtoPlaysSaid : Prop := rtoPlaysRow.holds Try.pinned (OpenSpec.ofChange rtoPlaysSpec)

/-- ITS FALSE NEIGHBOUR: 'it returns false'. Refute it at one input. -/
def rtoPlaysWrong : ChangeSpec := { name := "rtoPlays", fn := fun _ => fun
  | [d] => { results := [.lit (.bool false)], args := [d] }
  | _ => none }
def RtoPlaysWrongFalsely : Prop := rtoPlaysRow.holds Try.pinned (OpenSpec.ofChange rtoPlaysWrong)

/-- 'downhaullaw22.RtoBounds': WHATEVER THE INPUT: true; the input reads as it did. -/
def rtoBoundsSpec : ChangeSpec := { name := "rtoBounds", fn := fun _ => fun
  | [d] => { results := [.lit (.bool true)], args := [d] }
  | _ => none }
def rtoBoundsRow : OpenClaim := { program := "ytfkiagnehomefaa", sum := "19949de1f4bce02d3b117f56a1ff3fbfa4375f91fd548081d297498f6aac457f", func := "downhaul/downhaullaw22.RtoBounds", spec := "rtoBounds", apart := false }
def RtoBoundsSaid : Prop := rtoBoundsRow.holds Try.pinned (OpenSpec.ofChange rtoBoundsSpec)

/-- ITS FALSE NEIGHBOUR: 'it returns false'. Refute it at one input. -/
def rtoBoundsWrong : ChangeSpec := { name := "rtoBounds", fn := fun _ => fun
  | [d] => { results := [.lit (.bool false)], args := [d] }
  | _ => none }
def RtoBoundsWrongFalsely : Prop := rtoBoundsRow.holds Try.pinned (OpenSpec.ofChange rtoBoundsWrong)

/-- 'downhaullaw01.RingDiffs': WHATEVER THE INPUT: true; the input reads as it did. -/
def ringDiffsSpec : ChangeSpec := { name := "ringDiffs", fn := fun _ => fun
  | [d1, d2, d3] => { results := [.lit (.bool true)], args := [d1, d2, d3] }
  | _ => none }
def ringDiffsRow : OpenClaim := { program := "ytfkiagnehomefaa", sum := "19949de1f4bce02d3b117f56a1ff3fbfa4375f91fd548081d297498f6aac457f", func := "downhaul/downhaullaw01.RingDiffs", spec := "ringDiffs", apart := false }
def RingDiffsSaid : Prop := ringDiffsRow.holds Try.pinned (OpenSpec.ofChange ringDiffsSpec)

/-- ITS FALSE NEIGHBOUR: 'it returns false'. Refute it at one input. -/
def ringDiffsWrong : ChangeSpec := { name := "ringDiffs", fn := fun _ => fun
  | [d1, d2, d3] => { results := [.lit (.bool false)], args := [d1, d2, d3] }
  | _ => none }
def RingDiffsWrongFalsely : Prop := ringDiffsRow.holds Try.pinned (OpenSpec.ofChange ringDiffsWrong)

/-- 'downhaullaw01.RingLongs': WHATEVER THE INPUT: true; the input reads as it did. -/
def ringLongsSpec : ChangeSpec := { name := "ringLongs", fn := fun _ => fun
  | [d1, d2] => { results := [.lit (.bool true)], args := [d1, d2] }
  | _ => none }
def ringLongsRow : OpenClaim := { program := "ytfkiagnehomefaa", sum := "19949de1f4bce02d3b117f56a1ff3fbfa4375f91fd548081d297498f6aac457f", func := "downhaul/downhaullaw01.RingLongs", spec := "ringLongs", apart := false }
def RingLongsSaid : Prop := ringLongsRow.holds Try.pinned (OpenSpec.ofChange ringLongsSpec)

/-- ITS FALSE NEIGHBOUR: 'it returns false'. Refute it at one input. -/
def ringLongsWrong : ChangeSpec := { name := "ringLongs", fn := fun _ => fun
  | [d1, d2] => { results := [.lit (.bool false)], args := [d1, d2] }
  | _ => none }
def RingLongsWrongFalsely : Prop := ringLongsRow.holds Try.pinned (OpenSpec.ofChange ringLongsWrong)

/-- 'downhaullaw01.RingAccepts': WHATEVER THE INPUT: true; the input reads as it did. -/
def ringAcceptsSpec : ChangeSpec := { name := "ringAccepts", fn := fun _ => fun
  | [d1, d2, d3] => { results := [.lit (.bool true)], args := [d1, d2, d3] }
  | _ => none }
def ringAcceptsRow : OpenClaim := { program := "ytfkiagnehomefaa", sum := "19949de1f4bce02d3b117f56a1ff3fbfa4375f91fd548081d297498f6aac457f", func := "downhaul/downhaullaw01.RingAccepts", spec := "ringAccepts", apart := false }
def RingAcceptsSaid : Prop := ringAcceptsRow.holds Try.pinned (OpenSpec.ofChange ringAcceptsSpec)

/-- ITS FALSE NEIGHBOUR: 'it returns false'. Refute it at one input. -/
def ringAcceptsWrong : ChangeSpec := { name := "ringAccepts", fn := fun _ => fun
  | [d1, d2, d3] => { results := [.lit (.bool false)], args := [d1, d2, d3] }
  | _ => none }
def RingAcceptsWrongFalsely : Prop := ringAcceptsRow.holds Try.pinned (OpenSpec.ofChange ringAcceptsWrong)

/-- 'downhaullaw01.RingOrder': WHATEVER THE INPUT: true; the input reads as it did. -/
def ringOrderSpec : ChangeSpec := { name := "ringOrder", fn := fun _ => fun
  | [d1, d2] => { results := [.lit (.bool true)], args := [d1, d2] }
  | _ => none }
def ringOrderRow : OpenClaim := { program := "ytfkiagnehomefaa", sum := "19949de1f4bce02d3b117f56a1ff3fbfa4375f91fd548081d297498f6aac457f", func := "downhaul/downhaullaw01.RingOrder", spec := "ringOrder", apart := false }
def RingOrderSaid : Prop := ringOrderRow.holds Try.pinned (OpenSpec.ofChange ringOrderSpec)

/-- ITS FALSE NEIGHBOUR: 'it returns false'. Refute it at one input. -/
def ringOrderWrong : ChangeSpec := { name := "ringOrder", fn := fun _ => fun
  | [d1, d2] => { results := [.lit (.bool false)], args := [d1, d2] }
  | _ => none }
def RingOrderWrongFalsely : Prop := ringOrderRow.holds Try.pinned (OpenSpec.ofChange ringOrderWrong)

/-- 'downhaullaw01.RingBack': WHATEVER THE INPUT: true; the input reads as it did. -/
def ringBackSpec : ChangeSpec := { name := "ringBack", fn := fun _ => fun
  | [d1, d2] => { results := [.lit (.bool true)], args := [d1, d2] }
  | _ => none }
def ringBackRow : OpenClaim := { program := "ytfkiagnehomefaa", sum := "19949de1f4bce02d3b117f56a1ff3fbfa4375f91fd548081d297498f6aac457f", func := "downhaul/downhaullaw01.RingBack", spec := "ringBack", apart := false }
def RingBackSaid : Prop := ringBackRow.holds Try.pinned (OpenSpec.ofChange ringBackSpec)

/-- ITS FALSE NEIGHBOUR: 'it returns false'. Refute it at one input. -/
def ringBackWrong : ChangeSpec := { name := "ringBack", fn := fun _ => fun
  | [d1, d2] => { results := [.lit (.bool false)], args := [d1, d2] }
  | _ => none }
def RingBackWrongFalsely : Prop := ringBackRow.holds Try.pinned (OpenSpec.ofChange ringBackWrong)

/-- 'downhaullaw21.SnePlays': WHATEVER THE INPUT: true; the input reads as it did. -/
def snePlaysSpec : ChangeSpec := { name := "snePlays", fn := fun _ => fun
  | [d1, d2, d3] => { results := [.lit (.bool true)], args := [d1, d2, d3] }
  | _ => none }
def snePlaysRow : OpenClaim := { program := "ytfkiagnehomefaa", sum := "19949de1f4bce02d3b117f56a1ff3fbfa4375f91fd548081d297498f6aac457f", func := "downhaul/downhaullaw21.SnePlays", spec := "snePlays", apart := false }
def SnePlaysSaid : Prop := snePlaysRow.holds Try.pinned (OpenSpec.ofChange snePlaysSpec)

/-- ITS FALSE NEIGHBOUR: 'it returns false'. Refute it at one input. -/
def snePlaysWrong : ChangeSpec := { name := "snePlays", fn := fun _ => fun
  | [d1, d2, d3] => { results := [.lit (.bool false)], args := [d1, d2, d3] }
  | _ => none }
def SnePlaysWrongFalsely : Prop := snePlaysRow.holds Try.pinned (OpenSpec.ofChange snePlaysWrong)

/-- 'downhaullaw21.SneRound': WHATEVER THE INPUT: true; the input reads as it did. -/
def sneRoundSpec : ChangeSpec := { name := "sneRound", fn := fun _ => fun
  | [d1, d2] => { results := [.lit (.bool true)], args := [d1, d2] }
  | _ => none }
def sneRoundRow : OpenClaim := { program := "ytfkiagnehomefaa", sum := "19949de1f4bce02d3b117f56a1ff3fbfa4375f91fd548081d297498f6aac457f", func := "downhaul/downhaullaw21.SneRound", spec := "sneRound", apart := false }
def SneRoundSaid : Prop := sneRoundRow.holds Try.pinned (OpenSpec.ofChange sneRoundSpec)

/-- ITS FALSE NEIGHBOUR: 'it returns false'. Refute it at one input. -/
def sneRoundWrong : ChangeSpec := { name := "sneRound", fn := fun _ => fun
  | [d1, d2] => { results := [.lit (.bool false)], args := [d1, d2] }
  | _ => none }
def SneRoundWrongFalsely : Prop := sneRoundRow.holds Try.pinned (OpenSpec.ofChange sneRoundWrong)

/-- 'downhaullaw21.SneRises': WHATEVER THE INPUT: true; the input reads as it did. -/
def sneRisesSpec : ChangeSpec := { name := "sneRises", fn := fun _ => fun
  | [d1, d2] => { results := [.lit (.bool true)], args := [d1, d2] }
  | _ => none }
def sneRisesRow : OpenClaim := { program := "ytfkiagnehomefaa", sum := "19949de1f4bce02d3b117f56a1ff3fbfa4375f91fd548081d297498f6aac457f", func := "downhaul/downhaullaw21.SneRises", spec := "sneRises", apart := false }
def SneRisesSaid : Prop := sneRisesRow.holds Try.pinned (OpenSpec.ofChange sneRisesSpec)

/-- ITS FALSE NEIGHBOUR: 'it returns false'. Refute it at one input. -/
def sneRisesWrong : ChangeSpec := { name := "sneRises", fn := fun _ => fun
  | [d1, d2] => { results := [.lit (.bool false)], args := [d1, d2] }
  | _ => none }
def SneRisesWrongFalsely : Prop := sneRisesRow.holds Try.pinned (OpenSpec.ofChange sneRisesWrong)

/-- 'downhaullaw01.RingTurns': WHATEVER THE INPUT: true; the input reads as it did. -/
def ringTurnsSpec : ChangeSpec := { name := "ringTurns", fn := fun _ => fun
  | [d1, d2] => { results := [.lit (.bool true)], args := [d1, d2] }
  | _ => none }
def ringTurnsRow : OpenClaim := { program := "ytfkiagnehomefaa", sum := "19949de1f4bce02d3b117f56a1ff3fbfa4375f91fd548081d297498f6aac457f", func := "downhaul/downhaullaw01.RingTurns", spec := "ringTurns", apart := false }
def RingTurnsSaid : Prop := ringTurnsRow.holds Try.pinned (OpenSpec.ofChange ringTurnsSpec)

/-- ITS FALSE NEIGHBOUR: 'it returns false'. Refute it at one input. -/
def ringTurnsWrong : ChangeSpec := { name := "ringTurns", fn := fun _ => fun
  | [d1, d2] => { results := [.lit (.bool false)], args := [d1, d2] }
  | _ => none }
def RingTurnsWrongFalsely : Prop := ringTurnsRow.holds Try.pinned (OpenSpec.ofChange ringTurnsWrong)

/-- 'downhaullaw01.RingWindows': WHATEVER THE INPUT: true; the input reads as it did. -/
def ringWindowsSpec : ChangeSpec := { name := "ringWindows", fn := fun _ => fun
  | [d1, d2, d3] => { results := [.lit (.bool true)], args := [d1, d2, d3] }
  | _ => none }
def ringWindowsRow : OpenClaim := { program := "ytfkiagnehomefaa", sum := "19949de1f4bce02d3b117f56a1ff3fbfa4375f91fd548081d297498f6aac457f", func := "downhaul/downhaullaw01.RingWindows", spec := "ringWindows", apart := false }
def RingWindowsSaid : Prop := ringWindowsRow.holds Try.pinned (OpenSpec.ofChange ringWindowsSpec)

/-- ITS FALSE NEIGHBOUR: 'it returns false'. Refute it at one input. -/
def ringWindowsWrong : ChangeSpec := { name := "ringWindows", fn := fun _ => fun
  | [d1, d2, d3] => { results := [.lit (.bool false)], args := [d1, d2, d3] }
  | _ => none }
def RingWindowsWrongFalsely : Prop := ringWindowsRow.holds Try.pinned (OpenSpec.ofChange ringWindowsWrong)

/- THE SECOND FORM. 'bulk': how many values and letters a reading holds, each counted each time it is reached (what is shared counts as often as it is met; a slice's spare places count too). A statement '..UptoSaid' is the law's where the arguments, and the package variables that the reading takes, are together of bulk at most 1048576: NARROWER than '..Said'. Prove '..Said' where nothing that the law and all that it calls make is longer than what came in: it says more and counts as full. Else prove '..UptoSaid'. A law counts once. -/
mutual
def uptoBulk {H : Type} : DataW H → Nat
  | .lit (.string bytes) => bytes.length + 1
  | .lit _ => 1
  | .nil => 1
  | .ptr d => uptoBulk d + 1
  | .slice elems spare => uptoBulkAll elems + uptoBulkAll spare + 1
  | .agg parts => uptoBulkAll parts + 1
  | .iface _ d => uptoBulk d + 1
  | .map entries => uptoBulkEntries entries + 1
  | .held _ => 1
def uptoBulkAll {H : Type} : List (DataW H) → Nat
  | [] => 0
  | d :: r => uptoBulk d + uptoBulkAll r
def uptoBulkEntries {H : Type} : List (Lit × DataW H) → Nat
  | [] => 0
  | x :: r => uptoBulkEntry x + uptoBulkEntries r
def uptoBulkEntry {H : Type} : Lit × DataW H → Nat
  | (.string bytes, d) => bytes.length + uptoBulk d + 1
  | (_, d) => uptoBulk d + 1
 end
def uptoSmall : (H : Type) → List (DataW H) → Bool := fun _ ds => decide (uptoBulkAll ds ≤ 1048576)
def OpenSpec.upto (s : _root_.Go.ChangeSpec) : _root_.Go.OpenSpec := { _root_.Go.OpenSpec.ofChange s with cond := some uptoSmall }

/-- 'downhaullaw22.RtoSmooth', WHERE WHAT IT READS IS OF BULK AT MOST 1048576: true; the input reads as it did. -/
def rtoSmoothUptoRow : OpenClaim := { program := "ytfkiagnehomefaa", sum := "19949de1f4bce02d3b117f56a1ff3fbfa4375f91fd548081d297498f6aac457f", func := "downhaul/downhaullaw22.RtoSmooth", spec := "rtoSmooth", apart := false, narrowed := true }
def RtoSmoothUptoSaid : Prop := rtoSmoothUptoRow.holds Try.pinned (OpenSpec.upto rtoSmoothSpec)

/-- 'downhaullaw22.RtoPlays', WHERE WHAT IT READS IS OF BULK AT MOST 1048576: true; the input reads as it did. -/
def rtoPlaysUptoRow : OpenClaim := { program := "ytfkiagnehomefaa", sum := "19949de1f4bce02d3b117f56a1ff3fbfa4375f91fd548081d297498f6aac457f", func := "downhaul/downhaullaw22.RtoPlays", spec := "rtoPlays", apart := false, narrowed := true }
def RtoPlaysUptoSaid : Prop := rtoPlaysUptoRow.holds Try.pinned (OpenSpec.upto rtoPlaysSpec)

/-- 'downhaullaw22.RtoBounds', WHERE WHAT IT READS IS OF BULK AT MOST 1048576: true; the input reads as it did. -/
def rtoBoundsUptoRow : OpenClaim := { program := "ytfkiagnehomefaa", sum := "19949de1f4bce02d3b117f56a1ff3fbfa4375f91fd548081d297498f6aac457f", func := "downhaul/downhaullaw22.RtoBounds", spec := "rtoBounds", apart := false, narrowed := true }
def RtoBoundsUptoSaid : Prop := rtoBoundsUptoRow.holds Try.pinned (OpenSpec.upto rtoBoundsSpec)

/-- 'downhaullaw01.RingDiffs', WHERE WHAT IT READS IS OF BULK AT MOST 1048576: true; the input reads as it did. -/
def ringDiffsUptoRow : OpenClaim := { program := "ytfkiagnehomefaa", sum := "19949de1f4bce02d3b117f56a1ff3fbfa4375f91fd548081d297498f6aac457f", func := "downhaul/downhaullaw01.RingDiffs", spec := "ringDiffs", apart := false, narrowed := true }
def RingDiffsUptoSaid : Prop := ringDiffsUptoRow.holds Try.pinned (OpenSpec.upto ringDiffsSpec)

/-- 'downhaullaw01.RingLongs', WHERE WHAT IT READS IS OF BULK AT MOST 1048576: true; the input reads as it did. -/
def ringLongsUptoRow : OpenClaim := { program := "ytfkiagnehomefaa", sum := "19949de1f4bce02d3b117f56a1ff3fbfa4375f91fd548081d297498f6aac457f", func := "downhaul/downhaullaw01.RingLongs", spec := "ringLongs", apart := false, narrowed := true }
def RingLongsUptoSaid : Prop := ringLongsUptoRow.holds Try.pinned (OpenSpec.upto ringLongsSpec)

/-- 'downhaullaw01.RingAccepts', WHERE WHAT IT READS IS OF BULK AT MOST 1048576: true; the input reads as it did. -/
def ringAcceptsUptoRow : OpenClaim := { program := "ytfkiagnehomefaa", sum := "19949de1f4bce02d3b117f56a1ff3fbfa4375f91fd548081d297498f6aac457f", func := "downhaul/downhaullaw01.RingAccepts", spec := "ringAccepts", apart := false, narrowed := true }
def RingAcceptsUptoSaid : Prop := ringAcceptsUptoRow.holds Try.pinned (OpenSpec.upto ringAcceptsSpec)

/-- 'downhaullaw01.RingOrder', WHERE WHAT IT READS IS OF BULK AT MOST 1048576: true; the input reads as it did. -/
def ringOrderUptoRow : OpenClaim := { program := "ytfkiagnehomefaa", sum := "19949de1f4bce02d3b117f56a1ff3fbfa4375f91fd548081d297498f6aac457f", func := "downhaul/downhaullaw01.RingOrder", spec := "ringOrder", apart := false, narrowed := true }
def RingOrderUptoSaid : Prop := ringOrderUptoRow.holds Try.pinned (OpenSpec.upto ringOrderSpec)

/-- 'downhaullaw01.RingBack', WHERE WHAT IT READS IS OF BULK AT MOST 1048576: true; the input reads as it did. -/
def ringBackUptoRow : OpenClaim := { program := "ytfkiagnehomefaa", sum := "19949de1f4bce02d3b117f56a1ff3fbfa4375f91fd548081d297498f6aac457f", func := "downhaul/downhaullaw01.RingBack", spec := "ringBack", apart := false, narrowed := true }
def RingBackUptoSaid : Prop := ringBackUptoRow.holds Try.pinned (OpenSpec.upto ringBackSpec)

/-- 'downhaullaw21.SnePlays', WHERE WHAT IT READS IS OF BULK AT MOST 1048576: true; the input reads as it did. -/
def snePlaysUptoRow : OpenClaim := { program := "ytfkiagnehomefaa", sum := "19949de1f4bce02d3b117f56a1ff3fbfa4375f91fd548081d297498f6aac457f", func := "downhaul/downhaullaw21.SnePlays", spec := "snePlays", apart := false, narrowed := true }
def SnePlaysUptoSaid : Prop := snePlaysUptoRow.holds Try.pinned (OpenSpec.upto snePlaysSpec)

/-- 'downhaullaw21.SneRound', WHERE WHAT IT READS IS OF BULK AT MOST 1048576: true; the input reads as it did. -/
def sneRoundUptoRow : OpenClaim := { program := "ytfkiagnehomefaa", sum := "19949de1f4bce02d3b117f56a1ff3fbfa4375f91fd548081d297498f6aac457f", func := "downhaul/downhaullaw21.SneRound", spec := "sneRound", apart := false, narrowed := true }
def SneRoundUptoSaid : Prop := sneRoundUptoRow.holds Try.pinned (OpenSpec.upto sneRoundSpec)

/-- 'downhaullaw21.SneRises', WHERE WHAT IT READS IS OF BULK AT MOST 1048576: true; the input reads as it did. -/
def sneRisesUptoRow : OpenClaim := { program := "ytfkiagnehomefaa", sum := "19949de1f4bce02d3b117f56a1ff3fbfa4375f91fd548081d297498f6aac457f", func := "downhaul/downhaullaw21.SneRises", spec := "sneRises", apart := false, narrowed := true }
def SneRisesUptoSaid : Prop := sneRisesUptoRow.holds Try.pinned (OpenSpec.upto sneRisesSpec)

/-- 'downhaullaw01.RingTurns', WHERE WHAT IT READS IS OF BULK AT MOST 1048576: true; the input reads as it did. -/
def ringTurnsUptoRow : OpenClaim := { program := "ytfkiagnehomefaa", sum := "19949de1f4bce02d3b117f56a1ff3fbfa4375f91fd548081d297498f6aac457f", func := "downhaul/downhaullaw01.RingTurns", spec := "ringTurns", apart := false, narrowed := true }
def RingTurnsUptoSaid : Prop := ringTurnsUptoRow.holds Try.pinned (OpenSpec.upto ringTurnsSpec)

/-- 'downhaullaw01.RingWindows', WHERE WHAT IT READS IS OF BULK AT MOST 1048576: true; the input reads as it did. -/
def ringWindowsUptoRow : OpenClaim := { program := "ytfkiagnehomefaa", sum := "19949de1f4bce02d3b117f56a1ff3fbfa4375f91fd548081d297498f6aac457f", func := "downhaul/downhaullaw01.RingWindows", spec := "ringWindows", apart := false, narrowed := true }
def RingWindowsUptoSaid : Prop := ringWindowsUptoRow.holds Try.pinned (OpenSpec.upto ringWindowsSpec)

end Rows
end Go.Proofs.Ytfkiagnehomefaa
