/-
  No cell of these rows narrows 'for every input' (looked for: loops, veiled, ifaces, maps, wideKeys, modest, calm, conditions, laid).
  DERIVED. THE GIVEN ROWS OF THIS SEAT. 3 by the template 'for every input the law returns true; each argument reads behind the call as it read before'; 0 by the template 'total and deterministic' (their statements: YtfmadmaioccpcaaTotals.lean).
  GIVEN WITH THE SEED: the statements are not yours to turn. If you find one false, say at which input.
  Laid BY PROGRAM, IN A SANDBOX (cutbox-rows.mjs): the forced cells as the released guide's own fill.sh prints them over the translation d30a05813db137d2… (all of the seat's roots in one cut). By AI agents, Wed Nov 11 2026. No macro, syntax, notation, axiom, sorry.
-/
import Derived.Test.YtfmadmaioccpcaaChecked
import GoSem.Claim
import GoSem.ClaimJoined
import GoSem.ClaimMapViews
import Derived.JoinedTies
import Derived.KernelRfl
namespace Go.Proofs.Ytfmadmaioccpcaa
/- THE CELL 'sum', in the pinned program and in every row, IS THE sha256 OF THE DUMP (.gsa) THAT YtfmadmaioccpcaaProg.lean LOADS. Nothing in Lean hashes anything: it is a label: what it is worth is what the hold of that sum in a sandbox is worth. -/
noncomputable def Try.pinned : Pinned := { name := "ytfmadmaioccpcaa", sum := "d30a05813db137d2526d13e7f7e4facc53d45d7a89381327aaa4e195d3cd5859", checked := Try.checked }
namespace Rows
def none {H : Type} : Left H := { results := [], args := [] }

/-- 'downhaullaw25.SbufPlays': WHATEVER THE INPUT: true; the input reads as it did. -/
def sbufPlaysSpec : ChangeSpec := { name := "sbufPlays", fn := fun _ => fun
  | [d1, d2] => { results := [.lit (.bool true)], args := [d1, d2] }
  | _ => none }
def sbufPlaysRow : OpenClaim := { program := "ytfmadmaioccpcaa", sum := "d30a05813db137d2526d13e7f7e4facc53d45d7a89381327aaa4e195d3cd5859", func := "downhaul/downhaullaw25.SbufPlays", spec := "sbufPlays", apart := false }
def SbufPlaysSaid : Prop := sbufPlaysRow.holds Try.pinned (OpenSpec.ofChange sbufPlaysSpec)

/-- ITS FALSE NEIGHBOUR: 'it returns false'. Refute it at one input. -/
def sbufPlaysWrong : ChangeSpec := { name := "sbufPlays", fn := fun _ => fun
  | [d1, d2] => { results := [.lit (.bool false)], args := [d1, d2] }
  | _ => none }
def SbufPlaysWrongFalsely : Prop := sbufPlaysRow.holds Try.pinned (OpenSpec.ofChange sbufPlaysWrong)

/-- 'downhaullaw25.SbufOrder': WHATEVER THE INPUT: true; the input reads as it did. -/
def sbufOrderSpec : ChangeSpec := { name := "sbufOrder", fn := fun _ => fun
  | [d1, d2] => { results := [.lit (.bool true)], args := [d1, d2] }
  | _ => none }
def sbufOrderRow : OpenClaim := { program := "ytfmadmaioccpcaa", sum := "d30a05813db137d2526d13e7f7e4facc53d45d7a89381327aaa4e195d3cd5859", func := "downhaul/downhaullaw25.SbufOrder", spec := "sbufOrder", apart := false }
def SbufOrderSaid : Prop := sbufOrderRow.holds Try.pinned (OpenSpec.ofChange sbufOrderSpec)

/-- ITS FALSE NEIGHBOUR: 'it returns false'. Refute it at one input. -/
def sbufOrderWrong : ChangeSpec := { name := "sbufOrder", fn := fun _ => fun
  | [d1, d2] => { results := [.lit (.bool false)], args := [d1, d2] }
  | _ => none }
def SbufOrderWrongFalsely : Prop := sbufOrderRow.holds Try.pinned (OpenSpec.ofChange sbufOrderWrong)

/-- 'downhaullaw25.SbufNobody': WHATEVER THE INPUT: true; the input reads as it did. -/
def sbufNobodySpec : ChangeSpec := { name := "sbufNobody", fn := fun _ => fun
  | [d] => { results := [.lit (.bool true)], args := [d] }
  | _ => none }
def sbufNobodyRow : OpenClaim := { program := "ytfmadmaioccpcaa", sum := "d30a05813db137d2526d13e7f7e4facc53d45d7a89381327aaa4e195d3cd5859", func := "downhaul/downhaullaw25.SbufNobody", spec := "sbufNobody", apart := false }
def SbufNobodySaid : Prop := sbufNobodyRow.holds Try.pinned (OpenSpec.ofChange sbufNobodySpec)

/-- ITS FALSE NEIGHBOUR: 'it returns false'. Refute it at one input. -/
def sbufNobodyWrong : ChangeSpec := { name := "sbufNobody", fn := fun _ => fun
  | [d] => { results := [.lit (.bool false)], args := [d] }
  | _ => none }
def SbufNobodyWrongFalsely : Prop := sbufNobodyRow.holds Try.pinned (OpenSpec.ofChange sbufNobodyWrong)

/- THE SECOND FORM. 'bulk': how many values and letters a reading holds, each counted each time it is reached (what is shared counts as often as it is met; a slice's spare places count too). A statement '..UptoSaid' is the law's where the arguments, and the package variables that the reading takes, are together of bulk at most 1048576: NARROWER than '..Said'. Prove '..Said' where nothing that the law and all that it calls make is longer than what came in: it says more and counts as full. Else prove '..UptoSaid'. A law counts once. -/
mutual
def uptoBulk {H : Type} : DataW H → Nat
  | .lit (.string bytes) => bytes.length + 1
  | .lit _ => 1
  | .nil => 1
  | .ptr d => uptoBulk d + 1
  | .slice elems spare => uptoBulkAll elems + uptoBulkAll spare + 1
  | .agg parts => uptoBulkAll parts + 1
  | .iface _ d => uptoBulk d + 1
  | .map entries => uptoBulkEntries entries + 1
  | .held _ => 1
def uptoBulkAll {H : Type} : List (DataW H) → Nat
  | [] => 0
  | d :: r => uptoBulk d + uptoBulkAll r
def uptoBulkEntries {H : Type} : List (Lit × DataW H) → Nat
  | [] => 0
  | x :: r => uptoBulkEntry x + uptoBulkEntries r
def uptoBulkEntry {H : Type} : Lit × DataW H → Nat
  | (.string bytes, d) => bytes.length + uptoBulk d + 1
  | (_, d) => uptoBulk d + 1
 end
def uptoSmall : (H : Type) → List (DataW H) → Bool := fun _ ds => decide (uptoBulkAll ds ≤ 1048576)
def OpenSpec.upto (s : _root_.Go.ChangeSpec) : _root_.Go.OpenSpec := { _root_.Go.OpenSpec.ofChange s with cond := some uptoSmall }

/-- 'downhaullaw25.SbufPlays', WHERE WHAT IT READS IS OF BULK AT MOST 1048576: true; the input reads as it did. -/
def sbufPlaysUptoRow : OpenClaim := { program := "ytfmadmaioccpcaa", sum := "d30a05813db137d2526d13e7f7e4facc53d45d7a89381327aaa4e195d3cd5859", func := "downhaul/downhaullaw25.SbufPlays", spec := "sbufPlays", apart := false, narrowed := true }
def SbufPlaysUptoSaid : Prop := sbufPlaysUptoRow.holds Try.pinned (OpenSpec.upto sbufPlaysSpec)

/-- 'downhaullaw25.SbufOrder', WHERE WHAT IT READS IS OF BULK AT MOST 1048576: true; the input reads as it did. -/
def sbufOrderUptoRow : OpenClaim := { program := "ytfmadmaioccpcaa", sum := "d30a05813db137d2526d13e7f7e4facc53d45d7a89381327aaa4e195d3cd5859", func := "downhaul/downhaullaw25.SbufOrder", spec := "sbufOrder", apart := false, narrowed := true }
def SbufOrderUptoSaid : Prop := sbufOrderUptoRow.holds Try.pinned (OpenSpec.upto sbufOrderSpec)

/-- 'downhaullaw25.SbufNobody', WHERE WHAT IT READS IS OF BULK AT MOST 1048576: true; the input reads as it did. -/
def sbufNobodyUptoRow : OpenClaim := { program := "ytfmadmaioccpcaa", sum := "d30a05813db137d2526d13e7f7e4facc53d45d7a89381327aaa4e195d3cd5859", func := "downhaul/downhaullaw25.SbufNobody", spec := "sbufNobody", apart := false, narrowed := true }
def SbufNobodyUptoSaid : Prop := sbufNobodyUptoRow.holds Try.pinned (OpenSpec.upto sbufNobodySpec)

end Rows
end Go.Proofs.Ytfmadmaioccpcaa
