/-
  No cell of these rows narrows 'for every input' (looked for: loops, veiled, ifaces, maps, wideKeys, modest, calm, conditions, laid).
  DERIVED. THE GIVEN ROWS OF THIS SEAT. 8 by the template 'for every input the law returns true; each argument reads behind the call as it read before'; 0 by the template 'total and deterministic' (their statements: YtkkaclgamhpalaaTotals.lean).
  GIVEN WITH THE SEED: the statements are not yours to turn. If you find one false, say at which input.
  Laid BY PROGRAM, IN A SANDBOX (cutbox-rows.mjs): the forced cells as the released guide's own fill.sh prints them over the translation 074ff96c7f0414f9… (all of the seat's roots in one cut). By AI agents, Wed Nov 11 2026. No macro, syntax, notation, axiom, sorry.
-/
import Derived.Test.YtkkaclgamhpalaaChecked
import GoSem.Claim
import GoSem.ClaimJoined
import GoSem.ClaimMapViews
import Derived.JoinedTies
import Derived.KernelRfl
namespace Go.Proofs.Ytkkaclgamhpalaa
/- THE CELL 'sum', in the pinned program and in every row, IS THE sha256 OF THE DUMP (.gsa) THAT YtkkaclgamhpalaaProg.lean LOADS. Nothing in Lean hashes anything: it is a label: what it is worth is what the hold of that sum in a sandbox is worth. -/
noncomputable def Try.pinned : Pinned := { name := "ytkkaclgamhpalaa", sum := "074ff96c7f0414f9f2db935dbcacbc9ea39b27a259bd1e3a0dfbc196db5436fe", checked := Try.checked }
namespace Rows
def none {H : Type} : Left H := { results := [], args := [] }

/-- 'downhaullaw19.MktOnce': WHATEVER THE INPUT: true; the input reads as it did. -/
def mktOnceSpec : ChangeSpec := { name := "mktOnce", fn := fun _ => fun
  | [d1, d2] => { results := [.lit (.bool true)], args := [d1, d2] }
  | _ => none }
def mktOnceRow : OpenClaim := { program := "ytkkaclgamhpalaa", sum := "074ff96c7f0414f9f2db935dbcacbc9ea39b27a259bd1e3a0dfbc196db5436fe", func := "downhaul/downhaullaw19.MktOnce", spec := "mktOnce", unfollowed := true, recurses := true, plainKeys := false, apart := false }
def MktOnceSaid : Prop := mktOnceRow.holds Try.pinned (OpenSpec.ofChange mktOnceSpec)

/-- ITS FALSE NEIGHBOUR: 'it returns false'. Refute it at one input. -/
def mktOnceWrong : ChangeSpec := { name := "mktOnce", fn := fun _ => fun
  | [d1, d2] => { results := [.lit (.bool false)], args := [d1, d2] }
  | _ => none }
def MktOnceWrongFalsely : Prop := mktOnceRow.holds Try.pinned (OpenSpec.ofChange mktOnceWrong)

/-- 'downhaullaw19.MktPlays': WHATEVER THE INPUT: true; the input reads as it did. -/
def mktPlaysSpec : ChangeSpec := { name := "mktPlays", fn := fun _ => fun
  | [d1, d2, d3] => { results := [.lit (.bool true)], args := [d1, d2, d3] }
  | _ => none }
def mktPlaysRow : OpenClaim := { program := "ytkkaclgamhpalaa", sum := "074ff96c7f0414f9f2db935dbcacbc9ea39b27a259bd1e3a0dfbc196db5436fe", func := "downhaul/downhaullaw19.MktPlays", spec := "mktPlays", unfollowed := true, recurses := true, plainKeys := false, apart := false }
def MktPlaysSaid : Prop := mktPlaysRow.holds Try.pinned (OpenSpec.ofChange mktPlaysSpec)

/-- ITS FALSE NEIGHBOUR: 'it returns false'. Refute it at one input. -/
def mktPlaysWrong : ChangeSpec := { name := "mktPlays", fn := fun _ => fun
  | [d1, d2, d3] => { results := [.lit (.bool false)], args := [d1, d2, d3] }
  | _ => none }
def MktPlaysWrongFalsely : Prop := mktPlaysRow.holds Try.pinned (OpenSpec.ofChange mktPlaysWrong)

/-- 'downhaullaw19.MktNobody': WHATEVER THE INPUT: true; the input reads as it did. -/
def mktNobodySpec : ChangeSpec := { name := "mktNobody", fn := fun _ => fun
  | [d1, d2] => { results := [.lit (.bool true)], args := [d1, d2] }
  | _ => none }
def mktNobodyRow : OpenClaim := { program := "ytkkaclgamhpalaa", sum := "074ff96c7f0414f9f2db935dbcacbc9ea39b27a259bd1e3a0dfbc196db5436fe", func := "downhaul/downhaullaw19.MktNobody", spec := "mktNobody", unfollowed := true, recurses := true, plainKeys := false, apart := false }
def MktNobodySaid : Prop := mktNobodyRow.holds Try.pinned (OpenSpec.ofChange mktNobodySpec)

/-- ITS FALSE NEIGHBOUR: 'it returns false'. Refute it at one input. -/
def mktNobodyWrong : ChangeSpec := { name := "mktNobody", fn := fun _ => fun
  | [d1, d2] => { results := [.lit (.bool false)], args := [d1, d2] }
  | _ => none }
def MktNobodyWrongFalsely : Prop := mktNobodyRow.holds Try.pinned (OpenSpec.ofChange mktNobodyWrong)

/-- 'downhaullaw17.PmtuFloors': WHATEVER THE INPUT: true; the input reads as it did. -/
def pmtuFloorsSpec : ChangeSpec := { name := "pmtuFloors", fn := fun _ => fun
  | [d1, d2] => { results := [.lit (.bool true)], args := [d1, d2] }
  | _ => none }
def pmtuFloorsRow : OpenClaim := { program := "ytkkaclgamhpalaa", sum := "074ff96c7f0414f9f2db935dbcacbc9ea39b27a259bd1e3a0dfbc196db5436fe", func := "downhaul/downhaullaw17.PmtuFloors", spec := "pmtuFloors", inPlace := ["internal/bytealg.Compare"], unfollowed := true, recurses := true, plainKeys := false, apart := false }
def PmtuFloorsSaid : Prop := pmtuFloorsRow.holds Try.pinned (OpenSpec.ofChange pmtuFloorsSpec)

/-- ITS FALSE NEIGHBOUR: 'it returns false'. Refute it at one input. -/
def pmtuFloorsWrong : ChangeSpec := { name := "pmtuFloors", fn := fun _ => fun
  | [d1, d2] => { results := [.lit (.bool false)], args := [d1, d2] }
  | _ => none }
def PmtuFloorsWrongFalsely : Prop := pmtuFloorsRow.holds Try.pinned (OpenSpec.ofChange pmtuFloorsWrong)

/-- 'downhaullaw17.PmtuNobody': WHATEVER THE INPUT: true; the input reads as it did. -/
def pmtuNobodySpec : ChangeSpec := { name := "pmtuNobody", fn := fun _ => fun
  | [d] => { results := [.lit (.bool true)], args := [d] }
  | _ => none }
def pmtuNobodyRow : OpenClaim := { program := "ytkkaclgamhpalaa", sum := "074ff96c7f0414f9f2db935dbcacbc9ea39b27a259bd1e3a0dfbc196db5436fe", func := "downhaul/downhaullaw17.PmtuNobody", spec := "pmtuNobody", inPlace := ["internal/bytealg.Compare"], unfollowed := true, recurses := true, plainKeys := false, apart := false }
def PmtuNobodySaid : Prop := pmtuNobodyRow.holds Try.pinned (OpenSpec.ofChange pmtuNobodySpec)

/-- ITS FALSE NEIGHBOUR: 'it returns false'. Refute it at one input. -/
def pmtuNobodyWrong : ChangeSpec := { name := "pmtuNobody", fn := fun _ => fun
  | [d] => { results := [.lit (.bool false)], args := [d] }
  | _ => none }
def PmtuNobodyWrongFalsely : Prop := pmtuNobodyRow.holds Try.pinned (OpenSpec.ofChange pmtuNobodyWrong)

/-- 'downhaullaw16.RouteLongest': WHATEVER THE INPUT: true; the input reads as it did. -/
def routeLongestSpec : ChangeSpec := { name := "routeLongest", fn := fun _ => fun
  | [d1, d2] => { results := [.lit (.bool true)], args := [d1, d2] }
  | _ => none }
def routeLongestRow : OpenClaim := { program := "ytkkaclgamhpalaa", sum := "074ff96c7f0414f9f2db935dbcacbc9ea39b27a259bd1e3a0dfbc196db5436fe", func := "downhaul/downhaullaw16.RouteLongest", spec := "routeLongest", inPlace := ["internal/bytealg.Compare"], unfollowed := true, recurses := true, plainKeys := false, apart := false }
def RouteLongestSaid : Prop := routeLongestRow.holds Try.pinned (OpenSpec.ofChange routeLongestSpec)

/-- ITS FALSE NEIGHBOUR: 'it returns false'. Refute it at one input. -/
def routeLongestWrong : ChangeSpec := { name := "routeLongest", fn := fun _ => fun
  | [d1, d2] => { results := [.lit (.bool false)], args := [d1, d2] }
  | _ => none }
def RouteLongestWrongFalsely : Prop := routeLongestRow.holds Try.pinned (OpenSpec.ofChange routeLongestWrong)

/-- 'downhaullaw16.RouteBack': WHATEVER THE INPUT: true; the input reads as it did. -/
def routeBackSpec : ChangeSpec := { name := "routeBack", fn := fun _ => fun
  | [d1, d2] => { results := [.lit (.bool true)], args := [d1, d2] }
  | _ => none }
def routeBackRow : OpenClaim := { program := "ytkkaclgamhpalaa", sum := "074ff96c7f0414f9f2db935dbcacbc9ea39b27a259bd1e3a0dfbc196db5436fe", func := "downhaul/downhaullaw16.RouteBack", spec := "routeBack", inPlace := ["internal/bytealg.Compare"], unfollowed := true, recurses := true, plainKeys := false, apart := false }
def RouteBackSaid : Prop := routeBackRow.holds Try.pinned (OpenSpec.ofChange routeBackSpec)

/-- ITS FALSE NEIGHBOUR: 'it returns false'. Refute it at one input. -/
def routeBackWrong : ChangeSpec := { name := "routeBack", fn := fun _ => fun
  | [d1, d2] => { results := [.lit (.bool false)], args := [d1, d2] }
  | _ => none }
def RouteBackWrongFalsely : Prop := routeBackRow.holds Try.pinned (OpenSpec.ofChange routeBackWrong)

/-- 'downhaullaw16.RouteNobody': WHATEVER THE INPUT: true; the input reads as it did. -/
def routeNobodySpec : ChangeSpec := { name := "routeNobody", fn := fun _ => fun
  | [d] => { results := [.lit (.bool true)], args := [d] }
  | _ => none }
def routeNobodyRow : OpenClaim := { program := "ytkkaclgamhpalaa", sum := "074ff96c7f0414f9f2db935dbcacbc9ea39b27a259bd1e3a0dfbc196db5436fe", func := "downhaul/downhaullaw16.RouteNobody", spec := "routeNobody", inPlace := ["internal/bytealg.Compare"], unfollowed := true, recurses := true, plainKeys := false, apart := false }
def RouteNobodySaid : Prop := routeNobodyRow.holds Try.pinned (OpenSpec.ofChange routeNobodySpec)

/-- ITS FALSE NEIGHBOUR: 'it returns false'. Refute it at one input. -/
def routeNobodyWrong : ChangeSpec := { name := "routeNobody", fn := fun _ => fun
  | [d] => { results := [.lit (.bool false)], args := [d] }
  | _ => none }
def RouteNobodyWrongFalsely : Prop := routeNobodyRow.holds Try.pinned (OpenSpec.ofChange routeNobodyWrong)

/- THE SECOND FORM. 'bulk': how many values and letters a reading holds, each counted each time it is reached (what is shared counts as often as it is met; a slice's spare places count too). A statement '..UptoSaid' is the law's where the arguments, and the package variables that the reading takes, are together of bulk at most 1048576: NARROWER than '..Said'. Prove '..Said' where nothing that the law and all that it calls make is longer than what came in: it says more and counts as full. Else prove '..UptoSaid'. A law counts once. -/
mutual
def uptoBulk {H : Type} : DataW H → Nat
  | .lit (.string bytes) => bytes.length + 1
  | .lit _ => 1
  | .nil => 1
  | .ptr d => uptoBulk d + 1
  | .slice elems spare => uptoBulkAll elems + uptoBulkAll spare + 1
  | .agg parts => uptoBulkAll parts + 1
  | .iface _ d => uptoBulk d + 1
  | .map entries => uptoBulkEntries entries + 1
  | .held _ => 1
def uptoBulkAll {H : Type} : List (DataW H) → Nat
  | [] => 0
  | d :: r => uptoBulk d + uptoBulkAll r
def uptoBulkEntries {H : Type} : List (Lit × DataW H) → Nat
  | [] => 0
  | x :: r => uptoBulkEntry x + uptoBulkEntries r
def uptoBulkEntry {H : Type} : Lit × DataW H → Nat
  | (.string bytes, d) => bytes.length + uptoBulk d + 1
  | (_, d) => uptoBulk d + 1
 end
def uptoSmall : (H : Type) → List (DataW H) → Bool := fun _ ds => decide (uptoBulkAll ds ≤ 1048576)
def OpenSpec.upto (s : _root_.Go.ChangeSpec) : _root_.Go.OpenSpec := { _root_.Go.OpenSpec.ofChange s with cond := some uptoSmall }

/-- 'downhaullaw19.MktOnce', WHERE WHAT IT READS IS OF BULK AT MOST 1048576: true; the input reads as it did. -/
def mktOnceUptoRow : OpenClaim := { program := "ytkkaclgamhpalaa", sum := "074ff96c7f0414f9f2db935dbcacbc9ea39b27a259bd1e3a0dfbc196db5436fe", func := "downhaul/downhaullaw19.MktOnce", spec := "mktOnce", unfollowed := true, recurses := true, plainKeys := false, apart := false, narrowed := true }
def MktOnceUptoSaid : Prop := mktOnceUptoRow.holds Try.pinned (OpenSpec.upto mktOnceSpec)

/-- 'downhaullaw19.MktPlays', WHERE WHAT IT READS IS OF BULK AT MOST 1048576: true; the input reads as it did. -/
def mktPlaysUptoRow : OpenClaim := { program := "ytkkaclgamhpalaa", sum := "074ff96c7f0414f9f2db935dbcacbc9ea39b27a259bd1e3a0dfbc196db5436fe", func := "downhaul/downhaullaw19.MktPlays", spec := "mktPlays", unfollowed := true, recurses := true, plainKeys := false, apart := false, narrowed := true }
def MktPlaysUptoSaid : Prop := mktPlaysUptoRow.holds Try.pinned (OpenSpec.upto mktPlaysSpec)

/-- 'downhaullaw19.MktNobody', WHERE WHAT IT READS IS OF BULK AT MOST 1048576: true; the input reads as it did. -/
def mktNobodyUptoRow : OpenClaim := { program := "ytkkaclgamhpalaa", sum := "074ff96c7f0414f9f2db935dbcacbc9ea39b27a259bd1e3a0dfbc196db5436fe", func := "downhaul/downhaullaw19.MktNobody", spec := "mktNobody", unfollowed := true, recurses := true, plainKeys := false, apart := false, narrowed := true }
def MktNobodyUptoSaid : Prop := mktNobodyUptoRow.holds Try.pinned (OpenSpec.upto mktNobodySpec)

/-- 'downhaullaw17.PmtuFloors', WHERE WHAT IT READS IS OF BULK AT MOST 1048576: true; the input reads as it did. -/
def pmtuFloorsUptoRow : OpenClaim := { program := "ytkkaclgamhpalaa", sum := "074ff96c7f0414f9f2db935dbcacbc9ea39b27a259bd1e3a0dfbc196db5436fe", func := "downhaul/downhaullaw17.PmtuFloors", spec := "pmtuFloors", inPlace := ["internal/bytealg.Compare"], unfollowed := true, recurses := true, plainKeys := false, apart := false, narrowed := true }
def PmtuFloorsUptoSaid : Prop := pmtuFloorsUptoRow.holds Try.pinned (OpenSpec.upto pmtuFloorsSpec)

/-- 'downhaullaw17.PmtuNobody', WHERE WHAT IT READS IS OF BULK AT MOST 1048576: true; the input reads as it did. -/
def pmtuNobodyUptoRow : OpenClaim := { program := "ytkkaclgamhpalaa", sum := "074ff96c7f0414f9f2db935dbcacbc9ea39b27a259bd1e3a0dfbc196db5436fe", func := "downhaul/downhaullaw17.PmtuNobody", spec := "pmtuNobody", inPlace := ["internal/bytealg.Compare"], unfollowed := true, recurses := true, plainKeys := false, apart := false, narrowed := true }
def PmtuNobodyUptoSaid : Prop := pmtuNobodyUptoRow.holds Try.pinned (OpenSpec.upto pmtuNobodySpec)

/-- 'downhaullaw16.RouteLongest', WHERE WHAT IT READS IS OF BULK AT MOST 1048576: true; the input reads as it did. -/
def routeLongestUptoRow : OpenClaim := { program := "ytkkaclgamhpalaa", sum := "074ff96c7f0414f9f2db935dbcacbc9ea39b27a259bd1e3a0dfbc196db5436fe", func := "downhaul/downhaullaw16.RouteLongest", spec := "routeLongest", inPlace := ["internal/bytealg.Compare"], unfollowed := true, recurses := true, plainKeys := false, apart := false, narrowed := true }
def RouteLongestUptoSaid : Prop := routeLongestUptoRow.holds Try.pinned (OpenSpec.upto routeLongestSpec)

/-- 'downhaullaw16.RouteBack', WHERE WHAT IT READS IS OF BULK AT MOST 1048576: true; the input reads as it did. -/
def routeBackUptoRow : OpenClaim := { program := "ytkkaclgamhpalaa", sum := "074ff96c7f0414f9f2db935dbcacbc9ea39b27a259bd1e3a0dfbc196db5436fe", func := "downhaul/downhaullaw16.RouteBack", spec := "routeBack", inPlace := ["internal/bytealg.Compare"], unfollowed := true, recurses := true, plainKeys := false, apart := false, narrowed := true }
def RouteBackUptoSaid : Prop := routeBackUptoRow.holds Try.pinned (OpenSpec.upto routeBackSpec)

/-- 'downhaullaw16.RouteNobody', WHERE WHAT IT READS IS OF BULK AT MOST 1048576: true; the input reads as it did. -/
def routeNobodyUptoRow : OpenClaim := { program := "ytkkaclgamhpalaa", sum := "074ff96c7f0414f9f2db935dbcacbc9ea39b27a259bd1e3a0dfbc196db5436fe", func := "downhaul/downhaullaw16.RouteNobody", spec := "routeNobody", inPlace := ["internal/bytealg.Compare"], unfollowed := true, recurses := true, plainKeys := false, apart := false, narrowed := true }
def RouteNobodyUptoSaid : Prop := routeNobodyUptoRow.holds Try.pinned (OpenSpec.upto routeNobodySpec)

end Rows
end Go.Proofs.Ytkkaclgamhpalaa
