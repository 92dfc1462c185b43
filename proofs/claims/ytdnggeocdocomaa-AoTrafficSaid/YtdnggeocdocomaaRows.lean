/-
  No cell of these rows narrows 'for every input' (looked for: loops, veiled, ifaces, maps, wideKeys, modest, calm, conditions, laid).
  DERIVED. THE GIVEN ROWS OF THIS SEAT. 28 by the template 'for every input the law returns true; each argument reads behind the call as it read before'; 0 by the template 'total and deterministic' (their statements: YtdnggeocdocomaaTotals.lean).
  GIVEN WITH THE SEED: the statements are not yours to turn. If you find one false, say at which input.
  Laid BY PROGRAM, IN A SANDBOX (cutbox-rows.mjs): the forced cells as the released guide's own fill.sh prints them over the translation 268b300ffd35f3d9… (all of the seat's roots in one cut). By AI agents, Wed Nov 11 2026. No macro, syntax, notation, axiom, sorry.
-/
import Derived.Test.YtdnggeocdocomaaChecked
import GoSem.Claim
import GoSem.ClaimJoined
import GoSem.ClaimMapViews
import Derived.JoinedTies
import Derived.KernelRfl
namespace Go.Proofs.Ytdnggeocdocomaa
/- THE CELL 'sum', in the pinned program and in every row, IS THE sha256 OF THE DUMP (.gsa) THAT YtdnggeocdocomaaProg.lean LOADS. Nothing in Lean hashes anything: it is a label: what it is worth is what the hold of that sum in a sandbox is worth. -/
noncomputable def Try.pinned : Pinned := { name := "ytdnggeocdocomaa", sum := "268b300ffd35f3d9f6422e46a1d53bd6c2a37438cd9e0bbefa99d2f59c358d98", checked := Try.checked }
namespace Rows
def none {H : Type} : Left H := { results := [], args := [] }

/-- 'downhaullaw20.AoAgain': WHATEVER THE INPUT: true; the input reads as it did. -/
def aoAgainSpec : ChangeSpec := { name := "aoAgain", fn := fun _ => fun
  | [d1, d2, d3] => { results := [.lit (.bool true)], args := [d1, d2, d3] }
  | _ => none }
def aoAgainRow : OpenClaim := { program := "ytdnggeocdocomaa", sum := "268b300ffd35f3d9f6422e46a1d53bd6c2a37438cd9e0bbefa99d2f59c358d98", func := "downhaul/downhaullaw20.AoAgain", spec := "aoAgain", unfollowed := true, recurses := true, apart := false }
def AoAgainSaid : Prop := aoAgainRow.holds Try.pinned (OpenSpec.ofChange aoAgainSpec)

/-- ITS FALSE NEIGHBOUR: 'it returns false'. Refute it at one input. -/
def aoAgainWrong : ChangeSpec := { name := "aoAgain", fn := fun _ => fun
  | [d1, d2, d3] => { results := [.lit (.bool false)], args := [d1, d2, d3] }
  | _ => none }
def AoAgainWrongFalsely : Prop := aoAgainRow.holds Try.pinned (OpenSpec.ofChange aoAgainWrong)

/-- 'downhaullaw04.ShaOf': WHATEVER THE INPUT: true; the input reads as it did. -/
def shaOfSpec : ChangeSpec := { name := "shaOf", fn := fun _ => fun
  | [d] => { results := [.lit (.bool true)], args := [d] }
  | _ => none }
def shaOfRow : OpenClaim := { program := "ytdnggeocdocomaa", sum := "268b300ffd35f3d9f6422e46a1d53bd6c2a37438cd9e0bbefa99d2f59c358d98", func := "downhaul/downhaullaw04.ShaOf", spec := "shaOf", apart := false }
def ShaOfSaid : Prop := shaOfRow.holds Try.pinned (OpenSpec.ofChange shaOfSpec)

/-- ITS FALSE NEIGHBOUR: 'it returns false'. Refute it at one input. -/
def shaOfWrong : ChangeSpec := { name := "shaOf", fn := fun _ => fun
  | [d] => { results := [.lit (.bool false)], args := [d] }
  | _ => none }
def ShaOfWrongFalsely : Prop := shaOfRow.holds Try.pinned (OpenSpec.ofChange shaOfWrong)

/-- 'downhaullaw04.ShaParts': WHATEVER THE INPUT: true; the input reads as it did. -/
def shaPartsSpec : ChangeSpec := { name := "shaParts", fn := fun _ => fun
  | [d] => { results := [.lit (.bool true)], args := [d] }
  | _ => none }
def shaPartsRow : OpenClaim := { program := "ytdnggeocdocomaa", sum := "268b300ffd35f3d9f6422e46a1d53bd6c2a37438cd9e0bbefa99d2f59c358d98", func := "downhaul/downhaullaw04.ShaParts", spec := "shaParts", apart := false }
def ShaPartsSaid : Prop := shaPartsRow.holds Try.pinned (OpenSpec.ofChange shaPartsSpec)

/-- ITS FALSE NEIGHBOUR: 'it returns false'. Refute it at one input. -/
def shaPartsWrong : ChangeSpec := { name := "shaParts", fn := fun _ => fun
  | [d] => { results := [.lit (.bool false)], args := [d] }
  | _ => none }
def ShaPartsWrongFalsely : Prop := shaPartsRow.holds Try.pinned (OpenSpec.ofChange shaPartsWrong)

/-- 'downhaullaw04.ShaCuts': WHATEVER THE INPUT: true; the input reads as it did. -/
def shaCutsSpec : ChangeSpec := { name := "shaCuts", fn := fun _ => fun
  | [d1, d2] => { results := [.lit (.bool true)], args := [d1, d2] }
  | _ => none }
def shaCutsRow : OpenClaim := { program := "ytdnggeocdocomaa", sum := "268b300ffd35f3d9f6422e46a1d53bd6c2a37438cd9e0bbefa99d2f59c358d98", func := "downhaul/downhaullaw04.ShaCuts", spec := "shaCuts", apart := false }
def ShaCutsSaid : Prop := shaCutsRow.holds Try.pinned (OpenSpec.ofChange shaCutsSpec)

/-- ITS FALSE NEIGHBOUR: 'it returns false'. Refute it at one input. -/
def shaCutsWrong : ChangeSpec := { name := "shaCuts", fn := fun _ => fun
  | [d1, d2] => { results := [.lit (.bool false)], args := [d1, d2] }
  | _ => none }
def ShaCutsWrongFalsely : Prop := shaCutsRow.holds Try.pinned (OpenSpec.ofChange shaCutsWrong)

/-- 'downhaullaw04.ShaApart': WHATEVER THE INPUT: true; the input reads as it did. -/
def shaApartSpec : ChangeSpec := { name := "shaApart", fn := fun _ => fun
  | [d1, d2, d3] => { results := [.lit (.bool true)], args := [d1, d2, d3] }
  | _ => none }
def shaApartRow : OpenClaim := { program := "ytdnggeocdocomaa", sum := "268b300ffd35f3d9f6422e46a1d53bd6c2a37438cd9e0bbefa99d2f59c358d98", func := "downhaul/downhaullaw04.ShaApart", spec := "shaApart", apart := false }
def ShaApartSaid : Prop := shaApartRow.holds Try.pinned (OpenSpec.ofChange shaApartSpec)

/-- ITS FALSE NEIGHBOUR: 'it returns false'. Refute it at one input. -/
def shaApartWrong : ChangeSpec := { name := "shaApart", fn := fun _ => fun
  | [d1, d2, d3] => { results := [.lit (.bool false)], args := [d1, d2, d3] }
  | _ => none }
def ShaApartWrongFalsely : Prop := shaApartRow.holds Try.pinned (OpenSpec.ofChange shaApartWrong)

/-- 'downhaullaw20.AoApart': WHATEVER THE INPUT: true; the input reads as it did. -/
def aoApartSpec : ChangeSpec := { name := "aoApart", fn := fun _ => fun
  | [d1, d2, d3] => { results := [.lit (.bool true)], args := [d1, d2, d3] }
  | _ => none }
def aoApartRow : OpenClaim := { program := "ytdnggeocdocomaa", sum := "268b300ffd35f3d9f6422e46a1d53bd6c2a37438cd9e0bbefa99d2f59c358d98", func := "downhaul/downhaullaw20.AoApart", spec := "aoApart", unfollowed := true, recurses := true, apart := false }
def AoApartSaid : Prop := aoApartRow.holds Try.pinned (OpenSpec.ofChange aoApartSpec)

/-- ITS FALSE NEIGHBOUR: 'it returns false'. Refute it at one input. -/
def aoApartWrong : ChangeSpec := { name := "aoApart", fn := fun _ => fun
  | [d1, d2, d3] => { results := [.lit (.bool false)], args := [d1, d2, d3] }
  | _ => none }
def AoApartWrongFalsely : Prop := aoApartRow.holds Try.pinned (OpenSpec.ofChange aoApartWrong)

/-- 'downhaullaw06.AesEncrypts': WHATEVER THE INPUT: true; the input reads as it did. -/
def aesEncryptsSpec : ChangeSpec := { name := "aesEncrypts", fn := fun _ => fun
  | [d1, d2] => { results := [.lit (.bool true)], args := [d1, d2] }
  | _ => none }
def aesEncryptsRow : OpenClaim := { program := "ytdnggeocdocomaa", sum := "268b300ffd35f3d9f6422e46a1d53bd6c2a37438cd9e0bbefa99d2f59c358d98", func := "downhaul/downhaullaw06.AesEncrypts", spec := "aesEncrypts", apart := false }
def AesEncryptsSaid : Prop := aesEncryptsRow.holds Try.pinned (OpenSpec.ofChange aesEncryptsSpec)

/-- ITS FALSE NEIGHBOUR: 'it returns false'. Refute it at one input. -/
def aesEncryptsWrong : ChangeSpec := { name := "aesEncrypts", fn := fun _ => fun
  | [d1, d2] => { results := [.lit (.bool false)], args := [d1, d2] }
  | _ => none }
def AesEncryptsWrongFalsely : Prop := aesEncryptsRow.holds Try.pinned (OpenSpec.ofChange aesEncryptsWrong)

/-- 'downhaullaw06.AesBytes': WHATEVER THE INPUT: true; the input reads as it did. -/
def aesBytesSpec : ChangeSpec := { name := "aesBytes", fn := fun _ => fun
  | [d1, d2] => { results := [.lit (.bool true)], args := [d1, d2] }
  | _ => none }
def aesBytesRow : OpenClaim := { program := "ytdnggeocdocomaa", sum := "268b300ffd35f3d9f6422e46a1d53bd6c2a37438cd9e0bbefa99d2f59c358d98", func := "downhaul/downhaullaw06.AesBytes", spec := "aesBytes", apart := false }
def AesBytesSaid : Prop := aesBytesRow.holds Try.pinned (OpenSpec.ofChange aesBytesSpec)

/-- ITS FALSE NEIGHBOUR: 'it returns false'. Refute it at one input. -/
def aesBytesWrong : ChangeSpec := { name := "aesBytes", fn := fun _ => fun
  | [d1, d2] => { results := [.lit (.bool false)], args := [d1, d2] }
  | _ => none }
def AesBytesWrongFalsely : Prop := aesBytesRow.holds Try.pinned (OpenSpec.ofChange aesBytesWrong)

/-- 'downhaullaw06.AesBack': WHATEVER THE INPUT: true; the input reads as it did. -/
def aesBackSpec : ChangeSpec := { name := "aesBack", fn := fun _ => fun
  | [d1, d2, d3] => { results := [.lit (.bool true)], args := [d1, d2, d3] }
  | _ => none }
def aesBackRow : OpenClaim := { program := "ytdnggeocdocomaa", sum := "268b300ffd35f3d9f6422e46a1d53bd6c2a37438cd9e0bbefa99d2f59c358d98", func := "downhaul/downhaullaw06.AesBack", spec := "aesBack", apart := false }
def AesBackSaid : Prop := aesBackRow.holds Try.pinned (OpenSpec.ofChange aesBackSpec)

/-- ITS FALSE NEIGHBOUR: 'it returns false'. Refute it at one input. -/
def aesBackWrong : ChangeSpec := { name := "aesBack", fn := fun _ => fun
  | [d1, d2, d3] => { results := [.lit (.bool false)], args := [d1, d2, d3] }
  | _ => none }
def AesBackWrongFalsely : Prop := aesBackRow.holds Try.pinned (OpenSpec.ofChange aesBackWrong)

/-- 'downhaullaw06.AesRounds': WHATEVER THE INPUT: true; the input reads as it did. -/
def aesRoundsSpec : ChangeSpec := { name := "aesRounds", fn := fun _ => fun
  | [d1, d2] => { results := [.lit (.bool true)], args := [d1, d2] }
  | _ => none }
def aesRoundsRow : OpenClaim := { program := "ytdnggeocdocomaa", sum := "268b300ffd35f3d9f6422e46a1d53bd6c2a37438cd9e0bbefa99d2f59c358d98", func := "downhaul/downhaullaw06.AesRounds", spec := "aesRounds", apart := false }
def AesRoundsSaid : Prop := aesRoundsRow.holds Try.pinned (OpenSpec.ofChange aesRoundsSpec)

/-- ITS FALSE NEIGHBOUR: 'it returns false'. Refute it at one input. -/
def aesRoundsWrong : ChangeSpec := { name := "aesRounds", fn := fun _ => fun
  | [d1, d2] => { results := [.lit (.bool false)], args := [d1, d2] }
  | _ => none }
def AesRoundsWrongFalsely : Prop := aesRoundsRow.holds Try.pinned (OpenSpec.ofChange aesRoundsWrong)

/-- 'downhaullaw06.AesZero': WHATEVER THE INPUT: true; the input reads as it did. -/
def aesZeroSpec : ChangeSpec := { name := "aesZero", fn := fun _ => fun
  | [d1, d2] => { results := [.lit (.bool true)], args := [d1, d2] }
  | _ => none }
def aesZeroRow : OpenClaim := { program := "ytdnggeocdocomaa", sum := "268b300ffd35f3d9f6422e46a1d53bd6c2a37438cd9e0bbefa99d2f59c358d98", func := "downhaul/downhaullaw06.AesZero", spec := "aesZero", apart := false }
def AesZeroSaid : Prop := aesZeroRow.holds Try.pinned (OpenSpec.ofChange aesZeroSpec)

/-- ITS FALSE NEIGHBOUR: 'it returns false'. Refute it at one input. -/
def aesZeroWrong : ChangeSpec := { name := "aesZero", fn := fun _ => fun
  | [d1, d2] => { results := [.lit (.bool false)], args := [d1, d2] }
  | _ => none }
def AesZeroWrongFalsely : Prop := aesZeroRow.holds Try.pinned (OpenSpec.ofChange aesZeroWrong)

/-- 'downhaullaw05.HmacKeys': WHATEVER THE INPUT: true; the input reads as it did. -/
def hmacKeysSpec : ChangeSpec := { name := "hmacKeys", fn := fun _ => fun
  | [d1, d2, d3] => { results := [.lit (.bool true)], args := [d1, d2, d3] }
  | _ => none }
def hmacKeysRow : OpenClaim := { program := "ytdnggeocdocomaa", sum := "268b300ffd35f3d9f6422e46a1d53bd6c2a37438cd9e0bbefa99d2f59c358d98", func := "downhaul/downhaullaw05.HmacKeys", spec := "hmacKeys", apart := false }
def HmacKeysSaid : Prop := hmacKeysRow.holds Try.pinned (OpenSpec.ofChange hmacKeysSpec)

/-- ITS FALSE NEIGHBOUR: 'it returns false'. Refute it at one input. -/
def hmacKeysWrong : ChangeSpec := { name := "hmacKeys", fn := fun _ => fun
  | [d1, d2, d3] => { results := [.lit (.bool false)], args := [d1, d2, d3] }
  | _ => none }
def HmacKeysWrongFalsely : Prop := hmacKeysRow.holds Try.pinned (OpenSpec.ofChange hmacKeysWrong)

/-- 'downhaullaw05.HmacOf': WHATEVER THE INPUT: true; the input reads as it did. -/
def hmacOfSpec : ChangeSpec := { name := "hmacOf", fn := fun _ => fun
  | [d1, d2] => { results := [.lit (.bool true)], args := [d1, d2] }
  | _ => none }
def hmacOfRow : OpenClaim := { program := "ytdnggeocdocomaa", sum := "268b300ffd35f3d9f6422e46a1d53bd6c2a37438cd9e0bbefa99d2f59c358d98", func := "downhaul/downhaullaw05.HmacOf", spec := "hmacOf", apart := false }
def HmacOfSaid : Prop := hmacOfRow.holds Try.pinned (OpenSpec.ofChange hmacOfSpec)

/-- ITS FALSE NEIGHBOUR: 'it returns false'. Refute it at one input. -/
def hmacOfWrong : ChangeSpec := { name := "hmacOf", fn := fun _ => fun
  | [d1, d2] => { results := [.lit (.bool false)], args := [d1, d2] }
  | _ => none }
def HmacOfWrongFalsely : Prop := hmacOfRow.holds Try.pinned (OpenSpec.ofChange hmacOfWrong)

/-- 'downhaullaw05.HmacParts': WHATEVER THE INPUT: true; the input reads as it did. -/
def hmacPartsSpec : ChangeSpec := { name := "hmacParts", fn := fun _ => fun
  | [d1, d2] => { results := [.lit (.bool true)], args := [d1, d2] }
  | _ => none }
def hmacPartsRow : OpenClaim := { program := "ytdnggeocdocomaa", sum := "268b300ffd35f3d9f6422e46a1d53bd6c2a37438cd9e0bbefa99d2f59c358d98", func := "downhaul/downhaullaw05.HmacParts", spec := "hmacParts", apart := false }
def HmacPartsSaid : Prop := hmacPartsRow.holds Try.pinned (OpenSpec.ofChange hmacPartsSpec)

/-- ITS FALSE NEIGHBOUR: 'it returns false'. Refute it at one input. -/
def hmacPartsWrong : ChangeSpec := { name := "hmacParts", fn := fun _ => fun
  | [d1, d2] => { results := [.lit (.bool false)], args := [d1, d2] }
  | _ => none }
def HmacPartsWrongFalsely : Prop := hmacPartsRow.holds Try.pinned (OpenSpec.ofChange hmacPartsWrong)

/-- 'downhaullaw05.HmacShort': WHATEVER THE INPUT: true; the input reads as it did. -/
def hmacShortSpec : ChangeSpec := { name := "hmacShort", fn := fun _ => fun
  | [d1, d2] => { results := [.lit (.bool true)], args := [d1, d2] }
  | _ => none }
def hmacShortRow : OpenClaim := { program := "ytdnggeocdocomaa", sum := "268b300ffd35f3d9f6422e46a1d53bd6c2a37438cd9e0bbefa99d2f59c358d98", func := "downhaul/downhaullaw05.HmacShort", spec := "hmacShort", apart := false }
def HmacShortSaid : Prop := hmacShortRow.holds Try.pinned (OpenSpec.ofChange hmacShortSpec)

/-- ITS FALSE NEIGHBOUR: 'it returns false'. Refute it at one input. -/
def hmacShortWrong : ChangeSpec := { name := "hmacShort", fn := fun _ => fun
  | [d1, d2] => { results := [.lit (.bool false)], args := [d1, d2] }
  | _ => none }
def HmacShortWrongFalsely : Prop := hmacShortRow.holds Try.pinned (OpenSpec.ofChange hmacShortWrong)

/-- 'downhaullaw07.CmacBlocks': WHATEVER THE INPUT: true; the input reads as it did. -/
def cmacBlocksSpec : ChangeSpec := { name := "cmacBlocks", fn := fun _ => fun
  | [d1, d2] => { results := [.lit (.bool true)], args := [d1, d2] }
  | _ => none }
def cmacBlocksRow : OpenClaim := { program := "ytdnggeocdocomaa", sum := "268b300ffd35f3d9f6422e46a1d53bd6c2a37438cd9e0bbefa99d2f59c358d98", func := "downhaul/downhaullaw07.CmacBlocks", spec := "cmacBlocks", apart := false }
def CmacBlocksSaid : Prop := cmacBlocksRow.holds Try.pinned (OpenSpec.ofChange cmacBlocksSpec)

/-- ITS FALSE NEIGHBOUR: 'it returns false'. Refute it at one input. -/
def cmacBlocksWrong : ChangeSpec := { name := "cmacBlocks", fn := fun _ => fun
  | [d1, d2] => { results := [.lit (.bool false)], args := [d1, d2] }
  | _ => none }
def CmacBlocksWrongFalsely : Prop := cmacBlocksRow.holds Try.pinned (OpenSpec.ofChange cmacBlocksWrong)

/-- 'downhaullaw07.CmacParts': WHATEVER THE INPUT: true; the input reads as it did. -/
def cmacPartsSpec : ChangeSpec := { name := "cmacParts", fn := fun _ => fun
  | [d1, d2] => { results := [.lit (.bool true)], args := [d1, d2] }
  | _ => none }
def cmacPartsRow : OpenClaim := { program := "ytdnggeocdocomaa", sum := "268b300ffd35f3d9f6422e46a1d53bd6c2a37438cd9e0bbefa99d2f59c358d98", func := "downhaul/downhaullaw07.CmacParts", spec := "cmacParts", apart := false }
def CmacPartsSaid : Prop := cmacPartsRow.holds Try.pinned (OpenSpec.ofChange cmacPartsSpec)

/-- ITS FALSE NEIGHBOUR: 'it returns false'. Refute it at one input. -/
def cmacPartsWrong : ChangeSpec := { name := "cmacParts", fn := fun _ => fun
  | [d1, d2] => { results := [.lit (.bool false)], args := [d1, d2] }
  | _ => none }
def CmacPartsWrongFalsely : Prop := cmacPartsRow.holds Try.pinned (OpenSpec.ofChange cmacPartsWrong)

/-- 'downhaullaw07.CmacFilled': WHATEVER THE INPUT: true; the input reads as it did. -/
def cmacFilledSpec : ChangeSpec := { name := "cmacFilled", fn := fun _ => fun
  | [d1, d2] => { results := [.lit (.bool true)], args := [d1, d2] }
  | _ => none }
def cmacFilledRow : OpenClaim := { program := "ytdnggeocdocomaa", sum := "268b300ffd35f3d9f6422e46a1d53bd6c2a37438cd9e0bbefa99d2f59c358d98", func := "downhaul/downhaullaw07.CmacFilled", spec := "cmacFilled", apart := false }
def CmacFilledSaid : Prop := cmacFilledRow.holds Try.pinned (OpenSpec.ofChange cmacFilledSpec)

/-- ITS FALSE NEIGHBOUR: 'it returns false'. Refute it at one input. -/
def cmacFilledWrong : ChangeSpec := { name := "cmacFilled", fn := fun _ => fun
  | [d1, d2] => { results := [.lit (.bool false)], args := [d1, d2] }
  | _ => none }
def CmacFilledWrongFalsely : Prop := cmacFilledRow.holds Try.pinned (OpenSpec.ofChange cmacFilledWrong)

/-- 'downhaullaw07.CmacDoubles': WHATEVER THE INPUT: true; the input reads as it did. -/
def cmacDoublesSpec : ChangeSpec := { name := "cmacDoubles", fn := fun _ => fun
  | [d1, d2] => { results := [.lit (.bool true)], args := [d1, d2] }
  | _ => none }
def cmacDoublesRow : OpenClaim := { program := "ytdnggeocdocomaa", sum := "268b300ffd35f3d9f6422e46a1d53bd6c2a37438cd9e0bbefa99d2f59c358d98", func := "downhaul/downhaullaw07.CmacDoubles", spec := "cmacDoubles", apart := false }
def CmacDoublesSaid : Prop := cmacDoublesRow.holds Try.pinned (OpenSpec.ofChange cmacDoublesSpec)

/-- ITS FALSE NEIGHBOUR: 'it returns false'. Refute it at one input. -/
def cmacDoublesWrong : ChangeSpec := { name := "cmacDoubles", fn := fun _ => fun
  | [d1, d2] => { results := [.lit (.bool false)], args := [d1, d2] }
  | _ => none }
def CmacDoublesWrongFalsely : Prop := cmacDoublesRow.holds Try.pinned (OpenSpec.ofChange cmacDoublesWrong)

/-- 'downhaullaw07.CmacOf': WHATEVER THE INPUT: true; the input reads as it did. -/
def cmacOfSpec : ChangeSpec := { name := "cmacOf", fn := fun _ => fun
  | [d1, d2] => { results := [.lit (.bool true)], args := [d1, d2] }
  | _ => none }
def cmacOfRow : OpenClaim := { program := "ytdnggeocdocomaa", sum := "268b300ffd35f3d9f6422e46a1d53bd6c2a37438cd9e0bbefa99d2f59c358d98", func := "downhaul/downhaullaw07.CmacOf", spec := "cmacOf", apart := false }
def CmacOfSaid : Prop := cmacOfRow.holds Try.pinned (OpenSpec.ofChange cmacOfSpec)

/-- ITS FALSE NEIGHBOUR: 'it returns false'. Refute it at one input. -/
def cmacOfWrong : ChangeSpec := { name := "cmacOf", fn := fun _ => fun
  | [d1, d2] => { results := [.lit (.bool false)], args := [d1, d2] }
  | _ => none }
def CmacOfWrongFalsely : Prop := cmacOfRow.holds Try.pinned (OpenSpec.ofChange cmacOfWrong)

/-- 'downhaullaw08.KdfKeys': WHATEVER THE INPUT: true; the input reads as it did. -/
def kdfKeysSpec : ChangeSpec := { name := "kdfKeys", fn := fun _ => fun
  | [d1, d2, d3] => { results := [.lit (.bool true)], args := [d1, d2, d3] }
  | _ => none }
def kdfKeysRow : OpenClaim := { program := "ytdnggeocdocomaa", sum := "268b300ffd35f3d9f6422e46a1d53bd6c2a37438cd9e0bbefa99d2f59c358d98", func := "downhaul/downhaullaw08.KdfKeys", spec := "kdfKeys", apart := false }
def KdfKeysSaid : Prop := kdfKeysRow.holds Try.pinned (OpenSpec.ofChange kdfKeysSpec)

/-- ITS FALSE NEIGHBOUR: 'it returns false'. Refute it at one input. -/
def kdfKeysWrong : ChangeSpec := { name := "kdfKeys", fn := fun _ => fun
  | [d1, d2, d3] => { results := [.lit (.bool false)], args := [d1, d2, d3] }
  | _ => none }
def KdfKeysWrongFalsely : Prop := kdfKeysRow.holds Try.pinned (OpenSpec.ofChange kdfKeysWrong)

/-- 'downhaullaw08.KdfMacs': WHATEVER THE INPUT: true; the input reads as it did. -/
def kdfMacsSpec : ChangeSpec := { name := "kdfMacs", fn := fun _ => fun
  | [d1, d2, d3] => { results := [.lit (.bool true)], args := [d1, d2, d3] }
  | _ => none }
def kdfMacsRow : OpenClaim := { program := "ytdnggeocdocomaa", sum := "268b300ffd35f3d9f6422e46a1d53bd6c2a37438cd9e0bbefa99d2f59c358d98", func := "downhaul/downhaullaw08.KdfMacs", spec := "kdfMacs", apart := false }
def KdfMacsSaid : Prop := kdfMacsRow.holds Try.pinned (OpenSpec.ofChange kdfMacsSpec)

/-- ITS FALSE NEIGHBOUR: 'it returns false'. Refute it at one input. -/
def kdfMacsWrong : ChangeSpec := { name := "kdfMacs", fn := fun _ => fun
  | [d1, d2, d3] => { results := [.lit (.bool false)], args := [d1, d2, d3] }
  | _ => none }
def KdfMacsWrongFalsely : Prop := kdfMacsRow.holds Try.pinned (OpenSpec.ofChange kdfMacsWrong)

/-- 'downhaullaw08.KdfSizes': WHATEVER THE INPUT: true; the input reads as it did. -/
def kdfSizesSpec : ChangeSpec := { name := "kdfSizes", fn := fun _ => fun
  | [d1, d2, d3] => { results := [.lit (.bool true)], args := [d1, d2, d3] }
  | _ => none }
def kdfSizesRow : OpenClaim := { program := "ytdnggeocdocomaa", sum := "268b300ffd35f3d9f6422e46a1d53bd6c2a37438cd9e0bbefa99d2f59c358d98", func := "downhaul/downhaullaw08.KdfSizes", spec := "kdfSizes", apart := false }
def KdfSizesSaid : Prop := kdfSizesRow.holds Try.pinned (OpenSpec.ofChange kdfSizesSpec)

/-- ITS FALSE NEIGHBOUR: 'it returns false'. Refute it at one input. -/
def kdfSizesWrong : ChangeSpec := { name := "kdfSizes", fn := fun _ => fun
  | [d1, d2, d3] => { results := [.lit (.bool false)], args := [d1, d2, d3] }
  | _ => none }
def KdfSizesWrongFalsely : Prop := kdfSizesRow.holds Try.pinned (OpenSpec.ofChange kdfSizesWrong)

/-- 'downhaullaw08.KdfContexts': WHATEVER THE INPUT: true; the input reads as it did. -/
def kdfContextsSpec : ChangeSpec := { name := "kdfContexts", fn := fun _ => fun
  | [d1, d2, d3] => { results := [.lit (.bool true)], args := [d1, d2, d3] }
  | _ => none }
def kdfContextsRow : OpenClaim := { program := "ytdnggeocdocomaa", sum := "268b300ffd35f3d9f6422e46a1d53bd6c2a37438cd9e0bbefa99d2f59c358d98", func := "downhaul/downhaullaw08.KdfContexts", spec := "kdfContexts", apart := false }
def KdfContextsSaid : Prop := kdfContextsRow.holds Try.pinned (OpenSpec.ofChange kdfContextsSpec)

/-- ITS FALSE NEIGHBOUR: 'it returns false'. Refute it at one input. -/
def kdfContextsWrong : ChangeSpec := { name := "kdfContexts", fn := fun _ => fun
  | [d1, d2, d3] => { results := [.lit (.bool false)], args := [d1, d2, d3] }
  | _ => none }
def KdfContextsWrongFalsely : Prop := kdfContextsRow.holds Try.pinned (OpenSpec.ofChange kdfContextsWrong)

/-- 'downhaullaw08.KdfTurned': WHATEVER THE INPUT: true; the input reads as it did. -/
def kdfTurnedSpec : ChangeSpec := { name := "kdfTurned", fn := fun _ => fun
  | [d1, d2, d3] => { results := [.lit (.bool true)], args := [d1, d2, d3] }
  | _ => none }
def kdfTurnedRow : OpenClaim := { program := "ytdnggeocdocomaa", sum := "268b300ffd35f3d9f6422e46a1d53bd6c2a37438cd9e0bbefa99d2f59c358d98", func := "downhaul/downhaullaw08.KdfTurned", spec := "kdfTurned", apart := false }
def KdfTurnedSaid : Prop := kdfTurnedRow.holds Try.pinned (OpenSpec.ofChange kdfTurnedSpec)

/-- ITS FALSE NEIGHBOUR: 'it returns false'. Refute it at one input. -/
def kdfTurnedWrong : ChangeSpec := { name := "kdfTurned", fn := fun _ => fun
  | [d1, d2, d3] => { results := [.lit (.bool false)], args := [d1, d2, d3] }
  | _ => none }
def KdfTurnedWrongFalsely : Prop := kdfTurnedRow.holds Try.pinned (OpenSpec.ofChange kdfTurnedWrong)

/-- 'downhaullaw08.KdfApart': WHATEVER THE INPUT: true; the input reads as it did. -/
def kdfApartSpec : ChangeSpec := { name := "kdfApart", fn := fun _ => fun
  | [d1, d2, d3] => { results := [.lit (.bool true)], args := [d1, d2, d3] }
  | _ => none }
def kdfApartRow : OpenClaim := { program := "ytdnggeocdocomaa", sum := "268b300ffd35f3d9f6422e46a1d53bd6c2a37438cd9e0bbefa99d2f59c358d98", func := "downhaul/downhaullaw08.KdfApart", spec := "kdfApart", unfollowed := true, recurses := true, apart := false }
def KdfApartSaid : Prop := kdfApartRow.holds Try.pinned (OpenSpec.ofChange kdfApartSpec)

/-- ITS FALSE NEIGHBOUR: 'it returns false'. Refute it at one input. -/
def kdfApartWrong : ChangeSpec := { name := "kdfApart", fn := fun _ => fun
  | [d1, d2, d3] => { results := [.lit (.bool false)], args := [d1, d2, d3] }
  | _ => none }
def KdfApartWrongFalsely : Prop := kdfApartRow.holds Try.pinned (OpenSpec.ofChange kdfApartWrong)

/-- 'downhaullaw20.AoTraffic': WHATEVER THE INPUT: true; the input reads as it did. -/
def aoTrafficSpec : ChangeSpec := { name := "aoTraffic", fn := fun _ => fun
  | [d] => { results := [.lit (.bool true)], args := [d] }
  | _ => none }
def aoTrafficRow : OpenClaim := { program := "ytdnggeocdocomaa", sum := "268b300ffd35f3d9f6422e46a1d53bd6c2a37438cd9e0bbefa99d2f59c358d98", func := "downhaul/downhaullaw20.AoTraffic", spec := "aoTraffic", unfollowed := true, recurses := true, apart := false }
def AoTrafficSaid : Prop := aoTrafficRow.holds Try.pinned (OpenSpec.ofChange aoTrafficSpec)

/-- ITS FALSE NEIGHBOUR: 'it returns false'. Refute it at one input. -/
def aoTrafficWrong : ChangeSpec := { name := "aoTraffic", fn := fun _ => fun
  | [d] => { results := [.lit (.bool false)], args := [d] }
  | _ => none }
def AoTrafficWrongFalsely : Prop := aoTrafficRow.holds Try.pinned (OpenSpec.ofChange aoTrafficWrong)

/-- 'downhaullaw20.AoEnds': WHATEVER THE INPUT: true; the input reads as it did. -/
def aoEndsSpec : ChangeSpec := { name := "aoEnds", fn := fun _ => fun
  | [d1, d2, d3] => { results := [.lit (.bool true)], args := [d1, d2, d3] }
  | _ => none }
def aoEndsRow : OpenClaim := { program := "ytdnggeocdocomaa", sum := "268b300ffd35f3d9f6422e46a1d53bd6c2a37438cd9e0bbefa99d2f59c358d98", func := "downhaul/downhaullaw20.AoEnds", spec := "aoEnds", unfollowed := true, recurses := true, apart := false }
def AoEndsSaid : Prop := aoEndsRow.holds Try.pinned (OpenSpec.ofChange aoEndsSpec)

/-- ITS FALSE NEIGHBOUR: 'it returns false'. Refute it at one input. -/
def aoEndsWrong : ChangeSpec := { name := "aoEnds", fn := fun _ => fun
  | [d1, d2, d3] => { results := [.lit (.bool false)], args := [d1, d2, d3] }
  | _ => none }
def AoEndsWrongFalsely : Prop := aoEndsRow.holds Try.pinned (OpenSpec.ofChange aoEndsWrong)

/- THE SECOND FORM. 'bulk': how many values and letters a reading holds, each counted each time it is reached (what is shared counts as often as it is met; a slice's spare places count too). A statement '..UptoSaid' is the law's where the arguments, and the package variables that the reading takes, are together of bulk at most 1048576: NARROWER than '..Said'. Prove '..Said' where nothing that the law and all that it calls make is longer than what came in: it says more and counts as full. Else prove '..UptoSaid'. A law counts once. -/
mutual
def uptoBulk {H : Type} : DataW H → Nat
  | .lit (.string bytes) => bytes.length + 1
  | .lit _ => 1
  | .nil => 1
  | .ptr d => uptoBulk d + 1
  | .slice elems spare => uptoBulkAll elems + uptoBulkAll spare + 1
  | .agg parts => uptoBulkAll parts + 1
  | .iface _ d => uptoBulk d + 1
  | .map entries => uptoBulkEntries entries + 1
  | .held _ => 1
def uptoBulkAll {H : Type} : List (DataW H) → Nat
  | [] => 0
  | d :: r => uptoBulk d + uptoBulkAll r
def uptoBulkEntries {H : Type} : List (Lit × DataW H) → Nat
  | [] => 0
  | x :: r => uptoBulkEntry x + uptoBulkEntries r
def uptoBulkEntry {H : Type} : Lit × DataW H → Nat
  | (.string bytes, d) => bytes.length + uptoBulk d + 1
  | (_, d) => uptoBulk d + 1
 end
def uptoSmall : (H : Type) → List (DataW H) → Bool := fun _ ds => decide (uptoBulkAll ds ≤ 1048576)
def OpenSpec.upto (s : _root_.Go.ChangeSpec) : _root_.Go.OpenSpec := { _root_.Go.OpenSpec.ofChange s with cond := some uptoSmall }

/-- 'downhaullaw20.AoAgain', WHERE WHAT IT READS IS OF BULK AT MOST 1048576: true; the input reads as it did. -/
def aoAgainUptoRow : OpenClaim := { program := "ytdnggeocdocomaa", sum := "268b300ffd35f3d9f6422e46a1d53bd6c2a37438cd9e0bbefa99d2f59c358d98", func := "downhaul/downhaullaw20.AoAgain", spec := "aoAgain", unfollowed := true, recurses := true, apart := false, narrowed := true }
def AoAgainUptoSaid : Prop := aoAgainUptoRow.holds Try.pinned (OpenSpec.upto aoAgainSpec)

/-- 'downhaullaw04.ShaOf', WHERE WHAT IT READS IS OF BULK AT MOST 1048576: true; the input reads as it did. -/
def shaOfUptoRow : OpenClaim := { program := "ytdnggeocdocomaa", sum := "268b300ffd35f3d9f6422e46a1d53bd6c2a37438cd9e0bbefa99d2f59c358d98", func := "downhaul/downhaullaw04.ShaOf", spec := "shaOf", apart := false, narrowed := true }
def ShaOfUptoSaid : Prop := shaOfUptoRow.holds Try.pinned (OpenSpec.upto shaOfSpec)

/-- 'downhaullaw04.ShaParts', WHERE WHAT IT READS IS OF BULK AT MOST 1048576: true; the input reads as it did. -/
def shaPartsUptoRow : OpenClaim := { program := "ytdnggeocdocomaa", sum := "268b300ffd35f3d9f6422e46a1d53bd6c2a37438cd9e0bbefa99d2f59c358d98", func := "downhaul/downhaullaw04.ShaParts", spec := "shaParts", apart := false, narrowed := true }
def ShaPartsUptoSaid : Prop := shaPartsUptoRow.holds Try.pinned (OpenSpec.upto shaPartsSpec)

/-- 'downhaullaw04.ShaCuts', WHERE WHAT IT READS IS OF BULK AT MOST 1048576: true; the input reads as it did. -/
def shaCutsUptoRow : OpenClaim := { program := "ytdnggeocdocomaa", sum := "268b300ffd35f3d9f6422e46a1d53bd6c2a37438cd9e0bbefa99d2f59c358d98", func := "downhaul/downhaullaw04.ShaCuts", spec := "shaCuts", apart := false, narrowed := true }
def ShaCutsUptoSaid : Prop := shaCutsUptoRow.holds Try.pinned (OpenSpec.upto shaCutsSpec)

/-- 'downhaullaw04.ShaApart', WHERE WHAT IT READS IS OF BULK AT MOST 1048576: true; the input reads as it did. -/
def shaApartUptoRow : OpenClaim := { program := "ytdnggeocdocomaa", sum := "268b300ffd35f3d9f6422e46a1d53bd6c2a37438cd9e0bbefa99d2f59c358d98", func := "downhaul/downhaullaw04.ShaApart", spec := "shaApart", apart := false, narrowed := true }
def ShaApartUptoSaid : Prop := shaApartUptoRow.holds Try.pinned (OpenSpec.upto shaApartSpec)

/-- 'downhaullaw20.AoApart', WHERE WHAT IT READS IS OF BULK AT MOST 1048576: true; the input reads as it did. -/
def aoApartUptoRow : OpenClaim := { program := "ytdnggeocdocomaa", sum := "268b300ffd35f3d9f6422e46a1d53bd6c2a37438cd9e0bbefa99d2f59c358d98", func := "downhaul/downhaullaw20.AoApart", spec := "aoApart", unfollowed := true, recurses := true, apart := false, narrowed := true }
def AoApartUptoSaid : Prop := aoApartUptoRow.holds Try.pinned (OpenSpec.upto aoApartSpec)

/-- 'downhaullaw06.AesEncrypts', WHERE WHAT IT READS IS OF BULK AT MOST 1048576: true; the input reads as it did. -/
def aesEncryptsUptoRow : OpenClaim := { program := "ytdnggeocdocomaa", sum := "268b300ffd35f3d9f6422e46a1d53bd6c2a37438cd9e0bbefa99d2f59c358d98", func := "downhaul/downhaullaw06.AesEncrypts", spec := "aesEncrypts", apart := false, narrowed := true }
def AesEncryptsUptoSaid : Prop := aesEncryptsUptoRow.holds Try.pinned (OpenSpec.upto aesEncryptsSpec)

/-- 'downhaullaw06.AesBytes', WHERE WHAT IT READS IS OF BULK AT MOST 1048576: true; the input reads as it did. -/
def aesBytesUptoRow : OpenClaim := { program := "ytdnggeocdocomaa", sum := "268b300ffd35f3d9f6422e46a1d53bd6c2a37438cd9e0bbefa99d2f59c358d98", func := "downhaul/downhaullaw06.AesBytes", spec := "aesBytes", apart := false, narrowed := true }
def AesBytesUptoSaid : Prop := aesBytesUptoRow.holds Try.pinned (OpenSpec.upto aesBytesSpec)

/-- 'downhaullaw06.AesBack', WHERE WHAT IT READS IS OF BULK AT MOST 1048576: true; the input reads as it did. -/
def aesBackUptoRow : OpenClaim := { program := "ytdnggeocdocomaa", sum := "268b300ffd35f3d9f6422e46a1d53bd6c2a37438cd9e0bbefa99d2f59c358d98", func := "downhaul/downhaullaw06.AesBack", spec := "aesBack", apart := false, narrowed := true }
def AesBackUptoSaid : Prop := aesBackUptoRow.holds Try.pinned (OpenSpec.upto aesBackSpec)

/-- 'downhaullaw06.AesRounds', WHERE WHAT IT READS IS OF BULK AT MOST 1048576: true; the input reads as it did. -/
def aesRoundsUptoRow : OpenClaim := { program := "ytdnggeocdocomaa", sum := "268b300ffd35f3d9f6422e46a1d53bd6c2a37438cd9e0bbefa99d2f59c358d98", func := "downhaul/downhaullaw06.AesRounds", spec := "aesRounds", apart := false, narrowed := true }
def AesRoundsUptoSaid : Prop := aesRoundsUptoRow.holds Try.pinned (OpenSpec.upto aesRoundsSpec)

/-- 'downhaullaw06.AesZero', WHERE WHAT IT READS IS OF BULK AT MOST 1048576: true; the input reads as it did. -/
def aesZeroUptoRow : OpenClaim := { program := "ytdnggeocdocomaa", sum := "268b300ffd35f3d9f6422e46a1d53bd6c2a37438cd9e0bbefa99d2f59c358d98", func := "downhaul/downhaullaw06.AesZero", spec := "aesZero", apart := false, narrowed := true }
def AesZeroUptoSaid : Prop := aesZeroUptoRow.holds Try.pinned (OpenSpec.upto aesZeroSpec)

/-- 'downhaullaw05.HmacKeys', WHERE WHAT IT READS IS OF BULK AT MOST 1048576: true; the input reads as it did. -/
def hmacKeysUptoRow : OpenClaim := { program := "ytdnggeocdocomaa", sum := "268b300ffd35f3d9f6422e46a1d53bd6c2a37438cd9e0bbefa99d2f59c358d98", func := "downhaul/downhaullaw05.HmacKeys", spec := "hmacKeys", apart := false, narrowed := true }
def HmacKeysUptoSaid : Prop := hmacKeysUptoRow.holds Try.pinned (OpenSpec.upto hmacKeysSpec)

/-- 'downhaullaw05.HmacOf', WHERE WHAT IT READS IS OF BULK AT MOST 1048576: true; the input reads as it did. -/
def hmacOfUptoRow : OpenClaim := { program := "ytdnggeocdocomaa", sum := "268b300ffd35f3d9f6422e46a1d53bd6c2a37438cd9e0bbefa99d2f59c358d98", func := "downhaul/downhaullaw05.HmacOf", spec := "hmacOf", apart := false, narrowed := true }
def HmacOfUptoSaid : Prop := hmacOfUptoRow.holds Try.pinned (OpenSpec.upto hmacOfSpec)

/-- 'downhaullaw05.HmacParts', WHERE WHAT IT READS IS OF BULK AT MOST 1048576: true; the input reads as it did. -/
def hmacPartsUptoRow : OpenClaim := { program := "ytdnggeocdocomaa", sum := "268b300ffd35f3d9f6422e46a1d53bd6c2a37438cd9e0bbefa99d2f59c358d98", func := "downhaul/downhaullaw05.HmacParts", spec := "hmacParts", apart := false, narrowed := true }
def HmacPartsUptoSaid : Prop := hmacPartsUptoRow.holds Try.pinned (OpenSpec.upto hmacPartsSpec)

/-- 'downhaullaw05.HmacShort', WHERE WHAT IT READS IS OF BULK AT MOST 1048576: true; the input reads as it did. -/
def hmacShortUptoRow : OpenClaim := { program := "ytdnggeocdocomaa", sum := "268b300ffd35f3d9f6422e46a1d53bd6c2a37438cd9e0bbefa99d2f59c358d98", func := "downhaul/downhaullaw05.HmacShort", spec := "hmacShort", apart := false, narrowed := true }
def HmacShortUptoSaid : Prop := hmacShortUptoRow.holds Try.pinned (OpenSpec.upto hmacShortSpec)

/-- 'downhaullaw07.CmacBlocks', WHERE WHAT IT READS IS OF BULK AT MOST 1048576: true; the input reads as it did. -/
def cmacBlocksUptoRow : OpenClaim := { program := "ytdnggeocdocomaa", sum := "268b300ffd35f3d9f6422e46a1d53bd6c2a37438cd9e0bbefa99d2f59c358d98", func := "downhaul/downhaullaw07.CmacBlocks", spec := "cmacBlocks", apart := false, narrowed := true }
def CmacBlocksUptoSaid : Prop := cmacBlocksUptoRow.holds Try.pinned (OpenSpec.upto cmacBlocksSpec)

/-- 'downhaullaw07.CmacParts', WHERE WHAT IT READS IS OF BULK AT MOST 1048576: true; the input reads as it did. -/
def cmacPartsUptoRow : OpenClaim := { program := "ytdnggeocdocomaa", sum := "268b300ffd35f3d9f6422e46a1d53bd6c2a37438cd9e0bbefa99d2f59c358d98", func := "downhaul/downhaullaw07.CmacParts", spec := "cmacParts", apart := false, narrowed := true }
def CmacPartsUptoSaid : Prop := cmacPartsUptoRow.holds Try.pinned (OpenSpec.upto cmacPartsSpec)

/-- 'downhaullaw07.CmacFilled', WHERE WHAT IT READS IS OF BULK AT MOST 1048576: true; the input reads as it did. -/
def cmacFilledUptoRow : OpenClaim := { program := "ytdnggeocdocomaa", sum := "268b300ffd35f3d9f6422e46a1d53bd6c2a37438cd9e0bbefa99d2f59c358d98", func := "downhaul/downhaullaw07.CmacFilled", spec := "cmacFilled", apart := false, narrowed := true }
def CmacFilledUptoSaid : Prop := cmacFilledUptoRow.holds Try.pinned (OpenSpec.upto cmacFilledSpec)

/-- 'downhaullaw07.CmacDoubles', WHERE WHAT IT READS IS OF BULK AT MOST 1048576: true; the input reads as it did. -/
def cmacDoublesUptoRow : OpenClaim := { program := "ytdnggeocdocomaa", sum := "268b300ffd35f3d9f6422e46a1d53bd6c2a37438cd9e0bbefa99d2f59c358d98", func := "downhaul/downhaullaw07.CmacDoubles", spec := "cmacDoubles", apart := false, narrowed := true }
def CmacDoublesUptoSaid : Prop := cmacDoublesUptoRow.holds Try.pinned (OpenSpec.upto cmacDoublesSpec)

/-- 'downhaullaw07.CmacOf', WHERE WHAT IT READS IS OF BULK AT MOST 1048576: true; the input reads as it did. -/
def cmacOfUptoRow : OpenClaim := { program := "ytdnggeocdocomaa", sum := "268b300ffd35f3d9f6422e46a1d53bd6c2a37438cd9e0bbefa99d2f59c358d98", func := "downhaul/downhaullaw07.CmacOf", spec := "cmacOf", apart := false, narrowed := true }
def CmacOfUptoSaid : Prop := cmacOfUptoRow.holds Try.pinned (OpenSpec.upto cmacOfSpec)

/-- 'downhaullaw08.KdfKeys', WHERE WHAT IT READS IS OF BULK AT MOST 1048576: true; the input reads as it did. -/
def kdfKeysUptoRow : OpenClaim := { program := "ytdnggeocdocomaa", sum := "268b300ffd35f3d9f6422e46a1d53bd6c2a37438cd9e0bbefa99d2f59c358d98", func := "downhaul/downhaullaw08.KdfKeys", spec := "kdfKeys", apart := false, narrowed := true }
def KdfKeysUptoSaid : Prop := kdfKeysUptoRow.holds Try.pinned (OpenSpec.upto kdfKeysSpec)

/-- 'downhaullaw08.KdfMacs', WHERE WHAT IT READS IS OF BULK AT MOST 1048576: true; the input reads as it did. -/
def kdfMacsUptoRow : OpenClaim := { program := "ytdnggeocdocomaa", sum := "268b300ffd35f3d9f6422e46a1d53bd6c2a37438cd9e0bbefa99d2f59c358d98", func := "downhaul/downhaullaw08.KdfMacs", spec := "kdfMacs", apart := false, narrowed := true }
def KdfMacsUptoSaid : Prop := kdfMacsUptoRow.holds Try.pinned (OpenSpec.upto kdfMacsSpec)

/-- 'downhaullaw08.KdfSizes', WHERE WHAT IT READS IS OF BULK AT MOST 1048576: true; the input reads as it did. -/
def kdfSizesUptoRow : OpenClaim := { program := "ytdnggeocdocomaa", sum := "268b300ffd35f3d9f6422e46a1d53bd6c2a37438cd9e0bbefa99d2f59c358d98", func := "downhaul/downhaullaw08.KdfSizes", spec := "kdfSizes", apart := false, narrowed := true }
def KdfSizesUptoSaid : Prop := kdfSizesUptoRow.holds Try.pinned (OpenSpec.upto kdfSizesSpec)

/-- 'downhaullaw08.KdfContexts', WHERE WHAT IT READS IS OF BULK AT MOST 1048576: true; the input reads as it did. -/
def kdfContextsUptoRow : OpenClaim := { program := "ytdnggeocdocomaa", sum := "268b300ffd35f3d9f6422e46a1d53bd6c2a37438cd9e0bbefa99d2f59c358d98", func := "downhaul/downhaullaw08.KdfContexts", spec := "kdfContexts", apart := false, narrowed := true }
def KdfContextsUptoSaid : Prop := kdfContextsUptoRow.holds Try.pinned (OpenSpec.upto kdfContextsSpec)

/-- 'downhaullaw08.KdfTurned', WHERE WHAT IT READS IS OF BULK AT MOST 1048576: true; the input reads as it did. -/
def kdfTurnedUptoRow : OpenClaim := { program := "ytdnggeocdocomaa", sum := "268b300ffd35f3d9f6422e46a1d53bd6c2a37438cd9e0bbefa99d2f59c358d98", func := "downhaul/downhaullaw08.KdfTurned", spec := "kdfTurned", apart := false, narrowed := true }
def KdfTurnedUptoSaid : Prop := kdfTurnedUptoRow.holds Try.pinned (OpenSpec.upto kdfTurnedSpec)

/-- 'downhaullaw08.KdfApart', WHERE WHAT IT READS IS OF BULK AT MOST 1048576: true; the input reads as it did. -/
def kdfApartUptoRow : OpenClaim := { program := "ytdnggeocdocomaa", sum := "268b300ffd35f3d9f6422e46a1d53bd6c2a37438cd9e0bbefa99d2f59c358d98", func := "downhaul/downhaullaw08.KdfApart", spec := "kdfApart", unfollowed := true, recurses := true, apart := false, narrowed := true }
def KdfApartUptoSaid : Prop := kdfApartUptoRow.holds Try.pinned (OpenSpec.upto kdfApartSpec)

/-- 'downhaullaw20.AoTraffic', WHERE WHAT IT READS IS OF BULK AT MOST 1048576: true; the input reads as it did. -/
def aoTrafficUptoRow : OpenClaim := { program := "ytdnggeocdocomaa", sum := "268b300ffd35f3d9f6422e46a1d53bd6c2a37438cd9e0bbefa99d2f59c358d98", func := "downhaul/downhaullaw20.AoTraffic", spec := "aoTraffic", unfollowed := true, recurses := true, apart := false, narrowed := true }
def AoTrafficUptoSaid : Prop := aoTrafficUptoRow.holds Try.pinned (OpenSpec.upto aoTrafficSpec)

/-- 'downhaullaw20.AoEnds', WHERE WHAT IT READS IS OF BULK AT MOST 1048576: true; the input reads as it did. -/
def aoEndsUptoRow : OpenClaim := { program := "ytdnggeocdocomaa", sum := "268b300ffd35f3d9f6422e46a1d53bd6c2a37438cd9e0bbefa99d2f59c358d98", func := "downhaul/downhaullaw20.AoEnds", spec := "aoEnds", unfollowed := true, recurses := true, apart := false, narrowed := true }
def AoEndsUptoSaid : Prop := aoEndsUptoRow.holds Try.pinned (OpenSpec.upto aoEndsSpec)

end Rows
end Go.Proofs.Ytdnggeocdocomaa
