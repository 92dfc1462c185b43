/- Walks of functions, each by evaluation: what each returns; with the layer beneath. -/
import Derived.Test.YtdnggeocdocomaaJB
import Derived.Test.YtdnggeocdocomaaLC
import Derived.Test.YtdnggeocdocomaaJA
set_option linter.unusedVariables false
set_option linter.unusedSimpArgs false
noncomputable section
namespace DH
set_option maxRecDepth 100000
open List (take drop replicate)
open AC renaming u8 → U8, u16 → U16, u32 → U32, u64 → U64, i64 → I64, b → Bb, xs → XS, gs → GS, sv → SV, ptr → PT, any → AY, ns → NS
open AV renaming one → O1, agg → AG, tup → TU
open Go Go.Proofs
end DH
noncomputable section
namespace DH
set_option maxRecDepth 100000
open List (take drop replicate)
open AC renaming u8 → U8, u16 → U16, u32 → U32, u64 → U64, i64 → I64, b → Bb, xs → XS, gs → GS, sv → SV, ptr → PT, any → AY, ns → NS
open AV renaming one → O1, agg → AG, tup → TU
open Go Go.Proofs
def keyOf (cs : List AC) : List (BitVec 8) := (List.map asU8 cs).take 16
theorem keyOf_ex (key : List (BitVec 8)) (hk : key.length = 16) : keyOf ((exL key 176).map U8) = key := by
 unfold keyOf
 rw [map_as8]
 apply List.ext_getElem (by rw [List.length_take, exL_len, hk]; omega)
 intro j h1 h2
 have := eat_lo key (j := j) (by omega)
 rw [← E_get key (by omega), List.getD_eq_getElem?_getD, List.getD_eq_getElem?_getD, List.getElem?_eq_getElem h2, List.getElem?_eq_getElem (by rw [exL_len]; omega)] at this
 rw [List.getElem_take]
 exact this
noncomputable def T14 : Tab := fun f xs => match f, xs with
 | 45, [.agg (.b true :: cs), .agg bs] => some ([cs = (exL (keyOf cs) 176).map U8 ∧ (keyOf cs).length = 16 ∧ allU8 bs ∧ bs.length = 16], .agg (hide ((encF (keyOf cs) (bs.map asU8)).map U8)))
 | 45, [.agg (.b false :: cs), .agg bs] => some ([allU8 cs ∧ cs.length = 176 ∧ allU8 bs ∧ bs.length = 16], .agg (hide ((encF zkey (bs.map asU8)).map U8)))
 | f, xs => T13 f xs
theorem T14_ok : TabOk Try.prog T14 := by
 intro f xs cs r h hc
 unfold T14 at h
 split at h
 ·obtain ⟨rfl, rfl⟩ := Prod.mk.inj (Option.some.inj h)
  obtain ⟨h1, h2, h3, h4⟩ := hc.1
  rename_i cs bs
  have := s45t (keyOf cs) (bs.map asU8) (by rw [List.length_map]; exact h4)
  unfold kc at this
  rw [← h1, ← h3] at this
  rw [hide_eq]
  exact ⟨⟨_, _, ok45⟩, this, exactL_map _ (fun _ => rfl) _⟩
 ·obtain ⟨rfl, rfl⟩ := Prod.mk.inj (Option.some.inj h)
  obtain ⟨h1, h2, h3, h4⟩ := hc.1
  rename_i cs bs
  have := s45f (cs.map asU8) (by rw [List.length_map]; exact h2) (bs.map asU8) (by rw [List.length_map]; exact h4)
  unfold kc at this
  rw [← h1, ← h3] at this
  rw [hide_eq]
  exact ⟨⟨_, _, ok45⟩, this, exactL_map _ (fun _ => rfl) _⟩
 ·exact T13_ok _ _ _ _ h hc
end DH
noncomputable section
namespace DH
set_option maxRecDepth 100000
open List (take drop replicate)
open AC renaming u8 → U8, u16 → U16, u32 → U32, u64 → U64, i64 → I64, b → Bb, xs → XS, gs → GS, sv → SV, ptr → PT, any → AY, ns → NS
open AV renaming one → O1, agg → AG, tup → TU
open Go Go.Proofs
noncomputable def T15 : Tab := T14
theorem T15_ok : TabOk Try.prog T15 := T14_ok
end DH
noncomputable section
namespace DH
set_option maxRecDepth 100000
open List (take drop replicate)
open AC renaming u8 → U8, u16 → U16, u32 → U32, u64 → U64, i64 → I64, b → Bb, xs → XS, gs → GS, sv → SV, ptr → PT, any → AY, ns → NS
open AV renaming one → O1, agg → AG, tup → TU
open Go Go.Proofs
noncomputable def T16 : Tab := T15
theorem T16_ok : TabOk Try.prog T16 := T15_ok
theorem encF_len (key b : List (BitVec 8)) : (encF key b).length = 16 := encN_len _ _ _
end DH
noncomputable section
namespace DH
set_option maxRecDepth 100000
open List (take drop replicate)
open AC renaming u8 → U8, u16 → U16, u32 → U32, u64 → U64, i64 → I64, b → Bb, xs → XS, gs → GS, sv → SV, ptr → PT, any → AY, ns → NS
open AV renaming one → O1, agg → AG, tup → TU
open Go Go.Proofs
noncomputable def T17 : Tab := T16
theorem T17_ok : TabOk Try.prog T17 := T16_ok
end DH
noncomputable section
namespace DH
set_option maxRecDepth 100000
open List (take drop replicate)
open AC renaming u8 → U8, u16 → U16, u32 → U32, u64 → U64, i64 → I64, b → Bb, xs → XS, gs → GS, sv → SV, ptr → PT, any → AY, ns → NS
open AV renaming one → O1, agg → AG, tup → TU
open Go Go.Proofs
theorem kflat (ks : List (BitVec 8)) (b : Bool) : Flat (Bb b :: ks.map U8) := fun c h => by
 rcases List.mem_cons.1 h with rfl | h
 ·rfl
 ·exact flat_u8 _ c h
end DH
noncomputable section
namespace DH
set_option maxRecDepth 100000
open List (take drop replicate)
open AC renaming u8 → U8, u16 → U16, u32 → U32, u64 → U64, i64 → I64, b → Bb, xs → XS, gs → GS, sv → SV, ptr → PT, any → AY, ns → NS
open AV renaming one → O1, agg → AG, tup → TU
open Go Go.Proofs
end DH
noncomputable section
namespace DH
set_option maxRecDepth 100000
open List (take drop replicate)
open AC renaming u8 → U8, u16 → U16, u32 → U32, u64 → U64, i64 → I64, b → Bb, xs → XS, gs → GS, sv → SV, ptr → PT, any → AY, ns → NS
open AV renaming one → O1, agg → AG, tup → TU
open Go Go.Proofs
theorem tab16_set (f g : Nat → BitVec 8) {j : Nat} (hj : j < 16) {v : BitVec 8} (h1 : g j = v) (h2 : ∀ i, i < 16 → i ≠ j → g i = f i) : (tab16 f).set j v = tab16 g := by
 apply List.ext_getElem (by rw [List.length_set, tab16_len, tab16_len])
 intro i h3 h4
 rw [tab16_len] at h4
 have e : ∀ k : Nat → BitVec 8, ∀ h : i < (tab16 k).length, (tab16 k)[i] = k i := fun k h => by
  have := tab16_get k h4
  rw [List.getD_eq_getElem?_getD, List.getElem?_eq_getElem h] at this
  exact this
 rw [List.getElem_set, e]
 split
 ·rename_i hji; subst hji; exact h1.symm.trans (e g _).symm
 ·rename_i hji; rw [e]; exact (h2 i h4 (fun e => hji e.symm)).symm
noncomputable def T18 : Tab := T17
theorem T18_ok : TabOk Try.prog T18 := T17_ok
theorem u8_inj {a b : List (BitVec 8)} (h : a.map U8 = b.map U8) : a = b := by
 have := congrArg (List.map asU8) h
 rwa [map_as8, map_as8] at this
theorem same_u8 (a b : List (BitVec 8)) : sameCells (a.map U8) (b.map U8) = decide (a = b) := by
 unfold sameCells
 exact decide_eq_decide.2 ⟨u8_inj, fun h => by rw [h]⟩
end DH
noncomputable section
namespace DH
set_option maxRecDepth 100000
open List (take drop replicate)
open AC renaming u8 → U8, u16 → U16, u32 → U32, u64 → U64, i64 → I64, b → Bb, xs → XS, gs → GS, sv → SV, ptr → PT, any → AY, ns → NS
open AV renaming one → O1, agg → AG, tup → TU
open Go Go.Proofs
end DH
