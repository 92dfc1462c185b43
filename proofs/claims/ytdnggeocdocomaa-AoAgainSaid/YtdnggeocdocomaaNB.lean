/- Walks of functions, each by evaluation: what each returns; with the layer beneath. -/
import Derived.Test.YtdnggeocdocomaaNA
import Derived.Test.YtdnggeocdocomaaJA
import Derived.Test.YtdnggeocdocomaaHB
set_option linter.unusedVariables false
set_option linter.unusedSimpArgs false
noncomputable section
namespace DH
set_option maxRecDepth 100000
open List (take drop replicate)
open AC renaming u8 → U8, u16 → U16, u32 → U32, u64 → U64, i64 → I64, b → Bb, xs → XS, gs → GS, sv → SV, ptr → PT, any → AY, ns → NS
open AV renaming one → O1, agg → AG, tup → TU
open Go Go.Proofs
theorem not_dec {p : Prop} [Decidable p] (h : (!decide p) = true) : ¬ p := by simpa using h
theorem is_dec {p : Prop} [Decidable p] (h : (!decide p) = false) : p := by simpa using h
end DH
noncomputable section
namespace DH
set_option maxRecDepth 100000
open List (take drop replicate)
open AC renaming u8 → U8, u16 → U16, u32 → U32, u64 → U64, i64 → I64, b → Bb, xs → XS, gs → GS, sv → SV, ptr → PT, any → AY, ns → NS
open AV renaming one → O1, agg → AG, tup → TU
open Go Go.Proofs
theorem Spec.ns2 {P : Program} {f : FuncId} {a : AV} {m0 : Mem} {R : AV → Mem → Prop} (h : Spec P f [a, .one (.xs [] 0 0)] m0 R) : Spec P f [a, .one .ns] m0 R := by
 intro X p vs hP hm ha
 refine h X p vs hP hm ⟨ha.1, fun j c u h1 h2 => ?_⟩
 match j, h1 with
 | 0, h1 => exact ha.2 0 c u h1 h2
 | 1, h1 =>
  simp only [List.getElem?_cons_succ, List.getElem?_cons_zero, Option.some.injEq] at h1
  subst h1
  have := ha.2 1 (.one .ns) u rfl h2
  cases this with
  | one _ _ h3 => cases h3; exact .one _ _ (.xsn [] 0)
noncomputable def T21 : Tab := fun f xs => match f, xs with
 | 69, [.agg cs, .one (.xs row 0 n)] => some ([allU8 cs ∧ cs.length = 16 ∧ row = (row.map asP).map encP ∧ row.length = n ∧ n ≤ 1000000], .agg (hide ((cmF (cs.map asU8) (row.map asP).flatten).map U8)))
 | 69, [.agg cs, .one .ns] => some ([allU8 cs ∧ cs.length = 16], .agg (hide ((cmF (cs.map asU8) []).map U8)))
 | f, xs => T20 f xs
theorem T21_ok : TabOk Try.prog T21 := by
 intro f xs cs r h hc
 unfold T21 at h
 split at h
 ·obtain ⟨rfl, rfl⟩ := Prod.mk.inj (Option.some.inj h)
  obtain ⟨h1, h2, h3, h4, h5⟩ := hc.1
  rename_i cs row n
  have := s69 (cs.map asU8) (by rw [List.length_map]; exact h2) (row.map asP) (by rw [List.length_map]; omega)
  rw [← h1, ← h3, List.length_map, h4] at this
  rw [hide_eq]
  exact ⟨⟨_, _, ok69⟩, this, exactL_map _ (fun _ => rfl) _⟩
 ·obtain ⟨rfl, rfl⟩ := Prod.mk.inj (Option.some.inj h)
  obtain ⟨h1, h2⟩ := hc.1
  rename_i cs
  have := s69 (cs.map asU8) (by rw [List.length_map]; exact h2) [] (Nat.zero_le _)
  rw [← h1] at this
  rw [hide_eq]
  exact ⟨⟨_, _, ok69⟩, this.ns2, exactL_map _ (fun _ => rfl) _⟩
 ·exact T20_ok _ _ _ _ h hc
theorem vc72 {X : Ctx} {Q : AV->Mem->Prop} (hX : X.P=Try.prog) (ks row : List AC) (n:Nat) (h : 16<=List.length ks/\Flat (take 16 (drop 0 ks))/\0+n*1<=List.length row/\(allU8 (take 16 (drop 0 ks))/\List.length (take 16 (drop 0 ks))=16/\take (n*1) (drop 0 row)=List.map encP (List.map asP (take (n*1) (drop 0 row)))/\List.length (take (n*1) (drop 0 row))=n/\n<=1000000)/\(List.length (hide (List.map U8 (cmF (List.map asU8 (take 16 (drop 0 ks))) (List.flatten (List.map asP (take (n*1) (drop 0 row)))))))=16/\16<=16)/\((0:Int)<=(↑0:Int)/\(↑0:Int)<=(12:Int)/\(12:Int)<=(↑16:Int))/\12<=12/\12<=List.length (layS (replicate 16 (U8 0)) 0 (hide (List.map U8 (cmF (List.map asU8 (take 16 (drop 0 ks))) (List.flatten (List.map asP (take (n*1) (drop 0 row))))))))/\(List.length (take 12 (drop 0 (layS (replicate 16 (U8 0)) 0 (hide (List.map U8 (cmF (List.map asU8 (take 16 (drop 0 ks))) (List.flatten (List.map asP (take (n*1) (drop 0 row))))))))))=12/\12<=12)/\12<=List.length (layS (replicate 12 (U8 0)) 0 (take 12 (drop 0 (layS (replicate 16 (U8 0)) 0 (hide (List.map U8 (cmF (List.map asU8 (take 16 (drop 0 ks))) (List.flatten (List.map asP (take (n*1) (drop 0 row)))))))))))/\flatAV (AG (take 12 (drop 0 (layS (replicate 12 (U8 0)) 0 (take 12 (drop 0 (layS (replicate 16 (U8 0)) 0 (hide (List.map U8 (cmF (List.map asU8 (take 16 (drop 0 ks))) (List.flatten (List.map asP (take (n*1) (drop 0 row))))))))))))))/\Q (AG (take 12 (drop 0 (layS (replicate 12 (U8 0)) 0 (take 12 (drop 0 (layS (replicate 16 (U8 0)) 0 (hide (List.map U8 (cmF (List.map asU8 (take 16 (drop 0 ks))) (List.flatten (List.map asP (take (n*1) (drop 0 row)))))))))))))) []) : KRun X 72 0 Q ([.code (bodyOf Try.f72)]) (slots [.agg ks, .one (.xs row 0 n)] Try.f72.ntmps) [] :=
 wpRun_ok (hX ▸ baseC_ok T21 mf15 M15) (hX ▸ baseC_call T21_ok M15_ok) (hX ▸ mixed) (hX ▸ ok72) LK_ok (cast (β := wpRun (baseC T21 mf15 M15) [] [] false (RS.mk Try.f72.results.toList 0 (CS.mk [] [] [0] [])) (LK X 72 0 Q true []) Q 2000 _ _ _) (by kernel_rfl) h)
def sh12 (d : List (BitVec 8)) : List (BitVec 8) := d.take 12
theorem sh12_len {d : List (BitVec 8)} (h : d.length = 16) : (sh12 d).length = 12 := by unfold sh12; rw [List.length_take]; omega
theorem s72 (key : List (BitVec 8)) (hk : key.length = 16) (ps : List (List (BitVec 8))) (hps : ps.length ≤ 1000000) : Spec Try.prog 72 [.agg (key.map U8), .one (.xs (ps.map encP) 0 ps.length)] [] (Is (.agg ((sh12 (cmF key ps.flatten)).map U8))) := by
 refine Spec.of_run ok72 fun X hX => vc72 hX _ _ _ ?_
 have z : Flat (replicate 16 (U8 0)) := by rw [mrep]; exact flat_u8 _
 have ek : key.take 16 = key := List.take_of_length_le (by omega)
 have hc := cmF_len key ps.flatten
 have h12 := sh12_len hc
 have e1 : layS (replicate 16 (U8 0)) 0 ((cmF key ps.flatten).map U8) = (cmF key ps.flatten).map U8 := layR _ _ hc
 have e2 : (cmF key ps.flatten).take 12 = sh12 (cmF key ps.flatten) := rfl
 have e3 : layS (replicate 12 (U8 0)) 0 ((sh12 (cmF key ps.flatten)).map U8) = (sh12 (cmF key ps.flatten)).map U8 := layR _ _ h12
 have e4 : (sh12 (cmF key ps.flatten)).take 12 = sh12 (cmF key ps.flatten) := List.take_of_length_le (by omega)
 rw [tkP ps, map_asP]
 simp only [hide_eq, tk0, List.drop_zero, ek, map_as8, e1, e2, e3, e4, List.length_map, List.length_replicate, hk, hc, h12]
 clear ek e1 e2 e3 e4
 generalize cmF key ps.flatten = E at *
 (repeat' (first | exact z | exact trivial | exact flat_u8 _ | exact flatA _ | exact allU8_map _ | exact Nat.le_refl _ | refine And.intro ?_ ?_)) <;> (first | omega | exact z | (unfold in64; omega) | exact List.length_map _ | (show Is _ _ _; exact rfl) | skip)
end DH
noncomputable section
namespace DH
set_option maxRecDepth 100000
open List (take drop replicate)
open AC renaming u8 → U8, u16 → U16, u32 → U32, u64 → U64, i64 → I64, b → Bb, xs → XS, gs → GS, sv → SV, ptr → PT, any → AY, ns → NS
open AV renaming one → O1, agg → AG, tup → TU
open Go Go.Proofs
noncomputable def T22 : Tab := fun f xs => match f, xs with
 | 72, [.agg cs, .one (.xs row 0 n)] => some ([allU8 cs ∧ cs.length = 16 ∧ row = (row.map asP).map encP ∧ row.length = n ∧ n ≤ 1000000], .agg (hide ((sh12 (cmF (cs.map asU8) (row.map asP).flatten)).map U8)))
 | f, xs => T21 f xs
theorem T22_ok : TabOk Try.prog T22 := by
 intro f xs cs r h hc
 unfold T22 at h
 split at h
 ·obtain ⟨rfl, rfl⟩ := Prod.mk.inj (Option.some.inj h)
  obtain ⟨h1, h2, h3, h4, h5⟩ := hc.1
  rename_i cs row n
  have := s72 (cs.map asU8) (by rw [List.length_map]; exact h2) (row.map asP) (by rw [List.length_map]; omega)
  rw [← h1, ← h3, List.length_map, h4] at this
  rw [hide_eq]
  exact ⟨⟨_, _, ok72⟩, this, exactL_map _ (fun _ => rfl) _⟩
 ·exact T21_ok _ _ _ _ h hc
theorem fit12 {l : List (BitVec 8)} (h : l.length = 12) : fitCs (replicate 12 (U8 0)) (l.map U8) := by
 have := fit_u8 l
 rw [h] at this
 exact this
theorem pe1 (x : List (BitVec 8)) : List.map encP [x] = [XS (x.map U8) 0 x.length] := rfl
theorem fl1 (b : List (BitVec 8)) : [b].flatten = b := by simp
end DH
noncomputable section
namespace DH
set_option maxRecDepth 100000
open List (take drop replicate)
open AC renaming u8 → U8, u16 → U16, u32 → U32, u64 → U64, i64 → I64, b → Bb, xs → XS, gs → GS, sv → SV, ptr → PT, any → AY, ns → NS
open AV renaming one → O1, agg → AG, tup → TU
open Go Go.Proofs
end DH
