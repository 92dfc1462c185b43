/- Walks of functions, each by evaluation: what each returns. -/
import Derived.Test.YtdnggeocdocomaaH5
set_option linter.unusedVariables false
set_option linter.unusedSimpArgs false
noncomputable section
namespace DH
open Go Go.Proofs
noncomputable def inlG : Inl := fun f => match f with
  | 36 => some (Try.f36, [])
  | _ => none
theorem inlG_ok : InlOk Try.prog inlG := by
  intro f fn hs h
  unfold inlG at h
  split at h <;> first | (cases h; done) | (obtain ⟨rfl, _⟩ := Prod.mk.inj (Option.some.inj h); first | exact ok36)
noncomputable def envG (T : Tab) (mf : FuncId → Option MF) (M : TabM) : Env := inlE (baseH T mf M) inlG 2
theorem envG_ok (T : Tab) (mf : FuncId → Option MF) (M : TabM) : EnvOk Try.prog (envG T mf M) := inlE_envOk (baseH_ok T mf M) _ _
theorem envG_call {T : Tab} {mf : FuncId → Option MF} {M : TabM} (hT : TabOk Try.prog T) (hM : TabMOk Try.prog M) : CallOk Try.prog (envG T mf M) :=
  inlE_ok (baseH_ok T mf M) (baseH_call hT hM) mixed inlG_ok 2
set_option maxRecDepth 100000 in
theorem vc40 {X : Ctx} {Q : AV → Mem → Prop} (hX : X.P = Try.prog)  (h : (70 = 70 ∧ 70 ≤ 70) ∧ 70 ≤ 70 ∧ Q (AV.agg ([AC.u32 (0 : BitVec 32), AC.u32 (0 : BitVec 32), AC.u32 (0 : BitVec 32), AC.u32 (0 : BitVec 32), AC.u32 (0 : BitVec 32)] ++ (List.replicate 64 (AC.u8 (0 : BitVec 8)) ++ [AC.u64 (0 : BitVec 64)]))) []) : KRun X 40 0 Q ([.code (bodyOf Try.f40)]) (slots [] Try.f40.ntmps) [] :=
  wpRun_ok (hX ▸ envG_ok T5 mf0 M0) (hX ▸ envG_call T5_ok M0_ok) (hX ▸ mixed) (hX ▸ ok40) LK_ok (cast (β := wpRun (envG T5 mf0 M0) [] [] false (RS.mk Try.f40.results.toList 0 (CS.mk [] [] [] [])) (LK X 40 0 Q true []) Q 2000 ([.code (bodyOf Try.f40)]) (slots [] Try.f40.ntmps) []) (by kernel_rfl) h)
theorem s40 : Spec Try.prog 40 [] [] (Is (.agg nwS.cells)) := by
  have e : nwS.cells = List.replicate 5 (AC.u32 0) ++ (List.replicate 64 (AC.u8 0) ++ [AC.u64 0]) := by kernel_rfl
  refine Spec.of_run ok40 fun X hX => vc40 hX ?_
  rw [e]
  exact ⟨⟨rfl, Nat.le_refl _⟩, Nat.le_refl _, rfl⟩
noncomputable def T6 : Tab := fun f xs => match f, xs with
  | 38, [.one (.xs row 0 n)] => some ([row = (row.map asP).map encP ∧ row.length = n ∧ n ≤ 1000000], .agg (hide ((digF ((row.map asP).foldl addF nwS)).map AC.u8)))
  | 39, [.one (.xs row 0 n)] => some ([allU8 row ∧ row.length = n ∧ n ≤ 1000000], .agg (hide ((ofF (row.map asU8)).map AC.u8)))
  | 40, [] => some ([], .agg (hide nwS.cells))
  | f, xs => T5 f xs
theorem T6_ok : TabOk Try.prog T6 := by
  intro f xs cs r h hc
  unfold T6 at h
  split at h
  · obtain ⟨rfl, rfl⟩ := Prod.mk.inj (Option.some.inj h)
    obtain ⟨h1, h2, h3⟩ := hc.1
    rename_i row n
    have := s38 (row.map asP) (by rw [List.length_map]; omega)
    rw [← h1, List.length_map, h2] at this
    rw [hide_eq]
    exact ⟨⟨_, _, ok38⟩, this, exactL_map _ (fun _ => rfl) _⟩
  · obtain ⟨rfl, rfl⟩ := Prod.mk.inj (Option.some.inj h)
    obtain ⟨h1, h2, h3⟩ := hc.1
    rename_i row n
    have := s39 (row.map asU8) (by rw [List.length_map]; omega)
    rw [← h1, List.length_map, h2] at this
    rw [hide_eq]
    exact ⟨⟨_, _, ok39⟩, this, exactL_map _ (fun _ => rfl) _⟩
  · obtain ⟨rfl, rfl⟩ := Prod.mk.inj (Option.some.inj h)
    rw [hide_eq]
    exact ⟨⟨_, _, ok40⟩, s40, Sm.exact _⟩
  · exact T5_ok _ _ _ _ h hc
set_option maxRecDepth 100000 in
theorem vc37 {X : Ctx} {Q : AV → Mem → Prop} (hX : X.P = Try.prog)  (h : 1 ≤ 3 ∧ 1 ≤ 1 ∧ 3 ≤ 3 ∧ Flat (List.take 3 (List.drop 0 [cvC (Value.int IntKind.u8 (97 : Int)), cvC (Value.int IntKind.u8 (98 : Int)), cvC (Value.int IntKind.u8 (99 : Int))])) ∧ ([AC.xs (List.take 3 (List.drop 0 [cvC (Value.int IntKind.u8 (97 : Int)), cvC (Value.int IntKind.u8 (98 : Int)), cvC (Value.int IntKind.u8 (99 : Int))])) 0 3] = List.map encP (List.map asP [AC.xs (List.take 3 (List.drop 0 [cvC (Value.int IntKind.u8 (97 : Int)), cvC (Value.int IntKind.u8 (98 : Int)), cvC (Value.int IntKind.u8 (99 : Int))])) 0 3]) ∧ 1 = 1 ∧ 1 ≤ 1000000) ∧ (List.length (hide (List.map AC.u8 (digF (List.foldl addF nwS (List.map asP [AC.xs (List.take 3 (List.drop 0 [cvC (Value.int IntKind.u8 (97 : Int)), cvC (Value.int IntKind.u8 (98 : Int)), cvC (Value.int IntKind.u8 (99 : Int))])) 0 3]))))) = 20 ∧ 20 ≤ 20) ∧ ((0 : Int) ≤ (0 : Int) ∧ (0 : Int) < (↑20 : Int)) ∧ gt AC.any (layS (List.replicate 20 (AC.u8 (0 : BitVec 8))) 0 (hide (List.map AC.u8 (digF (List.foldl addF nwS (List.map asP [AC.xs (List.take 3 (List.drop 0 [cvC (Value.int IntKind.u8 (97 : Int)), cvC (Value.int IntKind.u8 (98 : Int)), cvC (Value.int IntKind.u8 (99 : Int))])) 0 3])))))) 0 = AC.u8 (asU8 (gt AC.any (layS (List.replicate 20 (AC.u8 (0 : BitVec 8))) 0 (hide (List.map AC.u8 (digF (List.foldl addF nwS (List.map asP [AC.xs (List.take 3 (List.drop 0 [cvC (Value.int IntKind.u8 (97 : Int)), cvC (Value.int IntKind.u8 (98 : Int)), cvC (Value.int IntKind.u8 (99 : Int))])) 0 3])))))) 0)) ∧ (decide (asU8 (gt AC.any (layS (List.replicate 20 (AC.u8 (0 : BitVec 8))) 0 (hide (List.map AC.u8 (digF (List.foldl addF nwS (List.map asP [AC.xs (List.take 3 (List.drop 0 [cvC (Value.int IntKind.u8 (97 : Int)), cvC (Value.int IntKind.u8 (98 : Int)), cvC (Value.int IntKind.u8 (99 : Int))])) 0 3])))))) 0) = BitVec.ofInt 8 (169 : Int)) = true → ((0 : Int) ≤ (1 : Int) ∧ (1 : Int) < (↑20 : Int)) ∧ gt AC.any (layS (List.replicate 20 (AC.u8 (0 : BitVec 8))) 0 (hide (List.map AC.u8 (digF (List.foldl addF nwS (List.map asP [AC.xs (List.take 3 (List.drop 0 [cvC (Value.int IntKind.u8 (97 : Int)), cvC (Value.int IntKind.u8 (98 : Int)), cvC (Value.int IntKind.u8 (99 : Int))])) 0 3])))))) 1 = AC.u8 (asU8 (gt AC.any (layS (List.replicate 20 (AC.u8 (0 : BitVec 8))) 0 (hide (List.map AC.u8 (digF (List.foldl addF nwS (List.map asP [AC.xs (List.take 3 (List.drop 0 [cvC (Value.int IntKind.u8 (97 : Int)), cvC (Value.int IntKind.u8 (98 : Int)), cvC (Value.int IntKind.u8 (99 : Int))])) 0 3])))))) 1)) ∧ (decide (asU8 (gt AC.any (layS (List.replicate 20 (AC.u8 (0 : BitVec 8))) 0 (hide (List.map AC.u8 (digF (List.foldl addF nwS (List.map asP [AC.xs (List.take 3 (List.drop 0 [cvC (Value.int IntKind.u8 (97 : Int)), cvC (Value.int IntKind.u8 (98 : Int)), cvC (Value.int IntKind.u8 (99 : Int))])) 0 3])))))) 1) = BitVec.ofInt 8 (153 : Int)) = true → ((0 : Int) ≤ (19 : Int) ∧ (19 : Int) < (↑20 : Int)) ∧ gt AC.any (layS (List.replicate 20 (AC.u8 (0 : BitVec 8))) 0 (hide (List.map AC.u8 (digF (List.foldl addF nwS (List.map asP [AC.xs (List.take 3 (List.drop 0 [cvC (Value.int IntKind.u8 (97 : Int)), cvC (Value.int IntKind.u8 (98 : Int)), cvC (Value.int IntKind.u8 (99 : Int))])) 0 3])))))) 19 = AC.u8 (asU8 (gt AC.any (layS (List.replicate 20 (AC.u8 (0 : BitVec 8))) 0 (hide (List.map AC.u8 (digF (List.foldl addF nwS (List.map asP [AC.xs (List.take 3 (List.drop 0 [cvC (Value.int IntKind.u8 (97 : Int)), cvC (Value.int IntKind.u8 (98 : Int)), cvC (Value.int IntKind.u8 (99 : Int))])) 0 3])))))) 19)) ∧ (decide (asU8 (gt AC.any (layS (List.replicate 20 (AC.u8 (0 : BitVec 8))) 0 (hide (List.map AC.u8 (digF (List.foldl addF nwS (List.map asP [AC.xs (List.take 3 (List.drop 0 [cvC (Value.int IntKind.u8 (97 : Int)), cvC (Value.int IntKind.u8 (98 : Int)), cvC (Value.int IntKind.u8 (99 : Int))])) 0 3])))))) 19) = BitVec.ofInt 8 (157 : Int)) = true → 20 ≤ List.length (layS (List.replicate 20 (AC.u8 (0 : BitVec 8))) 0 (hide (List.map AC.u8 (digF (List.foldl addF nwS (List.map asP [AC.xs (List.take 3 (List.drop 0 [cvC (Value.int IntKind.u8 (97 : Int)), cvC (Value.int IntKind.u8 (98 : Int)), cvC (Value.int IntKind.u8 (99 : Int))])) 0 3])))))) ∧ Flat (hide (Sm.cells nwS)) ∧ 3 ≤ 3 ∧ Flat (List.take 3 (List.drop 0 [cvC (Value.int IntKind.u8 (97 : Int)), cvC (Value.int IntKind.u8 (98 : Int)), cvC (Value.int IntKind.u8 (99 : Int))])) ∧ (hide (Sm.cells nwS) = Sm.cells (smOf (hide (Sm.cells nwS))) ∧ List.length (hide (Sm.cells nwS)) = 70 ∧ allU8 (List.take 3 (List.drop 0 [cvC (Value.int IntKind.u8 (97 : Int)), cvC (Value.int IntKind.u8 (98 : Int)), cvC (Value.int IntKind.u8 (99 : Int))])) ∧ 3 = 3) ∧ Flat (hide (Sm.cells (addF (smOf (hide (Sm.cells nwS))) (List.map asU8 (List.take 3 (List.drop 0 [cvC (Value.int IntKind.u8 (97 : Int)), cvC (Value.int IntKind.u8 (98 : Int)), cvC (Value.int IntKind.u8 (99 : Int))])))))) ∧ (hide (Sm.cells (addF (smOf (hide (Sm.cells nwS))) (List.map asU8 (List.take 3 (List.drop 0 [cvC (Value.int IntKind.u8 (97 : Int)), cvC (Value.int IntKind.u8 (98 : Int)), cvC (Value.int IntKind.u8 (99 : Int))]))))) = Sm.cells (smOf (hide (Sm.cells (addF (smOf (hide (Sm.cells nwS))) (List.map asU8 (List.take 3 (List.drop 0 [cvC (Value.int IntKind.u8 (97 : Int)), cvC (Value.int IntKind.u8 (98 : Int)), cvC (Value.int IntKind.u8 (99 : Int))]))))))) ∧ List.length (hide (Sm.cells (addF (smOf (hide (Sm.cells nwS))) (List.map asU8 (List.take 3 (List.drop 0 [cvC (Value.int IntKind.u8 (97 : Int)), cvC (Value.int IntKind.u8 (98 : Int)), cvC (Value.int IntKind.u8 (99 : Int))])))))) = 70) ∧ (fitCs (List.replicate 20 (AC.u8 (0 : BitVec 8))) (hide (List.map AC.u8 (digF (smOf (hide (Sm.cells (addF (smOf (hide (Sm.cells nwS))) (List.map asU8 (List.take 3 (List.drop 0 [cvC (Value.int IntKind.u8 (97 : Int)), cvC (Value.int IntKind.u8 (98 : Int)), cvC (Value.int IntKind.u8 (99 : Int))])))))))))) ∧ fitCs (List.replicate 20 (AC.u8 (0 : BitVec 8))) (List.take 20 (List.drop 0 (layS (List.replicate 20 (AC.u8 (0 : BitVec 8))) 0 (hide (List.map AC.u8 (digF (List.foldl addF nwS (List.map asP [AC.xs (List.take 3 (List.drop 0 [cvC (Value.int IntKind.u8 (97 : Int)), cvC (Value.int IntKind.u8 (98 : Int)), cvC (Value.int IntKind.u8 (99 : Int))])) 0 3]))))))))) ∧ Q (AV.one (AC.b (sameCells (hide (List.map AC.u8 (digF (smOf (hide (Sm.cells (addF (smOf (hide (Sm.cells nwS))) (List.map asU8 (List.take 3 (List.drop 0 [cvC (Value.int IntKind.u8 (97 : Int)), cvC (Value.int IntKind.u8 (98 : Int)), cvC (Value.int IntKind.u8 (99 : Int))])))))))))) (List.take 20 (List.drop 0 (layS (List.replicate 20 (AC.u8 (0 : BitVec 8))) 0 (hide (List.map AC.u8 (digF (List.foldl addF nwS (List.map asP [AC.xs (List.take 3 (List.drop 0 [cvC (Value.int IntKind.u8 (97 : Int)), cvC (Value.int IntKind.u8 (98 : Int)), cvC (Value.int IntKind.u8 (99 : Int))])) 0 3]))))))))))) []) ∧ (decide (asU8 (gt AC.any (layS (List.replicate 20 (AC.u8 (0 : BitVec 8))) 0 (hide (List.map AC.u8 (digF (List.foldl addF nwS (List.map asP [AC.xs (List.take 3 (List.drop 0 [cvC (Value.int IntKind.u8 (97 : Int)), cvC (Value.int IntKind.u8 (98 : Int)), cvC (Value.int IntKind.u8 (99 : Int))])) 0 3])))))) 19) = BitVec.ofInt 8 (157 : Int)) = false → Q (AV.one (AC.b false)) [])) ∧ (decide (asU8 (gt AC.any (layS (List.replicate 20 (AC.u8 (0 : BitVec 8))) 0 (hide (List.map AC.u8 (digF (List.foldl addF nwS (List.map asP [AC.xs (List.take 3 (List.drop 0 [cvC (Value.int IntKind.u8 (97 : Int)), cvC (Value.int IntKind.u8 (98 : Int)), cvC (Value.int IntKind.u8 (99 : Int))])) 0 3])))))) 1) = BitVec.ofInt 8 (153 : Int)) = false → Q (AV.one (AC.b false)) [])) ∧ (decide (asU8 (gt AC.any (layS (List.replicate 20 (AC.u8 (0 : BitVec 8))) 0 (hide (List.map AC.u8 (digF (List.foldl addF nwS (List.map asP [AC.xs (List.take 3 (List.drop 0 [cvC (Value.int IntKind.u8 (97 : Int)), cvC (Value.int IntKind.u8 (98 : Int)), cvC (Value.int IntKind.u8 (99 : Int))])) 0 3])))))) 0) = BitVec.ofInt 8 (169 : Int)) = false → Q (AV.one (AC.b false)) [])) : KRun X 37 0 Q ([.code (bodyOf Try.f37)]) (slots [] Try.f37.ntmps) [] :=
  wpRun_ok (hX ▸ envG_ok T6 mf0 M0) (hX ▸ envG_call T6_ok M0_ok) (hX ▸ mixed) (hX ▸ ok37) LK_ok (cast (β := wpRun (envG T6 mf0 M0) [8, 12, 17] [(2, 15)] false (RS.mk Try.f37.results.toList 0 (CS.mk [] [] [] [])) (LK X 37 0 Q true []) Q 2000 ([.code (bodyOf Try.f37)]) (slots [] Try.f37.ntmps) []) (by kernel_rfl) h)

def abc : List (BitVec 8) := [97#8, 98#8, 99#8]
set_option maxRecDepth 10000 in
theorem abc_of : (ofF abc).getD 0 0 = 169#8 ∧ (ofF abc).getD 1 0 = 153#8 ∧ (ofF abc).getD 19 0 = 157#8 := by decide +kernel
theorem ofF_len (m : List (BitVec 8)) : (ofF m).length = 20 := rfl
theorem fit_u8 : ∀ (l : List (BitVec 8)), fitCs (List.replicate l.length (AC.u8 0)) (l.map AC.u8)
  | [] => trivial
  | _ :: l => ⟨trivial, fit_u8 l⟩
theorem s37 : Spec Try.prog 37 [] [] (Is (.one (.b true))) := by
  refine Spec.of_run ok37 fun X hX => vc37 hX ?_
  have e0 : List.map asP [AC.xs (List.take 3 (List.drop 0 [cvC (.int .u8 97), cvC (.int .u8 98), cvC (.int .u8 99)])) 0 3] = [abc] := rfl
  have e1 : List.map asU8 (List.take 3 (List.drop 0 [cvC (.int .u8 97), cvC (.int .u8 98), cvC (.int .u8 99)])) = abc := rfl
  have e2 : [abc].foldl addF nwS = addF nwS abc := rfl
  have hl : ((ofF abc).map AC.u8).length = 20 := rfl
  have hn : nwS.cells.length = 70 := rfl
  have el : ∀ l : List AC, l.length = 20 → layS l 0 ((ofF abc).map AC.u8) = (ofF abc).map AC.u8 := fun l h => by
    have := take_lay h hl
    rw [List.drop_zero, List.take_of_length_le (by rw [layS_len (by rw [h, hl]; exact Nat.le_refl _), h]; exact Nat.le_refl _)] at this
    exact this
  have es : (List.replicate 20 (AC.u8 0)).length = 20 := rfl
  have el1 := el _ es
  have g : ∀ i, i < 20 → gt AC.any ((ofF abc).map AC.u8) i = .u8 ((ofF abc).getD i 0) := fun i h => gt_u8_at _ _ h
  have f1 := fit_u8 (ofF abc)
  rw [ofF_len] at f1
  have ht : List.take 20 (List.drop 0 ((ofF abc).map AC.u8)) = (ofF abc).map AC.u8 := rfl
  obtain ⟨a0, a1, a2⟩ := abc_of
  have hA : (addF nwS abc).left.length = 64 := addF_left _ _
  have hs : sameCells ((ofF abc).map AC.u8) ((ofF abc).map AC.u8) = true := by unfold sameCells; simp
  have h70 : (addF nwS abc).cells.length = 70 := by rw [Sm.len, hA]
  have ha : allU8 (List.take 3 (List.drop 0 [cvC (.int .u8 97), cvC (.int .u8 98), cvC (.int .u8 99)])) := rfl
  simp only [e0, e1, e2, dig_of, hide_eq, smOf_cells nwS rfl, smOf_cells _ hA, el1, g _ (show 0 < 20 by decide), g _ (show 1 < 20 by decide), g _ (show 19 < 20 by decide), asU8, a0, a1, a2, ht, hs]
  have fin : Is (.one (.b true)) (.one (.b true)) [] := rfl
  refine ⟨by decide, by decide, by decide, exactFlat rfl, ⟨rfl, trivial, by decide⟩, ⟨rfl, by decide⟩, by decide, trivial, fun _ => ⟨by decide, trivial, fun _ => ⟨by decide, trivial, fun _ => ⟨Nat.le_refl 20, ?_⟩, fun h => ?_⟩, fun h => ?_⟩, fun h => ?_⟩
  · exact ⟨Sm.flat _, by decide, exactFlat rfl, ⟨trivial, hn, ha, trivial⟩, Sm.flat _, ⟨trivial, h70⟩, ⟨f1, f1⟩, fin⟩
  · exact absurd (of_decide_eq_false h) (fun k => k rfl)
  · exact absurd (of_decide_eq_false h) (fun k => k rfl)
  · exact absurd (of_decide_eq_false h) (fun k => k rfl)
end DH
