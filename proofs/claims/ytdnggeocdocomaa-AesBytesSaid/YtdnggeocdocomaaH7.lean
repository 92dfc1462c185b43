/- Walks of functions, each by evaluation: what each returns. -/
import Derived.Test.YtdnggeocdocomaaH6
set_option linter.unusedVariables false
set_option linter.unusedSimpArgs false
noncomputable section
namespace DH
open Go Go.Proofs
noncomputable def T7 : Tab := fun f xs => match f, xs with
  | 37, [] => some ([], .one (.b true))
  | f, xs => T6 f xs
theorem T7_ok : TabOk Try.prog T7 := by
  intro f xs cs r h hc
  unfold T7 at h
  split at h
  · obtain ⟨rfl, rfl⟩ := Prod.mk.inj (Option.some.inj h)
    exact ⟨⟨_, _, ok37⟩, s37, rfl⟩
  · exact T6_ok _ _ _ _ h hc
set_option maxRecDepth 100000 in
theorem vc4 {X : Ctx} {Q : AV → Mem → Prop} (hX : X.P = Try.prog) (row : List AC) (n : Nat) (h : 0 + n * 1 ≤ List.length row ∧ (decide ((2000 : Int) < (↑n : Int)) = true → Q (AV.one (AC.b true)) []) ∧ (decide ((2000 : Int) < (↑n : Int)) = false → 1 ≤ 1 ∧ 0 + n * 1 ≤ List.length row ∧ ([AC.xs (List.take (n * 1) (List.drop 0 row)) 0 n] = List.map encP (List.map asP [AC.xs (List.take (n * 1) (List.drop 0 row)) 0 n]) ∧ 1 = 1 ∧ 1 ≤ 1000000) ∧ 0 + n * 1 ≤ List.length row ∧ (allU8 (List.take (n * 1) (List.drop 0 row)) ∧ List.length (List.take (n * 1) (List.drop 0 row)) = n ∧ n ≤ 1000000) ∧ (fitCs (List.replicate 20 (AC.u8 (0 : BitVec 8))) (hide (List.map AC.u8 (digF (List.foldl addF nwS (List.map asP [AC.xs (List.take (n * 1) (List.drop 0 row)) 0 n]))))) ∧ fitCs (List.replicate 20 (AC.u8 (0 : BitVec 8))) (hide (List.map AC.u8 (ofF (List.map asU8 (List.take (n * 1) (List.drop 0 row))))))) ∧ (sameCells (hide (List.map AC.u8 (digF (List.foldl addF nwS (List.map asP [AC.xs (List.take (n * 1) (List.drop 0 row)) 0 n]))))) (hide (List.map AC.u8 (ofF (List.map asU8 (List.take (n * 1) (List.drop 0 row)))))) = true → Flat (hide (Sm.cells nwS)) ∧ 0 + n * 1 ≤ List.length row ∧ (hide (Sm.cells nwS) = Sm.cells (smOf (hide (Sm.cells nwS))) ∧ List.length (hide (Sm.cells nwS)) = 70 ∧ allU8 (List.take (n * 1) (List.drop 0 row)) ∧ List.length (List.take (n * 1) (List.drop 0 row)) = n) ∧ Flat (hide (Sm.cells (addF (smOf (hide (Sm.cells nwS))) (List.map asU8 (List.take (n * 1) (List.drop 0 row)))))) ∧ (hide (Sm.cells (addF (smOf (hide (Sm.cells nwS))) (List.map asU8 (List.take (n * 1) (List.drop 0 row))))) = Sm.cells (smOf (hide (Sm.cells (addF (smOf (hide (Sm.cells nwS))) (List.map asU8 (List.take (n * 1) (List.drop 0 row))))))) ∧ List.length (hide (Sm.cells (addF (smOf (hide (Sm.cells nwS))) (List.map asU8 (List.take (n * 1) (List.drop 0 row)))))) = 70) ∧ 0 + n * 1 ≤ List.length row ∧ (allU8 (List.take (n * 1) (List.drop 0 row)) ∧ List.length (List.take (n * 1) (List.drop 0 row)) = n ∧ n ≤ 1000000) ∧ (fitCs (List.replicate 20 (AC.u8 (0 : BitVec 8))) (hide (List.map AC.u8 (digF (smOf (hide (Sm.cells (addF (smOf (hide (Sm.cells nwS))) (List.map asU8 (List.take (n * 1) (List.drop 0 row)))))))))) ∧ fitCs (List.replicate 20 (AC.u8 (0 : BitVec 8))) (hide (List.map AC.u8 (ofF (List.map asU8 (List.take (n * 1) (List.drop 0 row))))))) ∧ (sameCells (hide (List.map AC.u8 (digF (smOf (hide (Sm.cells (addF (smOf (hide (Sm.cells nwS))) (List.map asU8 (List.take (n * 1) (List.drop 0 row)))))))))) (hide (List.map AC.u8 (ofF (List.map asU8 (List.take (n * 1) (List.drop 0 row)))))) = true → Q (AV.one (AC.b true)) []) ∧ (sameCells (hide (List.map AC.u8 (digF (smOf (hide (Sm.cells (addF (smOf (hide (Sm.cells nwS))) (List.map asU8 (List.take (n * 1) (List.drop 0 row)))))))))) (hide (List.map AC.u8 (ofF (List.map asU8 (List.take (n * 1) (List.drop 0 row)))))) = false → Q (AV.one (AC.b false)) [])) ∧ (sameCells (hide (List.map AC.u8 (digF (List.foldl addF nwS (List.map asP [AC.xs (List.take (n * 1) (List.drop 0 row)) 0 n]))))) (hide (List.map AC.u8 (ofF (List.map asU8 (List.take (n * 1) (List.drop 0 row)))))) = false → Q (AV.one (AC.b false)) []))) : KRun X 4 0 Q ([.code (bodyOf Try.f4)]) (slots [.one (.xs row 0 n)] Try.f4.ntmps) [] :=
  wpRun_ok (hX ▸ envG_ok T7 mf0 M0) (hX ▸ envG_call T7_ok M0_ok) (hX ▸ mixed) (hX ▸ ok4) LK_ok (cast (β := wpRun (envG T7 mf0 M0) [4, 11, 19] [] false (RS.mk Try.f4.results.toList 0 (CS.mk [] [] [] [])) (LK X 4 0 Q true []) Q 2000 ([.code (bodyOf Try.f4)]) (slots [.one (.xs row 0 n)] Try.f4.ntmps) []) (by kernel_rfl) h)
set_option maxRecDepth 100000 in
theorem vc5 {X : Ctx} {Q : AV → Mem → Prop} (hX : X.P = Try.prog) (row : List AC) (n : Nat) (h : (decide ((20 : Int) < (↑n : Int)) = true → Q (AV.one (AC.b true)) []) ∧ (decide ((20 : Int) < (↑n : Int)) = false → Flat [] ∧ KR X 5 0 Q (kOf Try.f5 0) (mkS 32 [(0, AV.one (AC.xs row 0 n)), (3, AV.one (AC.gs 0 0 1)), (10, AV.one (AC.xs row 0 n)), (11, AV.one (AC.i64 (↑n : Int))), (12, AV.one (AC.i64 (0 : Int)))]) [some []])) : KRun X 5 0 Q ([.code (bodyOf Try.f5)]) (slots [.one (.xs row 0 n)] Try.f5.ntmps) [] :=
  wpRun_ok (hX ▸ envG_ok T7 mf0 M0) (hX ▸ envG_call T7_ok M0_ok) (hX ▸ mixed) (hX ▸ ok5) LK_ok (cast (β := wpRun (envG T7 mf0 M0) [8, 13, 18, 28] [] false (RS.mk Try.f5.results.toList 0 (CS.mk [] [] [] [])) (LK X 5 0 Q true [(5, LS.mk [0, 3, 10, 11, 12] (CS.mk [(3, 2)] [true] [] []))]) Q 2000 ([.code (bodyOf Try.f5)]) (slots [.one (.xs row 0 n)] Try.f5.ntmps) []) (by kernel_rfl) h)
set_option maxRecDepth 100000 in
theorem vc5a {X : Ctx} {Q : AV → Mem → Prop} (hX : X.P = Try.prog) (row ar : List AC) (n k : Nat) (i : Int) (h : (decide (i < (↑n : Int)) = true → ((0 : Int) ≤ i ∧ i < (↑n : Int)) ∧ gt AC.any row (0 + Int.toNat i * 1) = AC.xs (xsRow (gt AC.any row (0 + Int.toNat i * 1))) (xsOff (gt AC.any row (0 + Int.toNat i * 1))) (xsLen (gt AC.any row (0 + Int.toNat i * 1))) ∧ (decide ((500 : Int) < (↑(xsLen (gt AC.any row (0 + Int.toNat i * 1))) : Int)) = true → Q (AV.one (AC.b true)) []) ∧ (decide ((500 : Int) < (↑(xsLen (gt AC.any row (0 + Int.toNat i * 1))) : Int)) = false → xsOff (gt AC.any row (0 + Int.toNat i * 1)) + xsLen (gt AC.any row (0 + Int.toNat i * 1)) * 1 ≤ List.length (xsRow (gt AC.any row (0 + Int.toNat i * 1))) ∧ ((k + xsLen (gt AC.any row (0 + Int.toNat i * 1))) * 1 ≤ 140737488355328 ∧ k + xsLen (gt AC.any row (0 + Int.toNat i * 1)) ≤ 4611686018427387904) ∧ List.length ar = k * 1 ∧ in64 (i + (1 : Int)) ∧ Flat (ar ++ List.take (xsLen (gt AC.any row (0 + Int.toNat i * 1)) * 1) (List.drop (xsOff (gt AC.any row (0 + Int.toNat i * 1))) (xsRow (gt AC.any row (0 + Int.toNat i * 1))))) ∧ KR X 5 0 Q (kOf Try.f5 0) (mkS 32 [(0, AV.one (AC.xs row 0 n)), (3, AV.one (AC.gs 0 (k + xsLen (gt AC.any row (0 + Int.toNat i * 1))) 1)), (10, AV.one (AC.xs row 0 n)), (11, AV.one (AC.i64 (↑n : Int))), (12, AV.one (AC.i64 (i + (1 : Int))))]) [some (ar ++ List.take (xsLen (gt AC.any row (0 + Int.toNat i * 1)) * 1) (List.drop (xsOff (gt AC.any row (0 + Int.toNat i * 1))) (xsRow (gt AC.any row (0 + Int.toNat i * 1)))))])) ∧ (decide (i < (↑n : Int)) = false → 0 + n * 1 ≤ List.length row ∧ (List.take (n * 1) (List.drop 0 row) = List.map encP (List.map asP (List.take (n * 1) (List.drop 0 row))) ∧ List.length (List.take (n * 1) (List.drop 0 row)) = n ∧ n ≤ 1000000) ∧ 0 + k * 1 ≤ List.length ar ∧ Flat (List.take (k * 1) (List.drop 0 ar)) ∧ (allU8 (List.take (k * 1) (List.drop 0 ar)) ∧ List.length (List.take (k * 1) (List.drop 0 ar)) = k ∧ k ≤ 1000000) ∧ (fitCs (List.replicate 20 (AC.u8 (0 : BitVec 8))) (hide (List.map AC.u8 (digF (List.foldl addF nwS (List.map asP (List.take (n * 1) (List.drop 0 row))))))) ∧ fitCs (List.replicate 20 (AC.u8 (0 : BitVec 8))) (hide (List.map AC.u8 (ofF (List.map asU8 (List.take (k * 1) (List.drop 0 ar))))))) ∧ (sameCells (hide (List.map AC.u8 (digF (List.foldl addF nwS (List.map asP (List.take (n * 1) (List.drop 0 row))))))) (hide (List.map AC.u8 (ofF (List.map asU8 (List.take (k * 1) (List.drop 0 ar)))))) = true → Q (AV.one (AC.b true)) []) ∧ (sameCells (hide (List.map AC.u8 (digF (List.foldl addF nwS (List.map asP (List.take (n * 1) (List.drop 0 row))))))) (hide (List.map AC.u8 (ofF (List.map asU8 (List.take (k * 1) (List.drop 0 ar)))))) = false → Q (AV.one (AC.b false)) []))) : KRun X 5 0 Q (kOf Try.f5 0) (mkS 32 [(0, .one (.xs row 0 n)), (3, .one (.gs 0 k 1)), (10, .one (.xs row 0 n)), (11, .one (.i64 n)), (12, .one (.i64 i))]) [some ar] :=
  wpRun_ok (hX ▸ envG_ok T7 mf0 M0) (hX ▸ envG_call T7_ok M0_ok) (hX ▸ mixed) (hX ▸ ok5) LK_ok (cast (β := wpRun (envG T7 mf0 M0) [8, 13, 18, 28] [] false (RS.mk Try.f5.results.toList 0 (CS.mk [] [] [] [])) (LK X 5 0 Q true [(5, LS.mk [0, 3, 10, 11, 12] (CS.mk [(3, 2)] [true] [] []))]) Q 2000 (kOf Try.f5 0) (mkS 32 [(0, .one (.xs row 0 n)), (3, .one (.gs 0 k 1)), (10, .one (.xs row 0 n)), (11, .one (.i64 n)), (12, .one (.i64 i))]) [some ar]) (by kernel_rfl) h)

theorem same_self (l : List AC) : sameCells l l = true := by unfold sameCells; simp
theorem fit20 (l : List (BitVec 8)) (h : l.length = 20) : fitCs [AC.u8 0, AC.u8 0, AC.u8 0, AC.u8 0, AC.u8 0, AC.u8 0, AC.u8 0, AC.u8 0, AC.u8 0, AC.u8 0, AC.u8 0, AC.u8 0, AC.u8 0, AC.u8 0, AC.u8 0, AC.u8 0, AC.u8 0, AC.u8 0, AC.u8 0, AC.u8 0] (l.map AC.u8) := by
  have := fit_u8 l
  rw [h] at this
  exact this
theorem digF_len (s : Sm) : (digF s).length = 20 := rfl
theorem tk (b : List (BitVec 8)) : List.take (b.length * 1) (List.drop 0 (b.map AC.u8)) = b.map AC.u8 := by rw [List.drop_zero, List.take_of_length_le (by rw [List.length_map]; omega)]
theorem tkP (b : List (List (BitVec 8))) : List.take (b.length * 1) (List.drop 0 (b.map encP)) = b.map encP := by rw [List.drop_zero, List.take_of_length_le (by rw [List.length_map]; omega)]
theorem asP1 (b : List (BitVec 8)) : List.map asP [AC.xs (b.map AC.u8) 0 b.length] = [b] := map_asP [b]
theorem asP2 (a b : List (BitVec 8)) : List.map asP [AC.xs (a.map AC.u8) 0 a.length, AC.xs (b.map AC.u8) 0 b.length] = [a, b] := map_asP [a, b]
theorem add_len (s : Sm) (hs : s.left.length = 64) (b : List (BitVec 8)) : (addF s b).left.length = 64 := by rw [addF_left, hs]

theorem s4 (b : List (BitVec 8)) : Spec Try.prog 4 [.one (.xs (b.map AC.u8) 0 b.length)] [] (Is (.one (.b true))) := by
  refine Spec.of_run ok4 fun X hX => vc4 hX _ _ ?_
  have hA := add_len nwS rfl b
  have h70 : (addF nwS b).cells.length = 70 := by rw [Sm.len, hA]
  have hn : nwS.cells.length = 70 := rfl
  have f1 := fit20 (ofF b) rfl
  have e2 : [b].foldl addF nwS = addF nwS b := rfl
  simp only [tk, hide_eq, asP1, e2, map_as8, dig_of, smOf_cells nwS rfl, smOf_cells _ hA, same_self]
  have fin : Is (.one (.b true)) (.one (.b true)) [] := rfl
  refine ⟨by rw [List.length_map]; omega, fun _ => fin, fun h => ?_⟩
  have h := of_decide_eq_false h
  refine ⟨by decide, by rw [List.length_map]; omega, ⟨rfl, trivial, by decide⟩, by rw [List.length_map]; omega, ⟨allU8_map _, List.length_map _, by omega⟩, ⟨f1, f1⟩, fun _ => ⟨Sm.flat _, by rw [List.length_map]; omega, ⟨trivial, hn, allU8_map _, List.length_map _⟩, Sm.flat _, ⟨trivial, h70⟩, by rw [List.length_map]; omega, ⟨allU8_map _, List.length_map _, by omega⟩, ⟨f1, f1⟩, fun _ => fin, nofun⟩, nofun⟩

theorem foldl_flat : ∀ (ps : List (List (BitVec 8))) (s : Sm), ps.foldl addF s = addF s ps.flatten
  | [], _ => rfl
  | p :: ps, s => by rw [List.foldl_cons, foldl_flat ps, List.flatten_cons, addF_app]
theorem flat_take (ps : List (List (BitVec 8))) (i : Nat) (h : i < ps.length) : (ps.take (i + 1)).flatten = (ps.take i).flatten ++ ps.getD i [] := by
  rw [List.take_add_one, List.getElem?_eq_getElem h, List.flatten_append, List.getD_eq_getElem?_getD, List.getElem?_eq_getElem h]
  simp
theorem s5 (ps : List (List (BitVec 8))) : Spec Try.prog 5 [.one (.xs (ps.map encP) 0 ps.length)] [] (Is (.one (.b true))) := by
  refine Spec.of_run ok5 fun X hX => vc5 hX _ _ ?_
  have fin : Is (.one (.b true)) (.one (.b true)) [] := rfl
  refine ⟨fun _ => fin, fun h => ?_⟩
  have hn : ps.length ≤ 20 := by have := of_decide_eq_false h; omega
  have main : ∀ (d i : Nat), i + d = ps.length → (ps.take i).flatten.length ≤ 500 * i → KRun X 5 0 (Is (.one (.b true))) (kOf Try.f5 0) (mkS 32 [(0, .one (.xs (ps.map encP) 0 ps.length)), (3, .one (.gs 0 (ps.take i).flatten.length 1)), (10, .one (.xs (ps.map encP) 0 ps.length)), (11, .one (.i64 ps.length)), (12, .one (.i64 i))]) [some ((ps.take i).flatten.map AC.u8)] := by
    intro d
    induction d with
    | zero =>
      intro i hi hb
      have hi : i = ps.length := by omega
      subst hi
      refine vc5a hX _ _ _ _ _ ⟨fun h => absurd (of_decide_eq_true h) (by omega), fun _ => ?_⟩
      rw [List.take_length] at hb ⊢
      have f1 := fit20 (ofF ps.flatten) rfl
      simp only [tk, tkP, map_asP, hide_eq, map_as8, foldl_flat, dig_of, same_self, List.length_map]
      exact ⟨by omega, ⟨trivial, trivial, by omega⟩, by omega, flat_u8 _, ⟨allU8_map _, trivial, by omega⟩, ⟨f1, f1⟩, fun _ => fin, nofun⟩
    | succ d ih =>
      intro i hi hb
      have hg := gt_P_at ps i (by omega)
      refine vc5a hX _ _ _ _ _ ⟨fun _ => ?_, fun h => absurd (of_decide_eq_false h) (by omega)⟩
      simp only [ixi, hg, encP, xsRow, xsOff, xsLen, tk, List.length_map]
      refine ⟨by omega, trivial, fun _ => fin, fun h5 => ?_⟩
      have h5 := of_decide_eq_false h5
      have e : (ps.take i).flatten.map AC.u8 ++ (ps.getD i []).map AC.u8 = (ps.take (i + 1)).flatten.map AC.u8 := by rw [flat_take ps i (by omega), List.map_append]
      have el : (ps.take i).flatten.length + (ps.getD i []).length = (ps.take (i + 1)).flatten.length := by rw [flat_take ps i (by omega), List.length_append]
      rw [e, el]
      refine ⟨by omega, by omega, by omega, by unfold in64; omega, flat_u8 _, ⟨?_⟩⟩
      exact ih (i + 1) (by omega) (by omega)
  exact ⟨exactFlat rfl, ⟨main ps.length 0 (by omega) (by simp)⟩⟩
end DH
