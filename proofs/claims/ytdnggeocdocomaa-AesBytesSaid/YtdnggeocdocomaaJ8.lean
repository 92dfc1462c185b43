/- Walks of functions, each by evaluation: what each returns. -/
import Derived.Test.YtdnggeocdocomaaJ7
set_option linter.unusedVariables false
set_option linter.unusedSimpArgs false
noncomputable section
namespace DH
open Go Go.Proofs
noncomputable def T16 : Tab := fun f xs => match f, xs with
  | 47, [] => some ([], .one (.b true))
  | f, xs => T15 f xs
theorem T16_ok : TabOk Try.prog T16 := by
  intro f xs cs r h hc
  unfold T16 at h
  split at h
  · obtain ⟨rfl, rfl⟩ := Prod.mk.inj (Option.some.inj h)
    exact ⟨⟨_, _, ok47⟩, s47, rfl⟩
  · exact T15_ok _ _ _ _ h hc
set_option maxRecDepth 100000 in
theorem vc9 {X : Ctx} {Q : AV → Mem → Prop} (hX : X.P = Try.prog) (ks bs : List AC) (h : 16 ≤ List.length ks ∧ Flat (List.take 16 (List.drop 0 ks)) ∧ (allU8 (List.take 16 (List.drop 0 ks)) ∧ List.length (List.take 16 (List.drop 0 ks)) = 16) ∧ 16 ≤ List.length bs ∧ Flat (AC.b true :: hide (List.map AC.u8 (exL (List.map asU8 (List.take 16 (List.drop 0 ks))) 176))) ∧ Flat (List.take 16 (List.drop 0 bs)) ∧ (hide (List.map AC.u8 (exL (List.map asU8 (List.take 16 (List.drop 0 ks))) 176)) = List.map AC.u8 (exL (keyOf (hide (List.map AC.u8 (exL (List.map asU8 (List.take 16 (List.drop 0 ks))) 176)))) 176) ∧ List.length (keyOf (hide (List.map AC.u8 (exL (List.map asU8 (List.take 16 (List.drop 0 ks))) 176)))) = 16 ∧ allU8 (List.take 16 (List.drop 0 bs)) ∧ List.length (List.take 16 (List.drop 0 bs)) = 16) ∧ 16 ≤ List.length ks ∧ 16 ≤ List.length bs ∧ Flat (List.take 16 (List.drop 0 ks)) ∧ Flat (List.take 16 (List.drop 0 bs)) ∧ (allU8 (List.take 16 (List.drop 0 ks)) ∧ List.length (List.take 16 (List.drop 0 ks)) = 16 ∧ allU8 (List.take 16 (List.drop 0 bs)) ∧ List.length (List.take 16 (List.drop 0 bs)) = 16) ∧ (fitCs (List.replicate 16 (AC.u8 (0 : BitVec 8))) (hide (List.map AC.u8 (encF (keyOf (hide (List.map AC.u8 (exL (List.map asU8 (List.take 16 (List.drop 0 ks))) 176)))) (List.map asU8 (List.take 16 (List.drop 0 bs)))))) ∧ fitCs (List.replicate 16 (AC.u8 (0 : BitVec 8))) (hide (List.map AC.u8 (encF (List.map asU8 (List.take 16 (List.drop 0 ks))) (List.map asU8 (List.take 16 (List.drop 0 bs))))))) ∧ (sameCells (hide (List.map AC.u8 (encF (keyOf (hide (List.map AC.u8 (exL (List.map asU8 (List.take 16 (List.drop 0 ks))) 176)))) (List.map asU8 (List.take 16 (List.drop 0 bs)))))) (hide (List.map AC.u8 (encF (List.map asU8 (List.take 16 (List.drop 0 ks))) (List.map asU8 (List.take 16 (List.drop 0 bs)))))) = true → Q (AV.one (AC.b true)) []) ∧ (sameCells (hide (List.map AC.u8 (encF (keyOf (hide (List.map AC.u8 (exL (List.map asU8 (List.take 16 (List.drop 0 ks))) 176)))) (List.map asU8 (List.take 16 (List.drop 0 bs)))))) (hide (List.map AC.u8 (encF (List.map asU8 (List.take 16 (List.drop 0 ks))) (List.map asU8 (List.take 16 (List.drop 0 bs)))))) = false → Q (AV.one (AC.b false)) [])) : KRun X 9 0 Q ([.code (bodyOf Try.f9)]) (slots [.agg ks, .agg bs] Try.f9.ntmps) [] :=
  wpRun_ok (hX ▸ baseK_ok T16 mf13 M13) (hX ▸ baseK_call T16_ok M13_ok) (hX ▸ mixed) (hX ▸ ok9) LK_ok (cast (β := wpRun (baseK T16 mf13 M13) [12] [] false (RS.mk Try.f9.results.toList 0 (CS.mk [] [] [] [])) (LK X 9 0 Q true []) Q 2000 ([.code (bodyOf Try.f9)]) (slots [.agg ks, .agg bs] Try.f9.ntmps) []) (by kernel_rfl) h)
set_option maxRecDepth 100000 in
theorem vc10 {X : Ctx} {Q : AV → Mem → Prop} (hX : X.P = Try.prog) (c d : BitVec 8) (h : (decide (bx c = bx c) = true → (decide (xt c = tmF c (BitVec.ofInt 8 (2 : Int))) = true → ((decide (bx c = bx d) == decide (c = d)) = true → Q (AV.one (AC.b true)) []) ∧ ((decide (bx c = bx d) == decide (c = d)) = false → Q (AV.one (AC.b false)) [])) ∧ (decide (xt c = tmF c (BitVec.ofInt 8 (2 : Int))) = false → Q (AV.one (AC.b false)) [])) ∧ (decide (bx c = bx c) = false → Q (AV.one (AC.b false)) [])) : KRun X 10 0 Q ([.code (bodyOf Try.f10)]) (slots [.one (.u8 c), .one (.u8 d)] Try.f10.ntmps) [] :=
  wpRun_ok (hX ▸ baseK_ok T16 mf13 M13) (hX ▸ baseK_call T16_ok M13_ok) (hX ▸ mixed) (hX ▸ ok10) LK_ok (cast (β := wpRun (baseK T16 mf13 M13) [9, 15, 26] [] false (RS.mk Try.f10.results.toList 0 (CS.mk [] [] [] [])) (LK X 10 0 Q true []) Q 2000 ([.code (bodyOf Try.f10)]) (slots [.one (.u8 c), .one (.u8 d)] Try.f10.ntmps) []) (by kernel_rfl) h)
theorem keyOf_ex' (key : List (BitVec 8)) (hk : key.length = 16) : keyOf ((exL key 176).map AC.u8) = key := keyOf_ex key hk
theorem encF_len (key b : List (BitVec 8)) : (encF key b).length = 16 := encN_len _ _ _
theorem fitE {l : List (BitVec 8)} (h : l.length = 16) : fitCs (List.replicate 16 (AC.u8 0)) (l.map AC.u8) := by
  have := fit_u8 l
  rw [h] at this
  exact this
theorem s9 (key b : List (BitVec 8)) (hk : key.length = 16) (hb : b.length = 16) : Spec Try.prog 9 [.agg (key.map AC.u8), .agg (b.map AC.u8)] [] Fin := by
  refine Spec.of_run ok9 fun X hX => vc9 hX _ _ ?_
  have ek : key.take 16 = key := List.take_of_length_le (by omega)
  have eb : b.take 16 = b := List.take_of_length_le (by omega)
  have kk := keyOf_ex key hk
  have zz : Flat (AC.b true :: (exL key 176).map AC.u8) := fun c h => by
    rcases List.mem_cons.1 h with rfl | h
    · rfl
    · exact flat_u8 _ c h
  have fe := fitE (encF_len key b)
  simp only [hide_eq, tkm, tk0, List.drop_zero, ek, eb, map_as8, kk, same_self, List.length_map, hk, hb, Bool.true_eq_false, false_implies, true_implies, forall_const]
  clear kk ek eb
  (repeat' (first | exact fin | exact trivial | exact allU8_map _ | exact flat_u8 _ | exact zz | exact fe | exact Nat.le_refl _ | refine And.intro ?_ ?_ | (intro h; first | (cases h; done) | skip))) <;> omega
theorem s10 (c d : BitVec 8) : Spec Try.prog 10 [.one (.u8 c), .one (.u8 d)] [] Fin := by
  refine Spec.of_run ok10 fun X hX => vc10 hX _ _ ?_
  have e1 : decide (bx c = bx c) = true := decide_eq_true rfl
  have e2 : decide (xt c = tmF c (BitVec.ofInt 8 2)) = true := decide_eq_true (tm_all c).1.symm
  have e3 : (decide (bx c = bx d) == decide (c = d)) = true := by
    have : decide (bx c = bx d) = decide (c = d) := decide_eq_decide.2 ⟨bx_inj, fun h => by rw [h]⟩
    rw [this]
    exact beq_self_eq_true _
  rw [e1, e2, e3]
  exact ⟨fun _ => ⟨fun _ => ⟨fun _ => fin, nofun⟩, nofun⟩, nofun⟩
end DH
