/- Walks of functions, each by evaluation: what each returns. -/
import Derived.Test.YtfkiagnehomefaaO1
set_option linter.unusedVariables false
set_option linter.unusedSimpArgs false
noncomputable section
namespace DH
open Go Go.Proofs

noncomputable def T22 : Tab := fun f xs => match f, xs with
  | 16, [] => some ([], .one (.b true))
  | 18, [.agg [.b kn, .i64 t, .i64 v, .i64 n], .one (.i64 ms)] => some ([fine t v n], .agg [.b true, .i64 (smT kn t ms), .i64 (smV kn t v ms), .i64 0])
  | 23, [.agg [.b kn, .i64 t, .i64 v, .i64 n]] => some ([fine t v n], .one (.i64 (wtF kn t v n)))
  | 24, [.one (.xp [.b kn, .i64 t, .i64 v, .i64 n] 0)] => some ([fine t v n], .one (.i64 (wtF kn t v n)))
  | _, _ => none
noncomputable def M22 : TabM := fun f xs m => match f, xs, m with
  | 21, [.one (.ptr 0 0)], [some [.b kn, .i64 t, .i64 v, .i64 n]] => some ([fine t v n], .tup [], [some [.b kn, .i64 t, .i64 v, .i64 (min (n + 1) 16)]])
  | 22, [.one (.ptr 0 0), .one (.i64 ms)], [some [.b kn, .i64 t, .i64 v, .i64 n]] => some ([fine t v n], .tup [], [some [.b true, .i64 (smT kn t ms), .i64 (smV kn t v ms), .i64 0]])
  | _, _, _ => none
noncomputable def mf22 : FuncId → Option MF := fun f => match f with
  | 21 => some ⟨⟨[], [false]⟩, [false]⟩
  | 22 => some ⟨⟨[], [false]⟩, [false]⟩
  | _ => none
noncomputable def inlA : Inl := fun f => match f with
  | 17 => some (Try.f17, [])
  | 18 => some (Try.f18, [])
  | 19 => some (Try.f19, [])
  | 20 => some (Try.f20, [])
  | 23 => some (Try.f23, [])
  | 25 => some (Try.f25, [])
  | 26 => some (Try.f26, [])
  | _ => none
theorem inlA_ok : InlOk Try.prog inlA := by
  intro f fn hs h
  unfold inlA at h
  split at h <;> first | (cases h; done) | (obtain ⟨rfl, _⟩ := Prod.mk.inj (Option.some.inj h); first | exact ok17 | exact ok18 | exact ok19 | exact ok20 | exact ok23 | exact ok25 | exact ok26)
theorem base_call : CallOk Try.prog (base T0 mf0 M0) := ⟨T0_ok, fun f mf xs m0 cs r m1 _ h hc => M0_ok f xs m0 cs r m1 h hc⟩
theorem s16 : Spec Try.prog 16 [] [] (Is (.one (.b true))) :=
  Spec.lit (litE_envOk (base_ok T0 mf0 M0) inlA 6) (litE_ok (base_ok T0 mf0 M0) base_call mixed inlA_ok 6) mixed ok16 (hs := []) (n := 1000) (by kernel_rfl)
theorem T22_ok : TabOk Try.prog T22 := by
  intro f xs cs r h hc
  unfold T22 at h
  split at h <;> first | (cases h; done) | (obtain ⟨rfl, rfl⟩ := Prod.mk.inj (Option.some.inj h))
  · exact ⟨⟨_, _, ok16⟩, s16, rfl⟩
  · exact ⟨⟨_, _, ok18⟩, s18 _ _ _ _ _ hc.1, exactB_ok (v := .agg _) rfl⟩
  · exact ⟨⟨_, _, ok23⟩, s23 _ _ _ _ hc.1, rfl⟩
  · exact ⟨⟨_, _, ok24⟩, s24 _ _ _ _ hc.1, rfl⟩
theorem M22_ok : TabMOk Try.prog M22 := by
  intro f xs m cs r m1 h hc
  unfold M22 at h
  split at h <;> first | (cases h; done) | (simp only [Option.some.injEq, Prod.mk.injEq] at h; obtain ⟨rfl, rfl, rfl⟩ := h)
  · exact ⟨⟨_, _, ok21⟩, s21 _ _ _ _ hc.1⟩
  · exact ⟨⟨_, _, ok22⟩, s22 _ _ _ _ _ hc.1⟩
theorem vc4 {X : Ctx} {Q : AV → Mem → Prop} (hX : X.P = Try.prog) (row : List AC) (n : Nat) (h : (decide ((1000 : Int) < (↑n : Int)) = true → Q (AV.one (AC.b true)) []) ∧ (decide ((1000 : Int) < (↑n : Int)) = false → KR X (4 : Nat) (0 : Nat) Q (kOf Try.f4 (0 : Nat)) (mkS (59 : Nat) [((3 : Nat), AV.one (AC.ptr (0 : Nat) (0 : Nat))), ((4 : Nat), AV.one (AC.ptr (1 : Nat) (0 : Nat))), ((12 : Nat), AV.one (AC.xs row (0 : Nat) n)), ((13 : Nat), AV.one (AC.i64 (↑n : Int))), ((14 : Nat), AV.one (AC.i64 (0 : Int)))]) [some [AC.b false, AC.i64 (0 : Int), AC.i64 (0 : Int), AC.i64 (0 : Int)], some [AC.b false, AC.i64 (0 : Int), AC.i64 (0 : Int), AC.i64 (0 : Int)]])) : KRun X 4 0 Q ([.code (bodyOf Try.f4)]) (slots [.one (.xs row 0 n)] Try.f4.ntmps) [] :=
  wpRun_ok (hX ▸ env22_ok T22 mf22 M22) (hX ▸ env22_call T22_ok M22_ok) (hX ▸ mixed) (hX ▸ ok4) LK_ok (cast (show ((decide ((1000 : Int) < (↑n : Int)) = true → Q (AV.one (AC.b true)) []) ∧ (decide ((1000 : Int) < (↑n : Int)) = false → KR X (4 : Nat) (0 : Nat) Q (kOf Try.f4 (0 : Nat)) (mkS (59 : Nat) [((3 : Nat), AV.one (AC.ptr (0 : Nat) (0 : Nat))), ((4 : Nat), AV.one (AC.ptr (1 : Nat) (0 : Nat))), ((12 : Nat), AV.one (AC.xs row (0 : Nat) n)), ((13 : Nat), AV.one (AC.i64 (↑n : Int))), ((14 : Nat), AV.one (AC.i64 (0 : Int)))]) [some [AC.b false, AC.i64 (0 : Int), AC.i64 (0 : Int), AC.i64 (0 : Int)], some [AC.b false, AC.i64 (0 : Int), AC.i64 (0 : Int), AC.i64 (0 : Int)]])) = wpRun (env22 T22 mf22 M22) [9, 15, 19, 33, 40, 48, 55] [] false (RS.mk Try.f4.results.toList 0 (CS.mk [] [])) (LK X 4 0 Q true [(6, LS.mk [3, 4, 12, 13, 14] (CS.mk [] [false, false]))]) Q 2000 ([.code (bodyOf Try.f4)]) (slots [.one (.xs row 0 n)] Try.f4.ntmps) [] by kernel_rfl) h)
theorem vc4a {X : Ctx} {Q : AV → Mem → Prop} (hX : X.P = Try.prog) (row : List AC) (n : Nat) (i : Int) (kn : Bool) (t v k : Int) (h : (decide (i < (↑n : Int)) = true → ((0 : Int) ≤ i ∧ i < (↑n : Int)) ∧ gt AC.any row ((0 : Nat) + Int.toNat i * (2 : Nat)) = AC.b (asB (gt AC.any row ((0 : Nat) + Int.toNat i * (2 : Nat)))) ∧ gt AC.any row ((0 : Nat) + Int.toNat i * (2 : Nat) + (1 : Nat)) = AC.i64 (asI64 (gt AC.any row ((0 : Nat) + Int.toNat i * (2 : Nat) + (1 : Nat)))) ∧ (asB (gt AC.any row ((0 : Nat) + Int.toNat i * (2 : Nat))) = true → in64 (k + (1 : Int)) ∧ fine t v k ∧ fine t v (min (k + (1 : Int)) (16 : Int)) ∧ fine t v (min (k + (1 : Int)) (16 : Int)) ∧ ((!decide (wtF kn t v (min (k + (1 : Int)) (16 : Int)) = wtF kn t v (min (k + (1 : Int)) (16 : Int)))) = true → Q (AV.one (AC.b false)) []) ∧ ((!decide (wtF kn t v (min (k + (1 : Int)) (16 : Int)) = wtF kn t v (min (k + (1 : Int)) (16 : Int)))) = false → ((8 : Int) ≠ (0 : Int) ∧ in64 (Int.tdiv t (8 : Int))) ∧ ((8 : Int) ≠ (0 : Int) ∧ in64 (Int.tdiv t (8 : Int))) ∧ ((!decide (Int.tdiv t (8 : Int) = Int.tdiv t (8 : Int))) = true → Q (AV.one (AC.b false)) []) ∧ ((!decide (Int.tdiv t (8 : Int) = Int.tdiv t (8 : Int))) = false → ((4 : Int) ≠ (0 : Int) ∧ in64 (Int.tdiv v (4 : Int))) ∧ ((4 : Int) ≠ (0 : Int) ∧ in64 (Int.tdiv v (4 : Int))) ∧ ((!decide (Int.tdiv v (4 : Int) = Int.tdiv v (4 : Int))) = true → Q (AV.one (AC.b false)) []) ∧ ((!decide (Int.tdiv v (4 : Int) = Int.tdiv v (4 : Int))) = false → ((!decide (min (k + (1 : Int)) (16 : Int) = min (k + (1 : Int)) (16 : Int))) = true → Q (AV.one (AC.b false)) []) ∧ ((!decide (min (k + (1 : Int)) (16 : Int) = min (k + (1 : Int)) (16 : Int))) = false → in64 (i + (1 : Int)) ∧ KR X (4 : Nat) (0 : Nat) Q (kOf Try.f4 (0 : Nat)) (mkS (59 : Nat) [((3 : Nat), AV.one (AC.ptr (0 : Nat) (0 : Nat))), ((4 : Nat), AV.one (AC.ptr (1 : Nat) (0 : Nat))), ((12 : Nat), AV.one (AC.xs row (0 : Nat) n)), ((13 : Nat), AV.one (AC.i64 (↑n : Int))), ((14 : Nat), AV.one (AC.i64 (i + (1 : Int))))]) [some [AC.b kn, AC.i64 t, AC.i64 v, AC.i64 (min (k + (1 : Int)) (16 : Int))], some [AC.b kn, AC.i64 t, AC.i64 v, AC.i64 (min (k + (1 : Int)) (16 : Int))]]))))) ∧ (asB (gt AC.any row ((0 : Nat) + Int.toNat i * (2 : Nat))) = false → fine t v k ∧ fine t v k ∧ fine (smT kn t (asI64 (gt AC.any row ((0 : Nat) + Int.toNat i * (2 : Nat) + (1 : Nat))))) (smV kn t v (asI64 (gt AC.any row ((0 : Nat) + Int.toNat i * (2 : Nat) + (1 : Nat))))) (0 : Int) ∧ fine (smT kn t (asI64 (gt AC.any row ((0 : Nat) + Int.toNat i * (2 : Nat) + (1 : Nat))))) (smV kn t v (asI64 (gt AC.any row ((0 : Nat) + Int.toNat i * (2 : Nat) + (1 : Nat))))) (0 : Int) ∧ ((!decide (wtF true (smT kn t (asI64 (gt AC.any row ((0 : Nat) + Int.toNat i * (2 : Nat) + (1 : Nat))))) (smV kn t v (asI64 (gt AC.any row ((0 : Nat) + Int.toNat i * (2 : Nat) + (1 : Nat))))) (0 : Int) = wtF true (smT kn t (asI64 (gt AC.any row ((0 : Nat) + Int.toNat i * (2 : Nat) + (1 : Nat))))) (smV kn t v (asI64 (gt AC.any row ((0 : Nat) + Int.toNat i * (2 : Nat) + (1 : Nat))))) (0 : Int))) = true → Q (AV.one (AC.b false)) []) ∧ ((!decide (wtF true (smT kn t (asI64 (gt AC.any row ((0 : Nat) + Int.toNat i * (2 : Nat) + (1 : Nat))))) (smV kn t v (asI64 (gt AC.any row ((0 : Nat) + Int.toNat i * (2 : Nat) + (1 : Nat))))) (0 : Int) = wtF true (smT kn t (asI64 (gt AC.any row ((0 : Nat) + Int.toNat i * (2 : Nat) + (1 : Nat))))) (smV kn t v (asI64 (gt AC.any row ((0 : Nat) + Int.toNat i * (2 : Nat) + (1 : Nat))))) (0 : Int))) = false → ((8 : Int) ≠ (0 : Int) ∧ in64 (Int.tdiv (smT kn t (asI64 (gt AC.any row ((0 : Nat) + Int.toNat i * (2 : Nat) + (1 : Nat))))) (8 : Int))) ∧ ((8 : Int) ≠ (0 : Int) ∧ in64 (Int.tdiv (smT kn t (asI64 (gt AC.any row ((0 : Nat) + Int.toNat i * (2 : Nat) + (1 : Nat))))) (8 : Int))) ∧ ((!decide (Int.tdiv (smT kn t (asI64 (gt AC.any row ((0 : Nat) + Int.toNat i * (2 : Nat) + (1 : Nat))))) (8 : Int) = Int.tdiv (smT kn t (asI64 (gt AC.any row ((0 : Nat) + Int.toNat i * (2 : Nat) + (1 : Nat))))) (8 : Int))) = true → Q (AV.one (AC.b false)) []) ∧ ((!decide (Int.tdiv (smT kn t (asI64 (gt AC.any row ((0 : Nat) + Int.toNat i * (2 : Nat) + (1 : Nat))))) (8 : Int) = Int.tdiv (smT kn t (asI64 (gt AC.any row ((0 : Nat) + Int.toNat i * (2 : Nat) + (1 : Nat))))) (8 : Int))) = false → ((4 : Int) ≠ (0 : Int) ∧ in64 (Int.tdiv (smV kn t v (asI64 (gt AC.any row ((0 : Nat) + Int.toNat i * (2 : Nat) + (1 : Nat))))) (4 : Int))) ∧ ((4 : Int) ≠ (0 : Int) ∧ in64 (Int.tdiv (smV kn t v (asI64 (gt AC.any row ((0 : Nat) + Int.toNat i * (2 : Nat) + (1 : Nat))))) (4 : Int))) ∧ ((!decide (Int.tdiv (smV kn t v (asI64 (gt AC.any row ((0 : Nat) + Int.toNat i * (2 : Nat) + (1 : Nat))))) (4 : Int) = Int.tdiv (smV kn t v (asI64 (gt AC.any row ((0 : Nat) + Int.toNat i * (2 : Nat) + (1 : Nat))))) (4 : Int))) = true → Q (AV.one (AC.b false)) []) ∧ ((!decide (Int.tdiv (smV kn t v (asI64 (gt AC.any row ((0 : Nat) + Int.toNat i * (2 : Nat) + (1 : Nat))))) (4 : Int) = Int.tdiv (smV kn t v (asI64 (gt AC.any row ((0 : Nat) + Int.toNat i * (2 : Nat) + (1 : Nat))))) (4 : Int))) = false → ((!decide ((0 : Int) = (0 : Int))) = true → Q (AV.one (AC.b false)) []) ∧ ((!decide ((0 : Int) = (0 : Int))) = false → in64 (i + (1 : Int)) ∧ KR X (4 : Nat) (0 : Nat) Q (kOf Try.f4 (0 : Nat)) (mkS (59 : Nat) [((3 : Nat), AV.one (AC.ptr (0 : Nat) (0 : Nat))), ((4 : Nat), AV.one (AC.ptr (1 : Nat) (0 : Nat))), ((12 : Nat), AV.one (AC.xs row (0 : Nat) n)), ((13 : Nat), AV.one (AC.i64 (↑n : Int))), ((14 : Nat), AV.one (AC.i64 (i + (1 : Int))))]) [some [AC.b true, AC.i64 (smT kn t (asI64 (gt AC.any row ((0 : Nat) + Int.toNat i * (2 : Nat) + (1 : Nat))))), AC.i64 (smV kn t v (asI64 (gt AC.any row ((0 : Nat) + Int.toNat i * (2 : Nat) + (1 : Nat))))), AC.i64 (0 : Int)], some [AC.b true, AC.i64 (smT kn t (asI64 (gt AC.any row ((0 : Nat) + Int.toNat i * (2 : Nat) + (1 : Nat))))), AC.i64 (smV kn t v (asI64 (gt AC.any row ((0 : Nat) + Int.toNat i * (2 : Nat) + (1 : Nat))))), AC.i64 (0 : Int)]])))))) ∧ (decide (i < (↑n : Int)) = false → Q (AV.one (AC.b true)) [])) : KRun X 4 0 Q (kOf Try.f4 0) (mkS 59 [(3, .one (.ptr 0 0)), (4, .one (.ptr 1 0)), (12, .one (.xs row 0 n)), (13, .one (.i64 n)), (14, .one (.i64 i))]) [some [.b kn, .i64 t, .i64 v, .i64 k], some [.b kn, .i64 t, .i64 v, .i64 k]] :=
  wpRun_ok (hX ▸ env22_ok T22 mf22 M22) (hX ▸ env22_call T22_ok M22_ok) (hX ▸ mixed) (hX ▸ ok4) LK_ok (cast (show ((decide (i < (↑n : Int)) = true → ((0 : Int) ≤ i ∧ i < (↑n : Int)) ∧ gt AC.any row ((0 : Nat) + Int.toNat i * (2 : Nat)) = AC.b (asB (gt AC.any row ((0 : Nat) + Int.toNat i * (2 : Nat)))) ∧ gt AC.any row ((0 : Nat) + Int.toNat i * (2 : Nat) + (1 : Nat)) = AC.i64 (asI64 (gt AC.any row ((0 : Nat) + Int.toNat i * (2 : Nat) + (1 : Nat)))) ∧ (asB (gt AC.any row ((0 : Nat) + Int.toNat i * (2 : Nat))) = true → in64 (k + (1 : Int)) ∧ fine t v k ∧ fine t v (min (k + (1 : Int)) (16 : Int)) ∧ fine t v (min (k + (1 : Int)) (16 : Int)) ∧ ((!decide (wtF kn t v (min (k + (1 : Int)) (16 : Int)) = wtF kn t v (min (k + (1 : Int)) (16 : Int)))) = true → Q (AV.one (AC.b false)) []) ∧ ((!decide (wtF kn t v (min (k + (1 : Int)) (16 : Int)) = wtF kn t v (min (k + (1 : Int)) (16 : Int)))) = false → ((8 : Int) ≠ (0 : Int) ∧ in64 (Int.tdiv t (8 : Int))) ∧ ((8 : Int) ≠ (0 : Int) ∧ in64 (Int.tdiv t (8 : Int))) ∧ ((!decide (Int.tdiv t (8 : Int) = Int.tdiv t (8 : Int))) = true → Q (AV.one (AC.b false)) []) ∧ ((!decide (Int.tdiv t (8 : Int) = Int.tdiv t (8 : Int))) = false → ((4 : Int) ≠ (0 : Int) ∧ in64 (Int.tdiv v (4 : Int))) ∧ ((4 : Int) ≠ (0 : Int) ∧ in64 (Int.tdiv v (4 : Int))) ∧ ((!decide (Int.tdiv v (4 : Int) = Int.tdiv v (4 : Int))) = true → Q (AV.one (AC.b false)) []) ∧ ((!decide (Int.tdiv v (4 : Int) = Int.tdiv v (4 : Int))) = false → ((!decide (min (k + (1 : Int)) (16 : Int) = min (k + (1 : Int)) (16 : Int))) = true → Q (AV.one (AC.b false)) []) ∧ ((!decide (min (k + (1 : Int)) (16 : Int) = min (k + (1 : Int)) (16 : Int))) = false → in64 (i + (1 : Int)) ∧ KR X (4 : Nat) (0 : Nat) Q (kOf Try.f4 (0 : Nat)) (mkS (59 : Nat) [((3 : Nat), AV.one (AC.ptr (0 : Nat) (0 : Nat))), ((4 : Nat), AV.one (AC.ptr (1 : Nat) (0 : Nat))), ((12 : Nat), AV.one (AC.xs row (0 : Nat) n)), ((13 : Nat), AV.one (AC.i64 (↑n : Int))), ((14 : Nat), AV.one (AC.i64 (i + (1 : Int))))]) [some [AC.b kn, AC.i64 t, AC.i64 v, AC.i64 (min (k + (1 : Int)) (16 : Int))], some [AC.b kn, AC.i64 t, AC.i64 v, AC.i64 (min (k + (1 : Int)) (16 : Int))]]))))) ∧ (asB (gt AC.any row ((0 : Nat) + Int.toNat i * (2 : Nat))) = false → fine t v k ∧ fine t v k ∧ fine (smT kn t (asI64 (gt AC.any row ((0 : Nat) + Int.toNat i * (2 : Nat) + (1 : Nat))))) (smV kn t v (asI64 (gt AC.any row ((0 : Nat) + Int.toNat i * (2 : Nat) + (1 : Nat))))) (0 : Int) ∧ fine (smT kn t (asI64 (gt AC.any row ((0 : Nat) + Int.toNat i * (2 : Nat) + (1 : Nat))))) (smV kn t v (asI64 (gt AC.any row ((0 : Nat) + Int.toNat i * (2 : Nat) + (1 : Nat))))) (0 : Int) ∧ ((!decide (wtF true (smT kn t (asI64 (gt AC.any row ((0 : Nat) + Int.toNat i * (2 : Nat) + (1 : Nat))))) (smV kn t v (asI64 (gt AC.any row ((0 : Nat) + Int.toNat i * (2 : Nat) + (1 : Nat))))) (0 : Int) = wtF true (smT kn t (asI64 (gt AC.any row ((0 : Nat) + Int.toNat i * (2 : Nat) + (1 : Nat))))) (smV kn t v (asI64 (gt AC.any row ((0 : Nat) + Int.toNat i * (2 : Nat) + (1 : Nat))))) (0 : Int))) = true → Q (AV.one (AC.b false)) []) ∧ ((!decide (wtF true (smT kn t (asI64 (gt AC.any row ((0 : Nat) + Int.toNat i * (2 : Nat) + (1 : Nat))))) (smV kn t v (asI64 (gt AC.any row ((0 : Nat) + Int.toNat i * (2 : Nat) + (1 : Nat))))) (0 : Int) = wtF true (smT kn t (asI64 (gt AC.any row ((0 : Nat) + Int.toNat i * (2 : Nat) + (1 : Nat))))) (smV kn t v (asI64 (gt AC.any row ((0 : Nat) + Int.toNat i * (2 : Nat) + (1 : Nat))))) (0 : Int))) = false → ((8 : Int) ≠ (0 : Int) ∧ in64 (Int.tdiv (smT kn t (asI64 (gt AC.any row ((0 : Nat) + Int.toNat i * (2 : Nat) + (1 : Nat))))) (8 : Int))) ∧ ((8 : Int) ≠ (0 : Int) ∧ in64 (Int.tdiv (smT kn t (asI64 (gt AC.any row ((0 : Nat) + Int.toNat i * (2 : Nat) + (1 : Nat))))) (8 : Int))) ∧ ((!decide (Int.tdiv (smT kn t (asI64 (gt AC.any row ((0 : Nat) + Int.toNat i * (2 : Nat) + (1 : Nat))))) (8 : Int) = Int.tdiv (smT kn t (asI64 (gt AC.any row ((0 : Nat) + Int.toNat i * (2 : Nat) + (1 : Nat))))) (8 : Int))) = true → Q (AV.one (AC.b false)) []) ∧ ((!decide (Int.tdiv (smT kn t (asI64 (gt AC.any row ((0 : Nat) + Int.toNat i * (2 : Nat) + (1 : Nat))))) (8 : Int) = Int.tdiv (smT kn t (asI64 (gt AC.any row ((0 : Nat) + Int.toNat i * (2 : Nat) + (1 : Nat))))) (8 : Int))) = false → ((4 : Int) ≠ (0 : Int) ∧ in64 (Int.tdiv (smV kn t v (asI64 (gt AC.any row ((0 : Nat) + Int.toNat i * (2 : Nat) + (1 : Nat))))) (4 : Int))) ∧ ((4 : Int) ≠ (0 : Int) ∧ in64 (Int.tdiv (smV kn t v (asI64 (gt AC.any row ((0 : Nat) + Int.toNat i * (2 : Nat) + (1 : Nat))))) (4 : Int))) ∧ ((!decide (Int.tdiv (smV kn t v (asI64 (gt AC.any row ((0 : Nat) + Int.toNat i * (2 : Nat) + (1 : Nat))))) (4 : Int) = Int.tdiv (smV kn t v (asI64 (gt AC.any row ((0 : Nat) + Int.toNat i * (2 : Nat) + (1 : Nat))))) (4 : Int))) = true → Q (AV.one (AC.b false)) []) ∧ ((!decide (Int.tdiv (smV kn t v (asI64 (gt AC.any row ((0 : Nat) + Int.toNat i * (2 : Nat) + (1 : Nat))))) (4 : Int) = Int.tdiv (smV kn t v (asI64 (gt AC.any row ((0 : Nat) + Int.toNat i * (2 : Nat) + (1 : Nat))))) (4 : Int))) = false → ((!decide ((0 : Int) = (0 : Int))) = true → Q (AV.one (AC.b false)) []) ∧ ((!decide ((0 : Int) = (0 : Int))) = false → in64 (i + (1 : Int)) ∧ KR X (4 : Nat) (0 : Nat) Q (kOf Try.f4 (0 : Nat)) (mkS (59 : Nat) [((3 : Nat), AV.one (AC.ptr (0 : Nat) (0 : Nat))), ((4 : Nat), AV.one (AC.ptr (1 : Nat) (0 : Nat))), ((12 : Nat), AV.one (AC.xs row (0 : Nat) n)), ((13 : Nat), AV.one (AC.i64 (↑n : Int))), ((14 : Nat), AV.one (AC.i64 (i + (1 : Int))))]) [some [AC.b true, AC.i64 (smT kn t (asI64 (gt AC.any row ((0 : Nat) + Int.toNat i * (2 : Nat) + (1 : Nat))))), AC.i64 (smV kn t v (asI64 (gt AC.any row ((0 : Nat) + Int.toNat i * (2 : Nat) + (1 : Nat))))), AC.i64 (0 : Int)], some [AC.b true, AC.i64 (smT kn t (asI64 (gt AC.any row ((0 : Nat) + Int.toNat i * (2 : Nat) + (1 : Nat))))), AC.i64 (smV kn t v (asI64 (gt AC.any row ((0 : Nat) + Int.toNat i * (2 : Nat) + (1 : Nat))))), AC.i64 (0 : Int)]])))))) ∧ (decide (i < (↑n : Int)) = false → Q (AV.one (AC.b true)) [])) = wpRun (env22 T22 mf22 M22) [9, 15, 19, 33, 40, 48, 55] [] false (RS.mk Try.f4.results.toList 0 (CS.mk [] [])) (LK X 4 0 Q true [(6, LS.mk [3, 4, 12, 13, 14] (CS.mk [] [false, false]))]) Q 2000 (kOf Try.f4 0) (mkS 59 [(3, .one (.ptr 0 0)), (4, .one (.ptr 1 0)), (12, .one (.xs row 0 n)), (13, .one (.i64 n)), (14, .one (.i64 i))]) [some [.b kn, .i64 t, .i64 v, .i64 k], some [.b kn, .i64 t, .i64 v, .i64 k]] by kernel_rfl) h)
theorem vc5 {X : Ctx} {Q : AV → Mem → Prop} (hX : X.P = Try.prog) (row : List AC) (n : Nat) (h : (decide ((1000 : Int) < (↑n : Int)) = true → Q (AV.one (AC.b true)) []) ∧ (decide ((1000 : Int) < (↑n : Int)) = false → KR X (5 : Nat) (0 : Nat) Q (kOf Try.f5 (0 : Nat)) (mkS (73 : Nat) [((3 : Nat), AV.one (AC.ptr (0 : Nat) (0 : Nat))), ((11 : Nat), AV.one (AC.xs row (0 : Nat) n)), ((12 : Nat), AV.one (AC.i64 (↑n : Int))), ((13 : Nat), AV.one (AC.i64 (0 : Int)))]) [some [AC.b false, AC.i64 (0 : Int), AC.i64 (0 : Int), AC.i64 (0 : Int)]])) : KRun X 5 0 Q ([.code (bodyOf Try.f5)]) (slots [.one (.xs row 0 n)] Try.f5.ntmps) [] :=
  wpRun_ok (hX ▸ env22_ok T22 mf22 M22) (hX ▸ env22_call T22_ok M22_ok) (hX ▸ mixed) (hX ▸ ok5) LK_ok (cast (show ((decide ((1000 : Int) < (↑n : Int)) = true → Q (AV.one (AC.b true)) []) ∧ (decide ((1000 : Int) < (↑n : Int)) = false → KR X (5 : Nat) (0 : Nat) Q (kOf Try.f5 (0 : Nat)) (mkS (73 : Nat) [((3 : Nat), AV.one (AC.ptr (0 : Nat) (0 : Nat))), ((11 : Nat), AV.one (AC.xs row (0 : Nat) n)), ((12 : Nat), AV.one (AC.i64 (↑n : Int))), ((13 : Nat), AV.one (AC.i64 (0 : Int)))]) [some [AC.b false, AC.i64 (0 : Int), AC.i64 (0 : Int), AC.i64 (0 : Int)]])) = wpRun (env22 T22 mf22 M22) [9, 14, 18, 25, 31, 38, 47, 50, 54, 59, 64, 69] [] false (RS.mk Try.f5.results.toList 0 (CS.mk [] [])) (LK X 5 0 Q true [(5, LS.mk [3, 11, 12, 13] (CS.mk [] [false]))]) Q 2000 ([.code (bodyOf Try.f5)]) (slots [.one (.xs row 0 n)] Try.f5.ntmps) [] by kernel_rfl) h)
theorem vc5a {X : Ctx} {Q : AV → Mem → Prop} (hX : X.P = Try.prog) (row : List AC) (n : Nat) (i : Int) (kn : Bool) (t v k : Int) (h : (decide (i < (↑n : Int)) = true → ((0 : Int) ≤ i ∧ i < (↑n : Int)) ∧ gt AC.any row ((0 : Nat) + Int.toNat i * (2 : Nat)) = AC.b (asB (gt AC.any row ((0 : Nat) + Int.toNat i * (2 : Nat)))) ∧ gt AC.any row ((0 : Nat) + Int.toNat i * (2 : Nat) + (1 : Nat)) = AC.i64 (asI64 (gt AC.any row ((0 : Nat) + Int.toNat i * (2 : Nat) + (1 : Nat)))) ∧ (asB (gt AC.any row ((0 : Nat) + Int.toNat i * (2 : Nat))) = true → in64 (k + (1 : Int)) ∧ fine t v (min (k + (1 : Int)) (16 : Int)) ∧ fine t v k ∧ (decide (wtF kn t v (min (k + (1 : Int)) (16 : Int)) < wtF kn t v k) = true → Q (AV.one (AC.b false)) []) ∧ (decide (wtF kn t v (min (k + (1 : Int)) (16 : Int)) < wtF kn t v k) = false → ((8 : Int) ≠ (0 : Int) ∧ in64 (Int.tdiv t (8 : Int))) ∧ ((8 : Int) ≠ (0 : Int) ∧ in64 (Int.tdiv t (8 : Int))) ∧ ((!decide (Int.tdiv t (8 : Int) = Int.tdiv t (8 : Int))) = true → Q (AV.one (AC.b false)) []) ∧ ((!decide (Int.tdiv t (8 : Int) = Int.tdiv t (8 : Int))) = false → ((4 : Int) ≠ (0 : Int) ∧ in64 (Int.tdiv v (4 : Int))) ∧ ((4 : Int) ≠ (0 : Int) ∧ in64 (Int.tdiv v (4 : Int))) ∧ ((!decide (Int.tdiv v (4 : Int) = Int.tdiv v (4 : Int))) = true → Q (AV.one (AC.b false)) []) ∧ ((!decide (Int.tdiv v (4 : Int) = Int.tdiv v (4 : Int))) = false → fine t v (min (k + (1 : Int)) (16 : Int)) ∧ (decide (wtF kn t v (min (k + (1 : Int)) (16 : Int)) < (200 : Int)) = true → Q (AV.one (AC.b false)) []) ∧ (decide (wtF kn t v (min (k + (1 : Int)) (16 : Int)) < (200 : Int)) = false → fine t v (min (k + (1 : Int)) (16 : Int)) ∧ (decide ((60000 : Int) < wtF kn t v (min (k + (1 : Int)) (16 : Int))) = true → Q (AV.one (AC.b false)) []) ∧ (decide ((60000 : Int) < wtF kn t v (min (k + (1 : Int)) (16 : Int))) = false → ((8 : Int) ≠ (0 : Int) ∧ in64 (Int.tdiv t (8 : Int))) ∧ (decide (Int.tdiv t (8 : Int) < (0 : Int)) = true → Q (AV.one (AC.b false)) []) ∧ (decide (Int.tdiv t (8 : Int) < (0 : Int)) = false → ((8 : Int) ≠ (0 : Int) ∧ in64 (Int.tdiv t (8 : Int))) ∧ (decide ((60000 : Int) < Int.tdiv t (8 : Int)) = true → Q (AV.one (AC.b false)) []) ∧ (decide ((60000 : Int) < Int.tdiv t (8 : Int)) = false → ((4 : Int) ≠ (0 : Int) ∧ in64 (Int.tdiv v (4 : Int))) ∧ (decide (Int.tdiv v (4 : Int) < (0 : Int)) = true → Q (AV.one (AC.b false)) []) ∧ (decide (Int.tdiv v (4 : Int) < (0 : Int)) = false → in64 (i + (1 : Int)) ∧ KR X (5 : Nat) (0 : Nat) Q (kOf Try.f5 (0 : Nat)) (mkS (73 : Nat) [((3 : Nat), AV.one (AC.ptr (0 : Nat) (0 : Nat))), ((11 : Nat), AV.one (AC.xs row (0 : Nat) n)), ((12 : Nat), AV.one (AC.i64 (↑n : Int))), ((13 : Nat), AV.one (AC.i64 (i + (1 : Int))))]) [some [AC.b kn, AC.i64 t, AC.i64 v, AC.i64 (min (k + (1 : Int)) (16 : Int))]]))))))))) ∧ (asB (gt AC.any row ((0 : Nat) + Int.toNat i * (2 : Nat))) = false → fine t v k ∧ ((!decide ((0 : Int) = (0 : Int))) = true → Q (AV.one (AC.b false)) []) ∧ ((!decide ((0 : Int) = (0 : Int))) = false → fine (smT kn t (asI64 (gt AC.any row ((0 : Nat) + Int.toNat i * (2 : Nat) + (1 : Nat))))) (smV kn t v (asI64 (gt AC.any row ((0 : Nat) + Int.toNat i * (2 : Nat) + (1 : Nat))))) (0 : Int) ∧ (decide (wtF true (smT kn t (asI64 (gt AC.any row ((0 : Nat) + Int.toNat i * (2 : Nat) + (1 : Nat))))) (smV kn t v (asI64 (gt AC.any row ((0 : Nat) + Int.toNat i * (2 : Nat) + (1 : Nat))))) (0 : Int) < (200 : Int)) = true → Q (AV.one (AC.b false)) []) ∧ (decide (wtF true (smT kn t (asI64 (gt AC.any row ((0 : Nat) + Int.toNat i * (2 : Nat) + (1 : Nat))))) (smV kn t v (asI64 (gt AC.any row ((0 : Nat) + Int.toNat i * (2 : Nat) + (1 : Nat))))) (0 : Int) < (200 : Int)) = false → fine (smT kn t (asI64 (gt AC.any row ((0 : Nat) + Int.toNat i * (2 : Nat) + (1 : Nat))))) (smV kn t v (asI64 (gt AC.any row ((0 : Nat) + Int.toNat i * (2 : Nat) + (1 : Nat))))) (0 : Int) ∧ (decide ((60000 : Int) < wtF true (smT kn t (asI64 (gt AC.any row ((0 : Nat) + Int.toNat i * (2 : Nat) + (1 : Nat))))) (smV kn t v (asI64 (gt AC.any row ((0 : Nat) + Int.toNat i * (2 : Nat) + (1 : Nat))))) (0 : Int)) = true → Q (AV.one (AC.b false)) []) ∧ (decide ((60000 : Int) < wtF true (smT kn t (asI64 (gt AC.any row ((0 : Nat) + Int.toNat i * (2 : Nat) + (1 : Nat))))) (smV kn t v (asI64 (gt AC.any row ((0 : Nat) + Int.toNat i * (2 : Nat) + (1 : Nat))))) (0 : Int)) = false → ((8 : Int) ≠ (0 : Int) ∧ in64 (Int.tdiv (smT kn t (asI64 (gt AC.any row ((0 : Nat) + Int.toNat i * (2 : Nat) + (1 : Nat))))) (8 : Int))) ∧ (decide (Int.tdiv (smT kn t (asI64 (gt AC.any row ((0 : Nat) + Int.toNat i * (2 : Nat) + (1 : Nat))))) (8 : Int) < (0 : Int)) = true → Q (AV.one (AC.b false)) []) ∧ (decide (Int.tdiv (smT kn t (asI64 (gt AC.any row ((0 : Nat) + Int.toNat i * (2 : Nat) + (1 : Nat))))) (8 : Int) < (0 : Int)) = false → ((8 : Int) ≠ (0 : Int) ∧ in64 (Int.tdiv (smT kn t (asI64 (gt AC.any row ((0 : Nat) + Int.toNat i * (2 : Nat) + (1 : Nat))))) (8 : Int))) ∧ (decide ((60000 : Int) < Int.tdiv (smT kn t (asI64 (gt AC.any row ((0 : Nat) + Int.toNat i * (2 : Nat) + (1 : Nat))))) (8 : Int)) = true → Q (AV.one (AC.b false)) []) ∧ (decide ((60000 : Int) < Int.tdiv (smT kn t (asI64 (gt AC.any row ((0 : Nat) + Int.toNat i * (2 : Nat) + (1 : Nat))))) (8 : Int)) = false → ((4 : Int) ≠ (0 : Int) ∧ in64 (Int.tdiv (smV kn t v (asI64 (gt AC.any row ((0 : Nat) + Int.toNat i * (2 : Nat) + (1 : Nat))))) (4 : Int))) ∧ (decide (Int.tdiv (smV kn t v (asI64 (gt AC.any row ((0 : Nat) + Int.toNat i * (2 : Nat) + (1 : Nat))))) (4 : Int) < (0 : Int)) = true → Q (AV.one (AC.b false)) []) ∧ (decide (Int.tdiv (smV kn t v (asI64 (gt AC.any row ((0 : Nat) + Int.toNat i * (2 : Nat) + (1 : Nat))))) (4 : Int) < (0 : Int)) = false → in64 (i + (1 : Int)) ∧ KR X (5 : Nat) (0 : Nat) Q (kOf Try.f5 (0 : Nat)) (mkS (73 : Nat) [((3 : Nat), AV.one (AC.ptr (0 : Nat) (0 : Nat))), ((11 : Nat), AV.one (AC.xs row (0 : Nat) n)), ((12 : Nat), AV.one (AC.i64 (↑n : Int))), ((13 : Nat), AV.one (AC.i64 (i + (1 : Int))))]) [some [AC.b true, AC.i64 (smT kn t (asI64 (gt AC.any row ((0 : Nat) + Int.toNat i * (2 : Nat) + (1 : Nat))))), AC.i64 (smV kn t v (asI64 (gt AC.any row ((0 : Nat) + Int.toNat i * (2 : Nat) + (1 : Nat))))), AC.i64 (0 : Int)]])))))))) ∧ (decide (i < (↑n : Int)) = false → Q (AV.one (AC.b true)) [])) : KRun X 5 0 Q (kOf Try.f5 0) (mkS 73 [(3, .one (.ptr 0 0)), (11, .one (.xs row 0 n)), (12, .one (.i64 n)), (13, .one (.i64 i))]) [some [.b kn, .i64 t, .i64 v, .i64 k]] :=
  wpRun_ok (hX ▸ env22_ok T22 mf22 M22) (hX ▸ env22_call T22_ok M22_ok) (hX ▸ mixed) (hX ▸ ok5) LK_ok (cast (show ((decide (i < (↑n : Int)) = true → ((0 : Int) ≤ i ∧ i < (↑n : Int)) ∧ gt AC.any row ((0 : Nat) + Int.toNat i * (2 : Nat)) = AC.b (asB (gt AC.any row ((0 : Nat) + Int.toNat i * (2 : Nat)))) ∧ gt AC.any row ((0 : Nat) + Int.toNat i * (2 : Nat) + (1 : Nat)) = AC.i64 (asI64 (gt AC.any row ((0 : Nat) + Int.toNat i * (2 : Nat) + (1 : Nat)))) ∧ (asB (gt AC.any row ((0 : Nat) + Int.toNat i * (2 : Nat))) = true → in64 (k + (1 : Int)) ∧ fine t v (min (k + (1 : Int)) (16 : Int)) ∧ fine t v k ∧ (decide (wtF kn t v (min (k + (1 : Int)) (16 : Int)) < wtF kn t v k) = true → Q (AV.one (AC.b false)) []) ∧ (decide (wtF kn t v (min (k + (1 : Int)) (16 : Int)) < wtF kn t v k) = false → ((8 : Int) ≠ (0 : Int) ∧ in64 (Int.tdiv t (8 : Int))) ∧ ((8 : Int) ≠ (0 : Int) ∧ in64 (Int.tdiv t (8 : Int))) ∧ ((!decide (Int.tdiv t (8 : Int) = Int.tdiv t (8 : Int))) = true → Q (AV.one (AC.b false)) []) ∧ ((!decide (Int.tdiv t (8 : Int) = Int.tdiv t (8 : Int))) = false → ((4 : Int) ≠ (0 : Int) ∧ in64 (Int.tdiv v (4 : Int))) ∧ ((4 : Int) ≠ (0 : Int) ∧ in64 (Int.tdiv v (4 : Int))) ∧ ((!decide (Int.tdiv v (4 : Int) = Int.tdiv v (4 : Int))) = true → Q (AV.one (AC.b false)) []) ∧ ((!decide (Int.tdiv v (4 : Int) = Int.tdiv v (4 : Int))) = false → fine t v (min (k + (1 : Int)) (16 : Int)) ∧ (decide (wtF kn t v (min (k + (1 : Int)) (16 : Int)) < (200 : Int)) = true → Q (AV.one (AC.b false)) []) ∧ (decide (wtF kn t v (min (k + (1 : Int)) (16 : Int)) < (200 : Int)) = false → fine t v (min (k + (1 : Int)) (16 : Int)) ∧ (decide ((60000 : Int) < wtF kn t v (min (k + (1 : Int)) (16 : Int))) = true → Q (AV.one (AC.b false)) []) ∧ (decide ((60000 : Int) < wtF kn t v (min (k + (1 : Int)) (16 : Int))) = false → ((8 : Int) ≠ (0 : Int) ∧ in64 (Int.tdiv t (8 : Int))) ∧ (decide (Int.tdiv t (8 : Int) < (0 : Int)) = true → Q (AV.one (AC.b false)) []) ∧ (decide (Int.tdiv t (8 : Int) < (0 : Int)) = false → ((8 : Int) ≠ (0 : Int) ∧ in64 (Int.tdiv t (8 : Int))) ∧ (decide ((60000 : Int) < Int.tdiv t (8 : Int)) = true → Q (AV.one (AC.b false)) []) ∧ (decide ((60000 : Int) < Int.tdiv t (8 : Int)) = false → ((4 : Int) ≠ (0 : Int) ∧ in64 (Int.tdiv v (4 : Int))) ∧ (decide (Int.tdiv v (4 : Int) < (0 : Int)) = true → Q (AV.one (AC.b false)) []) ∧ (decide (Int.tdiv v (4 : Int) < (0 : Int)) = false → in64 (i + (1 : Int)) ∧ KR X (5 : Nat) (0 : Nat) Q (kOf Try.f5 (0 : Nat)) (mkS (73 : Nat) [((3 : Nat), AV.one (AC.ptr (0 : Nat) (0 : Nat))), ((11 : Nat), AV.one (AC.xs row (0 : Nat) n)), ((12 : Nat), AV.one (AC.i64 (↑n : Int))), ((13 : Nat), AV.one (AC.i64 (i + (1 : Int))))]) [some [AC.b kn, AC.i64 t, AC.i64 v, AC.i64 (min (k + (1 : Int)) (16 : Int))]]))))))))) ∧ (asB (gt AC.any row ((0 : Nat) + Int.toNat i * (2 : Nat))) = false → fine t v k ∧ ((!decide ((0 : Int) = (0 : Int))) = true → Q (AV.one (AC.b false)) []) ∧ ((!decide ((0 : Int) = (0 : Int))) = false → fine (smT kn t (asI64 (gt AC.any row ((0 : Nat) + Int.toNat i * (2 : Nat) + (1 : Nat))))) (smV kn t v (asI64 (gt AC.any row ((0 : Nat) + Int.toNat i * (2 : Nat) + (1 : Nat))))) (0 : Int) ∧ (decide (wtF true (smT kn t (asI64 (gt AC.any row ((0 : Nat) + Int.toNat i * (2 : Nat) + (1 : Nat))))) (smV kn t v (asI64 (gt AC.any row ((0 : Nat) + Int.toNat i * (2 : Nat) + (1 : Nat))))) (0 : Int) < (200 : Int)) = true → Q (AV.one (AC.b false)) []) ∧ (decide (wtF true (smT kn t (asI64 (gt AC.any row ((0 : Nat) + Int.toNat i * (2 : Nat) + (1 : Nat))))) (smV kn t v (asI64 (gt AC.any row ((0 : Nat) + Int.toNat i * (2 : Nat) + (1 : Nat))))) (0 : Int) < (200 : Int)) = false → fine (smT kn t (asI64 (gt AC.any row ((0 : Nat) + Int.toNat i * (2 : Nat) + (1 : Nat))))) (smV kn t v (asI64 (gt AC.any row ((0 : Nat) + Int.toNat i * (2 : Nat) + (1 : Nat))))) (0 : Int) ∧ (decide ((60000 : Int) < wtF true (smT kn t (asI64 (gt AC.any row ((0 : Nat) + Int.toNat i * (2 : Nat) + (1 : Nat))))) (smV kn t v (asI64 (gt AC.any row ((0 : Nat) + Int.toNat i * (2 : Nat) + (1 : Nat))))) (0 : Int)) = true → Q (AV.one (AC.b false)) []) ∧ (decide ((60000 : Int) < wtF true (smT kn t (asI64 (gt AC.any row ((0 : Nat) + Int.toNat i * (2 : Nat) + (1 : Nat))))) (smV kn t v (asI64 (gt AC.any row ((0 : Nat) + Int.toNat i * (2 : Nat) + (1 : Nat))))) (0 : Int)) = false → ((8 : Int) ≠ (0 : Int) ∧ in64 (Int.tdiv (smT kn t (asI64 (gt AC.any row ((0 : Nat) + Int.toNat i * (2 : Nat) + (1 : Nat))))) (8 : Int))) ∧ (decide (Int.tdiv (smT kn t (asI64 (gt AC.any row ((0 : Nat) + Int.toNat i * (2 : Nat) + (1 : Nat))))) (8 : Int) < (0 : Int)) = true → Q (AV.one (AC.b false)) []) ∧ (decide (Int.tdiv (smT kn t (asI64 (gt AC.any row ((0 : Nat) + Int.toNat i * (2 : Nat) + (1 : Nat))))) (8 : Int) < (0 : Int)) = false → ((8 : Int) ≠ (0 : Int) ∧ in64 (Int.tdiv (smT kn t (asI64 (gt AC.any row ((0 : Nat) + Int.toNat i * (2 : Nat) + (1 : Nat))))) (8 : Int))) ∧ (decide ((60000 : Int) < Int.tdiv (smT kn t (asI64 (gt AC.any row ((0 : Nat) + Int.toNat i * (2 : Nat) + (1 : Nat))))) (8 : Int)) = true → Q (AV.one (AC.b false)) []) ∧ (decide ((60000 : Int) < Int.tdiv (smT kn t (asI64 (gt AC.any row ((0 : Nat) + Int.toNat i * (2 : Nat) + (1 : Nat))))) (8 : Int)) = false → ((4 : Int) ≠ (0 : Int) ∧ in64 (Int.tdiv (smV kn t v (asI64 (gt AC.any row ((0 : Nat) + Int.toNat i * (2 : Nat) + (1 : Nat))))) (4 : Int))) ∧ (decide (Int.tdiv (smV kn t v (asI64 (gt AC.any row ((0 : Nat) + Int.toNat i * (2 : Nat) + (1 : Nat))))) (4 : Int) < (0 : Int)) = true → Q (AV.one (AC.b false)) []) ∧ (decide (Int.tdiv (smV kn t v (asI64 (gt AC.any row ((0 : Nat) + Int.toNat i * (2 : Nat) + (1 : Nat))))) (4 : Int) < (0 : Int)) = false → in64 (i + (1 : Int)) ∧ KR X (5 : Nat) (0 : Nat) Q (kOf Try.f5 (0 : Nat)) (mkS (73 : Nat) [((3 : Nat), AV.one (AC.ptr (0 : Nat) (0 : Nat))), ((11 : Nat), AV.one (AC.xs row (0 : Nat) n)), ((12 : Nat), AV.one (AC.i64 (↑n : Int))), ((13 : Nat), AV.one (AC.i64 (i + (1 : Int))))]) [some [AC.b true, AC.i64 (smT kn t (asI64 (gt AC.any row ((0 : Nat) + Int.toNat i * (2 : Nat) + (1 : Nat))))), AC.i64 (smV kn t v (asI64 (gt AC.any row ((0 : Nat) + Int.toNat i * (2 : Nat) + (1 : Nat))))), AC.i64 (0 : Int)]])))))))) ∧ (decide (i < (↑n : Int)) = false → Q (AV.one (AC.b true)) [])) = wpRun (env22 T22 mf22 M22) [9, 14, 18, 25, 31, 38, 47, 50, 54, 59, 64, 69] [] false (RS.mk Try.f5.results.toList 0 (CS.mk [] [])) (LK X 5 0 Q true [(5, LS.mk [3, 11, 12, 13] (CS.mk [] [false]))]) Q 2000 (kOf Try.f5 0) (mkS 73 [(3, .one (.ptr 0 0)), (11, .one (.xs row 0 n)), (12, .one (.i64 n)), (13, .one (.i64 i))]) [some [.b kn, .i64 t, .i64 v, .i64 k]] by kernel_rfl) h)
theorem vc3 {X : Ctx} {Q : AV → Mem → Prop} (hX : X.P = Try.prog) (row : List AC) (n : Nat) (ms : BitVec 16) (h : (decide ((200 : Int) < (↑n : Int)) = true → Q (AV.one (AC.b true)) []) ∧ (decide ((200 : Int) < (↑n : Int)) = false → KR X (3 : Nat) (0 : Nat) Q (kOf Try.f3 (0 : Nat)) (mkS (50 : Nat) [((1 : Nat), AV.one (AC.u16 ms)), ((5 : Nat), AV.one (AC.ptr (0 : Nat) (0 : Nat))), ((14 : Nat), AV.one (AC.xs row (0 : Nat) n)), ((15 : Nat), AV.one (AC.i64 (↑n : Int))), ((16 : Nat), AV.one (AC.i64 (0 : Int)))]) [some [AC.b false, AC.i64 (0 : Int), AC.i64 (0 : Int), AC.i64 (0 : Int)]])) : KRun X 3 0 Q ([.code (bodyOf Try.f3)]) (slots [.one (.xs row 0 n), .one (.u16 ms)] Try.f3.ntmps) [] :=
  wpRun_ok (hX ▸ env22_ok T22 mf22 M22) (hX ▸ env22_call T22_ok M22_ok) (hX ▸ mixed) (hX ▸ ok3) LK_ok (cast (show ((decide ((200 : Int) < (↑n : Int)) = true → Q (AV.one (AC.b true)) []) ∧ (decide ((200 : Int) < (↑n : Int)) = false → KR X (3 : Nat) (0 : Nat) Q (kOf Try.f3 (0 : Nat)) (mkS (50 : Nat) [((1 : Nat), AV.one (AC.u16 ms)), ((5 : Nat), AV.one (AC.ptr (0 : Nat) (0 : Nat))), ((14 : Nat), AV.one (AC.xs row (0 : Nat) n)), ((15 : Nat), AV.one (AC.i64 (↑n : Int))), ((16 : Nat), AV.one (AC.i64 (0 : Int)))]) [some [AC.b false, AC.i64 (0 : Int), AC.i64 (0 : Int), AC.i64 (0 : Int)]])) = wpRun (env22 T22 mf22 M22) [11, 17, 26, 39, 45] [] false (RS.mk Try.f3.results.toList 0 (CS.mk [] [])) (LK X 3 0 Q true [(5, LS.mk [1, 5, 14, 15, 16] (CS.mk [] [false])), (10, LS.mk [1, 5, 25] (CS.mk [] [false]))]) Q 2000 ([.code (bodyOf Try.f3)]) (slots [.one (.xs row 0 n), .one (.u16 ms)] Try.f3.ntmps) [] by kernel_rfl) h)
theorem vc3a {X : Ctx} {Q : AV → Mem → Prop} (hX : X.P = Try.prog) (row : List AC) (n : Nat) (i : Int) (ms : BitVec 16) (kn : Bool) (t v k : Int) (h : (decide (i < (↑n : Int)) = true → ((0 : Int) ≤ i ∧ i < (↑n : Int)) ∧ gt AC.any row ((0 : Nat) + Int.toNat i * (2 : Nat)) = AC.b (asB (gt AC.any row ((0 : Nat) + Int.toNat i * (2 : Nat)))) ∧ gt AC.any row ((0 : Nat) + Int.toNat i * (2 : Nat) + (1 : Nat)) = AC.i64 (asI64 (gt AC.any row ((0 : Nat) + Int.toNat i * (2 : Nat) + (1 : Nat)))) ∧ fine t v k ∧ in64 (i + (1 : Int)) ∧ KR X (3 : Nat) (0 : Nat) Q (kOf Try.f3 (0 : Nat)) (mkS (50 : Nat) [((1 : Nat), AV.one (AC.u16 ms)), ((5 : Nat), AV.one (AC.ptr (0 : Nat) (0 : Nat))), ((14 : Nat), AV.one (AC.xs row (0 : Nat) n)), ((15 : Nat), AV.one (AC.i64 (↑n : Int))), ((16 : Nat), AV.one (AC.i64 (i + (1 : Int))))]) [some [AC.b true, AC.i64 (smT kn t (asI64 (gt AC.any row ((0 : Nat) + Int.toNat i * (2 : Nat) + (1 : Nat))))), AC.i64 (smV kn t v (asI64 (gt AC.any row ((0 : Nat) + Int.toNat i * (2 : Nat) + (1 : Nat))))), AC.i64 (0 : Int)]]) ∧ (decide (i < (↑n : Int)) = false → KR X (3 : Nat) (0 : Nat) Q (kOf Try.f3 (1 : Nat)) (mkS (50 : Nat) [((1 : Nat), AV.one (AC.u16 ms)), ((5 : Nat), AV.one (AC.ptr (0 : Nat) (0 : Nat))), ((25 : Nat), AV.one (AC.i64 (0 : Int)))]) [some [AC.b kn, AC.i64 t, AC.i64 v, AC.i64 k]])) : KRun X 3 0 Q (kOf Try.f3 0) (mkS 50 [(1, .one (.u16 ms)), (5, .one (.ptr 0 0)), (14, .one (.xs row 0 n)), (15, .one (.i64 n)), (16, .one (.i64 i))]) [some [.b kn, .i64 t, .i64 v, .i64 k]] :=
  wpRun_ok (hX ▸ env22_ok T22 mf22 M22) (hX ▸ env22_call T22_ok M22_ok) (hX ▸ mixed) (hX ▸ ok3) LK_ok (cast (show ((decide (i < (↑n : Int)) = true → ((0 : Int) ≤ i ∧ i < (↑n : Int)) ∧ gt AC.any row ((0 : Nat) + Int.toNat i * (2 : Nat)) = AC.b (asB (gt AC.any row ((0 : Nat) + Int.toNat i * (2 : Nat)))) ∧ gt AC.any row ((0 : Nat) + Int.toNat i * (2 : Nat) + (1 : Nat)) = AC.i64 (asI64 (gt AC.any row ((0 : Nat) + Int.toNat i * (2 : Nat) + (1 : Nat)))) ∧ fine t v k ∧ in64 (i + (1 : Int)) ∧ KR X (3 : Nat) (0 : Nat) Q (kOf Try.f3 (0 : Nat)) (mkS (50 : Nat) [((1 : Nat), AV.one (AC.u16 ms)), ((5 : Nat), AV.one (AC.ptr (0 : Nat) (0 : Nat))), ((14 : Nat), AV.one (AC.xs row (0 : Nat) n)), ((15 : Nat), AV.one (AC.i64 (↑n : Int))), ((16 : Nat), AV.one (AC.i64 (i + (1 : Int))))]) [some [AC.b true, AC.i64 (smT kn t (asI64 (gt AC.any row ((0 : Nat) + Int.toNat i * (2 : Nat) + (1 : Nat))))), AC.i64 (smV kn t v (asI64 (gt AC.any row ((0 : Nat) + Int.toNat i * (2 : Nat) + (1 : Nat))))), AC.i64 (0 : Int)]]) ∧ (decide (i < (↑n : Int)) = false → KR X (3 : Nat) (0 : Nat) Q (kOf Try.f3 (1 : Nat)) (mkS (50 : Nat) [((1 : Nat), AV.one (AC.u16 ms)), ((5 : Nat), AV.one (AC.ptr (0 : Nat) (0 : Nat))), ((25 : Nat), AV.one (AC.i64 (0 : Int)))]) [some [AC.b kn, AC.i64 t, AC.i64 v, AC.i64 k]])) = wpRun (env22 T22 mf22 M22) [11, 17, 26, 39, 45] [] false (RS.mk Try.f3.results.toList 0 (CS.mk [] [])) (LK X 3 0 Q true [(5, LS.mk [1, 5, 14, 15, 16] (CS.mk [] [false])), (10, LS.mk [1, 5, 25] (CS.mk [] [false]))]) Q 2000 (kOf Try.f3 0) (mkS 50 [(1, .one (.u16 ms)), (5, .one (.ptr 0 0)), (14, .one (.xs row 0 n)), (15, .one (.i64 n)), (16, .one (.i64 i))]) [some [.b kn, .i64 t, .i64 v, .i64 k]] by kernel_rfl) h)
theorem vc3b {X : Ctx} {Q : AV → Mem → Prop} (hX : X.P = Try.prog) (i : Int) (ms : BitVec 16) (kn : Bool) (t v k : Int) (h : (decide (i < (200 : Int)) = true → fine t v k ∧ in64 (i + (1 : Int)) ∧ KR X (3 : Nat) (0 : Nat) Q (kOf Try.f3 (1 : Nat)) (mkS (50 : Nat) [((1 : Nat), AV.one (AC.u16 ms)), ((5 : Nat), AV.one (AC.ptr (0 : Nat) (0 : Nat))), ((25 : Nat), AV.one (AC.i64 (i + (1 : Int))))]) [some [AC.b true, AC.i64 (smT kn t (↑(BitVec.toNat ms) : Int)), AC.i64 (smV kn t v (↑(BitVec.toNat ms) : Int)), AC.i64 (0 : Int)]]) ∧ (decide (i < (200 : Int)) = false → ((8 : Int) ≠ (0 : Int) ∧ in64 (Int.tdiv t (8 : Int))) ∧ in64 (Int.tdiv t (8 : Int) - min (↑(BitVec.toNat ms) : Int) (60000 : Int)) ∧ (decide (Int.tdiv t (8 : Int) - min (↑(BitVec.toNat ms) : Int) (60000 : Int) ≤ (8 : Int)) = true → ((8 : Int) ≠ (0 : Int) ∧ in64 (Int.tdiv t (8 : Int))) ∧ in64 (min (↑(BitVec.toNat ms) : Int) (60000 : Int) - Int.tdiv t (8 : Int)) ∧ (decide (min (↑(BitVec.toNat ms) : Int) (60000 : Int) - Int.tdiv t (8 : Int) ≤ (8 : Int)) = true → Q (AV.one (AC.b true)) []) ∧ (decide (min (↑(BitVec.toNat ms) : Int) (60000 : Int) - Int.tdiv t (8 : Int) ≤ (8 : Int)) = false → Q (AV.one (AC.b false)) [])) ∧ (decide (Int.tdiv t (8 : Int) - min (↑(BitVec.toNat ms) : Int) (60000 : Int) ≤ (8 : Int)) = false → Q (AV.one (AC.b false)) []))) : KRun X 3 0 Q (kOf Try.f3 1) (mkS 50 [(1, .one (.u16 ms)), (5, .one (.ptr 0 0)), (25, .one (.i64 i))]) [some [.b kn, .i64 t, .i64 v, .i64 k]] :=
  wpRun_ok (hX ▸ env22_ok T22 mf22 M22) (hX ▸ env22_call T22_ok M22_ok) (hX ▸ mixed) (hX ▸ ok3) LK_ok (cast (show ((decide (i < (200 : Int)) = true → fine t v k ∧ in64 (i + (1 : Int)) ∧ KR X (3 : Nat) (0 : Nat) Q (kOf Try.f3 (1 : Nat)) (mkS (50 : Nat) [((1 : Nat), AV.one (AC.u16 ms)), ((5 : Nat), AV.one (AC.ptr (0 : Nat) (0 : Nat))), ((25 : Nat), AV.one (AC.i64 (i + (1 : Int))))]) [some [AC.b true, AC.i64 (smT kn t (↑(BitVec.toNat ms) : Int)), AC.i64 (smV kn t v (↑(BitVec.toNat ms) : Int)), AC.i64 (0 : Int)]]) ∧ (decide (i < (200 : Int)) = false → ((8 : Int) ≠ (0 : Int) ∧ in64 (Int.tdiv t (8 : Int))) ∧ in64 (Int.tdiv t (8 : Int) - min (↑(BitVec.toNat ms) : Int) (60000 : Int)) ∧ (decide (Int.tdiv t (8 : Int) - min (↑(BitVec.toNat ms) : Int) (60000 : Int) ≤ (8 : Int)) = true → ((8 : Int) ≠ (0 : Int) ∧ in64 (Int.tdiv t (8 : Int))) ∧ in64 (min (↑(BitVec.toNat ms) : Int) (60000 : Int) - Int.tdiv t (8 : Int)) ∧ (decide (min (↑(BitVec.toNat ms) : Int) (60000 : Int) - Int.tdiv t (8 : Int) ≤ (8 : Int)) = true → Q (AV.one (AC.b true)) []) ∧ (decide (min (↑(BitVec.toNat ms) : Int) (60000 : Int) - Int.tdiv t (8 : Int) ≤ (8 : Int)) = false → Q (AV.one (AC.b false)) [])) ∧ (decide (Int.tdiv t (8 : Int) - min (↑(BitVec.toNat ms) : Int) (60000 : Int) ≤ (8 : Int)) = false → Q (AV.one (AC.b false)) []))) = wpRun (env22 T22 mf22 M22) [11, 17, 26, 39, 45] [] false (RS.mk Try.f3.results.toList 0 (CS.mk [] [])) (LK X 3 0 Q true [(5, LS.mk [1, 5, 14, 15, 16] (CS.mk [] [false])), (10, LS.mk [1, 5, 25] (CS.mk [] [false]))]) Q 2000 (kOf Try.f3 1) (mkS 50 [(1, .one (.u16 ms)), (5, .one (.ptr 0 0)), (25, .one (.i64 i))]) [some [.b kn, .i64 t, .i64 v, .i64 k]] by kernel_rfl) h)

theorem sm_fine {t v k : Int} (kn : Bool) (ms : Int) (h : fine t v k) : fine (smT kn t ms) (smV kn t v ms) 0 := by
  obtain ⟨h1, h2, h3, h4, h5, h6⟩ := h
  have hc := clamp_b ms
  have e8 := td8 h1
  have e4 := td4 h3
  cases kn <;> simp only [fine, smT, smV] <;> omega
theorem bk_fine {t v k : Int} (h : fine t v k) : fine t v (min (k + 1) 16) := by
  obtain ⟨h1, h2, h3, h4, h5, h6⟩ := h
  unfold fine
  omega
theorem wtF_b {t v k : Int} (kn : Bool) (h : fine t v k) : 200 ≤ wtF kn t v k ∧ wtF kn t v k ≤ 60000 := by
  have h0 := wt0_b (kn := kn) h
  have h2 : (1 : Int) ≤ 2 ^ k.toNat := by
    have : 0 < 2 ^ k.toNat := Nat.pow_pos (by decide)
    have h3 : ((2 ^ k.toNat : Nat) : Int) = (2 : Int) ^ k.toNat := by simp
    omega
  have h3 : wt0 kn t v * 1 ≤ wt0 kn t v * 2 ^ k.toNat := Int.mul_le_mul_of_nonneg_left h2 (by omega)
  unfold wtF
  omega
theorem wtF_mono {t v k : Int} (kn : Bool) (h : fine t v k) : wtF kn t v k ≤ wtF kn t v (min (k + 1) 16) := by
  have h0 := wt0_b (kn := kn) h
  have h4 := h.2.2.2.2
  have h1 : k.toNat ≤ (min (k + 1) 16).toNat := by omega
  have h2 : (2 : Int) ^ k.toNat ≤ 2 ^ (min (k + 1) 16).toNat := by
    have := Nat.pow_le_pow_right (n := 2) (by decide) h1
    have h3 : ((2 ^ k.toNat : Nat) : Int) = (2 : Int) ^ k.toNat := by simp
    have h5 : ((2 ^ (min (k + 1) 16).toNat : Nat) : Int) = (2 : Int) ^ (min (k + 1) 16).toNat := by simp
    omega
  have h3 : wt0 kn t v * 2 ^ k.toNat ≤ wt0 kn t v * 2 ^ (min (k + 1) 16).toNat := Int.mul_le_mul_of_nonneg_left h2 (by omega)
  unfold wtF
  omega

def encS (s : Bool × Int × Unit) : List AC := [.b s.1, .i64 s.2.1]
theorem encS_len (s : Bool × Int × Unit) : (encS s).length = 2 := rfl
theorem step_at (l : List (Bool × Int × Unit)) (j : Nat) (hj : j < l.length) : gt AC.any (l.flatMap encS) (0 + (j : Int).toNat * 2) = .b (l[j]).1 ∧ gt AC.any (l.flatMap encS) (0 + (j : Int).toNat * 2 + 1) = .i64 (l[j]).2.1 := by
  have h0 := gt_rows encS 2 encS_len l j 0 hj (by decide)
  have h1 := gt_rows encS 2 encS_len l j 1 hj (by decide)
  rw [Int.toNat_natCast, Nat.zero_add]
  exact ⟨h0, h1⟩

theorem div_in {t : Int} (h1 : 0 ≤ t) (h2 : t ≤ 480000) : in64 (Int.tdiv t 8) ∧ in64 (Int.tdiv t 4) := by
  rw [td8 h1, td4 h1]
  unfold in64
  omega
theorem ne_refl_false {α : Type} [DecidableEq α] {a : α} {P : Prop} (h : (!decide (a = a)) = true) : P := by simp at h

theorem l4 {X : Ctx} (hX : X.P = Try.prog) (l : List (Bool × Int × Unit)) (hl : l.length ≤ 1000) : ∀ (d j : Nat) (kn : Bool) (t v k : Int), j + d = l.length → fine t v k →
    KRun X 4 0 (Is (.one (.b true))) (kOf Try.f4 0) (mkS 59 [(3, .one (.ptr 0 0)), (4, .one (.ptr 1 0)), (12, .one (.xs (l.flatMap encS) 0 l.length)), (13, .one (.i64 l.length)), (14, .one (.i64 j))]) [some [.b kn, .i64 t, .i64 v, .i64 k], some [.b kn, .i64 t, .i64 v, .i64 k]] := by
  intro d
  induction d with
  | zero =>
    intro j kn t v k hj hf
    exact vc4a hX _ _ _ _ _ _ _ ⟨fun hd => absurd (of_decide_eq_true hd) (by omega), fun _ => rfl⟩
  | succ d ih =>
    intro j kn t v k hj hf
    obtain ⟨g0, g1⟩ := step_at l j (by omega)
    refine vc4a hX _ _ _ _ _ _ _ ⟨fun hd => ⟨⟨by omega, by omega⟩, ?_⟩, fun hd => absurd (of_decide_eq_false hd) (by omega)⟩
    simp only [g0, g1, asB, asI64]
    have hb := bk_fine hf
    have hs := sm_fine kn (l[j]).2.1 hf
    have d1 := (div_in hf.1 hf.2.1).1
    have d2 := (div_in hf.2.2.1 (by have := hf.2.2.2.1; omega)).2
    have d3 := (div_in hs.1 hs.2.1).1
    have d4 := (div_in hs.2.2.1 (by have := hs.2.2.2.1; omega)).2
    have h16 := hf.2.2.2.2
    refine ⟨trivial, trivial, fun _ => ⟨by unfold in64; omega, hf, hb, ?_⟩, fun _ => ⟨hf, hf, hs, ?_⟩⟩
    · refine ⟨hb, (by simp), fun _ => ⟨⟨by decide, d1⟩, ⟨by decide, d1⟩, (by simp), fun _ => ⟨⟨by decide, d2⟩, ⟨by decide, d2⟩, (by simp), fun _ => ⟨(by simp), fun _ => ⟨by unfold in64; omega, ⟨?_⟩⟩⟩⟩⟩⟩
      exact ih (j + 1) kn t v _ (by omega) hb
    · refine ⟨hs, (by simp), fun _ => ⟨⟨by decide, d3⟩, ⟨by decide, d3⟩, (by simp), fun _ => ⟨⟨by decide, d4⟩, ⟨by decide, d4⟩, (by simp), fun _ => ⟨(by simp), fun _ => ⟨by unfold in64; omega, ⟨?_⟩⟩⟩⟩⟩⟩
      exact ih (j + 1) true _ _ _ (by omega) hs

theorem s4 (l : List (Bool × Int × Unit)) : Spec Try.prog 4 [.one (.xs (l.flatMap encS) 0 l.length)] [] (Is (.one (.b true))) := by
  refine Spec.of_run ok4 fun X hX => vc4 hX _ _ ⟨fun _ => rfl, fun hd => ⟨?_⟩⟩
  exact l4 hX l (by have := of_decide_eq_false hd; omega) l.length 0 false 0 0 0 (by omega) (by unfold fine; omega)

theorem l5 {X : Ctx} (hX : X.P = Try.prog) (l : List (Bool × Int × Unit)) (hl : l.length ≤ 1000) : ∀ (d j : Nat) (kn : Bool) (t v k : Int), j + d = l.length → fine t v k →
    KRun X 5 0 (Is (.one (.b true))) (kOf Try.f5 0) (mkS 73 [(3, .one (.ptr 0 0)), (11, .one (.xs (l.flatMap encS) 0 l.length)), (12, .one (.i64 l.length)), (13, .one (.i64 j))]) [some [.b kn, .i64 t, .i64 v, .i64 k]] := by
  intro d
  induction d with
  | zero =>
    intro j kn t v k hj hf
    exact vc5a hX _ _ _ _ _ _ _ ⟨fun hd => absurd (of_decide_eq_true hd) (by omega), fun _ => rfl⟩
  | succ d ih =>
    intro j kn t v k hj hf
    obtain ⟨g0, g1⟩ := step_at l j (by omega)
    refine vc5a hX _ _ _ _ _ _ _ ⟨fun hd => ⟨⟨by omega, by omega⟩, ?_⟩, fun hd => absurd (of_decide_eq_false hd) (by omega)⟩
    simp only [g0, g1, asB, asI64]
    have hb := bk_fine hf
    have hs := sm_fine kn (l[j]).2.1 hf
    have d1 := (div_in hf.1 hf.2.1).1
    have d2 := (div_in hf.2.2.1 (by have := hf.2.2.2.1; omega)).2
    have d3 := (div_in hs.1 hs.2.1).1
    have d4 := (div_in hs.2.2.1 (by have := hs.2.2.2.1; omega)).2
    have h16 := hf.2.2.2.2
    have w1 := wtF_b kn hb
    have w2 := wtF_b true hs
    have w3 := wtF_mono kn hf
    have e1 := td8 hf.1
    have e2 := td4 hf.2.2.1
    have e3 := td8 hs.1
    have e4 := td4 hs.2.2.1
    have b1 := hf.2.1
    have b2 := hs.2.1
    have b3 := hf.1
    have b4 := hs.1
    have b5 := hf.2.2.1
    have b6 := hs.2.2.1
    refine ⟨trivial, trivial, fun _ => ⟨by unfold in64; omega, hb, hf, fun h => absurd (of_decide_eq_true h) (by omega), fun _ => ⟨⟨by decide, d1⟩, ⟨by decide, d1⟩, (by simp), fun _ => ⟨⟨by decide, d2⟩, ⟨by decide, d2⟩, (by simp), fun _ =>
      ⟨hb, fun h => absurd (of_decide_eq_true h) (by omega), fun _ => ⟨hb, fun h => absurd (of_decide_eq_true h) (by omega), fun _ => ⟨⟨by decide, d1⟩, fun h => absurd (of_decide_eq_true h) (by omega), fun _ => ⟨⟨by decide, d1⟩, fun h => absurd (of_decide_eq_true h) (by omega), fun _ =>
        ⟨⟨by decide, d2⟩, fun h => absurd (of_decide_eq_true h) (by omega), fun _ => ⟨by unfold in64; omega, ⟨?_⟩⟩⟩⟩⟩⟩⟩⟩⟩⟩,
      fun _ => ⟨hf, (by simp), fun _ => ⟨hs, fun h => absurd (of_decide_eq_true h) (by omega), fun _ => ⟨hs, fun h => absurd (of_decide_eq_true h) (by omega), fun _ => ⟨⟨by decide, d3⟩, fun h => absurd (of_decide_eq_true h) (by omega), fun _ => ⟨⟨by decide, d3⟩, fun h => absurd (of_decide_eq_true h) (by omega), fun _ =>
        ⟨⟨by decide, d4⟩, fun h => absurd (of_decide_eq_true h) (by omega), fun _ => ⟨by unfold in64; omega, ⟨?_⟩⟩⟩⟩⟩⟩⟩⟩⟩
    · exact ih (j + 1) kn t v _ (by omega) hb
    · exact ih (j + 1) true _ _ _ (by omega) hs

theorem s5 (l : List (Bool × Int × Unit)) : Spec Try.prog 5 [.one (.xs (l.flatMap encS) 0 l.length)] [] (Is (.one (.b true))) := by
  refine Spec.of_run ok5 fun X hX => vc5 hX _ _ ⟨fun _ => rfl, fun hd => ⟨?_⟩⟩
  exact l5 hX l (by have := of_decide_eq_false hd; omega) l.length 0 false 0 0 0 (by omega) (by unfold fine; omega)

/-! it comes near -/
def near : Nat → Int
  | 0 => 480000
  | n + 1 => near n - near n / 8
theorem near_pos : ∀ n, 0 ≤ near n
  | 0 => by decide
  | n + 1 => by have := near_pos n; simp only [near]; omega
theorem near_199 : near 199 ≤ 64 := by decide +kernel

theorem l3b {X : Ctx} (hX : X.P = Try.prog) (ms : BitVec 16) : ∀ (d j : Nat) (kn : Bool) (t v k : Int), j + d = 200 → fine t v k → (j = 0 ∨ (kn = true ∧ -(near (j - 1)) ≤ t - 8 * clampMs ms.toNat ∧ t - 8 * clampMs ms.toNat ≤ near (j - 1))) →
    KRun X 3 0 (Is (.one (.b true))) (kOf Try.f3 1) (mkS 50 [(1, .one (.u16 ms)), (5, .one (.ptr 0 0)), (25, .one (.i64 j))]) [some [.b kn, .i64 t, .i64 v, .i64 k]] := by
  have hms : clampMs (ms.toNat : Int) = min (ms.toNat : Int) 60000 := by unfold clampMs; omega
  have hc := clamp_b ms.toNat
  intro d
  induction d with
  | zero =>
    intro j kn t v k hj hf hn
    have h0 : j = 200 := by omega
    subst h0
    rcases hn with h | ⟨_, h1, h2⟩
    · cases h
    · have h3 : near (200 - 1) ≤ 64 := near_199
      have e8 := td8 hf.1
      have b1 := hf.2.1
      have b3 := hf.1
      have d1 := (div_in hf.1 hf.2.1).1
      refine vc3b hX _ _ _ _ _ _ ⟨fun hd => absurd (of_decide_eq_true hd) (by decide), fun _ => ⟨⟨by decide, d1⟩, ?_⟩⟩
      rw [← hms]
      refine ⟨by unfold in64; omega, fun _ => ⟨⟨by decide, d1⟩, by unfold in64; omega, fun _ => rfl, fun h => absurd (of_decide_eq_false h) (by omega)⟩, fun h => absurd (of_decide_eq_false h) (by omega)⟩
  | succ d ih =>
    intro j kn t v k hj hf hn
    have hs := sm_fine kn ms.toNat hf
    refine vc3b hX _ _ _ _ _ _ ⟨fun hd => ⟨hf, by unfold in64; omega, ⟨?_⟩⟩, fun hd => absurd (of_decide_eq_false hd) (by omega)⟩
    refine ih (j + 1) true _ _ _ (by omega) hs (.inr ⟨rfl, ?_⟩)
    have b1 := hs.1
    have b2 := hs.2.1
    rcases hn with h | ⟨rfl, h1, h2⟩
    · subst h
      show -(near 0) ≤ _ ∧ _ ≤ near 0
      simp only [near]
      omega
    · have e8 := td8 hf.1
      simp only [Nat.add_sub_cancel]
      rcases Nat.eq_zero_or_pos j with h | h
      · subst h
        simp only [near]
        omega
      · obtain ⟨i, rfl⟩ : ∃ i, j = i + 1 := ⟨j - 1, by omega⟩
        simp only [Nat.add_sub_cancel] at h1 h2
        have := near_pos i
        simp only [near, smT]
        omega

theorem l3 {X : Ctx} (hX : X.P = Try.prog) (ms : BitVec 16) (l : List (Bool × Int × Unit)) (hl : l.length ≤ 200) : ∀ (d j : Nat) (kn : Bool) (t v k : Int), j + d = l.length → fine t v k →
    KRun X 3 0 (Is (.one (.b true))) (kOf Try.f3 0) (mkS 50 [(1, .one (.u16 ms)), (5, .one (.ptr 0 0)), (14, .one (.xs (l.flatMap encS) 0 l.length)), (15, .one (.i64 l.length)), (16, .one (.i64 j))]) [some [.b kn, .i64 t, .i64 v, .i64 k]] := by
  intro d
  induction d with
  | zero =>
    intro j kn t v k hj hf
    exact vc3a hX _ _ _ _ _ _ _ _ ⟨fun hd => absurd (of_decide_eq_true hd) (by omega), fun _ => ⟨l3b hX ms 200 0 kn t v k (by omega) hf (.inl rfl)⟩⟩
  | succ d ih =>
    intro j kn t v k hj hf
    obtain ⟨g0, g1⟩ := step_at l j (by omega)
    refine vc3a hX _ _ _ _ _ _ _ _ ⟨fun hd => ⟨⟨by omega, by omega⟩, ?_⟩, fun hd => absurd (of_decide_eq_false hd) (by omega)⟩
    simp only [g0, g1, asB, asI64]
    have hs := sm_fine kn (l[j]).2.1 hf
    exact ⟨trivial, trivial, hf, by unfold in64; omega, ⟨ih (j + 1) true _ _ _ (by omega) hs⟩⟩

theorem s3 (l : List (Bool × Int × Unit)) (ms : BitVec 16) : Spec Try.prog 3 [.one (.xs (l.flatMap encS) 0 l.length), .one (.u16 ms)] [] (Is (.one (.b true))) := by
  refine Spec.of_run ok3 fun X hX => vc3 hX _ _ _ ⟨fun _ => rfl, fun hd => ⟨?_⟩⟩
  exact l3 hX ms l (by have := of_decide_eq_false hd; omega) l.length 0 false 0 0 0 (by omega) (by unfold fine; omega)
end DH
