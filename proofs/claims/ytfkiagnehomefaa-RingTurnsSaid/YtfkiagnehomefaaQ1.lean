/- Walks of functions, each by evaluation: what each returns. -/
import Derived.Test.YtfkiagnehomefaaTr1
import Derived.Test.YtfkiagnehomefaaK1
set_option linter.unusedVariables false
set_option linter.unusedSimpArgs false
noncomputable section
namespace DH
open Go Go.Proofs

theorem ok6 : FnOk Try.prog 6 Try.f6 (bodyOf Try.f6) := .of Try.func6 (by kernel_rfl) (by kernel_rfl)
theorem ok7 : FnOk Try.prog 7 Try.f7 (bodyOf Try.f7) := .of Try.func7 (by kernel_rfl) (by kernel_rfl)
theorem ok8 : FnOk Try.prog 8 Try.f8 (bodyOf Try.f8) := .of Try.func8 (by kernel_rfl) (by kernel_rfl)
theorem ok9 : FnOk Try.prog 9 Try.f9 (bodyOf Try.f9) := .of Try.func9 (by kernel_rfl) (by kernel_rfl)
theorem ok10 : FnOk Try.prog 10 Try.f10 (bodyOf Try.f10) := .of Try.func10 (by kernel_rfl) (by kernel_rfl)
theorem ok14 : FnOk Try.prog 14 Try.f14 (bodyOf Try.f14) := .of Try.func14 (by kernel_rfl) (by kernel_rfl)
theorem ok15 : FnOk Try.prog 15 Try.f15 (bodyOf Try.f15) := .of Try.func15 (by kernel_rfl) (by kernel_rfl)
theorem ok27 : FnOk Try.prog 27 Try.f27 (bodyOf Try.f27) := .of Try.func27 (by kernel_rfl) (by kernel_rfl)
theorem ok28 : FnOk Try.prog 28 Try.f28 (bodyOf Try.f28) := .of Try.func28 (by kernel_rfl) (by kernel_rfl)
theorem ok29 : FnOk Try.prog 29 Try.f29 (bodyOf Try.f29) := .of Try.func29 (by kernel_rfl) (by kernel_rfl)
theorem ok30 : FnOk Try.prog 30 Try.f30 (bodyOf Try.f30) := .of Try.func30 (by kernel_rfl) (by kernel_rfl)
theorem ok31 : FnOk Try.prog 31 Try.f31 (bodyOf Try.f31) := .of Try.func31 (by kernel_rfl) (by kernel_rfl)
theorem ok32 : FnOk Try.prog 32 Try.f32 (bodyOf Try.f32) := .of Try.func32 (by kernel_rfl) (by kernel_rfl)
theorem ok33 : FnOk Try.prog 33 Try.f33 (bodyOf Try.f33) := .of Try.func33 (by kernel_rfl) (by kernel_rfl)
theorem ok34 : FnOk Try.prog 34 Try.f34 (bodyOf Try.f34) := .of Try.func34 (by kernel_rfl) (by kernel_rfl)
theorem ok35 : FnOk Try.prog 35 Try.f35 (bodyOf Try.f35) := .of Try.func35 (by kernel_rfl) (by kernel_rfl)
theorem ok36 : FnOk Try.prog 36 Try.f36 (bodyOf Try.f36) := .of Try.func36 (by kernel_rfl) (by kernel_rfl)
theorem ok37 : FnOk Try.prog 37 Try.f37 (bodyOf Try.f37) := .of Try.func37 (by kernel_rfl) (by kernel_rfl)
theorem ok45 : FnOk Try.prog 45 Try.f45 (bodyOf Try.f45) := .of Try.func45 (by kernel_rfl) (by kernel_rfl)
theorem ok46 : FnOk Try.prog 46 Try.f46 (bodyOf Try.f46) := .of Try.func46 (by kernel_rfl) (by kernel_rfl)
theorem ok47 : FnOk Try.prog 47 Try.f47 (bodyOf Try.f47) := .of Try.func47 (by kernel_rfl) (by kernel_rfl)
theorem ok48 : FnOk Try.prog 48 Try.f48 (bodyOf Try.f48) := .of Try.func48 (by kernel_rfl) (by kernel_rfl)
theorem ok49 : FnOk Try.prog 49 Try.f49 (bodyOf Try.f49) := .of Try.func49 (by kernel_rfl) (by kernel_rfl)
theorem ok50 : FnOk Try.prog 50 Try.f50 (bodyOf Try.f50) := .of Try.func50 (by kernel_rfl) (by kernel_rfl)
theorem ok51 : FnOk Try.prog 51 Try.f51 (bodyOf Try.f51) := .of Try.func51 (by kernel_rfl) (by kernel_rfl)

noncomputable def inl01 : Inl := fun f => match f with
  | 28 => some (Try.f28, [])
  | 30 => some (Try.f30, [])
  | 45 => some (Try.f45, [])
  | 46 => some (Try.f46, [])
  | _ => none
theorem inl01_ok : InlOk Try.prog inl01 := by
  intro f fn hs h
  unfold inl01 at h
  split at h <;> first | (cases h; done) | (obtain ⟨rfl, _⟩ := Prod.mk.inj (Option.some.inj h); first | exact ok28 | exact ok30 | exact ok45 | exact ok46)

noncomputable def inlL : Inl := fun f => match f with
  | 28 => some (Try.f28, [])
  | 30 => some (Try.f30, [])
  | 32 => some (Try.f32, [])
  | 34 => some (Try.f34, [])
  | 36 => some (Try.f36, [])
  | 45 => some (Try.f45, [])
  | _ => none
theorem inlL_ok : InlOk Try.prog inlL := by
  intro f fn hs h
  unfold inlL at h
  split at h <;> first | (cases h; done) | (obtain ⟨rfl, _⟩ := Prod.mk.inj (Option.some.inj h); first | exact ok28 | exact ok30 | exact ok32 | exact ok34 | exact ok36 | exact ok45)

noncomputable def base1 (T : Tab) : Env := ⟨tys, fun _ => false, false, T, [], fun _ => none, fun _ _ _ => none⟩
noncomputable def env01 (T : Tab) : Env := inlE (base1 T) inl01 2
theorem base1_ok (T : Tab) : EnvOk Try.prog (base1 T) := EnvOk.of tysOk
theorem env01_ok (T : Tab) : EnvOk Try.prog (env01 T) := inlE_envOk (base1_ok T) _ _
theorem base1_call {T : Tab} (hT : TabOk Try.prog T) : CallOk Try.prog (base1 T) := ⟨hT, fun f mf xs m0 cs r m1 h => by cases h⟩
theorem env01_call {T : Tab} (hT : TabOk Try.prog T) : CallOk Try.prog (env01 T) := inlE_ok (base1_ok T) (base1_call hT) mixed inl01_ok 2
noncomputable def U0 : Tab := fun _ _ => none
theorem U0_ok : TabOk Try.prog U0 := fun f xs cs r h => by cases h

theorem s27 : Spec Try.prog 27 [] [] (Is (.one (.b true))) :=
  Spec.lit (litE_envOk (base1_ok U0) inlL 6) (litE_ok (base1_ok U0) (base1_call U0_ok) mixed inlL_ok 6) mixed ok27 (hs := []) (n := 1000) (by kernel_rfl)

theorem vc51 {X : Ctx} {Q : AV → Mem → Prop} (hX : X.P = Try.prog) (a b : BitVec 32) (h : in64 ((↑(BitVec.toNat b) : Int) - (↑(BitVec.toNat a) : Int)) ∧ (4294967296 : Int) ≠ (0 : Int) ∧ (decide (Int.tmod ((↑(BitVec.toNat b) : Int) - (↑(BitVec.toNat a) : Int)) (4294967296 : Int) < (0 : Int)) = true → in64 (Int.tmod ((↑(BitVec.toNat b) : Int) - (↑(BitVec.toNat a) : Int)) (4294967296 : Int) + (4294967296 : Int)) ∧ Q (AV.one (AC.i64 (Int.tmod ((↑(BitVec.toNat b) : Int) - (↑(BitVec.toNat a) : Int)) (4294967296 : Int) + (4294967296 : Int)))) []) ∧ (decide (Int.tmod ((↑(BitVec.toNat b) : Int) - (↑(BitVec.toNat a) : Int)) (4294967296 : Int) < (0 : Int)) = false → Q (AV.one (AC.i64 (Int.tmod ((↑(BitVec.toNat b) : Int) - (↑(BitVec.toNat a) : Int)) (4294967296 : Int)))) [])) : KRun X 51 0 Q ([.code (bodyOf Try.f51)]) (slots [.one (.u32 a), .one (.u32 b)] Try.f51.ntmps) [] :=
  wpRun_ok (hX ▸ env01_ok U0) (hX ▸ env01_call U0_ok) (hX ▸ mixed) (hX ▸ ok51) LK_ok (cast (show (in64 ((↑(BitVec.toNat b) : Int) - (↑(BitVec.toNat a) : Int)) ∧ (4294967296 : Int) ≠ (0 : Int) ∧ (decide (Int.tmod ((↑(BitVec.toNat b) : Int) - (↑(BitVec.toNat a) : Int)) (4294967296 : Int) < (0 : Int)) = true → in64 (Int.tmod ((↑(BitVec.toNat b) : Int) - (↑(BitVec.toNat a) : Int)) (4294967296 : Int) + (4294967296 : Int)) ∧ Q (AV.one (AC.i64 (Int.tmod ((↑(BitVec.toNat b) : Int) - (↑(BitVec.toNat a) : Int)) (4294967296 : Int) + (4294967296 : Int)))) []) ∧ (decide (Int.tmod ((↑(BitVec.toNat b) : Int) - (↑(BitVec.toNat a) : Int)) (4294967296 : Int) < (0 : Int)) = false → Q (AV.one (AC.i64 (Int.tmod ((↑(BitVec.toNat b) : Int) - (↑(BitVec.toNat a) : Int)) (4294967296 : Int)))) [])) = wpRun (env01 U0) [13] [] false (RS.mk Try.f51.results.toList 0 (CS.mk [] [])) (LK X 51 0 Q true []) Q 2000 ([.code (bodyOf Try.f51)]) (slots [.one (.u32 a), .one (.u32 b)] Try.f51.ntmps) [] by kernel_rfl) h)
theorem vc49 {X : Ctx} {Q : AV → Mem → Prop} (hX : X.P = Try.prog) (a b c d : BitVec 32) (h : ((!decide (a = b)) = true → (decide (a - c < d - c) = true → Q (AV.one (AC.b true)) []) ∧ (decide (a - c < d - c) = false → ((!decide (c = d)) = true → Q (AV.one (AC.b (decide (c - a < b - a)))) []) ∧ ((!decide (c = d)) = false → Q (AV.one (AC.b false)) []))) ∧ ((!decide (a = b)) = false → ((!decide (c = d)) = true → Q (AV.one (AC.b (decide (c - a < b - a)))) []) ∧ ((!decide (c = d)) = false → Q (AV.one (AC.b false)) []))) : KRun X 49 0 Q ([.code (bodyOf Try.f49)]) (slots [.agg [.u32 a, .u32 b], .agg [.u32 c, .u32 d]] Try.f49.ntmps) [] :=
  wpRun_ok (hX ▸ env01_ok U0) (hX ▸ env01_call U0_ok) (hX ▸ mixed) (hX ▸ ok49) LK_ok (cast (show (((!decide (a = b)) = true → (decide (a - c < d - c) = true → Q (AV.one (AC.b true)) []) ∧ (decide (a - c < d - c) = false → ((!decide (c = d)) = true → Q (AV.one (AC.b (decide (c - a < b - a)))) []) ∧ ((!decide (c = d)) = false → Q (AV.one (AC.b false)) []))) ∧ ((!decide (a = b)) = false → ((!decide (c = d)) = true → Q (AV.one (AC.b (decide (c - a < b - a)))) []) ∧ ((!decide (c = d)) = false → Q (AV.one (AC.b false)) []))) = wpRun (env01 U0) [9, 20, 27] [] false (RS.mk Try.f49.results.toList 0 (CS.mk [] [])) (LK X 49 0 Q true []) Q 2000 ([.code (bodyOf Try.f49)]) (slots [.agg [.u32 a, .u32 b], .agg [.u32 c, .u32 d]] Try.f49.ntmps) [] by kernel_rfl) h)
theorem vc34 {X : Ctx} {Q : AV → Mem → Prop} (hX : X.P = Try.prog) (a : BitVec 64) (b : BitVec 32) (h : (decide (BitVec.toInt (BitVec.ofInt (64 : Nat) (BitVec.toInt (b - BitVec.setWidth (32 : Nat) a))) < (0 : Int)) = true → (decide (a < a + BitVec.ofInt (64 : Nat) (BitVec.toInt (BitVec.ofInt (64 : Nat) (BitVec.toInt (b - BitVec.setWidth (32 : Nat) a))))) = true → Q (AV.one (AC.u64 (a + BitVec.ofInt (64 : Nat) (BitVec.toInt (BitVec.ofInt (64 : Nat) (BitVec.toInt (b - BitVec.setWidth (32 : Nat) a)))) + BitVec.ofInt (64 : Nat) (4294967296 : Int)))) []) ∧ (decide (a < a + BitVec.ofInt (64 : Nat) (BitVec.toInt (BitVec.ofInt (64 : Nat) (BitVec.toInt (b - BitVec.setWidth (32 : Nat) a))))) = false → (decide ((0 : Int) < BitVec.toInt (BitVec.ofInt (64 : Nat) (BitVec.toInt (b - BitVec.setWidth (32 : Nat) a)))) = true → (decide (a + BitVec.ofInt (64 : Nat) (BitVec.toInt (BitVec.ofInt (64 : Nat) (BitVec.toInt (b - BitVec.setWidth (32 : Nat) a)))) < a) = true → Q (AV.one (AC.u64 (a + BitVec.ofInt (64 : Nat) (BitVec.toInt (BitVec.ofInt (64 : Nat) (BitVec.toInt (b - BitVec.setWidth (32 : Nat) a)))) - BitVec.ofInt (64 : Nat) (4294967296 : Int)))) []) ∧ (decide (a + BitVec.ofInt (64 : Nat) (BitVec.toInt (BitVec.ofInt (64 : Nat) (BitVec.toInt (b - BitVec.setWidth (32 : Nat) a)))) < a) = false → Q (AV.one (AC.u64 (a + BitVec.ofInt (64 : Nat) (BitVec.toInt (BitVec.ofInt (64 : Nat) (BitVec.toInt (b - BitVec.setWidth (32 : Nat) a))))))) [])) ∧ (decide ((0 : Int) < BitVec.toInt (BitVec.ofInt (64 : Nat) (BitVec.toInt (b - BitVec.setWidth (32 : Nat) a)))) = false → Q (AV.one (AC.u64 (a + BitVec.ofInt (64 : Nat) (BitVec.toInt (BitVec.ofInt (64 : Nat) (BitVec.toInt (b - BitVec.setWidth (32 : Nat) a))))))) []))) ∧ (decide (BitVec.toInt (BitVec.ofInt (64 : Nat) (BitVec.toInt (b - BitVec.setWidth (32 : Nat) a))) < (0 : Int)) = false → (decide ((0 : Int) < BitVec.toInt (BitVec.ofInt (64 : Nat) (BitVec.toInt (b - BitVec.setWidth (32 : Nat) a)))) = true → (decide (a + BitVec.ofInt (64 : Nat) (BitVec.toInt (BitVec.ofInt (64 : Nat) (BitVec.toInt (b - BitVec.setWidth (32 : Nat) a)))) < a) = true → Q (AV.one (AC.u64 (a + BitVec.ofInt (64 : Nat) (BitVec.toInt (BitVec.ofInt (64 : Nat) (BitVec.toInt (b - BitVec.setWidth (32 : Nat) a)))) - BitVec.ofInt (64 : Nat) (4294967296 : Int)))) []) ∧ (decide (a + BitVec.ofInt (64 : Nat) (BitVec.toInt (BitVec.ofInt (64 : Nat) (BitVec.toInt (b - BitVec.setWidth (32 : Nat) a)))) < a) = false → Q (AV.one (AC.u64 (a + BitVec.ofInt (64 : Nat) (BitVec.toInt (BitVec.ofInt (64 : Nat) (BitVec.toInt (b - BitVec.setWidth (32 : Nat) a))))))) [])) ∧ (decide ((0 : Int) < BitVec.toInt (BitVec.ofInt (64 : Nat) (BitVec.toInt (b - BitVec.setWidth (32 : Nat) a)))) = false → Q (AV.one (AC.u64 (a + BitVec.ofInt (64 : Nat) (BitVec.toInt (BitVec.ofInt (64 : Nat) (BitVec.toInt (b - BitVec.setWidth (32 : Nat) a))))))) []))) : KRun X 34 0 Q ([.code (bodyOf Try.f34)]) (slots [.one (.u64 a), .one (.u32 b)] Try.f34.ntmps) [] :=
  wpRun_ok (hX ▸ env01_ok U0) (hX ▸ env01_call U0_ok) (hX ▸ mixed) (hX ▸ ok34) LK_ok (cast (show ((decide (BitVec.toInt (BitVec.ofInt (64 : Nat) (BitVec.toInt (b - BitVec.setWidth (32 : Nat) a))) < (0 : Int)) = true → (decide (a < a + BitVec.ofInt (64 : Nat) (BitVec.toInt (BitVec.ofInt (64 : Nat) (BitVec.toInt (b - BitVec.setWidth (32 : Nat) a))))) = true → Q (AV.one (AC.u64 (a + BitVec.ofInt (64 : Nat) (BitVec.toInt (BitVec.ofInt (64 : Nat) (BitVec.toInt (b - BitVec.setWidth (32 : Nat) a)))) + BitVec.ofInt (64 : Nat) (4294967296 : Int)))) []) ∧ (decide (a < a + BitVec.ofInt (64 : Nat) (BitVec.toInt (BitVec.ofInt (64 : Nat) (BitVec.toInt (b - BitVec.setWidth (32 : Nat) a))))) = false → (decide ((0 : Int) < BitVec.toInt (BitVec.ofInt (64 : Nat) (BitVec.toInt (b - BitVec.setWidth (32 : Nat) a)))) = true → (decide (a + BitVec.ofInt (64 : Nat) (BitVec.toInt (BitVec.ofInt (64 : Nat) (BitVec.toInt (b - BitVec.setWidth (32 : Nat) a)))) < a) = true → Q (AV.one (AC.u64 (a + BitVec.ofInt (64 : Nat) (BitVec.toInt (BitVec.ofInt (64 : Nat) (BitVec.toInt (b - BitVec.setWidth (32 : Nat) a)))) - BitVec.ofInt (64 : Nat) (4294967296 : Int)))) []) ∧ (decide (a + BitVec.ofInt (64 : Nat) (BitVec.toInt (BitVec.ofInt (64 : Nat) (BitVec.toInt (b - BitVec.setWidth (32 : Nat) a)))) < a) = false → Q (AV.one (AC.u64 (a + BitVec.ofInt (64 : Nat) (BitVec.toInt (BitVec.ofInt (64 : Nat) (BitVec.toInt (b - BitVec.setWidth (32 : Nat) a))))))) [])) ∧ (decide ((0 : Int) < BitVec.toInt (BitVec.ofInt (64 : Nat) (BitVec.toInt (b - BitVec.setWidth (32 : Nat) a)))) = false → Q (AV.one (AC.u64 (a + BitVec.ofInt (64 : Nat) (BitVec.toInt (BitVec.ofInt (64 : Nat) (BitVec.toInt (b - BitVec.setWidth (32 : Nat) a))))))) []))) ∧ (decide (BitVec.toInt (BitVec.ofInt (64 : Nat) (BitVec.toInt (b - BitVec.setWidth (32 : Nat) a))) < (0 : Int)) = false → (decide ((0 : Int) < BitVec.toInt (BitVec.ofInt (64 : Nat) (BitVec.toInt (b - BitVec.setWidth (32 : Nat) a)))) = true → (decide (a + BitVec.ofInt (64 : Nat) (BitVec.toInt (BitVec.ofInt (64 : Nat) (BitVec.toInt (b - BitVec.setWidth (32 : Nat) a)))) < a) = true → Q (AV.one (AC.u64 (a + BitVec.ofInt (64 : Nat) (BitVec.toInt (BitVec.ofInt (64 : Nat) (BitVec.toInt (b - BitVec.setWidth (32 : Nat) a)))) - BitVec.ofInt (64 : Nat) (4294967296 : Int)))) []) ∧ (decide (a + BitVec.ofInt (64 : Nat) (BitVec.toInt (BitVec.ofInt (64 : Nat) (BitVec.toInt (b - BitVec.setWidth (32 : Nat) a)))) < a) = false → Q (AV.one (AC.u64 (a + BitVec.ofInt (64 : Nat) (BitVec.toInt (BitVec.ofInt (64 : Nat) (BitVec.toInt (b - BitVec.setWidth (32 : Nat) a))))))) [])) ∧ (decide ((0 : Int) < BitVec.toInt (BitVec.ofInt (64 : Nat) (BitVec.toInt (b - BitVec.setWidth (32 : Nat) a)))) = false → Q (AV.one (AC.u64 (a + BitVec.ofInt (64 : Nat) (BitVec.toInt (BitVec.ofInt (64 : Nat) (BitVec.toInt (b - BitVec.setWidth (32 : Nat) a))))))) []))) = wpRun (env01 U0) [18, 22, 28, 32] [] false (RS.mk Try.f34.results.toList 0 (CS.mk [] [])) (LK X 34 0 Q true []) Q 2000 ([.code (bodyOf Try.f34)]) (slots [.one (.u64 a), .one (.u32 b)] Try.f34.ntmps) [] by kernel_rfl) h)
theorem vc36 {X : Ctx} {Q : AV → Mem → Prop} (hX : X.P = Try.prog) (a b c d : BitVec 32) (h : (decide (BitVec.ofInt (32 : Nat) (0 : Int) < d) = true → (decide (c - a < b) = true → Q (AV.one (AC.b true)) []) ∧ (decide (c - a < b) = false → Q (AV.one (AC.b (decide (c + d - BitVec.ofInt (32 : Nat) (1 : Int) - a < b)))) [])) ∧ (decide (BitVec.ofInt (32 : Nat) (0 : Int) < d) = false → (decide (b = BitVec.ofInt (32 : Nat) (0 : Int)) = true → Q (AV.one (AC.b (decide (c = a)))) []) ∧ (decide (b = BitVec.ofInt (32 : Nat) (0 : Int)) = false → Q (AV.one (AC.b (decide (c - a < b)))) []))) : KRun X 36 0 Q ([.code (bodyOf Try.f36)]) (slots [.one (.u32 a), .one (.u32 b), .one (.u32 c), .one (.u32 d)] Try.f36.ntmps) [] :=
  wpRun_ok (hX ▸ env01_ok U0) (hX ▸ env01_call U0_ok) (hX ▸ mixed) (hX ▸ ok36) LK_ok (cast (show ((decide (BitVec.ofInt (32 : Nat) (0 : Int) < d) = true → (decide (c - a < b) = true → Q (AV.one (AC.b true)) []) ∧ (decide (c - a < b) = false → Q (AV.one (AC.b (decide (c + d - BitVec.ofInt (32 : Nat) (1 : Int) - a < b)))) [])) ∧ (decide (BitVec.ofInt (32 : Nat) (0 : Int) < d) = false → (decide (b = BitVec.ofInt (32 : Nat) (0 : Int)) = true → Q (AV.one (AC.b (decide (c = a)))) []) ∧ (decide (b = BitVec.ofInt (32 : Nat) (0 : Int)) = false → Q (AV.one (AC.b (decide (c - a < b)))) []))) = wpRun (env01 U0) [11, 15, 27] [] false (RS.mk Try.f36.results.toList 0 (CS.mk [] [])) (LK X 36 0 Q true []) Q 2000 ([.code (bodyOf Try.f36)]) (slots [.one (.u32 a), .one (.u32 b), .one (.u32 c), .one (.u32 d)] Try.f36.ntmps) [] by kernel_rfl) h)
theorem vc32 {X : Ctx} {Q : AV → Mem → Prop} (hX : X.P = Try.prog) (a : BitVec 32) (row : List AC) (n : Nat) (h : KR X (32 : Nat) (0 : Nat) Q (kOf Try.f32 (0 : Nat)) (mkS (19 : Nat) [((0 : Nat), AV.one (AC.u32 a)), ((7 : Nat), AV.one (AC.xs row (0 : Nat) n)), ((8 : Nat), AV.one (AC.i64 (↑n : Int))), ((9 : Nat), AV.one (AC.i64 (0 : Int)))]) []) : KRun X 32 0 Q ([.code (bodyOf Try.f32)]) (slots [.one (.u32 a), .one (.xs row 0 n)] Try.f32.ntmps) [] :=
  wpRun_ok (hX ▸ env01_ok U0) (hX ▸ env01_call U0_ok) (hX ▸ mixed) (hX ▸ ok32) LK_ok (cast (show (KR X (32 : Nat) (0 : Nat) Q (kOf Try.f32 (0 : Nat)) (mkS (19 : Nat) [((0 : Nat), AV.one (AC.u32 a)), ((7 : Nat), AV.one (AC.xs row (0 : Nat) n)), ((8 : Nat), AV.one (AC.i64 (↑n : Int))), ((9 : Nat), AV.one (AC.i64 (0 : Int)))]) []) = wpRun (env01 U0) [10, 15] [] false (RS.mk Try.f32.results.toList 0 (CS.mk [] [])) (LK X 32 0 Q true [(2, LS.mk [0, 7, 8, 9] (CS.mk [] []))]) Q 2000 ([.code (bodyOf Try.f32)]) (slots [.one (.u32 a), .one (.xs row 0 n)] Try.f32.ntmps) [] by kernel_rfl) h)
theorem vc32a {X : Ctx} {Q : AV → Mem → Prop} (hX : X.P = Try.prog) (a : BitVec 32) (row : List AC) (n : Nat) (i : Int) (h : (decide (i < (↑n : Int)) = true → ((0 : Int) ≤ i ∧ i < (↑n : Int)) ∧ gt AC.any row ((0 : Nat) + Int.toNat i * (1 : Nat)) = AC.u32 (asU32 (gt AC.any row ((0 : Nat) + Int.toNat i * (1 : Nat)))) ∧ (decide ((0 : Int) < BitVec.toInt (asU32 (gt AC.any row ((0 : Nat) + Int.toNat i * (1 : Nat))) - a)) = true → in64 (i + (1 : Int)) ∧ KR X (32 : Nat) (0 : Nat) Q (kOf Try.f32 (0 : Nat)) (mkS (19 : Nat) [((0 : Nat), AV.one (AC.u32 (asU32 (gt AC.any row ((0 : Nat) + Int.toNat i * (1 : Nat)))))), ((7 : Nat), AV.one (AC.xs row (0 : Nat) n)), ((8 : Nat), AV.one (AC.i64 (↑n : Int))), ((9 : Nat), AV.one (AC.i64 (i + (1 : Int))))]) []) ∧ (decide ((0 : Int) < BitVec.toInt (asU32 (gt AC.any row ((0 : Nat) + Int.toNat i * (1 : Nat))) - a)) = false → in64 (i + (1 : Int)) ∧ KR X (32 : Nat) (0 : Nat) Q (kOf Try.f32 (0 : Nat)) (mkS (19 : Nat) [((0 : Nat), AV.one (AC.u32 a)), ((7 : Nat), AV.one (AC.xs row (0 : Nat) n)), ((8 : Nat), AV.one (AC.i64 (↑n : Int))), ((9 : Nat), AV.one (AC.i64 (i + (1 : Int))))]) [])) ∧ (decide (i < (↑n : Int)) = false → Q (AV.one (AC.u32 a)) [])) : KRun X 32 0 Q (kOf Try.f32 0) (mkS 19 [(0, .one (.u32 a)), (7, .one (.xs row 0 n)), (8, .one (.i64 n)), (9, .one (.i64 i))]) [] :=
  wpRun_ok (hX ▸ env01_ok U0) (hX ▸ env01_call U0_ok) (hX ▸ mixed) (hX ▸ ok32) LK_ok (cast (show ((decide (i < (↑n : Int)) = true → ((0 : Int) ≤ i ∧ i < (↑n : Int)) ∧ gt AC.any row ((0 : Nat) + Int.toNat i * (1 : Nat)) = AC.u32 (asU32 (gt AC.any row ((0 : Nat) + Int.toNat i * (1 : Nat)))) ∧ (decide ((0 : Int) < BitVec.toInt (asU32 (gt AC.any row ((0 : Nat) + Int.toNat i * (1 : Nat))) - a)) = true → in64 (i + (1 : Int)) ∧ KR X (32 : Nat) (0 : Nat) Q (kOf Try.f32 (0 : Nat)) (mkS (19 : Nat) [((0 : Nat), AV.one (AC.u32 (asU32 (gt AC.any row ((0 : Nat) + Int.toNat i * (1 : Nat)))))), ((7 : Nat), AV.one (AC.xs row (0 : Nat) n)), ((8 : Nat), AV.one (AC.i64 (↑n : Int))), ((9 : Nat), AV.one (AC.i64 (i + (1 : Int))))]) []) ∧ (decide ((0 : Int) < BitVec.toInt (asU32 (gt AC.any row ((0 : Nat) + Int.toNat i * (1 : Nat))) - a)) = false → in64 (i + (1 : Int)) ∧ KR X (32 : Nat) (0 : Nat) Q (kOf Try.f32 (0 : Nat)) (mkS (19 : Nat) [((0 : Nat), AV.one (AC.u32 a)), ((7 : Nat), AV.one (AC.xs row (0 : Nat) n)), ((8 : Nat), AV.one (AC.i64 (↑n : Int))), ((9 : Nat), AV.one (AC.i64 (i + (1 : Int))))]) [])) ∧ (decide (i < (↑n : Int)) = false → Q (AV.one (AC.u32 a)) [])) = wpRun (env01 U0) [10, 15] [] false (RS.mk Try.f32.results.toList 0 (CS.mk [] [])) (LK X 32 0 Q true [(2, LS.mk [0, 7, 8, 9] (CS.mk [] []))]) Q 2000 (kOf Try.f32 0) (mkS 19 [(0, .one (.u32 a)), (7, .one (.xs row 0 n)), (8, .one (.i64 n)), (9, .one (.i64 i))]) [] by kernel_rfl) h)

theorem tmod_id {x m : Int} (h1 : -m < x) (h2 : x < m) : Int.tmod x m = x := by
  rcases Int.le_total 0 x with h | h
  · exact Int.tmod_eq_of_lt h h2
  · have := Int.neg_tmod (-x) m
    rw [Int.neg_neg] at this
    rw [this, Int.tmod_eq_of_lt (by omega) (by omega), Int.neg_neg]
theorem ahead_nn (a b : BitVec 32) : ((b - a).toNat : Int) = if (b.toNat : Int) - a.toNat < 0 then (b.toNat : Int) - a.toNat + 4294967296 else (b.toNat : Int) - a.toNat := by
  have h1 := a.isLt
  have h2 := b.isLt
  rw [BitVec.toNat_sub]
  split <;> omega
theorem s51 (a b : BitVec 32) : Spec Try.prog 51 [.one (.u32 a), .one (.u32 b)] [] (Is (.one (.i64 ((b - a).toNat : Int)))) := by
  refine Spec.of_run ok51 fun X hX => vc51 hX a b ?_
  have h1 := a.isLt
  have h2 := b.isLt
  have e := tmod_id (x := (b.toNat : Int) - a.toNat) (m := 4294967296) (by omega) (by omega)
  rw [e, ahead_nn]
  refine ⟨by unfold in64; omega, by decide, fun h => ⟨by unfold in64; omega, ?_⟩, fun h => ?_⟩
  · rw [if_pos (of_decide_eq_true h)]; exact rfl
  · rw [if_neg (of_decide_eq_false h)]; exact rfl

def dif (a b : BitVec 32) : Int := (b - a).toInt
noncomputable def U1 : Tab := fun f xs => match f, xs with
  | 27, [] => some ([], .one (.b true))
  | 51, [.one (.u32 a), .one (.u32 b)] => some ([], .one (.i64 ((b - a).toNat : Int)))
  | f, xs => U0 f xs
theorem U1_ok : TabOk Try.prog U1 := by
  intro f xs cs r h hc
  unfold U1 at h
  split at h <;> first | (obtain ⟨rfl, rfl⟩ := Prod.mk.inj (Option.some.inj h)) | exact U0_ok f xs cs r h hc
  · exact ⟨⟨_, _, ok27⟩, s27, rfl⟩
  · exact ⟨⟨_, _, ok51⟩, s51 _ _, rfl⟩
theorem vc29 {X : Ctx} {Q : AV → Mem → Prop} (hX : X.P = Try.prog) (a b : BitVec 32) (h : (decide ((2147483648 : Int) ≤ (↑(BitVec.toNat (b - a)) : Int)) = true → in64 ((↑(BitVec.toNat (b - a)) : Int) - (4294967296 : Int)) ∧ Q (AV.one (AC.i32 (BitVec.toInt (BitVec.ofInt (32 : Nat) ((↑(BitVec.toNat (b - a)) : Int) - (4294967296 : Int)))))) []) ∧ (decide ((2147483648 : Int) ≤ (↑(BitVec.toNat (b - a)) : Int)) = false → Q (AV.one (AC.i32 (BitVec.toInt (BitVec.ofInt (32 : Nat) (↑(BitVec.toNat (b - a)) : Int))))) [])) : KRun X 29 0 Q ([.code (bodyOf Try.f29)]) (slots [.one (.u32 a), .one (.u32 b)] Try.f29.ntmps) [] :=
  wpRun_ok (hX ▸ env01_ok U1) (hX ▸ env01_call U1_ok) (hX ▸ mixed) (hX ▸ ok29) LK_ok (cast (show ((decide ((2147483648 : Int) ≤ (↑(BitVec.toNat (b - a)) : Int)) = true → in64 ((↑(BitVec.toNat (b - a)) : Int) - (4294967296 : Int)) ∧ Q (AV.one (AC.i32 (BitVec.toInt (BitVec.ofInt (32 : Nat) ((↑(BitVec.toNat (b - a)) : Int) - (4294967296 : Int)))))) []) ∧ (decide ((2147483648 : Int) ≤ (↑(BitVec.toNat (b - a)) : Int)) = false → Q (AV.one (AC.i32 (BitVec.toInt (BitVec.ofInt (32 : Nat) (↑(BitVec.toNat (b - a)) : Int))))) [])) = wpRun (env01 U1) [10] [] false (RS.mk Try.f29.results.toList 0 (CS.mk [] [])) (LK X 29 0 Q true []) Q 2000 ([.code (bodyOf Try.f29)]) (slots [.one (.u32 a), .one (.u32 b)] Try.f29.ntmps) [] by kernel_rfl) h)
theorem vc47 {X : Ctx} {Q : AV → Mem → Prop} (hX : X.P = Try.prog) (a b c : BitVec 32) (h : Q (AV.one (AC.b (decide ((↑(BitVec.toNat (a - b)) : Int) < (↑(BitVec.toNat c) : Int))))) []) : KRun X 47 0 Q ([.code (bodyOf Try.f47)]) (slots [.one (.u32 a), .one (.u32 b), .one (.u32 c)] Try.f47.ntmps) [] :=
  wpRun_ok (hX ▸ env01_ok U1) (hX ▸ env01_call U1_ok) (hX ▸ mixed) (hX ▸ ok47) LK_ok (cast (show (Q (AV.one (AC.b (decide ((↑(BitVec.toNat (a - b)) : Int) < (↑(BitVec.toNat c) : Int))))) []) = wpRun (env01 U1) [] [] false (RS.mk Try.f47.results.toList 0 (CS.mk [] [])) (LK X 47 0 Q true []) Q 2000 ([.code (bodyOf Try.f47)]) (slots [.one (.u32 a), .one (.u32 b), .one (.u32 c)] Try.f47.ntmps) [] by kernel_rfl) h)
theorem vc48 {X : Ctx} {Q : AV → Mem → Prop} (hX : X.P = Try.prog) (a b c : BitVec 32) (h : ((!decide (a = b)) = true → Q (AV.one (AC.b (decide ((↑(BitVec.toNat (a - b)) : Int) ≤ (↑(BitVec.toNat (c - b)) : Int))))) []) ∧ ((!decide (a = b)) = false → Q (AV.one (AC.b false)) [])) : KRun X 48 0 Q ([.code (bodyOf Try.f48)]) (slots [.one (.u32 a), .one (.u32 b), .one (.u32 c)] Try.f48.ntmps) [] :=
  wpRun_ok (hX ▸ env01_ok U1) (hX ▸ env01_call U1_ok) (hX ▸ mixed) (hX ▸ ok48) LK_ok (cast (show (((!decide (a = b)) = true → Q (AV.one (AC.b (decide ((↑(BitVec.toNat (a - b)) : Int) ≤ (↑(BitVec.toNat (c - b)) : Int))))) []) ∧ ((!decide (a = b)) = false → Q (AV.one (AC.b false)) [])) = wpRun (env01 U1) [9] [] false (RS.mk Try.f48.results.toList 0 (CS.mk [] [])) (LK X 48 0 Q true []) Q 2000 ([.code (bodyOf Try.f48)]) (slots [.one (.u32 a), .one (.u32 b), .one (.u32 c)] Try.f48.ntmps) [] by kernel_rfl) h)
theorem vc50 {X : Ctx} {Q : AV → Mem → Prop} (hX : X.P = Try.prog) (a b c d : BitVec 32) (h : (decide ((↑(BitVec.toNat (b - a)) : Int) = (0 : Int)) = true → Q (AV.one (AC.b false)) []) ∧ (decide ((↑(BitVec.toNat (b - a)) : Int) = (0 : Int)) = false → (decide ((↑(BitVec.toNat (d - c)) : Int) = (0 : Int)) = true → Q (AV.one (AC.b false)) []) ∧ (decide ((↑(BitVec.toNat (d - c)) : Int) = (0 : Int)) = false → (decide ((↑(BitVec.toNat (c - a)) : Int) < (↑(BitVec.toNat (b - a)) : Int)) = true → Q (AV.one (AC.b true)) []) ∧ (decide ((↑(BitVec.toNat (c - a)) : Int) < (↑(BitVec.toNat (b - a)) : Int)) = false → Q (AV.one (AC.b (decide ((↑(BitVec.toNat (a - c)) : Int) < (↑(BitVec.toNat (d - c)) : Int))))) [])))) : KRun X 50 0 Q ([.code (bodyOf Try.f50)]) (slots [.agg [.u32 a, .u32 b], .agg [.u32 c, .u32 d]] Try.f50.ntmps) [] :=
  wpRun_ok (hX ▸ env01_ok U1) (hX ▸ env01_call U1_ok) (hX ▸ mixed) (hX ▸ ok50) LK_ok (cast (show ((decide ((↑(BitVec.toNat (b - a)) : Int) = (0 : Int)) = true → Q (AV.one (AC.b false)) []) ∧ (decide ((↑(BitVec.toNat (b - a)) : Int) = (0 : Int)) = false → (decide ((↑(BitVec.toNat (d - c)) : Int) = (0 : Int)) = true → Q (AV.one (AC.b false)) []) ∧ (decide ((↑(BitVec.toNat (d - c)) : Int) = (0 : Int)) = false → (decide ((↑(BitVec.toNat (c - a)) : Int) < (↑(BitVec.toNat (b - a)) : Int)) = true → Q (AV.one (AC.b true)) []) ∧ (decide ((↑(BitVec.toNat (c - a)) : Int) < (↑(BitVec.toNat (b - a)) : Int)) = false → Q (AV.one (AC.b (decide ((↑(BitVec.toNat (a - c)) : Int) < (↑(BitVec.toNat (d - c)) : Int))))) [])))) = wpRun (env01 U1) [18, 21, 29] [] false (RS.mk Try.f50.results.toList 0 (CS.mk [] [])) (LK X 50 0 Q true []) Q 2000 ([.code (bodyOf Try.f50)]) (slots [.agg [.u32 a, .u32 b], .agg [.u32 c, .u32 d]] Try.f50.ntmps) [] by kernel_rfl) h)

theorem s29 (a b : BitVec 32) : Spec Try.prog 29 [.one (.u32 a), .one (.u32 b)] [] (Is (.one (.i32 (dif a b)))) := by
  refine Spec.of_run ok29 fun X hX => vc29 hX a b ?_
  have h1 := (b - a).isLt
  have key : ∀ z : Int, z = dif a b → (BitVec.ofInt 32 z).toInt = dif a b := by
    intro z h
    rw [h]
    unfold dif
    rw [BitVec.ofInt_toInt]
  have hd : dif a b = if 2 * (b - a).toNat < 4294967296 then ((b - a).toNat : Int) else (b - a).toNat - 4294967296 := by
    unfold dif
    rw [BitVec.toInt_eq_toNat_cond]
    rfl
  refine ⟨fun h => ⟨by unfold in64; omega, ?_⟩, fun h => ?_⟩
  · have h := of_decide_eq_true h
    rw [key _ (by rw [hd, if_neg (by omega)])]
    exact rfl
  · have h := of_decide_eq_false h
    rw [key _ (by rw [hd, if_pos (by omega)])]
    exact rfl

def inW (a b c : BitVec 32) : Bool := decide (a - b < c)
def btw (n a b : BitVec 32) : Bool := decide (n - a - 1#32 < b - a)
def bfr (a b : BitVec 32) : Bool := decide (0 < dif a b)
theorem dLt {n : Nat} (a b : BitVec n) : decide ((a.toNat : Int) < (b.toNat : Int)) = decide (a < b) := decide_eq_decide.2 (by rw [BitVec.lt_def]; omega)

theorem s47 (a b c : BitVec 32) : Spec Try.prog 47 [.one (.u32 a), .one (.u32 b), .one (.u32 c)] [] (Is (.one (.b (inW a b c)))) :=
  Spec.of_run ok47 fun X hX => vc47 hX a b c (by rw [dLt]; exact rfl)

theorem sub_ne {a b : BitVec 32} (h : ¬ a = b) : (a - b).toNat ≠ 0 := by
  intro h0
  apply h
  apply BitVec.eq_of_toNat_eq
  rw [BitVec.toNat_sub] at h0
  have := a.isLt
  have := b.isLt
  omega

theorem s48 (a b c : BitVec 32) : Spec Try.prog 48 [.one (.u32 a), .one (.u32 b), .one (.u32 c)] [] (Is (.one (.b (btw a b c)))) := by
  refine Spec.of_run ok48 fun X hX => vc48 hX a b c ⟨fun h => ?_, fun h => ?_⟩
  · have h : ¬ a = b := by simpa using h
    have h0 := sub_ne h
    have e : decide (((a - b).toNat : Int) ≤ ((c - b).toNat : Int)) = btw a b c := decide_eq_decide.2 (by
      rw [BitVec.lt_def, BitVec.toNat_sub (a - b) 1#32]
      have := (a - b).isLt
      have := (c - b).isLt
      have e1 : (1#32).toNat = 1 := rfl
      omega)
    rw [e]
    exact rfl
  · have h : a = b := by simpa using h
    subst h
    have e : btw a a c = false := decide_eq_false (by
      rw [BitVec.lt_def, BitVec.sub_self]
      have := (c - a).isLt
      have e1 : ((0#32) - 1#32).toNat = 4294967295 := rfl
      omega)
    rw [e]
    exact rfl

def ovl (a b c d : BitVec 32) : Bool := (!decide (a = b) && decide (a - c < d - c)) || (!decide (c = d) && decide (c - a < b - a))

theorem s49 (a b c d : BitVec 32) : Spec Try.prog 49 [.agg [.u32 a, .u32 b], .agg [.u32 c, .u32 d]] [] (Is (.one (.b (ovl a b c d)))) := by
  refine Spec.of_run ok49 fun X hX => vc49 hX a b c d ?_
  refine ⟨fun h1 => ⟨fun h2 => ?_, fun h2 => ⟨fun h3 => ?_, fun h3 => ?_⟩⟩, fun h1 => ⟨fun h3 => ?_, fun h3 => ?_⟩⟩
  · have e : ovl a b c d = true := by simp only [ovl, h1, h2, Bool.and_self, Bool.true_or]
    rw [e]; exact rfl
  · have e : ovl a b c d = decide (c - a < b - a) := by simp only [ovl, h1, h2, h3, Bool.true_and, Bool.false_or]
    rw [e]; exact rfl
  · have e : ovl a b c d = false := by simp only [ovl, h1, h2, h3, Bool.true_and, Bool.false_and, Bool.or_self]
    rw [e]; exact rfl
  · have e : ovl a b c d = decide (c - a < b - a) := by simp only [ovl, h1, h3, Bool.true_and, Bool.false_and, Bool.false_or]
    rw [e]; exact rfl
  · have e : ovl a b c d = false := by simp only [ovl, h1, h3, Bool.false_and, Bool.or_self]
    rw [e]; exact rfl

theorem s50 (a b c d : BitVec 32) : Spec Try.prog 50 [.agg [.u32 a, .u32 b], .agg [.u32 c, .u32 d]] [] (Is (.one (.b (ovl a b c d)))) := by
  have key : ovl a b c d = if ((b - a).toNat : Int) = 0 then false else if ((d - c).toNat : Int) = 0 then false else (decide (((c - a).toNat : Int) < (b - a).toNat) || decide (((a - c).toNat : Int) < (d - c).toNat)) := by
    have z1 : ((b - a).toNat : Int) = 0 ↔ a = b := ⟨fun h => Decidable.byContradiction fun hn => sub_ne (fun e => hn e.symm) (by omega), fun h => by subst h; simp⟩
    have z2 : ((d - c).toNat : Int) = 0 ↔ c = d := ⟨fun h => Decidable.byContradiction fun hn => sub_ne (fun e => hn e.symm) (by omega), fun h => by subst h; simp⟩
    have g0 : ∀ x : BitVec 32, ¬ x < 0#32 := fun x => by rw [BitVec.lt_def]; simp
    rw [dLt, dLt]
    by_cases h1 : a = b
    · rw [if_pos (z1.2 h1)]; subst h1; simp [ovl, g0]
    · rw [if_neg (fun h => h1 (z1.1 h))]
      by_cases h2 : c = d
      · rw [if_pos (z2.2 h2)]; subst h2; simp [ovl, g0]
      · rw [if_neg (fun h => h2 (z2.1 h))]
        simp [ovl, h1, h2, Bool.or_comm]
  refine Spec.of_run ok50 fun X hX => vc50 hX a b c d ?_
  rw [key]
  refine ⟨fun h => by rw [if_pos (of_decide_eq_true h)]; exact rfl, fun h => ?_⟩
  rw [if_neg (of_decide_eq_false h)]
  refine ⟨fun h => by rw [if_pos (of_decide_eq_true h)]; exact rfl, fun h => ?_⟩
  rw [if_neg (of_decide_eq_false h)]
  exact ⟨fun h => by rw [h]; exact rfl, fun h => by rw [h]; exact rfl⟩

/-! Accept -/
def accept (a b c d : BitVec 32) : Bool :=
  if 0#32 < d then inW c a b || inW (c + d - 1#32) a b else if b = 0#32 then decide (c = a) else inW c a b

theorem s36 (a b c d : BitVec 32) : Spec Try.prog 36 [.one (.u32 a), .one (.u32 b), .one (.u32 c), .one (.u32 d)] [] (Is (.one (.b (accept a b c d)))) := by
  refine Spec.of_run ok36 fun X hX => vc36 hX a b c d ?_
  have z : BitVec.ofInt 32 0 = 0#32 := rfl
  have o : BitVec.ofInt 32 1 = 1#32 := rfl
  rw [z, o]
  unfold accept
  refine ⟨fun h => ?_, fun h => ?_⟩
  · rw [if_pos (of_decide_eq_true h)]
    exact ⟨fun h => by unfold inW; rw [h]; exact rfl, fun h => by unfold inW; rw [h]; exact rfl⟩
  · rw [if_neg (of_decide_eq_false h)]
    exact ⟨fun h => by rw [if_pos (of_decide_eq_true h)]; exact rfl, fun h => by rw [if_neg (of_decide_eq_false h)]; exact rfl⟩

/-! Max -/
def maxF : BitVec 32 → List (BitVec 32) → BitVec 32
  | a, [] => a
  | a, b :: bs => maxF (if bfr a b then b else a) bs
theorem maxF_cons (a b : BitVec 32) (bs : List (BitVec 32)) : maxF a (b :: bs) = maxF (if bfr a b then b else a) bs := rfl
theorem gt_u32 (bs : List (BitVec 32)) (i : Nat) (hi : i < bs.length) : gt AC.any (bs.map AC.u32) (0 + (i : Int).toNat * 1) = .u32 bs[i] := by
  rw [gt_eq]; simp [hi]

theorem l32 {X : Ctx} (hX : X.P = Try.prog) (bs : List (BitVec 32)) (hn : bs.length < 2 ^ 62) : ∀ (d i : Nat) (a : BitVec 32), i + d = bs.length →
    KRun X 32 0 (Is (.one (.u32 (maxF a (bs.drop i))))) (kOf Try.f32 0) (mkS 19 [(0, .one (.u32 a)), (7, .one (.xs (bs.map .u32) 0 bs.length)), (8, .one (.i64 bs.length)), (9, .one (.i64 i))]) [] := by
  intro d
  induction d with
  | zero =>
    intro i a hi
    refine vc32a hX _ _ _ _ ⟨fun h => absurd (of_decide_eq_true h) (by omega), fun _ => ?_⟩
    rw [List.drop_of_length_le (by omega)]
    exact rfl
  | succ d ih =>
    intro i a hi
    have hlt : i < bs.length := by omega
    have hdrop : bs.drop i = bs[i] :: bs.drop (i + 1) := List.drop_eq_getElem_cons hlt
    rw [hdrop, maxF_cons]
    refine vc32a hX _ _ _ _ ⟨fun _ => ⟨⟨by omega, by omega⟩, ?_⟩, fun h => absurd (of_decide_eq_false h) (by omega)⟩
    simp only [gt_u32 bs i hlt, asU32]
    refine ⟨trivial, fun h => ⟨by unfold in64; omega, ⟨?_⟩⟩, fun h => ⟨by unfold in64; omega, ⟨?_⟩⟩⟩
    · have e : bfr a bs[i] = true := h
      rw [if_pos e]
      exact ih (i + 1) bs[i] (by omega)
    · have e : ¬ bfr a bs[i] = true := by rw [show bfr a bs[i] = false from h]; decide
      rw [if_neg e]
      exact ih (i + 1) a (by omega)
theorem s32 (a : BitVec 32) (bs : List (BitVec 32)) (hn : bs.length < 2 ^ 62) : Spec Try.prog 32 [.one (.u32 a), .one (.xs (bs.map .u32) 0 bs.length)] [] (Is (.one (.u32 (maxF a bs)))) :=
  Spec.of_run ok32 fun X hX => vc32 hX _ _ _ ⟨l32 hX bs hn bs.length 0 a (by omega)⟩

noncomputable def U2 : Tab := fun f xs => match f, xs with
  | 29, [.one (.u32 a), .one (.u32 b)] => some ([], .one (.i32 (dif a b)))
  | 47, [.one (.u32 a), .one (.u32 b), .one (.u32 c)] => some ([], .one (.b (inW a b c)))
  | f, xs => U1 f xs
theorem U2_ok : TabOk Try.prog U2 := by
  intro f xs cs r h hc
  unfold U2 at h
  split at h <;> first | (obtain ⟨rfl, rfl⟩ := Prod.mk.inj (Option.some.inj h)) | exact U1_ok f xs cs r h hc
  · exact ⟨⟨_, _, ok29⟩, s29 _ _, rfl⟩
  · exact ⟨⟨_, _, ok47⟩, s47 _ _ _, rfl⟩
theorem vc31 {X : Ctx} {Q : AV → Mem → Prop} (hX : X.P = Try.prog) (a b : BitVec 32) (h : Q (AV.one (AC.b (decide ((0 : Int) < dif a b)))) []) : KRun X 31 0 Q ([.code (bodyOf Try.f31)]) (slots [.one (.u32 a), .one (.u32 b)] Try.f31.ntmps) [] :=
  wpRun_ok (hX ▸ env01_ok U2) (hX ▸ env01_call U2_ok) (hX ▸ mixed) (hX ▸ ok31) LK_ok (cast (show (Q (AV.one (AC.b (decide ((0 : Int) < dif a b)))) []) = wpRun (env01 U2) [] [] false (RS.mk Try.f31.results.toList 0 (CS.mk [] [])) (LK X 31 0 Q true []) Q 2000 ([.code (bodyOf Try.f31)]) (slots [.one (.u32 a), .one (.u32 b)] Try.f31.ntmps) [] by kernel_rfl) h)
theorem vc35 {X : Ctx} {Q : AV → Mem → Prop} (hX : X.P = Try.prog) (a : BitVec 64) (b : BitVec 32) (h : in64 (BitVec.toInt (a &&& BitVec.ofInt (64 : Nat) (4294967295 : Int)) + BitVec.toInt (BitVec.ofInt (64 : Nat) (dif (BitVec.setWidth (32 : Nat) (a &&& BitVec.ofInt (64 : Nat) (4294967295 : Int))) b))) ∧ (decide (BitVec.toInt (a &&& BitVec.ofInt (64 : Nat) (4294967295 : Int)) + BitVec.toInt (BitVec.ofInt (64 : Nat) (dif (BitVec.setWidth (32 : Nat) (a &&& BitVec.ofInt (64 : Nat) (4294967295 : Int))) b)) < (0 : Int)) = true → (decide (BitVec.ofInt (64 : Nat) (0 : Int) < a >>> (32 : Nat)) = true → Q (AV.one (AC.u64 ((a >>> (32 : Nat) - BitVec.ofInt (64 : Nat) (1 : Int)) <<< (32 : Nat) + BitVec.setWidth (64 : Nat) b))) []) ∧ (decide (BitVec.ofInt (64 : Nat) (0 : Int) < a >>> (32 : Nat)) = false → in64 (BitVec.toInt (a &&& BitVec.ofInt (64 : Nat) (4294967295 : Int)) + BitVec.toInt (BitVec.ofInt (64 : Nat) (dif (BitVec.setWidth (32 : Nat) (a &&& BitVec.ofInt (64 : Nat) (4294967295 : Int))) b))) ∧ (decide ((4294967296 : Int) ≤ BitVec.toInt (a &&& BitVec.ofInt (64 : Nat) (4294967295 : Int)) + BitVec.toInt (BitVec.ofInt (64 : Nat) (dif (BitVec.setWidth (32 : Nat) (a &&& BitVec.ofInt (64 : Nat) (4294967295 : Int))) b))) = true → (decide (a >>> (32 : Nat) < BitVec.ofInt (64 : Nat) (4294967295 : Int)) = true → Q (AV.one (AC.u64 ((a >>> (32 : Nat) + BitVec.ofInt (64 : Nat) (1 : Int)) <<< (32 : Nat) + BitVec.setWidth (64 : Nat) b))) []) ∧ (decide (a >>> (32 : Nat) < BitVec.ofInt (64 : Nat) (4294967295 : Int)) = false → Q (AV.one (AC.u64 (a >>> (32 : Nat) <<< (32 : Nat) + BitVec.setWidth (64 : Nat) b))) [])) ∧ (decide ((4294967296 : Int) ≤ BitVec.toInt (a &&& BitVec.ofInt (64 : Nat) (4294967295 : Int)) + BitVec.toInt (BitVec.ofInt (64 : Nat) (dif (BitVec.setWidth (32 : Nat) (a &&& BitVec.ofInt (64 : Nat) (4294967295 : Int))) b))) = false → Q (AV.one (AC.u64 (a >>> (32 : Nat) <<< (32 : Nat) + BitVec.setWidth (64 : Nat) b))) []))) ∧ (decide (BitVec.toInt (a &&& BitVec.ofInt (64 : Nat) (4294967295 : Int)) + BitVec.toInt (BitVec.ofInt (64 : Nat) (dif (BitVec.setWidth (32 : Nat) (a &&& BitVec.ofInt (64 : Nat) (4294967295 : Int))) b)) < (0 : Int)) = false → in64 (BitVec.toInt (a &&& BitVec.ofInt (64 : Nat) (4294967295 : Int)) + BitVec.toInt (BitVec.ofInt (64 : Nat) (dif (BitVec.setWidth (32 : Nat) (a &&& BitVec.ofInt (64 : Nat) (4294967295 : Int))) b))) ∧ (decide ((4294967296 : Int) ≤ BitVec.toInt (a &&& BitVec.ofInt (64 : Nat) (4294967295 : Int)) + BitVec.toInt (BitVec.ofInt (64 : Nat) (dif (BitVec.setWidth (32 : Nat) (a &&& BitVec.ofInt (64 : Nat) (4294967295 : Int))) b))) = true → (decide (a >>> (32 : Nat) < BitVec.ofInt (64 : Nat) (4294967295 : Int)) = true → Q (AV.one (AC.u64 ((a >>> (32 : Nat) + BitVec.ofInt (64 : Nat) (1 : Int)) <<< (32 : Nat) + BitVec.setWidth (64 : Nat) b))) []) ∧ (decide (a >>> (32 : Nat) < BitVec.ofInt (64 : Nat) (4294967295 : Int)) = false → Q (AV.one (AC.u64 (a >>> (32 : Nat) <<< (32 : Nat) + BitVec.setWidth (64 : Nat) b))) [])) ∧ (decide ((4294967296 : Int) ≤ BitVec.toInt (a &&& BitVec.ofInt (64 : Nat) (4294967295 : Int)) + BitVec.toInt (BitVec.ofInt (64 : Nat) (dif (BitVec.setWidth (32 : Nat) (a &&& BitVec.ofInt (64 : Nat) (4294967295 : Int))) b))) = false → Q (AV.one (AC.u64 (a >>> (32 : Nat) <<< (32 : Nat) + BitVec.setWidth (64 : Nat) b))) []))) : KRun X 35 0 Q ([.code (bodyOf Try.f35)]) (slots [.one (.u64 a), .one (.u32 b)] Try.f35.ntmps) [] :=
  wpRun_ok (hX ▸ env01_ok U2) (hX ▸ env01_call U2_ok) (hX ▸ mixed) (hX ▸ ok35) LK_ok (cast (show (in64 (BitVec.toInt (a &&& BitVec.ofInt (64 : Nat) (4294967295 : Int)) + BitVec.toInt (BitVec.ofInt (64 : Nat) (dif (BitVec.setWidth (32 : Nat) (a &&& BitVec.ofInt (64 : Nat) (4294967295 : Int))) b))) ∧ (decide (BitVec.toInt (a &&& BitVec.ofInt (64 : Nat) (4294967295 : Int)) + BitVec.toInt (BitVec.ofInt (64 : Nat) (dif (BitVec.setWidth (32 : Nat) (a &&& BitVec.ofInt (64 : Nat) (4294967295 : Int))) b)) < (0 : Int)) = true → (decide (BitVec.ofInt (64 : Nat) (0 : Int) < a >>> (32 : Nat)) = true → Q (AV.one (AC.u64 ((a >>> (32 : Nat) - BitVec.ofInt (64 : Nat) (1 : Int)) <<< (32 : Nat) + BitVec.setWidth (64 : Nat) b))) []) ∧ (decide (BitVec.ofInt (64 : Nat) (0 : Int) < a >>> (32 : Nat)) = false → in64 (BitVec.toInt (a &&& BitVec.ofInt (64 : Nat) (4294967295 : Int)) + BitVec.toInt (BitVec.ofInt (64 : Nat) (dif (BitVec.setWidth (32 : Nat) (a &&& BitVec.ofInt (64 : Nat) (4294967295 : Int))) b))) ∧ (decide ((4294967296 : Int) ≤ BitVec.toInt (a &&& BitVec.ofInt (64 : Nat) (4294967295 : Int)) + BitVec.toInt (BitVec.ofInt (64 : Nat) (dif (BitVec.setWidth (32 : Nat) (a &&& BitVec.ofInt (64 : Nat) (4294967295 : Int))) b))) = true → (decide (a >>> (32 : Nat) < BitVec.ofInt (64 : Nat) (4294967295 : Int)) = true → Q (AV.one (AC.u64 ((a >>> (32 : Nat) + BitVec.ofInt (64 : Nat) (1 : Int)) <<< (32 : Nat) + BitVec.setWidth (64 : Nat) b))) []) ∧ (decide (a >>> (32 : Nat) < BitVec.ofInt (64 : Nat) (4294967295 : Int)) = false → Q (AV.one (AC.u64 (a >>> (32 : Nat) <<< (32 : Nat) + BitVec.setWidth (64 : Nat) b))) [])) ∧ (decide ((4294967296 : Int) ≤ BitVec.toInt (a &&& BitVec.ofInt (64 : Nat) (4294967295 : Int)) + BitVec.toInt (BitVec.ofInt (64 : Nat) (dif (BitVec.setWidth (32 : Nat) (a &&& BitVec.ofInt (64 : Nat) (4294967295 : Int))) b))) = false → Q (AV.one (AC.u64 (a >>> (32 : Nat) <<< (32 : Nat) + BitVec.setWidth (64 : Nat) b))) []))) ∧ (decide (BitVec.toInt (a &&& BitVec.ofInt (64 : Nat) (4294967295 : Int)) + BitVec.toInt (BitVec.ofInt (64 : Nat) (dif (BitVec.setWidth (32 : Nat) (a &&& BitVec.ofInt (64 : Nat) (4294967295 : Int))) b)) < (0 : Int)) = false → in64 (BitVec.toInt (a &&& BitVec.ofInt (64 : Nat) (4294967295 : Int)) + BitVec.toInt (BitVec.ofInt (64 : Nat) (dif (BitVec.setWidth (32 : Nat) (a &&& BitVec.ofInt (64 : Nat) (4294967295 : Int))) b))) ∧ (decide ((4294967296 : Int) ≤ BitVec.toInt (a &&& BitVec.ofInt (64 : Nat) (4294967295 : Int)) + BitVec.toInt (BitVec.ofInt (64 : Nat) (dif (BitVec.setWidth (32 : Nat) (a &&& BitVec.ofInt (64 : Nat) (4294967295 : Int))) b))) = true → (decide (a >>> (32 : Nat) < BitVec.ofInt (64 : Nat) (4294967295 : Int)) = true → Q (AV.one (AC.u64 ((a >>> (32 : Nat) + BitVec.ofInt (64 : Nat) (1 : Int)) <<< (32 : Nat) + BitVec.setWidth (64 : Nat) b))) []) ∧ (decide (a >>> (32 : Nat) < BitVec.ofInt (64 : Nat) (4294967295 : Int)) = false → Q (AV.one (AC.u64 (a >>> (32 : Nat) <<< (32 : Nat) + BitVec.setWidth (64 : Nat) b))) [])) ∧ (decide ((4294967296 : Int) ≤ BitVec.toInt (a &&& BitVec.ofInt (64 : Nat) (4294967295 : Int)) + BitVec.toInt (BitVec.ofInt (64 : Nat) (dif (BitVec.setWidth (32 : Nat) (a &&& BitVec.ofInt (64 : Nat) (4294967295 : Int))) b))) = false → Q (AV.one (AC.u64 (a >>> (32 : Nat) <<< (32 : Nat) + BitVec.setWidth (64 : Nat) b))) []))) = wpRun (env01 U2) [22, 25, 35, 38] [] false (RS.mk Try.f35.results.toList 0 (CS.mk [] [])) (LK X 35 0 Q true []) Q 2000 ([.code (bodyOf Try.f35)]) (slots [.one (.u64 a), .one (.u32 b)] Try.f35.ntmps) [] by kernel_rfl) h)
theorem vc37 {X : Ctx} {Q : AV → Mem → Prop} (hX : X.P = Try.prog) (a b c d : BitVec 32) (h : (decide (d = BitVec.ofInt (32 : Nat) (0 : Int)) = true → (decide (b = BitVec.ofInt (32 : Nat) (0 : Int)) = true → (decide (c = a) = true → Q (AV.one (AC.b true)) []) ∧ (decide (c = a) = false → Q (AV.one (AC.b (inW c a b))) [])) ∧ (decide (b = BitVec.ofInt (32 : Nat) (0 : Int)) = false → Q (AV.one (AC.b (inW c a b))) [])) ∧ (decide (d = BitVec.ofInt (32 : Nat) (0 : Int)) = false → in64 ((↑(BitVec.toNat c) : Int) + (↑(BitVec.toNat d) : Int)) ∧ in64 ((↑(BitVec.toNat c) : Int) + (↑(BitVec.toNat d) : Int) - (1 : Int)) ∧ (4294967296 : Int) ≠ (0 : Int) ∧ (inW c a b = true → Q (AV.one (AC.b true)) []) ∧ (inW c a b = false → Q (AV.one (AC.b (inW (BitVec.ofInt (32 : Nat) (Int.tmod ((↑(BitVec.toNat c) : Int) + (↑(BitVec.toNat d) : Int) - (1 : Int)) (4294967296 : Int))) a b))) []))) : KRun X 37 0 Q ([.code (bodyOf Try.f37)]) (slots [.one (.u32 a), .one (.u32 b), .one (.u32 c), .one (.u32 d)] Try.f37.ntmps) [] :=
  wpRun_ok (hX ▸ env01_ok U2) (hX ▸ env01_call U2_ok) (hX ▸ mixed) (hX ▸ ok37) LK_ok (cast (show ((decide (d = BitVec.ofInt (32 : Nat) (0 : Int)) = true → (decide (b = BitVec.ofInt (32 : Nat) (0 : Int)) = true → (decide (c = a) = true → Q (AV.one (AC.b true)) []) ∧ (decide (c = a) = false → Q (AV.one (AC.b (inW c a b))) [])) ∧ (decide (b = BitVec.ofInt (32 : Nat) (0 : Int)) = false → Q (AV.one (AC.b (inW c a b))) [])) ∧ (decide (d = BitVec.ofInt (32 : Nat) (0 : Int)) = false → in64 ((↑(BitVec.toNat c) : Int) + (↑(BitVec.toNat d) : Int)) ∧ in64 ((↑(BitVec.toNat c) : Int) + (↑(BitVec.toNat d) : Int) - (1 : Int)) ∧ (4294967296 : Int) ≠ (0 : Int) ∧ (inW c a b = true → Q (AV.one (AC.b true)) []) ∧ (inW c a b = false → Q (AV.one (AC.b (inW (BitVec.ofInt (32 : Nat) (Int.tmod ((↑(BitVec.toNat c) : Int) + (↑(BitVec.toNat d) : Int) - (1 : Int)) (4294967296 : Int))) a b))) []))) = wpRun (env01 U2) [11, 13, 17, 35] [] false (RS.mk Try.f37.results.toList 0 (CS.mk [] [])) (LK X 37 0 Q true []) Q 2000 ([.code (bodyOf Try.f37)]) (slots [.one (.u32 a), .one (.u32 b), .one (.u32 c), .one (.u32 d)] Try.f37.ntmps) [] by kernel_rfl) h)
theorem s31 (a b : BitVec 32) : Spec Try.prog 31 [.one (.u32 a), .one (.u32 b)] [] (Is (.one (.b (bfr a b)))) := Spec.of_run ok31 fun X hX => vc31 hX a b rfl
noncomputable def U3 : Tab := fun f xs => match f, xs with
  | 31, [.one (.u32 a), .one (.u32 b)] => some ([], .one (.b (bfr a b)))
  | f, xs => U2 f xs
theorem U3_ok : TabOk Try.prog U3 := by
  intro f xs cs r h hc
  unfold U3 at h
  split at h <;> first | (obtain ⟨rfl, rfl⟩ := Prod.mk.inj (Option.some.inj h)) | exact U2_ok f xs cs r h hc
  · exact ⟨⟨_, _, ok31⟩, s31 _ _, rfl⟩
theorem vc33 {X : Ctx} {Q : AV → Mem → Prop} (hX : X.P = Try.prog) (a : BitVec 32) (row : List AC) (n : Nat) (h : KR X (33 : Nat) (0 : Nat) Q (kOf Try.f33 (0 : Nat)) (mkS (25 : Nat) [((1 : Nat), AV.one (AC.xs row (0 : Nat) n)), ((5 : Nat), AV.one (AC.u32 a)), ((6 : Nat), AV.one (AC.i64 (0 : Int)))]) []) : KRun X 33 0 Q ([.code (bodyOf Try.f33)]) (slots [.one (.u32 a), .one (.xs row 0 n)] Try.f33.ntmps) [] :=
  wpRun_ok (hX ▸ env01_ok U3) (hX ▸ env01_call U3_ok) (hX ▸ mixed) (hX ▸ ok33) LK_ok (cast (show (KR X (33 : Nat) (0 : Nat) Q (kOf Try.f33 (0 : Nat)) (mkS (25 : Nat) [((1 : Nat), AV.one (AC.xs row (0 : Nat) n)), ((5 : Nat), AV.one (AC.u32 a)), ((6 : Nat), AV.one (AC.i64 (0 : Int)))]) []) = wpRun (env01 U3) [11, 19] [] false (RS.mk Try.f33.results.toList 0 (CS.mk [] [])) (LK X 33 0 Q true [(3, LS.mk [1, 5, 6] (CS.mk [] []))]) Q 2000 ([.code (bodyOf Try.f33)]) (slots [.one (.u32 a), .one (.xs row 0 n)] Try.f33.ntmps) [] by kernel_rfl) h)
theorem vc33a {X : Ctx} {Q : AV → Mem → Prop} (hX : X.P = Try.prog) (a : BitVec 32) (row : List AC) (n : Nat) (i : Int) (h : (decide (i < (↑n : Int)) = true → ((0 : Int) ≤ i ∧ i < (↑n : Int)) ∧ gt AC.any row ((0 : Nat) + Int.toNat i * (1 : Nat)) = AC.u32 (asU32 (gt AC.any row ((0 : Nat) + Int.toNat i * (1 : Nat)))) ∧ (bfr a (asU32 (gt AC.any row ((0 : Nat) + Int.toNat i * (1 : Nat)))) = true → ((0 : Int) ≤ i ∧ i < (↑n : Int)) ∧ gt AC.any row ((0 : Nat) + Int.toNat i * (1 : Nat)) = AC.u32 (asU32 (gt AC.any row ((0 : Nat) + Int.toNat i * (1 : Nat)))) ∧ in64 (i + (1 : Int)) ∧ KR X (33 : Nat) (0 : Nat) Q (kOf Try.f33 (0 : Nat)) (mkS (25 : Nat) [((1 : Nat), AV.one (AC.xs row (0 : Nat) n)), ((5 : Nat), AV.one (AC.u32 (asU32 (gt AC.any row ((0 : Nat) + Int.toNat i * (1 : Nat)))))), ((6 : Nat), AV.one (AC.i64 (i + (1 : Int))))]) []) ∧ (bfr a (asU32 (gt AC.any row ((0 : Nat) + Int.toNat i * (1 : Nat)))) = false → in64 (i + (1 : Int)) ∧ KR X (33 : Nat) (0 : Nat) Q (kOf Try.f33 (0 : Nat)) (mkS (25 : Nat) [((1 : Nat), AV.one (AC.xs row (0 : Nat) n)), ((5 : Nat), AV.one (AC.u32 a)), ((6 : Nat), AV.one (AC.i64 (i + (1 : Int))))]) [])) ∧ (decide (i < (↑n : Int)) = false → Q (AV.one (AC.u32 a)) [])) : KRun X 33 0 Q (kOf Try.f33 0) (mkS 25 [(1, .one (.xs row 0 n)), (5, .one (.u32 a)), (6, .one (.i64 i))]) [] :=
  wpRun_ok (hX ▸ env01_ok U3) (hX ▸ env01_call U3_ok) (hX ▸ mixed) (hX ▸ ok33) LK_ok (cast (show ((decide (i < (↑n : Int)) = true → ((0 : Int) ≤ i ∧ i < (↑n : Int)) ∧ gt AC.any row ((0 : Nat) + Int.toNat i * (1 : Nat)) = AC.u32 (asU32 (gt AC.any row ((0 : Nat) + Int.toNat i * (1 : Nat)))) ∧ (bfr a (asU32 (gt AC.any row ((0 : Nat) + Int.toNat i * (1 : Nat)))) = true → ((0 : Int) ≤ i ∧ i < (↑n : Int)) ∧ gt AC.any row ((0 : Nat) + Int.toNat i * (1 : Nat)) = AC.u32 (asU32 (gt AC.any row ((0 : Nat) + Int.toNat i * (1 : Nat)))) ∧ in64 (i + (1 : Int)) ∧ KR X (33 : Nat) (0 : Nat) Q (kOf Try.f33 (0 : Nat)) (mkS (25 : Nat) [((1 : Nat), AV.one (AC.xs row (0 : Nat) n)), ((5 : Nat), AV.one (AC.u32 (asU32 (gt AC.any row ((0 : Nat) + Int.toNat i * (1 : Nat)))))), ((6 : Nat), AV.one (AC.i64 (i + (1 : Int))))]) []) ∧ (bfr a (asU32 (gt AC.any row ((0 : Nat) + Int.toNat i * (1 : Nat)))) = false → in64 (i + (1 : Int)) ∧ KR X (33 : Nat) (0 : Nat) Q (kOf Try.f33 (0 : Nat)) (mkS (25 : Nat) [((1 : Nat), AV.one (AC.xs row (0 : Nat) n)), ((5 : Nat), AV.one (AC.u32 a)), ((6 : Nat), AV.one (AC.i64 (i + (1 : Int))))]) [])) ∧ (decide (i < (↑n : Int)) = false → Q (AV.one (AC.u32 a)) [])) = wpRun (env01 U3) [11, 19] [] false (RS.mk Try.f33.results.toList 0 (CS.mk [] [])) (LK X 33 0 Q true [(3, LS.mk [1, 5, 6] (CS.mk [] []))]) Q 2000 (kOf Try.f33 0) (mkS 25 [(1, .one (.xs row 0 n)), (5, .one (.u32 a)), (6, .one (.i64 i))]) [] by kernel_rfl) h)
end DH
