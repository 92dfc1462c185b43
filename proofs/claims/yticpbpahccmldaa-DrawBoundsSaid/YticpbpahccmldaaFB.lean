/- Walks of functions, each by evaluation: what each returns; with the layer beneath. -/
import Derived.Test.YticpbpahccmldaaTr4
import Derived.Test.YticpbpahccmldaaLC
import Derived.Test.YticpbpahccmldaaFA
set_option linter.unusedVariables false
set_option linter.unusedSimpArgs false
noncomputable section
namespace DH
open Go Go.Proofs

theorem ok3 : FnOk Try.prog 3 Try.f3 (bodyOf Try.f3) := .of Try.func3 (by kernel_rfl) (by kernel_rfl)
theorem ok4 : FnOk Try.prog 4 Try.f4 (bodyOf Try.f4) := .of Try.func4 (by kernel_rfl) (by kernel_rfl)
theorem ok5 : FnOk Try.prog 5 Try.f5 (bodyOf Try.f5) := .of Try.func5 (by kernel_rfl) (by kernel_rfl)
theorem ok6 : FnOk Try.prog 6 Try.f6 (bodyOf Try.f6) := .of Try.func6 (by kernel_rfl) (by kernel_rfl)
theorem ok7 : FnOk Try.prog 7 Try.f7 (bodyOf Try.f7) := .of Try.func7 (by kernel_rfl) (by kernel_rfl)
theorem ok8 : FnOk Try.prog 8 Try.f8 (bodyOf Try.f8) := .of Try.func8 (by kernel_rfl) (by kernel_rfl)
theorem ok9 : FnOk Try.prog 9 Try.f9 (bodyOf Try.f9) := .of Try.func9 (by kernel_rfl) (by kernel_rfl)
theorem ok10 : FnOk Try.prog 10 Try.f10 (bodyOf Try.f10) := .of Try.func10 (by kernel_rfl) (by kernel_rfl)
theorem ok11 : FnOk Try.prog 11 Try.f11 (bodyOf Try.f11) := .of Try.func11 (by kernel_rfl) (by kernel_rfl)
theorem ok12 : FnOk Try.prog 12 Try.f12 (bodyOf Try.f12) := .of Try.func12 (by kernel_rfl) (by kernel_rfl)
theorem ok13 : FnOk Try.prog 13 Try.f13 (bodyOf Try.f13) := .of Try.func13 (by kernel_rfl) (by kernel_rfl)
theorem ok14 : FnOk Try.prog 14 Try.f14 (bodyOf Try.f14) := .of Try.func14 (by kernel_rfl) (by kernel_rfl)
theorem ok15 : FnOk Try.prog 15 Try.f15 (bodyOf Try.f15) := .of Try.func15 (by kernel_rfl) (by kernel_rfl)
theorem ok16 : FnOk Try.prog 16 Try.f16 (bodyOf Try.f16) := .of Try.func16 (by kernel_rfl) (by kernel_rfl)
theorem ok17 : FnOk Try.prog 17 Try.f17 (bodyOf Try.f17) := .of Try.func17 (by kernel_rfl) (by kernel_rfl)
theorem ok18 : FnOk Try.prog 18 Try.f18 (bodyOf Try.f18) := .of Try.func18 (by kernel_rfl) (by kernel_rfl)
theorem ok19 : FnOk Try.prog 19 Try.f19 (bodyOf Try.f19) := .of Try.func19 (by kernel_rfl) (by kernel_rfl)
theorem ok20 : FnOk Try.prog 20 Try.f20 (bodyOf Try.f20) := .of Try.func20 (by kernel_rfl) (by kernel_rfl)
theorem ok21 : FnOk Try.prog 21 Try.f21 (bodyOf Try.f21) := .of Try.func21 (by kernel_rfl) (by kernel_rfl)
theorem ok22 : FnOk Try.prog 22 Try.f22 (bodyOf Try.f22) := .of Try.func22 (by kernel_rfl) (by kernel_rfl)
theorem ok23 : FnOk Try.prog 23 Try.f23 (bodyOf Try.f23) := .of Try.func23 (by kernel_rfl) (by kernel_rfl)
theorem ok24 : FnOk Try.prog 24 Try.f24 (bodyOf Try.f24) := .of Try.func24 (by kernel_rfl) (by kernel_rfl)
theorem ok25 : FnOk Try.prog 25 Try.f25 (bodyOf Try.f25) := .of Try.func25 (by kernel_rfl) (by kernel_rfl)
theorem ok26 : FnOk Try.prog 26 Try.f26 (bodyOf Try.f26) := .of Try.func26 (by kernel_rfl) (by kernel_rfl)
theorem ok27 : FnOk Try.prog 27 Try.f27 (bodyOf Try.f27) := .of Try.func27 (by kernel_rfl) (by kernel_rfl)
theorem ok29 : FnOk Try.prog 29 Try.f29 (bodyOf Try.f29) := .of Try.func29 (by kernel_rfl) (by kernel_rfl)
theorem ok30 : FnOk Try.prog 30 Try.f30 (bodyOf Try.f30) := .of Try.func30 (by kernel_rfl) (by kernel_rfl)
theorem ok31 : FnOk Try.prog 31 Try.f31 (bodyOf Try.f31) := .of Try.func31 (by kernel_rfl) (by kernel_rfl)
theorem ok32 : FnOk Try.prog 32 Try.f32 (bodyOf Try.f32) := .of Try.func32 (by kernel_rfl) (by kernel_rfl)
theorem ok33 : FnOk Try.prog 33 Try.f33 (bodyOf Try.f33) := .of Try.func33 (by kernel_rfl) (by kernel_rfl)
theorem ok34 : FnOk Try.prog 34 Try.f34 (bodyOf Try.f34) := .of Try.func34 (by kernel_rfl) (by kernel_rfl)
theorem ok38 : FnOk Try.prog 38 Try.f38 (bodyOf Try.f38) := .of Try.func38 (by kernel_rfl) (by kernel_rfl)
theorem ok39 : FnOk Try.prog 39 Try.f39 (bodyOf Try.f39) := .of Try.func39 (by kernel_rfl) (by kernel_rfl)
theorem ok40 : FnOk Try.prog 40 Try.f40 (bodyOf Try.f40) := .of Try.func40 (by kernel_rfl) (by kernel_rfl)
def extF : FuncId → Option Nat := fun f => match f with
  | 28 => some 0
  | 35 => some 1
  | 36 => some 2
  | _ => none
theorem ext28 : ExtOk Try.prog 28 0 := ⟨Try.f28, Try.func28, by kernel_rfl, by kernel_rfl, by kernel_rfl, by kernel_rfl⟩
theorem ext35 : ExtOk Try.prog 35 1 := ⟨Try.f35, Try.func35, by kernel_rfl, by kernel_rfl, by kernel_rfl, by kernel_rfl⟩
theorem ext36 : ExtOk Try.prog 36 2 := ⟨Try.f36, Try.func36, by kernel_rfl, by kernel_rfl, by kernel_rfl, by kernel_rfl⟩
theorem extF_ok : ∀ f k, extF f = some k → ExtOk Try.prog f k := by
  intro f k h
  unfold extF at h
  split at h
  · injection h with h; subst h; exact ext28
  · injection h with h; subst h; exact ext35
  · injection h with h; subst h; exact ext36
  · cases h
def symF (_ : TypeId) : Bool := false
noncomputable def baseF (T : Tab) (mf : FuncId → Option MF) (M : TabM) : Env := ⟨tys, symF, false, T, [], mf, M, extF⟩
theorem baseF_ok (T : Tab) (mf : FuncId → Option MF) (M : TabM) : EnvOk Try.prog (baseF T mf M) := EnvOk.of tysOk
theorem baseF_call {T : Tab} {mf : FuncId → Option MF} {M : TabM} (hT : TabOk Try.prog T) (hM : TabMOk Try.prog M) : CallOk Try.prog (baseF T mf M) :=
  ⟨hT, fun f mf xs m0 cs r m1 _ h hc => hM f xs m0 cs r m1 h hc, extF_ok⟩
noncomputable def T0 : Tab := fun _ _ => none
theorem T0_ok : TabOk Try.prog T0 := fun f xs cs r h => by cases h
noncomputable def M0 : TabM := fun _ _ _ => none
theorem M0_ok : TabMOk Try.prog M0 := fun f xs m cs r m1 h => by cases h
noncomputable def mf0 : FuncId → Option MF := fun _ => none
set_option maxRecDepth 100000 in
theorem vc27 {X : Ctx} {Q : AV → Mem → Prop} (hX : X.P = Try.prog) (x : Nat) (h : Q (AV.one (AC.b (fOrd x x != some Ordering.eq))) []) : KRun X 27 0 Q ([.code (bodyOf Try.f27)]) (slots [.one (.f x)] Try.f27.ntmps) [] :=
  wpRun_ok (hX ▸ baseF_ok T0 mf0 M0) (hX ▸ baseF_call T0_ok M0_ok) (hX ▸ mixed) (hX ▸ ok27) LK_ok (cast (β := wpRun (baseF T0 mf0 M0) [] [] false (RS.mk Try.f27.results.toList 0 (CS.mk [] [] [] [])) (LK X 27 0 Q true []) Q 2000 ([.code (bodyOf Try.f27)]) (slots [.one (.f x)] Try.f27.ntmps) []) (by kernel_rfl) h)
set_option maxRecDepth 100000 in
theorem vc38 {X : Ctx} {Q : AV → Mem → Prop} (hX : X.P = Try.prog) (x : Nat) (h : x < 18446744073709551616 ∧ Q (AV.one (AC.b (decide (BitVec.toInt (BitVec.ofNat 64 x) < (0 : Int))))) []) : KRun X 38 0 Q ([.code (bodyOf Try.f38)]) (slots [.one (.f x)] Try.f38.ntmps) [] :=
  wpRun_ok (hX ▸ baseF_ok T0 mf0 M0) (hX ▸ baseF_call T0_ok M0_ok) (hX ▸ mixed) (hX ▸ ok38) LK_ok (cast (β := wpRun (baseF T0 mf0 M0) [] [] false (RS.mk Try.f38.results.toList 0 (CS.mk [] [] [] [])) (LK X 38 0 Q true []) Q 2000 ([.code (bodyOf Try.f38)]) (slots [.one (.f x)] Try.f38.ntmps) []) (by kernel_rfl) h)
set_option maxRecDepth 100000 in
theorem vc29 {X : Ctx} {Q : AV → Mem → Prop} (hX : X.P = Try.prog) (x y : Nat) (h : Q (AV.one (AC.f (minF x y))) []) : KRun X 29 0 Q ([.code (bodyOf Try.f29)]) (slots [.one (.f x), .one (.f y)] Try.f29.ntmps) [] :=
  wpRun_ok (hX ▸ baseF_ok T0 mf0 M0) (hX ▸ baseF_call T0_ok M0_ok) (hX ▸ mixed) (hX ▸ ok29) LK_ok (cast (β := wpRun (baseF T0 mf0 M0) [] [] false (RS.mk Try.f29.results.toList 0 (CS.mk [] [] [] [])) (LK X 29 0 Q true []) Q 2000 ([.code (bodyOf Try.f29)]) (slots [.one (.f x), .one (.f y)] Try.f29.ntmps) []) (by kernel_rfl) h)
set_option maxRecDepth 100000 in
theorem vc12 {X : Ctx} {Q : AV → Mem → Prop} (hX : X.P = Try.prog) (x : Nat) (h : ((fOrd x x != some Ordering.eq) = true → Q (AV.one (AC.u64 (BitVec.ofInt 64 (9221120237041090561 : Int)))) []) ∧ ((fOrd x x != some Ordering.eq) = false → x < 18446744073709551616 ∧ Q (AV.one (AC.u64 (BitVec.ofNat 64 x))) [])) : KRun X 12 0 Q ([.code (bodyOf Try.f12)]) (slots [.one (.f x)] Try.f12.ntmps) [] :=
  wpRun_ok (hX ▸ baseF_ok T0 mf0 M0) (hX ▸ baseF_call T0_ok M0_ok) (hX ▸ mixed) (hX ▸ ok12) LK_ok (cast (β := wpRun (baseF T0 mf0 M0) [5] [] false (RS.mk Try.f12.results.toList 0 (CS.mk [] [] [] [])) (LK X 12 0 Q true []) Q 2000 ([.code (bodyOf Try.f12)]) (slots [.one (.f x)] Try.f12.ntmps) []) (by kernel_rfl) h)
set_option maxRecDepth 100000 in
theorem vc13 {X : Ctx} {Q : AV → Mem → Prop} (hX : X.P = Try.prog) (x : Nat) (h : ((fOrd x 4607182418800017408 == some Ordering.gt || fOrd x 4607182418800017408 == some Ordering.eq) = true → Q (AV.one (AC.f 4607182418800017408)) []) ∧ ((fOrd x 4607182418800017408 == some Ordering.gt || fOrd x 4607182418800017408 == some Ordering.eq) = false → ((fOrd x 0 == some Ordering.gt) = true → Q (AV.one (AC.f x)) []) ∧ ((fOrd x 0 == some Ordering.gt) = false → Q (AV.one (AC.f 0)) []))) : KRun X 13 0 Q ([.code (bodyOf Try.f13)]) (slots [.one (.f x)] Try.f13.ntmps) [] :=
  wpRun_ok (hX ▸ baseF_ok T0 mf0 M0) (hX ▸ baseF_call T0_ok M0_ok) (hX ▸ mixed) (hX ▸ ok13) LK_ok (cast (β := wpRun (baseF T0 mf0 M0) [5, 8] [] false (RS.mk Try.f13.results.toList 0 (CS.mk [] [] [] [])) (LK X 13 0 Q true []) Q 2000 ([.code (bodyOf Try.f13)]) (slots [.one (.f x)] Try.f13.ntmps) []) (by kernel_rfl) h)
set_option maxRecDepth 100000 in
theorem vc15 {X : Ctx} {Q : AV → Mem → Prop} (hX : X.P = Try.prog) (x : Nat) (h : ((fOrd x 4607182418800017408 == some Ordering.gt || fOrd x 4607182418800017408 == some Ordering.eq) = true → Q (AV.one (AC.f 4607182418800017407)) []) ∧ ((fOrd x 4607182418800017408 == some Ordering.gt || fOrd x 4607182418800017408 == some Ordering.eq) = false → ((fOrd x 0 == some Ordering.gt) = true → Q (AV.one (AC.f x)) []) ∧ ((fOrd x 0 == some Ordering.gt) = false → Q (AV.one (AC.f 0)) []))) : KRun X 15 0 Q ([.code (bodyOf Try.f15)]) (slots [.one (.f x)] Try.f15.ntmps) [] :=
  wpRun_ok (hX ▸ baseF_ok T0 mf0 M0) (hX ▸ baseF_call T0_ok M0_ok) (hX ▸ mixed) (hX ▸ ok15) LK_ok (cast (β := wpRun (baseF T0 mf0 M0) [5, 8] [] false (RS.mk Try.f15.results.toList 0 (CS.mk [] [] [] [])) (LK X 15 0 Q true []) Q 2000 ([.code (bodyOf Try.f15)]) (slots [.one (.f x)] Try.f15.ntmps) []) (by kernel_rfl) h)
set_option maxRecDepth 100000 in
theorem vc31 {X : Ctx} {Q : AV → Mem → Prop} (hX : X.P = Try.prog)  (h : Q (AV.one (AC.f 9221120237041090561)) []) : KRun X 31 0 Q ([.code (bodyOf Try.f31)]) (slots [] Try.f31.ntmps) [] :=
  wpRun_ok (hX ▸ baseF_ok T0 mf0 M0) (hX ▸ baseF_call T0_ok M0_ok) (hX ▸ mixed) (hX ▸ ok31) LK_ok (cast (β := wpRun (baseF T0 mf0 M0) [] [] false (RS.mk Try.f31.results.toList 0 (CS.mk [] [] [] [])) (LK X 31 0 Q true []) Q 2000 ([.code (bodyOf Try.f31)]) (slots [] Try.f31.ntmps) []) (by kernel_rfl) h)
set_option maxRecDepth 100000 in
theorem vc32 {X : Ctx} {Q : AV → Mem → Prop} (hX : X.P = Try.prog) (x y : Nat) (h : x < 18446744073709551616 ∧ y < 18446744073709551616 ∧ Q (AV.one (AC.f (BitVec.toNat (BitVec.ofNat 64 x &&& ~~~BitVec.ofInt 64 (9223372036854775808 : Int) ||| BitVec.ofNat 64 y &&& BitVec.ofInt 64 (9223372036854775808 : Int))))) []) : KRun X 32 0 Q ([.code (bodyOf Try.f32)]) (slots [.one (.f x), .one (.f y)] Try.f32.ntmps) [] :=
  wpRun_ok (hX ▸ baseF_ok T0 mf0 M0) (hX ▸ baseF_call T0_ok M0_ok) (hX ▸ mixed) (hX ▸ ok32) LK_ok (cast (β := wpRun (baseF T0 mf0 M0) [] [] false (RS.mk Try.f32.results.toList 0 (CS.mk [] [] [] [])) (LK X 32 0 Q true []) Q 2000 ([.code (bodyOf Try.f32)]) (slots [.one (.f x), .one (.f y)] Try.f32.ntmps) []) (by kernel_rfl) h)
theorem s27 (x : Nat) : Spec Try.prog 27 [.one (.f x)] [] (Is (.one (.b (nanX x)))) := by
  refine Spec.of_run ok27 fun X hX => vc27 hX _ ?_
  rw [fnan_eq]
  exact rfl
theorem s38 (x : Nat) (h : x < 18446744073709551616) : Spec Try.prog 38 [.one (.f x)] [] (Is (.one (.b (decide (9223372036854775808 ≤ x))))) := by
  refine Spec.of_run ok38 fun X hX => vc38 hX _ ⟨h, ?_⟩
  rw [decide_eq_decide.2 (sgn_iff h)]
  exact rfl
theorem s29 (x y : Nat) : Spec Try.prog 29 [.one (.f x), .one (.f y)] [] (Is (.one (.f (minF x y)))) := by
  refine Spec.of_run ok29 fun X hX => vc29 hX _ _ ?_
  exact rfl
theorem s12 (x : Nat) (h : x < 18446744073709551616) : Spec Try.prog 12 [.one (.f x)] [] (Is (.one (.u64 (bitF x)))) := by
  refine Spec.of_run ok12 fun X hX => vc12 hX _ ?_
  rw [fnan_eq]
  refine ⟨fun g => ?_, fun g => ⟨h, ?_⟩⟩
  · rw [show bitF x = BitVec.ofInt 64 9221120237041090561 from if_pos g]; exact rfl
  · rw [show bitF x = BitVec.ofNat 64 x from if_neg (by rw [g]; exact Bool.false_ne_true)]; exact rfl
theorem s13 (x : Nat) (h : x < 18446744073709551616) : Spec Try.prog 13 [.one (.f x)] [] (Is (.one (.f (chF x)))) := by
  refine Spec.of_run ok13 fun X hX => vc13 hX _ ?_
  rw [fge_any h (by omega) (by omega), fgt_any h (by omega)]
  refine ⟨fun g => ?_, fun g => ⟨fun g2 => ?_, fun g2 => ?_⟩⟩
  · have g := of_decide_eq_true g
    rw [show chF x = 4607182418800017408 by unfold chF; rw [if_pos g.1]; omega]; exact rfl
  · have g := of_decide_eq_false g
    have g2 := of_decide_eq_true g2
    rw [show chF x = x by unfold chF; rw [if_pos g2.1]; omega]; exact rfl
  · have g2 := of_decide_eq_false g2
    rw [show chF x = 0 by unfold chF; split <;> omega]; exact rfl
theorem s15 (x : Nat) (h : x < 18446744073709551616) : Spec Try.prog 15 [.one (.f x)] [] (Is (.one (.f (drF x)))) := by
  refine Spec.of_run ok15 fun X hX => vc15 hX _ ?_
  rw [fge_any h (by omega) (by omega), fgt_any h (by omega)]
  refine ⟨fun g => ?_, fun g => ⟨fun g2 => ?_, fun g2 => ?_⟩⟩
  · have g := of_decide_eq_true g
    rw [show drF x = 4607182418800017407 by unfold drF; rw [if_pos g.1]; omega]; exact rfl
  · have g := of_decide_eq_false g
    have g2 := of_decide_eq_true g2
    rw [show drF x = x by unfold drF; rw [if_pos g2.1]; omega]; exact rfl
  · have g2 := of_decide_eq_false g2
    rw [show drF x = 0 by unfold drF; split <;> omega]; exact rfl
noncomputable def T1 : Tab := fun f xs => match f, xs with
  | 27, [.one (.f x)] => some ([], .one (.b (nanX x)))
  | 38, [.one (.f x)] => some ([x < 18446744073709551616], .one (.b (decide (9223372036854775808 ≤ x))))
  | 29, [.one (.f x), .one (.f y)] => some ([], .one (.f (minF x y)))
  | 12, [.one (.f x)] => some ([x < 18446744073709551616], .one (.u64 (bitF x)))
  | 13, [.one (.f x)] => some ([x < 18446744073709551616], .one (.f (chF x)))
  | 15, [.one (.f x)] => some ([x < 18446744073709551616], .one (.f (drF x)))
  | f, xs => T0 f xs
theorem T1_ok : TabOk Try.prog T1 := by
  intro f xs cs r h hc
  unfold T1 at h
  split at h
  · obtain ⟨rfl, rfl⟩ := Prod.mk.inj (Option.some.inj h)
    exact ⟨⟨_, _, ok27⟩, s27 _, rfl⟩
  · obtain ⟨rfl, rfl⟩ := Prod.mk.inj (Option.some.inj h)
    exact ⟨⟨_, _, ok38⟩, s38 _ hc.1, rfl⟩
  · obtain ⟨rfl, rfl⟩ := Prod.mk.inj (Option.some.inj h)
    exact ⟨⟨_, _, ok29⟩, s29 _ _, rfl⟩
  · obtain ⟨rfl, rfl⟩ := Prod.mk.inj (Option.some.inj h)
    exact ⟨⟨_, _, ok12⟩, s12 _ hc.1, rfl⟩
  · obtain ⟨rfl, rfl⟩ := Prod.mk.inj (Option.some.inj h)
    exact ⟨⟨_, _, ok13⟩, s13 _ hc.1, rfl⟩
  · obtain ⟨rfl, rfl⟩ := Prod.mk.inj (Option.some.inj h)
    exact ⟨⟨_, _, ok15⟩, s15 _ hc.1, rfl⟩
  · exact T0_ok _ _ _ _ h hc
set_option maxRecDepth 100000 in
theorem vc30 {X : Ctx} {Q : AV → Mem → Prop} (hX : X.P = Try.prog) (x : Nat) (h : (nanX x = true → Q (AV.one (AC.f 0)) []) ∧ (nanX x = false → x < 18446744073709551616 ∧ (decide (9223372036854775808 ≤ x) = true → Q (AV.one (AC.f 0)) []) ∧ (decide (9223372036854775808 ≤ x) = false → Q (AV.one (AC.f x)) []))) : KRun X 30 0 Q ([.code (bodyOf Try.f30)]) (slots [.one (.f x)] Try.f30.ntmps) [] :=
  wpRun_ok (hX ▸ baseF_ok T1 mf0 M0) (hX ▸ baseF_call T1_ok M0_ok) (hX ▸ mixed) (hX ▸ ok30) LK_ok (cast (β := wpRun (baseF T1 mf0 M0) [4, 7] [] false (RS.mk Try.f30.results.toList 0 (CS.mk [] [] [] [])) (LK X 30 0 Q true []) Q 2000 ([.code (bodyOf Try.f30)]) (slots [.one (.f x)] Try.f30.ntmps) []) (by kernel_rfl) h)
set_option maxRecDepth 100000 in
theorem vc34 {X : Ctx} {Q : AV → Mem → Prop} (hX : X.P = Try.prog) (x : Nat) (h : KR X 34 0 Q (kOf Try.f34 0) (mkS 25 [(0, AV.one (AC.f x)), (3, AV.one (AC.f 4607182418800017408)), (4, AV.one (AC.i64 (0 : Int)))]) []) : KRun X 34 0 Q ([.code (bodyOf Try.f34)]) (slots [.one (.f x)] Try.f34.ntmps) [] :=
  wpRun_ok (hX ▸ baseF_ok T1 mf0 M0) (hX ▸ baseF_call T1_ok M0_ok) (hX ▸ mixed) (hX ▸ ok34) LK_ok (cast (β := wpRun (baseF T1 mf0 M0) [6, 13, 18, 23] [] false (RS.mk Try.f34.results.toList 0 (CS.mk [] [] [0] [])) (LK X 34 0 Q true [(3, LS.mk [0, 3, 4] (CS.mk [] [] [] []))]) Q 2000 ([.code (bodyOf Try.f34)]) (slots [.one (.f x)] Try.f34.ntmps) []) (by kernel_rfl) h)
set_option maxRecDepth 100000 in
theorem vc10 {X : Ctx} {Q : AV → Mem → Prop} (hX : X.P = Try.prog) (x : Nat) (h : (nanX x = true → Q (AV.one (AC.u64 (BitVec.ofInt 64 (9221120237041090561 : Int)))) []) ∧ (nanX x = false → x < 18446744073709551616 ∧ Q (AV.one (AC.u64 (BitVec.ofNat 64 x))) [])) : KRun X 10 0 Q ([.code (bodyOf Try.f10)]) (slots [.one (.f x)] Try.f10.ntmps) [] :=
  wpRun_ok (hX ▸ baseF_ok T1 mf0 M0) (hX ▸ baseF_call T1_ok M0_ok) (hX ▸ mixed) (hX ▸ ok10) LK_ok (cast (β := wpRun (baseF T1 mf0 M0) [4] [] false (RS.mk Try.f10.results.toList 0 (CS.mk [] [] [] [])) (LK X 10 0 Q true []) Q 2000 ([.code (bodyOf Try.f10)]) (slots [.one (.f x)] Try.f10.ntmps) []) (by kernel_rfl) h)
set_option maxRecDepth 100000 in
theorem vc24 {X : Ctx} {Q : AV → Mem → Prop} (hX : X.P = Try.prog) (x y : Nat) (h : y < 18446744073709551616 ∧ x < 18446744073709551616 ∧ Q (AV.one (AC.b (fOrd (drF y) (chF x) == some Ordering.lt))) []) : KRun X 24 0 Q ([.code (bodyOf Try.f24)]) (slots [.one (.f x), .one (.f y)] Try.f24.ntmps) [] :=
  wpRun_ok (hX ▸ baseF_ok T1 mf0 M0) (hX ▸ baseF_call T1_ok M0_ok) (hX ▸ mixed) (hX ▸ ok24) LK_ok (cast (β := wpRun (baseF T1 mf0 M0) [] [] false (RS.mk Try.f24.results.toList 0 (CS.mk [] [] [] [])) (LK X 24 0 Q true []) Q 2000 ([.code (bodyOf Try.f24)]) (slots [.one (.f x), .one (.f y)] Try.f24.ntmps) []) (by kernel_rfl) h)
set_option maxRecDepth 100000 in
theorem vc26 {X : Ctx} {Q : AV → Mem → Prop} (hX : X.P = Try.prog) (x y s : Nat) (h : s < 18446744073709551616 ∧ x < 18446744073709551616 ∧ ∀ (r : Nat), fRes BinOp.sub 4607182418800017408 (chF s) r → ∀ (r_1 : Nat), fRes BinOp.mul (chF x) r r_1 → y < 18446744073709551616 ∧ ∀ (r : Nat), fRes BinOp.mul (chF y) (chF s) r → ∀ (r_2 : Nat), fRes BinOp.add r_1 r r_2 → Q (AV.one (AC.f r_2)) []) : KRun X 26 0 Q ([.code (bodyOf Try.f26)]) (slots [.one (.f x), .one (.f y), .one (.f s)] Try.f26.ntmps) [] :=
  wpRun_ok (hX ▸ baseF_ok T1 mf0 M0) (hX ▸ baseF_call T1_ok M0_ok) (hX ▸ mixed) (hX ▸ ok26) LK_ok (cast (β := wpRun (baseF T1 mf0 M0) [] [] false (RS.mk Try.f26.results.toList 0 (CS.mk [] [] [] [])) (LK X 26 0 Q true []) Q 2000 ([.code (bodyOf Try.f26)]) (slots [.one (.f x), .one (.f y), .one (.f s)] Try.f26.ntmps) []) (by kernel_rfl) h)
end DH

noncomputable section
namespace DH
open Go Go.Proofs
theorem s30 (x : Nat) (h : x < 18446744073709551616) : Spec Try.prog 30 [.one (.f x)] [] (Is (.one (.f (psF x)))) := by
  refine Spec.of_run ok30 fun X hX => vc30 hX _ ⟨fun g => ?_, fun g => ⟨h, fun g2 => ?_, fun g2 => ?_⟩⟩
  · rw [show psF x = 0 from if_neg (fun g' => by rw [nan_pos g'] at g; cases g)]; exact rfl
  · have g2 := of_decide_eq_true g2
    rw [show psF x = 0 from if_neg (by omega)]; exact rfl
  · have g2 := of_decide_eq_false g2
    have : x ≤ 9218868437227405312 := by
      rcases kinds h with k | ⟨k, _⟩ | ⟨k, _⟩
      · exact k
      · rw [k] at g; cases g
      · exact absurd k g2
    rw [show psF x = x from if_pos this]; exact rfl
theorem s10 (x : Nat) (h : x < 18446744073709551616) : Spec Try.prog 10 [.one (.f x)] [] (Is (.one (.u64 (bitF x)))) := by
  refine Spec.of_run ok10 fun X hX => vc10 hX _ ⟨fun g => ?_, fun g => ⟨h, ?_⟩⟩
  · rw [show bitF x = BitVec.ofInt 64 9221120237041090561 from if_pos g]; exact rfl
  · rw [show bitF x = BitVec.ofNat 64 x from if_neg (by rw [g]; exact Bool.false_ne_true)]; exact rfl
theorem s24 (x y : Nat) (hx : x < 18446744073709551616) (hy : y < 18446744073709551616) : Spec Try.prog 24 [.one (.f x), .one (.f y)] [] (Is (.one (.b (decide (drF y < chF x))))) := by
  refine Spec.of_run ok24 fun X hX => vc24 hX _ _ ⟨hy, hx, ?_⟩
  rw [flt_pos (by have := drF_le y; omega) (by have := chF_le x; omega)]
  exact rfl
noncomputable def T2 : Tab := fun f xs => match f, xs with
  | 30, [.one (.f x)] => some ([x < 18446744073709551616], .one (.f (psF x)))
  | 10, [.one (.f x)] => some ([x < 18446744073709551616], .one (.u64 (bitF x)))
  | 24, [.one (.f x), .one (.f y)] => some ([x < 18446744073709551616 ∧ y < 18446744073709551616], .one (.b (decide (drF y < chF x))))
  | f, xs => T1 f xs
theorem T2_ok : TabOk Try.prog T2 := by
  intro f xs cs r h hc
  unfold T2 at h
  split at h
  · obtain ⟨rfl, rfl⟩ := Prod.mk.inj (Option.some.inj h)
    exact ⟨⟨_, _, ok30⟩, s30 _ hc.1, rfl⟩
  · obtain ⟨rfl, rfl⟩ := Prod.mk.inj (Option.some.inj h)
    exact ⟨⟨_, _, ok10⟩, s10 _ hc.1, rfl⟩
  · obtain ⟨rfl, rfl⟩ := Prod.mk.inj (Option.some.inj h)
    exact ⟨⟨_, _, ok24⟩, s24 _ _ hc.1.1 hc.1.2, rfl⟩
  · exact T1_ok _ _ _ _ h hc
set_option maxRecDepth 100000 in
theorem vc11 {X : Ctx} {Q : AV → Mem → Prop} (hX : X.P = Try.prog) (x : Nat) (h : x < 18446744073709551616 ∧ Q (AV.one (AC.f (minF (psF x) 4607182418800017408))) []) : KRun X 11 0 Q ([.code (bodyOf Try.f11)]) (slots [.one (.f x)] Try.f11.ntmps) [] :=
  wpRun_ok (hX ▸ baseF_ok T2 mf0 M0) (hX ▸ baseF_call T2_ok M0_ok) (hX ▸ mixed) (hX ▸ ok11) LK_ok (cast (β := wpRun (baseF T2 mf0 M0) [] [] false (RS.mk Try.f11.results.toList 0 (CS.mk [] [] [] [])) (LK X 11 0 Q true []) Q 2000 ([.code (bodyOf Try.f11)]) (slots [.one (.f x)] Try.f11.ntmps) []) (by kernel_rfl) h)
set_option maxRecDepth 100000 in
theorem vc14 {X : Ctx} {Q : AV → Mem → Prop} (hX : X.P = Try.prog) (x : Nat) (h : x < 18446744073709551616 ∧ Q (AV.one (AC.f (minF (psF x) 4607182418800017407))) []) : KRun X 14 0 Q ([.code (bodyOf Try.f14)]) (slots [.one (.f x)] Try.f14.ntmps) [] :=
  wpRun_ok (hX ▸ baseF_ok T2 mf0 M0) (hX ▸ baseF_call T2_ok M0_ok) (hX ▸ mixed) (hX ▸ ok14) LK_ok (cast (β := wpRun (baseF T2 mf0 M0) [] [] false (RS.mk Try.f14.results.toList 0 (CS.mk [] [] [] [])) (LK X 14 0 Q true []) Q 2000 ([.code (bodyOf Try.f14)]) (slots [.one (.f x)] Try.f14.ntmps) []) (by kernel_rfl) h)
set_option maxRecDepth 100000 in
theorem vc16 {X : Ctx} {Q : AV → Mem → Prop} (hX : X.P = Try.prog) (x y : Nat) (h : x < 18446744073709551616 ∧ y < 18446744073709551616 ∧ Q (AV.one (AC.b (decide (bitF x = bitF y)))) []) : KRun X 16 0 Q ([.code (bodyOf Try.f16)]) (slots [.one (.f x), .one (.f y)] Try.f16.ntmps) [] :=
  wpRun_ok (hX ▸ baseF_ok T2 mf0 M0) (hX ▸ baseF_call T2_ok M0_ok) (hX ▸ mixed) (hX ▸ ok16) LK_ok (cast (β := wpRun (baseF T2 mf0 M0) [] [] false (RS.mk Try.f16.results.toList 0 (CS.mk [] [] [] [])) (LK X 16 0 Q true []) Q 2000 ([.code (bodyOf Try.f16)]) (slots [.one (.f x), .one (.f y)] Try.f16.ntmps) []) (by kernel_rfl) h)
theorem s11 (x : Nat) (h : x < 18446744073709551616) : Spec Try.prog 11 [.one (.f x)] [] (Is (.one (.f (chF x)))) := by
  refine Spec.of_run ok11 fun X hX => vc11 hX _ ⟨h, ?_⟩
  rw [ch_min]
  exact rfl
theorem s14 (x : Nat) (h : x < 18446744073709551616) : Spec Try.prog 14 [.one (.f x)] [] (Is (.one (.f (drF x)))) := by
  refine Spec.of_run ok14 fun X hX => vc14 hX _ ⟨h, ?_⟩
  rw [dr_min]
  exact rfl
theorem s16 (x y : Nat) (hx : x < 18446744073709551616) (hy : y < 18446744073709551616) : Spec Try.prog 16 [.one (.f x), .one (.f y)] [] (Is (.one (.b (decide (bitF x = bitF y))))) := by
  refine Spec.of_run ok16 fun X hX => vc16 hX _ _ ⟨hx, hy, ?_⟩
  exact rfl
noncomputable def T3 : Tab := fun f xs => match f, xs with
  | 11, [.one (.f x)] => some ([x < 18446744073709551616], .one (.f (chF x)))
  | 14, [.one (.f x)] => some ([x < 18446744073709551616], .one (.f (drF x)))
  | 16, [.one (.f x), .one (.f y)] => some ([x < 18446744073709551616 ∧ y < 18446744073709551616], .one (.b (decide (bitF x = bitF y))))
  | f, xs => T2 f xs
theorem T3_ok : TabOk Try.prog T3 := by
  intro f xs cs r h hc
  unfold T3 at h
  split at h
  · obtain ⟨rfl, rfl⟩ := Prod.mk.inj (Option.some.inj h)
    exact ⟨⟨_, _, ok11⟩, s11 _ hc.1, rfl⟩
  · obtain ⟨rfl, rfl⟩ := Prod.mk.inj (Option.some.inj h)
    exact ⟨⟨_, _, ok14⟩, s14 _ hc.1, rfl⟩
  · obtain ⟨rfl, rfl⟩ := Prod.mk.inj (Option.some.inj h)
    exact ⟨⟨_, _, ok16⟩, s16 _ _ hc.1.1 hc.1.2, rfl⟩
  · exact T2_ok _ _ _ _ h hc
set_option maxRecDepth 100000 in
theorem vc22 {X : Ctx} {Q : AV → Mem → Prop} (hX : X.P = Try.prog) (x y : Nat) (h : y < 18446744073709551616 ∧ x < 18446744073709551616 ∧ Q (AV.one (AC.b (fOrd (drF y) (chF x) == some Ordering.lt))) []) : KRun X 22 0 Q ([.code (bodyOf Try.f22)]) (slots [.one (.f x), .one (.f y)] Try.f22.ntmps) [] :=
  wpRun_ok (hX ▸ baseF_ok T3 mf0 M0) (hX ▸ baseF_call T3_ok M0_ok) (hX ▸ mixed) (hX ▸ ok22) LK_ok (cast (β := wpRun (baseF T3 mf0 M0) [] [] false (RS.mk Try.f22.results.toList 0 (CS.mk [] [] [] [])) (LK X 22 0 Q true []) Q 2000 ([.code (bodyOf Try.f22)]) (slots [.one (.f x), .one (.f y)] Try.f22.ntmps) []) (by kernel_rfl) h)
set_option maxRecDepth 100000 in
theorem vc25 {X : Ctx} {Q : AV → Mem → Prop} (hX : X.P = Try.prog) (x y s : Nat) (h : s < 18446744073709551616 ∧ x < 18446744073709551616 ∧ ∀ (r : Nat), fRes BinOp.sub 4607182418800017408 (chF s) r → ∀ (r_1 : Nat), fRes BinOp.mul (chF x) r r_1 → y < 18446744073709551616 ∧ ∀ (r : Nat), fRes BinOp.mul (chF y) (chF s) r → ∀ (r_2 : Nat), fRes BinOp.add r_1 r r_2 → Q (AV.one (AC.f r_2)) []) : KRun X 25 0 Q ([.code (bodyOf Try.f25)]) (slots [.one (.f x), .one (.f y), .one (.f s)] Try.f25.ntmps) [] :=
  wpRun_ok (hX ▸ baseF_ok T3 mf0 M0) (hX ▸ baseF_call T3_ok M0_ok) (hX ▸ mixed) (hX ▸ ok25) LK_ok (cast (β := wpRun (baseF T3 mf0 M0) [] [] false (RS.mk Try.f25.results.toList 0 (CS.mk [] [] [] [])) (LK X 25 0 Q true []) Q 2000 ([.code (bodyOf Try.f25)]) (slots [.one (.f x), .one (.f y), .one (.f s)] Try.f25.ntmps) []) (by kernel_rfl) h)
set_option maxRecDepth 100000 in
theorem vc20 {X : Ctx} {Q : AV → Mem → Prop} (hX : X.P = Try.prog) (x : Nat) (n : Int) (d : Nat) (h : (decide (n < (1 : Int)) = true → Q (AV.one (AC.i64 (0 : Int))) []) ∧ (decide (n < (1 : Int)) = false → ((fOrd x 0 == some Ordering.gt) = true → ∀ (r : Nat), fRes BinOp.mul 4611686018427387904 x r → d < 18446744073709551616 ∧ ∀ (r_1 : Nat), fRes BinOp.mul (minF r (floatOfInt FloatKind.f64 n)) (drF d) r_1 → Option.isSome (floatToIntVal FloatKind.f64 r_1 IntKind.i64) = true ∧ in64 (Option.getD (floatToIntVal FloatKind.f64 r_1 IntKind.i64) (0 : Int) + (1 : Int)) ∧ Q (AV.one (AC.i64 (min (Option.getD (floatToIntVal FloatKind.f64 r_1 IntKind.i64) (0 : Int) + (1 : Int)) n))) []) ∧ ((fOrd x 0 == some Ordering.gt) = false → Q (AV.one (AC.i64 (0 : Int))) []))) : KRun X 20 0 Q ([.code (bodyOf Try.f20)]) (slots [.one (.f x), .one (.i64 n), .one (.f d)] Try.f20.ntmps) [] :=
  wpRun_ok (hX ▸ baseF_ok T3 mf0 M0) (hX ▸ baseF_call T3_ok M0_ok) (hX ▸ mixed) (hX ▸ ok20) LK_ok (cast (β := wpRun (baseF T3 mf0 M0) [9, 12] [] false (RS.mk Try.f20.results.toList 0 (CS.mk [] [] [] [])) (LK X 20 0 Q true []) Q 2000 ([.code (bodyOf Try.f20)]) (slots [.one (.f x), .one (.i64 n), .one (.f d)] Try.f20.ntmps) []) (by kernel_rfl) h)
set_option maxRecDepth 100000 in
theorem vc21 {X : Ctx} {Q : AV → Mem → Prop} (hX : X.P = Try.prog) (x : Nat) (n : Int) (d : Nat) (h : (decide (n < (1 : Int)) = true → Q (AV.one (AC.i64 (0 : Int))) []) ∧ (decide (n < (1 : Int)) = false → ((fOrd x 0 == some Ordering.gt) = true → ∀ (r : Nat), fRes BinOp.mul 4611686018427387904 x r → ((fOrd r (floatOfInt FloatKind.f64 n) == some Ordering.gt) = true → d < 18446744073709551616 ∧ ∀ (r : Nat), fRes BinOp.mul (floatOfInt FloatKind.f64 n) (drF d) r → Option.isSome (floatToIntVal FloatKind.f64 r IntKind.i64) = true ∧ in64 (Option.getD (floatToIntVal FloatKind.f64 r IntKind.i64) (0 : Int) + (1 : Int)) ∧ (decide (n < Option.getD (floatToIntVal FloatKind.f64 r IntKind.i64) (0 : Int) + (1 : Int)) = true → Q (AV.one (AC.i64 n)) []) ∧ (decide (n < Option.getD (floatToIntVal FloatKind.f64 r IntKind.i64) (0 : Int) + (1 : Int)) = false → Q (AV.one (AC.i64 (Option.getD (floatToIntVal FloatKind.f64 r IntKind.i64) (0 : Int) + (1 : Int)))) [])) ∧ ((fOrd r (floatOfInt FloatKind.f64 n) == some Ordering.gt) = false → d < 18446744073709551616 ∧ ∀ (r_1 : Nat), fRes BinOp.mul r (drF d) r_1 → Option.isSome (floatToIntVal FloatKind.f64 r_1 IntKind.i64) = true ∧ in64 (Option.getD (floatToIntVal FloatKind.f64 r_1 IntKind.i64) (0 : Int) + (1 : Int)) ∧ (decide (n < Option.getD (floatToIntVal FloatKind.f64 r_1 IntKind.i64) (0 : Int) + (1 : Int)) = true → Q (AV.one (AC.i64 n)) []) ∧ (decide (n < Option.getD (floatToIntVal FloatKind.f64 r_1 IntKind.i64) (0 : Int) + (1 : Int)) = false → Q (AV.one (AC.i64 (Option.getD (floatToIntVal FloatKind.f64 r_1 IntKind.i64) (0 : Int) + (1 : Int)))) []))) ∧ ((fOrd x 0 == some Ordering.gt) = false → Q (AV.one (AC.i64 (0 : Int))) []))) : KRun X 21 0 Q ([.code (bodyOf Try.f21)]) (slots [.one (.f x), .one (.i64 n), .one (.f d)] Try.f21.ntmps) [] :=
  wpRun_ok (hX ▸ baseF_ok T3 mf0 M0) (hX ▸ baseF_call T3_ok M0_ok) (hX ▸ mixed) (hX ▸ ok21) LK_ok (cast (β := wpRun (baseF T3 mf0 M0) [10, 13, 21, 32] [] false (RS.mk Try.f21.results.toList 0 (CS.mk [] [] [] [])) (LK X 21 0 Q true []) Q 2000 ([.code (bodyOf Try.f21)]) (slots [.one (.f x), .one (.i64 n), .one (.f d)] Try.f21.ntmps) []) (by kernel_rfl) h)
end DH

noncomputable section
namespace DH
open Go Go.Proofs
theorem s22 (x y : Nat) (hx : x < 18446744073709551616) (hy : y < 18446744073709551616) : Spec Try.prog 22 [.one (.f x), .one (.f y)] [] (Is (.one (.b (decide (drF y < chF x))))) := by
  refine Spec.of_run ok22 fun X hX => vc22 hX _ _ ⟨hy, hx, ?_⟩
  rw [flt_pos (by have := drF_le y; omega) (by have := chF_le x; omega)]
  exact rfl
set_option maxRecDepth 100000 in
theorem vc39 {X : Ctx} {Q : AV → Mem → Prop} (hX : X.P = Try.prog) (x : Nat) (h : (decide ((1 : Int) = (0 : Int)) = true → False) ∧ (decide ((1 : Int) = (0 : Int)) = false → (decide ((1 : Int) < (0 : Int)) = true → False) ∧ (decide ((1 : Int) < (0 : Int)) = false → Q (AV.one (AC.b (fOrd x 9218868437227405311 == some Ordering.gt))) []))) : KRun X 39 0 Q ([.code (bodyOf Try.f39)]) (slots [.one (.f x), .one (.i64 1)] Try.f39.ntmps) [] :=
  wpRun_ok (hX ▸ baseF_ok T3 mf0 M0) (hX ▸ baseF_call T3_ok M0_ok) (hX ▸ mixed) (hX ▸ ok39) LK_ok (cast (β := wpRun (baseF T3 mf0 M0) [6, 10] [] false (RS.mk Try.f39.results.toList 0 (CS.mk [] [] [] [])) (LK X 39 0 Q true []) Q 2000 ([.code (bodyOf Try.f39)]) (slots [.one (.f x), .one (.i64 1)] Try.f39.ntmps) []) (by kernel_rfl) h)
set_option maxRecDepth 100000 in
theorem vc23 {X : Ctx} {Q : AV → Mem → Prop} (hX : X.P = Try.prog)  (h : (decide ((0 : Int) ≤ (1 : Int)) = true → Q (AV.one (AC.f 9218868437227405312)) []) ∧ (decide ((0 : Int) ≤ (1 : Int)) = false → Q (AV.one (AC.f 18442240474082181120)) [])) : KRun X 23 0 Q ([.code (bodyOf Try.f23)]) (slots [.one (.i64 1)] Try.f23.ntmps) [] :=
  wpRun_ok (hX ▸ baseF_ok T3 mf0 M0) (hX ▸ baseF_call T3_ok M0_ok) (hX ▸ mixed) (hX ▸ ok23) LK_ok (cast (β := wpRun (baseF T3 mf0 M0) [5] [] false (RS.mk Try.f23.results.toList 0 (CS.mk [] [] [] [])) (LK X 23 0 Q true []) Q 2000 ([.code (bodyOf Try.f23)]) (slots [.one (.i64 1)] Try.f23.ntmps) []) (by kernel_rfl) h)
theorem great_step : (List.range 900).all (fun i => match fAr .mul (4607182418800017408 + i * 4503599627370496) 4611686018427387904 with | some r => Nat.beq r (4607182418800017408 + (i + 1) * 4503599627370496) | none => false) = true := by kernel_rfl
set_option maxRecDepth 100000 in
theorem vc34a {X : Ctx} {Q : AV → Mem → Prop} (hX : X.P = Try.prog) (x g : Nat) (i : Int) (h : (decide (i < (900 : Int)) = true → ∀ (r : Nat), fRes BinOp.mul g 4611686018427387904 r → in64 (i + (1 : Int)) ∧ KR X 34 0 Q (kOf Try.f34 0) (mkS 25 [(0, AV.one (AC.f x)), (3, AV.one (AC.f r)), (4, AV.one (AC.i64 (i + (1 : Int))))]) []) ∧ (decide (i < (900 : Int)) = false → ((fOrd x 0 == some Ordering.gt) = true → ∀ (r : Nat), fRes BinOp.mul x 4611686018427387904 r → ((fOrd r x == some Ordering.eq) = true → flatAV (AV.one (AC.f g)) ∧ Q (AV.one (AC.f g)) []) ∧ ((fOrd r x == some Ordering.eq) = false → ((fOrd x 0 == some Ordering.gt) = true → flatAV (AV.one (AC.f x)) ∧ Q (AV.one (AC.f x)) []) ∧ ((fOrd x 0 == some Ordering.gt) = false → flatAV (AV.one (AC.f 0)) ∧ Q (AV.one (AC.f 0)) []))) ∧ ((fOrd x 0 == some Ordering.gt) = false → ((fOrd x 0 == some Ordering.gt) = true → flatAV (AV.one (AC.f x)) ∧ Q (AV.one (AC.f x)) []) ∧ ((fOrd x 0 == some Ordering.gt) = false → flatAV (AV.one (AC.f 0)) ∧ Q (AV.one (AC.f 0)) [])))) : KRun X 34 0 Q (kOf Try.f34 0) (mkS 25 [(0, .one (.f x)), (3, .one (.f g)), (4, .one (.i64 i))]) [] :=
  wpRun_ok (hX ▸ baseF_ok T3 mf0 M0) (hX ▸ baseF_call T3_ok M0_ok) (hX ▸ mixed) (hX ▸ ok34) LK_ok (cast (β := wpRun (baseF T3 mf0 M0) [6, 13, 18, 23] [] false (RS.mk Try.f34.results.toList 0 (CS.mk [] [] [0] [])) (LK X 34 0 Q true [(3, LS.mk [0, 3, 4] (CS.mk [] [] [] []))]) Q 2000 (kOf Try.f34 0) (mkS 25 [(0, .one (.f x)), (3, .one (.f g)), (4, .one (.i64 i))]) []) (by kernel_rfl) h)
theorem s39 (x : Nat) (h : x < 18446744073709551616) : Spec Try.prog 39 [.one (.f x), .one (.i64 1)] [] (Is (.one (.b (decide (x = 9218868437227405312))))) := by
  refine Spec.of_run ok39 fun X hX => vc39 hX _ ⟨fun h => absurd h (by decide), fun _ => ⟨fun h => absurd h (by decide), fun _ => ?_⟩⟩
  rw [fgt_any h (by omega), decide_eq_decide.2 (show (x ≤ 9218868437227405312 ∧ 9218868437227405311 < x) ↔ x = 9218868437227405312 by omega)]
  exact rfl
theorem s23 : Spec Try.prog 23 [.one (.i64 1)] [] (Is (.one (.f 9218868437227405312))) := by
  refine Spec.of_run ok23 fun X hX => vc23 hX ⟨fun _ => rfl, fun h => absurd h (by decide)⟩
theorem s31 : Spec Try.prog 31 [] [] (Is (.one (.f 9221120237041090561))) := by
  refine Spec.of_run ok31 fun X hX => vc31 hX ?_
  exact rfl
noncomputable def T4 : Tab := fun f xs => match f, xs with
  | 22, [.one (.f x), .one (.f y)] => some ([x < 18446744073709551616 ∧ y < 18446744073709551616], .one (.b (decide (drF y < chF x))))
  | 39, [.one (.f x), .one (.i64 1)] => some ([x < 18446744073709551616], .one (.b (decide (x = 9218868437227405312))))
  | 23, [.one (.i64 1)] => some ([], .one (.f 9218868437227405312))
  | 31, [] => some ([], .one (.f 9221120237041090561))
  | f, xs => T3 f xs
theorem T4_ok : TabOk Try.prog T4 := by
  intro f xs cs r h hc
  unfold T4 at h
  split at h
  · obtain ⟨rfl, rfl⟩ := Prod.mk.inj (Option.some.inj h)
    exact ⟨⟨_, _, ok22⟩, s22 _ _ hc.1.1 hc.1.2, rfl⟩
  · obtain ⟨rfl, rfl⟩ := Prod.mk.inj (Option.some.inj h)
    exact ⟨⟨_, _, ok39⟩, s39 _ hc.1, rfl⟩
  · obtain ⟨rfl, rfl⟩ := Prod.mk.inj (Option.some.inj h)
    exact ⟨⟨_, _, ok23⟩, s23, rfl⟩
  · obtain ⟨rfl, rfl⟩ := Prod.mk.inj (Option.some.inj h)
    exact ⟨⟨_, _, ok31⟩, s31, rfl⟩
  · exact T3_ok _ _ _ _ h hc
set_option maxRecDepth 100000 in
theorem vc33 {X : Ctx} {Q : AV → Mem → Prop} (hX : X.P = Try.prog) (x : Nat) (h : x < 18446744073709551616 ∧ (decide (x = 9218868437227405312) = true → Q (AV.one (AC.f 8660422083433463808)) []) ∧ (decide (x = 9218868437227405312) = false → x < 18446744073709551616 ∧ Q (AV.one (AC.f (psF x))) [])) : KRun X 33 0 Q ([.code (bodyOf Try.f33)]) (slots [.one (.f x)] Try.f33.ntmps) [] :=
  wpRun_ok (hX ▸ baseF_ok T4 mf0 M0) (hX ▸ baseF_call T4_ok M0_ok) (hX ▸ mixed) (hX ▸ ok33) LK_ok (cast (β := wpRun (baseF T4 mf0 M0) [4] [] false (RS.mk Try.f33.results.toList 0 (CS.mk [] [] [] [])) (LK X 33 0 Q true []) Q 2000 ([.code (bodyOf Try.f33)]) (slots [.one (.f x)] Try.f33.ntmps) []) (by kernel_rfl) h)
end DH

noncomputable section
namespace DH
open Go Go.Proofs
theorem s33 (x : Nat) (h : x < 18446744073709551616) : Spec Try.prog 33 [.one (.f x)] [] (Is (.one (.f (wF x)))) := by
  refine Spec.of_run ok33 fun X hX => vc33 hX _ ⟨h, fun g => ?_, fun g => ⟨h, ?_⟩⟩
  · rw [show wF x = 8660422083433463808 from if_pos (of_decide_eq_true g)]; exact rfl
  · rw [show wF x = psF x from if_neg (of_decide_eq_false g)]; exact rfl
/-- twice a number is another one, but for infinity -/
theorem dbl {x r : Nat} (hx : x ≤ 9218868437227405312) (h0 : 0 < x) (h : fRes .mul x 4611686018427387904 r) : (fOrd r x == some Ordering.eq) = decide (x = 9218868437227405312) := by
  have inf : ∀ r, fRes .mul 9218868437227405312 4611686018427387904 r → r = 9218868437227405312 := by
    intro r h
    have e : fAr .mul 9218868437227405312 4611686018427387904 = some 9218868437227405312 := by kernel_rfl
    generalize (9218868437227405312 : Nat) = I at *
    rcases h with h | ⟨h, _⟩
    · rw [e] at h; injection h with h; exact h.symm
    · rw [e] at h; cases h
  rcases Nat.eq_or_lt_of_le hx with g | g
  · rw [g] at h
    have h := inf r h
    rw [h, g]
    rw [feq_pos (Nat.le_refl _) (Nat.le_refl _)]
  · obtain ⟨r', e, h1, _, h3⟩ := mul_fin g (y := 4611686018427387904) (by omega)
    have v2 : va 4611686018427387904 = 2 ^ 1075 := by kernel_rfl
    have hr : r = r' := by
      clear inf h1 h3
      unfold fRes at h
      generalize fAr .mul x 4611686018427387904 = q at *
      rcases h with h | ⟨h, _⟩
      · exact Option.some.inj (h.symm.trans e)
      · rw [e] at h; cases h
    subst hr
    have v0 : 0 < va x := by have := va_lt h0; omega
    have hge : x + 1 ≤ r := by
      refine h3 _ (by omega) ?_ (Nat.mul_pos v0 (Nat.lt_of_le_of_lt (Nat.zero_le _) (va_lt (x := 0) (by omega))))
      rw [v2, show (2 : Nat) ^ 1075 = 2 * 2 ^ 1074 by kernel_rfl]
      generalize (2 : Nat) ^ 1074 = K
      rw [← Nat.mul_assoc]
      refine Nat.mul_le_mul_right _ ?_
      exact va_next h0
    rw [feq_pos h1 hx, decide_eq_false (by omega), decide_eq_false (by omega)]
theorem great_at {i r : Nat} (hi : i < 900) (h : fRes .mul (4607182418800017408 + i * 4503599627370496) 4611686018427387904 r) : r = 4607182418800017408 + (i + 1) * 4503599627370496 := by
  have g := List.all_eq_true.1 great_step i (List.mem_range.2 hi)
  unfold fRes at h
  generalize fAr .mul (4607182418800017408 + i * 4503599627370496) 4611686018427387904 = q at *
  cases q with
  | none => cases g
  | some r' =>
    have g := Nat.eq_of_beq_eq_true g
    rcases h with h | ⟨h, _⟩
    · rw [← Option.some.inj h]; exact g
    · cases h
theorem l34 {X : Ctx} (hX : X.P = Try.prog) (x : Nat) (hx : x < 18446744073709551616) : ∀ (d i : Nat), i + d = 900 →
    KRun X 34 0 (Is (.one (.f (wF x)))) (kOf Try.f34 0) (mkS 25 [(0, .one (.f x)), (3, .one (.f (4607182418800017408 + i * 4503599627370496))), (4, .one (.i64 i))]) [] := by
  intro d
  induction d with
  | zero =>
    intro i hi
    have hi : i = 900 := by omega
    subst hi
    refine vc34a hX _ _ _ ⟨fun h => absurd (of_decide_eq_true h) (by omega), fun _ => ?_⟩
    rw [fgt_any hx (by omega)]
    refine ⟨fun g => ?_, fun g => ⟨fun g2 => ?_, fun _ => ?_⟩⟩
    · have g := of_decide_eq_true g
      intro r hr
      rw [dbl g.1 g.2 hr]
      refine ⟨fun k => ⟨rfl, ?_⟩, fun k => ⟨fun _ => ⟨rfl, ?_⟩, fun g3 => absurd (of_decide_eq_false g3) (fun h => h g)⟩⟩
      · rw [show wF x = 8660422083433463808 from if_pos (of_decide_eq_true k)]; exact rfl
      · rw [show wF x = x by unfold wF; rw [if_neg (of_decide_eq_false k)]; exact if_pos g.1]; exact rfl
    · rw [g] at g2; cases g2
    · have g := of_decide_eq_false g
      refine ⟨rfl, ?_⟩
      rw [show wF x = 0 by unfold wF psF; rw [if_neg (by omega)]; split <;> omega]; exact rfl
  | succ d ih =>
    intro i hi
    refine vc34a hX _ _ _ ⟨fun _ r hr => ?_, fun h => absurd (of_decide_eq_false h) (by omega)⟩
    have ih := ih (i + 1) (by omega)
    rw [great_at (by omega) hr]
    have e : ((i + 1 : Nat) : Int) = (i : Int) + 1 := by omega
    rw [e] at ih
    exact ⟨by unfold in64; omega, ⟨ih⟩⟩
theorem s34 (x : Nat) (hx : x < 18446744073709551616) : Spec Try.prog 34 [.one (.f x)] [] (Is (.one (.f (wF x)))) := by
  refine Spec.of_run ok34 fun X hX => vc34 hX _ ?_
  exact ⟨l34 hX x hx 900 0 rfl⟩
end DH

noncomputable section
namespace DH
open Go Go.Proofs
def mixF (x y s : Nat) : Nat := fa (fm (chF x) (fs 4607182418800017408 (chF s))) (fm (chF y) (chF s))
theorem mix_res {x y s r r1 r2 r3 : Nat} (h : fRes .sub 4607182418800017408 (chF s) r) (h1 : fRes .mul (chF x) r r1) (h2 : fRes .mul (chF y) (chF s) r2) (h3 : fRes .add r1 r2 r3) : r3 = mixF x y s := by
  obtain ⟨e, l⟩ := fs_res (chF_le s) h
  obtain ⟨e1, l1⟩ := fm_res (chF_le x) l h1
  obtain ⟨e2, l2⟩ := fm_res (chF_le y) (chF_le s) h2
  obtain ⟨e3, _⟩ := fa_res (one_fin l1) (one_fin l2) h3
  rw [e3, e1, e2, e]
  rfl
theorem s25 (x y s : Nat) (hx : x < 18446744073709551616) (hy : y < 18446744073709551616) (hs : s < 18446744073709551616) : Spec Try.prog 25 [.one (.f x), .one (.f y), .one (.f s)] [] (Is (.one (.f (mixF x y s)))) := by
  refine Spec.of_run ok25 fun X hX => vc25 hX _ _ _ ⟨hs, hx, fun r h r1 h1 => ⟨hy, fun r2 h2 r3 h3 => ?_⟩⟩
  rw [mix_res h h1 h2 h3]
  exact rfl
theorem s26 (x y s : Nat) (hx : x < 18446744073709551616) (hy : y < 18446744073709551616) (hs : s < 18446744073709551616) : Spec Try.prog 26 [.one (.f x), .one (.f y), .one (.f s)] [] (Is (.one (.f (mixF x y s)))) := by
  refine Spec.of_run ok26 fun X hX => vc26 hX _ _ _ ⟨hs, hx, fun r h r1 h1 => ⟨hy, fun r2 h2 r3 h3 => ?_⟩⟩
  rw [mix_res h h1 h2 h3]
  exact rfl
noncomputable def T5 : Tab := fun f xs => match f, xs with
  | 33, [.one (.f x)] => some ([x < 18446744073709551616], .one (.f (wF x)))
  | 34, [.one (.f x)] => some ([x < 18446744073709551616], .one (.f (wF x)))
  | 25, [.one (.f x), .one (.f y), .one (.f s)] => some ([x < 18446744073709551616 ∧ y < 18446744073709551616 ∧ s < 18446744073709551616], .one (.f (mixF x y s)))
  | 26, [.one (.f x), .one (.f y), .one (.f s)] => some ([x < 18446744073709551616 ∧ y < 18446744073709551616 ∧ s < 18446744073709551616], .one (.f (mixF x y s)))
  | f, xs => T4 f xs
theorem T5_ok : TabOk Try.prog T5 := by
  intro f xs cs r h hc
  unfold T5 at h
  split at h
  · obtain ⟨rfl, rfl⟩ := Prod.mk.inj (Option.some.inj h)
    exact ⟨⟨_, _, ok33⟩, s33 _ hc.1, rfl⟩
  · obtain ⟨rfl, rfl⟩ := Prod.mk.inj (Option.some.inj h)
    exact ⟨⟨_, _, ok34⟩, s34 _ hc.1, rfl⟩
  · obtain ⟨rfl, rfl⟩ := Prod.mk.inj (Option.some.inj h)
    exact ⟨⟨_, _, ok25⟩, s25 _ _ _ hc.1.1 hc.1.2.1 hc.1.2.2, rfl⟩
  · obtain ⟨rfl, rfl⟩ := Prod.mk.inj (Option.some.inj h)
    exact ⟨⟨_, _, ok26⟩, s26 _ _ _ hc.1.1 hc.1.2.1 hc.1.2.2, rfl⟩
  · exact T4_ok _ _ _ _ h hc
set_option maxRecDepth 100000 in
theorem vc18 {X : Ctx} {Q : AV → Mem → Prop} (hX : X.P = Try.prog) (d : Nat) (ws : List AC) (n : Nat) (h : KR X 18 0 Q (kOf Try.f18 0) (mkS 48 [(0, AV.one (AC.f d)), (1, AV.one (AC.xs ws 0 n)), (5, AV.one (AC.f 0)), (13, AV.one (AC.xs ws 0 n)), (14, AV.one (AC.i64 (↑n : Int))), (15, AV.one (AC.i64 (0 : Int)))]) []) : KRun X 18 0 Q ([.code (bodyOf Try.f18)]) (slots [.one (.f d), .one (.xs ws 0 n)] Try.f18.ntmps) [] :=
  wpRun_ok (hX ▸ baseF_ok T5 mf0 M0) (hX ▸ baseF_call T5_ok M0_ok) (hX ▸ mixed) (hX ▸ ok18) LK_ok (cast (β := wpRun (baseF T5 mf0 M0) [16, 31, 38, 45] [] false (RS.mk Try.f18.results.toList 0 (CS.mk [] [] [] [])) (LK X 18 0 Q true [(3, LS.mk [0, 1, 5, 13, 14, 15] (CS.mk [] [] [] [])), (11, LS.mk [8, 9, 10, 28, 29, 30] (CS.mk [] [] [] []))]) Q 2000 ([.code (bodyOf Try.f18)]) (slots [.one (.f d), .one (.xs ws 0 n)] Try.f18.ntmps) []) (by kernel_rfl) h)
set_option maxRecDepth 100000 in
theorem vc18a {X : Ctx} {Q : AV → Mem → Prop} (hX : X.P = Try.prog) (d s : Nat) (ws : List AC) (n : Nat) (i : Int) (h : (decide (i < (↑n : Int)) = true → ((0 : Int) ≤ i ∧ i < (↑n : Int)) ∧ gt AC.any ws (0 + Int.toNat i * 1) = AC.f (asF (gt AC.any ws (0 + Int.toNat i * 1))) ∧ asF (gt AC.any ws (0 + Int.toNat i * 1)) < 18446744073709551616 ∧ ∀ (r : Nat), fRes BinOp.add s (wF (asF (gt AC.any ws (0 + Int.toNat i * 1)))) r → in64 (i + (1 : Int)) ∧ KR X 18 0 Q (kOf Try.f18 0) (mkS 48 [(0, AV.one (AC.f d)), (1, AV.one (AC.xs ws 0 n)), (5, AV.one (AC.f r)), (13, AV.one (AC.xs ws 0 n)), (14, AV.one (AC.i64 (↑n : Int))), (15, AV.one (AC.i64 (i + (1 : Int))))]) []) ∧ (decide (i < (↑n : Int)) = false → d < 18446744073709551616 ∧ ∀ (r : Nat), fRes BinOp.mul (drF d) s r → KR X 18 0 Q (kOf Try.f18 1) (mkS 48 [(8, AV.one (AC.f r)), (9, AV.one (AC.i64 (-1 : Int))), (10, AV.one (AC.f 0)), (28, AV.one (AC.xs ws 0 n)), (29, AV.one (AC.i64 (↑n : Int))), (30, AV.one (AC.i64 (0 : Int)))]) [])) : KRun X 18 0 Q (kOf Try.f18 0) (mkS 48 [(0, .one (.f d)), (1, .one (.xs ws 0 n)), (5, .one (.f s)), (13, .one (.xs ws 0 n)), (14, .one (.i64 n)), (15, .one (.i64 i))]) [] :=
  wpRun_ok (hX ▸ baseF_ok T5 mf0 M0) (hX ▸ baseF_call T5_ok M0_ok) (hX ▸ mixed) (hX ▸ ok18) LK_ok (cast (β := wpRun (baseF T5 mf0 M0) [16, 31, 38, 45] [] false (RS.mk Try.f18.results.toList 0 (CS.mk [] [] [] [])) (LK X 18 0 Q true [(3, LS.mk [0, 1, 5, 13, 14, 15] (CS.mk [] [] [] [])), (11, LS.mk [8, 9, 10, 28, 29, 30] (CS.mk [] [] [] []))]) Q 2000 (kOf Try.f18 0) (mkS 48 [(0, .one (.f d)), (1, .one (.xs ws 0 n)), (5, .one (.f s)), (13, .one (.xs ws 0 n)), (14, .one (.i64 n)), (15, .one (.i64 i))]) []) (by kernel_rfl) h)
set_option maxRecDepth 100000 in
theorem vc18b {X : Ctx} {Q : AV → Mem → Prop} (hX : X.P = Try.prog) (r s : Nat) (b : Int) (ws : List AC) (n : Nat) (i : Int) (h : (decide (i < (↑n : Int)) = true → ((0 : Int) ≤ i ∧ i < (↑n : Int)) ∧ gt AC.any ws (0 + Int.toNat i * 1) = AC.f (asF (gt AC.any ws (0 + Int.toNat i * 1))) ∧ asF (gt AC.any ws (0 + Int.toNat i * 1)) < 18446744073709551616 ∧ ((fOrd (wF (asF (gt AC.any ws (0 + Int.toNat i * 1)))) 0 == some Ordering.eq) = true → in64 (i + (1 : Int)) ∧ KR X 18 0 Q (kOf Try.f18 1) (mkS 48 [(8, AV.one (AC.f r)), (9, AV.one (AC.i64 b)), (10, AV.one (AC.f s)), (28, AV.one (AC.xs ws 0 n)), (29, AV.one (AC.i64 (↑n : Int))), (30, AV.one (AC.i64 (i + (1 : Int))))]) []) ∧ ((fOrd (wF (asF (gt AC.any ws (0 + Int.toNat i * 1)))) 0 == some Ordering.eq) = false → ∀ (r_1 : Nat), fRes BinOp.add s (wF (asF (gt AC.any ws (0 + Int.toNat i * 1)))) r_1 → ((fOrd r r_1 == some Ordering.lt) = true → Q (AV.one (AC.i64 i)) []) ∧ ((fOrd r r_1 == some Ordering.lt) = false → in64 (i + (1 : Int)) ∧ KR X 18 0 Q (kOf Try.f18 1) (mkS 48 [(8, AV.one (AC.f r)), (9, AV.one (AC.i64 i)), (10, AV.one (AC.f r_1)), (28, AV.one (AC.xs ws 0 n)), (29, AV.one (AC.i64 (↑n : Int))), (30, AV.one (AC.i64 (i + (1 : Int))))]) []))) ∧ (decide (i < (↑n : Int)) = false → Q (AV.one (AC.i64 b)) [])) : KRun X 18 0 Q (kOf Try.f18 1) (mkS 48 [(8, .one (.f r)), (9, .one (.i64 b)), (10, .one (.f s)), (28, .one (.xs ws 0 n)), (29, .one (.i64 n)), (30, .one (.i64 i))]) [] :=
  wpRun_ok (hX ▸ baseF_ok T5 mf0 M0) (hX ▸ baseF_call T5_ok M0_ok) (hX ▸ mixed) (hX ▸ ok18) LK_ok (cast (β := wpRun (baseF T5 mf0 M0) [16, 31, 38, 45] [] false (RS.mk Try.f18.results.toList 0 (CS.mk [] [] [] [])) (LK X 18 0 Q true [(3, LS.mk [0, 1, 5, 13, 14, 15] (CS.mk [] [] [] [])), (11, LS.mk [8, 9, 10, 28, 29, 30] (CS.mk [] [] [] []))]) Q 2000 (kOf Try.f18 1) (mkS 48 [(8, .one (.f r)), (9, .one (.i64 b)), (10, .one (.f s)), (28, .one (.xs ws 0 n)), (29, .one (.i64 n)), (30, .one (.i64 i))]) []) (by kernel_rfl) h)
set_option maxRecDepth 100000 in
theorem vc19 {X : Ctx} {Q : AV → Mem → Prop} (hX : X.P = Try.prog) (d : Nat) (ws : List AC) (n : Nat) (h : KR X 19 0 Q (kOf Try.f19 0) (mkS 55 [(0, AV.one (AC.f d)), (1, AV.one (AC.xs ws 0 n)), (5, AV.one (AC.f 0)), (6, AV.one (AC.i64 (-1 : Int))), (7, AV.one (AC.i64 (0 : Int)))]) []) : KRun X 19 0 Q ([.code (bodyOf Try.f19)]) (slots [.one (.f d), .one (.xs ws 0 n)] Try.f19.ntmps) [] :=
  wpRun_ok (hX ▸ baseF_ok T5 mf0 M0) (hX ▸ baseF_call T5_ok M0_ok) (hX ▸ mixed) (hX ▸ ok19) LK_ok (cast (β := wpRun (baseF T5 mf0 M0) [14, 29, 32, 40, 52] [] false (RS.mk Try.f19.results.toList 0 (CS.mk [] [] [] [])) (LK X 19 0 Q true [(4, LS.mk [0, 1, 5, 6, 7] (CS.mk [] [] [] [])), (14, LS.mk [1, 6, 8, 9, 10] (CS.mk [] [] [] []))]) Q 2000 ([.code (bodyOf Try.f19)]) (slots [.one (.f d), .one (.xs ws 0 n)] Try.f19.ntmps) []) (by kernel_rfl) h)
set_option maxRecDepth 100000 in
theorem vc19a {X : Ctx} {Q : AV → Mem → Prop} (hX : X.P = Try.prog) (d s : Nat) (b : Int) (ws : List AC) (n : Nat) (i : Int) (h : (decide (i < (↑n : Int)) = true → ((0 : Int) ≤ i ∧ i < (↑n : Int)) ∧ gt AC.any ws (0 + Int.toNat i * 1) = AC.f (asF (gt AC.any ws (0 + Int.toNat i * 1))) ∧ asF (gt AC.any ws (0 + Int.toNat i * 1)) < 18446744073709551616 ∧ ∀ (r : Nat), fRes BinOp.add s (wF (asF (gt AC.any ws (0 + Int.toNat i * 1)))) r → ((0 : Int) ≤ i ∧ i < (↑n : Int)) ∧ gt AC.any ws (0 + Int.toNat i * 1) = AC.f (asF (gt AC.any ws (0 + Int.toNat i * 1))) ∧ asF (gt AC.any ws (0 + Int.toNat i * 1)) < 18446744073709551616 ∧ ((fOrd (wF (asF (gt AC.any ws (0 + Int.toNat i * 1)))) 0 == some Ordering.gt) = true → in64 (i + (1 : Int)) ∧ KR X 19 0 Q (kOf Try.f19 0) (mkS 55 [(0, AV.one (AC.f d)), (1, AV.one (AC.xs ws 0 n)), (5, AV.one (AC.f r)), (6, AV.one (AC.i64 i)), (7, AV.one (AC.i64 (i + (1 : Int))))]) []) ∧ ((fOrd (wF (asF (gt AC.any ws (0 + Int.toNat i * 1)))) 0 == some Ordering.gt) = false → in64 (i + (1 : Int)) ∧ KR X 19 0 Q (kOf Try.f19 0) (mkS 55 [(0, AV.one (AC.f d)), (1, AV.one (AC.xs ws 0 n)), (5, AV.one (AC.f r)), (6, AV.one (AC.i64 b)), (7, AV.one (AC.i64 (i + (1 : Int))))]) [])) ∧ (decide (i < (↑n : Int)) = false → (decide (b < (0 : Int)) = true → Q (AV.one (AC.i64 (-1 : Int))) []) ∧ (decide (b < (0 : Int)) = false → d < 18446744073709551616 ∧ ∀ (r : Nat), fRes BinOp.mul (drF d) s r → KR X 19 0 Q (kOf Try.f19 1) (mkS 55 [(1, AV.one (AC.xs ws 0 n)), (6, AV.one (AC.i64 b)), (8, AV.one (AC.f r)), (9, AV.one (AC.f 0)), (10, AV.one (AC.i64 (0 : Int)))]) []))) : KRun X 19 0 Q (kOf Try.f19 0) (mkS 55 [(0, .one (.f d)), (1, .one (.xs ws 0 n)), (5, .one (.f s)), (6, .one (.i64 b)), (7, .one (.i64 i))]) [] :=
  wpRun_ok (hX ▸ baseF_ok T5 mf0 M0) (hX ▸ baseF_call T5_ok M0_ok) (hX ▸ mixed) (hX ▸ ok19) LK_ok (cast (β := wpRun (baseF T5 mf0 M0) [14, 29, 32, 40, 52] [] false (RS.mk Try.f19.results.toList 0 (CS.mk [] [] [] [])) (LK X 19 0 Q true [(4, LS.mk [0, 1, 5, 6, 7] (CS.mk [] [] [] [])), (14, LS.mk [1, 6, 8, 9, 10] (CS.mk [] [] [] []))]) Q 2000 (kOf Try.f19 0) (mkS 55 [(0, .one (.f d)), (1, .one (.xs ws 0 n)), (5, .one (.f s)), (6, .one (.i64 b)), (7, .one (.i64 i))]) []) (by kernel_rfl) h)
set_option maxRecDepth 100000 in
theorem vc19b {X : Ctx} {Q : AV → Mem → Prop} (hX : X.P = Try.prog) (r s : Nat) (b : Int) (ws : List AC) (n : Nat) (i : Int) (h : (decide (i < (↑n : Int)) = true → ((0 : Int) ≤ i ∧ i < (↑n : Int)) ∧ gt AC.any ws (0 + Int.toNat i * 1) = AC.f (asF (gt AC.any ws (0 + Int.toNat i * 1))) ∧ asF (gt AC.any ws (0 + Int.toNat i * 1)) < 18446744073709551616 ∧ ∀ (r_1 : Nat), fRes BinOp.add s (wF (asF (gt AC.any ws (0 + Int.toNat i * 1)))) r_1 → ((fOrd r r_1 == some Ordering.lt) = true → Q (AV.one (AC.i64 i)) []) ∧ ((fOrd r r_1 == some Ordering.lt) = false → in64 (i + (1 : Int)) ∧ KR X 19 0 Q (kOf Try.f19 1) (mkS 55 [(1, AV.one (AC.xs ws 0 n)), (6, AV.one (AC.i64 b)), (8, AV.one (AC.f r)), (9, AV.one (AC.f r_1)), (10, AV.one (AC.i64 (i + (1 : Int))))]) [])) ∧ (decide (i < (↑n : Int)) = false → Q (AV.one (AC.i64 b)) [])) : KRun X 19 0 Q (kOf Try.f19 1) (mkS 55 [(1, .one (.xs ws 0 n)), (6, .one (.i64 b)), (8, .one (.f r)), (9, .one (.f s)), (10, .one (.i64 i))]) [] :=
  wpRun_ok (hX ▸ baseF_ok T5 mf0 M0) (hX ▸ baseF_call T5_ok M0_ok) (hX ▸ mixed) (hX ▸ ok19) LK_ok (cast (β := wpRun (baseF T5 mf0 M0) [14, 29, 32, 40, 52] [] false (RS.mk Try.f19.results.toList 0 (CS.mk [] [] [] [])) (LK X 19 0 Q true [(4, LS.mk [0, 1, 5, 6, 7] (CS.mk [] [] [] [])), (14, LS.mk [1, 6, 8, 9, 10] (CS.mk [] [] [] []))]) Q 2000 (kOf Try.f19 1) (mkS 55 [(1, .one (.xs ws 0 n)), (6, .one (.i64 b)), (8, .one (.f r)), (9, .one (.f s)), (10, .one (.i64 i))]) []) (by kernel_rfl) h)
theorem gt_f (ws : List Nat) {k : Nat} (h : k < ws.length) : gt AC.any (ws.map AC.f) (0 + Int.toNat (k : Int) * 1) = .f (ws.getD k 0) := by
  rw [gt_eq, Int.toNat_natCast, Nat.mul_one, Nat.zero_add, List.getD_eq_getElem?_getD, List.getElem?_map, List.getElem?_eq_getElem h]
  rfl
theorem getD_lt {ws : List Nat} (hw : ∀ x ∈ ws, x < 18446744073709551616) (k : Nat) : ws.getD k 0 < 18446744073709551616 := by
  rw [List.getD_eq_getElem?_getD]
  cases h : ws[k]? with
  | none => show 0 < _; omega
  | some x => exact hw x (List.mem_of_getElem? h)
end DH

namespace DH
open Go Go.Proofs
/-! What the laws ask of picks, delays and mixed chances, plainly. -/
theorem lastP_ok (ws : List Nat) : ∀ k, (lastP ws k = -1 ∧ ∀ j, j < k → wAt ws j = 0) ∨ ∃ j : Nat, j < k ∧ lastP ws k = (j : Int) ∧ 0 < wAt ws j
  | 0 => .inl ⟨rfl, fun j h => absurd h (Nat.not_lt_zero _)⟩
  | k + 1 => by
    have ih := lastP_ok ws k
    by_cases g : 0 < wAt ws k
    · exact .inr ⟨k, Nat.lt_succ_self k, if_pos g, g⟩
    · have e : lastP ws (k + 1) = lastP ws k := if_neg g
      rcases ih with ⟨h1, h2⟩ | ⟨j, h1, h2, h3⟩
      · refine .inl ⟨by rw [e, h1], fun j hj => ?_⟩
        rcases Nat.eq_or_lt_of_le (Nat.le_of_lt_succ hj) with h | h
        · subst h; omega
        · exact h2 j h
      · exact .inr ⟨j, by omega, by rw [e, h2], h3⟩
theorem pkF_ok (ws : List Nat) (lt : Nat → Bool) : ∀ (k i n : Nat), i + k = n → (pkF ws lt k i = -1 ∧ ∀ j, j < n → wAt ws j = 0) ∨ ∃ j : Nat, j < n ∧ pkF ws lt k i = (j : Int) ∧ 0 < wAt ws j
  | 0, i, n, h => by
    have h : i = n := by omega
    subst h
    exact lastP_ok ws i
  | k + 1, i, n, h => by
    by_cases g : 0 < wAt ws i ∧ lt (sumN ws (i + 1)) = true
    · exact .inr ⟨i, by omega, if_pos g, g.1⟩
    · have e : pkF ws lt (k + 1) i = pkF ws lt k (i + 1) := if_neg g
      rw [e]
      exact pkF_ok ws lt k (i + 1) n (by omega)
theorem wF_pos (x : Nat) : 0 < wF x ↔ x ≤ 9218868437227405312 ∧ 0 < x := by
  unfold wF psF
  split
  · omega
  · split <;> omega
theorem fge0 {x : Nat} (h : x ≤ 9218868437227405312) : (fOrd x 0 == some Ordering.gt || fOrd x 0 == some Ordering.eq) = true := by
  rw [fgt_pos h (by omega), feq_pos h (by omega)]
  rcases Nat.eq_zero_or_pos x with g | g
  · rw [decide_eq_true g, Bool.or_true]
  · rw [decide_eq_true g]; rfl
theorem ge_ch {x y : Nat} (hx : x < 18446744073709551616) (hy : y < 18446744073709551616) (h : (fOrd y x == some Ordering.gt || fOrd y x == some Ordering.eq) = true) : chF x ≤ chF y := by
  by_cases g : x ≤ 9218868437227405312
  · rcases Nat.eq_zero_or_pos x with g0 | g0
    · have : chF x = 0 := by rw [g0]; rfl
      omega
    · rw [fge_any hy g g0] at h
      have h := of_decide_eq_true h
      unfold chF
      rw [if_pos g, if_pos h.1]
      omega
  · have : chF x = 0 := if_neg g
    omega
theorem chF_idem (x : Nat) : chF (chF x) = chF x := by
  have := chF_le x
  have e : chF (chF x) = min (chF x) 4607182418800017408 := if_pos (by omega)
  rw [e]; omega
theorem drF_idem (x : Nat) : drF (drF x) = drF x := by
  have := drF_le x
  have e : drF (drF x) = min (drF x) 4607182418800017407 := if_pos (by omega)
  rw [e]; omega
theorem part_le {x d : Nat} (hx : x ≤ 4841369599423283200) : fm x (drF d) ≤ 4845873199050653696 := by
  have hd := drF_le d
  obtain ⟨r', e, _⟩ := mul_fin (x := x) (y := drF d) (by omega) (by omega)
  have := part_res hx (.inl e)
  rw [← this.1]
  exact this.2
theorem delF_none {x : Nat} {n : Int} {d : Nat} (h : n < 1) : delF x n d = 0 := if_pos h
theorem delF_zero {x : Nat} {n : Int} {d : Nat} (h : ¬ (x ≤ 9218868437227405312 ∧ 0 < x)) : delF x n d = 0 := by
  unfold delF; rw [if_neg h]; split <;> rfl
theorem delF_some {x : Nat} {n : Int} {d : Nat} (h : 1 ≤ n) (hn : n ≤ 4503599627370496) (hx : x ≤ 9218868437227405312 ∧ 0 < x) : 1 ≤ delF x n d ∧ delF x n d ≤ n := by
  unfold delF
  rw [if_neg (by omega), if_pos hx]
  have := toI_le (part_le (x := min (fm 4611686018427387904 x) (ofI n)) (d := d) (Nat.le_trans (Nat.min_le_right _ _) (ofI_le h hn).2))
  unfold partF
  omega
theorem mul_le_one {x y : Nat} (hx : x ≤ 4607182418800017408) (hy : y ≤ 4607182418800017408) : fm x y ≤ 4607182418800017408 := by
  obtain ⟨r, e, h⟩ := mul_one' hx hy
  unfold fm; rw [e]; exact h
theorem fs_le {s : Nat} (hs : s ≤ 4607182418800017408) : fs 4607182418800017408 s ≤ 4607182418800017408 := by
  obtain ⟨r', e, _, h1, _⟩ := sub_fin (x := 4607182418800017408) (by omega) hs
  unfold fs; rw [e]; exact h1 _ (by omega) (Nat.sub_le _ _)
theorem mixF_le (x y s : Nat) : mixF x y s ≤ 9218868437227405312 := by
  have h1 := mul_le_one (chF_le x) (fs_le (chF_le s))
  have h2 := mul_le_one (chF_le y) (chF_le s)
  obtain ⟨r, e, h, _⟩ := add_fin (one_fin h1) (one_fin h2)
  unfold mixF fa; rw [e]; exact h
theorem va_half : va 4602678819172646912 = 2 ^ 1073 := by kernel_rfl
theorem half_le {x : Nat} (hx : x ≤ 4607182418800017408) : fm x 4602678819172646912 ≤ 4602678819172646912 := by
  obtain ⟨r, e, _, h, _⟩ := mul_fin (x := x) (y := 4602678819172646912) (by omega) (by omega)
  unfold fm; rw [e]
  refine h _ (by omega) ?_
  rw [Nat.mul_comm]
  refine Nat.mul_le_mul_left _ ?_
  rw [← va_one]; exact va_le hx
theorem mix_half (x y : Nat) : mixF x y 4602678819172646912 ≤ 4607182418800017408 := by
  have e1 : fs 4607182418800017408 (chF 4602678819172646912) = 4602678819172646912 := by kernel_rfl
  have e2 : chF 4602678819172646912 = 4602678819172646912 := by kernel_rfl
  unfold mixF
  rw [e1, e2]
  have h1 := half_le (chF_le x)
  have h2 := half_le (chF_le y)
  obtain ⟨r, e, _, h, _⟩ := add_fin (x := fm (chF x) 4602678819172646912) (y := fm (chF y) 4602678819172646912) (by omega) (by omega)
  unfold fa; rw [e]
  refine h _ (by omega) ?_
  have a := va_le h1
  have b := va_le h2
  rw [va_half] at a b
  rw [va_one, show (2 : Nat) ^ 1074 = 2 ^ 1073 + 2 ^ 1073 by kernel_rfl]
  revert a b
  generalize (2 : Nat) ^ 1073 = K
  intro a b
  exact Nat.add_le_add a b
end DH

noncomputable section
namespace DH
open Go Go.Proofs
theorem pk_hit {ws : List Nat} {lt : Nat → Bool} {k i : Nat} (h : 0 < wAt ws i) (g : lt (sumN ws (i + 1)) = true) : pkF ws lt (k + 1) i = (i : Int) := by
  unfold pkF; exact if_pos ⟨h, g⟩
theorem pk_miss {ws : List Nat} {lt : Nat → Bool} {k i : Nat} (h : ¬ (0 < wAt ws i ∧ lt (sumN ws (i + 1)) = true)) : pkF ws lt (k + 1) i = pkF ws lt k (i + 1) := by
  show (if _ then _ else _) = _; exact if_neg h
theorem last_pos {ws : List Nat} {i : Nat} (h : 0 < wAt ws i) : lastP ws (i + 1) = (i : Int) := by
  show (if _ then _ else _) = _; exact if_pos h
theorem last_zero {ws : List Nat} {i : Nat} (h : ¬ 0 < wAt ws i) : lastP ws (i + 1) = lastP ws i := by
  show (if _ then _ else _) = _; exact if_neg h
theorem wAt_le (ws : List Nat) (k : Nat) : wAt ws k ≤ 9218868437227405312 := Nat.le_of_lt (wF_lt _)
theorem l18b {X : Ctx} (hX : X.P = Try.prog) (ws : List Nat) (hw : ∀ x ∈ ws, x < 18446744073709551616) (hn : ws.length ≤ 300) (r : Nat) (lt : Nat → Bool) (hr : ∀ s, (fOrd r s == some Ordering.lt) = lt s) : ∀ (k i : Nat), i + k = ws.length →
    KRun X 18 0 (Is (.one (.i64 (pkF ws lt k i)))) (kOf Try.f18 1) (mkS 48 [(8, .one (.f r)), (9, .one (.i64 (lastP ws i))), (10, .one (.f (sumN ws i))), (28, .one (.xs (ws.map AC.f) 0 ws.length)), (29, .one (.i64 (ws.length : Nat))), (30, .one (.i64 (i : Nat)))]) [] := by
  intro k
  induction k with
  | zero =>
    intro i hi
    refine vc18b hX _ _ _ _ _ _ ⟨fun h => absurd (of_decide_eq_true h) (by omega), fun _ => ?_⟩
    exact rfl
  | succ k ih =>
    intro i hi
    refine vc18b hX _ _ _ _ _ _ ⟨fun _ => ?_, fun h => absurd (of_decide_eq_false h) (by omega)⟩
    have ih := ih (i + 1) (by omega)
    rw [gt_f ws (by omega : i < ws.length)]
    have e : ((i + 1 : Nat) : Int) = (i : Int) + 1 := by omega
    rw [e] at ih
    refine ⟨⟨by omega, by omega⟩, rfl, getD_lt hw _, fun h => ?_, fun h t ht => ?_⟩
    · have h0 : wAt ws i = 0 := by
        have h : (fOrd (wAt ws i) 0 == some Ordering.eq) = true := h
        rw [feq_pos (wAt_le ws i) (by omega)] at h
        exact of_decide_eq_true h
      rw [pk_miss (by omega)]
      rw [sumN_zero h0, last_zero (by omega)] at ih
      exact ⟨by unfold in64; omega, ⟨ih⟩⟩
    · have h0 : 0 < wAt ws i := by
        have h : (fOrd (wAt ws i) 0 == some Ordering.eq) = false := h
        rw [feq_pos (wAt_le ws i) (by omega)] at h
        have := of_decide_eq_false h
        omega
      have ht : t = sumN ws (i + 1) := fa_any (sumN_le ws i) (wF_lt _) ht
      subst ht
      rw [hr]
      refine ⟨fun g => ?_, fun g => ⟨by unfold in64; omega, ?_⟩⟩
      · rw [pk_hit h0 g]; exact rfl
      · rw [pk_miss (by rw [g]; exact fun h => by cases h.2)]
        rw [last_pos h0] at ih
        exact ⟨ih⟩
theorem l18a {X : Ctx} (hX : X.P = Try.prog) (d : Nat) (hd : d < 18446744073709551616) (ws : List Nat) (hw : ∀ x ∈ ws, x < 18446744073709551616) (hn : ws.length ≤ 300) : ∀ (k i : Nat), i + k = ws.length →
    KRun X 18 0 (Is (.one (.i64 (pickF d ws)))) (kOf Try.f18 0) (mkS 48 [(0, .one (.f d)), (1, .one (.xs (ws.map AC.f) 0 ws.length)), (5, .one (.f (sumN ws i))), (13, .one (.xs (ws.map AC.f) 0 ws.length)), (14, .one (.i64 (ws.length : Nat))), (15, .one (.i64 (i : Nat)))]) [] := by
  intro k
  induction k with
  | zero =>
    intro i hi
    refine vc18a hX _ _ _ _ _ ⟨fun h => absurd (of_decide_eq_true h) (by omega), fun _ => ⟨hd, fun r hr => ?_⟩⟩
    have hi : i = ws.length := by omega
    subst hi
    exact ⟨l18b hX ws hw hn r _ (fun s => ltA_res hr) ws.length 0 (by omega)⟩
  | succ k ih =>
    intro i hi
    refine vc18a hX _ _ _ _ _ ⟨fun _ => ?_, fun h => absurd (of_decide_eq_false h) (by omega)⟩
    have ih := ih (i + 1) (by omega)
    rw [gt_f ws (by omega : i < ws.length)]
    have e : ((i + 1 : Nat) : Int) = (i : Int) + 1 := by omega
    rw [e] at ih
    refine ⟨⟨by omega, by omega⟩, rfl, getD_lt hw _, fun t ht => ⟨by unfold in64; omega, ?_⟩⟩
    have ht : t = sumN ws (i + 1) := fa_any (sumN_le ws i) (wF_lt _) ht
    subst ht
    exact ⟨ih⟩
theorem s18 (d : Nat) (ws : List Nat) (hd : d < 18446744073709551616) (hw : ∀ x ∈ ws, x < 18446744073709551616) (hn : ws.length ≤ 300) : Spec Try.prog 18 [.one (.f d), .one (.xs (ws.map AC.f) 0 ws.length)] [] (Is (.one (.i64 (pickF d ws)))) := by
  refine Spec.of_run ok18 fun X hX => vc18 hX _ _ _ ?_
  exact ⟨l18a hX d hd ws hw hn ws.length 0 (by omega)⟩
theorem l19b {X : Ctx} (hX : X.P = Try.prog) (ws : List Nat) (hw : ∀ x ∈ ws, x < 18446744073709551616) (hn : ws.length ≤ 300) (r : Nat) (lt : Nat → Bool) (hr : ∀ s, (fOrd r s == some Ordering.lt) = lt s) : ∀ (k i : Nat), i + k = ws.length → lt (sumN ws i) = false →
    KRun X 19 0 (Is (.one (.i64 (pkF ws lt k i)))) (kOf Try.f19 1) (mkS 55 [(1, .one (.xs (ws.map AC.f) 0 ws.length)), (6, .one (.i64 (lastP ws ws.length))), (8, .one (.f r)), (9, .one (.f (sumN ws i))), (10, .one (.i64 (i : Nat)))]) [] := by
  intro k
  induction k with
  | zero =>
    intro i hi _
    refine vc19b hX _ _ _ _ _ _ ⟨fun h => absurd (of_decide_eq_true h) (by omega), fun _ => ?_⟩
    have hi : i = ws.length := by omega
    subst hi
    exact rfl
  | succ k ih =>
    intro i hi h1
    refine vc19b hX _ _ _ _ _ _ ⟨fun _ => ?_, fun h => absurd (of_decide_eq_false h) (by omega)⟩
    have ih := ih (i + 1) (by omega)
    rw [gt_f ws (by omega : i < ws.length)]
    have e : ((i + 1 : Nat) : Int) = (i : Int) + 1 := by omega
    rw [e] at ih
    refine ⟨⟨by omega, by omega⟩, rfl, getD_lt hw _, fun t ht => ?_⟩
    have ht : t = sumN ws (i + 1) := fa_any (sumN_le ws i) (wF_lt _) ht
    subst ht
    rw [hr]
    refine ⟨fun g => ?_, fun g => ⟨by unfold in64; omega, ?_⟩⟩
    · have h0 : 0 < wAt ws i := by
        rcases Nat.eq_zero_or_pos (wAt ws i) with h | h
        · rw [sumN_zero h, h1] at g; cases g
        · exact h
      rw [pk_hit h0 g]; exact rfl
    · rw [pk_miss (by rw [g]; exact fun h => by cases h.2)]
      exact ⟨ih g⟩
theorem l19a {X : Ctx} (hX : X.P = Try.prog) (d : Nat) (hd : d < 18446744073709551616) (ws : List Nat) (hw : ∀ x ∈ ws, x < 18446744073709551616) (hn : ws.length ≤ 300) : ∀ (k i : Nat), i + k = ws.length →
    KRun X 19 0 (Is (.one (.i64 (pickF d ws)))) (kOf Try.f19 0) (mkS 55 [(0, .one (.f d)), (1, .one (.xs (ws.map AC.f) 0 ws.length)), (5, .one (.f (sumN ws i))), (6, .one (.i64 (lastP ws i))), (7, .one (.i64 (i : Nat)))]) [] := by
  intro k
  induction k with
  | zero =>
    intro i hi
    have hi : i = ws.length := by omega
    subst hi
    refine vc19a hX _ _ _ _ _ _ ⟨fun h => absurd (of_decide_eq_true h) (by omega), fun _ => ⟨fun h => ?_, fun _ => ⟨hd, fun r hr => ?_⟩⟩⟩
    · have h := of_decide_eq_true h
      rw [show pickF d ws = -1 from pkF_none ws _ _ _ _ (by omega) h]
      exact rfl
    · exact ⟨l19b hX ws hw hn r _ (fun s => ltA_res hr) ws.length 0 (by omega) (ltA_zero (sumN_le _ _))⟩
  | succ k ih =>
    intro i hi
    refine vc19a hX _ _ _ _ _ _ ⟨fun _ => ?_, fun h => absurd (of_decide_eq_false h) (by omega)⟩
    have ih := ih (i + 1) (by omega)
    rw [gt_f ws (by omega : i < ws.length)]
    have e : ((i + 1 : Nat) : Int) = (i : Int) + 1 := by omega
    rw [e] at ih
    refine ⟨⟨by omega, by omega⟩, rfl, getD_lt hw _, fun t ht => ⟨⟨by omega, by omega⟩, rfl, getD_lt hw _, ?_⟩⟩
    have ht : t = sumN ws (i + 1) := fa_any (sumN_le ws i) (wF_lt _) ht
    subst ht
    have e2 : (fOrd (wF (asF (AC.f (ws.getD i 0)))) 0 == some Ordering.gt) = decide (0 < wAt ws i) := fgt_pos (wAt_le ws i) (by omega)
    rw [e2]
    refine ⟨fun g => ⟨by unfold in64; omega, ?_⟩, fun g => ⟨by unfold in64; omega, ?_⟩⟩
    · rw [last_pos (of_decide_eq_true g)] at ih; exact ⟨ih⟩
    · rw [last_zero (of_decide_eq_false g)] at ih; exact ⟨ih⟩
theorem s19 (d : Nat) (ws : List Nat) (hd : d < 18446744073709551616) (hw : ∀ x ∈ ws, x < 18446744073709551616) (hn : ws.length ≤ 300) : Spec Try.prog 19 [.one (.f d), .one (.xs (ws.map AC.f) 0 ws.length)] [] (Is (.one (.i64 (pickF d ws)))) := by
  refine Spec.of_run ok19 fun X hX => vc19 hX _ _ _ ?_
  exact ⟨l19a hX d hd ws hw hn ws.length 0 (by omega)⟩
end DH

noncomputable section
namespace DH
open Go Go.Proofs
theorem s20 (x : Nat) (n : Int) (d : Nat) (hx : x < 18446744073709551616) (hn : n ≤ 4503599627370496) (hd : d < 18446744073709551616) : Spec Try.prog 20 [.one (.f x), .one (.i64 n), .one (.f d)] [] (Is (.one (.i64 (delF x n d)))) := by
  refine Spec.of_run ok20 fun X hX => vc20 hX _ _ _ ⟨fun g => ?_, fun g => ?_⟩
  · rw [show delF x n d = 0 from if_pos (of_decide_eq_true g)]; exact rfl
  · have g := of_decide_eq_false g
    rw [fgt_any hx (by omega)]
    refine ⟨fun k r hr => ⟨hd, ?_⟩, fun k => ?_⟩
    · have k := of_decide_eq_true k
      obtain ⟨e, l⟩ := twice_res k.1 hr
      obtain ⟨l1, l2⟩ := ofI_le (by omega) hn
      rw [show minF r (floatOfInt .f64 n) = min r (ofI n) from minF_pos l (show ofI n ≤ _ by omega) (show 0 < ofI n by omega)]
      intro r1 hr1
      have hr1 : fRes .mul (min r (ofI n)) (drF d) r1 := hr1
      obtain ⟨e1, l3⟩ := part_res (Nat.le_trans (Nat.min_le_right _ _) l2) hr1
      obtain ⟨a, b, c⟩ := toI_le l3
      have hb : 0 ≤ (floatToIntVal .f64 r1 .i64).getD 0 := b
      have hc : (floatToIntVal .f64 r1 .i64).getD 0 ≤ 9007199254740992 := c
      refine ⟨a, by unfold in64; omega, ?_⟩
      rw [show delF x n d = min ((floatToIntVal .f64 r1 .i64).getD 0 + 1) n by
        unfold delF
        rw [if_neg g, if_pos k]
        show min (toI (partF x n d) + 1) n = min (toI r1 + 1) n
        rw [e1, e]; rfl]
      exact rfl
    · rw [show delF x n d = 0 by unfold delF; rw [if_neg g]; exact if_neg (of_decide_eq_false k)]; exact rfl
theorem s21 (x : Nat) (n : Int) (d : Nat) (hx : x < 18446744073709551616) (hn : n ≤ 4503599627370496) (hd : d < 18446744073709551616) : Spec Try.prog 21 [.one (.f x), .one (.i64 n), .one (.f d)] [] (Is (.one (.i64 (delF x n d)))) := by
  refine Spec.of_run ok21 fun X hX => vc21 hX _ _ _ ⟨fun g => ?_, fun g => ?_⟩
  · rw [show delF x n d = 0 from if_pos (of_decide_eq_true g)]; exact rfl
  · have g := of_decide_eq_false g
    rw [fgt_any hx (by omega)]
    refine ⟨fun k r hr => ?_, fun k => ?_⟩
    · have k := of_decide_eq_true k
      obtain ⟨e, l⟩ := twice_res k.1 hr
      obtain ⟨l1, l2⟩ := ofI_le (by omega) hn
      have eN : (fOrd r (floatOfInt .f64 n) == some Ordering.gt) = decide (ofI n < r) := fgt_pos l (show ofI n ≤ _ by omega)
      rw [eN]
      have fin : ∀ r1, fRes .mul (min r (ofI n)) (drF d) r1 → Option.isSome (floatToIntVal .f64 r1 .i64) = true ∧ in64 ((floatToIntVal .f64 r1 .i64).getD 0 + 1) ∧
          (decide (n < (floatToIntVal .f64 r1 .i64).getD 0 + 1) = true → Is (.one (.i64 (delF x n d))) (.one (.i64 n)) []) ∧ (decide (n < (floatToIntVal .f64 r1 .i64).getD 0 + 1) = false → Is (.one (.i64 (delF x n d))) (.one (.i64 ((floatToIntVal .f64 r1 .i64).getD 0 + 1))) []) := by
        intro r1 hr1
        obtain ⟨e1, l3⟩ := part_res (Nat.le_trans (Nat.min_le_right _ _) l2) hr1
        obtain ⟨a, b, c⟩ := toI_le l3
        have hb : 0 ≤ (floatToIntVal .f64 r1 .i64).getD 0 := b
        have hc : (floatToIntVal .f64 r1 .i64).getD 0 ≤ 9007199254740992 := c
        have ed : delF x n d = min ((floatToIntVal .f64 r1 .i64).getD 0 + 1) n := by
          unfold delF
          rw [if_neg g, if_pos k]
          show min (toI (partF x n d) + 1) n = min (toI r1 + 1) n
          rw [e1, e]; rfl
        refine ⟨a, by unfold in64; omega, fun h => ?_, fun h => ?_⟩
        · have h := of_decide_eq_true h
          rw [ed, Int.min_eq_right (by omega)]; exact rfl
        · have h := of_decide_eq_false h
          rw [ed, Int.min_eq_left (by omega)]; exact rfl
      refine ⟨fun h => ⟨hd, fun r1 hr1 => ?_⟩, fun h => ⟨hd, fun r1 hr1 => ?_⟩⟩
      · have h := of_decide_eq_true h
        refine fin r1 ?_
        rw [Nat.min_eq_right (by omega)]; exact hr1
      · have h := of_decide_eq_false h
        refine fin r1 ?_
        rw [Nat.min_eq_left (by omega)]; exact hr1
    · rw [show delF x n d = 0 by unfold delF; rw [if_neg g]; exact if_neg (of_decide_eq_false k)]; exact rfl
theorem s32 : Spec Try.prog 32 [.one (.f 0), .one (.f 13830554455654793216)] [] (Is (.one (.f 9223372036854775808))) := by
  refine Spec.of_run ok32 fun X hX => vc32 hX _ _ ⟨by omega, by omega, ?_⟩
  exact rfl
noncomputable def T6 : Tab := fun f xs => match f, xs with
  | 20, [.one (.f x), .one (.i64 n), .one (.f d)] => some ([x < 18446744073709551616 ∧ n ≤ 4503599627370496 ∧ d < 18446744073709551616], .one (.i64 (delF x n d)))
  | 21, [.one (.f x), .one (.i64 n), .one (.f d)] => some ([x < 18446744073709551616 ∧ n ≤ 4503599627370496 ∧ d < 18446744073709551616], .one (.i64 (delF x n d)))
  | 32, [.one (.f 0), .one (.f 13830554455654793216)] => some ([], .one (.f 9223372036854775808))
  | f, xs => T5 f xs
theorem T6_ok : TabOk Try.prog T6 := by
  intro f xs cs r h hc
  unfold T6 at h
  split at h
  · obtain ⟨rfl, rfl⟩ := Prod.mk.inj (Option.some.inj h)
    exact ⟨⟨_, _, ok20⟩, s20 _ _ _ hc.1.1 hc.1.2.1 hc.1.2.2, rfl⟩
  · obtain ⟨rfl, rfl⟩ := Prod.mk.inj (Option.some.inj h)
    exact ⟨⟨_, _, ok21⟩, s21 _ _ _ hc.1.1 hc.1.2.1 hc.1.2.2, rfl⟩
  · obtain ⟨rfl, rfl⟩ := Prod.mk.inj (Option.some.inj h)
    exact ⟨⟨_, _, ok32⟩, s32, rfl⟩
  · exact T5_ok _ _ _ _ h hc
end DH

noncomputable section
namespace DH
open Go Go.Proofs
def rowF (l : List AC) : List Nat := l.map asF
def okF (l : List AC) (n : Nat) : Prop := l = (rowF l).map AC.f ∧ (∀ x ∈ rowF l, x < 18446744073709551616) ∧ n = l.length ∧ l.length ≤ 300
set_option maxRecDepth 100000 in
theorem vc23n {X : Ctx} {Q : AV → Mem → Prop} (hX : X.P = Try.prog)  (h : (decide ((0 : Int) ≤ (-1 : Int)) = true → Q (AV.one (AC.f 9218868437227405312)) []) ∧ (decide ((0 : Int) ≤ (-1 : Int)) = false → Q (AV.one (AC.f 18442240474082181120)) [])) : KRun X 23 0 Q ([.code (bodyOf Try.f23)]) (slots [.one (.i64 (-1))] Try.f23.ntmps) [] :=
  wpRun_ok (hX ▸ baseF_ok T6 mf0 M0) (hX ▸ baseF_call T6_ok M0_ok) (hX ▸ mixed) (hX ▸ ok23) LK_ok (cast (β := wpRun (baseF T6 mf0 M0) [5] [] false (RS.mk Try.f23.results.toList 0 (CS.mk [] [] [] [])) (LK X 23 0 Q true []) Q 2000 ([.code (bodyOf Try.f23)]) (slots [.one (.i64 (-1))] Try.f23.ntmps) []) (by kernel_rfl) h)
theorem s23n : Spec Try.prog 23 [.one (.i64 (-1))] [] (Is (.one (.f 18442240474082181120))) := by
  refine Spec.of_run ok23 fun X hX => vc23n hX ⟨fun h => absurd h (by decide), fun _ => rfl⟩
noncomputable def T7 : Tab := fun f xs => match f, xs with
  | 18, [.one (.f d), .one (.xs l 0 n)] => some ([d < 18446744073709551616 ∧ okF l n], .one (.i64 (pickF d (rowF l))))
  | 19, [.one (.f d), .one (.xs l 0 n)] => some ([d < 18446744073709551616 ∧ okF l n], .one (.i64 (pickF d (rowF l))))
  | 23, [.one (.i64 (-1))] => some ([], .one (.f 18442240474082181120))
  | f, xs => T6 f xs
theorem T7_ok : TabOk Try.prog T7 := by
  intro f xs cs r h hc
  unfold T7 at h
  split at h
  · obtain ⟨rfl, rfl⟩ := Prod.mk.inj (Option.some.inj h)
    obtain ⟨hd, h1, h2, h3, h4⟩ := hc.1
    refine ⟨⟨_, _, ok18⟩, ?_, rfl⟩
    have := s18 _ _ hd h2 (by unfold rowF; rw [List.length_map]; exact h4)
    rw [← h1] at this
    unfold rowF at this
    rw [List.length_map, ← h3] at this
    exact this
  · obtain ⟨rfl, rfl⟩ := Prod.mk.inj (Option.some.inj h)
    obtain ⟨hd, h1, h2, h3, h4⟩ := hc.1
    refine ⟨⟨_, _, ok19⟩, ?_, rfl⟩
    have := s19 _ _ hd h2 (by unfold rowF; rw [List.length_map]; exact h4)
    rw [← h1] at this
    unfold rowF at this
    rw [List.length_map, ← h3] at this
    exact this
  · obtain ⟨rfl, rfl⟩ := Prod.mk.inj (Option.some.inj h)
    exact ⟨⟨_, _, ok23⟩, s23n, rfl⟩
  · exact T6_ok _ _ _ _ h hc
set_option maxRecDepth 100000 in
theorem vc17 {X : Ctx} {Q : AV → Mem → Prop} (hX : X.P = Try.prog)  (h : (4607182418800017408 < 18446744073709551616 ∧ 9218868437227405312 < 18446744073709551616) ∧ (decide (drF 9218868437227405312 < chF 4607182418800017408) = true → (9221120237041090561 < 18446744073709551616 ∧ 0 < 18446744073709551616) ∧ (decide (drF 0 < chF 9221120237041090561) = true → Q (AV.one (AC.b false)) []) ∧ (decide (drF 0 < chF 9221120237041090561) = false → 3 ≤ 3 ∧ Flat (List.take 3 (List.drop 0 [cvC (Value.float FloatKind.f64 0), cvC (Value.float FloatKind.f64 4607182418800017408), cvC (Value.float FloatKind.f64 4607182418800017408)])) ∧ (4602678819172646912 < 18446744073709551616 ∧ okF (List.take 3 (List.drop 0 [cvC (Value.float FloatKind.f64 0), cvC (Value.float FloatKind.f64 4607182418800017408), cvC (Value.float FloatKind.f64 4607182418800017408)])) 3) ∧ (decide (pickF 4602678819172646912 (rowF (List.take 3 (List.drop 0 [cvC (Value.float FloatKind.f64 0), cvC (Value.float FloatKind.f64 4607182418800017408), cvC (Value.float FloatKind.f64 4607182418800017408)]))) = (2 : Int)) = true → (4611686018427387904 < 18446744073709551616 ∧ (10 : Int) ≤ (4503599627370496 : Int) ∧ 0 < 18446744073709551616) ∧ (decide (delF 4611686018427387904 (10 : Int) 0 = (1 : Int)) = true → 9223372036854775808 < 18446744073709551616 ∧ (chF 9223372036854775808 < 18446744073709551616 ∧ 0 < 18446744073709551616) ∧ Q (AV.one (AC.b true)) []) ∧ (decide (delF 4611686018427387904 (10 : Int) 0 = (1 : Int)) = false → Q (AV.one (AC.b false)) [])) ∧ (decide (pickF 4602678819172646912 (rowF (List.take 3 (List.drop 0 [cvC (Value.float FloatKind.f64 0), cvC (Value.float FloatKind.f64 4607182418800017408), cvC (Value.float FloatKind.f64 4607182418800017408)]))) = (2 : Int)) = false → Q (AV.one (AC.b false)) []))) ∧ (decide (drF 9218868437227405312 < chF 4607182418800017408) = false → Q (AV.one (AC.b false)) [])) : KRun X 17 0 Q ([.code (bodyOf Try.f17)]) (slots [] Try.f17.ntmps) [] :=
  wpRun_ok (hX ▸ baseF_ok T7 mf0 M0) (hX ▸ baseF_call T7_ok M0_ok) (hX ▸ mixed) (hX ▸ ok17) LK_ok (cast (β := wpRun (baseF T7 mf0 M0) [2, 5, 11, 15] [] false (RS.mk Try.f17.results.toList 0 (CS.mk [] [] [] [])) (LK X 17 0 Q true []) Q 2000 ([.code (bodyOf Try.f17)]) (slots [] Try.f17.ntmps) []) (by kernel_rfl) h)
theorem s17 : Spec Try.prog 17 [] [] (Is (.one (.b true))) := by
  refine Spec.of_run ok17 fun X hX => vc17 hX ?_
  have a1 : decide (drF 9218868437227405312 < chF 4607182418800017408) = true := by kernel_rfl
  have a2 : decide (drF 0 < chF 9221120237041090561) = false := by kernel_rfl
  have a3 : decide (pickF 4602678819172646912 (rowF (List.take 3 (List.drop 0 [cvC (Value.float FloatKind.f64 0), cvC (Value.float FloatKind.f64 4607182418800017408), cvC (Value.float FloatKind.f64 4607182418800017408)]))) = 2) = true := by kernel_rfl
  have a4 : decide (delF 4611686018427387904 10 0 = 1) = true := by kernel_rfl
  have a5 : rowF (List.take 3 (List.drop 0 [cvC (Value.float FloatKind.f64 0), cvC (Value.float FloatKind.f64 4607182418800017408), cvC (Value.float FloatKind.f64 4607182418800017408)])) = [0, 4607182418800017408, 4607182418800017408] := rfl
  refine ⟨⟨by omega, by omega⟩, fun _ => ⟨⟨by omega, by omega⟩, fun h => ?_, fun _ => ⟨Nat.le_refl 3, flatLB_ok rfl, ⟨by omega, rfl, ?_, rfl, by decide⟩, fun _ => ⟨⟨by omega, by omega, by omega⟩, fun _ => ⟨by omega, ⟨?_, by omega⟩, rfl⟩, fun h => ?_⟩, fun h => ?_⟩⟩, fun h => ?_⟩
  · rw [a2] at h; cases h
  · rw [a5]
    intro x hx
    simp only [List.mem_cons, List.not_mem_nil, or_false] at hx
    omega
  · have := chF_le 9223372036854775808; omega
  · rw [a4] at h; cases h
  · rw [a3] at h; cases h
  · rw [a1] at h; cases h
noncomputable def T8 : Tab := fun f xs => match f, xs with
  | 17, [] => some ([], .one (.b true))
  | f, xs => T7 f xs
theorem T8_ok : TabOk Try.prog T8 := by
  intro f xs cs r h hc
  unfold T8 at h
  split at h
  · obtain ⟨rfl, rfl⟩ := Prod.mk.inj (Option.some.inj h)
    exact ⟨⟨_, _, ok17⟩, s17, rfl⟩
  · exact T7_ok _ _ _ _ h hc
set_option maxRecDepth 100000 in
theorem vc3 {X : Ctx} {Q : AV → Mem → Prop} (hX : X.P = Try.prog) (x y : Nat) (h : x < 18446744073709551616 ∧ chF x < 18446744073709551616 ∧ x < 18446744073709551616 ∧ chF x < 18446744073709551616 ∧ (decide (bitF (chF x) = bitF (chF x)) = true → x < 18446744073709551616 ∧ drF x < 18446744073709551616 ∧ x < 18446744073709551616 ∧ drF x < 18446744073709551616 ∧ (decide (bitF (drF x) = bitF (drF x)) = true → x < 18446744073709551616 ∧ x < 18446744073709551616 ∧ (decide (bitF x = bitF x) = true → (x < 18446744073709551616 ∧ y < 18446744073709551616) ∧ x < 18446744073709551616 ∧ y < 18446744073709551616 ∧ ((decide (bitF x = bitF y) == decide (bitF x = bitF y)) = true → Q (AV.one (AC.b true)) []) ∧ ((decide (bitF x = bitF y) == decide (bitF x = bitF y)) = false → Q (AV.one (AC.b false)) [])) ∧ (decide (bitF x = bitF x) = false → Q (AV.one (AC.b false)) [])) ∧ (decide (bitF (drF x) = bitF (drF x)) = false → Q (AV.one (AC.b false)) [])) ∧ (decide (bitF (chF x) = bitF (chF x)) = false → Q (AV.one (AC.b false)) [])) : KRun X 3 0 Q ([.code (bodyOf Try.f3)]) (slots [.one (.f x), .one (.f y)] Try.f3.ntmps) [] :=
  wpRun_ok (hX ▸ baseF_ok T8 mf0 M0) (hX ▸ baseF_call T8_ok M0_ok) (hX ▸ mixed) (hX ▸ ok3) LK_ok (cast (β := wpRun (baseF T8 mf0 M0) [11, 19, 26, 37] [] false (RS.mk Try.f3.results.toList 0 (CS.mk [] [] [] [])) (LK X 3 0 Q true []) Q 2000 ([.code (bodyOf Try.f3)]) (slots [.one (.f x), .one (.f y)] Try.f3.ntmps) []) (by kernel_rfl) h)
set_option maxRecDepth 100000 in
theorem vc4 {X : Ctx} {Q : AV → Mem → Prop} (hX : X.P = Try.prog) (d : Nat) (ws : List AC) (n : Nat) (h : (decide ((300 : Int) < (↑n : Int)) = true → Q (AV.one (AC.b true)) []) ∧ (decide ((300 : Int) < (↑n : Int)) = false → 0 + n * 1 ≤ List.length ws ∧ (d < 18446744073709551616 ∧ okF (List.take (n * 1) (List.drop 0 ws)) n) ∧ 0 + n * 1 ≤ List.length ws ∧ (d < 18446744073709551616 ∧ okF (List.take (n * 1) (List.drop 0 ws)) n) ∧ (decide (pickF d (rowF (List.take (n * 1) (List.drop 0 ws))) = pickF d (rowF (List.take (n * 1) (List.drop 0 ws)))) = true → Q (AV.one (AC.b true)) []) ∧ (decide (pickF d (rowF (List.take (n * 1) (List.drop 0 ws))) = pickF d (rowF (List.take (n * 1) (List.drop 0 ws)))) = false → Q (AV.one (AC.b false)) []))) : KRun X 4 0 Q ([.code (bodyOf Try.f4)]) (slots [.one (.f d), .one (.xs ws 0 n)] Try.f4.ntmps) [] :=
  wpRun_ok (hX ▸ baseF_ok T8 mf0 M0) (hX ▸ baseF_call T8_ok M0_ok) (hX ▸ mixed) (hX ▸ ok4) LK_ok (cast (β := wpRun (baseF T8 mf0 M0) [7, 15] [] false (RS.mk Try.f4.results.toList 0 (CS.mk [] [] [] [])) (LK X 4 0 Q true []) Q 2000 ([.code (bodyOf Try.f4)]) (slots [.one (.f d), .one (.xs ws 0 n)] Try.f4.ntmps) []) (by kernel_rfl) h)
set_option maxRecDepth 100000 in
theorem vc5 {X : Ctx} {Q : AV → Mem → Prop} (hX : X.P = Try.prog) (x : Nat) (n : Int) (d : Nat) (h : (decide ((4503599627370496 : Int) < n) = true → Q (AV.one (AC.b true)) []) ∧ (decide ((4503599627370496 : Int) < n) = false → (x < 18446744073709551616 ∧ n ≤ (4503599627370496 : Int) ∧ d < 18446744073709551616) ∧ (x < 18446744073709551616 ∧ n ≤ (4503599627370496 : Int) ∧ d < 18446744073709551616) ∧ (decide (delF x n d = delF x n d) = true → Q (AV.one (AC.b true)) []) ∧ (decide (delF x n d = delF x n d) = false → Q (AV.one (AC.b false)) []))) : KRun X 5 0 Q ([.code (bodyOf Try.f5)]) (slots [.one (.f x), .one (.i64 n), .one (.f d)] Try.f5.ntmps) [] :=
  wpRun_ok (hX ▸ baseF_ok T8 mf0 M0) (hX ▸ baseF_call T8_ok M0_ok) (hX ▸ mixed) (hX ▸ ok5) LK_ok (cast (β := wpRun (baseF T8 mf0 M0) [8, 18] [] false (RS.mk Try.f5.results.toList 0 (CS.mk [] [] [] [])) (LK X 5 0 Q true []) Q 2000 ([.code (bodyOf Try.f5)]) (slots [.one (.f x), .one (.i64 n), .one (.f d)] Try.f5.ntmps) []) (by kernel_rfl) h)
set_option maxRecDepth 100000 in
theorem vc6 {X : Ctx} {Q : AV → Mem → Prop} (hX : X.P = Try.prog) (x y d : Nat) (h : (x < 18446744073709551616 ∧ d < 18446744073709551616) ∧ (decide (drF d < chF x) = true → (y < 18446744073709551616 ∧ d < 18446744073709551616) ∧ (decide (drF d < chF y) = true → (0 < 18446744073709551616 ∧ d < 18446744073709551616) ∧ (decide (drF d < chF 0) = true → Q (AV.one (AC.b false)) []) ∧ (decide (drF d < chF 0) = false → (4607182418800017408 < 18446744073709551616 ∧ d < 18446744073709551616) ∧ (decide (drF d < chF 4607182418800017408) = true → (18442240474082181120 < 18446744073709551616 ∧ d < 18446744073709551616) ∧ (decide (drF d < chF 18442240474082181120) = true → Q (AV.one (AC.b false)) []) ∧ (decide (drF d < chF 18442240474082181120) = false → (9218868437227405312 < 18446744073709551616 ∧ d < 18446744073709551616) ∧ (decide (drF d < chF 9218868437227405312) = true → ((fOrd y x == some Ordering.gt || fOrd y x == some Ordering.eq) = true → Q (AV.one (AC.b true)) []) ∧ ((fOrd y x == some Ordering.gt || fOrd y x == some Ordering.eq) = false → Q (AV.one (AC.b true)) [])) ∧ (decide (drF d < chF 9218868437227405312) = false → Q (AV.one (AC.b false)) []))) ∧ (decide (drF d < chF 4607182418800017408) = false → Q (AV.one (AC.b false)) []))) ∧ (decide (drF d < chF y) = false → (0 < 18446744073709551616 ∧ d < 18446744073709551616) ∧ (decide (drF d < chF 0) = true → Q (AV.one (AC.b false)) []) ∧ (decide (drF d < chF 0) = false → (4607182418800017408 < 18446744073709551616 ∧ d < 18446744073709551616) ∧ (decide (drF d < chF 4607182418800017408) = true → (18442240474082181120 < 18446744073709551616 ∧ d < 18446744073709551616) ∧ (decide (drF d < chF 18442240474082181120) = true → Q (AV.one (AC.b false)) []) ∧ (decide (drF d < chF 18442240474082181120) = false → (9218868437227405312 < 18446744073709551616 ∧ d < 18446744073709551616) ∧ (decide (drF d < chF 9218868437227405312) = true → ((fOrd y x == some Ordering.gt || fOrd y x == some Ordering.eq) = true → Q (AV.one (AC.b false)) []) ∧ ((fOrd y x == some Ordering.gt || fOrd y x == some Ordering.eq) = false → Q (AV.one (AC.b true)) [])) ∧ (decide (drF d < chF 9218868437227405312) = false → Q (AV.one (AC.b false)) []))) ∧ (decide (drF d < chF 4607182418800017408) = false → Q (AV.one (AC.b false)) [])))) ∧ (decide (drF d < chF x) = false → (y < 18446744073709551616 ∧ d < 18446744073709551616) ∧ (decide (drF d < chF y) = true → (0 < 18446744073709551616 ∧ d < 18446744073709551616) ∧ (decide (drF d < chF 0) = true → Q (AV.one (AC.b false)) []) ∧ (decide (drF d < chF 0) = false → (4607182418800017408 < 18446744073709551616 ∧ d < 18446744073709551616) ∧ (decide (drF d < chF 4607182418800017408) = true → (18442240474082181120 < 18446744073709551616 ∧ d < 18446744073709551616) ∧ (decide (drF d < chF 18442240474082181120) = true → Q (AV.one (AC.b false)) []) ∧ (decide (drF d < chF 18442240474082181120) = false → (9218868437227405312 < 18446744073709551616 ∧ d < 18446744073709551616) ∧ (decide (drF d < chF 9218868437227405312) = true → ((fOrd y x == some Ordering.gt || fOrd y x == some Ordering.eq) = true → Q (AV.one (AC.b true)) []) ∧ ((fOrd y x == some Ordering.gt || fOrd y x == some Ordering.eq) = false → Q (AV.one (AC.b true)) [])) ∧ (decide (drF d < chF 9218868437227405312) = false → Q (AV.one (AC.b false)) []))) ∧ (decide (drF d < chF 4607182418800017408) = false → Q (AV.one (AC.b false)) []))) ∧ (decide (drF d < chF y) = false → (0 < 18446744073709551616 ∧ d < 18446744073709551616) ∧ (decide (drF d < chF 0) = true → Q (AV.one (AC.b false)) []) ∧ (decide (drF d < chF 0) = false → (4607182418800017408 < 18446744073709551616 ∧ d < 18446744073709551616) ∧ (decide (drF d < chF 4607182418800017408) = true → (18442240474082181120 < 18446744073709551616 ∧ d < 18446744073709551616) ∧ (decide (drF d < chF 18442240474082181120) = true → Q (AV.one (AC.b false)) []) ∧ (decide (drF d < chF 18442240474082181120) = false → (9218868437227405312 < 18446744073709551616 ∧ d < 18446744073709551616) ∧ (decide (drF d < chF 9218868437227405312) = true → ((fOrd y x == some Ordering.gt || fOrd y x == some Ordering.eq) = true → Q (AV.one (AC.b true)) []) ∧ ((fOrd y x == some Ordering.gt || fOrd y x == some Ordering.eq) = false → Q (AV.one (AC.b true)) [])) ∧ (decide (drF d < chF 9218868437227405312) = false → Q (AV.one (AC.b false)) []))) ∧ (decide (drF d < chF 4607182418800017408) = false → Q (AV.one (AC.b false)) []))))) : KRun X 6 0 Q ([.code (bodyOf Try.f6)]) (slots [.one (.f x), .one (.f y), .one (.f d)] Try.f6.ntmps) [] :=
  wpRun_ok (hX ▸ baseF_ok T8 mf0 M0) (hX ▸ baseF_call T8_ok M0_ok) (hX ▸ mixed) (hX ▸ ok6) LK_ok (cast (β := wpRun (baseF T8 mf0 M0) [11, 14, 16, 19, 25, 30, 35] [] false (RS.mk Try.f6.results.toList 0 (CS.mk [] [] [] [])) (LK X 6 0 Q true []) Q 2000 ([.code (bodyOf Try.f6)]) (slots [.one (.f x), .one (.f y), .one (.f d)] Try.f6.ntmps) []) (by kernel_rfl) h)
set_option maxRecDepth 100000 in
theorem vc7 {X : Ctx} {Q : AV → Mem → Prop} (hX : X.P = Try.prog) (d : Nat) (ws : List AC) (n : Nat) (h : (decide ((300 : Int) < (↑n : Int)) = true → Q (AV.one (AC.b true)) []) ∧ (decide ((300 : Int) < (↑n : Int)) = false → KR X 7 0 Q (kOf Try.f7 0) (mkS 53 [(0, AV.one (AC.f d)), (1, AV.one (AC.xs ws 0 n)), (5, AV.one (AC.b false)), (13, AV.one (AC.xs ws 0 n)), (14, AV.one (AC.i64 (↑n : Int))), (15, AV.one (AC.i64 (0 : Int)))]) [])) : KRun X 7 0 Q ([.code (bodyOf Try.f7)]) (slots [.one (.f d), .one (.xs ws 0 n)] Try.f7.ntmps) [] :=
  wpRun_ok (hX ▸ baseF_ok T8 mf0 M0) (hX ▸ baseF_call T8_ok M0_ok) (hX ▸ mixed) (hX ▸ ok7) LK_ok (cast (β := wpRun (baseF T8 mf0 M0) [11, 16, 22, 29, 34, 37, 49] [] false (RS.mk Try.f7.results.toList 0 (CS.mk [] [] [] [])) (LK X 7 0 Q true [(5, LS.mk [0, 1, 5, 13, 14, 15] (CS.mk [] [] [] []))]) Q 2000 ([.code (bodyOf Try.f7)]) (slots [.one (.f d), .one (.xs ws 0 n)] Try.f7.ntmps) []) (by kernel_rfl) h)
set_option maxRecDepth 100000 in
theorem vc7a {X : Ctx} {Q : AV → Mem → Prop} (hX : X.P = Try.prog) (d : Nat) (ws : List AC) (n : Nat) (i : Int) (h : (decide (i < (↑n : Int)) = true → ((0 : Int) ≤ i ∧ i < (↑n : Int)) ∧ gt AC.any ws (0 + Int.toNat i * 1) = AC.f (asF (gt AC.any ws (0 + Int.toNat i * 1))) ∧ ((fOrd (asF (gt AC.any ws (0 + Int.toNat i * 1))) 0 == some Ordering.gt) = true → in64 (i + (1 : Int)) ∧ KR X 7 0 Q (kOf Try.f7 0) (mkS 53 [(0, AV.one (AC.f d)), (1, AV.one (AC.xs ws 0 n)), (5, AV.one (AC.b true)), (13, AV.one (AC.xs ws 0 n)), (14, AV.one (AC.i64 (↑n : Int))), (15, AV.one (AC.i64 (i + (1 : Int))))]) []) ∧ ((fOrd (asF (gt AC.any ws (0 + Int.toNat i * 1))) 0 == some Ordering.gt) = false → in64 (i + (1 : Int)) ∧ KR X 7 0 Q (kOf Try.f7 0) (mkS 53 [(0, AV.one (AC.f d)), (1, AV.one (AC.xs ws 0 n)), (5, AV.one (AC.b false)), (13, AV.one (AC.xs ws 0 n)), (14, AV.one (AC.i64 (↑n : Int))), (15, AV.one (AC.i64 (i + (1 : Int))))]) [])) ∧ (decide (i < (↑n : Int)) = false → 0 + n * 1 ≤ List.length ws ∧ (d < 18446744073709551616 ∧ okF (List.take (n * 1) (List.drop 0 ws)) n) ∧ (decide (pickF d (rowF (List.take (n * 1) (List.drop 0 ws))) < (0 : Int)) = true → (decide (pickF d (rowF (List.take (n * 1) (List.drop 0 ws))) = (-1 : Int)) = true → Q (AV.one (AC.b true)) []) ∧ (decide (pickF d (rowF (List.take (n * 1) (List.drop 0 ws))) = (-1 : Int)) = false → Q (AV.one (AC.b false)) [])) ∧ (decide (pickF d (rowF (List.take (n * 1) (List.drop 0 ws))) < (0 : Int)) = false → (decide ((↑n : Int) ≤ pickF d (rowF (List.take (n * 1) (List.drop 0 ws)))) = true → (decide (pickF d (rowF (List.take (n * 1) (List.drop 0 ws))) = (-1 : Int)) = true → Q (AV.one (AC.b true)) []) ∧ (decide (pickF d (rowF (List.take (n * 1) (List.drop 0 ws))) = (-1 : Int)) = false → Q (AV.one (AC.b false)) [])) ∧ (decide ((↑n : Int) ≤ pickF d (rowF (List.take (n * 1) (List.drop 0 ws)))) = false → ((0 : Int) ≤ pickF d (rowF (List.take (n * 1) (List.drop 0 ws))) ∧ pickF d (rowF (List.take (n * 1) (List.drop 0 ws))) < (↑n : Int)) ∧ gt AC.any ws (0 + Int.toNat (pickF d (rowF (List.take (n * 1) (List.drop 0 ws)))) * 1) = AC.f (asF (gt AC.any ws (0 + Int.toNat (pickF d (rowF (List.take (n * 1) (List.drop 0 ws)))) * 1))) ∧ ((fOrd (asF (gt AC.any ws (0 + Int.toNat (pickF d (rowF (List.take (n * 1) (List.drop 0 ws)))) * 1))) 0 == some Ordering.gt) = true → Q (AV.one (AC.b true)) []) ∧ ((fOrd (asF (gt AC.any ws (0 + Int.toNat (pickF d (rowF (List.take (n * 1) (List.drop 0 ws)))) * 1))) 0 == some Ordering.gt) = false → Q (AV.one (AC.b false)) []))))) : KRun X 7 0 Q (kOf Try.f7 0) (mkS 53 [(0, .one (.f d)), (1, .one (.xs ws 0 n)), (5, .one (.b false)), (13, .one (.xs ws 0 n)), (14, .one (.i64 n)), (15, .one (.i64 i))]) [] :=
  wpRun_ok (hX ▸ baseF_ok T8 mf0 M0) (hX ▸ baseF_call T8_ok M0_ok) (hX ▸ mixed) (hX ▸ ok7) LK_ok (cast (β := wpRun (baseF T8 mf0 M0) [11, 16, 22, 29, 34, 37, 49] [] false (RS.mk Try.f7.results.toList 0 (CS.mk [] [] [] [])) (LK X 7 0 Q true [(5, LS.mk [0, 1, 5, 13, 14, 15] (CS.mk [] [] [] []))]) Q 2000 (kOf Try.f7 0) (mkS 53 [(0, .one (.f d)), (1, .one (.xs ws 0 n)), (5, .one (.b false)), (13, .one (.xs ws 0 n)), (14, .one (.i64 n)), (15, .one (.i64 i))]) []) (by kernel_rfl) h)
set_option maxRecDepth 100000 in
theorem vc7b {X : Ctx} {Q : AV → Mem → Prop} (hX : X.P = Try.prog) (d : Nat) (ws : List AC) (n : Nat) (i : Int) (h : (decide (i < (↑n : Int)) = true → ((0 : Int) ≤ i ∧ i < (↑n : Int)) ∧ gt AC.any ws (0 + Int.toNat i * 1) = AC.f (asF (gt AC.any ws (0 + Int.toNat i * 1))) ∧ in64 (i + (1 : Int)) ∧ KR X 7 0 Q (kOf Try.f7 0) (mkS 53 [(0, AV.one (AC.f d)), (1, AV.one (AC.xs ws 0 n)), (5, AV.one (AC.b true)), (13, AV.one (AC.xs ws 0 n)), (14, AV.one (AC.i64 (↑n : Int))), (15, AV.one (AC.i64 (i + (1 : Int))))]) []) ∧ (decide (i < (↑n : Int)) = false → 0 + n * 1 ≤ List.length ws ∧ (d < 18446744073709551616 ∧ okF (List.take (n * 1) (List.drop 0 ws)) n) ∧ (decide (pickF d (rowF (List.take (n * 1) (List.drop 0 ws))) < (0 : Int)) = true → (decide (pickF d (rowF (List.take (n * 1) (List.drop 0 ws))) = (-1 : Int)) = true → Q (AV.one (AC.b false)) []) ∧ (decide (pickF d (rowF (List.take (n * 1) (List.drop 0 ws))) = (-1 : Int)) = false → Q (AV.one (AC.b false)) [])) ∧ (decide (pickF d (rowF (List.take (n * 1) (List.drop 0 ws))) < (0 : Int)) = false → (decide ((↑n : Int) ≤ pickF d (rowF (List.take (n * 1) (List.drop 0 ws)))) = true → (decide (pickF d (rowF (List.take (n * 1) (List.drop 0 ws))) = (-1 : Int)) = true → Q (AV.one (AC.b false)) []) ∧ (decide (pickF d (rowF (List.take (n * 1) (List.drop 0 ws))) = (-1 : Int)) = false → Q (AV.one (AC.b false)) [])) ∧ (decide ((↑n : Int) ≤ pickF d (rowF (List.take (n * 1) (List.drop 0 ws)))) = false → ((0 : Int) ≤ pickF d (rowF (List.take (n * 1) (List.drop 0 ws))) ∧ pickF d (rowF (List.take (n * 1) (List.drop 0 ws))) < (↑n : Int)) ∧ gt AC.any ws (0 + Int.toNat (pickF d (rowF (List.take (n * 1) (List.drop 0 ws)))) * 1) = AC.f (asF (gt AC.any ws (0 + Int.toNat (pickF d (rowF (List.take (n * 1) (List.drop 0 ws)))) * 1))) ∧ ((fOrd (asF (gt AC.any ws (0 + Int.toNat (pickF d (rowF (List.take (n * 1) (List.drop 0 ws)))) * 1))) 0 == some Ordering.gt) = true → Q (AV.one (AC.b true)) []) ∧ ((fOrd (asF (gt AC.any ws (0 + Int.toNat (pickF d (rowF (List.take (n * 1) (List.drop 0 ws)))) * 1))) 0 == some Ordering.gt) = false → Q (AV.one (AC.b false)) []))))) : KRun X 7 0 Q (kOf Try.f7 0) (mkS 53 [(0, .one (.f d)), (1, .one (.xs ws 0 n)), (5, .one (.b true)), (13, .one (.xs ws 0 n)), (14, .one (.i64 n)), (15, .one (.i64 i))]) [] :=
  wpRun_ok (hX ▸ baseF_ok T8 mf0 M0) (hX ▸ baseF_call T8_ok M0_ok) (hX ▸ mixed) (hX ▸ ok7) LK_ok (cast (β := wpRun (baseF T8 mf0 M0) [11, 16, 22, 29, 34, 37, 49] [] false (RS.mk Try.f7.results.toList 0 (CS.mk [] [] [] [])) (LK X 7 0 Q true [(5, LS.mk [0, 1, 5, 13, 14, 15] (CS.mk [] [] [] []))]) Q 2000 (kOf Try.f7 0) (mkS 53 [(0, .one (.f d)), (1, .one (.xs ws 0 n)), (5, .one (.b true)), (13, .one (.xs ws 0 n)), (14, .one (.i64 n)), (15, .one (.i64 i))]) []) (by kernel_rfl) h)
set_option maxRecDepth 100000 in
theorem vc8 {X : Ctx} {Q : AV → Mem → Prop} (hX : X.P = Try.prog) (x y d : Nat) (h : (x < 18446744073709551616 ∧ d < 18446744073709551616) ∧ (x < 18446744073709551616 ∧ d < 18446744073709551616) ∧ ((decide (drF d < chF x) == decide (drF d < chF x)) = true → (x < 18446744073709551616 ∧ y < 18446744073709551616 ∧ d < 18446744073709551616) ∧ mixF x y d < 18446744073709551616 ∧ (x < 18446744073709551616 ∧ y < 18446744073709551616 ∧ d < 18446744073709551616) ∧ mixF x y d < 18446744073709551616 ∧ (decide (bitF (mixF x y d) = bitF (mixF x y d)) = true → Q (AV.one (AC.b true)) []) ∧ (decide (bitF (mixF x y d) = bitF (mixF x y d)) = false → Q (AV.one (AC.b false)) [])) ∧ ((decide (drF d < chF x) == decide (drF d < chF x)) = false → Q (AV.one (AC.b false)) [])) : KRun X 8 0 Q ([.code (bodyOf Try.f8)]) (slots [.one (.f x), .one (.f y), .one (.f d)] Try.f8.ntmps) [] :=
  wpRun_ok (hX ▸ baseF_ok T8 mf0 M0) (hX ▸ baseF_call T8_ok M0_ok) (hX ▸ mixed) (hX ▸ ok8) LK_ok (cast (β := wpRun (baseF T8 mf0 M0) [13, 25] [] false (RS.mk Try.f8.results.toList 0 (CS.mk [] [] [] [])) (LK X 8 0 Q true []) Q 2000 ([.code (bodyOf Try.f8)]) (slots [.one (.f x), .one (.f y), .one (.f d)] Try.f8.ntmps) []) (by kernel_rfl) h)
set_option maxRecDepth 100000 in
theorem vc9 {X : Ctx} {Q : AV → Mem → Prop} (hX : X.P = Try.prog) (x : Nat) (n : Int) (d : Nat) (h : (decide ((4503599627370496 : Int) < n) = true → Q (AV.one (AC.b true)) []) ∧ (decide ((4503599627370496 : Int) < n) = false → (x < 18446744073709551616 ∧ n ≤ (4503599627370496 : Int) ∧ d < 18446744073709551616) ∧ (decide (delF x n d < (0 : Int)) = true → Q (AV.one (AC.b false)) []) ∧ (decide (delF x n d < (0 : Int)) = false → (decide (max n (0 : Int) < delF x n d) = true → Q (AV.one (AC.b false)) []) ∧ (decide (max n (0 : Int) < delF x n d) = false → (decide (n < (1 : Int)) = true → ((decide (delF x n d = (0 : Int)) != true) = true → Q (AV.one (AC.b false)) []) ∧ ((decide (delF x n d = (0 : Int)) != true) = false → x < 18446744073709551616 ∧ d < 18446744073709551616 ∧ (x < 18446744073709551616 ∧ d < 18446744073709551616 ∧ 4602678819172646912 < 18446744073709551616) ∧ ((fOrd (chF x) 0 == some Ordering.gt || fOrd (chF x) 0 == some Ordering.eq) = true → ((fOrd (chF x) 4607182418800017408 == some Ordering.lt || fOrd (chF x) 4607182418800017408 == some Ordering.eq) = true → ((fOrd (drF d) 0 == some Ordering.gt || fOrd (drF d) 0 == some Ordering.eq) = true → ((fOrd (drF d) 4607182418800017408 == some Ordering.lt) = true → chF x < 18446744073709551616 ∧ (chF (chF x) < 18446744073709551616 ∧ chF x < 18446744073709551616) ∧ (decide (bitF (chF (chF x)) = bitF (chF x)) = true → drF d < 18446744073709551616 ∧ (drF (drF d) < 18446744073709551616 ∧ drF d < 18446744073709551616) ∧ (decide (bitF (drF (drF d)) = bitF (drF d)) = true → ((fOrd (mixF x d 4602678819172646912) 0 == some Ordering.gt || fOrd (mixF x d 4602678819172646912) 0 == some Ordering.eq) = true → ((fOrd (mixF x d 4602678819172646912) 4607182418800017408 == some Ordering.lt || fOrd (mixF x d 4602678819172646912) 4607182418800017408 == some Ordering.eq) = true → Q (AV.one (AC.b true)) []) ∧ ((fOrd (mixF x d 4602678819172646912) 4607182418800017408 == some Ordering.lt || fOrd (mixF x d 4602678819172646912) 4607182418800017408 == some Ordering.eq) = false → Q (AV.one (AC.b false)) [])) ∧ ((fOrd (mixF x d 4602678819172646912) 0 == some Ordering.gt || fOrd (mixF x d 4602678819172646912) 0 == some Ordering.eq) = false → Q (AV.one (AC.b false)) [])) ∧ (decide (bitF (drF (drF d)) = bitF (drF d)) = false → Q (AV.one (AC.b false)) [])) ∧ (decide (bitF (chF (chF x)) = bitF (chF x)) = false → Q (AV.one (AC.b false)) [])) ∧ ((fOrd (drF d) 4607182418800017408 == some Ordering.lt) = false → Q (AV.one (AC.b false)) [])) ∧ ((fOrd (drF d) 0 == some Ordering.gt || fOrd (drF d) 0 == some Ordering.eq) = false → Q (AV.one (AC.b false)) [])) ∧ ((fOrd (chF x) 4607182418800017408 == some Ordering.lt || fOrd (chF x) 4607182418800017408 == some Ordering.eq) = false → Q (AV.one (AC.b false)) [])) ∧ ((fOrd (chF x) 0 == some Ordering.gt || fOrd (chF x) 0 == some Ordering.eq) = false → Q (AV.one (AC.b false)) []))) ∧ (decide (n < (1 : Int)) = false → ((decide (delF x n d = (0 : Int)) != !fOrd x 0 == some Ordering.gt) = true → Q (AV.one (AC.b false)) []) ∧ ((decide (delF x n d = (0 : Int)) != !fOrd x 0 == some Ordering.gt) = false → x < 18446744073709551616 ∧ d < 18446744073709551616 ∧ (x < 18446744073709551616 ∧ d < 18446744073709551616 ∧ 4602678819172646912 < 18446744073709551616) ∧ ((fOrd (chF x) 0 == some Ordering.gt || fOrd (chF x) 0 == some Ordering.eq) = true → ((fOrd (chF x) 4607182418800017408 == some Ordering.lt || fOrd (chF x) 4607182418800017408 == some Ordering.eq) = true → ((fOrd (drF d) 0 == some Ordering.gt || fOrd (drF d) 0 == some Ordering.eq) = true → ((fOrd (drF d) 4607182418800017408 == some Ordering.lt) = true → chF x < 18446744073709551616 ∧ (chF (chF x) < 18446744073709551616 ∧ chF x < 18446744073709551616) ∧ (decide (bitF (chF (chF x)) = bitF (chF x)) = true → drF d < 18446744073709551616 ∧ (drF (drF d) < 18446744073709551616 ∧ drF d < 18446744073709551616) ∧ (decide (bitF (drF (drF d)) = bitF (drF d)) = true → ((fOrd (mixF x d 4602678819172646912) 0 == some Ordering.gt || fOrd (mixF x d 4602678819172646912) 0 == some Ordering.eq) = true → ((fOrd (mixF x d 4602678819172646912) 4607182418800017408 == some Ordering.lt || fOrd (mixF x d 4602678819172646912) 4607182418800017408 == some Ordering.eq) = true → Q (AV.one (AC.b true)) []) ∧ ((fOrd (mixF x d 4602678819172646912) 4607182418800017408 == some Ordering.lt || fOrd (mixF x d 4602678819172646912) 4607182418800017408 == some Ordering.eq) = false → Q (AV.one (AC.b false)) [])) ∧ ((fOrd (mixF x d 4602678819172646912) 0 == some Ordering.gt || fOrd (mixF x d 4602678819172646912) 0 == some Ordering.eq) = false → Q (AV.one (AC.b false)) [])) ∧ (decide (bitF (drF (drF d)) = bitF (drF d)) = false → Q (AV.one (AC.b false)) [])) ∧ (decide (bitF (chF (chF x)) = bitF (chF x)) = false → Q (AV.one (AC.b false)) [])) ∧ ((fOrd (drF d) 4607182418800017408 == some Ordering.lt) = false → Q (AV.one (AC.b false)) [])) ∧ ((fOrd (drF d) 0 == some Ordering.gt || fOrd (drF d) 0 == some Ordering.eq) = false → Q (AV.one (AC.b false)) [])) ∧ ((fOrd (chF x) 4607182418800017408 == some Ordering.lt || fOrd (chF x) 4607182418800017408 == some Ordering.eq) = false → Q (AV.one (AC.b false)) [])) ∧ ((fOrd (chF x) 0 == some Ordering.gt || fOrd (chF x) 0 == some Ordering.eq) = false → Q (AV.one (AC.b false)) []))))))) : KRun X 9 0 Q ([.code (bodyOf Try.f9)]) (slots [.one (.f x), .one (.i64 n), .one (.f d)] Try.f9.ntmps) [] :=
  wpRun_ok (hX ▸ baseF_ok T8 mf0 M0) (hX ▸ baseF_call T8_ok M0_ok) (hX ▸ mixed) (hX ▸ ok9) LK_ok (cast (β := wpRun (baseF T8 mf0 M0) [12, 19, 24, 30, 36, 46, 49, 53, 57, 63, 69, 73, 77] [] false (RS.mk Try.f9.results.toList 0 (CS.mk [] [] [] [])) (LK X 9 0 Q true []) Q 2000 ([.code (bodyOf Try.f9)]) (slots [.one (.f x), .one (.i64 n), .one (.f d)] Try.f9.ntmps) []) (by kernel_rfl) h)
end DH

noncomputable section
namespace DH
open Go Go.Proofs
theorem s3 (x y : Nat) (hx : x < 18446744073709551616) (hy : y < 18446744073709551616) : Spec Try.prog 3 [.one (.f x), .one (.f y)] [] (Is (.one (.b true))) := by
  have c := chF_le x
  have d := drF_le x
  have t : ∀ a : BitVec 64, ¬ decide (a = a) = false := fun a h => by rw [decide_eq_true rfl] at h; cases h
  refine Spec.of_run ok3 fun X hX => vc3 hX _ _ ⟨hx, by omega, hx, by omega, fun _ => ⟨hx, by omega, hx, by omega, fun _ => ⟨hx, hx, fun _ => ⟨⟨hx, hy⟩, hx, hy, fun _ => rfl, fun h => ?_⟩, fun h => absurd h (t _)⟩, fun h => absurd h (t _)⟩, fun h => absurd h (t _)⟩
  rw [beq_self_eq_true] at h; cases h
theorem rowF_map (ws : List Nat) : rowF (List.take (ws.length * 1) (List.drop 0 (ws.map AC.f))) = ws := by
  rw [Nat.mul_one, List.drop_zero, List.take_of_length_le (by rw [List.length_map]; exact Nat.le_refl _)]
  unfold rowF
  rw [List.map_map]
  exact List.map_id ws
theorem okF_map {ws : List Nat} (hw : ∀ x ∈ ws, x < 18446744073709551616) (hn : ws.length ≤ 300) : okF (List.take (ws.length * 1) (List.drop 0 (ws.map AC.f))) ws.length := by
  unfold okF
  rw [rowF_map, Nat.mul_one, List.drop_zero, List.take_of_length_le (by rw [List.length_map]; exact Nat.le_refl _), List.length_map]
  exact ⟨rfl, hw, rfl, hn⟩
theorem len_map (ws : List Nat) : 0 + ws.length * 1 ≤ (ws.map AC.f).length := by rw [List.length_map]; omega
theorem s4 (d : Nat) (ws : List Nat) (hd : d < 18446744073709551616) (hw : ∀ x ∈ ws, x < 18446744073709551616) : Spec Try.prog 4 [.one (.f d), .one (.xs (ws.map AC.f) 0 ws.length)] [] (Is (.one (.b true))) := by
  refine Spec.of_run ok4 fun X hX => vc4 hX _ _ _ ⟨fun _ => rfl, fun h => ?_⟩
  have h := of_decide_eq_false h
  have ok := okF_map hw (by omega)
  refine ⟨len_map ws, ⟨hd, ok⟩, len_map ws, ⟨hd, ok⟩, fun _ => rfl, fun h => ?_⟩
  rw [decide_eq_true rfl] at h; cases h
theorem s5 (x : Nat) (n : Int) (d : Nat) (hx : x < 18446744073709551616) (hd : d < 18446744073709551616) : Spec Try.prog 5 [.one (.f x), .one (.i64 n), .one (.f d)] [] (Is (.one (.b true))) := by
  refine Spec.of_run ok5 fun X hX => vc5 hX _ _ _ ⟨fun _ => rfl, fun h => ?_⟩
  have h := of_decide_eq_false h
  refine ⟨⟨hx, by omega, hd⟩, ⟨hx, by omega, hd⟩, fun _ => rfl, fun h => ?_⟩
  rw [decide_eq_true rfl] at h; cases h
theorem s6 (x y d : Nat) (hx : x < 18446744073709551616) (hy : y < 18446744073709551616) (hd : d < 18446744073709551616) : Spec Try.prog 6 [.one (.f x), .one (.f y), .one (.f d)] [] (Is (.one (.b true))) := by
  have l := drF_le d
  have f1 : ¬ decide (drF d < chF 0) = true := fun h => by have h := of_decide_eq_true h; rw [show chF 0 = 0 from rfl] at h; omega
  have f2 : ¬ decide (drF d < chF 4607182418800017408) = false := fun h => by have h := of_decide_eq_false h; rw [show chF 4607182418800017408 = 4607182418800017408 by kernel_rfl] at h; omega
  have f3 : ¬ decide (drF d < chF 18442240474082181120) = true := fun h => by have h := of_decide_eq_true h; rw [show chF 18442240474082181120 = 0 by kernel_rfl] at h; omega
  have f4 : ¬ decide (drF d < chF 9218868437227405312) = false := fun h => by have h := of_decide_eq_false h; rw [show chF 9218868437227405312 = 4607182418800017408 by kernel_rfl] at h; omega
  refine Spec.of_run ok6 fun X hX => vc6 hX _ _ _ ⟨⟨hx, hd⟩, fun g => ⟨⟨hy, hd⟩, fun _ => ?_, fun g2 => ?_⟩, fun g => ⟨⟨hy, hd⟩, fun _ => ?_, fun g2 => ?_⟩⟩
  · exact ⟨⟨by omega, hd⟩, fun h => absurd h f1, fun _ => ⟨⟨by omega, hd⟩, fun _ => ⟨⟨by omega, hd⟩, fun h => absurd h f3, fun _ => ⟨⟨by omega, hd⟩, fun _ => ⟨fun _ => rfl, fun _ => rfl⟩, fun h => absurd h f4⟩⟩, fun h => absurd h f2⟩⟩
  · refine ⟨⟨by omega, hd⟩, fun h => absurd h f1, fun _ => ⟨⟨by omega, hd⟩, fun _ => ⟨⟨by omega, hd⟩, fun h => absurd h f3, fun _ => ⟨⟨by omega, hd⟩, fun _ => ⟨fun k => ?_, fun _ => rfl⟩, fun h => absurd h f4⟩⟩, fun h => absurd h f2⟩⟩
    have := ge_ch hx hy k
    have g := of_decide_eq_true g
    have g2 := of_decide_eq_false g2
    omega
  · exact ⟨⟨by omega, hd⟩, fun h => absurd h f1, fun _ => ⟨⟨by omega, hd⟩, fun _ => ⟨⟨by omega, hd⟩, fun h => absurd h f3, fun _ => ⟨⟨by omega, hd⟩, fun _ => ⟨fun _ => rfl, fun _ => rfl⟩, fun h => absurd h f4⟩⟩, fun h => absurd h f2⟩⟩
  · exact ⟨⟨by omega, hd⟩, fun h => absurd h f1, fun _ => ⟨⟨by omega, hd⟩, fun _ => ⟨⟨by omega, hd⟩, fun h => absurd h f3, fun _ => ⟨⟨by omega, hd⟩, fun _ => ⟨fun _ => rfl, fun _ => rfl⟩, fun h => absurd h f4⟩⟩, fun h => absurd h f2⟩⟩
theorem gt_pos {ws : List Nat} (hw : ∀ x ∈ ws, x < 18446744073709551616) (j : Nat) : (fOrd (ws.getD j 0) 0 == some Ordering.gt) = decide (0 < wAt ws j) := by
  rw [fgt_any (getD_lt hw j) (by omega)]
  exact decide_eq_decide.2 (wF_pos _).symm
theorem l7b {X : Ctx} (hX : X.P = Try.prog) (d : Nat) (hd : d < 18446744073709551616) (ws : List Nat) (hw : ∀ x ∈ ws, x < 18446744073709551616) (hn : ws.length ≤ 300) (j : Nat) (hj : j < ws.length) (h0 : 0 < wAt ws j) : ∀ (k i : Nat), i + k = ws.length →
    KRun X 7 0 (Is (.one (.b true))) (kOf Try.f7 0) (mkS 53 [(0, .one (.f d)), (1, .one (.xs (ws.map AC.f) 0 ws.length)), (5, .one (.b true)), (13, .one (.xs (ws.map AC.f) 0 ws.length)), (14, .one (.i64 (ws.length : Nat))), (15, .one (.i64 (i : Nat)))]) [] := by
  intro k
  induction k with
  | zero =>
    intro i hi
    refine vc7b hX _ _ _ _ ⟨fun h => absurd (of_decide_eq_true h) (by omega), fun _ => ?_⟩
    rw [rowF_map]
    rcases pkF_ok ws (ltA d (sumN ws ws.length)) ws.length 0 ws.length (by omega) with ⟨_, g⟩ | ⟨a, g1, g2, g3⟩
    · have := g j hj; omega
    · have g2 : pickF d ws = (a : Int) := g2
      rw [g2]
      refine ⟨len_map ws, ⟨hd, okF_map hw hn⟩, fun h => absurd (of_decide_eq_true h) (by omega), fun _ => ⟨fun h => absurd (of_decide_eq_true h) (by omega), fun _ => ⟨⟨by omega, by omega⟩, ?_⟩⟩⟩
      rw [gt_f ws g1]
      refine ⟨rfl, fun _ => rfl, fun h => ?_⟩
      have e : (fOrd (asF (AC.f (ws.getD a 0))) 0 == some Ordering.gt) = decide (0 < wAt ws a) := gt_pos hw a
      rw [e, decide_eq_true g3] at h
      cases h
  | succ k ih =>
    intro i hi
    refine vc7b hX _ _ _ _ ⟨fun _ => ?_, fun h => absurd (of_decide_eq_false h) (by omega)⟩
    have ih := ih (i + 1) (by omega)
    rw [gt_f ws (by omega : i < ws.length)]
    have e : ((i + 1 : Nat) : Int) = (i : Int) + 1 := by omega
    rw [e] at ih
    exact ⟨⟨by omega, by omega⟩, rfl, by unfold in64; omega, ⟨ih⟩⟩
theorem l7a {X : Ctx} (hX : X.P = Try.prog) (d : Nat) (hd : d < 18446744073709551616) (ws : List Nat) (hw : ∀ x ∈ ws, x < 18446744073709551616) (hn : ws.length ≤ 300) : ∀ (k i : Nat), i + k = ws.length → (∀ j, j < i → wAt ws j = 0) →
    KRun X 7 0 (Is (.one (.b true))) (kOf Try.f7 0) (mkS 53 [(0, .one (.f d)), (1, .one (.xs (ws.map AC.f) 0 ws.length)), (5, .one (.b false)), (13, .one (.xs (ws.map AC.f) 0 ws.length)), (14, .one (.i64 (ws.length : Nat))), (15, .one (.i64 (i : Nat)))]) [] := by
  intro k
  induction k with
  | zero =>
    intro i hi hz
    refine vc7a hX _ _ _ _ ⟨fun h => absurd (of_decide_eq_true h) (by omega), fun _ => ?_⟩
    rw [rowF_map]
    rcases pkF_ok ws (ltA d (sumN ws ws.length)) ws.length 0 ws.length (by omega) with ⟨g, _⟩ | ⟨a, g1, g2, g3⟩
    · have g : pickF d ws = -1 := g
      rw [g]
      exact ⟨len_map ws, ⟨hd, okF_map hw hn⟩, fun _ => ⟨fun _ => rfl, fun h => absurd (of_decide_eq_false h) (by omega)⟩, fun h => absurd (of_decide_eq_false h) (by omega)⟩
    · have := hz a (by omega); omega
  | succ k ih =>
    intro i hi hz
    refine vc7a hX _ _ _ _ ⟨fun _ => ?_, fun h => absurd (of_decide_eq_false h) (by omega)⟩
    rw [gt_f ws (by omega : i < ws.length)]
    have e : ((i + 1 : Nat) : Int) = (i : Int) + 1 := by omega
    have e1 : (fOrd (asF (AC.f (ws.getD i 0))) 0 == some Ordering.gt) = decide (0 < wAt ws i) := gt_pos hw i
    rw [e1]
    refine ⟨⟨by omega, by omega⟩, rfl, fun g => ⟨by unfold in64; omega, ?_⟩, fun g => ⟨by unfold in64; omega, ?_⟩⟩
    · have l := l7b hX d hd ws hw hn i (by omega) (of_decide_eq_true g) k (i + 1) (by omega)
      rw [e] at l
      exact ⟨l⟩
    · have l := ih (i + 1) (by omega) (fun j hj => by
        rcases Nat.eq_or_lt_of_le (Nat.le_of_lt_succ hj) with h | h
        · subst h; have := of_decide_eq_false g; omega
        · exact hz j h)
      rw [e] at l
      exact ⟨l⟩
theorem s7 (d : Nat) (ws : List Nat) (hd : d < 18446744073709551616) (hw : ∀ x ∈ ws, x < 18446744073709551616) : Spec Try.prog 7 [.one (.f d), .one (.xs (ws.map AC.f) 0 ws.length)] [] (Is (.one (.b true))) := by
  refine Spec.of_run ok7 fun X hX => vc7 hX _ _ _ ⟨fun _ => rfl, fun h => ⟨?_⟩⟩
  have h := of_decide_eq_false h
  exact l7a hX d hd ws hw (by omega) ws.length 0 (by omega) (fun j hj => absurd hj (Nat.not_lt_zero _))
theorem s8 (x y d : Nat) (hx : x < 18446744073709551616) (hy : y < 18446744073709551616) (hd : d < 18446744073709551616) : Spec Try.prog 8 [.one (.f x), .one (.f y), .one (.f d)] [] (Is (.one (.b true))) := by
  have l := mixF_le x y d
  refine Spec.of_run ok8 fun X hX => vc8 hX _ _ _ ⟨⟨hx, hd⟩, ⟨hx, hd⟩, fun _ => ⟨⟨hx, hy, hd⟩, by omega, ⟨hx, hy, hd⟩, by omega, fun _ => rfl, fun h => ?_⟩, fun h => ?_⟩
  · rw [decide_eq_true rfl] at h; cases h
  · rw [beq_self_eq_true] at h; cases h
theorem s9 (x : Nat) (n : Int) (d : Nat) (hx : x < 18446744073709551616) (hd : d < 18446744073709551616) : Spec Try.prog 9 [.one (.f x), .one (.i64 n), .one (.f d)] [] (Is (.one (.b true))) := by
  have lc := chF_le x
  have ld := drF_le d
  have lm := mix_half x d
  have a1 := fge0 (x := chF x) (by omega)
  have a2 := fle_pos (x := chF x) (y := 4607182418800017408) (by omega) (by omega)
  rw [decide_eq_true lc] at a2
  have a3 := fge0 (x := drF d) (by omega)
  have a4 := flt_pos (x := drF d) (y := 4607182418800017408) (by omega) (by omega)
  rw [decide_eq_true (by omega)] at a4
  have a5 := fge0 (x := mixF x d 4602678819172646912) (by omega)
  have a6 := fle_pos (x := mixF x d 4602678819172646912) (y := 4607182418800017408) (by omega) (by omega)
  rw [decide_eq_true lm] at a6
  have a7 := fgt_any hx (y := 0) (by omega)
  refine Spec.of_run ok9 fun X hX => vc9 hX _ _ _ ⟨fun _ => rfl, fun h => ?_⟩
  have h := of_decide_eq_false h
  rw [a1, a2, a3, a4, a5, a6, a7, chF_idem, drF_idem]
  have bad : ∀ {P : Prop}, true = false → P := fun h => by cases h
  have bad2 : ∀ {P : Prop} {a : BitVec 64}, decide (a = a) = false → P := fun h => by rw [decide_eq_true rfl] at h; cases h
  have D : 0 ≤ delF x n d ∧ delF x n d ≤ max n 0 ∧ (delF x n d = 0 ↔ (n < 1 ∨ ¬ (x ≤ 9218868437227405312 ∧ 0 < x))) := by
    by_cases g : n < 1
    · rw [delF_none g]; exact ⟨by omega, by omega, ⟨fun _ => .inl g, fun _ => rfl⟩⟩
    · by_cases k : x ≤ 9218868437227405312 ∧ 0 < x
      · have := delF_some (d := d) (by omega : 1 ≤ n) (by omega) k
        exact ⟨by omega, by omega, ⟨fun _ => by omega, fun h => by rcases h with h | h; exact absurd h g; exact absurd k h⟩⟩
      · rw [delF_zero k]; exact ⟨by omega, by omega, ⟨fun _ => .inr k, fun _ => rfl⟩⟩
  obtain ⟨d1, d2, d3⟩ := D
  have rest : x < 18446744073709551616 ∧ d < 18446744073709551616 ∧ (x < 18446744073709551616 ∧ d < 18446744073709551616 ∧ 4602678819172646912 < 18446744073709551616) ∧ chF x < 18446744073709551616 ∧ drF d < 18446744073709551616 := ⟨hx, hd, ⟨hx, hd, by omega⟩, by omega, by omega⟩
  obtain ⟨r1, r2, r3, r4, r5⟩ := rest
  refine ⟨⟨hx, by omega, hd⟩, fun g => absurd (of_decide_eq_true g) (by omega), fun _ => ⟨fun g => absurd (of_decide_eq_true g) (by omega), fun _ => ⟨fun g => ⟨fun k => ?_, fun _ => ?_⟩, fun g => ⟨fun k => ?_, fun _ => ?_⟩⟩⟩⟩
  · rw [decide_eq_true (d3.2 (.inl (of_decide_eq_true g)))] at k; cases k
  · exact ⟨r1, r2, r3, fun _ => ⟨fun _ => ⟨fun _ => ⟨fun _ => ⟨r4, ⟨r4, r4⟩, fun _ => ⟨r5, ⟨r5, r5⟩, fun _ => ⟨fun _ => ⟨fun _ => rfl, bad⟩, bad⟩, bad2⟩, bad2⟩, bad⟩, bad⟩, bad⟩, bad⟩
  · have g := of_decide_eq_false g
    have e : decide (delF x n d = 0) = !decide (x ≤ 9218868437227405312 ∧ 0 < x) := by
      rw [← decide_not]
      refine decide_eq_decide.2 (d3.trans ⟨fun h => h.resolve_left g, .inr⟩)
    rw [e] at k
    simp at k
  · exact ⟨r1, r2, r3, fun _ => ⟨fun _ => ⟨fun _ => ⟨fun _ => ⟨r4, ⟨r4, r4⟩, fun _ => ⟨r5, ⟨r5, r5⟩, fun _ => ⟨fun _ => ⟨fun _ => rfl, bad⟩, bad⟩, bad2⟩, bad2⟩, bad⟩, bad⟩, bad⟩, bad⟩
theorem fl_map (l : List Nat) : List.flatMap (fun n => [AC.f n]) l = l.map AC.f := by
  induction l with
  | nil => rfl
  | cons x l ih => rw [List.flatMap_cons, ih]; rfl
theorem s4w (d : Nat) (ws : List Nat) (hd : d < 18446744073709551616) (hw : ws.length ≤ maxLen ∧ ∀ x, List.Mem x ws → x < 18446744073709551616) : Spec Try.prog 4 [.one (.f d), .one (.xs (List.flatMap (fun n => [AC.f n]) ws) 0 ws.length)] [] (Is (.one (.b true))) := by
  rw [fl_map]; exact s4 d ws hd (fun x h => hw.2 x h)
theorem s7w (d : Nat) (ws : List Nat) (hd : d < 18446744073709551616) (hw : ws.length ≤ maxLen ∧ ∀ x, List.Mem x ws → x < 18446744073709551616) : Spec Try.prog 7 [.one (.f d), .one (.xs (List.flatMap (fun n => [AC.f n]) ws) 0 ws.length)] [] (Is (.one (.b true))) := by
  rw [fl_map]; exact s7 d ws hd (fun x h => hw.2 x h)
end DH
