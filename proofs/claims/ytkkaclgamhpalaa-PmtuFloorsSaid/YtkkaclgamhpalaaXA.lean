/- Walks of functions, each by evaluation: what each returns; with the layer beneath. -/
import Derived.Test.YtkkaclgamhpalaaTr5
import Derived.Test.YtkkaclgamhpalaaLC
set_option linter.unusedVariables false
set_option linter.unusedSimpArgs false
noncomputable section
namespace DH
open Go Go.Proofs
/-! pmtu: alive, by a run on numbers that are known -/
theorem ok31 : FnOk Try.prog 31 Try.f31 (bodyOf Try.f31) := .of Try.func31 (by kernel_rfl) (by kernel_rfl)
theorem ok33 : FnOk Try.prog 33 Try.f33 (bodyOf Try.f33) := .of Try.func33 (by kernel_rfl) (by kernel_rfl)
theorem ok35 : FnOk Try.prog 35 Try.f35 (bodyOf Try.f35) := .of Try.func35 (by kernel_rfl) (by kernel_rfl)
theorem ok36 : FnOk Try.prog 36 Try.f36 (bodyOf Try.f36) := .of Try.func36 (by kernel_rfl) (by kernel_rfl)
theorem ok37 : FnOk Try.prog 37 Try.f37 (bodyOf Try.f37) := .of Try.func37 (by kernel_rfl) (by kernel_rfl)
theorem ok69 : FnOk Try.prog 69 Try.f69 (bodyOf Try.f69) := .of Try.func69 (by kernel_rfl) (by kernel_rfl)
theorem ok70 : FnOk Try.prog 70 Try.f70 (bodyOf Try.f70) := .of Try.func70 (by kernel_rfl) (by kernel_rfl)
theorem ok71 : FnOk Try.prog 71 Try.f71 (bodyOf Try.f71) := .of Try.func71 (by kernel_rfl) (by kernel_rfl)
theorem ok72 : FnOk Try.prog 72 Try.f72 (bodyOf Try.f72) := .of Try.func72 (by kernel_rfl) (by kernel_rfl)
theorem ok99 : FnOk Try.prog 99 Try.f99 (bodyOf Try.f99) := .of Try.func99 (by kernel_rfl) (by kernel_rfl)
theorem ok100 : FnOk Try.prog 100 Try.f100 (bodyOf Try.f100) := .of Try.func100 (by kernel_rfl) (by kernel_rfl)
theorem ok101 : FnOk Try.prog 101 Try.f101 (bodyOf Try.f101) := .of Try.func101 (by kernel_rfl) (by kernel_rfl)
theorem ok102 : FnOk Try.prog 102 Try.f102 (bodyOf Try.f102) := .of Try.func102 (by kernel_rfl) (by kernel_rfl)
theorem ok111 : FnOk Try.prog 111 Try.f111 (bodyOf Try.f111) := .of Try.func111 (by kernel_rfl) (by kernel_rfl)
noncomputable def env0 (S : TypeId → Bool) (T : Tab) (mf : FuncId → Option MF) (M : TabM) : Env := ⟨tys, S, false, T, [], mf, M, fun _ => none⟩
theorem env0_ok (S : TypeId → Bool) (T : Tab) (mf : FuncId → Option MF) (M : TabM) : EnvOk Try.prog (env0 S T mf M) := EnvOk.of tysOk
theorem env0_call {S : TypeId → Bool} {T : Tab} {mf : FuncId → Option MF} {M : TabM} (hT : TabOk Try.prog T) (hM : TabMOk Try.prog M) : CallOk Try.prog (env0 S T mf M) :=
  ⟨hT, fun f mf xs m0 cs r m1 _ h hc => hM f xs m0 cs r m1 h hc, (by intro f k h; cases h)⟩
def T0 : Tab := fun _ _ => none
theorem T0_ok : TabOk Try.prog T0 := fun f xs cs r h _ => by cases h
def M0 : TabM := fun _ _ _ => none
theorem M0_ok : TabMOk Try.prog M0 := fun f xs m cs r m1 h _ => by cases h
noncomputable def inlP : Inl := fun f => match f with
  | 31 => some (Try.f31, [])
  | 33 => some (Try.f33, [])
  | 36 => some (Try.f36, [])
  | 37 => some (Try.f37, [(7, 12)])
  | 69 => some (Try.f69, [])
  | 70 => some (Try.f70, [])
  | 71 => some (Try.f71, [])
  | 72 => some (Try.f72, [(2, 9)])
  | 99 => some (Try.f99, [])
  | 100 => some (Try.f100, [])
  | 101 => some (Try.f101, [])
  | 102 => some (Try.f102, [(1, 7)])
  | 111 => some (Try.f111, [])
  | _ => none
theorem inlP_ok : InlOk Try.prog inlP := by
  intro f fn hs h
  unfold inlP at h
  split at h <;> first | (cases h; done) | (obtain ⟨rfl, _⟩ := Prod.mk.inj (Option.some.inj h); first | exact ok31 | exact ok33 | exact ok36 | exact ok37 | exact ok69 | exact ok70 | exact ok71 | exact ok72 | exact ok99 | exact ok100 | exact ok101 | exact ok102 | exact ok111)
theorem s35 : Spec Try.prog 35 [] [] (Is (.one (.b true))) :=
  Spec.lit (litE_envOk (env0_ok (fun _ => false) T0 (fun _ => none) M0) inlP 8) (litE_ok (env0_ok (fun _ => false) T0 (fun _ => none) M0) (env0_call T0_ok M0_ok) mixed inlP_ok 8) mixed ok35 (hs := []) (n := 1000) (by kernel_rfl)
end DH

noncomputable section
namespace DH
open Go Go.Proofs
/-! pmtu: floors, plateaus, and a cache that nobody made -/
theorem ok6 : FnOk Try.prog 6 Try.f6 (bodyOf Try.f6) := .of Try.func6 (by kernel_rfl) (by kernel_rfl)
theorem ok7 : FnOk Try.prog 7 Try.f7 (bodyOf Try.f7) := .of Try.func7 (by kernel_rfl) (by kernel_rfl)
theorem ok32 : FnOk Try.prog 32 Try.f32 (bodyOf Try.f32) := .of Try.func32 (by kernel_rfl) (by kernel_rfl)
theorem ok34 : FnOk Try.prog 34 Try.f34 (bodyOf Try.f34) := .of Try.func34 (by kernel_rfl) (by kernel_rfl)
theorem ok38 : FnOk Try.prog 38 Try.f38 (bodyOf Try.f38) := .of Try.func38 (by kernel_rfl) (by kernel_rfl)
def symX (_ : TypeId) : Bool := false
noncomputable def inlX : Inl := fun f => match f with
  | 36 => some (Try.f36, [])
  | 37 => some (Try.f37, [(7, 12)])
  | 38 => some (Try.f38, [])
  | 71 => some (Try.f71, [])
  | _ => none
theorem inlX_ok : InlOk Try.prog inlX := by
  intro f fn hs h
  unfold inlX at h
  split at h <;> first | (cases h; done) | (obtain ⟨rfl, _⟩ := Prod.mk.inj (Option.some.inj h); first | exact ok36 | exact ok37 | exact ok38 | exact ok71)
noncomputable def envX (T : Tab) (mf : FuncId → Option MF) (M : TabM) : Env := inlE (env0 symX T mf M) inlX 3
theorem envX_ok (T : Tab) (mf : FuncId → Option MF) (M : TabM) : EnvOk Try.prog (envX T mf M) := inlE_envOk (env0_ok symX T mf M) _ _
theorem envX_call {T : Tab} {mf : FuncId → Option MF} {M : TabM} (hT : TabOk Try.prog T) (hM : TabMOk Try.prog M) : CallOk Try.prog (envX T mf M) :=
  inlE_ok (env0_ok symX T mf M) (env0_call hT hM) mixed inlX_ok 3
def mf0 : FuncId → Option MF := fun _ => none

set_option maxRecDepth 100000 in
theorem vc31 {X : Ctx} {Q : AV → Mem → Prop} (hX : X.P = Try.prog) (s : Bool) (a0 a1 a2 a3 a4 a5 a6 a7 a8 a9 aa ab ac ad ae af : BitVec 8) (h : (s = true → Q (AV.one (AC.i64 (1280 : Int))) []) ∧ (s = false → Q (AV.one (AC.i64 (576 : Int))) [])) : KRun X 31 0 Q ([.code (bodyOf Try.f31)]) (slots [.agg [.b s, .u8 a0, .u8 a1, .u8 a2, .u8 a3, .u8 a4, .u8 a5, .u8 a6, .u8 a7, .u8 a8, .u8 a9, .u8 aa, .u8 ab, .u8 ac, .u8 ad, .u8 ae, .u8 af]] Try.f31.ntmps) [] :=
  wpRun_ok (hX ▸ envX_ok T0 mf0 M0) (hX ▸ envX_call T0_ok M0_ok) (hX ▸ mixed) (hX ▸ ok31) LK_ok (cast (β := wpRun (envX T0 mf0 M0) [4] [] false (RS.mk Try.f31.results.toList 0 (CS.mk [] [] [] [])) (LK X 31 0 Q true []) Q 2000 _ _ _) (by kernel_rfl) h)
set_option maxRecDepth 100000 in
theorem vc32 {X : Ctx} {Q : AV → Mem → Prop} (hX : X.P = Try.prog) (s : Bool) (a0 a1 a2 a3 a4 a5 a6 a7 a8 a9 aa ab ac ad ae af : BitVec 8) (h : (s = true → Q (AV.one (AC.i64 (1280 : Int))) []) ∧ (s = false → Q (AV.one (AC.i64 (576 : Int))) [])) : KRun X 32 0 Q ([.code (bodyOf Try.f32)]) (slots [.agg [.b s, .u8 a0, .u8 a1, .u8 a2, .u8 a3, .u8 a4, .u8 a5, .u8 a6, .u8 a7, .u8 a8, .u8 a9, .u8 aa, .u8 ab, .u8 ac, .u8 ad, .u8 ae, .u8 af]] Try.f32.ntmps) [] :=
  wpRun_ok (hX ▸ envX_ok T0 mf0 M0) (hX ▸ envX_call T0_ok M0_ok) (hX ▸ mixed) (hX ▸ ok32) LK_ok (cast (β := wpRun (envX T0 mf0 M0) [4] [] false (RS.mk Try.f32.results.toList 0 (CS.mk [] [] [] [])) (LK X 32 0 Q true []) Q 2000 _ _ _) (by kernel_rfl) h)
set_option maxRecDepth 100000 in
theorem vc34 {X : Ctx} {Q : AV → Mem → Prop} (hX : X.P = Try.prog) (x : Int) (h : ((0 : Int) ≤ (0 : Int) ∧ (0 : Int) < (↑12 : Int)) ∧ (decide ((32000 : Int) < x) = true → ((0 : Int) ≤ (0 : Int) ∧ (0 : Int) < (↑12 : Int)) ∧ Q (AV.one (AC.i64 (32000 : Int))) []) ∧ (decide ((32000 : Int) < x) = false → in64 ((0 : Int) + (1 : Int)) ∧ ((0 : Int) ≤ (0 : Int) + (1 : Int) ∧ (0 : Int) + (1 : Int) < (↑12 : Int)) ∧ (decide ((17914 : Int) < x) = true → ((0 : Int) ≤ (0 : Int) + (1 : Int) ∧ (0 : Int) + (1 : Int) < (↑12 : Int)) ∧ Q (AV.one (AC.i64 (17914 : Int))) []) ∧ (decide ((17914 : Int) < x) = false → in64 ((0 : Int) + (1 : Int) + (1 : Int)) ∧ ((0 : Int) ≤ (0 : Int) + (1 : Int) + (1 : Int) ∧ (0 : Int) + (1 : Int) + (1 : Int) < (↑12 : Int)) ∧ (decide ((8166 : Int) < x) = true → ((0 : Int) ≤ (0 : Int) + (1 : Int) + (1 : Int) ∧ (0 : Int) + (1 : Int) + (1 : Int) < (↑12 : Int)) ∧ Q (AV.one (AC.i64 (8166 : Int))) []) ∧ (decide ((8166 : Int) < x) = false → in64 ((0 : Int) + (1 : Int) + (1 : Int) + (1 : Int)) ∧ ((0 : Int) ≤ (0 : Int) + (1 : Int) + (1 : Int) + (1 : Int) ∧ (0 : Int) + (1 : Int) + (1 : Int) + (1 : Int) < (↑12 : Int)) ∧ (decide ((4352 : Int) < x) = true → ((0 : Int) ≤ (0 : Int) + (1 : Int) + (1 : Int) + (1 : Int) ∧ (0 : Int) + (1 : Int) + (1 : Int) + (1 : Int) < (↑12 : Int)) ∧ Q (AV.one (AC.i64 (4352 : Int))) []) ∧ (decide ((4352 : Int) < x) = false → in64 ((0 : Int) + (1 : Int) + (1 : Int) + (1 : Int) + (1 : Int)) ∧ ((0 : Int) ≤ (0 : Int) + (1 : Int) + (1 : Int) + (1 : Int) + (1 : Int) ∧ (0 : Int) + (1 : Int) + (1 : Int) + (1 : Int) + (1 : Int) < (↑12 : Int)) ∧ (decide ((2002 : Int) < x) = true → ((0 : Int) ≤ (0 : Int) + (1 : Int) + (1 : Int) + (1 : Int) + (1 : Int) ∧ (0 : Int) + (1 : Int) + (1 : Int) + (1 : Int) + (1 : Int) < (↑12 : Int)) ∧ Q (AV.one (AC.i64 (2002 : Int))) []) ∧ (decide ((2002 : Int) < x) = false → in64 ((0 : Int) + (1 : Int) + (1 : Int) + (1 : Int) + (1 : Int) + (1 : Int)) ∧ ((0 : Int) ≤ (0 : Int) + (1 : Int) + (1 : Int) + (1 : Int) + (1 : Int) + (1 : Int) ∧ (0 : Int) + (1 : Int) + (1 : Int) + (1 : Int) + (1 : Int) + (1 : Int) < (↑12 : Int)) ∧ (decide ((1492 : Int) < x) = true → ((0 : Int) ≤ (0 : Int) + (1 : Int) + (1 : Int) + (1 : Int) + (1 : Int) + (1 : Int) ∧ (0 : Int) + (1 : Int) + (1 : Int) + (1 : Int) + (1 : Int) + (1 : Int) < (↑12 : Int)) ∧ Q (AV.one (AC.i64 (1492 : Int))) []) ∧ (decide ((1492 : Int) < x) = false → in64 ((0 : Int) + (1 : Int) + (1 : Int) + (1 : Int) + (1 : Int) + (1 : Int) + (1 : Int)) ∧ ((0 : Int) ≤ (0 : Int) + (1 : Int) + (1 : Int) + (1 : Int) + (1 : Int) + (1 : Int) + (1 : Int) ∧ (0 : Int) + (1 : Int) + (1 : Int) + (1 : Int) + (1 : Int) + (1 : Int) + (1 : Int) < (↑12 : Int)) ∧ (decide ((1280 : Int) < x) = true → ((0 : Int) ≤ (0 : Int) + (1 : Int) + (1 : Int) + (1 : Int) + (1 : Int) + (1 : Int) + (1 : Int) ∧ (0 : Int) + (1 : Int) + (1 : Int) + (1 : Int) + (1 : Int) + (1 : Int) + (1 : Int) < (↑12 : Int)) ∧ Q (AV.one (AC.i64 (1280 : Int))) []) ∧ (decide ((1280 : Int) < x) = false → in64 ((0 : Int) + (1 : Int) + (1 : Int) + (1 : Int) + (1 : Int) + (1 : Int) + (1 : Int) + (1 : Int)) ∧ ((0 : Int) ≤ (0 : Int) + (1 : Int) + (1 : Int) + (1 : Int) + (1 : Int) + (1 : Int) + (1 : Int) + (1 : Int) ∧ (0 : Int) + (1 : Int) + (1 : Int) + (1 : Int) + (1 : Int) + (1 : Int) + (1 : Int) + (1 : Int) < (↑12 : Int)) ∧ (decide ((1006 : Int) < x) = true → ((0 : Int) ≤ (0 : Int) + (1 : Int) + (1 : Int) + (1 : Int) + (1 : Int) + (1 : Int) + (1 : Int) + (1 : Int) ∧ (0 : Int) + (1 : Int) + (1 : Int) + (1 : Int) + (1 : Int) + (1 : Int) + (1 : Int) + (1 : Int) < (↑12 : Int)) ∧ Q (AV.one (AC.i64 (1006 : Int))) []) ∧ (decide ((1006 : Int) < x) = false → in64 ((0 : Int) + (1 : Int) + (1 : Int) + (1 : Int) + (1 : Int) + (1 : Int) + (1 : Int) + (1 : Int) + (1 : Int)) ∧ ((0 : Int) ≤ (0 : Int) + (1 : Int) + (1 : Int) + (1 : Int) + (1 : Int) + (1 : Int) + (1 : Int) + (1 : Int) + (1 : Int) ∧ (0 : Int) + (1 : Int) + (1 : Int) + (1 : Int) + (1 : Int) + (1 : Int) + (1 : Int) + (1 : Int) + (1 : Int) < (↑12 : Int)) ∧ (decide ((576 : Int) < x) = true → ((0 : Int) ≤ (0 : Int) + (1 : Int) + (1 : Int) + (1 : Int) + (1 : Int) + (1 : Int) + (1 : Int) + (1 : Int) + (1 : Int) ∧ (0 : Int) + (1 : Int) + (1 : Int) + (1 : Int) + (1 : Int) + (1 : Int) + (1 : Int) + (1 : Int) + (1 : Int) < (↑12 : Int)) ∧ Q (AV.one (AC.i64 (576 : Int))) []) ∧ (decide ((576 : Int) < x) = false → in64 ((0 : Int) + (1 : Int) + (1 : Int) + (1 : Int) + (1 : Int) + (1 : Int) + (1 : Int) + (1 : Int) + (1 : Int) + (1 : Int)) ∧ ((0 : Int) ≤ (0 : Int) + (1 : Int) + (1 : Int) + (1 : Int) + (1 : Int) + (1 : Int) + (1 : Int) + (1 : Int) + (1 : Int) + (1 : Int) ∧ (0 : Int) + (1 : Int) + (1 : Int) + (1 : Int) + (1 : Int) + (1 : Int) + (1 : Int) + (1 : Int) + (1 : Int) + (1 : Int) < (↑12 : Int)) ∧ (decide ((508 : Int) < x) = true → ((0 : Int) ≤ (0 : Int) + (1 : Int) + (1 : Int) + (1 : Int) + (1 : Int) + (1 : Int) + (1 : Int) + (1 : Int) + (1 : Int) + (1 : Int) ∧ (0 : Int) + (1 : Int) + (1 : Int) + (1 : Int) + (1 : Int) + (1 : Int) + (1 : Int) + (1 : Int) + (1 : Int) + (1 : Int) < (↑12 : Int)) ∧ Q (AV.one (AC.i64 (508 : Int))) []) ∧ (decide ((508 : Int) < x) = false → in64 ((0 : Int) + (1 : Int) + (1 : Int) + (1 : Int) + (1 : Int) + (1 : Int) + (1 : Int) + (1 : Int) + (1 : Int) + (1 : Int) + (1 : Int)) ∧ ((0 : Int) ≤ (0 : Int) + (1 : Int) + (1 : Int) + (1 : Int) + (1 : Int) + (1 : Int) + (1 : Int) + (1 : Int) + (1 : Int) + (1 : Int) + (1 : Int) ∧ (0 : Int) + (1 : Int) + (1 : Int) + (1 : Int) + (1 : Int) + (1 : Int) + (1 : Int) + (1 : Int) + (1 : Int) + (1 : Int) + (1 : Int) < (↑12 : Int)) ∧ (decide ((296 : Int) < x) = true → ((0 : Int) ≤ (0 : Int) + (1 : Int) + (1 : Int) + (1 : Int) + (1 : Int) + (1 : Int) + (1 : Int) + (1 : Int) + (1 : Int) + (1 : Int) + (1 : Int) ∧ (0 : Int) + (1 : Int) + (1 : Int) + (1 : Int) + (1 : Int) + (1 : Int) + (1 : Int) + (1 : Int) + (1 : Int) + (1 : Int) + (1 : Int) < (↑12 : Int)) ∧ Q (AV.one (AC.i64 (296 : Int))) []) ∧ (decide ((296 : Int) < x) = false → in64 ((0 : Int) + (1 : Int) + (1 : Int) + (1 : Int) + (1 : Int) + (1 : Int) + (1 : Int) + (1 : Int) + (1 : Int) + (1 : Int) + (1 : Int) + (1 : Int)) ∧ ((0 : Int) ≤ (0 : Int) + (1 : Int) + (1 : Int) + (1 : Int) + (1 : Int) + (1 : Int) + (1 : Int) + (1 : Int) + (1 : Int) + (1 : Int) + (1 : Int) + (1 : Int) ∧ (0 : Int) + (1 : Int) + (1 : Int) + (1 : Int) + (1 : Int) + (1 : Int) + (1 : Int) + (1 : Int) + (1 : Int) + (1 : Int) + (1 : Int) + (1 : Int) < (↑12 : Int)) ∧ (decide ((68 : Int) < x) = true → ((0 : Int) ≤ (0 : Int) + (1 : Int) + (1 : Int) + (1 : Int) + (1 : Int) + (1 : Int) + (1 : Int) + (1 : Int) + (1 : Int) + (1 : Int) + (1 : Int) + (1 : Int) ∧ (0 : Int) + (1 : Int) + (1 : Int) + (1 : Int) + (1 : Int) + (1 : Int) + (1 : Int) + (1 : Int) + (1 : Int) + (1 : Int) + (1 : Int) + (1 : Int) < (↑12 : Int)) ∧ Q (AV.one (AC.i64 (68 : Int))) []) ∧ (decide ((68 : Int) < x) = false → in64 ((0 : Int) + (1 : Int) + (1 : Int) + (1 : Int) + (1 : Int) + (1 : Int) + (1 : Int) + (1 : Int) + (1 : Int) + (1 : Int) + (1 : Int) + (1 : Int) + (1 : Int)) ∧ Q (AV.one (AC.i64 (68 : Int))) []))))))))))))) : KRun X 34 0 Q ([.code (bodyOf Try.f34)]) (slots [.one (.i64 x)] Try.f34.ntmps) [] :=
  wpRun_ok (hX ▸ envX_ok T0 mf0 M0) (hX ▸ envX_call T0_ok M0_ok) (hX ▸ mixed) (hX ▸ ok34) LK_ok (cast (β := wpRun (envX T0 mf0 M0) [17] [] true (RS.mk Try.f34.results.toList 0 (CS.mk [] [] [] [])) (LK X 34 0 Q false [(3, LS.mk [0, 3, 4] (CS.mk [] [] [] []))]) Q 20000 _ _ _) (by kernel_rfl) h)
set_option maxRecDepth 100000 in
theorem vc111 {X : Ctx} {Q : AV → Mem → Prop} (hX : X.P = Try.prog) (x : Int) (h : Q (AV.one (AC.b !decide (x = x))) []) : KRun X 111 0 Q ([.code (bodyOf Try.f111)]) (slots [.one (.i64 x)] Try.f111.ntmps) [] :=
  wpRun_ok (hX ▸ envX_ok T0 mf0 M0) (hX ▸ envX_call T0_ok M0_ok) (hX ▸ mixed) (hX ▸ ok111) LK_ok (cast (β := wpRun (envX T0 mf0 M0) [] [] false (RS.mk Try.f111.results.toList 0 (CS.mk [] [] [] [])) (LK X 111 0 Q true []) Q 2000 _ _ _) (by kernel_rfl) h)
set_option maxRecDepth 100000 in
theorem vc100 {X : Ctx} {Q : AV → Mem → Prop} (hX : X.P = Try.prog) (x : Int) (h : Q (AV.one (AC.b !decide (x = x))) []) : KRun X 100 0 Q ([.code (bodyOf Try.f100)]) (slots [.one (.i64 x)] Try.f100.ntmps) [] :=
  wpRun_ok (hX ▸ envX_ok T0 mf0 M0) (hX ▸ envX_call T0_ok M0_ok) (hX ▸ mixed) (hX ▸ ok100) LK_ok (cast (β := wpRun (envX T0 mf0 M0) [] [] false (RS.mk Try.f100.results.toList 0 (CS.mk [] [] [] [])) (LK X 100 0 Q true []) Q 2000 _ _ _) (by kernel_rfl) h)

/-- sixteen bytes behind a flag -/
def addrOk (cs : List AC) : Prop := ∃ l : List (BitVec 8), l.length = 16 ∧ cs = l.map AC.u8
def flo (s : Bool) : Int := match s with | true => 1280 | false => 576
theorem sixteen {α : Type} {l : List α} (h : l.length = 16) : ∃ a0 a1 a2 a3 a4 a5 a6 a7 a8 a9 aa ab ac ad ae af, l = [a0, a1, a2, a3, a4, a5, a6, a7, a8, a9, aa, ab, ac, ad, ae, af] := by
  match l, h with
  | [a0, a1, a2, a3, a4, a5, a6, a7, a8, a9, aa, ab, ac, ad, ae, af], _ => exact ⟨_, _, _, _, _, _, _, _, _, _, _, _, _, _, _, _, rfl⟩
theorem s31 {s : Bool} {cs : List AC} (h : addrOk cs) : Spec Try.prog 31 [.agg (.b s :: cs)] [] (Is (.one (.i64 (flo s)))) := by
  obtain ⟨l, hl, rfl⟩ := h
  obtain ⟨a0, a1, a2, a3, a4, a5, a6, a7, a8, a9, aa, ab, ac, ad, ae, af, rfl⟩ := sixteen hl
  exact Spec.of_run ok31 fun X hX => vc31 hX _ _ _ _ _ _ _ _ _ _ _ _ _ _ _ _ _ ⟨fun h => by rw [h]; rfl, fun h => by rw [h]; rfl⟩
theorem s32 {s : Bool} {cs : List AC} (h : addrOk cs) : Spec Try.prog 32 [.agg (.b s :: cs)] [] (Is (.one (.i64 (flo s)))) := by
  obtain ⟨l, hl, rfl⟩ := h
  obtain ⟨a0, a1, a2, a3, a4, a5, a6, a7, a8, a9, aa, ab, ac, ad, ae, af, rfl⟩ := sixteen hl
  exact Spec.of_run ok32 fun X hX => vc32 hX _ _ _ _ _ _ _ _ _ _ _ _ _ _ _ _ _ ⟨fun h => by rw [h]; rfl, fun h => by rw [h]; rfl⟩
def plat (x : Int) : Int :=
  if 32000 < x then 32000 else if 17914 < x then 17914 else if 8166 < x then 8166 else if 4352 < x then 4352 else if 2002 < x then 2002 else if 1492 < x then 1492 else if 1280 < x then 1280 else if 1006 < x then 1006 else if 576 < x then 576 else if 508 < x then 508 else if 296 < x then 296 else 68
theorem s34 (x : Int) : Spec Try.prog 34 [.one (.i64 x)] [] (Is (.one (.i64 (plat x)))) := by
  refine Spec.of_run ok34 fun X hX => vc34 hX x ?_
  unfold plat
  repeat' (first | exact trivial | refine And.intro ?_ ?_ | (intro h; first | replace h := of_decide_eq_true h | replace h := of_decide_eq_false h))
  all_goals first | omega | (unfold in64; omega) | skip
  all_goals simp only [*, if_true, if_false]; exact rfl
theorem s111 (x : Int) : Spec Try.prog 111 [.one (.i64 x)] [] (Is (.one (.b false))) := by
  refine Spec.of_run ok111 fun X hX => vc111 hX x ?_
  simp only [decide_true, Bool.not_true]
  exact rfl
theorem s100 (x : Int) : Spec Try.prog 100 [.one (.i64 x)] [] (Is (.one (.b false))) := by
  refine Spec.of_run ok100 fun X hX => vc100 hX x ?_
  simp only [decide_true, Bool.not_true]
  exact rfl
def T1 : Tab := fun f xs => match f, xs with
  | 100, [.one (.i64 _)] => some ([], .one (.b false))
  | 111, [.one (.i64 _)] => some ([], .one (.b false))
  | _, _ => none
theorem T1_ok : TabOk Try.prog T1 := by
  intro f xs cs r h hc
  unfold T1 at h
  split at h
  · simp only [Option.some.injEq, Prod.mk.injEq] at h
    obtain ⟨rfl, rfl⟩ := h
    exact ⟨⟨_, _, ok100⟩, s100 _, rfl⟩
  · simp only [Option.some.injEq, Prod.mk.injEq] at h
    obtain ⟨rfl, rfl⟩ := h
    exact ⟨⟨_, _, ok111⟩, s111 _, rfl⟩
  · cases h
set_option maxRecDepth 100000 in
theorem vc99 {X : Ctx} {Q : AV → Mem → Prop} (hX : X.P = Try.prog) (a b : Int) (h : (false = true → (false = true → Q (AV.one (AC.b (decide (a < b)))) []) ∧ (false = false → Q (AV.one (AC.b true)) [])) ∧ (false = false → Q (AV.one (AC.b (decide (a < b)))) [])) : KRun X 99 0 Q ([.code (bodyOf Try.f99)]) (slots [.one (.i64 a), .one (.i64 b)] Try.f99.ntmps) [] :=
  wpRun_ok (hX ▸ envX_ok T1 mf0 M0) (hX ▸ envX_call T1_ok M0_ok) (hX ▸ mixed) (hX ▸ ok99) LK_ok (cast (β := wpRun (envX T1 mf0 M0) [6, 9] [] false (RS.mk Try.f99.results.toList 0 (CS.mk [] [] [] [])) (LK X 99 0 Q true []) Q 2000 _ _ _) (by kernel_rfl) h)
theorem s99 (a b : Int) : Spec Try.prog 99 [.one (.i64 a), .one (.i64 b)] [] (Is (.one (.b (decide (a < b))))) := Spec.of_run ok99 fun X hX => vc99 hX a b ⟨nofun, fun _ => rfl⟩
def T2 : Tab := fun f xs => match f, xs with
  | 99, [.one (.i64 a), .one (.i64 b)] => some ([], .one (.b (decide (a < b))))
  | 31, [.agg (.b s :: cs)] => some ([addrOk cs], .one (.i64 (flo s)))
  | 32, [.agg (.b s :: cs)] => some ([addrOk cs], .one (.i64 (flo s)))
  | f, xs => T1 f xs
theorem T2_ok : TabOk Try.prog T2 := by
  intro f xs cs r h hc
  unfold T2 at h
  split at h
  · simp only [Option.some.injEq, Prod.mk.injEq] at h
    obtain ⟨rfl, rfl⟩ := h
    exact ⟨⟨_, _, ok99⟩, s99 _ _, rfl⟩
  · simp only [Option.some.injEq, Prod.mk.injEq] at h
    obtain ⟨rfl, rfl⟩ := h
    exact ⟨⟨_, _, ok31⟩, s31 hc.1, rfl⟩
  · simp only [Option.some.injEq, Prod.mk.injEq] at h
    obtain ⟨rfl, rfl⟩ := h
    exact ⟨⟨_, _, ok32⟩, s32 hc.1, rfl⟩
  · exact T1_ok _ _ _ _ h hc
set_option maxRecDepth 100000 in
theorem vc69 {X : Ctx} {Q : AV → Mem → Prop} (hX : X.P = Try.prog) (row : List AC) (n : Nat) (x : Int) (h : KR X 69 0 Q (kOf Try.f69 0) (mkS 54 [(0, AV.one (AC.xs row 0 n)), (1, AV.one (AC.i64 x)), (6, AV.one (AC.i64 (↑n : Int))), (7, AV.one (AC.i64 (0 : Int))), (8, AV.one (AC.i64 (↑n : Int)))]) []) : KRun X 69 0 Q ([.code (bodyOf Try.f69)]) (slots [.one (.xs row 0 n), .one (.i64 x)] Try.f69.ntmps) [] :=
  wpRun_ok (hX ▸ envX_ok T2 mf0 M0) (hX ▸ envX_call T2_ok M0_ok) (hX ▸ mixed) (hX ▸ ok69) LK_ok (cast (β := wpRun (envX T2 mf0 M0) [15, 27, 34, 41, 47] [] false (RS.mk Try.f69.results.toList 0 (CS.mk [] [] [] [])) (LK X 69 0 Q true [(3, LS.mk [0, 1, 6, 7, 8] (CS.mk [] [] [] []))]) Q 2000 _ _ _) (by kernel_rfl) h)
set_option maxRecDepth 100000 in
theorem vc69a {X : Ctx} {Q : AV → Mem → Prop} (hX : X.P = Try.prog) (row : List AC) (n : Nat) (x i j : Int) (h : (decide (i < j) = true → in64 (i + j) ∧ ((0 : Int) ≤ BitVec.toInt (BitVec.ofInt 64 (i + j) >>> 1) ∧ BitVec.toInt (BitVec.ofInt 64 (i + j) >>> 1) < (↑n : Int)) ∧ gt AC.any row (0 + Int.toNat (BitVec.toInt (BitVec.ofInt 64 (i + j) >>> 1)) * 1) = AC.i64 (asI64 (gt AC.any row (0 + Int.toNat (BitVec.toInt (BitVec.ofInt 64 (i + j) >>> 1)) * 1))) ∧ (decide (asI64 (gt AC.any row (0 + Int.toNat (BitVec.toInt (BitVec.ofInt 64 (i + j) >>> 1)) * 1)) < x) = true → in64 (BitVec.toInt (BitVec.ofInt 64 (i + j) >>> 1) + (1 : Int)) ∧ KR X 69 0 Q (kOf Try.f69 0) (mkS 54 [(0, AV.one (AC.xs row 0 n)), (1, AV.one (AC.i64 x)), (6, AV.one (AC.i64 (↑n : Int))), (7, AV.one (AC.i64 (BitVec.toInt (BitVec.ofInt 64 (i + j) >>> 1) + (1 : Int)))), (8, AV.one (AC.i64 j))]) []) ∧ (decide (asI64 (gt AC.any row (0 + Int.toNat (BitVec.toInt (BitVec.ofInt 64 (i + j) >>> 1)) * 1)) < x) = false → KR X 69 0 Q (kOf Try.f69 0) (mkS 54 [(0, AV.one (AC.xs row 0 n)), (1, AV.one (AC.i64 x)), (6, AV.one (AC.i64 (↑n : Int))), (7, AV.one (AC.i64 i)), (8, AV.one (AC.i64 (BitVec.toInt (BitVec.ofInt 64 (i + j) >>> 1))))]) [])) ∧ (decide (i < j) = false → (decide (i < (↑n : Int)) = true → ((0 : Int) ≤ i ∧ i < (↑n : Int)) ∧ gt AC.any row (0 + Int.toNat i * 1) = AC.i64 (asI64 (gt AC.any row (0 + Int.toNat i * 1))) ∧ (decide (asI64 (gt AC.any row (0 + Int.toNat i * 1)) = x) = true → Q (AV.tup [AV.one (AC.i64 i), AV.one (AC.b true)]) []) ∧ (decide (asI64 (gt AC.any row (0 + Int.toNat i * 1)) = x) = false → ((0 : Int) ≤ i ∧ i < (↑n : Int)) ∧ gt AC.any row (0 + Int.toNat i * 1) = AC.i64 (asI64 (gt AC.any row (0 + Int.toNat i * 1))) ∧ (false = true → Q (AV.tup [AV.one (AC.i64 i), AV.one (AC.b false)]) []) ∧ (false = false → Q (AV.tup [AV.one (AC.i64 i), AV.one (AC.b false)]) []))) ∧ (decide (i < (↑n : Int)) = false → Q (AV.tup [AV.one (AC.i64 i), AV.one (AC.b false)]) []))) : KRun X 69 0 Q (kOf Try.f69 0) (mkS 54 [(0, .one (.xs row 0 n)), (1, .one (.i64 x)), (6, .one (.i64 n)), (7, .one (.i64 i)), (8, .one (.i64 j))]) [] :=
  wpRun_ok (hX ▸ envX_ok T2 mf0 M0) (hX ▸ envX_call T2_ok M0_ok) (hX ▸ mixed) (hX ▸ ok69) LK_ok (cast (β := wpRun (envX T2 mf0 M0) [15, 27, 34, 41, 47] [] false (RS.mk Try.f69.results.toList 0 (CS.mk [] [] [] [])) (LK X 69 0 Q true [(3, LS.mk [0, 1, 6, 7, 8] (CS.mk [] [] [] []))]) Q 2000 _ _ _) (by kernel_rfl) h)
/-! the binary search in the plateaus -/
def K12 : List AC := [.i64 68, .i64 296, .i64 508, .i64 576, .i64 1006, .i64 1280, .i64 1492, .i64 2002, .i64 4352, .i64 8166, .i64 17914, .i64 32000]
def kv (k : Nat) : Int := asI64 (gt .any K12 k)
theorem k12 : ∀ k, k < 12 → gt AC.any K12 k = .i64 (asI64 (gt AC.any K12 k))
  | 0, _ | 1, _ | 2, _ | 3, _ | 4, _ | 5, _ | 6, _ | 7, _ | 8, _ | 9, _ | 10, _ | 11, _ => rfl
  | k + 12, h => absurd h (by omega)
theorem kvMono : ∀ b, b < 12 → ∀ a, a < 12 → a ≤ b → kv a ≤ kv b := by decide +kernel
def pmF (x : Int) : Int :=
  if 32000 < x then 12 else if 17914 < x then 11 else if 8166 < x then 10 else if 4352 < x then 9 else if 2002 < x then 8 else if 1492 < x then 7 else if 1280 < x then 6 else if 1006 < x then 5 else if 576 < x then 4 else if 508 < x then 3 else if 296 < x then 2 else if 68 < x then 1 else 0
def fndF (x : Int) : Bool := (List.range 12).any fun k => decide (kv k = x)
theorem pmF_eq {x : Int} {i : Nat} (hi : i ≤ 12) (h1 : ∀ k, k < i → kv k < x) (h2 : ∀ k, i ≤ k → k < 12 → x ≤ kv k) : pmF x = i := by
  have g : ∀ k, k < 12 → (k < i ↔ kv k < x) := fun k hk => ⟨h1 k, fun h => by
    rcases Nat.lt_or_ge k i with h3 | h3
    · exact h3
    · have := h2 k h3 hk; omega⟩
  have g0 : 0 < i ↔ (68 : Int) < x := by have := g 0 (by omega); rw [show kv 0 = 68 by kernel_rfl] at this; exact this
  have g1 : 1 < i ↔ (296 : Int) < x := by have := g 1 (by omega); rw [show kv 1 = 296 by kernel_rfl] at this; exact this
  have g2 : 2 < i ↔ (508 : Int) < x := by have := g 2 (by omega); rw [show kv 2 = 508 by kernel_rfl] at this; exact this
  have g3 : 3 < i ↔ (576 : Int) < x := by have := g 3 (by omega); rw [show kv 3 = 576 by kernel_rfl] at this; exact this
  have g4 : 4 < i ↔ (1006 : Int) < x := by have := g 4 (by omega); rw [show kv 4 = 1006 by kernel_rfl] at this; exact this
  have g5 : 5 < i ↔ (1280 : Int) < x := by have := g 5 (by omega); rw [show kv 5 = 1280 by kernel_rfl] at this; exact this
  have g6 : 6 < i ↔ (1492 : Int) < x := by have := g 6 (by omega); rw [show kv 6 = 1492 by kernel_rfl] at this; exact this
  have g7 : 7 < i ↔ (2002 : Int) < x := by have := g 7 (by omega); rw [show kv 7 = 2002 by kernel_rfl] at this; exact this
  have g8 : 8 < i ↔ (4352 : Int) < x := by have := g 8 (by omega); rw [show kv 8 = 4352 by kernel_rfl] at this; exact this
  have g9 : 9 < i ↔ (8166 : Int) < x := by have := g 9 (by omega); rw [show kv 9 = 8166 by kernel_rfl] at this; exact this
  have ga : 10 < i ↔ (17914 : Int) < x := by have := g 10 (by omega); rw [show kv 10 = 17914 by kernel_rfl] at this; exact this
  have gb : 11 < i ↔ (32000 : Int) < x := by have := g 11 (by omega); rw [show kv 11 = 32000 by kernel_rfl] at this; exact this
  clear g h1 h2
  unfold pmF
  by_cases c32000 : (32000 : Int) < x
  · rw [if_pos c32000]; omega
  rw [if_neg c32000]
  by_cases c17914 : (17914 : Int) < x
  · rw [if_pos c17914]; omega
  rw [if_neg c17914]
  by_cases c8166 : (8166 : Int) < x
  · rw [if_pos c8166]; omega
  rw [if_neg c8166]
  by_cases c4352 : (4352 : Int) < x
  · rw [if_pos c4352]; omega
  rw [if_neg c4352]
  by_cases c2002 : (2002 : Int) < x
  · rw [if_pos c2002]; omega
  rw [if_neg c2002]
  by_cases c1492 : (1492 : Int) < x
  · rw [if_pos c1492]; omega
  rw [if_neg c1492]
  by_cases c1280 : (1280 : Int) < x
  · rw [if_pos c1280]; omega
  rw [if_neg c1280]
  by_cases c1006 : (1006 : Int) < x
  · rw [if_pos c1006]; omega
  rw [if_neg c1006]
  by_cases c576 : (576 : Int) < x
  · rw [if_pos c576]; omega
  rw [if_neg c576]
  by_cases c508 : (508 : Int) < x
  · rw [if_pos c508]; omega
  rw [if_neg c508]
  by_cases c296 : (296 : Int) < x
  · rw [if_pos c296]; omega
  rw [if_neg c296]
  by_cases c68 : (68 : Int) < x
  · rw [if_pos c68]; omega
  rw [if_neg c68]
  omega
theorem half {s : Int} (h0 : 0 ≤ s) (h1 : s < 9223372036854775808) : BitVec.toInt (BitVec.ofInt 64 s >>> 1) = s / 2 := by
  have e : (BitVec.ofInt 64 s).toNat = s.toNat := by
    rw [BitVec.toNat_ofInt, show s % ((2 ^ 64 : Nat) : Int) = s by omega]
  rw [BitVec.toInt_eq_toNat_of_lt (by rw [BitVec.toNat_ushiftRight, e, Nat.shiftRight_eq_div_pow]; omega), BitVec.toNat_ushiftRight, e, Nat.shiftRight_eq_div_pow]
  omega
theorem l69 {X : Ctx} (hX : X.P = Try.prog) (x : Int) : ∀ (d i j : Nat), i + d = j → j ≤ 12 → (∀ k, k < i → kv k < x) → (∀ k, j ≤ k → k < 12 → x ≤ kv k) →
    KRun X 69 0 (Is (.tup [.one (.i64 (pmF x)), .one (.b (fndF x))])) (kOf Try.f69 0) (mkS 54 [(0, .one (.xs K12 0 12)), (1, .one (.i64 x)), (6, .one (.i64 (12 : Nat))), (7, .one (.i64 i)), (8, .one (.i64 j))]) [] := by
  intro d
  induction d using Nat.strongRecOn with
  | _ d ih =>
    intro i j hij hj h1 h2
    refine vc69a hX K12 12 x i j ⟨fun h => ?_, fun h => ?_⟩
    · have h := of_decide_eq_true h
      have e : BitVec.toInt (BitVec.ofInt 64 ((i : Int) + j) >>> 1) = ((i + j) / 2 : Nat) := by rw [half (by omega) (by omega)]; omega
      rw [e]
      have e2 : 0 + Int.toNat (((i + j) / 2 : Nat) : Int) * 1 = (i + j) / 2 := by omega
      rw [e2]
      have hm : (i + j) / 2 < 12 := by omega
      refine ⟨by unfold in64; omega, ⟨by omega, by omega⟩, k12 _ hm, fun h3 => ⟨by unfold in64; omega, ?_⟩, fun h3 => ?_⟩
      · have h3 : kv ((i + j) / 2) < x := of_decide_eq_true h3
        exact ⟨ih (j - ((i + j) / 2 + 1)) (by omega) ((i + j) / 2 + 1) j (by omega) hj (fun k hk => by have := kvMono _ hm k (by omega) (by omega); omega) h2⟩
      · have h3 : ¬ kv ((i + j) / 2) < x := of_decide_eq_false h3
        exact ⟨ih ((i + j) / 2 - i) (by omega) i ((i + j) / 2) (by omega) (by omega) h1 (fun k hk hk2 => by have := kvMono k hk2 _ hm hk; omega)⟩
    · have h := of_decide_eq_false h
      have hji : i = j := by omega
      subst hji
      have ep := pmF_eq hj h1 h2
      have e2 : 0 + Int.toNat (i : Int) * 1 = i := by omega
      have no : (∀ k, k < 12 → kv k ≠ x) → fndF x = false := fun g => by
        unfold fndF
        rw [List.any_eq_false]
        intro k hk
        have := g k (List.mem_range.1 hk)
        simpa using this
      rw [e2]
      refine ⟨fun h3 => ?_, fun h3 => ?_⟩
      · have h3 : i < 12 := by have := of_decide_eq_true h3; omega
        refine ⟨⟨by omega, by omega⟩, k12 _ h3, fun h4 => ?_, fun h4 => ⟨⟨by omega, by omega⟩, k12 _ h3, nofun, fun _ => ?_⟩⟩
        · have h4 : kv i = x := of_decide_eq_true h4
          have : fndF x = true := by
            unfold fndF
            rw [List.any_eq_true]
            exact ⟨i, List.mem_range.2 h3, decide_eq_true h4⟩
          rw [ep, this]
          exact rfl
        · have h4 : kv i ≠ x := of_decide_eq_false h4
          rw [ep, no fun k hk e => by
            rcases Nat.lt_or_ge k i with h5 | h5
            · have := h1 k h5; omega
            · have a1 := h2 i (Nat.le_refl _) h3
              have a2 := kvMono k hk i h3 h5
              omega]
          exact rfl
      · have h3 : i = 12 := by have := of_decide_eq_false h3; omega
        rw [ep, no fun k hk e => by have := h1 k (by omega); omega]
        exact rfl
theorem s69 (x : Int) : Spec Try.prog 69 [.one (.xs K12 0 12), .one (.i64 x)] [] (Is (.tup [.one (.i64 (pmF x)), .one (.b (fndF x))])) :=
  Spec.of_run ok69 fun X hX => vc69 hX _ _ _ ⟨l69 hX x 12 0 12 rfl (Nat.le_refl _) (fun k h => absurd h (Nat.not_lt_zero k)) fun k h1 h2 => absurd h2 (by omega)⟩
def T3 : Tab := fun f xs => match f, xs with
  | 69, [.one (.xs row 0 n), .one (.i64 x)] => some ([row = K12, n = 12], .tup [.one (.i64 (pmF x)), .one (.b (fndF x))])
  | 34, [.one (.i64 x)] => some ([], .one (.i64 (plat x)))
  | 35, [] => some ([], .one (.b true))
  | f, xs => T2 f xs
theorem T3_ok : TabOk Try.prog T3 := by
  intro f xs cs r h hc
  unfold T3 at h
  split at h
  · simp only [Option.some.injEq, Prod.mk.injEq] at h
    obtain ⟨rfl, rfl⟩ := h
    obtain ⟨rfl, rfl, _⟩ := hc
    exact ⟨⟨_, _, ok69⟩, s69 _, fun v hv => by simp only [List.mem_cons, List.mem_nil_iff, or_false] at hv; rcases hv with rfl | rfl <;> exact rfl⟩
  · simp only [Option.some.injEq, Prod.mk.injEq] at h
    obtain ⟨rfl, rfl⟩ := h
    exact ⟨⟨_, _, ok34⟩, s34 _, rfl⟩
  · simp only [Option.some.injEq, Prod.mk.injEq] at h
    obtain ⟨rfl, rfl⟩ := h
    exact ⟨⟨_, _, ok35⟩, s35, rfl⟩
  · exact T2_ok _ _ _ _ h hc
def symY (t : TypeId) : Bool := match t with | 3 => true | _ => false
noncomputable def envY (T : Tab) (mf : FuncId → Option MF) (M : TabM) : Env := inlE (env0 symY T mf M) inlX 3
theorem envY_ok (T : Tab) (mf : FuncId → Option MF) (M : TabM) : EnvOk Try.prog (envY T mf M) := inlE_envOk (env0_ok symY T mf M) _ _
theorem envY_call {T : Tab} {mf : FuncId → Option MF} {M : TabM} (hT : TabOk Try.prog T) (hM : TabMOk Try.prog M) : CallOk Try.prog (envY T mf M) :=
  inlE_ok (env0_ok symY T mf M) (env0_call hT hM) mixed inlX_ok 3
set_option maxRecDepth 100000 in
theorem vc33 {X : Ctx} {Q : AV → Mem → Prop} (hX : X.P = Try.prog) (x : Int) (h : ((0 : Int) ≤ (↑0 : Int) ∧ (↑0 : Int) ≤ (↑12 : Int) ∧ (↑12 : Int) ≤ (↑12 : Int)) ∧ 12 ≤ 12 ∧ Flat (List.take 12 (List.drop 0 [cvC (Value.int IntKind.i64 (68 : Int)), cvC (Value.int IntKind.i64 (296 : Int)), cvC (Value.int IntKind.i64 (508 : Int)), cvC (Value.int IntKind.i64 (576 : Int)), cvC (Value.int IntKind.i64 (1006 : Int)), cvC (Value.int IntKind.i64 (1280 : Int)), cvC (Value.int IntKind.i64 (1492 : Int)), cvC (Value.int IntKind.i64 (2002 : Int)), cvC (Value.int IntKind.i64 (4352 : Int)), cvC (Value.int IntKind.i64 (8166 : Int)), cvC (Value.int IntKind.i64 (17914 : Int)), cvC (Value.int IntKind.i64 (32000 : Int))])) ∧ List.take 12 (List.drop 0 [cvC (Value.int IntKind.i64 (68 : Int)), cvC (Value.int IntKind.i64 (296 : Int)), cvC (Value.int IntKind.i64 (508 : Int)), cvC (Value.int IntKind.i64 (576 : Int)), cvC (Value.int IntKind.i64 (1006 : Int)), cvC (Value.int IntKind.i64 (1280 : Int)), cvC (Value.int IntKind.i64 (1492 : Int)), cvC (Value.int IntKind.i64 (2002 : Int)), cvC (Value.int IntKind.i64 (4352 : Int)), cvC (Value.int IntKind.i64 (8166 : Int)), cvC (Value.int IntKind.i64 (17914 : Int)), cvC (Value.int IntKind.i64 (32000 : Int))]) = K12 ∧ 12 = 12 ∧ in64 (pmF x - (1 : Int)) ∧ ((0 : Int) ≤ max (pmF x - (1 : Int)) (0 : Int) ∧ max (pmF x - (1 : Int)) (0 : Int) < (↑12 : Int)) ∧ gt AC.any [cvC (Value.int IntKind.i64 (68 : Int)), cvC (Value.int IntKind.i64 (296 : Int)), cvC (Value.int IntKind.i64 (508 : Int)), cvC (Value.int IntKind.i64 (576 : Int)), cvC (Value.int IntKind.i64 (1006 : Int)), cvC (Value.int IntKind.i64 (1280 : Int)), cvC (Value.int IntKind.i64 (1492 : Int)), cvC (Value.int IntKind.i64 (2002 : Int)), cvC (Value.int IntKind.i64 (4352 : Int)), cvC (Value.int IntKind.i64 (8166 : Int)), cvC (Value.int IntKind.i64 (17914 : Int)), cvC (Value.int IntKind.i64 (32000 : Int))] (0 + Int.toNat (max (pmF x - (1 : Int)) (0 : Int)) * 1) = AC.i64 (asI64 (gt AC.any [cvC (Value.int IntKind.i64 (68 : Int)), cvC (Value.int IntKind.i64 (296 : Int)), cvC (Value.int IntKind.i64 (508 : Int)), cvC (Value.int IntKind.i64 (576 : Int)), cvC (Value.int IntKind.i64 (1006 : Int)), cvC (Value.int IntKind.i64 (1280 : Int)), cvC (Value.int IntKind.i64 (1492 : Int)), cvC (Value.int IntKind.i64 (2002 : Int)), cvC (Value.int IntKind.i64 (4352 : Int)), cvC (Value.int IntKind.i64 (8166 : Int)), cvC (Value.int IntKind.i64 (17914 : Int)), cvC (Value.int IntKind.i64 (32000 : Int))] (0 + Int.toNat (max (pmF x - (1 : Int)) (0 : Int)) * 1))) ∧ Q (AV.one (AC.i64 (asI64 (gt AC.any [cvC (Value.int IntKind.i64 (68 : Int)), cvC (Value.int IntKind.i64 (296 : Int)), cvC (Value.int IntKind.i64 (508 : Int)), cvC (Value.int IntKind.i64 (576 : Int)), cvC (Value.int IntKind.i64 (1006 : Int)), cvC (Value.int IntKind.i64 (1280 : Int)), cvC (Value.int IntKind.i64 (1492 : Int)), cvC (Value.int IntKind.i64 (2002 : Int)), cvC (Value.int IntKind.i64 (4352 : Int)), cvC (Value.int IntKind.i64 (8166 : Int)), cvC (Value.int IntKind.i64 (17914 : Int)), cvC (Value.int IntKind.i64 (32000 : Int))] (0 + Int.toNat (max (pmF x - (1 : Int)) (0 : Int)) * 1))))) []) : KRun X 33 0 Q ([.code (bodyOf Try.f33)]) (slots [.one (.i64 x)] Try.f33.ntmps) [] :=
  wpRun_ok (hX ▸ envY_ok T3 mf0 M0) (hX ▸ envY_call T3_ok M0_ok) (hX ▸ mixed) (hX ▸ ok33) LK_ok (cast (β := wpRun (envY T3 mf0 M0) [] [] false (RS.mk Try.f33.results.toList 0 (CS.mk [] [] [] [])) (LK X 33 0 Q true []) Q 2000 _ _ _) (by kernel_rfl) h)
theorem s33 (x : Int) : Spec Try.prog 33 [.one (.i64 x)] [] (Is (.one (.i64 (plat x)))) := by
  refine Spec.of_run ok33 fun X hX => vc33 hX x ?_
  have e : ∃ k : Nat, k < 12 ∧ 0 + Int.toNat (max (pmF x - 1) 0) * 1 = k ∧ max (pmF x - 1) 0 = (k : Int) ∧ plat x = kv k ∧ in64 (pmF x - 1) := by
    unfold pmF plat
    by_cases c32000 : (32000 : Int) < x
    · rw [if_pos c32000, if_pos c32000]; exact ⟨11, by omega, by omega, by omega, by kernel_rfl, by unfold in64; omega⟩
    rw [if_neg c32000, if_neg c32000]
    by_cases c17914 : (17914 : Int) < x
    · rw [if_pos c17914, if_pos c17914]; exact ⟨10, by omega, by omega, by omega, by kernel_rfl, by unfold in64; omega⟩
    rw [if_neg c17914, if_neg c17914]
    by_cases c8166 : (8166 : Int) < x
    · rw [if_pos c8166, if_pos c8166]; exact ⟨9, by omega, by omega, by omega, by kernel_rfl, by unfold in64; omega⟩
    rw [if_neg c8166, if_neg c8166]
    by_cases c4352 : (4352 : Int) < x
    · rw [if_pos c4352, if_pos c4352]; exact ⟨8, by omega, by omega, by omega, by kernel_rfl, by unfold in64; omega⟩
    rw [if_neg c4352, if_neg c4352]
    by_cases c2002 : (2002 : Int) < x
    · rw [if_pos c2002, if_pos c2002]; exact ⟨7, by omega, by omega, by omega, by kernel_rfl, by unfold in64; omega⟩
    rw [if_neg c2002, if_neg c2002]
    by_cases c1492 : (1492 : Int) < x
    · rw [if_pos c1492, if_pos c1492]; exact ⟨6, by omega, by omega, by omega, by kernel_rfl, by unfold in64; omega⟩
    rw [if_neg c1492, if_neg c1492]
    by_cases c1280 : (1280 : Int) < x
    · rw [if_pos c1280, if_pos c1280]; exact ⟨5, by omega, by omega, by omega, by kernel_rfl, by unfold in64; omega⟩
    rw [if_neg c1280, if_neg c1280]
    by_cases c1006 : (1006 : Int) < x
    · rw [if_pos c1006, if_pos c1006]; exact ⟨4, by omega, by omega, by omega, by kernel_rfl, by unfold in64; omega⟩
    rw [if_neg c1006, if_neg c1006]
    by_cases c576 : (576 : Int) < x
    · rw [if_pos c576, if_pos c576]; exact ⟨3, by omega, by omega, by omega, by kernel_rfl, by unfold in64; omega⟩
    rw [if_neg c576, if_neg c576]
    by_cases c508 : (508 : Int) < x
    · rw [if_pos c508, if_pos c508]; exact ⟨2, by omega, by omega, by omega, by kernel_rfl, by unfold in64; omega⟩
    rw [if_neg c508, if_neg c508]
    by_cases c296 : (296 : Int) < x
    · rw [if_pos c296, if_pos c296]; exact ⟨1, by omega, by omega, by omega, by kernel_rfl, by unfold in64; omega⟩
    rw [if_neg c296, if_neg c296]
    by_cases c68 : (68 : Int) < x
    · rw [if_pos c68]; exact ⟨0, by omega, by omega, by omega, by kernel_rfl, by unfold in64; omega⟩
    rw [if_neg c68]
    exact ⟨0, by omega, by omega, by omega, by kernel_rfl, by unfold in64; omega⟩
  obtain ⟨k, hk, e1, e2, e3, e4⟩ := e
  rw [e1, e2, e3]
  refine ⟨⟨by omega, by omega, by omega⟩, Nat.le_refl _, flatLB_ok rfl, rfl, rfl, e4, ⟨by omega, by omega⟩, k12 k hk, ?_⟩
  exact rfl
def T4 : Tab := fun f xs => match f, xs with
  | 33, [.one (.i64 x)] => some ([], .one (.i64 (plat x)))
  | f, xs => T3 f xs
theorem T4_ok : TabOk Try.prog T4 := by
  intro f xs cs r h hc
  unfold T4 at h
  split at h
  · simp only [Option.some.injEq, Prod.mk.injEq] at h
    obtain ⟨rfl, rfl⟩ := h
    exact ⟨⟨_, _, ok33⟩, s33 _, rfl⟩
  · exact T3_ok _ _ _ _ h hc
set_option maxRecDepth 100000 in
theorem vc6 {X : Ctx} {Q : AV → Mem → Prop} (hX : X.P = Try.prog) (s : Bool) (a0 a1 a2 a3 a4 a5 a6 a7 a8 a9 aa ab ac ad ae af : BitVec 8) (x : Int) (h : addrOk [AC.u8 a0, AC.u8 a1, AC.u8 a2, AC.u8 a3, AC.u8 a4, AC.u8 a5, AC.u8 a6, AC.u8 a7, AC.u8 a8, AC.u8 a9, AC.u8 aa, AC.u8 ab, AC.u8 ac, AC.u8 ad, AC.u8 ae, AC.u8 af] ∧ addrOk [AC.u8 a0, AC.u8 a1, AC.u8 a2, AC.u8 a3, AC.u8 a4, AC.u8 a5, AC.u8 a6, AC.u8 a7, AC.u8 a8, AC.u8 a9, AC.u8 aa, AC.u8 ab, AC.u8 ac, AC.u8 ad, AC.u8 ae, AC.u8 af] ∧ (decide (flo s = flo s) = true → (decide (plat x = plat x) = true → Q (AV.one (AC.b true)) []) ∧ (decide (plat x = plat x) = false → Q (AV.one (AC.b false)) [])) ∧ (decide (flo s = flo s) = false → Q (AV.one (AC.b false)) [])) : KRun X 6 0 Q ([.code (bodyOf Try.f6)]) (slots [.agg [.b s, .u8 a0, .u8 a1, .u8 a2, .u8 a3, .u8 a4, .u8 a5, .u8 a6, .u8 a7, .u8 a8, .u8 a9, .u8 aa, .u8 ab, .u8 ac, .u8 ad, .u8 ae, .u8 af], .one (.i64 x)] Try.f6.ntmps) [] :=
  wpRun_ok (hX ▸ envX_ok T4 mf0 M0) (hX ▸ envX_call T4_ok M0_ok) (hX ▸ mixed) (hX ▸ ok6) LK_ok (cast (β := wpRun (envX T4 mf0 M0) [9, 15] [(1, 1)] false (RS.mk Try.f6.results.toList 0 (CS.mk [] [] [] [])) (LK X 6 0 Q true []) Q 2000 _ _ _) (by kernel_rfl) h)
set_option maxRecDepth 100000 in
theorem vc7 {X : Ctx} {Q : AV → Mem → Prop} (hX : X.P = Try.prog) (ls : Bool) (lt : Int) (s : Bool) (a0 a1 a2 a3 a4 a5 a6 a7 a8 a9 aa ab ac ad ae af : BitVec 8) (mt : Int) (h : ((0 : Int) ≤ (0 : Int) ∧ (0 : Int) < (↑2 : Int)) ∧ addrOk [AC.u8 a0, AC.u8 a1, AC.u8 a2, AC.u8 a3, AC.u8 a4, AC.u8 a5, AC.u8 a6, AC.u8 a7, AC.u8 a8, AC.u8 a9, AC.u8 aa, AC.u8 ab, AC.u8 ac, AC.u8 ad, AC.u8 ae, AC.u8 af] ∧ in64 ((0 : Int) + (1 : Int)) ∧ ((0 : Int) ≤ (0 : Int) + (1 : Int) ∧ (0 : Int) + (1 : Int) < (↑2 : Int)) ∧ AC.nm = AC.nm ∧ AC.nm = AC.nm ∧ addrOk [AC.u8 a0, AC.u8 a1, AC.u8 a2, AC.u8 a3, AC.u8 a4, AC.u8 a5, AC.u8 a6, AC.u8 a7, AC.u8 a8, AC.u8 a9, AC.u8 aa, AC.u8 ab, AC.u8 ac, AC.u8 ad, AC.u8 ae, AC.u8 af] ∧ AC.nm = AC.nm ∧ in64 ((0 : Int) + (1 : Int) + (1 : Int)) ∧ Q (AV.one (AC.b true)) []) : KRun X 7 0 Q ([.code (bodyOf Try.f7)]) (slots [.agg [.b ls, .i64 lt, .b s, .u8 a0, .u8 a1, .u8 a2, .u8 a3, .u8 a4, .u8 a5, .u8 a6, .u8 a7, .u8 a8, .u8 a9, .u8 aa, .u8 ab, .u8 ac, .u8 ad, .u8 ae, .u8 af, .i64 mt]] Try.f7.ntmps) [] :=
  wpRun_ok (hX ▸ envX_ok T4 mf0 M0) (hX ▸ envX_call T4_ok M0_ok) (hX ▸ mixed) (hX ▸ ok7) LK_ok (cast (β := wpRun (envX T4 mf0 M0) [] [] true (RS.mk Try.f7.results.toList 0 (CS.mk [] [] [] [])) (LK X 7 0 Q false [(2, LS.mk [1, 7, 8, 9] (CS.mk [] [] [] []))]) Q 20000 _ _ _) (by kernel_rfl) h)
theorem addr16 (a0 a1 a2 a3 a4 a5 a6 a7 a8 a9 aa ab ac ad ae af : BitVec 8) : addrOk [.u8 a0, .u8 a1, .u8 a2, .u8 a3, .u8 a4, .u8 a5, .u8 a6, .u8 a7, .u8 a8, .u8 a9, .u8 aa, .u8 ab, .u8 ac, .u8 ad, .u8 ae, .u8 af] := ⟨[a0, a1, a2, a3, a4, a5, a6, a7, a8, a9, aa, ab, ac, ad, ae, af], rfl, rfl⟩
theorem s6 (s : Bool) (a0 a1 a2 a3 a4 a5 a6 a7 a8 a9 aa ab ac ad ae af : BitVec 8) (x : Int) : Spec Try.prog 6 [.agg [.b s, .u8 a0, .u8 a1, .u8 a2, .u8 a3, .u8 a4, .u8 a5, .u8 a6, .u8 a7, .u8 a8, .u8 a9, .u8 aa, .u8 ab, .u8 ac, .u8 ad, .u8 ae, .u8 af], .one (.i64 x)] [] (Is (.one (.b true))) :=
  Spec.of_run ok6 fun X hX => vc6 hX _ _ _ _ _ _ _ _ _ _ _ _ _ _ _ _ _ _ ⟨addr16 .., addr16 .., fun _ => ⟨fun _ => rfl, fun h => by simp at h⟩, fun h => by simp at h⟩
theorem s7 (ls : Bool) (lt : Int) (s : Bool) (a0 a1 a2 a3 a4 a5 a6 a7 a8 a9 aa ab ac ad ae af : BitVec 8) (mt : Int) : Spec Try.prog 7 [.agg [.b ls, .i64 lt, .b s, .u8 a0, .u8 a1, .u8 a2, .u8 a3, .u8 a4, .u8 a5, .u8 a6, .u8 a7, .u8 a8, .u8 a9, .u8 aa, .u8 ab, .u8 ac, .u8 ad, .u8 ae, .u8 af, .i64 mt]] [] (Is (.one (.b true))) :=
  Spec.of_run ok7 fun X hX => vc7 hX _ _ _ _ _ _ _ _ _ _ _ _ _ _ _ _ _ _ _ _ (by
    (repeat' (first | exact trivial | exact addr16 .. | exact rfl | refine And.intro ?_ ?_)) <;> first | omega | (unfold in64; omega))
end DH

noncomputable section
namespace DH
open Go Go.Proofs
def shAddr : Sh := .st (.cons .bool (.cons (.ar 16 .u8) .nil))
def shStep : Sh := .st (.cons .bool (.cons .i64 (.cons shAddr (.cons .i64 .nil))))
theorem encAddr' (s : Bool) (a : List (BitVec 8)) : [AC.b s] ++ (List.flatMap (Sh.enc .u8) a ++ []) = .b s :: a.map AC.u8 := by
  rw [fm_u8, List.append_nil]; rfl
theorem encAddr (y : shAddr.T) : shAddr.enc y = .b y.1 :: List.map (α := BitVec 8) AC.u8 y.2.1 := encAddr' y.1 y.2.1
theorem wfAddr {y : shAddr.T} (h : shAddr.wf y) : List.length (α := BitVec 8) y.2.1 = 16 := by
  obtain ⟨s, a, _⟩ := y
  exact h.2.1.1
theorem s6l (s : Bool) (l : List (BitVec 8)) (h : l.length = 16) (x : Int) : Spec Try.prog 6 [.agg (.b s :: l.map AC.u8), .one (.i64 x)] [] (Is (.one (.b true))) := by
  obtain ⟨a0, a1, a2, a3, a4, a5, a6, a7, a8, a9, aa, ab, ac, ad, ae, af, rfl⟩ := sixteen h
  exact s6 _ _ _ _ _ _ _ _ _ _ _ _ _ _ _ _ _ _
theorem s7l (ls : Bool) (lt : Int) (s : Bool) (l : List (BitVec 8)) (h : l.length = 16) (mt : Int) : Spec Try.prog 7 [.agg (.b ls :: .i64 lt :: ((.b s :: l.map AC.u8) ++ [.i64 mt]))] [] (Is (.one (.b true))) := by
  obtain ⟨a0, a1, a2, a3, a4, a5, a6, a7, a8, a9, aa, ab, ac, ad, ae, af, rfl⟩ := sixteen h
  exact s7 _ _ _ _ _ _ _ _ _ _ _ _ _ _ _ _ _ _ _ _
theorem s6w (y : shAddr.T) (h : shAddr.wf y) (x : Int) : Spec Try.prog 6 [.agg (shAddr.enc y), .one (.i64 x)] [] (Is (.one (.b true))) := by
  rw [encAddr]
  exact s6l _ _ (wfAddr h) x
theorem encStep (y : shStep.T) : shStep.enc y = .b y.1 :: .i64 y.2.1 :: (shAddr.enc y.2.2.1 ++ [.i64 y.2.2.2.1]) := rfl
theorem wfStep {y : shStep.T} (h : shStep.wf y) : shAddr.wf y.2.2.1 := by
  obtain ⟨ls, lt, ad, mt, _⟩ := y
  exact h.2.2.1
theorem s7w (y : shStep.T) (h : shStep.wf y) : Spec Try.prog 7 [.agg (shStep.enc y)] [] (Is (.one (.b true))) := by
  rw [encStep, encAddr]
  exact s7l _ _ _ _ (wfAddr (wfStep h)) _
end DH
