/- Walks of functions, each by evaluation: what each returns. -/
import Derived.Test.YtfkiagnehomefaaTr1
import Derived.Test.YtfkiagnehomefaaK1
set_option linter.unusedVariables false
set_option linter.unusedSimpArgs false
noncomputable section
namespace DH
open Go Go.Proofs

theorem ok3 : FnOk Try.prog 3 Try.f3 (bodyOf Try.f3) := .of Try.func3 (by kernel_rfl) (by kernel_rfl)
theorem ok4 : FnOk Try.prog 4 Try.f4 (bodyOf Try.f4) := .of Try.func4 (by kernel_rfl) (by kernel_rfl)
theorem ok5 : FnOk Try.prog 5 Try.f5 (bodyOf Try.f5) := .of Try.func5 (by kernel_rfl) (by kernel_rfl)
theorem ok16 : FnOk Try.prog 16 Try.f16 (bodyOf Try.f16) := .of Try.func16 (by kernel_rfl) (by kernel_rfl)
theorem ok17 : FnOk Try.prog 17 Try.f17 (bodyOf Try.f17) := .of Try.func17 (by kernel_rfl) (by kernel_rfl)
theorem ok18 : FnOk Try.prog 18 Try.f18 (bodyOf Try.f18) := .of Try.func18 (by kernel_rfl) (by kernel_rfl)
theorem ok19 : FnOk Try.prog 19 Try.f19 (bodyOf Try.f19) := .of Try.func19 (by kernel_rfl) (by kernel_rfl)
theorem ok20 : FnOk Try.prog 20 Try.f20 (bodyOf Try.f20) := .of Try.func20 (by kernel_rfl) (by kernel_rfl)
theorem ok21 : FnOk Try.prog 21 Try.f21 (bodyOf Try.f21) := .of Try.func21 (by kernel_rfl) (by kernel_rfl)
theorem ok22 : FnOk Try.prog 22 Try.f22 (bodyOf Try.f22) := .of Try.func22 (by kernel_rfl) (by kernel_rfl)
theorem ok23 : FnOk Try.prog 23 Try.f23 (bodyOf Try.f23) := .of Try.func23 (by kernel_rfl) (by kernel_rfl)
theorem ok24 : FnOk Try.prog 24 Try.f24 (bodyOf Try.f24) := .of Try.func24 (by kernel_rfl) (by kernel_rfl)
theorem ok25 : FnOk Try.prog 25 Try.f25 (bodyOf Try.f25) := .of Try.func25 (by kernel_rfl) (by kernel_rfl)
theorem ok26 : FnOk Try.prog 26 Try.f26 (bodyOf Try.f26) := .of Try.func26 (by kernel_rfl) (by kernel_rfl)

noncomputable def inl22 : Inl := fun f => match f with
  | 17 => some (Try.f17, [])
  | 19 => some (Try.f19, [])
  | 20 => some (Try.f20, [])
  | 25 => some (Try.f25, [])
  | 26 => some (Try.f26, [])
  | _ => none
theorem inl22_ok : InlOk Try.prog inl22 := by
  intro f fn hs h
  unfold inl22 at h
  split at h <;> first | (cases h; done) | (obtain ⟨rfl, _⟩ := Prod.mk.inj (Option.some.inj h); first | exact ok17 | exact ok19 | exact ok20 | exact ok25 | exact ok26)

noncomputable def base (T : Tab) (mf : FuncId → Option MF) (M : TabM) : Env := ⟨tys, fun _ => false, false, T, [], mf, M⟩
noncomputable def env22 (T : Tab) (mf : FuncId → Option MF) (M : TabM) : Env := inlE (base T mf M) inl22 2
theorem base_ok (T : Tab) (mf : FuncId → Option MF) (M : TabM) : EnvOk Try.prog (base T mf M) := EnvOk.of tysOk
theorem env22_ok (T : Tab) (mf : FuncId → Option MF) (M : TabM) : EnvOk Try.prog (env22 T mf M) := inlE_envOk (base_ok T mf M) _ _
theorem env22_call {T : Tab} {mf : FuncId → Option MF} {M : TabM} (hT : TabOk Try.prog T) (hM : TabMOk Try.prog M) : CallOk Try.prog (env22 T mf M) :=
  inlE_ok (base_ok T mf M) ⟨hT, fun f mf xs m0 cs r m1 _ h hc => hM f xs m0 cs r m1 h hc⟩ mixed inl22_ok 2

def T0 : Tab := fun _ _ => none
theorem T0_ok : TabOk Try.prog T0 := fun f xs cs r h => by cases h
def M0 : TabM := fun _ _ _ => none
theorem M0_ok : TabMOk Try.prog M0 := fun f xs m cs r m1 h => by cases h
def mf0 : FuncId → Option MF := fun _ => none

def clampMs (ms : Int) : Int := min (max ms 0) 60000
def smT (kn : Bool) (t ms : Int) : Int := match kn with | true => t + (clampMs ms - Int.tdiv t 8) | false => 8 * clampMs ms
def smV (kn : Bool) (t v ms : Int) : Int := match kn with | true => v + max (clampMs ms - Int.tdiv t 8) (0 - (clampMs ms - Int.tdiv t 8)) - Int.tdiv v 4 | false => 2 * clampMs ms
def wt0 (kn : Bool) (t v : Int) : Int := match kn with | true => max (Int.tdiv t 8 + max v 10) 200 | false => 1000
def wtF (kn : Bool) (t v n : Int) : Int := min (wt0 kn t v * 2 ^ n.toNat) 60000
/-- what a timer may be -/
def fine (t v n : Int) : Prop := 0 ≤ t ∧ t ≤ 480000 ∧ 0 ≤ v ∧ v ≤ 240004 ∧ 0 ≤ n ∧ n ≤ 16
theorem clamp_b (ms : Int) : 0 ≤ clampMs ms ∧ clampMs ms ≤ 60000 := by unfold clampMs; omega

theorem vc18 {X : Ctx} {Q : AV → Mem → Prop} (hX : X.P = Try.prog) (kn : Bool) (t v n ms : Int) (h : (kn = true → ((8 : Int) ≠ (0 : Int) ∧ in64 (Int.tdiv t (8 : Int))) ∧ in64 (min (max ms (0 : Int)) (60000 : Int) - Int.tdiv t (8 : Int)) ∧ in64 (t + (min (max ms (0 : Int)) (60000 : Int) - Int.tdiv t (8 : Int))) ∧ in64 ((0 : Int) - (min (max ms (0 : Int)) (60000 : Int) - Int.tdiv t (8 : Int))) ∧ in64 (v + max (min (max ms (0 : Int)) (60000 : Int) - Int.tdiv t (8 : Int)) ((0 : Int) - (min (max ms (0 : Int)) (60000 : Int) - Int.tdiv t (8 : Int)))) ∧ ((4 : Int) ≠ (0 : Int) ∧ in64 (Int.tdiv v (4 : Int))) ∧ in64 (v + max (min (max ms (0 : Int)) (60000 : Int) - Int.tdiv t (8 : Int)) ((0 : Int) - (min (max ms (0 : Int)) (60000 : Int) - Int.tdiv t (8 : Int))) - Int.tdiv v (4 : Int)) ∧ Q (AV.agg [AC.b true, AC.i64 (t + (min (max ms (0 : Int)) (60000 : Int) - Int.tdiv t (8 : Int))), AC.i64 (v + max (min (max ms (0 : Int)) (60000 : Int) - Int.tdiv t (8 : Int)) ((0 : Int) - (min (max ms (0 : Int)) (60000 : Int) - Int.tdiv t (8 : Int))) - Int.tdiv v (4 : Int)), AC.i64 (0 : Int)]) []) ∧ (kn = false → in64 ((8 : Int) * min (max ms (0 : Int)) (60000 : Int)) ∧ in64 ((4 : Int) * min (max ms (0 : Int)) (60000 : Int)) ∧ ((2 : Int) ≠ (0 : Int) ∧ in64 (Int.tdiv ((4 : Int) * min (max ms (0 : Int)) (60000 : Int)) (2 : Int))) ∧ Q (AV.agg [AC.b true, AC.i64 ((8 : Int) * min (max ms (0 : Int)) (60000 : Int)), AC.i64 (Int.tdiv ((4 : Int) * min (max ms (0 : Int)) (60000 : Int)) (2 : Int)), AC.i64 (0 : Int)]) [])) : KRun X 18 0 Q ([.code (bodyOf Try.f18)]) (slots [.agg [.b kn, .i64 t, .i64 v, .i64 n], .one (.i64 ms)] Try.f18.ntmps) [] :=
  wpRun_ok (hX ▸ env22_ok T0 mf0 M0) (hX ▸ env22_call T0_ok M0_ok) (hX ▸ mixed) (hX ▸ ok18) LK_ok (cast (show ((kn = true → ((8 : Int) ≠ (0 : Int) ∧ in64 (Int.tdiv t (8 : Int))) ∧ in64 (min (max ms (0 : Int)) (60000 : Int) - Int.tdiv t (8 : Int)) ∧ in64 (t + (min (max ms (0 : Int)) (60000 : Int) - Int.tdiv t (8 : Int))) ∧ in64 ((0 : Int) - (min (max ms (0 : Int)) (60000 : Int) - Int.tdiv t (8 : Int))) ∧ in64 (v + max (min (max ms (0 : Int)) (60000 : Int) - Int.tdiv t (8 : Int)) ((0 : Int) - (min (max ms (0 : Int)) (60000 : Int) - Int.tdiv t (8 : Int)))) ∧ ((4 : Int) ≠ (0 : Int) ∧ in64 (Int.tdiv v (4 : Int))) ∧ in64 (v + max (min (max ms (0 : Int)) (60000 : Int) - Int.tdiv t (8 : Int)) ((0 : Int) - (min (max ms (0 : Int)) (60000 : Int) - Int.tdiv t (8 : Int))) - Int.tdiv v (4 : Int)) ∧ Q (AV.agg [AC.b true, AC.i64 (t + (min (max ms (0 : Int)) (60000 : Int) - Int.tdiv t (8 : Int))), AC.i64 (v + max (min (max ms (0 : Int)) (60000 : Int) - Int.tdiv t (8 : Int)) ((0 : Int) - (min (max ms (0 : Int)) (60000 : Int) - Int.tdiv t (8 : Int))) - Int.tdiv v (4 : Int)), AC.i64 (0 : Int)]) []) ∧ (kn = false → in64 ((8 : Int) * min (max ms (0 : Int)) (60000 : Int)) ∧ in64 ((4 : Int) * min (max ms (0 : Int)) (60000 : Int)) ∧ ((2 : Int) ≠ (0 : Int) ∧ in64 (Int.tdiv ((4 : Int) * min (max ms (0 : Int)) (60000 : Int)) (2 : Int))) ∧ Q (AV.agg [AC.b true, AC.i64 ((8 : Int) * min (max ms (0 : Int)) (60000 : Int)), AC.i64 (Int.tdiv ((4 : Int) * min (max ms (0 : Int)) (60000 : Int)) (2 : Int)), AC.i64 (0 : Int)]) [])) = wpRun (env22 T0 mf0 M0) [10] [(5, 15)] false (RS.mk Try.f18.results.toList 0 (CS.mk [] [])) (LK X 18 0 Q true []) Q 2000 ([.code (bodyOf Try.f18)]) (slots [.agg [.b kn, .i64 t, .i64 v, .i64 n], .one (.i64 ms)] Try.f18.ntmps) [] by kernel_rfl) h)
theorem vc23 {X : Ctx} {Q : AV → Mem → Prop} (hX : X.P = Try.prog) (kn : Bool) (t v n : Int) (h : (kn = true → ((8 : Int) ≠ (0 : Int) ∧ in64 (Int.tdiv t (8 : Int))) ∧ in64 (Int.tdiv t (8 : Int) + max v (10 : Int)) ∧ KR X (23 : Nat) (0 : Nat) Q (kOf Try.f23 (0 : Nat)) (mkS (22 : Nat) [((3 : Nat), AV.one (AC.i64 (max (Int.tdiv t (8 : Int) + max v (10 : Int)) (200 : Int)))), ((14 : Nat), AV.one (AC.i64 n)), ((15 : Nat), AV.one (AC.i64 (0 : Int)))]) []) ∧ (kn = false → KR X (23 : Nat) (0 : Nat) Q (kOf Try.f23 (0 : Nat)) (mkS (22 : Nat) [((3 : Nat), AV.one (AC.i64 (1000 : Int))), ((14 : Nat), AV.one (AC.i64 n)), ((15 : Nat), AV.one (AC.i64 (0 : Int)))]) [])) : KRun X 23 0 Q ([.code (bodyOf Try.f23)]) (slots [.agg [.b kn, .i64 t, .i64 v, .i64 n]] Try.f23.ntmps) [] :=
  wpRun_ok (hX ▸ env22_ok T0 mf0 M0) (hX ▸ env22_call T0_ok M0_ok) (hX ▸ mixed) (hX ▸ ok23) LK_ok (cast (show ((kn = true → ((8 : Int) ≠ (0 : Int) ∧ in64 (Int.tdiv t (8 : Int))) ∧ in64 (Int.tdiv t (8 : Int) + max v (10 : Int)) ∧ KR X (23 : Nat) (0 : Nat) Q (kOf Try.f23 (0 : Nat)) (mkS (22 : Nat) [((3 : Nat), AV.one (AC.i64 (max (Int.tdiv t (8 : Int) + max v (10 : Int)) (200 : Int)))), ((14 : Nat), AV.one (AC.i64 n)), ((15 : Nat), AV.one (AC.i64 (0 : Int)))]) []) ∧ (kn = false → KR X (23 : Nat) (0 : Nat) Q (kOf Try.f23 (0 : Nat)) (mkS (22 : Nat) [((3 : Nat), AV.one (AC.i64 (1000 : Int))), ((14 : Nat), AV.one (AC.i64 n)), ((15 : Nat), AV.one (AC.i64 (0 : Int)))]) [])) = wpRun (env22 T0 mf0 M0) [5, 16] [] false (RS.mk Try.f23.results.toList 0 (CS.mk [] [])) (LK X 23 0 Q true [(5, LS.mk [3, 14, 15] (CS.mk [] []))]) Q 2000 ([.code (bodyOf Try.f23)]) (slots [.agg [.b kn, .i64 t, .i64 v, .i64 n]] Try.f23.ntmps) [] by kernel_rfl) h)
theorem vc23a {X : Ctx} {Q : AV → Mem → Prop} (hX : X.P = Try.prog) (x y n : Int) (h : (decide (y < n) = true → in64 (x * (2 : Int)) ∧ in64 (y + (1 : Int)) ∧ KR X (23 : Nat) (0 : Nat) Q (kOf Try.f23 (0 : Nat)) (mkS (22 : Nat) [((3 : Nat), AV.one (AC.i64 (x * (2 : Int)))), ((14 : Nat), AV.one (AC.i64 n)), ((15 : Nat), AV.one (AC.i64 (y + (1 : Int))))]) []) ∧ (decide (y < n) = false → Q (AV.one (AC.i64 (min x (60000 : Int)))) [])) : KRun X 23 0 Q (kOf Try.f23 0) (mkS 22 [(3, .one (.i64 x)), (14, .one (.i64 n)), (15, .one (.i64 y))]) [] :=
  wpRun_ok (hX ▸ env22_ok T0 mf0 M0) (hX ▸ env22_call T0_ok M0_ok) (hX ▸ mixed) (hX ▸ ok23) LK_ok (cast (show ((decide (y < n) = true → in64 (x * (2 : Int)) ∧ in64 (y + (1 : Int)) ∧ KR X (23 : Nat) (0 : Nat) Q (kOf Try.f23 (0 : Nat)) (mkS (22 : Nat) [((3 : Nat), AV.one (AC.i64 (x * (2 : Int)))), ((14 : Nat), AV.one (AC.i64 n)), ((15 : Nat), AV.one (AC.i64 (y + (1 : Int))))]) []) ∧ (decide (y < n) = false → Q (AV.one (AC.i64 (min x (60000 : Int)))) [])) = wpRun (env22 T0 mf0 M0) [5, 16] [] false (RS.mk Try.f23.results.toList 0 (CS.mk [] [])) (LK X 23 0 Q true [(5, LS.mk [3, 14, 15] (CS.mk [] []))]) Q 2000 (kOf Try.f23 0) (mkS 22 [(3, .one (.i64 x)), (14, .one (.i64 n)), (15, .one (.i64 y))]) [] by kernel_rfl) h)
theorem vc24 {X : Ctx} {Q : AV → Mem → Prop} (hX : X.P = Try.prog) (kn : Bool) (t v n : Int) (h : AC.b kn = AC.b kn ∧ (kn = true → AC.i64 t = AC.i64 t ∧ ((8 : Int) ≠ (0 : Int) ∧ in64 (Int.tdiv t (8 : Int))) ∧ AC.i64 v = AC.i64 v ∧ in64 (Int.tdiv t (8 : Int) + max v (10 : Int)) ∧ KR X (24 : Nat) (0 : Nat) Q (kOf Try.f24 (0 : Nat)) (mkS (33 : Nat) [((0 : Nat), AV.one (AC.xp [AC.b kn, AC.i64 t, AC.i64 v, AC.i64 n] (0 : Nat))), ((3 : Nat), AV.one (AC.i64 (max (Int.tdiv t (8 : Int) + max v (10 : Int)) (200 : Int)))), ((4 : Nat), AV.one (AC.i64 (0 : Int)))]) []) ∧ (kn = false → KR X (24 : Nat) (0 : Nat) Q (kOf Try.f24 (0 : Nat)) (mkS (33 : Nat) [((0 : Nat), AV.one (AC.xp [AC.b kn, AC.i64 t, AC.i64 v, AC.i64 n] (0 : Nat))), ((3 : Nat), AV.one (AC.i64 (1000 : Int))), ((4 : Nat), AV.one (AC.i64 (0 : Int)))]) [])) : KRun X 24 0 Q ([.code (bodyOf Try.f24)]) (slots [.one (.xp [.b kn, .i64 t, .i64 v, .i64 n] 0)] Try.f24.ntmps) [] :=
  wpRun_ok (hX ▸ env22_ok T0 mf0 M0) (hX ▸ env22_call T0_ok M0_ok) (hX ▸ mixed) (hX ▸ ok24) LK_ok (cast (show (AC.b kn = AC.b kn ∧ (kn = true → AC.i64 t = AC.i64 t ∧ ((8 : Int) ≠ (0 : Int) ∧ in64 (Int.tdiv t (8 : Int))) ∧ AC.i64 v = AC.i64 v ∧ in64 (Int.tdiv t (8 : Int) + max v (10 : Int)) ∧ KR X (24 : Nat) (0 : Nat) Q (kOf Try.f24 (0 : Nat)) (mkS (33 : Nat) [((0 : Nat), AV.one (AC.xp [AC.b kn, AC.i64 t, AC.i64 v, AC.i64 n] (0 : Nat))), ((3 : Nat), AV.one (AC.i64 (max (Int.tdiv t (8 : Int) + max v (10 : Int)) (200 : Int)))), ((4 : Nat), AV.one (AC.i64 (0 : Int)))]) []) ∧ (kn = false → KR X (24 : Nat) (0 : Nat) Q (kOf Try.f24 (0 : Nat)) (mkS (33 : Nat) [((0 : Nat), AV.one (AC.xp [AC.b kn, AC.i64 t, AC.i64 v, AC.i64 n] (0 : Nat))), ((3 : Nat), AV.one (AC.i64 (1000 : Int))), ((4 : Nat), AV.one (AC.i64 (0 : Int)))]) [])) = wpRun (env22 T0 mf0 M0) [8, 26] [] false (RS.mk Try.f24.results.toList 0 (CS.mk [] [])) (LK X 24 0 Q true [(5, LS.mk [0, 3, 4] (CS.mk [] []))]) Q 2000 ([.code (bodyOf Try.f24)]) (slots [.one (.xp [.b kn, .i64 t, .i64 v, .i64 n] 0)] Try.f24.ntmps) [] by kernel_rfl) h)
theorem vc24a {X : Ctx} {Q : AV → Mem → Prop} (hX : X.P = Try.prog) (kn : Bool) (t v n x y : Int) (h : AC.i64 n = AC.i64 n ∧ (decide (y < n) = true → in64 (x * (2 : Int)) ∧ in64 (y + (1 : Int)) ∧ KR X (24 : Nat) (0 : Nat) Q (kOf Try.f24 (0 : Nat)) (mkS (33 : Nat) [((0 : Nat), AV.one (AC.xp [AC.b kn, AC.i64 t, AC.i64 v, AC.i64 n] (0 : Nat))), ((3 : Nat), AV.one (AC.i64 (x * (2 : Int)))), ((4 : Nat), AV.one (AC.i64 (y + (1 : Int))))]) []) ∧ (decide (y < n) = false → Q (AV.one (AC.i64 (min x (60000 : Int)))) [])) : KRun X 24 0 Q (kOf Try.f24 0) (mkS 33 [(0, .one (.xp [.b kn, .i64 t, .i64 v, .i64 n] 0)), (3, .one (.i64 x)), (4, .one (.i64 y))]) [] :=
  wpRun_ok (hX ▸ env22_ok T0 mf0 M0) (hX ▸ env22_call T0_ok M0_ok) (hX ▸ mixed) (hX ▸ ok24) LK_ok (cast (show (AC.i64 n = AC.i64 n ∧ (decide (y < n) = true → in64 (x * (2 : Int)) ∧ in64 (y + (1 : Int)) ∧ KR X (24 : Nat) (0 : Nat) Q (kOf Try.f24 (0 : Nat)) (mkS (33 : Nat) [((0 : Nat), AV.one (AC.xp [AC.b kn, AC.i64 t, AC.i64 v, AC.i64 n] (0 : Nat))), ((3 : Nat), AV.one (AC.i64 (x * (2 : Int)))), ((4 : Nat), AV.one (AC.i64 (y + (1 : Int))))]) []) ∧ (decide (y < n) = false → Q (AV.one (AC.i64 (min x (60000 : Int)))) [])) = wpRun (env22 T0 mf0 M0) [8, 26] [] false (RS.mk Try.f24.results.toList 0 (CS.mk [] [])) (LK X 24 0 Q true [(5, LS.mk [0, 3, 4] (CS.mk [] []))]) Q 2000 (kOf Try.f24 0) (mkS 33 [(0, .one (.xp [.b kn, .i64 t, .i64 v, .i64 n] 0)), (3, .one (.i64 x)), (4, .one (.i64 y))]) [] by kernel_rfl) h)
theorem vc22 {X : Ctx} {Q : AV → Mem → Prop} (hX : X.P = Try.prog) (kn : Bool) (t v n ms : Int) (h : (kn = true → ((8 : Int) ≠ (0 : Int) ∧ in64 (Int.tdiv t (8 : Int))) ∧ in64 (min (max ms (0 : Int)) (60000 : Int) - Int.tdiv t (8 : Int)) ∧ in64 (t + (min (max ms (0 : Int)) (60000 : Int) - Int.tdiv t (8 : Int))) ∧ (decide (min (max ms (0 : Int)) (60000 : Int) - Int.tdiv t (8 : Int) < (0 : Int)) = true → in64 ((0 : Int) - (min (max ms (0 : Int)) (60000 : Int) - Int.tdiv t (8 : Int))) ∧ ((4 : Int) ≠ (0 : Int) ∧ in64 (Int.tdiv v (4 : Int))) ∧ in64 ((0 : Int) - (min (max ms (0 : Int)) (60000 : Int) - Int.tdiv t (8 : Int)) - Int.tdiv v (4 : Int)) ∧ in64 (v + ((0 : Int) - (min (max ms (0 : Int)) (60000 : Int) - Int.tdiv t (8 : Int)) - Int.tdiv v (4 : Int))) ∧ Q (AV.tup []) [some [AC.b kn, AC.i64 (t + (min (max ms (0 : Int)) (60000 : Int) - Int.tdiv t (8 : Int))), AC.i64 (v + ((0 : Int) - (min (max ms (0 : Int)) (60000 : Int) - Int.tdiv t (8 : Int)) - Int.tdiv v (4 : Int))), AC.i64 (0 : Int)]]) ∧ (decide (min (max ms (0 : Int)) (60000 : Int) - Int.tdiv t (8 : Int) < (0 : Int)) = false → ((4 : Int) ≠ (0 : Int) ∧ in64 (Int.tdiv v (4 : Int))) ∧ in64 (min (max ms (0 : Int)) (60000 : Int) - Int.tdiv t (8 : Int) - Int.tdiv v (4 : Int)) ∧ in64 (v + (min (max ms (0 : Int)) (60000 : Int) - Int.tdiv t (8 : Int) - Int.tdiv v (4 : Int))) ∧ Q (AV.tup []) [some [AC.b kn, AC.i64 (t + (min (max ms (0 : Int)) (60000 : Int) - Int.tdiv t (8 : Int))), AC.i64 (v + (min (max ms (0 : Int)) (60000 : Int) - Int.tdiv t (8 : Int) - Int.tdiv v (4 : Int))), AC.i64 (0 : Int)]])) ∧ (kn = false → in64 ((8 : Int) * min (max ms (0 : Int)) (60000 : Int)) ∧ in64 ((2 : Int) * min (max ms (0 : Int)) (60000 : Int)) ∧ Q (AV.tup []) [some [AC.b true, AC.i64 ((8 : Int) * min (max ms (0 : Int)) (60000 : Int)), AC.i64 ((2 : Int) * min (max ms (0 : Int)) (60000 : Int)), AC.i64 (0 : Int)]])) : KRun X 22 1 Q ([.code (bodyOf Try.f22)]) (slots [.one (.ptr 0 0), .one (.i64 ms)] Try.f22.ntmps) [some [.b kn, .i64 t, .i64 v, .i64 n]] :=
  wpRun_ok (hX ▸ env22_ok T0 mf0 M0) (hX ▸ env22_call T0_ok M0_ok) (hX ▸ mixed) (hX ▸ ok22) LK_ok (cast (show ((kn = true → ((8 : Int) ≠ (0 : Int) ∧ in64 (Int.tdiv t (8 : Int))) ∧ in64 (min (max ms (0 : Int)) (60000 : Int) - Int.tdiv t (8 : Int)) ∧ in64 (t + (min (max ms (0 : Int)) (60000 : Int) - Int.tdiv t (8 : Int))) ∧ (decide (min (max ms (0 : Int)) (60000 : Int) - Int.tdiv t (8 : Int) < (0 : Int)) = true → in64 ((0 : Int) - (min (max ms (0 : Int)) (60000 : Int) - Int.tdiv t (8 : Int))) ∧ ((4 : Int) ≠ (0 : Int) ∧ in64 (Int.tdiv v (4 : Int))) ∧ in64 ((0 : Int) - (min (max ms (0 : Int)) (60000 : Int) - Int.tdiv t (8 : Int)) - Int.tdiv v (4 : Int)) ∧ in64 (v + ((0 : Int) - (min (max ms (0 : Int)) (60000 : Int) - Int.tdiv t (8 : Int)) - Int.tdiv v (4 : Int))) ∧ Q (AV.tup []) [some [AC.b kn, AC.i64 (t + (min (max ms (0 : Int)) (60000 : Int) - Int.tdiv t (8 : Int))), AC.i64 (v + ((0 : Int) - (min (max ms (0 : Int)) (60000 : Int) - Int.tdiv t (8 : Int)) - Int.tdiv v (4 : Int))), AC.i64 (0 : Int)]]) ∧ (decide (min (max ms (0 : Int)) (60000 : Int) - Int.tdiv t (8 : Int) < (0 : Int)) = false → ((4 : Int) ≠ (0 : Int) ∧ in64 (Int.tdiv v (4 : Int))) ∧ in64 (min (max ms (0 : Int)) (60000 : Int) - Int.tdiv t (8 : Int) - Int.tdiv v (4 : Int)) ∧ in64 (v + (min (max ms (0 : Int)) (60000 : Int) - Int.tdiv t (8 : Int) - Int.tdiv v (4 : Int))) ∧ Q (AV.tup []) [some [AC.b kn, AC.i64 (t + (min (max ms (0 : Int)) (60000 : Int) - Int.tdiv t (8 : Int))), AC.i64 (v + (min (max ms (0 : Int)) (60000 : Int) - Int.tdiv t (8 : Int) - Int.tdiv v (4 : Int))), AC.i64 (0 : Int)]])) ∧ (kn = false → in64 ((8 : Int) * min (max ms (0 : Int)) (60000 : Int)) ∧ in64 ((2 : Int) * min (max ms (0 : Int)) (60000 : Int)) ∧ Q (AV.tup []) [some [AC.b true, AC.i64 ((8 : Int) * min (max ms (0 : Int)) (60000 : Int)), AC.i64 ((2 : Int) * min (max ms (0 : Int)) (60000 : Int)), AC.i64 (0 : Int)]])) = wpRun (env22 T0 mf0 M0) [14, 45] [(8, 14)] false (RS.mk Try.f22.results.toList 1 (CS.mk [] [false])) (LK X 22 1 Q true []) Q 2000 ([.code (bodyOf Try.f22)]) (slots [.one (.ptr 0 0), .one (.i64 ms)] Try.f22.ntmps) [some [.b kn, .i64 t, .i64 v, .i64 n]] by kernel_rfl) h)
theorem vc21 {X : Ctx} {Q : AV → Mem → Prop} (hX : X.P = Try.prog) (kn : Bool) (t v n : Int) (h : in64 (n + (1 : Int)) ∧ Q (AV.tup []) [some [AC.b kn, AC.i64 t, AC.i64 v, AC.i64 (min (n + (1 : Int)) (16 : Int))]]) : KRun X 21 1 Q ([.code (bodyOf Try.f21)]) (slots [.one (.ptr 0 0)] Try.f21.ntmps) [some [.b kn, .i64 t, .i64 v, .i64 n]] :=
  wpRun_ok (hX ▸ env22_ok T0 mf0 M0) (hX ▸ env22_call T0_ok M0_ok) (hX ▸ mixed) (hX ▸ ok21) LK_ok (cast (show (in64 (n + (1 : Int)) ∧ Q (AV.tup []) [some [AC.b kn, AC.i64 t, AC.i64 v, AC.i64 (min (n + (1 : Int)) (16 : Int))]]) = wpRun (env22 T0 mf0 M0) [] [] false (RS.mk Try.f21.results.toList 1 (CS.mk [] [false])) (LK X 21 1 Q true []) Q 2000 ([.code (bodyOf Try.f21)]) (slots [.one (.ptr 0 0)] Try.f21.ntmps) [some [.b kn, .i64 t, .i64 v, .i64 n]] by kernel_rfl) h)

theorem td8 {t : Int} (h : 0 ≤ t) : Int.tdiv t 8 = t / 8 := Int.tdiv_eq_ediv_of_nonneg h
theorem td4 {t : Int} (h : 0 ≤ t) : Int.tdiv t 4 = t / 4 := Int.tdiv_eq_ediv_of_nonneg h

theorem td2 {t : Int} (h : 0 ≤ t) : Int.tdiv t 2 = t / 2 := Int.tdiv_eq_ediv_of_nonneg h
theorem s18 (kn : Bool) (t v n ms : Int) (h : fine t v n) : Spec Try.prog 18 [.agg [.b kn, .i64 t, .i64 v, .i64 n], .one (.i64 ms)] [] (Is (.agg [.b true, .i64 (smT kn t ms), .i64 (smV kn t v ms), .i64 0])) := by
  obtain ⟨h1, h2, h3, h4, h5, h6⟩ := h
  refine Spec.of_run ok18 fun X hX => vc18 hX kn t v n ms ?_
  have := clamp_b ms
  have e : min (max ms 0) 60000 = clampMs ms := rfl
  rw [e]
  have e8 := td8 h1
  have e4 := td4 h3
  have e2 : Int.tdiv (4 * clampMs ms) 2 = 2 * clampMs ms := by rw [td2 (by omega)]; omega
  cases kn
  · refine ⟨nofun, fun hk => ⟨?_, ?_, ⟨by decide, ?_⟩, ?_⟩⟩
    iterate 3 (unfold in64; omega)
    rw [e2]
    exact rfl
  · refine ⟨fun hk => ⟨⟨by decide, ?_⟩, ?_, ?_, ?_, ?_, ⟨by decide, ?_⟩, ?_, rfl⟩, nofun⟩
    all_goals (unfold in64; omega)

theorem s22 (kn : Bool) (t v n ms : Int) (h : fine t v n) : Spec Try.prog 22 [.one (.ptr 0 0), .one (.i64 ms)] [some [.b kn, .i64 t, .i64 v, .i64 n]] (Are (.tup []) [some [.b true, .i64 (smT kn t ms), .i64 (smV kn t v ms), .i64 0]]) := by
  obtain ⟨h1, h2, h3, h4, h5, h6⟩ := h
  refine Spec.of_run ok22 fun X hX => vc22 hX kn t v n ms ?_
  have := clamp_b ms
  have e : min (max ms 0) 60000 = clampMs ms := rfl
  rw [e]
  have e8 := td8 h1
  have e4 := td4 h3
  cases kn
  · refine ⟨nofun, fun hk => ⟨?_, ?_, ⟨rfl, rfl⟩⟩⟩
    all_goals (unfold in64; omega)
  · refine ⟨fun hk => ⟨⟨by decide, ?_⟩, ?_, ?_, fun hd => ⟨?_, ⟨by decide, ?_⟩, ?_, ?_, rfl, ?_⟩, fun hd => ⟨⟨by decide, ?_⟩, ?_, ?_, rfl, ?_⟩⟩, nofun⟩
    all_goals first | (unfold in64; omega) | skip
    · have hd := of_decide_eq_true hd
      have e : v + (0 - (clampMs ms - Int.tdiv t 8) - Int.tdiv v 4) = smV true t v ms := by simp only [smV]; omega
      rw [e]
      exact rfl
    · have hd := of_decide_eq_false hd
      have e : v + (clampMs ms - Int.tdiv t 8 - Int.tdiv v 4) = smV true t v ms := by simp only [smV]; omega
      rw [e]
      exact rfl

theorem s21 (kn : Bool) (t v n : Int) (h : fine t v n) : Spec Try.prog 21 [.one (.ptr 0 0)] [some [.b kn, .i64 t, .i64 v, .i64 n]] (Are (.tup []) [some [.b kn, .i64 t, .i64 v, .i64 (min (n + 1) 16)]]) := by
  obtain ⟨h1, h2, h3, h4, h5, h6⟩ := h
  exact Spec.of_run ok21 fun X hX => vc21 hX kn t v n ⟨by unfold in64; omega, rfl, rfl⟩

theorem wt0_b {kn : Bool} {t v n : Int} (h : fine t v n) : 200 ≤ wt0 kn t v ∧ wt0 kn t v ≤ 400000 := by
  obtain ⟨h1, h2, h3, h4, h5, h6⟩ := h
  cases kn <;> simp only [wt0, td8 h1] <;> omega

theorem pow_b {n : Int} {y : Nat} (h : (y : Int) < n) (hn : n ≤ 16) : (2 : Int) ^ y ≤ 65536 ∧ 0 < (2 : Int) ^ y := by
  have h1 : y ≤ 16 := by omega
  have h2 : 2 ^ y ≤ 2 ^ 16 := Nat.pow_le_pow_right (by decide) h1
  have h3 : ((2 ^ y : Nat) : Int) = (2 : Int) ^ y := by simp
  have h4 : 0 < 2 ^ y := Nat.pow_pos (by decide)
  omega

theorem l23 {X : Ctx} (hX : X.P = Try.prog) (kn : Bool) (t v n : Int) (h : fine t v n) : ∀ (d y : Nat), (y : Int) + d = n →
    KRun X 23 0 (Is (.one (.i64 (wtF kn t v n)))) (kOf Try.f23 0) (mkS 22 [(3, .one (.i64 (wt0 kn t v * 2 ^ y))), (14, .one (.i64 n)), (15, .one (.i64 y))]) [] := by
  have hb := wt0_b (kn := kn) h
  have hn := h.2.2.2.2.2
  intro d
  induction d with
  | zero =>
    intro y hy
    have : n.toNat = y := by omega
    refine vc23a hX _ _ _ ⟨fun hd => absurd (of_decide_eq_true hd) (by omega), fun _ => ?_⟩
    unfold wtF
    rw [this]
    exact rfl
  | succ d ih =>
    intro y hy
    have hp := pow_b (n := n) (y := y) (by omega) hn
    have hm : wt0 kn t v * 2 ^ y ≤ 400000 * 65536 := Int.mul_le_mul hb.2 hp.1 (by omega) (by omega)
    have hm0 : 0 ≤ wt0 kn t v * 2 ^ y := Int.mul_nonneg (by omega) (by omega)
    refine vc23a hX _ _ _ ⟨fun hd => ⟨by unfold in64; omega, by unfold in64; omega, ⟨?_⟩⟩, fun hd => absurd (of_decide_eq_false hd) (by omega)⟩
    have := ih (y + 1) (by omega)
    rw [Int.pow_succ, ← Int.mul_assoc] at this
    exact this

theorem s23 (kn : Bool) (t v n : Int) (h : fine t v n) : Spec Try.prog 23 [.agg [.b kn, .i64 t, .i64 v, .i64 n]] [] (Is (.one (.i64 (wtF kn t v n)))) := by
  refine Spec.of_run ok23 fun X hX => vc23 hX kn t v n ?_
  have hl := l23 hX kn t v n h n.toNat 0 (by have := h.2.2.2.2.1; omega)
  obtain ⟨h1, h2, h3, h4, h5, h6⟩ := h
  have e8 := td8 h1
  rw [Int.pow_zero, Int.mul_one] at hl
  cases kn
  · exact ⟨nofun, fun hk => ⟨hl⟩⟩
  · exact ⟨fun hk => ⟨⟨by decide, by unfold in64; omega⟩, by unfold in64; omega, ⟨hl⟩⟩, nofun⟩

theorem l24 {X : Ctx} (hX : X.P = Try.prog) (kn : Bool) (t v n : Int) (h : fine t v n) : ∀ (d y : Nat), (y : Int) + d = n →
    KRun X 24 0 (Is (.one (.i64 (wtF kn t v n)))) (kOf Try.f24 0) (mkS 33 [(0, .one (.xp [.b kn, .i64 t, .i64 v, .i64 n] 0)), (3, .one (.i64 (wt0 kn t v * 2 ^ y))), (4, .one (.i64 y))]) [] := by
  have hb := wt0_b (kn := kn) h
  have hn := h.2.2.2.2.2
  intro d
  induction d with
  | zero =>
    intro y hy
    have : n.toNat = y := by omega
    refine vc24a hX _ _ _ _ _ _ ⟨rfl, fun hd => absurd (of_decide_eq_true hd) (by omega), fun _ => ?_⟩
    unfold wtF
    rw [this]
    exact rfl
  | succ d ih =>
    intro y hy
    have hp := pow_b (n := n) (y := y) (by omega) hn
    have hm : wt0 kn t v * 2 ^ y ≤ 400000 * 65536 := Int.mul_le_mul hb.2 hp.1 (by omega) (by omega)
    have hm0 : 0 ≤ wt0 kn t v * 2 ^ y := Int.mul_nonneg (by omega) (by omega)
    refine vc24a hX _ _ _ _ _ _ ⟨rfl, fun hd => ⟨by unfold in64; omega, by unfold in64; omega, ⟨?_⟩⟩, fun hd => absurd (of_decide_eq_false hd) (by omega)⟩
    have := ih (y + 1) (by omega)
    rw [Int.pow_succ, ← Int.mul_assoc] at this
    exact this

theorem s24 (kn : Bool) (t v n : Int) (h : fine t v n) : Spec Try.prog 24 [.one (.xp [.b kn, .i64 t, .i64 v, .i64 n] 0)] [] (Is (.one (.i64 (wtF kn t v n)))) := by
  refine Spec.of_run ok24 fun X hX => vc24 hX kn t v n ?_
  have hl := l24 hX kn t v n h n.toNat 0 (by have := h.2.2.2.2.1; omega)
  obtain ⟨h1, h2, h3, h4, h5, h6⟩ := h
  have e8 := td8 h1
  rw [Int.pow_zero, Int.mul_one] at hl
  cases kn
  · exact ⟨rfl, nofun, fun hk => ⟨hl⟩⟩
  · exact ⟨rfl, fun hk => ⟨rfl, ⟨by decide, by unfold in64; omega⟩, rfl, by unfold in64; omega, ⟨hl⟩⟩, nofun⟩

end DH
