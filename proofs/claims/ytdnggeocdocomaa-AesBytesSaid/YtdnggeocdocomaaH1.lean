/- Walks of functions, each by evaluation: what each returns. -/
import Derived.Test.YtdnggeocdocomaaTr3
import Derived.Test.YtdnggeocdocomaaH0
set_option linter.unusedVariables false
set_option linter.unusedSimpArgs false
noncomputable section
namespace DH
open Go Go.Proofs

theorem ok36 : FnOk Try.prog 36 Try.f36 (bodyOf Try.f36) := .of Try.func36 (by kernel_rfl) (by kernel_rfl)
theorem ok37 : FnOk Try.prog 37 Try.f37 (bodyOf Try.f37) := .of Try.func37 (by kernel_rfl) (by kernel_rfl)
theorem ok38 : FnOk Try.prog 38 Try.f38 (bodyOf Try.f38) := .of Try.func38 (by kernel_rfl) (by kernel_rfl)
theorem ok39 : FnOk Try.prog 39 Try.f39 (bodyOf Try.f39) := .of Try.func39 (by kernel_rfl) (by kernel_rfl)
theorem ok40 : FnOk Try.prog 40 Try.f40 (bodyOf Try.f40) := .of Try.func40 (by kernel_rfl) (by kernel_rfl)
theorem ok41 : FnOk Try.prog 41 Try.f41 (bodyOf Try.f41) := .of Try.func41 (by kernel_rfl) (by kernel_rfl)
theorem ok42 : FnOk Try.prog 42 Try.f42 (bodyOf Try.f42) := .of Try.func42 (by kernel_rfl) (by kernel_rfl)
theorem ok93 : FnOk Try.prog 93 Try.f93 (bodyOf Try.f93) := .of Try.func93 (by kernel_rfl) (by kernel_rfl)
theorem ok94 : FnOk Try.prog 94 Try.f94 (bodyOf Try.f94) := .of Try.func94 (by kernel_rfl) (by kernel_rfl)
theorem ok95 : FnOk Try.prog 95 Try.f95 (bodyOf Try.f95) := .of Try.func95 (by kernel_rfl) (by kernel_rfl)
theorem ok96 : FnOk Try.prog 96 Try.f96 (bodyOf Try.f96) := .of Try.func96 (by kernel_rfl) (by kernel_rfl)
theorem ok121 : FnOk Try.prog 121 Try.f121 (bodyOf Try.f121) := .of Try.func121 (by kernel_rfl) (by kernel_rfl)
theorem ok122 : FnOk Try.prog 122 Try.f122 (bodyOf Try.f122) := .of Try.func122 (by kernel_rfl) (by kernel_rfl)
theorem ok123 : FnOk Try.prog 123 Try.f123 (bodyOf Try.f123) := .of Try.func123 (by kernel_rfl) (by kernel_rfl)
theorem ok4 : FnOk Try.prog 4 Try.f4 (bodyOf Try.f4) := .of Try.func4 (by kernel_rfl) (by kernel_rfl)
theorem ok5 : FnOk Try.prog 5 Try.f5 (bodyOf Try.f5) := .of Try.func5 (by kernel_rfl) (by kernel_rfl)
theorem ok6 : FnOk Try.prog 6 Try.f6 (bodyOf Try.f6) := .of Try.func6 (by kernel_rfl) (by kernel_rfl)
theorem ok7 : FnOk Try.prog 7 Try.f7 (bodyOf Try.f7) := .of Try.func7 (by kernel_rfl) (by kernel_rfl)

def symS (t : TypeId) : Bool :=
  match t with
  | 5 => true
  | 26 => true
  | 50 => true
  | 53 => true
  | 160 => true
  | 162 => true
  | _ => false
noncomputable def baseS (T : Tab) (mf : FuncId → Option MF) (M : TabM) : Env := ⟨tys, symS, false, T, [], mf, M⟩
theorem baseS_ok (T : Tab) (mf : FuncId → Option MF) (M : TabM) : EnvOk Try.prog (baseS T mf M) := EnvOk.of tysOk
theorem baseS_call {T : Tab} {mf : FuncId → Option MF} {M : TabM} (hT : TabOk Try.prog T) (hM : TabMOk Try.prog M) : CallOk Try.prog (baseS T mf M) :=
  ⟨hT, fun f mf xs m0 cs r m1 _ h hc => hM f xs m0 cs r m1 h hc⟩
noncomputable def T0 : Tab := fun _ _ => none
theorem T0_ok : TabOk Try.prog T0 := fun f xs cs r h => by cases h
noncomputable def M0 : TabM := fun _ _ _ => none
theorem M0_ok : TabMOk Try.prog M0 := fun f xs m cs r m1 h => by cases h
noncomputable def mf0 : FuncId → Option MF := fun _ => none

set_option maxRecDepth 100000 in
theorem vc121 {X : Ctx} {Q : AV → Mem → Prop} (hX : X.P = Try.prog) (x : BitVec 32) (k : Int) (h : (0 : Int) ≤ k ∧ in64 ((32 : Int) - k) ∧ (0 : Int) ≤ (32 : Int) - k ∧ Q (AV.one (AC.u32 (x <<< Int.toNat k ||| x >>> Int.toNat ((32 : Int) - k)))) []) : KRun X 121 0 Q ([.code (bodyOf Try.f121)]) (slots [.one (.u32 x), .one (.i64 k)] Try.f121.ntmps) [] :=
  wpRun_ok (hX ▸ baseS_ok T0 mf0 M0) (hX ▸ baseS_call T0_ok M0_ok) (hX ▸ mixed) (hX ▸ ok121) LK_ok (cast (β := wpRun (baseS T0 mf0 M0) [] [] false (RS.mk Try.f121.results.toList 0 (CS.mk [] [] [] [])) (LK X 121 0 Q true []) Q 2000 ([.code (bodyOf Try.f121)]) (slots [.one (.u32 x), .one (.i64 k)] Try.f121.ntmps) []) (by kernel_rfl) h)
set_option maxRecDepth 100000 in
theorem vc122a {X : Ctx} {Q : AV → Mem → Prop} (hX : X.P = Try.prog) (x : BitVec 32) (h : Q (AV.one (AC.u32 (x <<< 1 ||| x >>> 31))) []) : KRun X 122 0 Q ([.code (bodyOf Try.f122)]) (slots [.one (.u32 x), .one (.i64 1)] Try.f122.ntmps) [] :=
  wpRun_ok (hX ▸ baseS_ok T0 mf0 M0) (hX ▸ baseS_call T0_ok M0_ok) (hX ▸ mixed) (hX ▸ ok122) LK_ok (cast (β := wpRun (baseS T0 mf0 M0) [] [] false (RS.mk Try.f122.results.toList 0 (CS.mk [] [] [] [])) (LK X 122 0 Q true []) Q 2000 ([.code (bodyOf Try.f122)]) (slots [.one (.u32 x), .one (.i64 1)] Try.f122.ntmps) []) (by kernel_rfl) h)
set_option maxRecDepth 100000 in
theorem vc122b {X : Ctx} {Q : AV → Mem → Prop} (hX : X.P = Try.prog) (x : BitVec 32) (h : Q (AV.one (AC.u32 (x <<< 5 ||| x >>> 27))) []) : KRun X 122 0 Q ([.code (bodyOf Try.f122)]) (slots [.one (.u32 x), .one (.i64 5)] Try.f122.ntmps) [] :=
  wpRun_ok (hX ▸ baseS_ok T0 mf0 M0) (hX ▸ baseS_call T0_ok M0_ok) (hX ▸ mixed) (hX ▸ ok122) LK_ok (cast (β := wpRun (baseS T0 mf0 M0) [] [] false (RS.mk Try.f122.results.toList 0 (CS.mk [] [] [] [])) (LK X 122 0 Q true []) Q 2000 ([.code (bodyOf Try.f122)]) (slots [.one (.u32 x), .one (.i64 5)] Try.f122.ntmps) []) (by kernel_rfl) h)
set_option maxRecDepth 100000 in
theorem vc122c {X : Ctx} {Q : AV → Mem → Prop} (hX : X.P = Try.prog) (x : BitVec 32) (h : Q (AV.one (AC.u32 (x <<< 30 ||| x >>> 2))) []) : KRun X 122 0 Q ([.code (bodyOf Try.f122)]) (slots [.one (.u32 x), .one (.i64 30)] Try.f122.ntmps) [] :=
  wpRun_ok (hX ▸ baseS_ok T0 mf0 M0) (hX ▸ baseS_call T0_ok M0_ok) (hX ▸ mixed) (hX ▸ ok122) LK_ok (cast (β := wpRun (baseS T0 mf0 M0) [] [] false (RS.mk Try.f122.results.toList 0 (CS.mk [] [] [] [])) (LK X 122 0 Q true []) Q 2000 ([.code (bodyOf Try.f122)]) (slots [.one (.u32 x), .one (.i64 30)] Try.f122.ntmps) []) (by kernel_rfl) h)
set_option maxRecDepth 100000 in
theorem vc123 {X : Ctx} {Q : AV → Mem → Prop} (hX : X.P = Try.prog) (t : Int) (b c d : BitVec 32) (h : ((20 : Int) ≠ (0 : Int) ∧ in64 (Int.tdiv t (20 : Int))) ∧ (decide (Int.tdiv t (20 : Int) = (0 : Int)) = true → Q (AV.one (AC.u32 ((b &&& (c ^^^ d) ^^^ d) + BitVec.ofInt 32 (1518500249 : Int)))) []) ∧ (decide (Int.tdiv t (20 : Int) = (0 : Int)) = false → (decide (Int.tdiv t (20 : Int) = (1 : Int)) = true → Q (AV.one (AC.u32 ((b ^^^ c ^^^ d) + BitVec.ofInt 32 (1859775393 : Int)))) []) ∧ (decide (Int.tdiv t (20 : Int) = (1 : Int)) = false → (decide (Int.tdiv t (20 : Int) = (2 : Int)) = true → Q (AV.one (AC.u32 ((b &&& c ||| d &&& (b ||| c)) + BitVec.ofInt 32 (2400959708 : Int)))) []) ∧ (decide (Int.tdiv t (20 : Int) = (2 : Int)) = false → Q (AV.one (AC.u32 ((b ^^^ c ^^^ d) + BitVec.ofInt 32 (3395469782 : Int)))) [])))) : KRun X 123 0 Q ([.code (bodyOf Try.f123)]) (slots [.one (.i64 t), .one (.u32 b), .one (.u32 c), .one (.u32 d)] Try.f123.ntmps) [] :=
  wpRun_ok (hX ▸ baseS_ok T0 mf0 M0) (hX ▸ baseS_call T0_ok M0_ok) (hX ▸ mixed) (hX ▸ ok123) LK_ok (cast (β := wpRun (baseS T0 mf0 M0) [12, 22, 30] [] false (RS.mk Try.f123.results.toList 0 (CS.mk [] [] [] [])) (LK X 123 0 Q true []) Q 2000 ([.code (bodyOf Try.f123)]) (slots [.one (.i64 t), .one (.u32 b), .one (.u32 c), .one (.u32 d)] Try.f123.ntmps) []) (by kernel_rfl) h)

theorem s121 (x : BitVec 32) (k : Nat) (hk : k ≤ 32) : Spec Try.prog 121 [.one (.u32 x), .one (.i64 k)] [] (Is (.one (.u32 (rol x k)))) := by
  refine Spec.of_run ok121 fun X hX => vc121 hX x k ⟨by omega, by unfold in64; omega, by omega, ?_⟩
  have e1 : (k : Int).toNat = k := Int.toNat_natCast k
  have e2 : ((32 : Int) - k).toNat = 32 - k := by omega
  rw [e1, e2]
  exact rfl
theorem s122a (x : BitVec 32) : Spec Try.prog 122 [.one (.u32 x), .one (.i64 1)] [] (Is (.one (.u32 (rol x 1)))) := Spec.of_run ok122 fun X hX => vc122a hX x rfl
theorem s122b (x : BitVec 32) : Spec Try.prog 122 [.one (.u32 x), .one (.i64 5)] [] (Is (.one (.u32 (rol x 5)))) := Spec.of_run ok122 fun X hX => vc122b hX x rfl
theorem s122c (x : BitVec 32) : Spec Try.prog 122 [.one (.u32 x), .one (.i64 30)] [] (Is (.one (.u32 (rol x 30)))) := Spec.of_run ok122 fun X hX => vc122c hX x rfl
theorem s123 (t : Nat) (b c d : BitVec 32) (ht : t < 80) : Spec Try.prog 123 [.one (.i64 t), .one (.u32 b), .one (.u32 c), .one (.u32 d)] [] (Is (.one (.u32 (mixF t b c d)))) := by
  refine Spec.of_run ok123 fun X hX => vc123 hX t b c d ?_
  have e : Int.tdiv (t : Int) 20 = ((t / 20 : Nat) : Int) := by rw [Int.tdiv_eq_ediv_of_nonneg (by omega)]; omega
  rw [e]
  have leaf : ∀ x : BitVec 32, x = mixF t b c d → Is (.one (.u32 (mixF t b c d))) (.one (.u32 x)) [] := fun x h => by rw [h]; exact rfl
  refine ⟨⟨by decide, by unfold in64; omega⟩, fun h => leaf _ ?_, fun h0 => ⟨fun h => leaf _ ?_, fun h1 => ⟨fun h => leaf _ ?_, fun h2 => leaf _ ?_⟩⟩⟩
  · have h := of_decide_eq_true h
    unfold mixF; rw [if_pos (by omega)]; rfl
  · have h := of_decide_eq_true h
    unfold mixF; rw [if_neg (by omega), if_pos (by omega)]; rfl
  · have h := of_decide_eq_true h
    unfold mixF; rw [if_neg (by omega), if_neg (by omega), if_pos (by omega)]; rfl
  · have h0 := of_decide_eq_false h0
    have h1 := of_decide_eq_false h1
    have h2 := of_decide_eq_false h2
    unfold mixF; rw [if_neg (by omega), if_neg (by omega), if_neg (by omega)]; rfl

noncomputable def T1 : Tab := fun f xs => match f, xs with
  | 121, [.one (.u32 x), .one (.i64 k)] => some ([0 ≤ k ∧ k ≤ 32], .one (.u32 (rol x k.toNat)))
  | 122, [.one (.u32 x), .one (.i64 1)] => some ([], .one (.u32 (rol x 1)))
  | 122, [.one (.u32 x), .one (.i64 5)] => some ([], .one (.u32 (rol x 5)))
  | 122, [.one (.u32 x), .one (.i64 30)] => some ([], .one (.u32 (rol x 30)))
  | 123, [.one (.i64 t), .one (.u32 b), .one (.u32 c), .one (.u32 d)] => some ([0 ≤ t ∧ t < 80], .one (.u32 (mixF t.toNat b c d)))
  | _, _ => none
theorem T1_ok : TabOk Try.prog T1 := by
  intro f xs cs r h hc
  unfold T1 at h
  split at h <;> first | (cases h; done) | (obtain ⟨rfl, rfl⟩ := Prod.mk.inj (Option.some.inj h))
  · rename_i x k
    obtain ⟨n, rfl⟩ := Int.eq_ofNat_of_zero_le hc.1.1
    exact ⟨⟨_, _, ok121⟩, s121 x n (by have := hc.1.2; omega), rfl⟩
  · exact ⟨⟨_, _, ok122⟩, s122a _, rfl⟩
  · exact ⟨⟨_, _, ok122⟩, s122b _, rfl⟩
  · exact ⟨⟨_, _, ok122⟩, s122c _, rfl⟩
  · rename_i t b c d
    obtain ⟨n, rfl⟩ := Int.eq_ofNat_of_zero_le hc.1.1
    exact ⟨⟨_, _, ok123⟩, s123 n b c d (by have := hc.1.2; omega), rfl⟩
set_option maxRecDepth 100000 in
theorem vc95 {X : Ctx} {Q : AV → Mem → Prop} (hX : X.P = Try.prog) (h0 h1 h2 h3 h4 : BitVec 32) (row : List AC) (n : Nat) (h : Flat (List.replicate 16 (AC.u32 (0 : BitVec 32))) ∧ KR X 95 0 Q (kOf Try.f95 0) (mkS 137 [(1, AV.one (AC.xs row 0 n)), (2, AV.one (AC.ptr 0 0)), (4, AV.one (AC.ptr 1 0)), (5, AV.one (AC.ptr 2 0)), (14, AV.one (AC.i64 (0 : Int)))]) [some [AC.u32 h0, AC.u32 h1, AC.u32 h2, AC.u32 h3, AC.u32 h4], some [AC.u32 (0 : BitVec 32), AC.u32 (0 : BitVec 32), AC.u32 (0 : BitVec 32), AC.u32 (0 : BitVec 32), AC.u32 (0 : BitVec 32)], some (List.replicate 16 (AC.u32 (0 : BitVec 32)))]) : KRun X 95 0 Q ([.code (bodyOf Try.f95)]) (slots [.agg [.u32 h0, .u32 h1, .u32 h2, .u32 h3, .u32 h4], .one (.xs row 0 n)] Try.f95.ntmps) [] :=
  wpRun_ok (hX ▸ baseS_ok T1 mf0 M0) (hX ▸ baseS_call T1_ok M0_ok) (hX ▸ mixed) (hX ▸ ok95) LK_ok (cast (β := wpRun (baseS T1 mf0 M0) [15, 64, 67] [(5, 35), (12, 26)] false (RS.mk Try.f95.results.toList 0 (CS.mk [] [] [] [])) (LK X 95 0 Q true [(3, LS.mk [1, 2, 4, 5, 14] (CS.mk [] [false, false] [] [])), (9, LS.mk [2, 4, 5, 7, 8, 9, 10, 11, 63] (CS.mk [] [false, false] [] []))]) Q 2000 ([.code (bodyOf Try.f95)]) (slots [.agg [.u32 h0, .u32 h1, .u32 h2, .u32 h3, .u32 h4], .one (.xs row 0 n)] Try.f95.ntmps) []) (by kernel_rfl) h)
set_option maxRecDepth 100000 in
theorem vc95a {X : Ctx} {Q : AV → Mem → Prop} (hX : X.P = Try.prog) (h0 h1 h2 h3 h4 : BitVec 32) (row w : List AC) (n : Nat) (i : Int) (h : (decide (i < (16 : Int)) = true → in64 ((4 : Int) * i) ∧ ((0 : Int) ≤ (4 : Int) * i ∧ (4 : Int) * i < (↑n : Int)) ∧ gt AC.any row (0 + Int.toNat ((4 : Int) * i) * 1) = AC.u8 (asU8 (gt AC.any row (0 + Int.toNat ((4 : Int) * i) * 1))) ∧ in64 ((4 : Int) * i) ∧ in64 ((4 : Int) * i + (1 : Int)) ∧ ((0 : Int) ≤ (4 : Int) * i + (1 : Int) ∧ (4 : Int) * i + (1 : Int) < (↑n : Int)) ∧ gt AC.any row (0 + Int.toNat ((4 : Int) * i + (1 : Int)) * 1) = AC.u8 (asU8 (gt AC.any row (0 + Int.toNat ((4 : Int) * i + (1 : Int)) * 1))) ∧ in64 ((4 : Int) * i) ∧ in64 ((4 : Int) * i + (2 : Int)) ∧ ((0 : Int) ≤ (4 : Int) * i + (2 : Int) ∧ (4 : Int) * i + (2 : Int) < (↑n : Int)) ∧ gt AC.any row (0 + Int.toNat ((4 : Int) * i + (2 : Int)) * 1) = AC.u8 (asU8 (gt AC.any row (0 + Int.toNat ((4 : Int) * i + (2 : Int)) * 1))) ∧ in64 ((4 : Int) * i) ∧ in64 ((4 : Int) * i + (3 : Int)) ∧ ((0 : Int) ≤ (4 : Int) * i + (3 : Int) ∧ (4 : Int) * i + (3 : Int) < (↑n : Int)) ∧ gt AC.any row (0 + Int.toNat ((4 : Int) * i + (3 : Int)) * 1) = AC.u8 (asU8 (gt AC.any row (0 + Int.toNat ((4 : Int) * i + (3 : Int)) * 1))) ∧ ((0 : Int) ≤ i ∧ i < (↑16 : Int)) ∧ (1 = 1 ∧ 0 + Int.toNat i * 1 + 1 ≤ List.length w) ∧ in64 (i + (1 : Int)) ∧ Flat (layS w (0 + Int.toNat i * 1) [AC.u32 (BitVec.setWidth 32 (asU8 (gt AC.any row (0 + Int.toNat ((4 : Int) * i) * 1))) <<< 24 ||| BitVec.setWidth 32 (asU8 (gt AC.any row (0 + Int.toNat ((4 : Int) * i + (1 : Int)) * 1))) <<< 16 ||| BitVec.setWidth 32 (asU8 (gt AC.any row (0 + Int.toNat ((4 : Int) * i + (2 : Int)) * 1))) <<< 8 ||| BitVec.setWidth 32 (asU8 (gt AC.any row (0 + Int.toNat ((4 : Int) * i + (3 : Int)) * 1))))]) ∧ KR X 95 0 Q (kOf Try.f95 0) (mkS 137 [(1, AV.one (AC.xs row 0 n)), (2, AV.one (AC.ptr 0 0)), (4, AV.one (AC.ptr 1 0)), (5, AV.one (AC.ptr 2 0)), (14, AV.one (AC.i64 (i + (1 : Int))))]) [some [AC.u32 h0, AC.u32 h1, AC.u32 h2, AC.u32 h3, AC.u32 h4], some [AC.u32 (0 : BitVec 32), AC.u32 (0 : BitVec 32), AC.u32 (0 : BitVec 32), AC.u32 (0 : BitVec 32), AC.u32 (0 : BitVec 32)], some (layS w (0 + Int.toNat i * 1) [AC.u32 (BitVec.setWidth 32 (asU8 (gt AC.any row (0 + Int.toNat ((4 : Int) * i) * 1))) <<< 24 ||| BitVec.setWidth 32 (asU8 (gt AC.any row (0 + Int.toNat ((4 : Int) * i + (1 : Int)) * 1))) <<< 16 ||| BitVec.setWidth 32 (asU8 (gt AC.any row (0 + Int.toNat ((4 : Int) * i + (2 : Int)) * 1))) <<< 8 ||| BitVec.setWidth 32 (asU8 (gt AC.any row (0 + Int.toNat ((4 : Int) * i + (3 : Int)) * 1))))])]) ∧ (decide (i < (16 : Int)) = false → ((0 : Int) ≤ (0 : Int) ∧ (0 : Int) < (↑5 : Int)) ∧ AC.u32 h0 = AC.u32 h0 ∧ ((0 : Int) ≤ (1 : Int) ∧ (1 : Int) < (↑5 : Int)) ∧ AC.u32 h1 = AC.u32 h1 ∧ ((0 : Int) ≤ (2 : Int) ∧ (2 : Int) < (↑5 : Int)) ∧ AC.u32 h2 = AC.u32 h2 ∧ ((0 : Int) ≤ (3 : Int) ∧ (3 : Int) < (↑5 : Int)) ∧ AC.u32 h3 = AC.u32 h3 ∧ ((0 : Int) ≤ (4 : Int) ∧ (4 : Int) < (↑5 : Int)) ∧ AC.u32 h4 = AC.u32 h4 ∧ Flat w ∧ KR X 95 0 Q (kOf Try.f95 1) (mkS 137 [(2, AV.one (AC.ptr 0 0)), (4, AV.one (AC.ptr 1 0)), (5, AV.one (AC.ptr 2 0)), (7, AV.one (AC.u32 h0)), (8, AV.one (AC.u32 h1)), (9, AV.one (AC.u32 h2)), (10, AV.one (AC.u32 h3)), (11, AV.one (AC.u32 h4)), (63, AV.one (AC.i64 (0 : Int)))]) [some [AC.u32 h0, AC.u32 h1, AC.u32 h2, AC.u32 h3, AC.u32 h4], some [AC.u32 (0 : BitVec 32), AC.u32 (0 : BitVec 32), AC.u32 (0 : BitVec 32), AC.u32 (0 : BitVec 32), AC.u32 (0 : BitVec 32)], some w])) : KRun X 95 0 Q (kOf Try.f95 0) (mkS 137 [(1, .one (.xs row 0 n)), (2, .one (.ptr 0 0)), (4, .one (.ptr 1 0)), (5, .one (.ptr 2 0)), (14, .one (.i64 i))]) [some [.u32 h0, .u32 h1, .u32 h2, .u32 h3, .u32 h4], some [.u32 0, .u32 0, .u32 0, .u32 0, .u32 0], some w] :=
  wpRun_ok (hX ▸ baseS_ok T1 mf0 M0) (hX ▸ baseS_call T1_ok M0_ok) (hX ▸ mixed) (hX ▸ ok95) LK_ok (cast (β := wpRun (baseS T1 mf0 M0) [15, 64, 67] [(5, 35), (12, 26)] false (RS.mk Try.f95.results.toList 0 (CS.mk [] [] [] [])) (LK X 95 0 Q true [(3, LS.mk [1, 2, 4, 5, 14] (CS.mk [] [false, false] [] [])), (9, LS.mk [2, 4, 5, 7, 8, 9, 10, 11, 63] (CS.mk [] [false, false] [] []))]) Q 2000 (kOf Try.f95 0) (mkS 137 [(1, .one (.xs row 0 n)), (2, .one (.ptr 0 0)), (4, .one (.ptr 1 0)), (5, .one (.ptr 2 0)), (14, .one (.i64 i))]) [some [.u32 h0, .u32 h1, .u32 h2, .u32 h3, .u32 h4], some [.u32 0, .u32 0, .u32 0, .u32 0, .u32 0], some w]) (by kernel_rfl) h)
set_option maxRecDepth 100000 in
theorem vc95b {X : Ctx} {Q : AV → Mem → Prop} (hX : X.P = Try.prog) (h0 h1 h2 h3 h4 a b c d e : BitVec 32) (w : List AC) (i : Int) (h : (decide (i < (80 : Int)) = true → (decide ((16 : Int) ≤ i) = true → in64 (i + (13 : Int)) ∧ ((0 : Int) ≤ bits64 BinOp.and (i + (13 : Int)) (15 : Int) ∧ bits64 BinOp.and (i + (13 : Int)) (15 : Int) < (↑16 : Int)) ∧ gt AC.any w (0 + Int.toNat (bits64 BinOp.and (i + (13 : Int)) (15 : Int)) * 1) = AC.u32 (asU32 (gt AC.any w (0 + Int.toNat (bits64 BinOp.and (i + (13 : Int)) (15 : Int)) * 1))) ∧ in64 (i + (8 : Int)) ∧ ((0 : Int) ≤ bits64 BinOp.and (i + (8 : Int)) (15 : Int) ∧ bits64 BinOp.and (i + (8 : Int)) (15 : Int) < (↑16 : Int)) ∧ gt AC.any w (0 + Int.toNat (bits64 BinOp.and (i + (8 : Int)) (15 : Int)) * 1) = AC.u32 (asU32 (gt AC.any w (0 + Int.toNat (bits64 BinOp.and (i + (8 : Int)) (15 : Int)) * 1))) ∧ in64 (i + (2 : Int)) ∧ ((0 : Int) ≤ bits64 BinOp.and (i + (2 : Int)) (15 : Int) ∧ bits64 BinOp.and (i + (2 : Int)) (15 : Int) < (↑16 : Int)) ∧ gt AC.any w (0 + Int.toNat (bits64 BinOp.and (i + (2 : Int)) (15 : Int)) * 1) = AC.u32 (asU32 (gt AC.any w (0 + Int.toNat (bits64 BinOp.and (i + (2 : Int)) (15 : Int)) * 1))) ∧ ((0 : Int) ≤ bits64 BinOp.and i (15 : Int) ∧ bits64 BinOp.and i (15 : Int) < (↑16 : Int)) ∧ gt AC.any w (0 + Int.toNat (bits64 BinOp.and i (15 : Int)) * 1) = AC.u32 (asU32 (gt AC.any w (0 + Int.toNat (bits64 BinOp.and i (15 : Int)) * 1))) ∧ ((0 : Int) ≤ bits64 BinOp.and i (15 : Int) ∧ bits64 BinOp.and i (15 : Int) < (↑16 : Int)) ∧ (1 = 1 ∧ 0 + Int.toNat (bits64 BinOp.and i (15 : Int)) * 1 + 1 ≤ List.length w) ∧ ((0 : Int) ≤ i ∧ i < (80 : Int)) ∧ ((0 : Int) ≤ bits64 BinOp.and i (15 : Int) ∧ bits64 BinOp.and i (15 : Int) < (↑16 : Int)) ∧ gt AC.any (layS w (0 + Int.toNat (bits64 BinOp.and i (15 : Int)) * 1) [AC.u32 (rol (asU32 (gt AC.any w (0 + Int.toNat (bits64 BinOp.and (i + (13 : Int)) (15 : Int)) * 1)) ^^^ asU32 (gt AC.any w (0 + Int.toNat (bits64 BinOp.and (i + (8 : Int)) (15 : Int)) * 1)) ^^^ asU32 (gt AC.any w (0 + Int.toNat (bits64 BinOp.and (i + (2 : Int)) (15 : Int)) * 1)) ^^^ asU32 (gt AC.any w (0 + Int.toNat (bits64 BinOp.and i (15 : Int)) * 1))) 1)]) (0 + Int.toNat (bits64 BinOp.and i (15 : Int)) * 1) = AC.u32 (asU32 (gt AC.any (layS w (0 + Int.toNat (bits64 BinOp.and i (15 : Int)) * 1) [AC.u32 (rol (asU32 (gt AC.any w (0 + Int.toNat (bits64 BinOp.and (i + (13 : Int)) (15 : Int)) * 1)) ^^^ asU32 (gt AC.any w (0 + Int.toNat (bits64 BinOp.and (i + (8 : Int)) (15 : Int)) * 1)) ^^^ asU32 (gt AC.any w (0 + Int.toNat (bits64 BinOp.and (i + (2 : Int)) (15 : Int)) * 1)) ^^^ asU32 (gt AC.any w (0 + Int.toNat (bits64 BinOp.and i (15 : Int)) * 1))) 1)]) (0 + Int.toNat (bits64 BinOp.and i (15 : Int)) * 1))) ∧ in64 (i + (1 : Int)) ∧ Flat (layS w (0 + Int.toNat (bits64 BinOp.and i (15 : Int)) * 1) [AC.u32 (rol (asU32 (gt AC.any w (0 + Int.toNat (bits64 BinOp.and (i + (13 : Int)) (15 : Int)) * 1)) ^^^ asU32 (gt AC.any w (0 + Int.toNat (bits64 BinOp.and (i + (8 : Int)) (15 : Int)) * 1)) ^^^ asU32 (gt AC.any w (0 + Int.toNat (bits64 BinOp.and (i + (2 : Int)) (15 : Int)) * 1)) ^^^ asU32 (gt AC.any w (0 + Int.toNat (bits64 BinOp.and i (15 : Int)) * 1))) 1)]) ∧ KR X 95 0 Q (kOf Try.f95 1) (mkS 137 [(2, AV.one (AC.ptr 0 0)), (4, AV.one (AC.ptr 1 0)), (5, AV.one (AC.ptr 2 0)), (7, AV.one (AC.u32 (rol a 5 + mixF (Int.toNat i) b c d + e + asU32 (gt AC.any (layS w (0 + Int.toNat (bits64 BinOp.and i (15 : Int)) * 1) [AC.u32 (rol (asU32 (gt AC.any w (0 + Int.toNat (bits64 BinOp.and (i + (13 : Int)) (15 : Int)) * 1)) ^^^ asU32 (gt AC.any w (0 + Int.toNat (bits64 BinOp.and (i + (8 : Int)) (15 : Int)) * 1)) ^^^ asU32 (gt AC.any w (0 + Int.toNat (bits64 BinOp.and (i + (2 : Int)) (15 : Int)) * 1)) ^^^ asU32 (gt AC.any w (0 + Int.toNat (bits64 BinOp.and i (15 : Int)) * 1))) 1)]) (0 + Int.toNat (bits64 BinOp.and i (15 : Int)) * 1))))), (8, AV.one (AC.u32 a)), (9, AV.one (AC.u32 (rol b 30))), (10, AV.one (AC.u32 c)), (11, AV.one (AC.u32 d)), (63, AV.one (AC.i64 (i + (1 : Int))))]) [some [AC.u32 h0, AC.u32 h1, AC.u32 h2, AC.u32 h3, AC.u32 h4], some [AC.u32 (0 : BitVec 32), AC.u32 (0 : BitVec 32), AC.u32 (0 : BitVec 32), AC.u32 (0 : BitVec 32), AC.u32 (0 : BitVec 32)], some (layS w (0 + Int.toNat (bits64 BinOp.and i (15 : Int)) * 1) [AC.u32 (rol (asU32 (gt AC.any w (0 + Int.toNat (bits64 BinOp.and (i + (13 : Int)) (15 : Int)) * 1)) ^^^ asU32 (gt AC.any w (0 + Int.toNat (bits64 BinOp.and (i + (8 : Int)) (15 : Int)) * 1)) ^^^ asU32 (gt AC.any w (0 + Int.toNat (bits64 BinOp.and (i + (2 : Int)) (15 : Int)) * 1)) ^^^ asU32 (gt AC.any w (0 + Int.toNat (bits64 BinOp.and i (15 : Int)) * 1))) 1)])]) ∧ (decide ((16 : Int) ≤ i) = false → ((0 : Int) ≤ i ∧ i < (80 : Int)) ∧ ((0 : Int) ≤ bits64 BinOp.and i (15 : Int) ∧ bits64 BinOp.and i (15 : Int) < (↑16 : Int)) ∧ gt AC.any w (0 + Int.toNat (bits64 BinOp.and i (15 : Int)) * 1) = AC.u32 (asU32 (gt AC.any w (0 + Int.toNat (bits64 BinOp.and i (15 : Int)) * 1))) ∧ in64 (i + (1 : Int)) ∧ Flat w ∧ KR X 95 0 Q (kOf Try.f95 1) (mkS 137 [(2, AV.one (AC.ptr 0 0)), (4, AV.one (AC.ptr 1 0)), (5, AV.one (AC.ptr 2 0)), (7, AV.one (AC.u32 (rol a 5 + mixF (Int.toNat i) b c d + e + asU32 (gt AC.any w (0 + Int.toNat (bits64 BinOp.and i (15 : Int)) * 1))))), (8, AV.one (AC.u32 a)), (9, AV.one (AC.u32 (rol b 30))), (10, AV.one (AC.u32 c)), (11, AV.one (AC.u32 d)), (63, AV.one (AC.i64 (i + (1 : Int))))]) [some [AC.u32 h0, AC.u32 h1, AC.u32 h2, AC.u32 h3, AC.u32 h4], some [AC.u32 (0 : BitVec 32), AC.u32 (0 : BitVec 32), AC.u32 (0 : BitVec 32), AC.u32 (0 : BitVec 32), AC.u32 (0 : BitVec 32)], some w])) ∧ (decide (i < (80 : Int)) = false → ((0 : Int) ≤ (0 : Int) ∧ (0 : Int) < (↑5 : Int)) ∧ AC.u32 h0 = AC.u32 h0 ∧ ((0 : Int) ≤ (1 : Int) ∧ (1 : Int) < (↑5 : Int)) ∧ AC.u32 h1 = AC.u32 h1 ∧ ((0 : Int) ≤ (2 : Int) ∧ (2 : Int) < (↑5 : Int)) ∧ AC.u32 h2 = AC.u32 h2 ∧ ((0 : Int) ≤ (3 : Int) ∧ (3 : Int) < (↑5 : Int)) ∧ AC.u32 h3 = AC.u32 h3 ∧ ((0 : Int) ≤ (4 : Int) ∧ (4 : Int) < (↑5 : Int)) ∧ AC.u32 h4 = AC.u32 h4 ∧ Q (AV.agg [AC.u32 (h0 + a), AC.u32 (h1 + b), AC.u32 (h2 + c), AC.u32 (h3 + d), AC.u32 (h4 + e)]) [])) : KRun X 95 0 Q (kOf Try.f95 1) (mkS 137 [(2, .one (.ptr 0 0)), (4, .one (.ptr 1 0)), (5, .one (.ptr 2 0)), (7, .one (.u32 a)), (8, .one (.u32 b)), (9, .one (.u32 c)), (10, .one (.u32 d)), (11, .one (.u32 e)), (63, .one (.i64 i))]) [some [.u32 h0, .u32 h1, .u32 h2, .u32 h3, .u32 h4], some [.u32 0, .u32 0, .u32 0, .u32 0, .u32 0], some w] :=
  wpRun_ok (hX ▸ baseS_ok T1 mf0 M0) (hX ▸ baseS_call T1_ok M0_ok) (hX ▸ mixed) (hX ▸ ok95) LK_ok (cast (β := wpRun (baseS T1 mf0 M0) [15, 64, 67] [(5, 35), (12, 26)] false (RS.mk Try.f95.results.toList 0 (CS.mk [] [] [] [])) (LK X 95 0 Q true [(3, LS.mk [1, 2, 4, 5, 14] (CS.mk [] [false, false] [] [])), (9, LS.mk [2, 4, 5, 7, 8, 9, 10, 11, 63] (CS.mk [] [false, false] [] []))]) Q 2000 (kOf Try.f95 1) (mkS 137 [(2, .one (.ptr 0 0)), (4, .one (.ptr 1 0)), (5, .one (.ptr 2 0)), (7, .one (.u32 a)), (8, .one (.u32 b)), (9, .one (.u32 c)), (10, .one (.u32 d)), (11, .one (.u32 e)), (63, .one (.i64 i))]) [some [.u32 h0, .u32 h1, .u32 h2, .u32 h3, .u32 h4], some [.u32 0, .u32 0, .u32 0, .u32 0, .u32 0], some w]) (by kernel_rfl) h)

/-! block -/
theorem ix0 (i : Nat) : 0 + Int.toNat ((4 : Int) * (i : Int)) * 1 = 4 * i := by omega
theorem ixk (i k : Nat) : 0 + Int.toNat ((4 : Int) * (i : Int) + (k : Int)) * 1 = 4 * i + k := by omega
theorem ixi (i : Nat) : 0 + Int.toNat (i : Int) * 1 = i := by omega

theorem l95a {X : Ctx} (hX : X.P = Try.prog) {Q : AV → Mem → Prop} (s : St) (b : List (BitVec 8)) (hb : b.length = 64)
    (hK : ∀ ws, Kept b 0 ws → KRun X 95 0 Q (kOf Try.f95 1) (mkS 137 [(2, .one (.ptr 0 0)), (4, .one (.ptr 1 0)), (5, .one (.ptr 2 0)), (7, .one (.u32 s.a)), (8, .one (.u32 s.b)), (9, .one (.u32 s.c)), (10, .one (.u32 s.d)), (11, .one (.u32 s.e)), (63, .one (.i64 0))])
      [some [.u32 s.a, .u32 s.b, .u32 s.c, .u32 s.d, .u32 s.e], some [.u32 0, .u32 0, .u32 0, .u32 0, .u32 0], some (ws.map AC.u32)]) :
    ∀ (d i : Nat) (ws : List (BitVec 32)), i + d = 16 → ws.length = 16 → (∀ j, j < i → ws.getD j 0 = be32 b j) →
      KRun X 95 0 Q (kOf Try.f95 0) (mkS 137 [(1, .one (.xs (b.map AC.u8) 0 64)), (2, .one (.ptr 0 0)), (4, .one (.ptr 1 0)), (5, .one (.ptr 2 0)), (14, .one (.i64 i))])
        [some [.u32 s.a, .u32 s.b, .u32 s.c, .u32 s.d, .u32 s.e], some [.u32 0, .u32 0, .u32 0, .u32 0, .u32 0], some (ws.map AC.u32)] := by
  intro d
  induction d with
  | zero =>
    intro i ws hi hl hw
    have hi : i = 16 := by omega
    subst hi
    refine vc95a hX _ _ _ _ _ _ _ _ _ ⟨fun h => absurd (of_decide_eq_true h) (by decide), fun _ => ⟨by decide, rfl, by decide, rfl, by decide, rfl, by decide, rfl, by decide, rfl, flat_u32 _, ⟨?_⟩⟩⟩
    refine hK ws ⟨hl, fun j hj => ?_⟩
    rw [hw j hj]
    unfold circ
    rw [if_pos (by decide), Wt_lo b hj]
  | succ d ih =>
    intro i ws hi hl hw
    have k1 : (1 : Int) = ((1 : Nat) : Int) := rfl
    have k2 : (2 : Int) = ((2 : Nat) : Int) := rfl
    have k3 : (3 : Int) = ((3 : Nat) : Int) := rfl
    have e1 := ixk i 1
    have e2 := ixk i 2
    have e3 := ixk i 3
    have g0 := gt_u8_at b (4 * i) (by omega)
    have g1 := gt_u8_at b (4 * i + 1) (by omega)
    have g2 := gt_u8_at b (4 * i + 2) (by omega)
    have g3 := gt_u8_at b (4 * i + 3) (by omega)
    refine vc95a hX _ _ _ _ _ _ _ _ _ ⟨fun _ => ?_, fun h => absurd (of_decide_eq_false h) (by omega)⟩
    have hlen : (ws.map AC.u32).length = 16 := by simpa using hl
    simp only [ix0, ixi, show (0 : Nat) + Int.toNat ((4 : Int) * (i : Int) + (1 : Int)) * 1 = 4 * i + 1 from e1, show (0 : Nat) + Int.toNat ((4 : Int) * (i : Int) + (2 : Int)) * 1 = 4 * i + 2 from e2,
      show (0 : Nat) + Int.toNat ((4 : Int) * (i : Int) + (3 : Int)) * 1 = 4 * i + 3 from e3, g0, g1, g2, g3, asU8, layS_u32, hlen]
    (repeat' apply And.intro) <;> first | trivial | (unfold in64; omega) | omega | exact flat_u32 _ | skip
    refine ⟨?_⟩
    have := ih (i + 1) (ws.set i (be32 b i)) (by omega) (by rw [List.length_set]; exact hl) (fun j hj => by
      by_cases e : i = j
      · subst e; exact getD_set_eq _ _ _ _ (by omega)
      · rw [getD_set_ne _ _ _ _ _ e]; exact hw j (by omega))
    exact this

theorem ixb (i : Nat) (h : i < 9223372036854775808) : 0 + Int.toNat (bits64 .and (i : Int) 15) * 1 = i % 16 := by rw [and15 i h]; omega

theorem l95b {X : Ctx} (hX : X.P = Try.prog) (s : St) (b : List (BitVec 8)) : ∀ (d t : Nat) (ws : List (BitVec 32)), t + d = 80 → Kept b t ws →
      KRun X 95 0 (Is (.agg ((blockF s b).list.map AC.u32))) (kOf Try.f95 1) (mkS 137 [(2, .one (.ptr 0 0)), (4, .one (.ptr 1 0)), (5, .one (.ptr 2 0)), (7, .one (.u32 (rnds b t s).a)), (8, .one (.u32 (rnds b t s).b)), (9, .one (.u32 (rnds b t s).c)), (10, .one (.u32 (rnds b t s).d)), (11, .one (.u32 (rnds b t s).e)), (63, .one (.i64 t))])
      [some [.u32 s.a, .u32 s.b, .u32 s.c, .u32 s.d, .u32 s.e], some [.u32 0, .u32 0, .u32 0, .u32 0, .u32 0], some (ws.map AC.u32)] := by
  intro d
  induction d with
  | zero =>
    intro t ws ht hw
    have ht : t = 80 := by omega
    subst ht
    exact vc95b hX _ _ _ _ _ _ _ _ _ _ _ _ ⟨fun h => absurd (of_decide_eq_true h) (by decide), fun _ => ⟨by decide, rfl, by decide, rfl, by decide, rfl, by decide, rfl, by decide, rfl, rfl⟩⟩
  | succ d ih =>
    intro t ws ht hw
    have hlen : (ws.map AC.u32).length = 16 := by simpa using hw.1
    have m0 : t % 16 < 16 := Nat.mod_lt _ (by decide)
    have b0 := and15 t (by omega)
    have i0 := ixb t (by omega)
    refine vc95b hX _ _ _ _ _ _ _ _ _ _ _ _ ⟨fun _ => ⟨fun h16 => ?_, fun h16 => ?_⟩, fun h => absurd (of_decide_eq_false h) (by omega)⟩
    · have h16 : ¬ t < 16 := by have := of_decide_eq_true h16; omega
      obtain ⟨k1, k2⟩ := hw.hi h16
      have m13 : (t + 13) % 16 < 16 := Nat.mod_lt _ (by decide)
      have m8 : (t + 8) % 16 < 16 := Nat.mod_lt _ (by decide)
      have m2 : (t + 2) % 16 < 16 := Nat.mod_lt _ (by decide)
      have b13 : bits64 .and ((t : Int) + 13) 15 = (((t + 13) % 16 : Nat) : Int) := and15 (t + 13) (by omega)
      have b8 : bits64 .and ((t : Int) + 8) 15 = (((t + 8) % 16 : Nat) : Int) := and15 (t + 8) (by omega)
      have b2 : bits64 .and ((t : Int) + 2) 15 = (((t + 2) % 16 : Nat) : Int) := and15 (t + 2) (by omega)
      have g0 := gt_u32_at ws (t % 16) (by rw [hw.1]; exact m0)
      have g13 := gt_u32_at ws ((t + 13) % 16) (by rw [hw.1]; exact m13)
      have g8 := gt_u32_at ws ((t + 8) % 16) (by rw [hw.1]; exact m8)
      have g2 := gt_u32_at ws ((t + 2) % 16) (by rw [hw.1]; exact m2)
      simp only [b0, b13, b8, b2, ixi, g0, g13, g8, g2, asU32, layS_u32, hlen, k2]
      rw [k2] at k1
      have gs := gt_u32_at (ws.set (t % 16) (Wt b t)) (t % 16) (by rw [List.length_set, hw.1]; exact m0)
      rw [getD_set_eq _ _ _ _ (by rw [hw.1]; exact m0)] at gs
      simp only [gs]
      (repeat' apply And.intro) <;> first | trivial | (unfold in64; omega) | omega | exact flat_u32 _ | skip
      refine ⟨?_⟩
      exact ih (t + 1) _ (by omega) k1
    · have h16 : t < 16 := by have := of_decide_eq_false h16; omega
      obtain ⟨k1, k2⟩ := hw.lo h16
      have g0 := gt_u32_at ws (t % 16) (by rw [hw.1]; exact m0)
      rw [k2] at g0
      simp only [b0, ixi, g0, asU32]
      refine ⟨by omega, by omega, trivial, by unfold in64; omega, flat_u32 _, ⟨?_⟩⟩
      exact ih (t + 1) _ (by omega) k1

theorem s95 (s : St) (b : List (BitVec 8)) (hb : b.length = 64) : Spec Try.prog 95 [.agg (s.list.map AC.u32), .one (.xs (b.map AC.u8) 0 64)] [] (Is (.agg ((blockF s b).list.map AC.u32))) := by
  refine Spec.of_run ok95 fun X hX => vc95 hX s.a s.b s.c s.d s.e _ _ ⟨exactFlat rfl, ⟨?_⟩⟩
  exact l95a hX s b hb (fun ws hw => l95b hX s b 80 0 ws (by omega) hw) 16 0 (List.replicate 16 0) (by omega) (by simp) (fun j hj => by omega)
end DH
