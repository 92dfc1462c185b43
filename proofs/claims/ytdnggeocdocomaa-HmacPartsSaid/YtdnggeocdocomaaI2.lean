/- Walks of functions, each by evaluation: what each returns. -/
import Derived.Test.YtdnggeocdocomaaI1
set_option linter.unusedVariables false
set_option linter.unusedSimpArgs false
noncomputable section
namespace DH
open Go Go.Proofs
noncomputable def inlI : Inl := fun f => match f with
  | 36 => some (Try.f36, [])
  | 56 => some (Try.f56, [])
  | _ => none
theorem inlI_ok : InlOk Try.prog inlI := by
  intro f fn hs h
  unfold inlI at h
  split at h <;> first | (cases h; done) | (obtain ⟨rfl, _⟩ := Prod.mk.inj (Option.some.inj h); first | exact ok36 | exact ok56)
def symI (t : TypeId) : Bool := match t with | 28 => true | 40 => true | t => symH t
noncomputable def baseI (T : Tab) (mf : FuncId → Option MF) (M : TabM) : Env := ⟨tys, symI, false, T, [], mf, M⟩
theorem baseI_ok (T : Tab) (mf : FuncId → Option MF) (M : TabM) : EnvOk Try.prog (baseI T mf M) := EnvOk.of tysOk
theorem baseI_call {T : Tab} {mf : FuncId → Option MF} {M : TabM} (hT : TabOk Try.prog T) (hM : TabMOk Try.prog M) : CallOk Try.prog (baseI T mf M) :=
  ⟨hT, fun f mf xs m0 cs r m1 _ h hc => hM f xs m0 cs r m1 h hc⟩
noncomputable def envI (T : Tab) (mf : FuncId → Option MF) (M : TabM) : Env := inlE (baseI T mf M) inlI 2
theorem envI_ok (T : Tab) (mf : FuncId → Option MF) (M : TabM) : EnvOk Try.prog (envI T mf M) := inlE_envOk (baseI_ok T mf M) _ _
theorem envI_call {T : Tab} {mf : FuncId → Option MF} {M : TabM} (hT : TabOk Try.prog T) (hM : TabMOk Try.prog M) : CallOk Try.prog (envI T mf M) :=
  inlE_ok (baseI_ok T mf M) (baseI_call hT hM) mixed inlI_ok 2
set_option maxRecDepth 100000 in
theorem vc61 {X : Ctx} {Q : AV → Mem → Prop} (hX : X.P = Try.prog) (row ps : List AC) (n k : Nat) (h : 0 + n * 1 ≤ List.length row ∧ 0 + k * 1 ≤ List.length ps ∧ (allU8 (List.take (n * 1) (List.drop 0 row)) ∧ List.length (List.take (n * 1) (List.drop 0 row)) = n ∧ n ≤ 1000000 ∧ List.take (k * 1) (List.drop 0 ps) = List.map encP (List.map asP (List.take (k * 1) (List.drop 0 ps))) ∧ List.length (List.take (k * 1) (List.drop 0 ps)) = k ∧ k ≤ 1000000) ∧ (List.length (hide (List.map AC.u8 (hmF (List.map asU8 (List.take (n * 1) (List.drop 0 row))) (List.flatten (List.map asP (List.take (k * 1) (List.drop 0 ps))))))) = 20 ∧ 20 ≤ 20) ∧ ((0 : Int) ≤ (↑0 : Int) ∧ (↑0 : Int) ≤ (12 : Int) ∧ (12 : Int) ≤ (↑20 : Int)) ∧ 12 ≤ 12 ∧ 12 ≤ List.length (layS (List.replicate 20 (AC.u8 (0 : BitVec 8))) 0 (hide (List.map AC.u8 (hmF (List.map asU8 (List.take (n * 1) (List.drop 0 row))) (List.flatten (List.map asP (List.take (k * 1) (List.drop 0 ps)))))))) ∧ (List.length (List.take 12 (List.drop 0 (layS (List.replicate 20 (AC.u8 (0 : BitVec 8))) 0 (hide (List.map AC.u8 (hmF (List.map asU8 (List.take (n * 1) (List.drop 0 row))) (List.flatten (List.map asP (List.take (k * 1) (List.drop 0 ps)))))))))) = 12 ∧ 12 ≤ 12) ∧ 12 ≤ List.length (layS (List.replicate 12 (AC.u8 (0 : BitVec 8))) 0 (List.take 12 (List.drop 0 (layS (List.replicate 20 (AC.u8 (0 : BitVec 8))) 0 (hide (List.map AC.u8 (hmF (List.map asU8 (List.take (n * 1) (List.drop 0 row))) (List.flatten (List.map asP (List.take (k * 1) (List.drop 0 ps))))))))))) ∧ flatAV (AV.agg (List.take 12 (List.drop 0 (layS (List.replicate 12 (AC.u8 (0 : BitVec 8))) 0 (List.take 12 (List.drop 0 (layS (List.replicate 20 (AC.u8 (0 : BitVec 8))) 0 (hide (List.map AC.u8 (hmF (List.map asU8 (List.take (n * 1) (List.drop 0 row))) (List.flatten (List.map asP (List.take (k * 1) (List.drop 0 ps)))))))))))))) ∧ Q (AV.agg (List.take 12 (List.drop 0 (layS (List.replicate 12 (AC.u8 (0 : BitVec 8))) 0 (List.take 12 (List.drop 0 (layS (List.replicate 20 (AC.u8 (0 : BitVec 8))) 0 (hide (List.map AC.u8 (hmF (List.map asU8 (List.take (n * 1) (List.drop 0 row))) (List.flatten (List.map asP (List.take (k * 1) (List.drop 0 ps)))))))))))))) []) : KRun X 61 0 Q ([.code (bodyOf Try.f61)]) (slots [.one (.xs row 0 n), .one (.xs ps 0 k)] Try.f61.ntmps) [] :=
  wpRun_ok (hX ▸ envI_ok T9 mf8 M8) (hX ▸ envI_call T9_ok M8_ok) (hX ▸ mixed) (hX ▸ ok61) LK_ok (cast (β := wpRun (envI T9 mf8 M8) [] [] false (RS.mk Try.f61.results.toList 0 (CS.mk [] [] [0] [])) (LK X 61 0 Q true []) Q 2000 ([.code (bodyOf Try.f61)]) (slots [.one (.xs row 0 n), .one (.xs ps 0 k)] Try.f61.ntmps) []) (by kernel_rfl) h)
set_option maxRecDepth 100000 in
theorem vc62 {X : Ctx} {Q : AV → Mem → Prop} (hX : X.P = Try.prog) (row r2 : List AC) (n m : Nat) (h : 0 + n * 1 ≤ List.length row ∧ 0 + m * 1 ≤ List.length r2 ∧ (allU8 (List.take (n * 1) (List.drop 0 row)) ∧ List.length (List.take (n * 1) (List.drop 0 row)) = n ∧ n ≤ 1000000 ∧ allU8 (List.take (m * 1) (List.drop 0 r2)) ∧ List.length (List.take (m * 1) (List.drop 0 r2)) = m ∧ m ≤ 900000) ∧ (List.length (hide (List.map AC.u8 (hmF (List.map asU8 (List.take (n * 1) (List.drop 0 row))) (List.map asU8 (List.take (m * 1) (List.drop 0 r2)))))) = 20 ∧ 20 ≤ 20) ∧ Flat (List.replicate 12 (AC.u8 (0 : BitVec 8))) ∧ Flat (layS (List.replicate 20 (AC.u8 (0 : BitVec 8))) 0 (hide (List.map AC.u8 (hmF (List.map asU8 (List.take (n * 1) (List.drop 0 row))) (List.map asU8 (List.take (m * 1) (List.drop 0 r2))))))) ∧ Flat (List.replicate 12 (AC.u8 (0 : BitVec 8))) ∧ KR X 62 0 Q (kOf Try.f62 0) (mkS 21 [(4, AV.one (AC.ptr 0 0)), (5, AV.one (AC.ptr 1 0)), (6, AV.one (AC.ptr 2 0)), (7, AV.one (AC.i64 (0 : Int)))]) [some (List.replicate 12 (AC.u8 (0 : BitVec 8))), some (layS (List.replicate 20 (AC.u8 (0 : BitVec 8))) 0 (hide (List.map AC.u8 (hmF (List.map asU8 (List.take (n * 1) (List.drop 0 row))) (List.map asU8 (List.take (m * 1) (List.drop 0 r2))))))), some (List.replicate 12 (AC.u8 (0 : BitVec 8)))]) : KRun X 62 0 Q ([.code (bodyOf Try.f62)]) (slots [.one (.xs row 0 n), .one (.xs r2 0 m)] Try.f62.ntmps) [] :=
  wpRun_ok (hX ▸ envI_ok T9 mf8 M8) (hX ▸ envI_call T9_ok M8_ok) (hX ▸ mixed) (hX ▸ ok62) LK_ok (cast (β := wpRun (envI T9 mf8 M8) [12] [] false (RS.mk Try.f62.results.toList 0 (CS.mk [] [] [0] [])) (LK X 62 0 Q true [(4, LS.mk [4, 5, 6, 7] (CS.mk [] [true, true, true] [] []))]) Q 2000 ([.code (bodyOf Try.f62)]) (slots [.one (.xs row 0 n), .one (.xs r2 0 m)] Try.f62.ntmps) []) (by kernel_rfl) h)
set_option maxRecDepth 100000 in
theorem vc62a {X : Ctx} {Q : AV → Mem → Prop} (hX : X.P = Try.prog) (zs ds bs : List AC) (i : Int) (h : (decide (i < (12 : Int)) = true → ((0 : Int) ≤ i ∧ i < (↑20 : Int)) ∧ gt AC.any ds (0 + Int.toNat i * 1) = AC.u8 (asU8 (gt AC.any ds (0 + Int.toNat i * 1))) ∧ ((0 : Int) ≤ i ∧ i < (↑12 : Int)) ∧ (1 = 1 ∧ 0 + Int.toNat i * 1 + 1 ≤ List.length bs) ∧ in64 (i + (1 : Int)) ∧ Flat zs ∧ Flat ds ∧ Flat (layS bs (0 + Int.toNat i * 1) [AC.u8 (asU8 (gt AC.any ds (0 + Int.toNat i * 1)))]) ∧ KR X 62 0 Q (kOf Try.f62 0) (mkS 21 [(4, AV.one (AC.ptr 0 0)), (5, AV.one (AC.ptr 1 0)), (6, AV.one (AC.ptr 2 0)), (7, AV.one (AC.i64 (i + (1 : Int))))]) [some zs, some ds, some (layS bs (0 + Int.toNat i * 1) [AC.u8 (asU8 (gt AC.any ds (0 + Int.toNat i * 1)))])]) ∧ (decide (i < (12 : Int)) = false → 12 ≤ List.length bs ∧ (List.length (List.take 12 (List.drop 0 bs)) = 12 ∧ 12 ≤ List.length zs) ∧ 12 ≤ List.length (layS zs 0 (List.take 12 (List.drop 0 bs))) ∧ flatAV (AV.agg (List.take 12 (List.drop 0 (layS zs 0 (List.take 12 (List.drop 0 bs)))))) ∧ Q (AV.agg (List.take 12 (List.drop 0 (layS zs 0 (List.take 12 (List.drop 0 bs)))))) [])) : KRun X 62 0 Q (kOf Try.f62 0) (mkS 21 [(4, .one (.ptr 0 0)), (5, .one (.ptr 1 0)), (6, .one (.ptr 2 0)), (7, .one (.i64 i))]) [some zs, some ds, some bs] :=
  wpRun_ok (hX ▸ envI_ok T9 mf8 M8) (hX ▸ envI_call T9_ok M8_ok) (hX ▸ mixed) (hX ▸ ok62) LK_ok (cast (β := wpRun (envI T9 mf8 M8) [12] [] false (RS.mk Try.f62.results.toList 0 (CS.mk [] [] [0] [])) (LK X 62 0 Q true [(4, LS.mk [4, 5, 6, 7] (CS.mk [] [true, true, true] [] []))]) Q 2000 (kOf Try.f62 0) (mkS 21 [(4, .one (.ptr 0 0)), (5, .one (.ptr 1 0)), (6, .one (.ptr 2 0)), (7, .one (.i64 i))]) [some zs, some ds, some bs]) (by kernel_rfl) h)
set_option maxRecDepth 100000 in
theorem vc57 {X : Ctx} {Q : AV → Mem → Prop} (hX : X.P = Try.prog)  (h : ((0 : Int) ≤ (20 : Int) ∧ (20 : Int) ≤ (20 : Int) ∧ (20 : Int) * (↑1 : Int) ≤ (140737488355328 : Int) ∧ (20 : Int) < (4611686018427387904 : Int)) ∧ Flat (zeros [AC.u8 (0 : BitVec 8)] 20) ∧ KR X 57 0 Q (kOf Try.f57 0) (mkS 39 [(1, AV.one (AC.gs 0 20 1)), (6, AV.one (AC.i64 (↑20 : Int))), (7, AV.one (AC.i64 (0 : Int)))]) [some (List.replicate 20 (AC.u8 (0 : BitVec 8)))]) : KRun X 57 0 Q ([.code (bodyOf Try.f57)]) (slots [] Try.f57.ntmps) [] :=
  wpRun_ok (hX ▸ envI_ok T9 mf8 M8) (hX ▸ envI_call T9_ok M8_ok) (hX ▸ mixed) (hX ▸ ok57) LK_ok (cast (β := wpRun (envI T9 mf8 M8) [8, 23, 27, 32] [] false (RS.mk Try.f57.results.toList 0 (CS.mk [] [] [] [])) (LK X 57 0 Q true [(3, LS.mk [1, 6, 7] (CS.mk [] [true] [] []))]) Q 2000 ([.code (bodyOf Try.f57)]) (slots [] Try.f57.ntmps) []) (by kernel_rfl) h)
set_option maxRecDepth 100000 in
theorem vc57a {X : Ctx} {Q : AV → Mem → Prop} (hX : X.P = Try.prog) (cs : List AC) (i : Int) (h : (decide (i < (20 : Int)) = true → ((0 : Int) ≤ i ∧ i < (↑20 : Int)) ∧ (1 = 1 ∧ 0 + Int.toNat i * 1 + 1 ≤ List.length cs) ∧ in64 (i + (1 : Int)) ∧ Flat (layS cs (0 + Int.toNat i * 1) [cvC (Value.int IntKind.u8 (11 : Int))]) ∧ KR X 57 0 Q (kOf Try.f57 0) (mkS 39 [(1, AV.one (AC.gs 0 20 1)), (6, AV.one (AC.i64 (20 : Int))), (7, AV.one (AC.i64 (i + (1 : Int))))]) [some (layS cs (0 + Int.toNat i * 1) [cvC (Value.int IntKind.u8 (11 : Int))])]) ∧ (decide (i < (20 : Int)) = false → 1 ≤ 3 ∧ 1 ≤ 5 ∧ 20 ≤ List.length cs ∧ Flat (List.take 20 (List.drop 0 cs)) ∧ 2 ≤ 2 ∧ 3 ≤ 3 ∧ Flat (List.take 3 (List.drop 0 [cvC (Value.int IntKind.u8 (72 : Int)), cvC (Value.int IntKind.u8 (105 : Int)), cvC (Value.int IntKind.u8 (32 : Int))])) ∧ 5 ≤ 5 ∧ Flat (List.take 5 (List.drop 0 [cvC (Value.int IntKind.u8 (84 : Int)), cvC (Value.int IntKind.u8 (104 : Int)), cvC (Value.int IntKind.u8 (101 : Int)), cvC (Value.int IntKind.u8 (114 : Int)), cvC (Value.int IntKind.u8 (101 : Int))])) ∧ (allU8 (List.take 20 (List.drop 0 cs)) ∧ List.length (List.take 20 (List.drop 0 cs)) = 20 ∧ 20 ≤ 1000000 ∧ [AC.xs (List.take 3 (List.drop 0 [cvC (Value.int IntKind.u8 (72 : Int)), cvC (Value.int IntKind.u8 (105 : Int)), cvC (Value.int IntKind.u8 (32 : Int))])) 0 3, AC.xs (List.take 5 (List.drop 0 [cvC (Value.int IntKind.u8 (84 : Int)), cvC (Value.int IntKind.u8 (104 : Int)), cvC (Value.int IntKind.u8 (101 : Int)), cvC (Value.int IntKind.u8 (114 : Int)), cvC (Value.int IntKind.u8 (101 : Int))])) 0 5] = List.map encP (List.map asP [AC.xs (List.take 3 (List.drop 0 [cvC (Value.int IntKind.u8 (72 : Int)), cvC (Value.int IntKind.u8 (105 : Int)), cvC (Value.int IntKind.u8 (32 : Int))])) 0 3, AC.xs (List.take 5 (List.drop 0 [cvC (Value.int IntKind.u8 (84 : Int)), cvC (Value.int IntKind.u8 (104 : Int)), cvC (Value.int IntKind.u8 (101 : Int)), cvC (Value.int IntKind.u8 (114 : Int)), cvC (Value.int IntKind.u8 (101 : Int))])) 0 5]) ∧ 2 = 2 ∧ 2 ≤ 1000000) ∧ (List.length (hide (List.map AC.u8 (hmF (List.map asU8 (List.take 20 (List.drop 0 cs))) (List.flatten (List.map asP [AC.xs (List.take 3 (List.drop 0 [cvC (Value.int IntKind.u8 (72 : Int)), cvC (Value.int IntKind.u8 (105 : Int)), cvC (Value.int IntKind.u8 (32 : Int))])) 0 3, AC.xs (List.take 5 (List.drop 0 [cvC (Value.int IntKind.u8 (84 : Int)), cvC (Value.int IntKind.u8 (104 : Int)), cvC (Value.int IntKind.u8 (101 : Int)), cvC (Value.int IntKind.u8 (114 : Int)), cvC (Value.int IntKind.u8 (101 : Int))])) 0 5]))))) = 20 ∧ 20 ≤ 20) ∧ ((0 : Int) ≤ (0 : Int) ∧ (0 : Int) < (↑20 : Int)) ∧ gt AC.any (layS (List.replicate 20 (AC.u8 (0 : BitVec 8))) 0 (hide (List.map AC.u8 (hmF (List.map asU8 (List.take 20 (List.drop 0 cs))) (List.flatten (List.map asP [AC.xs (List.take 3 (List.drop 0 [cvC (Value.int IntKind.u8 (72 : Int)), cvC (Value.int IntKind.u8 (105 : Int)), cvC (Value.int IntKind.u8 (32 : Int))])) 0 3, AC.xs (List.take 5 (List.drop 0 [cvC (Value.int IntKind.u8 (84 : Int)), cvC (Value.int IntKind.u8 (104 : Int)), cvC (Value.int IntKind.u8 (101 : Int)), cvC (Value.int IntKind.u8 (114 : Int)), cvC (Value.int IntKind.u8 (101 : Int))])) 0 5])))))) 0 = AC.u8 (asU8 (gt AC.any (layS (List.replicate 20 (AC.u8 (0 : BitVec 8))) 0 (hide (List.map AC.u8 (hmF (List.map asU8 (List.take 20 (List.drop 0 cs))) (List.flatten (List.map asP [AC.xs (List.take 3 (List.drop 0 [cvC (Value.int IntKind.u8 (72 : Int)), cvC (Value.int IntKind.u8 (105 : Int)), cvC (Value.int IntKind.u8 (32 : Int))])) 0 3, AC.xs (List.take 5 (List.drop 0 [cvC (Value.int IntKind.u8 (84 : Int)), cvC (Value.int IntKind.u8 (104 : Int)), cvC (Value.int IntKind.u8 (101 : Int)), cvC (Value.int IntKind.u8 (114 : Int)), cvC (Value.int IntKind.u8 (101 : Int))])) 0 5])))))) 0)) ∧ (decide (asU8 (gt AC.any (layS (List.replicate 20 (AC.u8 (0 : BitVec 8))) 0 (hide (List.map AC.u8 (hmF (List.map asU8 (List.take 20 (List.drop 0 cs))) (List.flatten (List.map asP [AC.xs (List.take 3 (List.drop 0 [cvC (Value.int IntKind.u8 (72 : Int)), cvC (Value.int IntKind.u8 (105 : Int)), cvC (Value.int IntKind.u8 (32 : Int))])) 0 3, AC.xs (List.take 5 (List.drop 0 [cvC (Value.int IntKind.u8 (84 : Int)), cvC (Value.int IntKind.u8 (104 : Int)), cvC (Value.int IntKind.u8 (101 : Int)), cvC (Value.int IntKind.u8 (114 : Int)), cvC (Value.int IntKind.u8 (101 : Int))])) 0 5])))))) 0) = BitVec.ofInt 8 (182 : Int)) = true → ((0 : Int) ≤ (1 : Int) ∧ (1 : Int) < (↑20 : Int)) ∧ gt AC.any (layS (List.replicate 20 (AC.u8 (0 : BitVec 8))) 0 (hide (List.map AC.u8 (hmF (List.map asU8 (List.take 20 (List.drop 0 cs))) (List.flatten (List.map asP [AC.xs (List.take 3 (List.drop 0 [cvC (Value.int IntKind.u8 (72 : Int)), cvC (Value.int IntKind.u8 (105 : Int)), cvC (Value.int IntKind.u8 (32 : Int))])) 0 3, AC.xs (List.take 5 (List.drop 0 [cvC (Value.int IntKind.u8 (84 : Int)), cvC (Value.int IntKind.u8 (104 : Int)), cvC (Value.int IntKind.u8 (101 : Int)), cvC (Value.int IntKind.u8 (114 : Int)), cvC (Value.int IntKind.u8 (101 : Int))])) 0 5])))))) 1 = AC.u8 (asU8 (gt AC.any (layS (List.replicate 20 (AC.u8 (0 : BitVec 8))) 0 (hide (List.map AC.u8 (hmF (List.map asU8 (List.take 20 (List.drop 0 cs))) (List.flatten (List.map asP [AC.xs (List.take 3 (List.drop 0 [cvC (Value.int IntKind.u8 (72 : Int)), cvC (Value.int IntKind.u8 (105 : Int)), cvC (Value.int IntKind.u8 (32 : Int))])) 0 3, AC.xs (List.take 5 (List.drop 0 [cvC (Value.int IntKind.u8 (84 : Int)), cvC (Value.int IntKind.u8 (104 : Int)), cvC (Value.int IntKind.u8 (101 : Int)), cvC (Value.int IntKind.u8 (114 : Int)), cvC (Value.int IntKind.u8 (101 : Int))])) 0 5])))))) 1)) ∧ (decide (asU8 (gt AC.any (layS (List.replicate 20 (AC.u8 (0 : BitVec 8))) 0 (hide (List.map AC.u8 (hmF (List.map asU8 (List.take 20 (List.drop 0 cs))) (List.flatten (List.map asP [AC.xs (List.take 3 (List.drop 0 [cvC (Value.int IntKind.u8 (72 : Int)), cvC (Value.int IntKind.u8 (105 : Int)), cvC (Value.int IntKind.u8 (32 : Int))])) 0 3, AC.xs (List.take 5 (List.drop 0 [cvC (Value.int IntKind.u8 (84 : Int)), cvC (Value.int IntKind.u8 (104 : Int)), cvC (Value.int IntKind.u8 (101 : Int)), cvC (Value.int IntKind.u8 (114 : Int)), cvC (Value.int IntKind.u8 (101 : Int))])) 0 5])))))) 1) = BitVec.ofInt 8 (23 : Int)) = true → ((0 : Int) ≤ (19 : Int) ∧ (19 : Int) < (↑20 : Int)) ∧ gt AC.any (layS (List.replicate 20 (AC.u8 (0 : BitVec 8))) 0 (hide (List.map AC.u8 (hmF (List.map asU8 (List.take 20 (List.drop 0 cs))) (List.flatten (List.map asP [AC.xs (List.take 3 (List.drop 0 [cvC (Value.int IntKind.u8 (72 : Int)), cvC (Value.int IntKind.u8 (105 : Int)), cvC (Value.int IntKind.u8 (32 : Int))])) 0 3, AC.xs (List.take 5 (List.drop 0 [cvC (Value.int IntKind.u8 (84 : Int)), cvC (Value.int IntKind.u8 (104 : Int)), cvC (Value.int IntKind.u8 (101 : Int)), cvC (Value.int IntKind.u8 (114 : Int)), cvC (Value.int IntKind.u8 (101 : Int))])) 0 5])))))) 19 = AC.u8 (asU8 (gt AC.any (layS (List.replicate 20 (AC.u8 (0 : BitVec 8))) 0 (hide (List.map AC.u8 (hmF (List.map asU8 (List.take 20 (List.drop 0 cs))) (List.flatten (List.map asP [AC.xs (List.take 3 (List.drop 0 [cvC (Value.int IntKind.u8 (72 : Int)), cvC (Value.int IntKind.u8 (105 : Int)), cvC (Value.int IntKind.u8 (32 : Int))])) 0 3, AC.xs (List.take 5 (List.drop 0 [cvC (Value.int IntKind.u8 (84 : Int)), cvC (Value.int IntKind.u8 (104 : Int)), cvC (Value.int IntKind.u8 (101 : Int)), cvC (Value.int IntKind.u8 (114 : Int)), cvC (Value.int IntKind.u8 (101 : Int))])) 0 5])))))) 19)) ∧ (decide (asU8 (gt AC.any (layS (List.replicate 20 (AC.u8 (0 : BitVec 8))) 0 (hide (List.map AC.u8 (hmF (List.map asU8 (List.take 20 (List.drop 0 cs))) (List.flatten (List.map asP [AC.xs (List.take 3 (List.drop 0 [cvC (Value.int IntKind.u8 (72 : Int)), cvC (Value.int IntKind.u8 (105 : Int)), cvC (Value.int IntKind.u8 (32 : Int))])) 0 3, AC.xs (List.take 5 (List.drop 0 [cvC (Value.int IntKind.u8 (84 : Int)), cvC (Value.int IntKind.u8 (104 : Int)), cvC (Value.int IntKind.u8 (101 : Int)), cvC (Value.int IntKind.u8 (114 : Int)), cvC (Value.int IntKind.u8 (101 : Int))])) 0 5])))))) 19) = BitVec.ofInt 8 (0 : Int)) = true → ((0 : Int) ≤ (18 : Int) ∧ (18 : Int) < (↑20 : Int)) ∧ gt AC.any (layS (List.replicate 20 (AC.u8 (0 : BitVec 8))) 0 (hide (List.map AC.u8 (hmF (List.map asU8 (List.take 20 (List.drop 0 cs))) (List.flatten (List.map asP [AC.xs (List.take 3 (List.drop 0 [cvC (Value.int IntKind.u8 (72 : Int)), cvC (Value.int IntKind.u8 (105 : Int)), cvC (Value.int IntKind.u8 (32 : Int))])) 0 3, AC.xs (List.take 5 (List.drop 0 [cvC (Value.int IntKind.u8 (84 : Int)), cvC (Value.int IntKind.u8 (104 : Int)), cvC (Value.int IntKind.u8 (101 : Int)), cvC (Value.int IntKind.u8 (114 : Int)), cvC (Value.int IntKind.u8 (101 : Int))])) 0 5])))))) 18 = AC.u8 (asU8 (gt AC.any (layS (List.replicate 20 (AC.u8 (0 : BitVec 8))) 0 (hide (List.map AC.u8 (hmF (List.map asU8 (List.take 20 (List.drop 0 cs))) (List.flatten (List.map asP [AC.xs (List.take 3 (List.drop 0 [cvC (Value.int IntKind.u8 (72 : Int)), cvC (Value.int IntKind.u8 (105 : Int)), cvC (Value.int IntKind.u8 (32 : Int))])) 0 3, AC.xs (List.take 5 (List.drop 0 [cvC (Value.int IntKind.u8 (84 : Int)), cvC (Value.int IntKind.u8 (104 : Int)), cvC (Value.int IntKind.u8 (101 : Int)), cvC (Value.int IntKind.u8 (114 : Int)), cvC (Value.int IntKind.u8 (101 : Int))])) 0 5])))))) 18)) ∧ Q (AV.one (AC.b (decide (asU8 (gt AC.any (layS (List.replicate 20 (AC.u8 (0 : BitVec 8))) 0 (hide (List.map AC.u8 (hmF (List.map asU8 (List.take 20 (List.drop 0 cs))) (List.flatten (List.map asP [AC.xs (List.take 3 (List.drop 0 [cvC (Value.int IntKind.u8 (72 : Int)), cvC (Value.int IntKind.u8 (105 : Int)), cvC (Value.int IntKind.u8 (32 : Int))])) 0 3, AC.xs (List.take 5 (List.drop 0 [cvC (Value.int IntKind.u8 (84 : Int)), cvC (Value.int IntKind.u8 (104 : Int)), cvC (Value.int IntKind.u8 (101 : Int)), cvC (Value.int IntKind.u8 (114 : Int)), cvC (Value.int IntKind.u8 (101 : Int))])) 0 5])))))) 18) = BitVec.ofInt 8 (190 : Int))))) []) ∧ (decide (asU8 (gt AC.any (layS (List.replicate 20 (AC.u8 (0 : BitVec 8))) 0 (hide (List.map AC.u8 (hmF (List.map asU8 (List.take 20 (List.drop 0 cs))) (List.flatten (List.map asP [AC.xs (List.take 3 (List.drop 0 [cvC (Value.int IntKind.u8 (72 : Int)), cvC (Value.int IntKind.u8 (105 : Int)), cvC (Value.int IntKind.u8 (32 : Int))])) 0 3, AC.xs (List.take 5 (List.drop 0 [cvC (Value.int IntKind.u8 (84 : Int)), cvC (Value.int IntKind.u8 (104 : Int)), cvC (Value.int IntKind.u8 (101 : Int)), cvC (Value.int IntKind.u8 (114 : Int)), cvC (Value.int IntKind.u8 (101 : Int))])) 0 5])))))) 19) = BitVec.ofInt 8 (0 : Int)) = false → Q (AV.one (AC.b false)) [])) ∧ (decide (asU8 (gt AC.any (layS (List.replicate 20 (AC.u8 (0 : BitVec 8))) 0 (hide (List.map AC.u8 (hmF (List.map asU8 (List.take 20 (List.drop 0 cs))) (List.flatten (List.map asP [AC.xs (List.take 3 (List.drop 0 [cvC (Value.int IntKind.u8 (72 : Int)), cvC (Value.int IntKind.u8 (105 : Int)), cvC (Value.int IntKind.u8 (32 : Int))])) 0 3, AC.xs (List.take 5 (List.drop 0 [cvC (Value.int IntKind.u8 (84 : Int)), cvC (Value.int IntKind.u8 (104 : Int)), cvC (Value.int IntKind.u8 (101 : Int)), cvC (Value.int IntKind.u8 (114 : Int)), cvC (Value.int IntKind.u8 (101 : Int))])) 0 5])))))) 1) = BitVec.ofInt 8 (23 : Int)) = false → Q (AV.one (AC.b false)) [])) ∧ (decide (asU8 (gt AC.any (layS (List.replicate 20 (AC.u8 (0 : BitVec 8))) 0 (hide (List.map AC.u8 (hmF (List.map asU8 (List.take 20 (List.drop 0 cs))) (List.flatten (List.map asP [AC.xs (List.take 3 (List.drop 0 [cvC (Value.int IntKind.u8 (72 : Int)), cvC (Value.int IntKind.u8 (105 : Int)), cvC (Value.int IntKind.u8 (32 : Int))])) 0 3, AC.xs (List.take 5 (List.drop 0 [cvC (Value.int IntKind.u8 (84 : Int)), cvC (Value.int IntKind.u8 (104 : Int)), cvC (Value.int IntKind.u8 (101 : Int)), cvC (Value.int IntKind.u8 (114 : Int)), cvC (Value.int IntKind.u8 (101 : Int))])) 0 5])))))) 0) = BitVec.ofInt 8 (182 : Int)) = false → Q (AV.one (AC.b false)) []))) : KRun X 57 0 Q (kOf Try.f57 0) (mkS 39 [(1, .one (.gs 0 20 1)), (6, .one (.i64 20)), (7, .one (.i64 i))]) [some cs] :=
  wpRun_ok (hX ▸ envI_ok T9 mf8 M8) (hX ▸ envI_call T9_ok M8_ok) (hX ▸ mixed) (hX ▸ ok57) LK_ok (cast (β := wpRun (envI T9 mf8 M8) [8, 23, 27, 32] [] false (RS.mk Try.f57.results.toList 0 (CS.mk [] [] [] [])) (LK X 57 0 Q true [(3, LS.mk [1, 6, 7] (CS.mk [] [true] [] []))]) Q 2000 (kOf Try.f57 0) (mkS 39 [(1, .one (.gs 0 20 1)), (6, .one (.i64 20)), (7, .one (.i64 i))]) [some cs]) (by kernel_rfl) h)

theorem m12 : min 12 20 = 12 := Nat.le_antisymm (by decide) (by decide)
def shF (k m : List (BitVec 8)) : List (BitVec 8) := (hmF k m).take 12
theorem shF_len (k m : List (BitVec 8)) : (shF k m).length = 12 := Nat.le_antisymm (Nat.le_refl _) (Nat.le_refl _)
theorem s61 (k : List (BitVec 8)) (ps : List (List (BitVec 8))) (hk : k.length ≤ 1000000) (hps : ps.length ≤ 1000000) : Spec Try.prog 61 [.one (.xs (k.map AC.u8) 0 k.length), .one (.xs (ps.map encP) 0 ps.length)] [] (Is (.agg ((shF k ps.flatten).map AC.u8))) := by
  refine Spec.of_run ok61 fun X hX => vc61 hX _ _ _ _ ?_
  have e : List.take 12 (hmF k ps.flatten) = shF k ps.flatten := rfl
  simp only [hide_eq, tkm, tk0, m12, tkP, map_as8, map_asP, asP1, asP2, e1, p1, dig_of, smOf_nw, smOf_cells, z70, layNw, lay70, tk70, layR, layC, layM, lay1, tkn, List.drop_zero, Nat.zero_add, Nat.mul_one, Nat.reduceAdd, Nat.le_refl, Nat.min_self, Nat.reduceLeDiff, same_self, Int.toNat_natCast, ofF_len', digF_len', blkK_len, trn_len, hmF_len, shF_len, List.length_map, List.length_append, List.length_replicate, List.length_take, List.length_drop, Sm.len, addF_left, nwS_left', e]
  (repeat' (first | exact trivial | exact flat_u8 _ | exact Sm.flat _ | exact flatA _ | exact allU8_map _ | exact Nat.le_refl _ | exact fin | refine And.intro ?_ ?_)) <;> (first | omega | rfl | decide | assumption | (unfold in64; omega) | exact List.length_map _ | skip)
theorem l62 {X : Ctx} (hX : X.P = Try.prog) (m : List (BitVec 8)) (hm : m.length = 20) : ∀ (d i : Nat), i + d = 12 →
    KRun X 62 0 (Is (.agg ((m.take 12).map AC.u8))) (kOf Try.f62 0) (mkS 21 [(4, .one (.ptr 0 0)), (5, .one (.ptr 1 0)), (6, .one (.ptr 2 0)), (7, .one (.i64 i))]) [some (List.replicate 12 (AC.u8 0)), some (m.map AC.u8), some (((m.take 12).take i ++ (List.replicate 12 0).drop i).map AC.u8)] := by
  have hl : (m.take 12).length = (List.replicate 12 (0 : BitVec 8)).length := by rw [List.length_take, List.length_replicate]; omega
  have hl2 : (m.take 12).length = 12 := hl
  have z : Flat (List.replicate 12 (AC.u8 0)) := by rw [mrep]; exact flat_u8 _
  intro d
  induction d with
  | zero =>
    intro i hi
    have hi : i = 12 := by omega
    subst hi
    have e := endT _ _ hl
    rw [hl2] at e
    refine vc62a hX _ _ _ _ ⟨fun h => absurd (of_decide_eq_true h) (by omega), fun _ => ?_⟩
    rw [e]
    simp only [hide_eq, tkm, tk0, m12, tkP, map_as8, map_asP, asP1, asP2, e1, p1, dig_of, smOf_nw, smOf_cells, z70, layNw, lay70, tk70, layR, layC, layM, lay1, tkn, List.drop_zero, Nat.zero_add, Nat.mul_one, Nat.reduceAdd, Nat.le_refl, Nat.min_self, Nat.reduceLeDiff, same_self, Int.toNat_natCast, ofF_len', digF_len', blkK_len, trn_len, hmF_len, shF_len, List.length_map, List.length_append, List.length_replicate, List.length_take, List.length_drop, Sm.len, addF_left, nwS_left', hm]
    (repeat' (first | exact trivial | exact flat_u8 _ | exact Sm.flat _ | exact flatA _ | exact allU8_map _ | exact Nat.le_refl _ | exact fin | refine And.intro ?_ ?_)) <;> (first | omega | rfl | decide | assumption | (unfold in64; omega) | exact List.length_map _ | skip)
  | succ d ih =>
    intro i hi
    have hL := lenT _ _ hl (i := i)
    have hg := gt_u8_at m i (by omega)
    have hs : (m.take 12).getD i 0 = m.getD i 0 := by
      rw [List.getD_eq_getElem?_getD, List.getElem?_take_of_lt (by omega), List.getD_eq_getElem?_getD]
    have hset := setT (m.take 12) (List.replicate 12 0) 0 (i := i) (by omega) hl
    rw [hs] at hset
    have ih := ih (i + 1) (by omega)
    refine vc62a hX _ _ _ _ ⟨fun _ => ?_, fun h => absurd (of_decide_eq_false h) (by omega)⟩
    simp only [ixn, hg, lay1, asU8, hset, hL, List.length_map]
    simp only [List.length_replicate]
    (repeat' (first | exact trivial | exact flat_u8 _ | exact Sm.flat _ | exact flatA _ | exact allU8_map _ | exact Nat.le_refl _ | exact fin | refine And.intro ?_ ?_)) <;> (first | omega | rfl | decide | assumption | (unfold in64; omega) | exact List.length_map _ | skip)
    exact ⟨ih⟩
theorem s62 (k m : List (BitVec 8)) (hk : k.length ≤ 1000000) (hm : m.length ≤ 900000) : Spec Try.prog 62 [.one (.xs (k.map AC.u8) 0 k.length), .one (.xs (m.map AC.u8) 0 m.length)] [] (Is (.agg ((shF k m).map AC.u8))) := by
  refine Spec.of_run ok62 fun X hX => vc62 hX _ _ _ _ ?_
  have K := l62 hX (hmF k m) (hmF_len k m) 12 0 rfl
  rw [begT, ← mrep] at K
  have z : Flat (List.replicate 12 (AC.u8 0)) := by rw [mrep]; exact flat_u8 _
  simp only [hide_eq, tkm, tk0, m12, tkP, map_as8, map_asP, asP1, asP2, e1, p1, dig_of, smOf_nw, smOf_cells, z70, layNw, lay70, tk70, layR, layC, layM, lay1, tkn, List.drop_zero, Nat.zero_add, Nat.mul_one, Nat.reduceAdd, Nat.le_refl, Nat.min_self, Nat.reduceLeDiff, same_self, Int.toNat_natCast, ofF_len', digF_len', blkK_len, trn_len, hmF_len, shF_len, List.length_map, List.length_append, List.length_replicate, List.length_take, List.length_drop, Sm.len, addF_left, nwS_left']
  (repeat' (first | exact trivial | exact flat_u8 _ | exact Sm.flat _ | exact flatA _ | exact allU8_map _ | exact Nat.le_refl _ | exact fin | refine And.intro ?_ ?_)) <;> (first | omega | rfl | decide | assumption | (unfold in64; omega) | exact List.length_map _ | skip)
  exact ⟨K⟩

def hiK : List (BitVec 8) := List.replicate 20 11#8
def hiM : List (List (BitVec 8)) := [[72#8, 105#8, 32#8], [84#8, 104#8, 101#8, 114#8, 101#8]]
set_option maxRecDepth 10000 in
theorem hi_of : (hmF hiK hiM.flatten).getD 0 0 = 182#8 ∧ (hmF hiK hiM.flatten).getD 1 0 = 23#8 ∧ (hmF hiK hiM.flatten).getD 19 0 = 0#8 ∧ (hmF hiK hiM.flatten).getD 18 0 = 190#8 := by decide +kernel
theorem l57 {X : Ctx} (hX : X.P = Try.prog) : ∀ (d i : Nat), i + d = 20 →
    KRun X 57 0 Fin (kOf Try.f57 0) (mkS 39 [(1, .one (.gs 0 20 1)), (6, .one (.i64 20)), (7, .one (.i64 i))]) [some ((hiK.take i ++ (List.replicate 20 0).drop i).map AC.u8)] := by
  have hl : hiK.length = (List.replicate 20 (0 : BitVec 8)).length := rfl
  have hl2 : hiK.length = 20 := Nat.le_antisymm (Nat.le_refl _) (Nat.le_refl _)
  intro d
  induction d with
  | zero =>
    intro i hi
    have hi : i = 20 := by omega
    subst hi
    have e := endT _ _ hl
    rw [hl2] at e
    refine vc57a hX _ _ ⟨fun h => absurd (of_decide_eq_true h) (by omega), fun _ => ?_⟩
    rw [e]
    have q : [AC.xs (List.take 3 (List.drop 0 [cvC (Value.int IntKind.u8 72), cvC (Value.int IntKind.u8 105), cvC (Value.int IntKind.u8 32)])) 0 3, AC.xs (List.take 5 (List.drop 0 [cvC (Value.int IntKind.u8 84), cvC (Value.int IntKind.u8 104), cvC (Value.int IntKind.u8 101), cvC (Value.int IntKind.u8 114), cvC (Value.int IntKind.u8 101)])) 0 5] = hiM.map encP := rfl
    have z3 : Flat (List.take 3 (List.drop 0 [cvC (Value.int IntKind.u8 72), cvC (Value.int IntKind.u8 105), cvC (Value.int IntKind.u8 32)])) := exactFlat rfl
    have z5 : Flat (List.take 5 (List.drop 0 [cvC (Value.int IntKind.u8 84), cvC (Value.int IntKind.u8 104), cvC (Value.int IntKind.u8 101), cvC (Value.int IntKind.u8 114), cvC (Value.int IntKind.u8 101)])) := exactFlat rfl
    have g : ∀ i, i < 20 → gt AC.any ((hmF hiK hiM.flatten).map AC.u8) i = .u8 ((hmF hiK hiM.flatten).getD i 0) := fun i h => gt_u8_at _ _ h
    obtain ⟨a0, a1, a2, a3⟩ := hi_of
    rw [q]
    simp only [hide_eq, tkm, tk0, m12, tkP, map_as8, map_asP, asP1, asP2, e1, p1, dig_of, smOf_nw, smOf_cells, z70, layNw, lay70, tk70, layR, layC, layM, lay1, tkn, List.drop_zero, Nat.zero_add, Nat.mul_one, Nat.reduceAdd, Nat.le_refl, Nat.min_self, Nat.reduceLeDiff, same_self, Int.toNat_natCast, ofF_len', digF_len', blkK_len, trn_len, hmF_len, shF_len, List.length_map, List.length_append, List.length_replicate, List.length_take, List.length_drop, Sm.len, addF_left, nwS_left', hl2, g _ (show 0 < 20 by decide), g _ (show 1 < 20 by decide), g _ (show 18 < 20 by decide), g _ (show 19 < 20 by decide), asU8, a0, a1, a2, a3]
    have d0 : decide (182#8 = BitVec.ofInt 8 182) = true := by decide
    have d1 : decide (23#8 = BitVec.ofInt 8 23) = true := by decide
    have d2 : decide (0#8 = BitVec.ofInt 8 0) = true := by decide
    have d3 : decide (190#8 = BitVec.ofInt 8 190) = true := by decide
    simp only [d0, d1, d2, d3, Bool.true_eq_false, false_implies, forall_const]
    (repeat' (first | exact trivial | exact flat_u8 _ | exact Sm.flat _ | exact flatA _ | exact allU8_map _ | exact Nat.le_refl _ | exact fin | refine And.intro ?_ ?_)) <;> (first | omega | rfl | decide | assumption | (unfold in64; omega) | exact List.length_map _ | skip)
  | succ d ih =>
    intro i hi
    have hL := lenT _ _ hl (i := i)
    have hs : hiK.getD i 0 = 11#8 := getD_rep _ _ _ (by omega)
    have hset := setT hiK (List.replicate 20 0) 0 (i := i) (by omega) hl
    rw [hs] at hset
    have c11 : cvC (Value.int IntKind.u8 11) = AC.u8 11#8 := rfl
    have ih := ih (i + 1) (by omega)
    refine vc57a hX _ _ ⟨fun _ => ?_, fun h => absurd (of_decide_eq_false h) (by omega)⟩
    simp only [ixn, c11, lay1, hset, hL, List.length_map, List.length_replicate]
    (repeat' (first | exact trivial | exact flat_u8 _ | exact Sm.flat _ | exact flatA _ | exact allU8_map _ | exact Nat.le_refl _ | exact fin | refine And.intro ?_ ?_)) <;> (first | omega | rfl | decide | assumption | (unfold in64; omega) | exact List.length_map _ | skip)
    exact ⟨ih⟩
theorem s57 : Spec Try.prog 57 [] [] Fin := by
  refine Spec.of_run ok57 fun X hX => vc57 hX ?_
  have K := l57 hX 20 0 rfl
  rw [begT, ← mrep] at K
  exact ⟨⟨by decide, by decide, by decide, by decide⟩, exactFlat rfl, ⟨K⟩⟩
noncomputable def T10 : Tab := fun f xs => match f, xs with
  | 57, [] => some ([], .one (.b true))
  | 61, [.one (.xs row 0 n), .one (.xs ps 0 k)] => some ([allU8 row ∧ row.length = n ∧ n ≤ 1000000 ∧ ps = (ps.map asP).map encP ∧ ps.length = k ∧ k ≤ 1000000], .agg (hide ((shF (row.map asU8) (ps.map asP).flatten).map AC.u8)))
  | 62, [.one (.xs row 0 n), .one (.xs r2 0 m)] => some ([allU8 row ∧ row.length = n ∧ n ≤ 1000000 ∧ allU8 r2 ∧ r2.length = m ∧ m ≤ 900000], .agg (hide ((shF (row.map asU8) (r2.map asU8)).map AC.u8)))
  | f, xs => T9 f xs
theorem T10_ok : TabOk Try.prog T10 := by
  intro f xs cs r h hc
  unfold T10 at h
  split at h
  · obtain ⟨rfl, rfl⟩ := Prod.mk.inj (Option.some.inj h)
    exact ⟨⟨_, _, ok57⟩, s57, rfl⟩
  · obtain ⟨rfl, rfl⟩ := Prod.mk.inj (Option.some.inj h)
    obtain ⟨h1, h2, h3, h4, h5, h6⟩ := hc.1
    rename_i row n ps k
    have := s61 (row.map asU8) (ps.map asP) (by rw [List.length_map]; omega) (by rw [List.length_map]; omega)
    rw [← h1, ← h4, List.length_map, List.length_map, h2, h5] at this
    rw [hide_eq]
    exact ⟨⟨_, _, ok61⟩, this, exactL_map _ (fun _ => rfl) _⟩
  · obtain ⟨rfl, rfl⟩ := Prod.mk.inj (Option.some.inj h)
    obtain ⟨h1, h2, h3, h4, h5, h6⟩ := hc.1
    rename_i row n r2 m
    have := s62 (row.map asU8) (r2.map asU8) (by rw [List.length_map]; omega) (by rw [List.length_map]; omega)
    rw [← h1, ← h4, List.length_map, List.length_map, h2, h5] at this
    rw [hide_eq]
    exact ⟨⟨_, _, ok62⟩, this, exactL_map _ (fun _ => rfl) _⟩
  · exact T9_ok _ _ _ _ h hc
end DH
