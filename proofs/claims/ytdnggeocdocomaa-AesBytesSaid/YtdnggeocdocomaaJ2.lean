/- Walks of functions, each by evaluation: what each returns. -/
import Derived.Test.YtdnggeocdocomaaJ1
import Derived.Test.YtdnggeocdocomaaJ01
set_option linter.unusedVariables false
set_option linter.unusedSimpArgs false
noncomputable section
namespace DH
open Go Go.Proofs
noncomputable def T11 : Tab := fun f xs => match f, xs with
  | 50, [.one (.u8 c)] => some ([], .one (.u8 (xt c)))
  | 51, [.one (.u8 a), .one (.u8 b)] => some ([], .one (.u8 (tmF a b)))
  | 103, [] => some ([], .agg (hide (boxT.map AC.u8)))
  | 105, [.agg cs, .one (.xp row 0)] => some ([allU8 cs ∧ cs.length = 16 ∧ row = boxT.map AC.u8], .agg (hide ((shL (cs.map asU8)).map AC.u8)))
  | 108, [.agg cs, .agg ds] => some ([allU8 cs ∧ cs.length = 16 ∧ allU8 ds ∧ ds.length = 16], .agg (hide ((xorL (cs.map asU8) (ds.map asU8)).map AC.u8)))
  | 109, [.one (.u8 x)] => some ([], .one (.u8 (turnB x)))
  | f, xs => T7 f xs
theorem T11_ok : TabOk Try.prog T11 := by
  intro f xs cs r h hc
  unfold T11 at h
  split at h
  · obtain ⟨rfl, rfl⟩ := Prod.mk.inj (Option.some.inj h)
    exact ⟨⟨_, _, ok50⟩, s50 _, rfl⟩
  · obtain ⟨rfl, rfl⟩ := Prod.mk.inj (Option.some.inj h)
    exact ⟨⟨_, _, ok51⟩, s51 _ _, rfl⟩
  · obtain ⟨rfl, rfl⟩ := Prod.mk.inj (Option.some.inj h)
    rw [hide_eq]
    exact ⟨⟨_, _, ok103⟩, s103, exactL_map _ (fun _ => rfl) _⟩
  · obtain ⟨rfl, rfl⟩ := Prod.mk.inj (Option.some.inj h)
    obtain ⟨h1, h2, rfl⟩ := hc.1
    rename_i cs
    have := s105 (cs.map asU8) (by rw [List.length_map]; exact h2)
    rw [← h1] at this
    rw [hide_eq]
    exact ⟨⟨_, _, ok105⟩, this, exactL_map _ (fun _ => rfl) _⟩
  · obtain ⟨rfl, rfl⟩ := Prod.mk.inj (Option.some.inj h)
    obtain ⟨h1, h2, h3, h4⟩ := hc.1
    rename_i cs ds
    have := s108 (cs.map asU8) (ds.map asU8) (by rw [List.length_map]; exact h2) (by rw [List.length_map]; exact h4)
    rw [← h1, ← h3] at this
    rw [hide_eq]
    exact ⟨⟨_, _, ok108⟩, this, exactL_map _ (fun _ => rfl) _⟩
  · obtain ⟨rfl, rfl⟩ := Prod.mk.inj (Option.some.inj h)
    exact ⟨⟨_, _, ok109⟩, s109 _, rfl⟩
  · exact T7_ok _ _ _ _ h hc
noncomputable def M11 : TabM := fun f xs m => match f, xs, m with
  | 107, [.one (.ptr 0 0), .agg bs], [some as'] => some ([allU8 as' ∧ as'.length = 16 ∧ allU8 bs ∧ bs.length = 16], .tup [], [some ((xorL (as'.map asU8) (bs.map asU8)).map AC.u8)])
  | _, _, _ => none
noncomputable def mf11 : FuncId → Option MF := fun f => match f with
  | 107 => some { cs := { kinds := [], fl := [true], fv := [1] }, flo := [true] }
  | _ => none
theorem M11_ok : TabMOk Try.prog M11 := by
  intro f xs m cs r m1 h hc
  unfold M11 at h
  split at h
  · simp only [Option.some.injEq, Prod.mk.injEq] at h
    obtain ⟨rfl, rfl, rfl⟩ := h
    obtain ⟨h1, h2, h3, h4⟩ := hc.1
    rename_i bs as'
    have := s107 (as'.map asU8) (bs.map asU8) (by rw [List.length_map]; exact h2) (by rw [List.length_map]; exact h4)
    rw [← h1, ← h3] at this
    exact ⟨⟨_, _, ok107⟩, this⟩
  · cases h
set_option maxRecDepth 100000 in
theorem vc48 {X : Ctx} {Q : AV → Mem → Prop} (hX : X.P = Try.prog) (c : BitVec 8) (h : (List.length (hide (List.map AC.u8 boxT)) = 256 ∧ 256 ≤ 256) ∧ gt AC.any (layS (List.replicate 256 (AC.u8 (0 : BitVec 8))) 0 (hide (List.map AC.u8 boxT))) (0 + Int.toNat (↑(BitVec.toNat c) : Int) * 1) = AC.u8 (asU8 (gt AC.any (layS (List.replicate 256 (AC.u8 (0 : BitVec 8))) 0 (hide (List.map AC.u8 boxT))) (0 + Int.toNat (↑(BitVec.toNat c) : Int) * 1))) ∧ Q (AV.one (AC.u8 (asU8 (gt AC.any (layS (List.replicate 256 (AC.u8 (0 : BitVec 8))) 0 (hide (List.map AC.u8 boxT))) (0 + Int.toNat (↑(BitVec.toNat c) : Int) * 1))))) []) : KRun X 48 0 Q ([.code (bodyOf Try.f48)]) (slots [.one (.u8 c)] Try.f48.ntmps) [] :=
  wpRun_ok (hX ▸ baseJ_ok T11 mf11 M11) (hX ▸ baseJ_call T11_ok M11_ok) (hX ▸ mixed) (hX ▸ ok48) LK_ok (cast (β := wpRun (baseJ T11 mf11 M11) [] [] false (RS.mk Try.f48.results.toList 0 (CS.mk [] [] [] [])) (LK X 48 0 Q true []) Q 2000 ([.code (bodyOf Try.f48)]) (slots [.one (.u8 c)] Try.f48.ntmps) []) (by kernel_rfl) h)
set_option maxRecDepth 100000 in
theorem vc110a {X : Ctx} {Q : AV → Mem → Prop} (hX : X.P = Try.prog) (c n : BitVec 8) (i : Int) (h : (decide (i < (254 : Int)) = true → in64 (i + (1 : Int)) ∧ KR X 110 0 Q (kOf Try.f110 0) (mkS 15 [(0, AV.one (AC.u8 c)), (3, AV.one (AC.u8 (tmF n c))), (4, AV.one (AC.i64 (i + (1 : Int))))]) []) ∧ (decide (i < (254 : Int)) = false → (decide (c = BitVec.ofInt 8 (0 : Int)) = true → Q (AV.one (AC.u8 (BitVec.ofInt 8 (0 : Int)))) []) ∧ (decide (c = BitVec.ofInt 8 (0 : Int)) = false → Q (AV.one (AC.u8 n)) []))) : KRun X 110 0 Q (kOf Try.f110 0) (mkS 15 [(0, .one (.u8 c)), (3, .one (.u8 n)), (4, .one (.i64 i))]) [] :=
  wpRun_ok (hX ▸ baseJ_ok T11 mf11 M11) (hX ▸ baseJ_call T11_ok M11_ok) (hX ▸ mixed) (hX ▸ ok110) LK_ok (cast (β := wpRun (baseJ T11 mf11 M11) [6, 13] [] false (RS.mk Try.f110.results.toList 0 (CS.mk [] [] [] [])) (LK X 110 0 Q true [(3, LS.mk [0, 3, 4] (CS.mk [] [] [] []))]) Q 2000 (kOf Try.f110 0) (mkS 15 [(0, .one (.u8 c)), (3, .one (.u8 n)), (4, .one (.i64 i))]) []) (by kernel_rfl) h)
set_option maxRecDepth 100000 in
theorem vc110 {X : Ctx} {Q : AV → Mem → Prop} (hX : X.P = Try.prog) (c : BitVec 8) (h : KR X 110 0 Q (kOf Try.f110 0) (mkS 15 [(0, AV.one (AC.u8 c)), (3, AV.one (AC.u8 (BitVec.ofInt 8 (1 : Int)))), (4, AV.one (AC.i64 (0 : Int)))]) []) : KRun X 110 0 Q ([.code (bodyOf Try.f110)]) (slots [.one (.u8 c)] Try.f110.ntmps) [] :=
  wpRun_ok (hX ▸ baseJ_ok T11 mf11 M11) (hX ▸ baseJ_call T11_ok M11_ok) (hX ▸ mixed) (hX ▸ ok110) LK_ok (cast (β := wpRun (baseJ T11 mf11 M11) [6, 13] [] false (RS.mk Try.f110.results.toList 0 (CS.mk [] [] [] [])) (LK X 110 0 Q true [(3, LS.mk [0, 3, 4] (CS.mk [] [] [] []))]) Q 2000 ([.code (bodyOf Try.f110)]) (slots [.one (.u8 c)] Try.f110.ntmps) []) (by kernel_rfl) h)
set_option maxRecDepth 100000 in
theorem vc54 {X : Ctx} {Q : AV → Mem → Prop} (hX : X.P = Try.prog)  (h : ((0 : Int) ≤ (0 : Int) ∧ (0 : Int) < (↑256 : Int)) ∧ (1 = 1 ∧ 1 ≤ 256) ∧ Flat (List.replicate 256 (AC.u8 (0 : BitVec 8))) ∧ Flat (layS (List.replicate 256 (AC.u8 (0 : BitVec 8))) 0 [cvC (Value.int IntKind.u8 (1 : Int))]) ∧ KR X 54 0 Q (kOf Try.f54 0) (mkS 33 [(0, AV.one (AC.ptr 0 0)), (1, AV.one (AC.ptr 1 0)), (2, AV.one (AC.i64 (1 : Int)))]) [some (List.replicate 256 (AC.u8 (0 : BitVec 8))), some ([AC.u8 (BitVec.ofInt 8 (1 : Int))] ++ List.replicate 255 (AC.u8 (0 : BitVec 8)))]) : KRun X 54 0 Q ([.code (bodyOf Try.f54)]) (slots [] Try.f54.ntmps) [] :=
  wpRun_ok (hX ▸ baseJ_ok T11 mf11 M11) (hX ▸ baseJ_call T11_ok M11_ok) (hX ▸ mixed) (hX ▸ ok54) LK_ok (cast (β := wpRun (baseJ T11 mf11 M11) [7, 20] [(12, 9)] false (RS.mk Try.f54.results.toList 0 (CS.mk [] [] [0] [])) (LK X 54 0 Q true [(4, LS.mk [0, 1, 2] (CS.mk [] [true, true] [] [])), (10, LS.mk [0, 1, 3, 4] (CS.mk [] [true, true, true] [] []))]) Q 2000 ([.code (bodyOf Try.f54)]) (slots [] Try.f54.ntmps) []) (by kernel_rfl) h)
set_option maxRecDepth 100000 in
theorem vc54a {X : Ctx} {Q : AV → Mem → Prop} (hX : X.P = Try.prog) (zs ps : List AC) (i : Int) (h : (decide (i < (256 : Int)) = true → in64 (i - (1 : Int)) ∧ ((0 : Int) ≤ i - (1 : Int) ∧ i - (1 : Int) < (↑256 : Int)) ∧ gt AC.any ps (0 + Int.toNat (i - (1 : Int)) * 1) = AC.u8 (asU8 (gt AC.any ps (0 + Int.toNat (i - (1 : Int)) * 1))) ∧ ((0 : Int) ≤ i ∧ i < (↑256 : Int)) ∧ (1 = 1 ∧ 0 + Int.toNat i * 1 + 1 ≤ List.length ps) ∧ in64 (i + (1 : Int)) ∧ Flat zs ∧ Flat (layS ps (0 + Int.toNat i * 1) [AC.u8 (tmF (asU8 (gt AC.any ps (0 + Int.toNat (i - (1 : Int)) * 1))) (BitVec.ofInt 8 (3 : Int)))]) ∧ KR X 54 0 Q (kOf Try.f54 0) (mkS 33 [(0, AV.one (AC.ptr 0 0)), (1, AV.one (AC.ptr 1 0)), (2, AV.one (AC.i64 (i + (1 : Int))))]) [some zs, some (layS ps (0 + Int.toNat i * 1) [AC.u8 (tmF (asU8 (gt AC.any ps (0 + Int.toNat (i - (1 : Int)) * 1))) (BitVec.ofInt 8 (3 : Int)))])]) ∧ (decide (i < (256 : Int)) = false → ((0 : Int) ≤ (0 : Int) ∧ (0 : Int) < (↑256 : Int)) ∧ (1 = 1 ∧ 1 ≤ 256) ∧ Flat zs ∧ Flat ps ∧ Flat (layS (List.replicate 256 (AC.u8 (0 : BitVec 8))) 0 [AC.u8 (turnB (BitVec.ofInt 8 (0 : Int)))]) ∧ KR X 54 0 Q (kOf Try.f54 1) (mkS 33 [(0, AV.one (AC.ptr 0 0)), (1, AV.one (AC.ptr 1 0)), (3, AV.one (AC.ptr 2 0)), (4, AV.one (AC.i64 (0 : Int)))]) [some zs, some ps, some ([AC.u8 (turnB (BitVec.ofInt 8 (0 : Int)))] ++ List.replicate 255 (AC.u8 (0 : BitVec 8)))])) : KRun X 54 0 Q (kOf Try.f54 0) (mkS 33 [(0, .one (.ptr 0 0)), (1, .one (.ptr 1 0)), (2, .one (.i64 i))]) [some zs, some ps] :=
  wpRun_ok (hX ▸ baseJ_ok T11 mf11 M11) (hX ▸ baseJ_call T11_ok M11_ok) (hX ▸ mixed) (hX ▸ ok54) LK_ok (cast (β := wpRun (baseJ T11 mf11 M11) [7, 20] [(12, 9)] false (RS.mk Try.f54.results.toList 0 (CS.mk [] [] [0] [])) (LK X 54 0 Q true [(4, LS.mk [0, 1, 2] (CS.mk [] [true, true] [] [])), (10, LS.mk [0, 1, 3, 4] (CS.mk [] [true, true, true] [] []))]) Q 2000 (kOf Try.f54 0) (mkS 33 [(0, .one (.ptr 0 0)), (1, .one (.ptr 1 0)), (2, .one (.i64 i))]) [some zs, some ps]) (by kernel_rfl) h)
set_option maxRecDepth 100000 in
theorem vc54b {X : Ctx} {Q : AV → Mem → Prop} (hX : X.P = Try.prog) (zs ps os : List AC) (i : Int) (h : (decide (i < (255 : Int)) = true → ((0 : Int) ≤ i ∧ i < (↑256 : Int)) ∧ gt AC.any ps (0 + Int.toNat i * 1) = AC.u8 (asU8 (gt AC.any ps (0 + Int.toNat i * 1))) ∧ in64 ((255 : Int) - i) ∧ ((0 : Int) ≤ (255 : Int) - i ∧ (255 : Int) - i < (↑256 : Int)) ∧ gt AC.any ps (0 + Int.toNat ((255 : Int) - i) * 1) = AC.u8 (asU8 (gt AC.any ps (0 + Int.toNat ((255 : Int) - i) * 1))) ∧ (1 = 1 ∧ 0 + Int.toNat (↑(BitVec.toNat (asU8 (gt AC.any ps (0 + Int.toNat i * 1)))) : Int) * 1 + 1 ≤ List.length os) ∧ in64 (i + (1 : Int)) ∧ Flat zs ∧ Flat ps ∧ Flat (layS os (0 + Int.toNat (↑(BitVec.toNat (asU8 (gt AC.any ps (0 + Int.toNat i * 1)))) : Int) * 1) [AC.u8 (turnB (asU8 (gt AC.any ps (0 + Int.toNat ((255 : Int) - i) * 1))))]) ∧ KR X 54 0 Q (kOf Try.f54 1) (mkS 33 [(0, AV.one (AC.ptr 0 0)), (1, AV.one (AC.ptr 1 0)), (3, AV.one (AC.ptr 2 0)), (4, AV.one (AC.i64 (i + (1 : Int))))]) [some zs, some ps, some (layS os (0 + Int.toNat (↑(BitVec.toNat (asU8 (gt AC.any ps (0 + Int.toNat i * 1)))) : Int) * 1) [AC.u8 (turnB (asU8 (gt AC.any ps (0 + Int.toNat ((255 : Int) - i) * 1))))])]) ∧ (decide (i < (255 : Int)) = false → 256 ≤ List.length os ∧ (List.length (List.take 256 (List.drop 0 os)) = 256 ∧ 256 ≤ List.length zs) ∧ 256 ≤ List.length (layS zs 0 (List.take 256 (List.drop 0 os))) ∧ flatAV (AV.agg (List.take 256 (List.drop 0 (layS zs 0 (List.take 256 (List.drop 0 os)))))) ∧ Q (AV.agg (List.take 256 (List.drop 0 (layS zs 0 (List.take 256 (List.drop 0 os)))))) [])) : KRun X 54 0 Q (kOf Try.f54 1) (mkS 33 [(0, .one (.ptr 0 0)), (1, .one (.ptr 1 0)), (3, .one (.ptr 2 0)), (4, .one (.i64 i))]) [some zs, some ps, some os] :=
  wpRun_ok (hX ▸ baseJ_ok T11 mf11 M11) (hX ▸ baseJ_call T11_ok M11_ok) (hX ▸ mixed) (hX ▸ ok54) LK_ok (cast (β := wpRun (baseJ T11 mf11 M11) [7, 20] [(12, 9)] false (RS.mk Try.f54.results.toList 0 (CS.mk [] [] [0] [])) (LK X 54 0 Q true [(4, LS.mk [0, 1, 2] (CS.mk [] [true, true] [] [])), (10, LS.mk [0, 1, 3, 4] (CS.mk [] [true, true, true] [] []))]) Q 2000 (kOf Try.f54 1) (mkS 33 [(0, .one (.ptr 0 0)), (1, .one (.ptr 1 0)), (3, .one (.ptr 2 0)), (4, .one (.i64 i))]) [some zs, some ps, some os]) (by kernel_rfl) h)
set_option maxRecDepth 100000 in
theorem vc102 {X : Ctx} {Q : AV → Mem → Prop} (hX : X.P = Try.prog) (ks : List AC) (h : (List.length (hide (List.map AC.u8 boxT)) = 256 ∧ 256 ≤ 256) ∧ 16 ≤ List.length ks ∧ ((0 : Int) ≤ (0 : Int) ∧ (0 : Int) < (↑11 : Int)) ∧ (List.length (List.take 16 (List.drop 0 ks)) = 16 ∧ 16 ≤ 176) ∧ Flat (List.replicate 176 (AC.u8 (0 : BitVec 8))) ∧ Flat (layS (List.replicate 256 (AC.u8 (0 : BitVec 8))) 0 (hide (List.map AC.u8 boxT))) ∧ Flat (layS (List.replicate 176 (AC.u8 (0 : BitVec 8))) 0 (List.take 16 (List.drop 0 ks))) ∧ KR X 102 0 Q (kOf Try.f102 0) (mkS 73 [(2, AV.one (AC.ptr 0 0)), (3, AV.one (AC.ptr 1 0)), (4, AV.one (AC.ptr 2 0)), (5, AV.one (AC.u8 (BitVec.ofInt 8 (1 : Int)))), (6, AV.one (AC.i64 (1 : Int)))]) [some (List.replicate 176 (AC.u8 (0 : BitVec 8))), some (layS (List.replicate 256 (AC.u8 (0 : BitVec 8))) 0 (hide (List.map AC.u8 boxT))), some (layS (List.replicate 176 (AC.u8 (0 : BitVec 8))) 0 (List.take 16 (List.drop 0 ks)))]) : KRun X 102 0 Q ([.code (bodyOf Try.f102)]) (slots [.agg ks] Try.f102.ntmps) [] :=
  wpRun_ok (hX ▸ baseJ_ok T11 mf11 M11) (hX ▸ baseJ_call T11_ok M11_ok) (hX ▸ mixed) (hX ▸ ok102) LK_ok (cast (β := wpRun (baseJ T11 mf11 M11) [15, 25, 55] [(13, 16), (15, 8), (20, 14)] false (RS.mk Try.f102.results.toList 0 (CS.mk [] [] [0] [])) (LK X 102 0 Q true [(6, LS.mk [2, 3, 4, 5, 6] (CS.mk [] [true, true, true, true] [] [])), (11, LS.mk [2, 3, 4, 5, 6, 7, 8, 24] (CS.mk [] [true, true, true, true] [] [])), (18, LS.mk [2, 3, 4, 5, 6, 7, 8, 10] (CS.mk [] [true, true, true, true] [] []))]) Q 2000 ([.code (bodyOf Try.f102)]) (slots [.agg ks] Try.f102.ntmps) []) (by kernel_rfl) h)
set_option maxRecDepth 100000 in
theorem vc102a {X : Ctx} {Q : AV → Mem → Prop} (hX : X.P = Try.prog) (zs bs os : List AC) (p : BitVec 8) (i : Int) (h : (decide (i ≤ (10 : Int)) = true → in64 (i - (1 : Int)) ∧ ((0 : Int) ≤ i - (1 : Int) ∧ i - (1 : Int) < (↑11 : Int)) ∧ 0 + Int.toNat (i - (1 : Int)) * 16 + 16 ≤ List.length os ∧ (List.length (List.take 16 (List.drop (0 + Int.toNat (i - (1 : Int)) * 16) os)) = 16 ∧ 16 ≤ 16) ∧ ((0 : Int) ≤ i ∧ i < (↑11 : Int)) ∧ Flat zs ∧ Flat bs ∧ Flat os ∧ Flat (layS (List.replicate 16 (AC.u8 (0 : BitVec 8))) 0 (List.take 16 (List.drop (0 + Int.toNat (i - (1 : Int)) * 16) os))) ∧ KR X 102 0 Q (kOf Try.f102 1) (mkS 73 [(2, AV.one (AC.ptr 0 0)), (3, AV.one (AC.ptr 1 0)), (4, AV.one (AC.ptr 2 0)), (5, AV.one (AC.u8 p)), (6, AV.one (AC.i64 i)), (7, AV.one (AC.ptr 3 0)), (8, AV.one (AC.ptr 2 (0 + Int.toNat i * 16))), (24, AV.one (AC.i64 (0 : Int)))]) [some zs, some bs, some os, some (layS (List.replicate 16 (AC.u8 (0 : BitVec 8))) 0 (List.take 16 (List.drop (0 + Int.toNat (i - (1 : Int)) * 16) os)))]) ∧ (decide (i ≤ (10 : Int)) = false → 176 ≤ List.length os ∧ (List.length (List.take 176 (List.drop 0 os)) = 176 ∧ 176 ≤ List.length zs) ∧ 176 ≤ List.length (layS zs 0 (List.take 176 (List.drop 0 os))) ∧ flatAV (AV.agg (List.take 176 (List.drop 0 (layS zs 0 (List.take 176 (List.drop 0 os)))))) ∧ Q (AV.agg (List.take 176 (List.drop 0 (layS zs 0 (List.take 176 (List.drop 0 os)))))) [])) : KRun X 102 0 Q (kOf Try.f102 0) (mkS 73 [(2, .one (.ptr 0 0)), (3, .one (.ptr 1 0)), (4, .one (.ptr 2 0)), (5, .one (.u8 p)), (6, .one (.i64 i))]) [some zs, some bs, some os] :=
  wpRun_ok (hX ▸ baseJ_ok T11 mf11 M11) (hX ▸ baseJ_call T11_ok M11_ok) (hX ▸ mixed) (hX ▸ ok102) LK_ok (cast (β := wpRun (baseJ T11 mf11 M11) [15, 25, 55] [(13, 16), (15, 8), (20, 14)] false (RS.mk Try.f102.results.toList 0 (CS.mk [] [] [0] [])) (LK X 102 0 Q true [(6, LS.mk [2, 3, 4, 5, 6] (CS.mk [] [true, true, true, true] [] [])), (11, LS.mk [2, 3, 4, 5, 6, 7, 8, 24] (CS.mk [] [true, true, true, true] [] [])), (18, LS.mk [2, 3, 4, 5, 6, 7, 8, 10] (CS.mk [] [true, true, true, true] [] []))]) Q 2000 (kOf Try.f102 0) (mkS 73 [(2, .one (.ptr 0 0)), (3, .one (.ptr 1 0)), (4, .one (.ptr 2 0)), (5, .one (.u8 p)), (6, .one (.i64 i))]) [some zs, some bs, some os]) (by kernel_rfl) h)
set_option maxRecDepth 100000 in
theorem vc102b {X : Ctx} {Q : AV → Mem → Prop} (hX : X.P = Try.prog) (zs bs os ws : List AC) (p : BitVec 8) (o : Nat) (i k : Int) (h : (decide (k < (4 : Int)) = true → ((0 : Int) ≤ k ∧ k < (↑16 : Int)) ∧ gt AC.any ws (0 + Int.toNat k * 1) = AC.u8 (asU8 (gt AC.any ws (0 + Int.toNat k * 1))) ∧ in64 (k + (1 : Int)) ∧ in64 ((12 : Int) + bits64 BinOp.and (k + (1 : Int)) (3 : Int)) ∧ ((0 : Int) ≤ (12 : Int) + bits64 BinOp.and (k + (1 : Int)) (3 : Int) ∧ (12 : Int) + bits64 BinOp.and (k + (1 : Int)) (3 : Int) < (↑16 : Int)) ∧ gt AC.any ws (0 + Int.toNat ((12 : Int) + bits64 BinOp.and (k + (1 : Int)) (3 : Int)) * 1) = AC.u8 (asU8 (gt AC.any ws (0 + Int.toNat ((12 : Int) + bits64 BinOp.and (k + (1 : Int)) (3 : Int)) * 1))) ∧ gt AC.any bs (0 + Int.toNat (↑(BitVec.toNat (asU8 (gt AC.any ws (0 + Int.toNat ((12 : Int) + bits64 BinOp.and (k + (1 : Int)) (3 : Int)) * 1)))) : Int) * 1) = AC.u8 (asU8 (gt AC.any bs (0 + Int.toNat (↑(BitVec.toNat (asU8 (gt AC.any ws (0 + Int.toNat ((12 : Int) + bits64 BinOp.and (k + (1 : Int)) (3 : Int)) * 1)))) : Int) * 1))) ∧ ((0 : Int) ≤ k ∧ k < (↑16 : Int)) ∧ (1 = 1 ∧ o + Int.toNat k * 1 + 1 ≤ List.length os) ∧ in64 (k + (1 : Int)) ∧ Flat zs ∧ Flat bs ∧ Flat (layS os (o + Int.toNat k * 1) [AC.u8 (asU8 (gt AC.any ws (0 + Int.toNat k * 1)) ^^^ asU8 (gt AC.any bs (0 + Int.toNat (↑(BitVec.toNat (asU8 (gt AC.any ws (0 + Int.toNat ((12 : Int) + bits64 BinOp.and (k + (1 : Int)) (3 : Int)) * 1)))) : Int) * 1)))]) ∧ Flat ws ∧ KR X 102 0 Q (kOf Try.f102 1) (mkS 73 [(2, AV.one (AC.ptr 0 0)), (3, AV.one (AC.ptr 1 0)), (4, AV.one (AC.ptr 2 0)), (5, AV.one (AC.u8 p)), (6, AV.one (AC.i64 i)), (7, AV.one (AC.ptr 3 0)), (8, AV.one (AC.ptr 2 o)), (24, AV.one (AC.i64 (k + (1 : Int))))]) [some zs, some bs, some (layS os (o + Int.toNat k * 1) [AC.u8 (asU8 (gt AC.any ws (0 + Int.toNat k * 1)) ^^^ asU8 (gt AC.any bs (0 + Int.toNat (↑(BitVec.toNat (asU8 (gt AC.any ws (0 + Int.toNat ((12 : Int) + bits64 BinOp.and (k + (1 : Int)) (3 : Int)) * 1)))) : Int) * 1)))]), some ws]) ∧ (decide (k < (4 : Int)) = false → ((0 : Int) ≤ (0 : Int) ∧ (0 : Int) < (↑16 : Int)) ∧ gt AC.any os (o + 0) = AC.u8 (asU8 (gt AC.any os (o + 0))) ∧ ((0 : Int) ≤ (0 : Int) ∧ (0 : Int) < (↑16 : Int)) ∧ (1 = 1 ∧ o + 0 + 1 ≤ List.length os) ∧ Flat zs ∧ Flat bs ∧ Flat (layS os (o + 0) [AC.u8 (asU8 (gt AC.any os (o + 0)) ^^^ p)]) ∧ Flat ws ∧ KR X 102 0 Q (kOf Try.f102 2) (mkS 73 [(2, AV.one (AC.ptr 0 0)), (3, AV.one (AC.ptr 1 0)), (4, AV.one (AC.ptr 2 0)), (5, AV.one (AC.u8 (xt p))), (6, AV.one (AC.i64 i)), (7, AV.one (AC.ptr 3 0)), (8, AV.one (AC.ptr 2 o)), (10, AV.one (AC.i64 (4 : Int)))]) [some zs, some bs, some (layS os (o + 0) [AC.u8 (asU8 (gt AC.any os (o + 0)) ^^^ p)]), some ws])) : KRun X 102 0 Q (kOf Try.f102 1) (mkS 73 [(2, .one (.ptr 0 0)), (3, .one (.ptr 1 0)), (4, .one (.ptr 2 0)), (5, .one (.u8 p)), (6, .one (.i64 i)), (7, .one (.ptr 3 0)), (8, .one (.ptr 2 o)), (24, .one (.i64 k))]) [some zs, some bs, some os, some ws] :=
  wpRun_ok (hX ▸ baseJ_ok T11 mf11 M11) (hX ▸ baseJ_call T11_ok M11_ok) (hX ▸ mixed) (hX ▸ ok102) LK_ok (cast (β := wpRun (baseJ T11 mf11 M11) [15, 25, 55] [(13, 16), (15, 8), (20, 14)] false (RS.mk Try.f102.results.toList 0 (CS.mk [] [] [0] [])) (LK X 102 0 Q true [(6, LS.mk [2, 3, 4, 5, 6] (CS.mk [] [true, true, true, true] [] [])), (11, LS.mk [2, 3, 4, 5, 6, 7, 8, 24] (CS.mk [] [true, true, true, true] [] [])), (18, LS.mk [2, 3, 4, 5, 6, 7, 8, 10] (CS.mk [] [true, true, true, true] [] []))]) Q 2000 (kOf Try.f102 1) (mkS 73 [(2, .one (.ptr 0 0)), (3, .one (.ptr 1 0)), (4, .one (.ptr 2 0)), (5, .one (.u8 p)), (6, .one (.i64 i)), (7, .one (.ptr 3 0)), (8, .one (.ptr 2 o)), (24, .one (.i64 k))]) [some zs, some bs, some os, some ws]) (by kernel_rfl) h)
set_option maxRecDepth 100000 in
theorem vc102c {X : Ctx} {Q : AV → Mem → Prop} (hX : X.P = Try.prog) (zs bs os ws : List AC) (p : BitVec 8) (o : Nat) (i k : Int) (h : (decide (k < (16 : Int)) = true → ((0 : Int) ≤ k ∧ k < (↑16 : Int)) ∧ gt AC.any ws (0 + Int.toNat k * 1) = AC.u8 (asU8 (gt AC.any ws (0 + Int.toNat k * 1))) ∧ in64 (k - (4 : Int)) ∧ ((0 : Int) ≤ k - (4 : Int) ∧ k - (4 : Int) < (↑16 : Int)) ∧ gt AC.any os (o + Int.toNat (k - (4 : Int)) * 1) = AC.u8 (asU8 (gt AC.any os (o + Int.toNat (k - (4 : Int)) * 1))) ∧ ((0 : Int) ≤ k ∧ k < (↑16 : Int)) ∧ (1 = 1 ∧ o + Int.toNat k * 1 + 1 ≤ List.length os) ∧ in64 (k + (1 : Int)) ∧ Flat zs ∧ Flat bs ∧ Flat (layS os (o + Int.toNat k * 1) [AC.u8 (asU8 (gt AC.any ws (0 + Int.toNat k * 1)) ^^^ asU8 (gt AC.any os (o + Int.toNat (k - (4 : Int)) * 1)))]) ∧ Flat ws ∧ KR X 102 0 Q (kOf Try.f102 2) (mkS 73 [(2, AV.one (AC.ptr 0 0)), (3, AV.one (AC.ptr 1 0)), (4, AV.one (AC.ptr 2 0)), (5, AV.one (AC.u8 p)), (6, AV.one (AC.i64 i)), (7, AV.one (AC.ptr 3 0)), (8, AV.one (AC.ptr 2 o)), (10, AV.one (AC.i64 (k + (1 : Int))))]) [some zs, some bs, some (layS os (o + Int.toNat k * 1) [AC.u8 (asU8 (gt AC.any ws (0 + Int.toNat k * 1)) ^^^ asU8 (gt AC.any os (o + Int.toNat (k - (4 : Int)) * 1)))]), some ws]) ∧ (decide (k < (16 : Int)) = false → in64 (i + (1 : Int)) ∧ Flat zs ∧ Flat bs ∧ Flat os ∧ KR X 102 0 Q (kOf Try.f102 0) (mkS 73 [(2, AV.one (AC.ptr 0 0)), (3, AV.one (AC.ptr 1 0)), (4, AV.one (AC.ptr 2 0)), (5, AV.one (AC.u8 p)), (6, AV.one (AC.i64 (i + (1 : Int))))]) [some zs, some bs, some os])) : KRun X 102 0 Q (kOf Try.f102 2) (mkS 73 [(2, .one (.ptr 0 0)), (3, .one (.ptr 1 0)), (4, .one (.ptr 2 0)), (5, .one (.u8 p)), (6, .one (.i64 i)), (7, .one (.ptr 3 0)), (8, .one (.ptr 2 o)), (10, .one (.i64 k))]) [some zs, some bs, some os, some ws] :=
  wpRun_ok (hX ▸ baseJ_ok T11 mf11 M11) (hX ▸ baseJ_call T11_ok M11_ok) (hX ▸ mixed) (hX ▸ ok102) LK_ok (cast (β := wpRun (baseJ T11 mf11 M11) [15, 25, 55] [(13, 16), (15, 8), (20, 14)] false (RS.mk Try.f102.results.toList 0 (CS.mk [] [] [0] [])) (LK X 102 0 Q true [(6, LS.mk [2, 3, 4, 5, 6] (CS.mk [] [true, true, true, true] [] [])), (11, LS.mk [2, 3, 4, 5, 6, 7, 8, 24] (CS.mk [] [true, true, true, true] [] [])), (18, LS.mk [2, 3, 4, 5, 6, 7, 8, 10] (CS.mk [] [true, true, true, true] [] []))]) Q 2000 (kOf Try.f102 2) (mkS 73 [(2, .one (.ptr 0 0)), (3, .one (.ptr 1 0)), (4, .one (.ptr 2 0)), (5, .one (.u8 p)), (6, .one (.i64 i)), (7, .one (.ptr 3 0)), (8, .one (.ptr 2 o)), (10, .one (.i64 k))]) [some zs, some bs, some os, some ws]) (by kernel_rfl) h)

theorem s48 (c : BitVec 8) : Spec Try.prog 48 [.one (.u8 c)] [] (Is (.one (.u8 (bx c)))) := by
  refine Spec.of_run ok48 fun X hX => vc48 hX _ ?_
  simp only [hide_eq, layR _ _ boxT_len, gt_box, asU8]
  exact ⟨⟨by rw [List.length_map, boxT_len], Nat.le_refl _⟩, trivial, rfl⟩
theorem l110 {X : Ctx} (hX : X.P = Try.prog) (c : BitVec 8) : ∀ (d i : Nat) (n : BitVec 8), i + d = 254 →
    KRun X 110 0 (Is (.one (.u8 (if c = 0#8 then 0#8 else invGo c d n)))) (kOf Try.f110 0) (mkS 15 [(0, .one (.u8 c)), (3, .one (.u8 n)), (4, .one (.i64 i))]) [] := by
  intro d
  induction d with
  | zero =>
    intro i n hi
    refine vc110a hX _ _ _ ⟨fun h => absurd (of_decide_eq_true h) (by omega), fun _ => ⟨fun h => ?_, fun h => ?_⟩⟩
    · rw [if_pos (show c = 0#8 from of_decide_eq_true h)]; rfl
    · rw [if_neg (show ¬ c = 0#8 from of_decide_eq_false h)]; rfl
  | succ d ih =>
    intro i n hi
    exact vc110a hX _ _ _ ⟨fun _ => ⟨by unfold in64; omega, ⟨ih (i + 1) _ (by omega)⟩⟩, fun h => absurd (of_decide_eq_false h) (by omega)⟩
theorem s110 (c : BitVec 8) : Spec Try.prog 110 [.one (.u8 c)] [] (Is (.one (.u8 (invF c)))) :=
  Spec.of_run ok110 fun X hX => vc110 hX _ ⟨l110 hX c 254 0 1#8 rfl⟩
theorem l54b {X : Ctx} (hX : X.P = Try.prog) : ∀ (d i : Nat), i + d = 255 →
    KRun X 54 0 (Is (.agg (boxT.map AC.u8))) (kOf Try.f54 1) (mkS 33 [(0, .one (.ptr 0 0)), (1, .one (.ptr 1 0)), (3, .one (.ptr 2 0)), (4, .one (.i64 i))]) [some (List.replicate 256 (AC.u8 0)), some (pwL.map AC.u8), some ((oF i).map AC.u8)] := by
  have z : Flat (List.replicate 256 (AC.u8 0)) := by rw [mrep]; exact flat_u8 _
  intro d
  induction d with
  | zero =>
    intro i hi
    have hi : i = 255 := by omega
    subst hi
    refine vc54b hX _ _ _ _ ⟨fun h => absurd (of_decide_eq_true h) (by omega), fun _ => ?_⟩
    rw [oF_end]
    simp only [hide_eq, tkm, tk0, map_as8, layR, layC, layM, lay1, tkn, List.drop_zero, Nat.zero_add, Nat.mul_one, Nat.reduceAdd, Nat.le_refl, Nat.min_self, Nat.reduceLeDiff, same_self, Int.toNat_natCast, List.length_map, List.length_append, List.length_replicate, List.length_take, List.length_drop, tab16_len, boxT_len]
    (repeat' (first | exact trivial | exact flat_u8 _ | exact flatA _ | exact allU8_map _ | exact Nat.le_refl _ | refine And.intro ?_ ?_)) <;> (first | omega | exact z | (unfold in64; omega) | exact List.length_map _ | (show Is _ _ _; exact rfl) | skip)
  | succ d ih =>
    intro i hi
    have hg := gt_u8_at pwL i (by rw [pwL_len]; omega)
    have hg2 := gt_u8_at pwL (255 - i) (by rw [pwL_len]; omega)
    rw [pwL_get (by omega)] at hg hg2
    have e5 : (255 : Int) - (i : Int) = ((255 - i : Nat) : Int) := by omega
    have ih := ih (i + 1) (by omega)
    have hl := oF_len i
    have hp := (p3 i).isLt
    refine vc54b hX _ _ _ _ ⟨fun _ => ?_, fun h => absurd (of_decide_eq_false h) (by omega)⟩
    rw [e5]
    simp only [ixn, hg, hg2, asU8, lay1, List.length_map, hl]
    rw [oF] at ih
    (repeat' (first | exact trivial | exact flat_u8 _ | exact flatA _ | exact allU8_map _ | exact Nat.le_refl _ | refine And.intro ?_ ?_)) <;> (first | omega | exact z | (unfold in64; omega) | exact List.length_map _ | (show Is _ _ _; exact rfl) | skip)
    exact ⟨ih⟩
theorem l54a {X : Ctx} (hX : X.P = Try.prog) : ∀ (d i : Nat), i + 1 + d = 256 →
    KRun X 54 0 (Is (.agg (boxT.map AC.u8))) (kOf Try.f54 0) (mkS 33 [(0, .one (.ptr 0 0)), (1, .one (.ptr 1 0)), (2, .one (.i64 (i + 1 : Nat)))]) [some (List.replicate 256 (AC.u8 0)), some ((pwL.take (i + 1) ++ (List.replicate 256 0).drop (i + 1)).map AC.u8)] := by
  have z : Flat (List.replicate 256 (AC.u8 0)) := by rw [mrep]; exact flat_u8 _
  have hl : pwL.length = (List.replicate 256 (0 : BitVec 8)).length := by rw [pwL_len, List.length_replicate]
  intro d
  induction d with
  | zero =>
    intro i hi
    have hi : i = 255 := by omega
    subst hi
    have e := endT _ _ hl
    rw [pwL_len] at e
    refine vc54a hX _ _ _ ⟨fun h => absurd (of_decide_eq_true h) (by omega), fun _ => ?_⟩
    rw [e]
    have K := l54b hX 255 0 rfl
    have z1 : Flat (layS (List.replicate 256 (AC.u8 0)) 0 [AC.u8 (turnB (BitVec.ofInt 8 0))]) := by rw [mrep, lay1]; exact flat_u8 _
    have e0 : (oF 0).map AC.u8 = [AC.u8 (turnB (BitVec.ofInt 8 0))] ++ List.replicate 255 (AC.u8 0) := by rw [oF, List.map_cons, List.map_replicate]; rfl
    rw [e0] at K
    (repeat' (first | exact trivial | exact flat_u8 _ | exact flatA _ | exact allU8_map _ | exact Nat.le_refl _ | refine And.intro ?_ ?_)) <;> (first | omega | exact z | (unfold in64; omega) | exact List.length_map _ | (show Is _ _ _; exact rfl) | skip)
    exact ⟨K⟩
  | succ d ih =>
    intro i hi
    have hL := lenT _ _ hl (i := i + 1)
    have hg := gt_u8_at (pwL.take (i + 1) ++ (List.replicate 256 0).drop (i + 1)) i (by rw [hL, List.length_replicate]; omega)
    rw [getT_new _ _ _ (by rw [pwL_len]; omega) (by omega), pwL_get (by omega)] at hg
    have hset := setT pwL (List.replicate 256 0) 0 (i := i + 1) (by rw [pwL_len]; omega) hl
    rw [pwL_get (by omega), ← p3_next (by omega)] at hset
    have ei : ((i + 1 : Nat) : Int) - 1 = (i : Int) := by omega
    have ih := ih (i + 1) (by omega)
    have o3 : BitVec.ofInt 8 3 = 3#8 := rfl
    refine vc54a hX _ _ _ ⟨fun _ => ?_, fun h => absurd (of_decide_eq_false h) (by omega)⟩
    rw [ei]
    simp only [ixn, hg, asU8, o3, lay1, hset, hL, List.length_map, List.length_replicate]
    (repeat' (first | exact trivial | exact flat_u8 _ | exact flatA _ | exact allU8_map _ | exact Nat.le_refl _ | refine And.intro ?_ ?_)) <;> (first | omega | exact z | (unfold in64; omega) | exact List.length_map _ | (show Is _ _ _; exact rfl) | skip)
    exact ⟨ih⟩
theorem s54 : Spec Try.prog 54 [] [] (Is (.agg (boxT.map AC.u8))) := by
  refine Spec.of_run ok54 fun X hX => vc54 hX ?_
  have K := l54a hX 255 0 rfl
  have z : Flat (List.replicate 256 (AC.u8 0)) := by rw [mrep]; exact flat_u8 _
  have e : (pwL.take 1 ++ (List.replicate 256 0).drop 1).map AC.u8 = [AC.u8 (BitVec.ofInt 8 1)] ++ List.replicate 255 (AC.u8 0) := by
    have : pwL.take 1 = [1#8] := by kernel_rfl
    rw [this, List.drop_replicate, List.map_append, List.map_replicate]; rfl
  rw [e] at K
  have z1 : Flat (layS (List.replicate 256 (AC.u8 0)) 0 [cvC (Value.int IntKind.u8 1)]) := by
    have : [cvC (Value.int IntKind.u8 1)] = [AC.u8 1#8] := rfl
    rw [mrep, this, lay1]; exact flat_u8 _
  (repeat' (first | exact trivial | exact flat_u8 _ | exact flatA _ | exact allU8_map _ | exact Nat.le_refl _ | refine And.intro ?_ ?_)) <;> (first | omega | exact z | (unfold in64; omega) | exact List.length_map _ | (show Is _ _ _; exact rfl) | skip)
  exact ⟨K⟩

/-! round keys -/
theorem E_get (key : List (BitVec 8)) {j : Nat} (h : j < 176) : (exL key 176).getD j 0 = eat key j := exL_get key j 176 h
theorem rkF_get (key : List (BitVec 8)) {n k : Nat} (hn : n ≤ 10) (hk : k < 16) : (rkF key n).getD k 0 = eat key (16 * n + k) := by
  unfold rkF
  rw [← E_get key (by omega), List.getD_eq_getElem?_getD, List.getD_eq_getElem?_getD, List.getElem?_take_of_lt hk, List.getElem?_drop]
theorem cutT {α : Type} (t l : List α) {a b m : Nat} (h : a + b ≤ m) (hm : m ≤ t.length) : ((t.take m ++ l.drop m).drop a).take b = (t.drop a).take b := by
  have h1 : (t.take m).length = m := by rw [List.length_take]; omega
  rw [List.drop_append_of_le_length (by omega), List.take_append_of_le_length (by rw [List.length_drop]; omega), List.drop_take, List.take_take, Nat.min_eq_left (by omega)]
theorem take_set_ge {α : Type} (t : List α) (x : α) {a m : Nat} (h : m ≤ a) : (t.set a x).take m = t.take m := by
  rw [List.take_set, List.set_eq_of_length_le (by rw [List.length_take]; omega)]
theorem set_back {α : Type} (t l : List α) (x d : α) {a m : Nat} (h : a < m) (hm : m ≤ t.length) : ((t.set a x).take m ++ l.drop m).set a (t.getD a d) = t.take m ++ l.drop m := by
  have h1 : ((t.set a x).take m).length = m := by rw [List.length_take, List.length_set]; omega
  rw [List.set_append, if_pos (by omega), List.take_set, List.set_set]
  congr 1
  rw [List.getD_eq_getElem?_getD, List.getElem?_eq_getElem (by omega)]
  show (t.take m).set a t[a] = _
  have : (t.take m)[a]'(by rw [List.length_take]; omega) = t[a] := List.getElem_take
  rw [← this, List.set_getElem_self]
theorem gt_box' (c : BitVec 8) : gt AC.any (boxT.map AC.u8) c.toNat = .u8 (bx c) := gt_u8_at _ _ (by rw [boxT_len]; exact c.isLt)
theorem oix (i k : Nat) : 16 * i + Int.toNat (k : Int) * 1 = 16 * i + k := by omega

/-- the round keys' bytes that are there, of the program's -/
def SE (key : List (BitVec 8)) (m : Nat) : List (BitVec 8) := (exL key 176).take m ++ (List.replicate 176 0).drop m
theorem SE_len (key : List (BitVec 8)) (m : Nat) : (SE key m).length = 176 := by
  unfold SE
  rw [lenT _ _ (by rw [exL_len, List.length_replicate]), List.length_replicate]
theorem SE_get (key : List (BitVec 8)) {m j : Nat} (h : j < m) (hm : m ≤ 176) : (SE key m).getD j 0 = eat key j := by
  unfold SE
  rw [getT_new _ _ _ (by rw [exL_len]; exact hm) h, E_get key (by omega)]
theorem SE_set (key : List (BitVec 8)) {m : Nat} (h : m < 176) : (SE key m).set m (eat key m) = SE key (m + 1) := by
  have := setT (exL key 176) (List.replicate 176 0) 0 (i := m) (by rw [exL_len]; exact h) (by rw [exL_len, List.length_replicate])
  rw [E_get key h] at this
  exact this
theorem SE_cut (key : List (BitVec 8)) {n : Nat} (h : n ≤ 10) : ((SE key (16 * (n + 1))).drop (16 * n)).take 16 = rkF key n := by
  unfold SE rkF
  exact cutT _ _ (by omega) (by rw [exL_len]; omega)
theorem SE_end (key : List (BitVec 8)) : SE key 176 = exL key 176 := by
  unfold SE
  have := endT (exL key 176) (List.replicate 176 0) (by rw [exL_len, List.length_replicate])
  rw [exL_len] at this
  exact this
/-- the same, with byte a another one -/
def SX (key : List (BitVec 8)) (a : Nat) (x : BitVec 8) (m : Nat) : List (BitVec 8) := ((exL key 176).set a x).take m ++ (List.replicate 176 0).drop m
theorem SX_len (key : List (BitVec 8)) (a : Nat) (x : BitVec 8) (m : Nat) : (SX key a x m).length = 176 := by
  unfold SX
  rw [lenT _ _ (by rw [List.length_set, exL_len, List.length_replicate]), List.length_replicate]
theorem SX_set0 (key : List (BitVec 8)) {a : Nat} (x : BitVec 8) (h : a < 176) : (SE key a).set a x = SX key a x (a + 1) := by
  have := setT ((exL key 176).set a x) (List.replicate 176 0) 0 (i := a) (by rw [List.length_set, exL_len]; exact h) (by rw [List.length_set, exL_len, List.length_replicate])
  rw [getD_set_eq _ _ _ _ (by rw [exL_len]; exact h), take_set_ge _ _ (Nat.le_refl _)] at this
  exact this
theorem SX_set (key : List (BitVec 8)) {a m : Nat} (x : BitVec 8) (h : m < 176) (ha : a < m) : (SX key a x m).set m (eat key m) = SX key a x (m + 1) := by
  have := setT ((exL key 176).set a x) (List.replicate 176 0) 0 (i := m) (by rw [List.length_set, exL_len]; exact h) (by rw [List.length_set, exL_len, List.length_replicate])
  rw [getD_set_ne _ _ _ _ _ (by omega), E_get key h] at this
  exact this
theorem SX_at (key : List (BitVec 8)) {a m : Nat} (x : BitVec 8) (ha : a < m) (h : m ≤ 176) : (SX key a x m).getD a 0 = x := by
  unfold SX
  rw [getT_new _ _ _ (by rw [List.length_set, exL_len]; exact h) ha, getD_set_eq _ _ _ _ (by rw [exL_len]; omega)]
theorem SX_back (key : List (BitVec 8)) {a m : Nat} (x : BitVec 8) (ha : a < m) (h : m ≤ 176) : (SX key a x m).set a (eat key a) = SE key m := by
  have := set_back (exL key 176) (List.replicate 176 0) x 0 (a := a) (m := m) ha (by rw [exL_len]; exact h)
  rw [E_get key (by omega)] at this
  exact this
theorem l102c {X : Ctx} (hX : X.P = Try.prog) (key : List (BitVec 8)) (n : Nat) (hn : n < 10)
    (K : KRun X 102 0 (Is (.agg ((exL key 176).map AC.u8))) (kOf Try.f102 0) (mkS 73 [(2, .one (.ptr 0 0)), (3, .one (.ptr 1 0)), (4, .one (.ptr 2 0)), (5, .one (.u8 (pwF (n + 1)))), (6, .one (.i64 (n + 1 + 1 : Nat)))]) [some (List.replicate 176 (AC.u8 0)), some (boxT.map AC.u8), some ((SE key (16 * (n + 1) + 16)).map AC.u8)]) : ∀ (d k : Nat), k + d = 16 → 4 ≤ k →
    KRun X 102 0 (Is (.agg ((exL key 176).map AC.u8))) (kOf Try.f102 2) (mkS 73 [(2, .one (.ptr 0 0)), (3, .one (.ptr 1 0)), (4, .one (.ptr 2 0)), (5, .one (.u8 (pwF (n + 1)))), (6, .one (.i64 (n + 1 : Nat))), (7, .one (.ptr 3 0)), (8, .one (.ptr 2 (16 * (n + 1)))), (10, .one (.i64 k))])
      [some (List.replicate 176 (AC.u8 0)), some (boxT.map AC.u8), some ((SE key (16 * (n + 1) + k)).map AC.u8), some ((rkF key n).map AC.u8)] := by
  have z : Flat (List.replicate 176 (AC.u8 0)) := by rw [mrep]; exact flat_u8 _
  have hr := rkF_len key (n := n) (by omega)
  intro d
  induction d with
  | zero =>
    intro k hk h4
    have hk : k = 16 := by omega
    subst hk
    refine vc102c hX _ _ _ _ _ _ _ _ ⟨fun h => absurd (of_decide_eq_true h) (by omega), fun _ => ?_⟩
    (repeat' (first | exact trivial | exact flat_u8 _ | exact flatA _ | exact allU8_map _ | exact Nat.le_refl _ | refine And.intro ?_ ?_)) <;> (first | omega | exact z | (unfold in64; omega) | exact List.length_map _ | (show Is _ _ _; exact rfl) | skip)
    exact ⟨K⟩
  | succ d ih =>
    intro k hk h4
    have ih := ih (k + 1) (by omega) (by omega)
    have hg := gt_u8_at (rkF key n) k (by omega)
    rw [rkF_get key (by omega) (by omega)] at hg
    have hg2 := gt_u8_at (SE key (16 * (n + 1) + k)) (16 * (n + 1) + (k - 4)) (by rw [SE_len]; omega)
    rw [SE_get key (by omega) (by omega)] at hg2
    have e4 : (k : Int) - 4 = ((k - 4 : Nat) : Int) := by omega
    have ev := eat_hi key (n := n + 1) (k := k) h4 (by omega) (by omega)
    rw [Nat.add_sub_cancel] at ev
    have hs := SE_set key (m := 16 * (n + 1) + k) (by omega)
    have hl := SE_len key (16 * (n + 1) + k)
    refine vc102c hX _ _ _ _ _ _ _ _ ⟨fun _ => ?_, fun h => absurd (of_decide_eq_false h) (by omega)⟩
    rw [e4]
    simp only [ixn, oix, hg, hg2, asU8, ← ev, lay1, hs, List.length_map, hl]
    (repeat' (first | exact trivial | exact flat_u8 _ | exact flatA _ | exact allU8_map _ | exact Nat.le_refl _ | refine And.intro ?_ ?_)) <;> (first | omega | exact z | (unfold in64; omega) | exact List.length_map _ | (show Is _ _ _; exact rfl) | skip)
    exact ⟨ih⟩
theorem l102b {X : Ctx} (hX : X.P = Try.prog) (key : List (BitVec 8)) (n : Nat) (hn : n < 10)
    (K : KRun X 102 0 (Is (.agg ((exL key 176).map AC.u8))) (kOf Try.f102 0) (mkS 73 [(2, .one (.ptr 0 0)), (3, .one (.ptr 1 0)), (4, .one (.ptr 2 0)), (5, .one (.u8 (pwF (n + 1)))), (6, .one (.i64 (n + 1 + 1 : Nat)))]) [some (List.replicate 176 (AC.u8 0)), some (boxT.map AC.u8), some ((SE key (16 * (n + 1) + 16)).map AC.u8)]) : ∀ (d k : Nat), k + 1 + d = 4 →
    KRun X 102 0 (Is (.agg ((exL key 176).map AC.u8))) (kOf Try.f102 1) (mkS 73 [(2, .one (.ptr 0 0)), (3, .one (.ptr 1 0)), (4, .one (.ptr 2 0)), (5, .one (.u8 (pwF n))), (6, .one (.i64 (n + 1 : Nat))), (7, .one (.ptr 3 0)), (8, .one (.ptr 2 (16 * (n + 1)))), (24, .one (.i64 (k + 1 : Nat)))])
      [some (List.replicate 176 (AC.u8 0)), some (boxT.map AC.u8), some ((SX key (16 * (n + 1)) (eat key (16 * (n + 1)) ^^^ pwF n) (16 * (n + 1) + (k + 1))).map AC.u8), some ((rkF key n).map AC.u8)] := by
  have z : Flat (List.replicate 176 (AC.u8 0)) := by rw [mrep]; exact flat_u8 _
  have hr := rkF_len key (n := n) (by omega)
  intro d
  induction d with
  | zero =>
    intro k hk
    have hk : k = 3 := by omega
    subst hk
    have hg := gt_u8_at (SX key (16 * (n + 1)) (eat key (16 * (n + 1)) ^^^ pwF n) (16 * (n + 1) + (3 + 1))) (16 * (n + 1)) (by rw [SX_len]; omega)
    rw [SX_at key _ (by omega) (by omega)] at hg
    have hb := SX_back key (a := 16 * (n + 1)) (m := 16 * (n + 1) + (3 + 1)) (eat key (16 * (n + 1)) ^^^ pwF n) (by omega) (by omega)
    have hl := SX_len key (16 * (n + 1)) (eat key (16 * (n + 1)) ^^^ pwF n) (16 * (n + 1) + (3 + 1))
    have ex : eat key (16 * (n + 1)) ^^^ pwF n ^^^ pwF n = eat key (16 * (n + 1)) := by rw [BitVec.xor_assoc, BitVec.xor_self, BitVec.xor_zero]
    have K := l102c hX key n hn K 12 4 rfl (Nat.le_refl _)
    refine vc102b hX _ _ _ _ _ _ _ _ ⟨fun h => absurd (of_decide_eq_true h) (by omega), fun _ => ?_⟩
    simp only [Nat.add_zero, hg, asU8, ex, lay1, hb, List.length_map, hl]
    have ep : xt (pwF n) = pwF (n + 1) := rfl
    rw [ep]
    (repeat' (first | exact trivial | exact flat_u8 _ | exact flatA _ | exact allU8_map _ | exact Nat.le_refl _ | refine And.intro ?_ ?_)) <;> (first | omega | exact z | (unfold in64; omega) | exact List.length_map _ | (show Is _ _ _; exact rfl) | skip)
    exact ⟨K⟩
  | succ d ih =>
    intro k hk
    have ih := ih (k + 1) (by omega)
    have hg := gt_u8_at (rkF key n) (k + 1) (by omega)
    rw [rkF_get key (by omega) (by omega)] at hg
    have hg2 := gt_u8_at (rkF key n) (12 + (k + 1 + 1) % 4) (by omega)
    rw [rkF_get key (by omega) (by omega)] at hg2
    have ev := eat_box key (n := n + 1) (k := k + 1) (by omega) (by omega)
    rw [Nat.add_sub_cancel, if_neg (by omega), BitVec.xor_zero] at ev
    have hs := SX_set key (a := 16 * (n + 1)) (m := 16 * (n + 1) + (k + 1)) (eat key (16 * (n + 1)) ^^^ pwF n) (by omega) (by omega)
    have hl := SX_len key (16 * (n + 1)) (eat key (16 * (n + 1)) ^^^ pwF n) (16 * (n + 1) + (k + 1))
    have e3 : (12 : Int) + bits64 .and (((k + 1 : Nat) : Int) + 1) 3 = ((12 + (k + 1 + 1) % 4 : Nat) : Int) := by
      rw [show ((k + 1 : Nat) : Int) + 1 = ((k + 1 + 1 : Nat) : Int) by omega, and3 _ (by omega)]; omega
    refine vc102b hX _ _ _ _ _ _ _ _ ⟨fun _ => ?_, fun h => absurd (of_decide_eq_false h) (by omega)⟩
    rw [e3]
    simp only [ixn, oix, hg, hg2, asU8, gt_box, gt_box']
    simp only [← ev, lay1, hs, List.length_map, hl]
    (repeat' (first | exact trivial | exact flat_u8 _ | exact flatA _ | exact allU8_map _ | exact Nat.le_refl _ | refine And.intro ?_ ?_)) <;> (first | omega | exact z | (unfold in64; omega) | exact List.length_map _ | (show Is _ _ _; exact rfl) | skip)
    exact ⟨ih⟩
theorem l102b0 {X : Ctx} (hX : X.P = Try.prog) (key : List (BitVec 8)) (n : Nat) (hn : n < 10)
    (K : KRun X 102 0 (Is (.agg ((exL key 176).map AC.u8))) (kOf Try.f102 0) (mkS 73 [(2, .one (.ptr 0 0)), (3, .one (.ptr 1 0)), (4, .one (.ptr 2 0)), (5, .one (.u8 (pwF (n + 1)))), (6, .one (.i64 (n + 1 + 1 : Nat)))]) [some (List.replicate 176 (AC.u8 0)), some (boxT.map AC.u8), some ((SE key (16 * (n + 1) + 16)).map AC.u8)]) :
    KRun X 102 0 (Is (.agg ((exL key 176).map AC.u8))) (kOf Try.f102 1) (mkS 73 [(2, .one (.ptr 0 0)), (3, .one (.ptr 1 0)), (4, .one (.ptr 2 0)), (5, .one (.u8 (pwF n))), (6, .one (.i64 (n + 1 : Nat))), (7, .one (.ptr 3 0)), (8, .one (.ptr 2 (16 * (n + 1)))), (24, .one (.i64 0))])
      [some (List.replicate 176 (AC.u8 0)), some (boxT.map AC.u8), some ((SE key (16 * (n + 1))).map AC.u8), some ((rkF key n).map AC.u8)] := by
  have z : Flat (List.replicate 176 (AC.u8 0)) := by rw [mrep]; exact flat_u8 _
  have hr := rkF_len key (n := n) (by omega)
  have K := l102b hX key n hn K 3 0 rfl
  have hg := gt_u8_at (rkF key n) 0 (by omega)
  rw [rkF_get key (by omega) (by omega)] at hg
  have hg2 := gt_u8_at (rkF key n) 13 (by omega)
  rw [rkF_get key (by omega) (by omega)] at hg2
  have ev := eat_box key (n := n + 1) (k := 0) (by omega) (by omega)
  rw [Nat.add_sub_cancel, if_pos rfl, Nat.add_zero] at ev
  have ev2 : eat key (16 * n + 0) ^^^ bx (eat key (16 * n + 13)) = eat key (16 * (n + 1)) ^^^ pwF n := by
    rw [ev, BitVec.xor_assoc _ (pwF n), BitVec.xor_self, BitVec.xor_zero]
  have hs := SX_set0 key (a := 16 * (n + 1)) (eat key (16 * (n + 1)) ^^^ pwF n) (by omega)
  have hl := SE_len key (16 * (n + 1))
  have e3 : (12 : Int) + bits64 .and ((0 : Int) + 1) 3 = ((13 : Nat) : Int) := by decide
  have i0 : 0 + Int.toNat 0 * 1 = 0 := rfl
  have o0 : 16 * (n + 1) + Int.toNat 0 * 1 = 16 * (n + 1) := by omega
  refine vc102b hX _ _ _ _ _ _ _ _ ⟨fun _ => ?_, fun h => absurd (of_decide_eq_false h) (by decide)⟩
  rw [e3]
  simp only [ixn, i0, o0, hg, hg2, asU8, gt_box, gt_box']
  simp only [ev2, lay1, hs, List.length_map, hl]
  (repeat' (first | exact trivial | exact flat_u8 _ | exact flatA _ | exact allU8_map _ | exact Nat.le_refl _ | refine And.intro ?_ ?_)) <;> (first | omega | exact z | (unfold in64; omega) | exact List.length_map _ | (show Is _ _ _; exact rfl) | skip)
  exact ⟨K⟩
theorem l102a {X : Ctx} (hX : X.P = Try.prog) (key : List (BitVec 8)) : ∀ (d n : Nat), n + d = 10 →
    KRun X 102 0 (Is (.agg ((exL key 176).map AC.u8))) (kOf Try.f102 0) (mkS 73 [(2, .one (.ptr 0 0)), (3, .one (.ptr 1 0)), (4, .one (.ptr 2 0)), (5, .one (.u8 (pwF n))), (6, .one (.i64 (n + 1 : Nat)))]) [some (List.replicate 176 (AC.u8 0)), some (boxT.map AC.u8), some ((SE key (16 * n + 16)).map AC.u8)] := by
  have z : Flat (List.replicate 176 (AC.u8 0)) := by rw [mrep]; exact flat_u8 _
  intro d
  induction d with
  | zero =>
    intro n hn
    have hn : n = 10 := by omega
    subst hn
    have e : SE key (16 * 10 + 16) = exL key 176 := SE_end key
    have hl := exL_len key 176
    refine vc102a hX _ _ _ _ _ ⟨fun h => absurd (of_decide_eq_true h) (by omega), fun _ => ?_⟩
    rw [e]
    simp only [hide_eq, tkm, tk0, map_as8, layR, layC, layM, lay1, tkn, List.drop_zero, Nat.zero_add, Nat.mul_one, Nat.reduceAdd, Nat.le_refl, Nat.min_self, Nat.reduceLeDiff, same_self, Int.toNat_natCast, List.length_map, List.length_append, List.length_replicate, List.length_take, List.length_drop, tab16_len, hl]
    (repeat' (first | exact trivial | exact flat_u8 _ | exact flatA _ | exact allU8_map _ | exact Nat.le_refl _ | refine And.intro ?_ ?_)) <;> (first | omega | exact z | (unfold in64; omega) | exact List.length_map _ | (show Is _ _ _; exact rfl) | skip)
  | succ d ih =>
    intro n hn
    have K := l102b0 hX key n (by omega) (ih (n + 1) (by omega))
    have hl := SE_len key (16 * (n + 1))
    have ei : ((n + 1 : Nat) : Int) - 1 = (n : Int) := by omega
    have e16 : 0 + Int.toNat (n : Int) * 16 = 16 * n := by omega
    have e17 : 0 + Int.toNat ((n + 1 : Nat) : Int) * 16 = 16 * (n + 1) := by omega
    have ec := SE_cut key (n := n) (by omega)
    have hr := rkF_len key (n := n) (by omega)
    refine vc102a hX _ _ _ _ _ ⟨fun _ => ?_, fun h => absurd (of_decide_eq_false h) (by omega)⟩
    rw [ei, e16, e17, show 16 * n + 16 = 16 * (n + 1) by omega]
    simp only [tkm, ec, layR _ _ hr, List.length_map, hl, hr]
    (repeat' (first | exact trivial | exact flat_u8 _ | exact flatA _ | exact allU8_map _ | exact Nat.le_refl _ | refine And.intro ?_ ?_)) <;> (first | omega | exact z | (unfold in64; omega) | exact List.length_map _ | (show Is _ _ _; exact rfl) | skip)
    exact ⟨K⟩
theorem s102 (key : List (BitVec 8)) (hk : key.length = 16) : Spec Try.prog 102 [.agg (key.map AC.u8)] [] (Is (.agg ((exL key 176).map AC.u8))) := by
  refine Spec.of_run ok102 fun X hX => vc102 hX _ ?_
  have K := l102a hX key 10 0 rfl
  have z : Flat (List.replicate 176 (AC.u8 0)) := by rw [mrep]; exact flat_u8 _
  have hk2 : key.take 16 = key := List.take_of_length_le (by omega)
  have e : layS (List.replicate 176 (AC.u8 0)) 0 (key.map AC.u8) = (SE key (16 * 0 + 16)).map AC.u8 := by
    have : 0 + (key.map AC.u8).length ≤ (List.replicate 176 (AC.u8 0)).length := by rw [List.length_map, List.length_replicate]; omega
    have ek : (exL key 176).take 16 = key := by
      apply List.ext_getElem (by rw [List.length_take, exL_len, hk]; omega)
      intro j h1 h2
      have := eat_lo key (j := j) (by omega)
      rw [← E_get key (by omega), List.getD_eq_getElem?_getD, List.getD_eq_getElem?_getD, List.getElem?_eq_getElem h2, List.getElem?_eq_getElem (by rw [exL_len]; omega)] at this
      rw [List.getElem_take]
      exact this
    have es : SE key (16 * 0 + 16) = key ++ List.replicate (176 - 16) 0 := by
      unfold SE
      rw [show 16 * 0 + 16 = 16 by omega, ek, List.drop_replicate]
    rw [layS_eq this, layC, es, hk]
  simp only [hide_eq, tkm, tk0, List.drop_zero, hk2, layR _ _ boxT_len, e]
  simp only [List.length_map, hk, boxT_len]
  (repeat' (first | exact trivial | exact flat_u8 _ | exact flatA _ | exact allU8_map _ | exact Nat.le_refl _ | refine And.intro ?_ ?_)) <;> (first | omega | exact z | (unfold in64; omega) | exact List.length_map _ | (show Is _ _ _; exact rfl) | skip)
  exact ⟨K⟩
end DH
