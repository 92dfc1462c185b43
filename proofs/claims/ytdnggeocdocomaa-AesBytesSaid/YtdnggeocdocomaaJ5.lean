/- Walks of functions, each by evaluation: what each returns. -/
import Derived.Test.YtdnggeocdocomaaJ4
set_option linter.unusedVariables false
set_option linter.unusedSimpArgs false
noncomputable section
namespace DH
open Go Go.Proofs
set_option maxRecDepth 100000 in
theorem vc53e {X : Ctx} {Q : AV → Mem → Prop} (hX : X.P = Try.prog) (ks bs : List AC) (h : Flat ks ∧ Flat bs ∧ Flat (List.replicate 176 (AC.u8 (0 : BitVec 8))) ∧ Flat (List.replicate 176 (AC.u8 (0 : BitVec 8))) ∧ KR X 53 0 Q (kOf Try.f53 0) (mkS 113 [(2, AV.one (AC.ptr 0 0)), (3, AV.one (AC.ptr 1 0)), (4, AV.one (AC.ptr 2 0)), (5, AV.one (AC.ptr 3 0)), (6, AV.one (AC.u8 (BitVec.ofInt 8 (1 : Int)))), (7, AV.one (AC.i64 (0 : Int)))]) [some ks, some bs, some (List.replicate 176 (AC.u8 (0 : BitVec 8))), some (List.replicate 176 (AC.u8 (0 : BitVec 8)))]) : KRun X 53 0 Q ([.code (bodyOf Try.f53)]) (slots [.agg ks, .agg bs] Try.f53.ntmps) [] :=
  wpRun_ok (hX ▸ baseK_ok T13 mf13 M13) (hX ▸ baseK_call T13_ok M13_ok) (hX ▸ mixed) (hX ▸ ok53) LK_ok (cast (β := wpRun (baseK T13 mf13 M13) [13, 17, 21, 34, 74, 78, 91, 95] [(10, 10), (12, 21), (13, 17), (15, 8), (24, 14)] false (RS.mk Try.f53.results.toList 0 (CS.mk [] [] [0] [])) (LK X 53 0 Q true [(4, LS.mk [2, 3, 4, 5, 6, 7] (CS.mk [] [true, true, true, true] [] [])), (7, LS.mk [2, 3, 4, 5, 6, 7, 8] (CS.mk [] [true, true, true, true] [] [])), (19, LS.mk [4, 5, 9, 10] (CS.mk [] [true, true, true] [] [])), (22, LS.mk [4, 5, 9, 10, 11] (CS.mk [] [true, true, true] [] []))]) Q 2000 ([.code (bodyOf Try.f53)]) (slots [.agg ks, .agg bs] Try.f53.ntmps) []) (by kernel_rfl) h)
set_option maxRecDepth 100000 in
theorem vc53a {X : Ctx} {Q : AV → Mem → Prop} (hX : X.P = Try.prog) (ks bs zs ws : List AC) (p : BitVec 8) (i : Int) (h : (decide (i < (44 : Int)) = true → Flat ks ∧ Flat bs ∧ Flat zs ∧ Flat ws ∧ KR X 53 0 Q (kOf Try.f53 1) (mkS 113 [(2, AV.one (AC.ptr 0 0)), (3, AV.one (AC.ptr 1 0)), (4, AV.one (AC.ptr 2 0)), (5, AV.one (AC.ptr 3 0)), (6, AV.one (AC.u8 p)), (7, AV.one (AC.i64 i)), (8, AV.one (AC.i64 (0 : Int)))]) [some ks, some bs, some zs, some ws]) ∧ (decide (i < (44 : Int)) = false → Flat zs ∧ Flat ws ∧ Flat (List.replicate 176 (AC.u8 (0 : BitVec 8))) ∧ KR X 53 0 Q (kOf Try.f53 2) (mkS 113 [(4, AV.one (AC.ptr 0 0)), (5, AV.one (AC.ptr 1 0)), (9, AV.one (AC.ptr 2 0)), (10, AV.one (AC.i64 (0 : Int)))]) [some zs, some ws, some (List.replicate 176 (AC.u8 (0 : BitVec 8)))])) : KRun X 53 0 Q (kOf Try.f53 0) (mkS 113 [(2, .one (.ptr 0 0)), (3, .one (.ptr 1 0)), (4, .one (.ptr 2 0)), (5, .one (.ptr 3 0)), (6, .one (.u8 p)), (7, .one (.i64 i))]) [some ks, some bs, some zs, some ws] :=
  wpRun_ok (hX ▸ baseK_ok T13 mf13 M13) (hX ▸ baseK_call T13_ok M13_ok) (hX ▸ mixed) (hX ▸ ok53) LK_ok (cast (β := wpRun (baseK T13 mf13 M13) [13, 17, 21, 34, 74, 78, 91, 95] [(10, 10), (12, 21), (13, 17), (15, 8), (24, 14)] false (RS.mk Try.f53.results.toList 0 (CS.mk [] [] [0] [])) (LK X 53 0 Q true [(4, LS.mk [2, 3, 4, 5, 6, 7] (CS.mk [] [true, true, true, true] [] [])), (7, LS.mk [2, 3, 4, 5, 6, 7, 8] (CS.mk [] [true, true, true, true] [] [])), (19, LS.mk [4, 5, 9, 10] (CS.mk [] [true, true, true] [] [])), (22, LS.mk [4, 5, 9, 10, 11] (CS.mk [] [true, true, true] [] []))]) Q 2000 (kOf Try.f53 0) (mkS 113 [(2, .one (.ptr 0 0)), (3, .one (.ptr 1 0)), (4, .one (.ptr 2 0)), (5, .one (.ptr 3 0)), (6, .one (.u8 p)), (7, .one (.i64 i))]) [some ks, some bs, some zs, some ws]) (by kernel_rfl) h)
set_option maxRecDepth 100000 in
theorem vc53b {X : Ctx} {Q : AV → Mem → Prop} (hX : X.P = Try.prog) (ks bs zs ws : List AC) (p : BitVec 8) (i k : Int) (h : (decide (k < (4 : Int)) = true → (decide (i < (4 : Int)) = true → in64 ((4 : Int) * i) ∧ in64 ((4 : Int) * i + k) ∧ ((0 : Int) ≤ (4 : Int) * i + k ∧ (4 : Int) * i + k < (↑16 : Int)) ∧ gt AC.any ks (0 + Int.toNat ((4 : Int) * i + k) * 1) = AC.u8 (asU8 (gt AC.any ks (0 + Int.toNat ((4 : Int) * i + k) * 1))) ∧ ((0 : Int) ≤ i ∧ i < (↑44 : Int)) ∧ ((0 : Int) ≤ k ∧ k < (↑4 : Int)) ∧ (1 = 1 ∧ 0 + Int.toNat i * 4 + Int.toNat k * 1 + 1 ≤ List.length ws) ∧ in64 (k + (1 : Int)) ∧ Flat ks ∧ Flat bs ∧ Flat zs ∧ Flat (layS ws (0 + Int.toNat i * 4 + Int.toNat k * 1) [AC.u8 (asU8 (gt AC.any ks (0 + Int.toNat ((4 : Int) * i + k) * 1)))]) ∧ KR X 53 0 Q (kOf Try.f53 1) (mkS 113 [(2, AV.one (AC.ptr 0 0)), (3, AV.one (AC.ptr 1 0)), (4, AV.one (AC.ptr 2 0)), (5, AV.one (AC.ptr 3 0)), (6, AV.one (AC.u8 p)), (7, AV.one (AC.i64 i)), (8, AV.one (AC.i64 (k + (1 : Int))))]) [some ks, some bs, some zs, some (layS ws (0 + Int.toNat i * 4 + Int.toNat k * 1) [AC.u8 (asU8 (gt AC.any ks (0 + Int.toNat ((4 : Int) * i + k) * 1)))])]) ∧ (decide (i < (4 : Int)) = false → (4 : Int) ≠ (0 : Int) ∧ (decide (Int.tmod i (4 : Int) = (0 : Int)) = true → in64 (i - (4 : Int)) ∧ ((0 : Int) ≤ i - (4 : Int) ∧ i - (4 : Int) < (↑44 : Int)) ∧ ((0 : Int) ≤ k ∧ k < (↑4 : Int)) ∧ gt AC.any ws (0 + Int.toNat (i - (4 : Int)) * 4 + Int.toNat k * 1) = AC.u8 (asU8 (gt AC.any ws (0 + Int.toNat (i - (4 : Int)) * 4 + Int.toNat k * 1))) ∧ in64 (i - (1 : Int)) ∧ in64 (k + (1 : Int)) ∧ (4 : Int) ≠ (0 : Int) ∧ ((0 : Int) ≤ i - (1 : Int) ∧ i - (1 : Int) < (↑44 : Int)) ∧ ((0 : Int) ≤ Int.tmod (k + (1 : Int)) (4 : Int) ∧ Int.tmod (k + (1 : Int)) (4 : Int) < (↑4 : Int)) ∧ gt AC.any ws (0 + Int.toNat (i - (1 : Int)) * 4 + Int.toNat (Int.tmod (k + (1 : Int)) (4 : Int)) * 1) = AC.u8 (asU8 (gt AC.any ws (0 + Int.toNat (i - (1 : Int)) * 4 + Int.toNat (Int.tmod (k + (1 : Int)) (4 : Int)) * 1))) ∧ gt AC.any bs (0 + Int.toNat (↑(BitVec.toNat (asU8 (gt AC.any ws (0 + Int.toNat (i - (1 : Int)) * 4 + Int.toNat (Int.tmod (k + (1 : Int)) (4 : Int)) * 1)))) : Int) * 1) = AC.u8 (asU8 (gt AC.any bs (0 + Int.toNat (↑(BitVec.toNat (asU8 (gt AC.any ws (0 + Int.toNat (i - (1 : Int)) * 4 + Int.toNat (Int.tmod (k + (1 : Int)) (4 : Int)) * 1)))) : Int) * 1))) ∧ ((0 : Int) ≤ i ∧ i < (↑44 : Int)) ∧ ((0 : Int) ≤ k ∧ k < (↑4 : Int)) ∧ (1 = 1 ∧ 0 + Int.toNat i * 4 + Int.toNat k * 1 + 1 ≤ List.length ws) ∧ in64 (k + (1 : Int)) ∧ Flat ks ∧ Flat bs ∧ Flat zs ∧ Flat (layS ws (0 + Int.toNat i * 4 + Int.toNat k * 1) [AC.u8 (asU8 (gt AC.any ws (0 + Int.toNat (i - (4 : Int)) * 4 + Int.toNat k * 1)) ^^^ asU8 (gt AC.any bs (0 + Int.toNat (↑(BitVec.toNat (asU8 (gt AC.any ws (0 + Int.toNat (i - (1 : Int)) * 4 + Int.toNat (Int.tmod (k + (1 : Int)) (4 : Int)) * 1)))) : Int) * 1)))]) ∧ KR X 53 0 Q (kOf Try.f53 1) (mkS 113 [(2, AV.one (AC.ptr 0 0)), (3, AV.one (AC.ptr 1 0)), (4, AV.one (AC.ptr 2 0)), (5, AV.one (AC.ptr 3 0)), (6, AV.one (AC.u8 p)), (7, AV.one (AC.i64 i)), (8, AV.one (AC.i64 (k + (1 : Int))))]) [some ks, some bs, some zs, some (layS ws (0 + Int.toNat i * 4 + Int.toNat k * 1) [AC.u8 (asU8 (gt AC.any ws (0 + Int.toNat (i - (4 : Int)) * 4 + Int.toNat k * 1)) ^^^ asU8 (gt AC.any bs (0 + Int.toNat (↑(BitVec.toNat (asU8 (gt AC.any ws (0 + Int.toNat (i - (1 : Int)) * 4 + Int.toNat (Int.tmod (k + (1 : Int)) (4 : Int)) * 1)))) : Int) * 1)))])]) ∧ (decide (Int.tmod i (4 : Int) = (0 : Int)) = false → in64 (i - (4 : Int)) ∧ ((0 : Int) ≤ i - (4 : Int) ∧ i - (4 : Int) < (↑44 : Int)) ∧ ((0 : Int) ≤ k ∧ k < (↑4 : Int)) ∧ gt AC.any ws (0 + Int.toNat (i - (4 : Int)) * 4 + Int.toNat k * 1) = AC.u8 (asU8 (gt AC.any ws (0 + Int.toNat (i - (4 : Int)) * 4 + Int.toNat k * 1))) ∧ in64 (i - (1 : Int)) ∧ ((0 : Int) ≤ i - (1 : Int) ∧ i - (1 : Int) < (↑44 : Int)) ∧ ((0 : Int) ≤ k ∧ k < (↑4 : Int)) ∧ gt AC.any ws (0 + Int.toNat (i - (1 : Int)) * 4 + Int.toNat k * 1) = AC.u8 (asU8 (gt AC.any ws (0 + Int.toNat (i - (1 : Int)) * 4 + Int.toNat k * 1))) ∧ ((0 : Int) ≤ i ∧ i < (↑44 : Int)) ∧ ((0 : Int) ≤ k ∧ k < (↑4 : Int)) ∧ (1 = 1 ∧ 0 + Int.toNat i * 4 + Int.toNat k * 1 + 1 ≤ List.length ws) ∧ in64 (k + (1 : Int)) ∧ Flat ks ∧ Flat bs ∧ Flat zs ∧ Flat (layS ws (0 + Int.toNat i * 4 + Int.toNat k * 1) [AC.u8 (asU8 (gt AC.any ws (0 + Int.toNat (i - (4 : Int)) * 4 + Int.toNat k * 1)) ^^^ asU8 (gt AC.any ws (0 + Int.toNat (i - (1 : Int)) * 4 + Int.toNat k * 1)))]) ∧ KR X 53 0 Q (kOf Try.f53 1) (mkS 113 [(2, AV.one (AC.ptr 0 0)), (3, AV.one (AC.ptr 1 0)), (4, AV.one (AC.ptr 2 0)), (5, AV.one (AC.ptr 3 0)), (6, AV.one (AC.u8 p)), (7, AV.one (AC.i64 i)), (8, AV.one (AC.i64 (k + (1 : Int))))]) [some ks, some bs, some zs, some (layS ws (0 + Int.toNat i * 4 + Int.toNat k * 1) [AC.u8 (asU8 (gt AC.any ws (0 + Int.toNat (i - (4 : Int)) * 4 + Int.toNat k * 1)) ^^^ asU8 (gt AC.any ws (0 + Int.toNat (i - (1 : Int)) * 4 + Int.toNat k * 1)))])]))) ∧ (decide (k < (4 : Int)) = false → (decide ((4 : Int) ≤ i) = true → (4 : Int) ≠ (0 : Int) ∧ (decide (Int.tmod i (4 : Int) = (0 : Int)) = true → ((0 : Int) ≤ i ∧ i < (↑44 : Int)) ∧ ((0 : Int) ≤ (0 : Int) ∧ (0 : Int) < (↑4 : Int)) ∧ gt AC.any ws (0 + Int.toNat i * 4 + 0) = AC.u8 (asU8 (gt AC.any ws (0 + Int.toNat i * 4 + 0))) ∧ ((0 : Int) ≤ i ∧ i < (↑44 : Int)) ∧ ((0 : Int) ≤ (0 : Int) ∧ (0 : Int) < (↑4 : Int)) ∧ (1 = 1 ∧ 0 + Int.toNat i * 4 + 0 + 1 ≤ List.length ws) ∧ in64 (i + (1 : Int)) ∧ Flat ks ∧ Flat bs ∧ Flat zs ∧ Flat (layS ws (0 + Int.toNat i * 4 + 0) [AC.u8 (asU8 (gt AC.any ws (0 + Int.toNat i * 4 + 0)) ^^^ p)]) ∧ KR X 53 0 Q (kOf Try.f53 0) (mkS 113 [(2, AV.one (AC.ptr 0 0)), (3, AV.one (AC.ptr 1 0)), (4, AV.one (AC.ptr 2 0)), (5, AV.one (AC.ptr 3 0)), (6, AV.one (AC.u8 (tmF p (BitVec.ofInt 8 (2 : Int))))), (7, AV.one (AC.i64 (i + (1 : Int))))]) [some ks, some bs, some zs, some (layS ws (0 + Int.toNat i * 4 + 0) [AC.u8 (asU8 (gt AC.any ws (0 + Int.toNat i * 4 + 0)) ^^^ p)])]) ∧ (decide (Int.tmod i (4 : Int) = (0 : Int)) = false → in64 (i + (1 : Int)) ∧ Flat ks ∧ Flat bs ∧ Flat zs ∧ Flat ws ∧ KR X 53 0 Q (kOf Try.f53 0) (mkS 113 [(2, AV.one (AC.ptr 0 0)), (3, AV.one (AC.ptr 1 0)), (4, AV.one (AC.ptr 2 0)), (5, AV.one (AC.ptr 3 0)), (6, AV.one (AC.u8 p)), (7, AV.one (AC.i64 (i + (1 : Int))))]) [some ks, some bs, some zs, some ws])) ∧ (decide ((4 : Int) ≤ i) = false → in64 (i + (1 : Int)) ∧ Flat ks ∧ Flat bs ∧ Flat zs ∧ Flat ws ∧ KR X 53 0 Q (kOf Try.f53 0) (mkS 113 [(2, AV.one (AC.ptr 0 0)), (3, AV.one (AC.ptr 1 0)), (4, AV.one (AC.ptr 2 0)), (5, AV.one (AC.ptr 3 0)), (6, AV.one (AC.u8 p)), (7, AV.one (AC.i64 (i + (1 : Int))))]) [some ks, some bs, some zs, some ws]))) : KRun X 53 0 Q (kOf Try.f53 1) (mkS 113 [(2, .one (.ptr 0 0)), (3, .one (.ptr 1 0)), (4, .one (.ptr 2 0)), (5, .one (.ptr 3 0)), (6, .one (.u8 p)), (7, .one (.i64 i)), (8, .one (.i64 k))]) [some ks, some bs, some zs, some ws] :=
  wpRun_ok (hX ▸ baseK_ok T13 mf13 M13) (hX ▸ baseK_call T13_ok M13_ok) (hX ▸ mixed) (hX ▸ ok53) LK_ok (cast (β := wpRun (baseK T13 mf13 M13) [13, 17, 21, 34, 74, 78, 91, 95] [(10, 10), (12, 21), (13, 17), (15, 8), (24, 14)] false (RS.mk Try.f53.results.toList 0 (CS.mk [] [] [0] [])) (LK X 53 0 Q true [(4, LS.mk [2, 3, 4, 5, 6, 7] (CS.mk [] [true, true, true, true] [] [])), (7, LS.mk [2, 3, 4, 5, 6, 7, 8] (CS.mk [] [true, true, true, true] [] [])), (19, LS.mk [4, 5, 9, 10] (CS.mk [] [true, true, true] [] [])), (22, LS.mk [4, 5, 9, 10, 11] (CS.mk [] [true, true, true] [] []))]) Q 2000 (kOf Try.f53 1) (mkS 113 [(2, .one (.ptr 0 0)), (3, .one (.ptr 1 0)), (4, .one (.ptr 2 0)), (5, .one (.ptr 3 0)), (6, .one (.u8 p)), (7, .one (.i64 i)), (8, .one (.i64 k))]) [some ks, some bs, some zs, some ws]) (by kernel_rfl) h)

set_option maxRecDepth 100000 in
theorem vc53c {X : Ctx} {Q : AV → Mem → Prop} (hX : X.P = Try.prog) (zs ws os : List AC) (i : Int) (h : (decide (i < (44 : Int)) = true → Flat zs ∧ Flat ws ∧ Flat os ∧ KR X 53 0 Q (kOf Try.f53 3) (mkS 113 [(4, AV.one (AC.ptr 0 0)), (5, AV.one (AC.ptr 1 0)), (9, AV.one (AC.ptr 2 0)), (10, AV.one (AC.i64 i)), (11, AV.one (AC.i64 (0 : Int)))]) [some zs, some ws, some os]) ∧ (decide (i < (44 : Int)) = false → 176 ≤ List.length os ∧ (List.length (List.take 176 (List.drop 0 os)) = 176 ∧ 176 ≤ List.length zs) ∧ 176 ≤ List.length (layS zs 0 (List.take 176 (List.drop 0 os))) ∧ flatAV (AV.agg (List.take 176 (List.drop 0 (layS zs 0 (List.take 176 (List.drop 0 os)))))) ∧ Q (AV.agg (List.take 176 (List.drop 0 (layS zs 0 (List.take 176 (List.drop 0 os)))))) [])) : KRun X 53 0 Q (kOf Try.f53 2) (mkS 113 [(4, .one (.ptr 0 0)), (5, .one (.ptr 1 0)), (9, .one (.ptr 2 0)), (10, .one (.i64 i))]) [some zs, some ws, some os] :=
  wpRun_ok (hX ▸ baseK_ok T13 mf13 M13) (hX ▸ baseK_call T13_ok M13_ok) (hX ▸ mixed) (hX ▸ ok53) LK_ok (cast (β := wpRun (baseK T13 mf13 M13) [13, 17, 21, 34, 74, 78, 91, 95] [(10, 10), (12, 21), (13, 17), (15, 8), (24, 14)] false (RS.mk Try.f53.results.toList 0 (CS.mk [] [] [0] [])) (LK X 53 0 Q true [(4, LS.mk [2, 3, 4, 5, 6, 7] (CS.mk [] [true, true, true, true] [] [])), (7, LS.mk [2, 3, 4, 5, 6, 7, 8] (CS.mk [] [true, true, true, true] [] [])), (19, LS.mk [4, 5, 9, 10] (CS.mk [] [true, true, true] [] [])), (22, LS.mk [4, 5, 9, 10, 11] (CS.mk [] [true, true, true] [] []))]) Q 2000 (kOf Try.f53 2) (mkS 113 [(4, .one (.ptr 0 0)), (5, .one (.ptr 1 0)), (9, .one (.ptr 2 0)), (10, .one (.i64 i))]) [some zs, some ws, some os]) (by kernel_rfl) h)
set_option maxRecDepth 100000 in
theorem vc53d {X : Ctx} {Q : AV → Mem → Prop} (hX : X.P = Try.prog) (zs ws os : List AC) (i k : Int) (h : (decide (k < (4 : Int)) = true → ((4 : Int) ≠ (0 : Int) ∧ in64 (Int.tdiv i (4 : Int))) ∧ (4 : Int) ≠ (0 : Int) ∧ in64 (Int.tmod i (4 : Int) * (4 : Int)) ∧ in64 (Int.tmod i (4 : Int) * (4 : Int) + k) ∧ ((0 : Int) ≤ i ∧ i < (↑44 : Int)) ∧ ((0 : Int) ≤ k ∧ k < (↑4 : Int)) ∧ gt AC.any ws (0 + Int.toNat i * 4 + Int.toNat k * 1) = AC.u8 (asU8 (gt AC.any ws (0 + Int.toNat i * 4 + Int.toNat k * 1))) ∧ ((0 : Int) ≤ Int.tdiv i (4 : Int) ∧ Int.tdiv i (4 : Int) < (↑11 : Int)) ∧ ((0 : Int) ≤ Int.tmod i (4 : Int) * (4 : Int) + k ∧ Int.tmod i (4 : Int) * (4 : Int) + k < (↑16 : Int)) ∧ (1 = 1 ∧ 0 + Int.toNat (Int.tdiv i (4 : Int)) * 16 + Int.toNat (Int.tmod i (4 : Int) * (4 : Int) + k) * 1 + 1 ≤ List.length os) ∧ in64 (k + (1 : Int)) ∧ Flat zs ∧ Flat ws ∧ Flat (layS os (0 + Int.toNat (Int.tdiv i (4 : Int)) * 16 + Int.toNat (Int.tmod i (4 : Int) * (4 : Int) + k) * 1) [AC.u8 (asU8 (gt AC.any ws (0 + Int.toNat i * 4 + Int.toNat k * 1)))]) ∧ KR X 53 0 Q (kOf Try.f53 3) (mkS 113 [(4, AV.one (AC.ptr 0 0)), (5, AV.one (AC.ptr 1 0)), (9, AV.one (AC.ptr 2 0)), (10, AV.one (AC.i64 i)), (11, AV.one (AC.i64 (k + (1 : Int))))]) [some zs, some ws, some (layS os (0 + Int.toNat (Int.tdiv i (4 : Int)) * 16 + Int.toNat (Int.tmod i (4 : Int) * (4 : Int) + k) * 1) [AC.u8 (asU8 (gt AC.any ws (0 + Int.toNat i * 4 + Int.toNat k * 1)))])]) ∧ (decide (k < (4 : Int)) = false → in64 (i + (1 : Int)) ∧ Flat zs ∧ Flat ws ∧ Flat os ∧ KR X 53 0 Q (kOf Try.f53 2) (mkS 113 [(4, AV.one (AC.ptr 0 0)), (5, AV.one (AC.ptr 1 0)), (9, AV.one (AC.ptr 2 0)), (10, AV.one (AC.i64 (i + (1 : Int))))]) [some zs, some ws, some os])) : KRun X 53 0 Q (kOf Try.f53 3) (mkS 113 [(4, .one (.ptr 0 0)), (5, .one (.ptr 1 0)), (9, .one (.ptr 2 0)), (10, .one (.i64 i)), (11, .one (.i64 k))]) [some zs, some ws, some os] :=
  wpRun_ok (hX ▸ baseK_ok T13 mf13 M13) (hX ▸ baseK_call T13_ok M13_ok) (hX ▸ mixed) (hX ▸ ok53) LK_ok (cast (β := wpRun (baseK T13 mf13 M13) [13, 17, 21, 34, 74, 78, 91, 95] [(10, 10), (12, 21), (13, 17), (15, 8), (24, 14)] false (RS.mk Try.f53.results.toList 0 (CS.mk [] [] [0] [])) (LK X 53 0 Q true [(4, LS.mk [2, 3, 4, 5, 6, 7] (CS.mk [] [true, true, true, true] [] [])), (7, LS.mk [2, 3, 4, 5, 6, 7, 8] (CS.mk [] [true, true, true, true] [] [])), (19, LS.mk [4, 5, 9, 10] (CS.mk [] [true, true, true] [] [])), (22, LS.mk [4, 5, 9, 10, 11] (CS.mk [] [true, true, true] [] []))]) Q 2000 (kOf Try.f53 3) (mkS 113 [(4, .one (.ptr 0 0)), (5, .one (.ptr 1 0)), (9, .one (.ptr 2 0)), (10, .one (.i64 i)), (11, .one (.i64 k))]) [some zs, some ws, some os]) (by kernel_rfl) h)
theorem o53 (i k : Nat) : 0 + Int.toNat (i : Int) * 4 + Int.toNat (k : Int) * 1 = 4 * i + k := by omega
theorem SE_at (key : List (BitVec 8)) {m j : Nat} (h : j < m) (hm : m ≤ 176) : gt AC.any ((SE key m).map AC.u8) j = .u8 (eat key j) := by
  rw [gt_u8_at _ _ (by rw [SE_len]; omega), SE_get key h hm]
theorem l53A {X : Ctx} (hX : X.P = Try.prog) (key : List (BitVec 8)) (hk : key.length = 16) (i : Nat) (hi : i < 4) (K : KRun X 53 0 (Is (.agg ((exL key 176).map AC.u8))) (kOf Try.f53 0) (mkS 113 [(2, .one (.ptr 0 0)), (3, .one (.ptr 1 0)), (4, .one (.ptr 2 0)), (5, .one (.ptr 3 0)), (6, .one (.u8 (pwF (i / 4)))), (7, .one (.i64 (i + 1 : Nat)))]) [some (key.map AC.u8), some (boxT.map AC.u8), some (List.replicate 176 (AC.u8 0)), some ((SE key (4 * i + 4)).map AC.u8)]) : ∀ (d k : Nat), k + d = 4 →
    KRun X 53 0 (Is (.agg ((exL key 176).map AC.u8))) (kOf Try.f53 1) (mkS 113 [(2, .one (.ptr 0 0)), (3, .one (.ptr 1 0)), (4, .one (.ptr 2 0)), (5, .one (.ptr 3 0)), (6, .one (.u8 (pwF ((i - 1) / 4)))), (7, .one (.i64 i)), (8, .one (.i64 k))]) [some (key.map AC.u8), some (boxT.map AC.u8), some (List.replicate 176 (AC.u8 0)), some ((SE key (4 * i + k)).map AC.u8)] := by
  have z : Flat (List.replicate 176 (AC.u8 0)) := by rw [mrep]; exact flat_u8 _
  intro d
  induction d with
  | zero =>
    intro k hkd
    have hkd : k = 4 := by omega
    subst hkd
    rw [show i / 4 = (i - 1) / 4 by omega] at K
    refine vc53b hX _ _ _ _ _ _ _ ⟨fun h => absurd (of_decide_eq_true h) (by omega), fun _ => ⟨fun h => absurd (of_decide_eq_true h) (by omega), fun _ => ?_⟩⟩
    (repeat' (first | exact trivial | exact flat_u8 _ | exact flatA _ | exact allU8_map _ | exact Nat.le_refl _ | refine And.intro ?_ ?_)) <;> (first | omega | exact z | (unfold in64; omega) | exact List.length_map _ | (show Is _ _ _; exact rfl) | skip)
    exact ⟨K⟩
  | succ d ih =>
    intro k hkd
    have ih := ih (k + 1) (by omega)
    have e1 : (4 : Int) * (i : Int) + (k : Int) = ((4 * i + k : Nat) : Int) := by omega
    have hg := gt_u8_at key (4 * i + k) (by omega)
    rw [← eat_lo key (by omega)] at hg
    have hs := SE_set key (m := 4 * i + k) (by omega)
    have hl := SE_len key (4 * i + k)
    refine vc53b hX _ _ _ _ _ _ _ ⟨fun _ => ⟨fun _ => ?_, fun h => absurd (of_decide_eq_false h) (by omega)⟩, fun h => absurd (of_decide_eq_false h) (by omega)⟩
    rw [e1]
    simp only [ixn, o53, hg, asU8, lay1, hs, List.length_map, hl]
    (repeat' (first | exact trivial | exact flat_u8 _ | exact flatA _ | exact allU8_map _ | exact Nat.le_refl _ | refine And.intro ?_ ?_)) <;> (first | omega | exact z | (unfold in64; omega) | exact List.length_map _ | (show Is _ _ _; exact rfl) | skip)
    exact ⟨ih⟩
theorem l53C {X : Ctx} (hX : X.P = Try.prog) (key : List (BitVec 8)) (n r i : Nat) (hi : i = 4 * (n + 1) + r) (hr : 1 ≤ r ∧ r < 4) (h44 : i < 44) (K : KRun X 53 0 (Is (.agg ((exL key 176).map AC.u8))) (kOf Try.f53 0) (mkS 113 [(2, .one (.ptr 0 0)), (3, .one (.ptr 1 0)), (4, .one (.ptr 2 0)), (5, .one (.ptr 3 0)), (6, .one (.u8 (pwF (i / 4)))), (7, .one (.i64 (i + 1 : Nat)))]) [some (key.map AC.u8), some (boxT.map AC.u8), some (List.replicate 176 (AC.u8 0)), some ((SE key (4 * i + 4)).map AC.u8)]) : ∀ (d k : Nat), k + d = 4 →
    KRun X 53 0 (Is (.agg ((exL key 176).map AC.u8))) (kOf Try.f53 1) (mkS 113 [(2, .one (.ptr 0 0)), (3, .one (.ptr 1 0)), (4, .one (.ptr 2 0)), (5, .one (.ptr 3 0)), (6, .one (.u8 (pwF ((i - 1) / 4)))), (7, .one (.i64 i)), (8, .one (.i64 k))]) [some (key.map AC.u8), some (boxT.map AC.u8), some (List.replicate 176 (AC.u8 0)), some ((SE key (4 * i + k)).map AC.u8)] := by
  have z : Flat (List.replicate 176 (AC.u8 0)) := by rw [mrep]; exact flat_u8 _
  have tm : Int.tmod (i : Int) 4 = ((i % 4 : Nat) : Int) := tmod_nat i 4
  intro d
  induction d with
  | zero =>
    intro k hkd
    have hkd : k = 4 := by omega
    subst hkd
    rw [show i / 4 = (i - 1) / 4 by omega] at K
    refine vc53b hX _ _ _ _ _ _ _ ⟨fun h => absurd (of_decide_eq_true h) (by omega), fun _ => ⟨fun _ => ⟨by decide, fun h => absurd (of_decide_eq_true h) (by rw [tm]; omega), fun _ => ?_⟩, fun h => absurd (of_decide_eq_false h) (by omega)⟩⟩
    (repeat' (first | exact trivial | exact flat_u8 _ | exact flatA _ | exact allU8_map _ | exact Nat.le_refl _ | refine And.intro ?_ ?_)) <;> (first | omega | exact z | (unfold in64; omega) | exact List.length_map _ | (show Is _ _ _; exact rfl) | skip)
    exact ⟨K⟩
  | succ d ih =>
    intro k hkd
    have ih := ih (k + 1) (by omega)
    have e4 : (i : Int) - 4 = ((i - 4 : Nat) : Int) := by omega
    have e1 : (i : Int) - 1 = ((i - 1 : Nat) : Int) := by omega
    have hg := SE_at key (m := 4 * i + k) (j := 4 * (i - 4) + k) (by omega) (by omega)
    have hg2 := SE_at key (m := 4 * i + k) (j := 4 * (i - 1) + k) (by omega) (by omega)
    have ev := eat_hi key (n := n + 1) (k := 4 * r + k) (by omega) (by omega) (by omega)
    rw [show 16 * (n + 1) + (4 * r + k) = 4 * i + k by omega, show 16 * (n + 1 - 1) + (4 * r + k) = 4 * (i - 4) + k by omega, show 16 * (n + 1) + (4 * r + k - 4) = 4 * (i - 1) + k by omega] at ev
    have hs := SE_set key (m := 4 * i + k) (by omega)
    have hl := SE_len key (4 * i + k)
    refine vc53b hX _ _ _ _ _ _ _ ⟨fun _ => ⟨fun h => absurd (of_decide_eq_true h) (by omega), fun _ => ⟨by decide, fun h => absurd (of_decide_eq_true h) (by rw [tm]; omega), fun _ => ?_⟩⟩, fun h => absurd (of_decide_eq_false h) (by omega)⟩
    rw [e4, e1]
    simp only [o53, hg, hg2, asU8]
    rw [← ev]
    simp only [lay1, hs, List.length_map, hl]
    (repeat' (first | exact trivial | exact flat_u8 _ | exact flatA _ | exact allU8_map _ | exact Nat.le_refl _ | refine And.intro ?_ ?_)) <;> (first | omega | exact z | (unfold in64; omega) | exact List.length_map _ | (show Is _ _ _; exact rfl) | skip)
    exact ⟨ih⟩
theorem SX_gt (key : List (BitVec 8)) {a m j : Nat} (x : BitVec 8) (h : j < a) (ha : a < m) (hm : m ≤ 176) : gt AC.any ((SX key a x m).map AC.u8) j = .u8 (eat key j) := by
  rw [gt_u8_at _ _ (by rw [SX_len]; omega)]
  unfold SX
  rw [getT_new _ _ _ (by rw [List.length_set, exL_len]; exact hm) (by omega), getD_set_ne _ _ _ _ _ (by omega), E_get key (by omega)]
theorem SX_gta (key : List (BitVec 8)) {a m : Nat} (x : BitVec 8) (ha : a < m) (hm : m ≤ 176) : gt AC.any ((SX key a x m).map AC.u8) a = .u8 x := by
  rw [gt_u8_at _ _ (by rw [SX_len]; omega), SX_at key x ha hm]
theorem l53B {X : Ctx} (hX : X.P = Try.prog) (key : List (BitVec 8)) (n i : Nat) (hi : i = 4 * (n + 1)) (h44 : i < 44) (K : KRun X 53 0 (Is (.agg ((exL key 176).map AC.u8))) (kOf Try.f53 0) (mkS 113 [(2, .one (.ptr 0 0)), (3, .one (.ptr 1 0)), (4, .one (.ptr 2 0)), (5, .one (.ptr 3 0)), (6, .one (.u8 (pwF (i / 4)))), (7, .one (.i64 (i + 1 : Nat)))]) [some (key.map AC.u8), some (boxT.map AC.u8), some (List.replicate 176 (AC.u8 0)), some ((SE key (4 * i + 4)).map AC.u8)]) : ∀ (d k : Nat), k + 1 + d = 4 →
    KRun X 53 0 (Is (.agg ((exL key 176).map AC.u8))) (kOf Try.f53 1) (mkS 113 [(2, .one (.ptr 0 0)), (3, .one (.ptr 1 0)), (4, .one (.ptr 2 0)), (5, .one (.ptr 3 0)), (6, .one (.u8 (pwF ((i - 1) / 4)))), (7, .one (.i64 i)), (8, .one (.i64 (k + 1 : Nat)))]) [some (key.map AC.u8), some (boxT.map AC.u8), some (List.replicate 176 (AC.u8 0)), some ((SX key (4 * i) (eat key (4 * i) ^^^ pwF ((i - 1) / 4)) (4 * i + (k + 1))).map AC.u8)] := by
  have z : Flat (List.replicate 176 (AC.u8 0)) := by rw [mrep]; exact flat_u8 _
  have tm : Int.tmod (i : Int) 4 = ((i % 4 : Nat) : Int) := tmod_nat i 4
  have hp : (i - 1) / 4 = n := by omega
  intro d
  induction d with
  | zero =>
    intro k hkd
    have hkd : k = 3 := by omega
    subst hkd
    have hg := SX_gta key (a := 4 * i) (m := 4 * i + (3 + 1)) (eat key (4 * i) ^^^ pwF ((i - 1) / 4)) (by omega) (by omega)
    have hb := SX_back key (a := 4 * i) (m := 4 * i + (3 + 1)) (eat key (4 * i) ^^^ pwF ((i - 1) / 4)) (by omega) (by omega)
    have hl := SX_len key (4 * i) (eat key (4 * i) ^^^ pwF ((i - 1) / 4)) (4 * i + (3 + 1))
    have ex : eat key (4 * i) ^^^ pwF ((i - 1) / 4) ^^^ pwF ((i - 1) / 4) = eat key (4 * i) := by rw [BitVec.xor_assoc, BitVec.xor_self, BitVec.xor_zero]
    have ep : tmF (pwF ((i - 1) / 4)) (BitVec.ofInt 8 2) = pwF (i / 4) := by
      rw [show i / 4 = (i - 1) / 4 + 1 by omega]
      exact (tm_all _).1
    have o4 : 0 + Int.toNat (i : Int) * 4 + 0 = 4 * i := by omega
    refine vc53b hX _ _ _ _ _ _ _ ⟨fun h => absurd (of_decide_eq_true h) (by omega), fun _ => ⟨fun _ => ⟨by decide, fun _ => ?_, fun h => absurd (of_decide_eq_false h) (by rw [tm]; omega)⟩, fun h => absurd (of_decide_eq_false h) (by omega)⟩⟩
    rw [ep]
    simp only [o4, hg, asU8, ex, lay1, hb, List.length_map, hl]
    (repeat' (first | exact trivial | exact flat_u8 _ | exact flatA _ | exact allU8_map _ | exact Nat.le_refl _ | refine And.intro ?_ ?_)) <;> (first | omega | exact z | (unfold in64; omega) | exact List.length_map _ | (show Is _ _ _; exact rfl) | skip)
    exact ⟨K⟩
  | succ d ih =>
    intro k hkd
    have ih := ih (k + 1) (by omega)
    have e4 : (i : Int) - 4 = ((i - 4 : Nat) : Int) := by omega
    have e1 : (i : Int) - 1 = ((i - 1 : Nat) : Int) := by omega
    have et : Int.tmod (((k + 1 : Nat) : Int) + 1) 4 = (((k + 1 + 1) % 4 : Nat) : Int) := by rw [show ((k + 1 : Nat) : Int) + 1 = ((k + 1 + 1 : Nat) : Int) by omega]; exact tmod_nat _ 4
    have hg := SX_gt key (a := 4 * i) (m := 4 * i + (k + 1)) (j := 4 * (i - 4) + (k + 1)) (eat key (4 * i) ^^^ pwF ((i - 1) / 4)) (by omega) (by omega) (by omega)
    have hg2 := SX_gt key (a := 4 * i) (m := 4 * i + (k + 1)) (j := 4 * (i - 1) + (k + 1 + 1) % 4) (eat key (4 * i) ^^^ pwF ((i - 1) / 4)) (by omega) (by omega) (by omega)
    have ev := eat_box key (n := n + 1) (k := k + 1) (by omega) (by omega)
    rw [if_neg (by omega), BitVec.xor_zero, show 16 * (n + 1) + (k + 1) = 4 * i + (k + 1) by omega, show 16 * (n + 1 - 1) + (k + 1) = 4 * (i - 4) + (k + 1) by omega, show 16 * (n + 1 - 1) + (12 + (k + 1 + 1) % 4) = 4 * (i - 1) + (k + 1 + 1) % 4 by omega] at ev
    have hs := SX_set key (a := 4 * i) (m := 4 * i + (k + 1)) (eat key (4 * i) ^^^ pwF ((i - 1) / 4)) (by omega) (by omega)
    have hl := SX_len key (4 * i) (eat key (4 * i) ^^^ pwF ((i - 1) / 4)) (4 * i + (k + 1))
    refine vc53b hX _ _ _ _ _ _ _ ⟨fun _ => ⟨fun h => absurd (of_decide_eq_true h) (by omega), fun _ => ⟨by decide, fun _ => ?_, fun h => absurd (of_decide_eq_false h) (by rw [tm]; omega)⟩⟩, fun h => absurd (of_decide_eq_false h) (by omega)⟩
    rw [e4, e1, et]
    simp only [o53, hg, hg2, asU8, gt_box, ixn, gt_box']
    rw [← ev]
    simp only [lay1, hs, List.length_map, hl]
    (repeat' (first | exact trivial | exact flat_u8 _ | exact flatA _ | exact allU8_map _ | exact Nat.le_refl _ | refine And.intro ?_ ?_)) <;> (first | omega | exact z | (unfold in64; omega) | exact List.length_map _ | (show Is _ _ _; exact rfl) | skip)
    exact ⟨ih⟩
theorem l53B0 {X : Ctx} (hX : X.P = Try.prog) (key : List (BitVec 8)) (n i : Nat) (hi : i = 4 * (n + 1)) (h44 : i < 44) (K : KRun X 53 0 (Is (.agg ((exL key 176).map AC.u8))) (kOf Try.f53 0) (mkS 113 [(2, .one (.ptr 0 0)), (3, .one (.ptr 1 0)), (4, .one (.ptr 2 0)), (5, .one (.ptr 3 0)), (6, .one (.u8 (pwF (i / 4)))), (7, .one (.i64 (i + 1 : Nat)))]) [some (key.map AC.u8), some (boxT.map AC.u8), some (List.replicate 176 (AC.u8 0)), some ((SE key (4 * i + 4)).map AC.u8)]) :
    KRun X 53 0 (Is (.agg ((exL key 176).map AC.u8))) (kOf Try.f53 1) (mkS 113 [(2, .one (.ptr 0 0)), (3, .one (.ptr 1 0)), (4, .one (.ptr 2 0)), (5, .one (.ptr 3 0)), (6, .one (.u8 (pwF ((i - 1) / 4)))), (7, .one (.i64 i)), (8, .one (.i64 0))]) [some (key.map AC.u8), some (boxT.map AC.u8), some (List.replicate 176 (AC.u8 0)), some ((SE key (4 * i)).map AC.u8)] := by
  have z : Flat (List.replicate 176 (AC.u8 0)) := by rw [mrep]; exact flat_u8 _
  have tm : Int.tmod (i : Int) 4 = ((i % 4 : Nat) : Int) := tmod_nat i 4
  have hp : (i - 1) / 4 = n := by omega
  have K := l53B hX key n i hi h44 K 3 0 rfl
  have e4 : (i : Int) - 4 = ((i - 4 : Nat) : Int) := by omega
  have e1 : (i : Int) - 1 = ((i - 1 : Nat) : Int) := by omega
  have et : Int.tmod ((0 : Int) + 1) 4 = ((1 : Nat) : Int) := by decide
  have o0 : ∀ j : Nat, 0 + Int.toNat (j : Int) * 4 + Int.toNat 0 * 1 = 4 * j := fun j => by omega
  have hg := SE_at key (m := 4 * i) (j := 4 * (i - 4)) (by omega) (by omega)
  have hg2 := SE_at key (m := 4 * i) (j := 4 * (i - 1) + 1) (by omega) (by omega)
  have ev := eat_box key (n := n + 1) (k := 0) (by omega) (by omega)
  rw [if_pos rfl, show 16 * (n + 1) + 0 = 4 * i by omega, show 16 * (n + 1 - 1) + 0 = 4 * (i - 4) by omega, show 16 * (n + 1 - 1) + (12 + (0 + 1) % 4) = 4 * (i - 1) + 1 by omega, show n + 1 - 1 = (i - 1) / 4 by omega] at ev
  have ev2 : eat key (4 * (i - 4)) ^^^ bx (eat key (4 * (i - 1) + 1)) = eat key (4 * i) ^^^ pwF ((i - 1) / 4) := by
    rw [ev, BitVec.xor_assoc _ (pwF ((i - 1) / 4)), BitVec.xor_self, BitVec.xor_zero]
  have hs := SX_set0 key (a := 4 * i) (eat key (4 * i) ^^^ pwF ((i - 1) / 4)) (by omega)
  have hl := SE_len key (4 * i)
  refine vc53b hX _ _ _ _ _ _ _ ⟨fun _ => ⟨fun h => absurd (of_decide_eq_true h) (by omega), fun _ => ⟨by decide, fun _ => ?_, fun h => absurd (of_decide_eq_false h) (by rw [tm]; omega)⟩⟩, fun h => absurd (of_decide_eq_false h) (by omega)⟩
  rw [e4, e1, et]
  simp only [o0, o53, hg, hg2, asU8, gt_box, ixn, gt_box', ev2]
  simp only [lay1, hs, List.length_map, hl]
  (repeat' (first | exact trivial | exact flat_u8 _ | exact flatA _ | exact allU8_map _ | exact Nat.le_refl _ | refine And.intro ?_ ?_)) <;> (first | omega | exact z | (unfold in64; omega) | exact List.length_map _ | (show Is _ _ _; exact rfl) | skip)
  exact ⟨K⟩
theorem l53cd {X : Ctx} (hX : X.P = Try.prog) (key : List (BitVec 8)) : ∀ (d i : Nat), i + d = 44 →
    KRun X 53 0 (Is (.agg ((exL key 176).map AC.u8))) (kOf Try.f53 2) (mkS 113 [(4, .one (.ptr 0 0)), (5, .one (.ptr 1 0)), (9, .one (.ptr 2 0)), (10, .one (.i64 i))]) [some (List.replicate 176 (AC.u8 0)), some ((exL key 176).map AC.u8), some ((SE key (4 * i)).map AC.u8)] := by
  have z : Flat (List.replicate 176 (AC.u8 0)) := by rw [mrep]; exact flat_u8 _
  have inner : ∀ (i : Nat), i < 44 → KRun X 53 0 (Is (.agg ((exL key 176).map AC.u8))) (kOf Try.f53 2) (mkS 113 [(4, .one (.ptr 0 0)), (5, .one (.ptr 1 0)), (9, .one (.ptr 2 0)), (10, .one (.i64 (i + 1 : Nat)))]) [some (List.replicate 176 (AC.u8 0)), some ((exL key 176).map AC.u8), some ((SE key (4 * i + 4)).map AC.u8)] →
      ∀ (d k : Nat), k + d = 4 → KRun X 53 0 (Is (.agg ((exL key 176).map AC.u8))) (kOf Try.f53 3) (mkS 113 [(4, .one (.ptr 0 0)), (5, .one (.ptr 1 0)), (9, .one (.ptr 2 0)), (10, .one (.i64 i)), (11, .one (.i64 k))]) [some (List.replicate 176 (AC.u8 0)), some ((exL key 176).map AC.u8), some ((SE key (4 * i + k)).map AC.u8)] := by
    intro i hi K d
    induction d with
    | zero =>
      intro k hkd
      have hkd : k = 4 := by omega
      subst hkd
      refine vc53d hX _ _ _ _ _ ⟨fun h => absurd (of_decide_eq_true h) (by omega), fun _ => ?_⟩
      (repeat' (first | exact trivial | exact flat_u8 _ | exact flatA _ | exact allU8_map _ | exact Nat.le_refl _ | refine And.intro ?_ ?_)) <;> (first | omega | exact z | (unfold in64; omega) | exact List.length_map _ | (show Is _ _ _; exact rfl) | skip)
      exact ⟨K⟩
    | succ d ih =>
      intro k hkd
      have ih := ih (k + 1) (by omega)
      have td : Int.tdiv (i : Int) 4 = ((i / 4 : Nat) : Int) := tdiv_nat i 4
      have tm : Int.tmod (i : Int) 4 * 4 + (k : Int) = ((i % 4 * 4 + k : Nat) : Int) := by rw [show Int.tmod (i : Int) 4 = ((i % 4 : Nat) : Int) from tmod_nat i 4]; omega
      have tm2 : Int.tmod (i : Int) 4 * 4 = ((i % 4 * 4 : Nat) : Int) := by rw [show Int.tmod (i : Int) 4 = ((i % 4 : Nat) : Int) from tmod_nat i 4]; omega
      have o16 : 0 + Int.toNat ((i / 4 : Nat) : Int) * 16 + Int.toNat ((i % 4 * 4 + k : Nat) : Int) * 1 = 4 * i + k := by omega
      have hE := exL_len key 176
      have hg := gt_u8_at (exL key 176) (4 * i + k) (by omega)
      rw [E_get key (by omega)] at hg
      have hs := SE_set key (m := 4 * i + k) (by omega)
      have hl := SE_len key (4 * i + k)
      clear hE
      refine vc53d hX _ _ _ _ _ ⟨fun _ => ?_, fun h => absurd (of_decide_eq_false h) (by omega)⟩
      rw [tm, tm2, td]
      simp only [o16, o53, hg, asU8, lay1, hs, List.length_map, hl]
      refine ⟨⟨by decide, by unfold in64; omega⟩, by decide, by unfold in64; omega, by unfold in64; omega, ?_⟩
      (repeat' (first | exact trivial | exact flat_u8 _ | exact flatA _ | exact allU8_map _ | exact Nat.le_refl _ | refine And.intro ?_ ?_)) <;> (first | omega | exact z | (unfold in64; omega) | exact List.length_map _ | (show Is _ _ _; exact rfl) | skip)
      exact ⟨ih⟩
  intro d
  induction d with
  | zero =>
    intro i hi
    have hi : i = 44 := by omega
    subst hi
    have e : SE key (4 * 44) = exL key 176 := SE_end key
    have hl := exL_len key 176
    refine vc53c hX _ _ _ _ ⟨fun h => absurd (of_decide_eq_true h) (by omega), fun _ => ?_⟩
    rw [e]
    simp only [hide_eq, tkm, tk0, map_as8, layR, layC, layM, lay1, tkn, List.drop_zero, Nat.zero_add, Nat.mul_one, Nat.reduceAdd, Nat.le_refl, Nat.min_self, Nat.reduceLeDiff, same_self, Int.toNat_natCast, List.length_map, List.length_append, List.length_replicate, List.length_take, List.length_drop, tab16_len, hl]
    (repeat' (first | exact trivial | exact flat_u8 _ | exact flatA _ | exact allU8_map _ | exact Nat.le_refl _ | refine And.intro ?_ ?_)) <;> (first | omega | exact z | (unfold in64; omega) | exact List.length_map _ | (show Is _ _ _; exact rfl) | skip)
  | succ d ih =>
    intro i hi
    have K := inner i (by omega) (ih (i + 1) (by omega)) 4 0 rfl
    refine vc53c hX _ _ _ _ ⟨fun _ => ?_, fun h => absurd (of_decide_eq_false h) (by omega)⟩
    (repeat' (first | exact trivial | exact flat_u8 _ | exact flatA _ | exact allU8_map _ | exact Nat.le_refl _ | refine And.intro ?_ ?_)) <;> (first | omega | exact z | (unfold in64; omega) | exact List.length_map _ | (show Is _ _ _; exact rfl) | skip)
    exact ⟨K⟩
theorem SE_0 (key : List (BitVec 8)) : (SE key (4 * 0)).map AC.u8 = List.replicate 176 (AC.u8 0) := by
  unfold SE
  rw [Nat.mul_zero, List.take_zero, List.drop_zero, List.nil_append, List.map_replicate]
theorem l53a {X : Ctx} (hX : X.P = Try.prog) (key : List (BitVec 8)) (hk : key.length = 16) : ∀ (d i : Nat), i + d = 44 →
    KRun X 53 0 (Is (.agg ((exL key 176).map AC.u8))) (kOf Try.f53 0) (mkS 113 [(2, .one (.ptr 0 0)), (3, .one (.ptr 1 0)), (4, .one (.ptr 2 0)), (5, .one (.ptr 3 0)), (6, .one (.u8 (pwF ((i - 1) / 4)))), (7, .one (.i64 i))]) [some (key.map AC.u8), some (boxT.map AC.u8), some (List.replicate 176 (AC.u8 0)), some ((SE key (4 * i)).map AC.u8)] := by
  have z : Flat (List.replicate 176 (AC.u8 0)) := by rw [mrep]; exact flat_u8 _
  intro d
  induction d with
  | zero =>
    intro i hi
    have hi : i = 44 := by omega
    subst hi
    have e : SE key (4 * 44) = exL key 176 := SE_end key
    have K := l53cd hX key 44 0 rfl
    rw [SE_0] at K
    refine vc53a hX _ _ _ _ _ _ ⟨fun h => absurd (of_decide_eq_true h) (by omega), fun _ => ?_⟩
    rw [e]
    (repeat' (first | exact trivial | exact flat_u8 _ | exact flatA _ | exact allU8_map _ | exact Nat.le_refl _ | refine And.intro ?_ ?_)) <;> (first | omega | exact z | (unfold in64; omega) | exact List.length_map _ | (show Is _ _ _; exact rfl) | skip)
    exact ⟨K⟩
  | succ d ih =>
    intro i hi
    have ih := ih (i + 1) (by omega)
    rw [Nat.add_sub_cancel] at ih
    have K : KRun X 53 0 (Is (.agg ((exL key 176).map AC.u8))) (kOf Try.f53 1) (mkS 113 [(2, .one (.ptr 0 0)), (3, .one (.ptr 1 0)), (4, .one (.ptr 2 0)), (5, .one (.ptr 3 0)), (6, .one (.u8 (pwF ((i - 1) / 4)))), (7, .one (.i64 i)), (8, .one (.i64 (0 : Nat)))]) [some (key.map AC.u8), some (boxT.map AC.u8), some (List.replicate 176 (AC.u8 0)), some ((SE key (4 * i + 0)).map AC.u8)] := by
      by_cases h4 : i < 4
      · exact l53A hX key hk i h4 ih 4 0 rfl
      · by_cases h0 : i % 4 = 0
        · exact l53B0 hX key (i / 4 - 1) i (by omega) (by omega) ih
        · exact l53C hX key (i / 4 - 1) (i % 4) i (by omega) (by omega) (by omega) ih 4 0 rfl
    refine vc53a hX _ _ _ _ _ _ ⟨fun _ => ?_, fun h => absurd (of_decide_eq_false h) (by omega)⟩
    (repeat' (first | exact trivial | exact flat_u8 _ | exact flatA _ | exact allU8_map _ | exact Nat.le_refl _ | refine And.intro ?_ ?_)) <;> (first | omega | exact z | (unfold in64; omega) | exact List.length_map _ | (show Is _ _ _; exact rfl) | skip)
    exact ⟨K⟩
theorem s53 (key : List (BitVec 8)) (hk : key.length = 16) : Spec Try.prog 53 [.agg (key.map AC.u8), .agg (boxT.map AC.u8)] [] (Is (.agg ((exL key 176).map AC.u8))) := by
  refine Spec.of_run ok53 fun X hX => vc53e hX _ _ ?_
  have K := l53a hX key hk 44 0 rfl
  rw [SE_0] at K
  have z : Flat (List.replicate 176 (AC.u8 0)) := by rw [mrep]; exact flat_u8 _
  exact ⟨flat_u8 _, flat_u8 _, z, z, ⟨K⟩⟩
end DH
