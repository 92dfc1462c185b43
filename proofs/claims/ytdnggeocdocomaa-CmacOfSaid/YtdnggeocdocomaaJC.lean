/- Walks of functions, each by evaluation: what each returns; with the layer beneath. -/
import Derived.Test.YtdnggeocdocomaaJB
import Derived.Test.YtdnggeocdocomaaLC
import Derived.Test.YtdnggeocdocomaaJA
set_option linter.unusedVariables false
set_option linter.unusedSimpArgs false
noncomputable section
namespace DH
open Go Go.Proofs
set_option maxRecDepth 100000 in
theorem vc53e {X : Ctx} {Q : AV → Mem → Prop} (hX : X.P = Try.prog) (ks bs : List AC) (h : Flat ks ∧ Flat bs ∧ Flat (List.replicate 176 (AC.u8 (0 : BitVec 8))) ∧ Flat (List.replicate 176 (AC.u8 (0 : BitVec 8))) ∧ KR X 53 0 Q (kOf Try.f53 0) (mkS 113 [(2, AV.one (AC.ptr 0 0)), (3, AV.one (AC.ptr 1 0)), (4, AV.one (AC.ptr 2 0)), (5, AV.one (AC.ptr 3 0)), (6, AV.one (AC.u8 (BitVec.ofInt 8 (1 : Int)))), (7, AV.one (AC.i64 (0 : Int)))]) [some ks, some bs, some (List.replicate 176 (AC.u8 (0 : BitVec 8))), some (List.replicate 176 (AC.u8 (0 : BitVec 8)))]) : KRun X 53 0 Q ([.code (bodyOf Try.f53)]) (slots [.agg ks, .agg bs] Try.f53.ntmps) [] :=
  wpRun_ok (hX ▸ baseK_ok T13 mf13 M13) (hX ▸ baseK_call T13_ok M13_ok) (hX ▸ mixed) (hX ▸ ok53) LK_ok (cast (β := wpRun (baseK T13 mf13 M13) [13, 17, 21, 34, 74, 78, 91, 95] [(10, 10), (12, 21), (13, 17), (15, 8), (24, 14)] false (RS.mk Try.f53.results.toList 0 (CS.mk [] [] [0] [])) (LK X 53 0 Q true [(4, LS.mk [2, 3, 4, 5, 6, 7] (CS.mk [] [true, true, true, true] [] [])), (7, LS.mk [2, 3, 4, 5, 6, 7, 8] (CS.mk [] [true, true, true, true] [] [])), (19, LS.mk [4, 5, 9, 10] (CS.mk [] [true, true, true] [] [])), (22, LS.mk [4, 5, 9, 10, 11] (CS.mk [] [true, true, true] [] []))]) Q 2000 ([.code (bodyOf Try.f53)]) (slots [.agg ks, .agg bs] Try.f53.ntmps) []) (by kernel_rfl) h)
set_option maxRecDepth 100000 in
theorem vc53a {X : Ctx} {Q : AV → Mem → Prop} (hX : X.P = Try.prog) (ks bs zs ws : List AC) (p : BitVec 8) (i : Int) (h : (decide (i < (44 : Int)) = true → Flat ks ∧ Flat bs ∧ Flat zs ∧ Flat ws ∧ KR X 53 0 Q (kOf Try.f53 1) (mkS 113 [(2, AV.one (AC.ptr 0 0)), (3, AV.one (AC.ptr 1 0)), (4, AV.one (AC.ptr 2 0)), (5, AV.one (AC.ptr 3 0)), (6, AV.one (AC.u8 p)), (7, AV.one (AC.i64 i)), (8, AV.one (AC.i64 (0 : Int)))]) [some ks, some bs, some zs, some ws]) ∧ (decide (i < (44 : Int)) = false → Flat zs ∧ Flat ws ∧ Flat (List.replicate 176 (AC.u8 (0 : BitVec 8))) ∧ KR X 53 0 Q (kOf Try.f53 2) (mkS 113 [(4, AV.one (AC.ptr 0 0)), (5, AV.one (AC.ptr 1 0)), (9, AV.one (AC.ptr 2 0)), (10, AV.one (AC.i64 (0 : Int)))]) [some zs, some ws, some (List.replicate 176 (AC.u8 (0 : BitVec 8)))])) : KRun X 53 0 Q (kOf Try.f53 0) (mkS 113 [(2, .one (.ptr 0 0)), (3, .one (.ptr 1 0)), (4, .one (.ptr 2 0)), (5, .one (.ptr 3 0)), (6, .one (.u8 p)), (7, .one (.i64 i))]) [some ks, some bs, some zs, some ws] :=
  wpRun_ok (hX ▸ baseK_ok T13 mf13 M13) (hX ▸ baseK_call T13_ok M13_ok) (hX ▸ mixed) (hX ▸ ok53) LK_ok (cast (β := wpRun (baseK T13 mf13 M13) [13, 17, 21, 34, 74, 78, 91, 95] [(10, 10), (12, 21), (13, 17), (15, 8), (24, 14)] false (RS.mk Try.f53.results.toList 0 (CS.mk [] [] [0] [])) (LK X 53 0 Q true [(4, LS.mk [2, 3, 4, 5, 6, 7] (CS.mk [] [true, true, true, true] [] [])), (7, LS.mk [2, 3, 4, 5, 6, 7, 8] (CS.mk [] [true, true, true, true] [] [])), (19, LS.mk [4, 5, 9, 10] (CS.mk [] [true, true, true] [] [])), (22, LS.mk [4, 5, 9, 10, 11] (CS.mk [] [true, true, true] [] []))]) Q 2000 (kOf Try.f53 0) (mkS 113 [(2, .one (.ptr 0 0)), (3, .one (.ptr 1 0)), (4, .one (.ptr 2 0)), (5, .one (.ptr 3 0)), (6, .one (.u8 p)), (7, .one (.i64 i))]) [some ks, some bs, some zs, some ws]) (by kernel_rfl) h)
set_option maxRecDepth 100000 in
theorem vc53b {X : Ctx} {Q : AV → Mem → Prop} (hX : X.P = Try.prog) (ks bs zs ws : List AC) (p : BitVec 8) (i k : Int) (h : (decide (k < (4 : Int)) = true → (decide (i < (4 : Int)) = true → in64 ((4 : Int) * i) ∧ in64 ((4 : Int) * i + k) ∧ ((0 : Int) ≤ (4 : Int) * i + k ∧ (4 : Int) * i + k < (↑16 : Int)) ∧ gt AC.any ks (0 + Int.toNat ((4 : Int) * i + k) * 1) = AC.u8 (asU8 (gt AC.any ks (0 + Int.toNat ((4 : Int) * i + k) * 1))) ∧ ((0 : Int) ≤ i ∧ i < (↑44 : Int)) ∧ ((0 : Int) ≤ k ∧ k < (↑4 : Int)) ∧ (1 = 1 ∧ 0 + Int.toNat i * 4 + Int.toNat k * 1 + 1 ≤ List.length ws) ∧ in64 (k + (1 : Int)) ∧ Flat ks ∧ Flat bs ∧ Flat zs ∧ Flat (layS ws (0 + Int.toNat i * 4 + Int.toNat k * 1) [AC.u8 (asU8 (gt AC.any ks (0 + Int.toNat ((4 : Int) * i + k) * 1)))]) ∧ KR X 53 0 Q (kOf Try.f53 1) (mkS 113 [(2, AV.one (AC.ptr 0 0)), (3, AV.one (AC.ptr 1 0)), (4, AV.one (AC.ptr 2 0)), (5, AV.one (AC.ptr 3 0)), (6, AV.one (AC.u8 p)), (7, AV.one (AC.i64 i)), (8, AV.one (AC.i64 (k + (1 : Int))))]) [some ks, some bs, some zs, some (layS ws (0 + Int.toNat i * 4 + Int.toNat k * 1) [AC.u8 (asU8 (gt AC.any ks (0 + Int.toNat ((4 : Int) * i + k) * 1)))])]) ∧ (decide (i < (4 : Int)) = false → (4 : Int) ≠ (0 : Int) ∧ (decide (Int.tmod i (4 : Int) = (0 : Int)) = true → in64 (i - (4 : Int)) ∧ ((0 : Int) ≤ i - (4 : Int) ∧ i - (4 : Int) < (↑44 : Int)) ∧ ((0 : Int) ≤ k ∧ k < (↑4 : Int)) ∧ gt AC.any ws (0 + Int.toNat (i - (4 : Int)) * 4 + Int.toNat k * 1) = AC.u8 (asU8 (gt AC.any ws (0 + Int.toNat (i - (4 : Int)) * 4 + Int.toNat k * 1))) ∧ in64 (i - (1 : Int)) ∧ in64 (k + (1 : Int)) ∧ (4 : Int) ≠ (0 : Int) ∧ ((0 : Int) ≤ i - (1 : Int) ∧ i - (1 : Int) < (↑44 : Int)) ∧ ((0 : Int) ≤ Int.tmod (k + (1 : Int)) (4 : Int) ∧ Int.tmod (k + (1 : Int)) (4 : Int) < (↑4 : Int)) ∧ gt AC.any ws (0 + Int.toNat (i - (1 : Int)) * 4 + Int.toNat (Int.tmod (k + (1 : Int)) (4 : Int)) * 1) = AC.u8 (asU8 (gt AC.any ws (0 + Int.toNat (i - (1 : Int)) * 4 + Int.toNat (Int.tmod (k + (1 : Int)) (4 : Int)) * 1))) ∧ gt AC.any bs (0 + Int.toNat (↑(BitVec.toNat (asU8 (gt AC.any ws (0 + Int.toNat (i - (1 : Int)) * 4 + Int.toNat (Int.tmod (k + (1 : Int)) (4 : Int)) * 1)))) : Int) * 1) = AC.u8 (asU8 (gt AC.any bs (0 + Int.toNat (↑(BitVec.toNat (asU8 (gt AC.any ws (0 + Int.toNat (i - (1 : Int)) * 4 + Int.toNat (Int.tmod (k + (1 : Int)) (4 : Int)) * 1)))) : Int) * 1))) ∧ ((0 : Int) ≤ i ∧ i < (↑44 : Int)) ∧ ((0 : Int) ≤ k ∧ k < (↑4 : Int)) ∧ (1 = 1 ∧ 0 + Int.toNat i * 4 + Int.toNat k * 1 + 1 ≤ List.length ws) ∧ in64 (k + (1 : Int)) ∧ Flat ks ∧ Flat bs ∧ Flat zs ∧ Flat (layS ws (0 + Int.toNat i * 4 + Int.toNat k * 1) [AC.u8 (asU8 (gt AC.any ws (0 + Int.toNat (i - (4 : Int)) * 4 + Int.toNat k * 1)) ^^^ asU8 (gt AC.any bs (0 + Int.toNat (↑(BitVec.toNat (asU8 (gt AC.any ws (0 + Int.toNat (i - (1 : Int)) * 4 + Int.toNat (Int.tmod (k + (1 : Int)) (4 : Int)) * 1)))) : Int) * 1)))]) ∧ KR X 53 0 Q (kOf Try.f53 1) (mkS 113 [(2, AV.one (AC.ptr 0 0)), (3, AV.one (AC.ptr 1 0)), (4, AV.one (AC.ptr 2 0)), (5, AV.one (AC.ptr 3 0)), (6, AV.one (AC.u8 p)), (7, AV.one (AC.i64 i)), (8, AV.one (AC.i64 (k + (1 : Int))))]) [some ks, some bs, some zs, some (layS ws (0 + Int.toNat i * 4 + Int.toNat k * 1) [AC.u8 (asU8 (gt AC.any ws (0 + Int.toNat (i - (4 : Int)) * 4 + Int.toNat k * 1)) ^^^ asU8 (gt AC.any bs (0 + Int.toNat (↑(BitVec.toNat (asU8 (gt AC.any ws (0 + Int.toNat (i - (1 : Int)) * 4 + Int.toNat (Int.tmod (k + (1 : Int)) (4 : Int)) * 1)))) : Int) * 1)))])]) ∧ (decide (Int.tmod i (4 : Int) = (0 : Int)) = false → in64 (i - (4 : Int)) ∧ ((0 : Int) ≤ i - (4 : Int) ∧ i - (4 : Int) < (↑44 : Int)) ∧ ((0 : Int) ≤ k ∧ k < (↑4 : Int)) ∧ gt AC.any ws (0 + Int.toNat (i - (4 : Int)) * 4 + Int.toNat k * 1) = AC.u8 (asU8 (gt AC.any ws (0 + Int.toNat (i - (4 : Int)) * 4 + Int.toNat k * 1))) ∧ in64 (i - (1 : Int)) ∧ ((0 : Int) ≤ i - (1 : Int) ∧ i - (1 : Int) < (↑44 : Int)) ∧ ((0 : Int) ≤ k ∧ k < (↑4 : Int)) ∧ gt AC.any ws (0 + Int.toNat (i - (1 : Int)) * 4 + Int.toNat k * 1) = AC.u8 (asU8 (gt AC.any ws (0 + Int.toNat (i - (1 : Int)) * 4 + Int.toNat k * 1))) ∧ ((0 : Int) ≤ i ∧ i < (↑44 : Int)) ∧ ((0 : Int) ≤ k ∧ k < (↑4 : Int)) ∧ (1 = 1 ∧ 0 + Int.toNat i * 4 + Int.toNat k * 1 + 1 ≤ List.length ws) ∧ in64 (k + (1 : Int)) ∧ Flat ks ∧ Flat bs ∧ Flat zs ∧ Flat (layS ws (0 + Int.toNat i * 4 + Int.toNat k * 1) [AC.u8 (asU8 (gt AC.any ws (0 + Int.toNat (i - (4 : Int)) * 4 + Int.toNat k * 1)) ^^^ asU8 (gt AC.any ws (0 + Int.toNat (i - (1 : Int)) * 4 + Int.toNat k * 1)))]) ∧ KR X 53 0 Q (kOf Try.f53 1) (mkS 113 [(2, AV.one (AC.ptr 0 0)), (3, AV.one (AC.ptr 1 0)), (4, AV.one (AC.ptr 2 0)), (5, AV.one (AC.ptr 3 0)), (6, AV.one (AC.u8 p)), (7, AV.one (AC.i64 i)), (8, AV.one (AC.i64 (k + (1 : Int))))]) [some ks, some bs, some zs, some (layS ws (0 + Int.toNat i * 4 + Int.toNat k * 1) [AC.u8 (asU8 (gt AC.any ws (0 + Int.toNat (i - (4 : Int)) * 4 + Int.toNat k * 1)) ^^^ asU8 (gt AC.any ws (0 + Int.toNat (i - (1 : Int)) * 4 + Int.toNat k * 1)))])]))) ∧ (decide (k < (4 : Int)) = false → (decide ((4 : Int) ≤ i) = true → (4 : Int) ≠ (0 : Int) ∧ (decide (Int.tmod i (4 : Int) = (0 : Int)) = true → ((0 : Int) ≤ i ∧ i < (↑44 : Int)) ∧ ((0 : Int) ≤ (0 : Int) ∧ (0 : Int) < (↑4 : Int)) ∧ gt AC.any ws (0 + Int.toNat i * 4 + 0) = AC.u8 (asU8 (gt AC.any ws (0 + Int.toNat i * 4 + 0))) ∧ ((0 : Int) ≤ i ∧ i < (↑44 : Int)) ∧ ((0 : Int) ≤ (0 : Int) ∧ (0 : Int) < (↑4 : Int)) ∧ (1 = 1 ∧ 0 + Int.toNat i * 4 + 0 + 1 ≤ List.length ws) ∧ in64 (i + (1 : Int)) ∧ Flat ks ∧ Flat bs ∧ Flat zs ∧ Flat (layS ws (0 + Int.toNat i * 4 + 0) [AC.u8 (asU8 (gt AC.any ws (0 + Int.toNat i * 4 + 0)) ^^^ p)]) ∧ KR X 53 0 Q (kOf Try.f53 0) (mkS 113 [(2, AV.one (AC.ptr 0 0)), (3, AV.one (AC.ptr 1 0)), (4, AV.one (AC.ptr 2 0)), (5, AV.one (AC.ptr 3 0)), (6, AV.one (AC.u8 (tmF p (BitVec.ofInt 8 (2 : Int))))), (7, AV.one (AC.i64 (i + (1 : Int))))]) [some ks, some bs, some zs, some (layS ws (0 + Int.toNat i * 4 + 0) [AC.u8 (asU8 (gt AC.any ws (0 + Int.toNat i * 4 + 0)) ^^^ p)])]) ∧ (decide (Int.tmod i (4 : Int) = (0 : Int)) = false → in64 (i + (1 : Int)) ∧ Flat ks ∧ Flat bs ∧ Flat zs ∧ Flat ws ∧ KR X 53 0 Q (kOf Try.f53 0) (mkS 113 [(2, AV.one (AC.ptr 0 0)), (3, AV.one (AC.ptr 1 0)), (4, AV.one (AC.ptr 2 0)), (5, AV.one (AC.ptr 3 0)), (6, AV.one (AC.u8 p)), (7, AV.one (AC.i64 (i + (1 : Int))))]) [some ks, some bs, some zs, some ws])) ∧ (decide ((4 : Int) ≤ i) = false → in64 (i + (1 : Int)) ∧ Flat ks ∧ Flat bs ∧ Flat zs ∧ Flat ws ∧ KR X 53 0 Q (kOf Try.f53 0) (mkS 113 [(2, AV.one (AC.ptr 0 0)), (3, AV.one (AC.ptr 1 0)), (4, AV.one (AC.ptr 2 0)), (5, AV.one (AC.ptr 3 0)), (6, AV.one (AC.u8 p)), (7, AV.one (AC.i64 (i + (1 : Int))))]) [some ks, some bs, some zs, some ws]))) : KRun X 53 0 Q (kOf Try.f53 1) (mkS 113 [(2, .one (.ptr 0 0)), (3, .one (.ptr 1 0)), (4, .one (.ptr 2 0)), (5, .one (.ptr 3 0)), (6, .one (.u8 p)), (7, .one (.i64 i)), (8, .one (.i64 k))]) [some ks, some bs, some zs, some ws] :=
  wpRun_ok (hX ▸ baseK_ok T13 mf13 M13) (hX ▸ baseK_call T13_ok M13_ok) (hX ▸ mixed) (hX ▸ ok53) LK_ok (cast (β := wpRun (baseK T13 mf13 M13) [13, 17, 21, 34, 74, 78, 91, 95] [(10, 10), (12, 21), (13, 17), (15, 8), (24, 14)] false (RS.mk Try.f53.results.toList 0 (CS.mk [] [] [0] [])) (LK X 53 0 Q true [(4, LS.mk [2, 3, 4, 5, 6, 7] (CS.mk [] [true, true, true, true] [] [])), (7, LS.mk [2, 3, 4, 5, 6, 7, 8] (CS.mk [] [true, true, true, true] [] [])), (19, LS.mk [4, 5, 9, 10] (CS.mk [] [true, true, true] [] [])), (22, LS.mk [4, 5, 9, 10, 11] (CS.mk [] [true, true, true] [] []))]) Q 2000 (kOf Try.f53 1) (mkS 113 [(2, .one (.ptr 0 0)), (3, .one (.ptr 1 0)), (4, .one (.ptr 2 0)), (5, .one (.ptr 3 0)), (6, .one (.u8 p)), (7, .one (.i64 i)), (8, .one (.i64 k))]) [some ks, some bs, some zs, some ws]) (by kernel_rfl) h)

set_option maxRecDepth 100000 in
theorem vc53c {X : Ctx} {Q : AV → Mem → Prop} (hX : X.P = Try.prog) (zs ws os : List AC) (i : Int) (h : (decide (i < (44 : Int)) = true → Flat zs ∧ Flat ws ∧ Flat os ∧ KR X 53 0 Q (kOf Try.f53 3) (mkS 113 [(4, AV.one (AC.ptr 0 0)), (5, AV.one (AC.ptr 1 0)), (9, AV.one (AC.ptr 2 0)), (10, AV.one (AC.i64 i)), (11, AV.one (AC.i64 (0 : Int)))]) [some zs, some ws, some os]) ∧ (decide (i < (44 : Int)) = false → 176 ≤ List.length os ∧ (List.length (List.take 176 (List.drop 0 os)) = 176 ∧ 176 ≤ List.length zs) ∧ 176 ≤ List.length (layS zs 0 (List.take 176 (List.drop 0 os))) ∧ flatAV (AV.agg (List.take 176 (List.drop 0 (layS zs 0 (List.take 176 (List.drop 0 os)))))) ∧ Q (AV.agg (List.take 176 (List.drop 0 (layS zs 0 (List.take 176 (List.drop 0 os)))))) [])) : KRun X 53 0 Q (kOf Try.f53 2) (mkS 113 [(4, .one (.ptr 0 0)), (5, .one (.ptr 1 0)), (9, .one (.ptr 2 0)), (10, .one (.i64 i))]) [some zs, some ws, some os] :=
  wpRun_ok (hX ▸ baseK_ok T13 mf13 M13) (hX ▸ baseK_call T13_ok M13_ok) (hX ▸ mixed) (hX ▸ ok53) LK_ok (cast (β := wpRun (baseK T13 mf13 M13) [13, 17, 21, 34, 74, 78, 91, 95] [(10, 10), (12, 21), (13, 17), (15, 8), (24, 14)] false (RS.mk Try.f53.results.toList 0 (CS.mk [] [] [0] [])) (LK X 53 0 Q true [(4, LS.mk [2, 3, 4, 5, 6, 7] (CS.mk [] [true, true, true, true] [] [])), (7, LS.mk [2, 3, 4, 5, 6, 7, 8] (CS.mk [] [true, true, true, true] [] [])), (19, LS.mk [4, 5, 9, 10] (CS.mk [] [true, true, true] [] [])), (22, LS.mk [4, 5, 9, 10, 11] (CS.mk [] [true, true, true] [] []))]) Q 2000 (kOf Try.f53 2) (mkS 113 [(4, .one (.ptr 0 0)), (5, .one (.ptr 1 0)), (9, .one (.ptr 2 0)), (10, .one (.i64 i))]) [some zs, some ws, some os]) (by kernel_rfl) h)
set_option maxRecDepth 100000 in
theorem vc53d {X : Ctx} {Q : AV → Mem → Prop} (hX : X.P = Try.prog) (zs ws os : List AC) (i k : Int) (h : (decide (k < (4 : Int)) = true → ((4 : Int) ≠ (0 : Int) ∧ in64 (Int.tdiv i (4 : Int))) ∧ (4 : Int) ≠ (0 : Int) ∧ in64 (Int.tmod i (4 : Int) * (4 : Int)) ∧ in64 (Int.tmod i (4 : Int) * (4 : Int) + k) ∧ ((0 : Int) ≤ i ∧ i < (↑44 : Int)) ∧ ((0 : Int) ≤ k ∧ k < (↑4 : Int)) ∧ gt AC.any ws (0 + Int.toNat i * 4 + Int.toNat k * 1) = AC.u8 (asU8 (gt AC.any ws (0 + Int.toNat i * 4 + Int.toNat k * 1))) ∧ ((0 : Int) ≤ Int.tdiv i (4 : Int) ∧ Int.tdiv i (4 : Int) < (↑11 : Int)) ∧ ((0 : Int) ≤ Int.tmod i (4 : Int) * (4 : Int) + k ∧ Int.tmod i (4 : Int) * (4 : Int) + k < (↑16 : Int)) ∧ (1 = 1 ∧ 0 + Int.toNat (Int.tdiv i (4 : Int)) * 16 + Int.toNat (Int.tmod i (4 : Int) * (4 : Int) + k) * 1 + 1 ≤ List.length os) ∧ in64 (k + (1 : Int)) ∧ Flat zs ∧ Flat ws ∧ Flat (layS os (0 + Int.toNat (Int.tdiv i (4 : Int)) * 16 + Int.toNat (Int.tmod i (4 : Int) * (4 : Int) + k) * 1) [AC.u8 (asU8 (gt AC.any ws (0 + Int.toNat i * 4 + Int.toNat k * 1)))]) ∧ KR X 53 0 Q (kOf Try.f53 3) (mkS 113 [(4, AV.one (AC.ptr 0 0)), (5, AV.one (AC.ptr 1 0)), (9, AV.one (AC.ptr 2 0)), (10, AV.one (AC.i64 i)), (11, AV.one (AC.i64 (k + (1 : Int))))]) [some zs, some ws, some (layS os (0 + Int.toNat (Int.tdiv i (4 : Int)) * 16 + Int.toNat (Int.tmod i (4 : Int) * (4 : Int) + k) * 1) [AC.u8 (asU8 (gt AC.any ws (0 + Int.toNat i * 4 + Int.toNat k * 1)))])]) ∧ (decide (k < (4 : Int)) = false → in64 (i + (1 : Int)) ∧ Flat zs ∧ Flat ws ∧ Flat os ∧ KR X 53 0 Q (kOf Try.f53 2) (mkS 113 [(4, AV.one (AC.ptr 0 0)), (5, AV.one (AC.ptr 1 0)), (9, AV.one (AC.ptr 2 0)), (10, AV.one (AC.i64 (i + (1 : Int))))]) [some zs, some ws, some os])) : KRun X 53 0 Q (kOf Try.f53 3) (mkS 113 [(4, .one (.ptr 0 0)), (5, .one (.ptr 1 0)), (9, .one (.ptr 2 0)), (10, .one (.i64 i)), (11, .one (.i64 k))]) [some zs, some ws, some os] :=
  wpRun_ok (hX ▸ baseK_ok T13 mf13 M13) (hX ▸ baseK_call T13_ok M13_ok) (hX ▸ mixed) (hX ▸ ok53) LK_ok (cast (β := wpRun (baseK T13 mf13 M13) [13, 17, 21, 34, 74, 78, 91, 95] [(10, 10), (12, 21), (13, 17), (15, 8), (24, 14)] false (RS.mk Try.f53.results.toList 0 (CS.mk [] [] [0] [])) (LK X 53 0 Q true [(4, LS.mk [2, 3, 4, 5, 6, 7] (CS.mk [] [true, true, true, true] [] [])), (7, LS.mk [2, 3, 4, 5, 6, 7, 8] (CS.mk [] [true, true, true, true] [] [])), (19, LS.mk [4, 5, 9, 10] (CS.mk [] [true, true, true] [] [])), (22, LS.mk [4, 5, 9, 10, 11] (CS.mk [] [true, true, true] [] []))]) Q 2000 (kOf Try.f53 3) (mkS 113 [(4, .one (.ptr 0 0)), (5, .one (.ptr 1 0)), (9, .one (.ptr 2 0)), (10, .one (.i64 i)), (11, .one (.i64 k))]) [some zs, some ws, some os]) (by kernel_rfl) h)
theorem o53 (i k : Nat) : 0 + Int.toNat (i : Int) * 4 + Int.toNat (k : Int) * 1 = 4 * i + k := by omega
theorem SE_at (key : List (BitVec 8)) {m j : Nat} (h : j < m) (hm : m ≤ 176) : gt AC.any ((SE key m).map AC.u8) j = .u8 (eat key j) := by
  rw [gt_u8_at _ _ (by rw [SE_len]; omega), SE_get key h hm]
theorem l53A {X : Ctx} (hX : X.P = Try.prog) (key : List (BitVec 8)) (hk : key.length = 16) (i : Nat) (hi : i < 4) (K : KRun X 53 0 (Is (.agg ((exL key 176).map AC.u8))) (kOf Try.f53 0) (mkS 113 [(2, .one (.ptr 0 0)), (3, .one (.ptr 1 0)), (4, .one (.ptr 2 0)), (5, .one (.ptr 3 0)), (6, .one (.u8 (pwF (i / 4)))), (7, .one (.i64 (i + 1 : Nat)))]) [some (key.map AC.u8), some (boxT.map AC.u8), some (List.replicate 176 (AC.u8 0)), some ((SE key (4 * i + 4)).map AC.u8)]) : ∀ (d k : Nat), k + d = 4 →
    KRun X 53 0 (Is (.agg ((exL key 176).map AC.u8))) (kOf Try.f53 1) (mkS 113 [(2, .one (.ptr 0 0)), (3, .one (.ptr 1 0)), (4, .one (.ptr 2 0)), (5, .one (.ptr 3 0)), (6, .one (.u8 (pwF ((i - 1) / 4)))), (7, .one (.i64 i)), (8, .one (.i64 k))]) [some (key.map AC.u8), some (boxT.map AC.u8), some (List.replicate 176 (AC.u8 0)), some ((SE key (4 * i + k)).map AC.u8)] := by
  have z : Flat (List.replicate 176 (AC.u8 0)) := by rw [mrep]; exact flat_u8 _
  intro d
  induction d with
  | zero =>
    intro k hkd
    have hkd : k = 4 := by omega
    subst hkd
    rw [show i / 4 = (i - 1) / 4 by omega] at K
    refine vc53b hX _ _ _ _ _ _ _ ⟨fun h => absurd (of_decide_eq_true h) (by omega), fun _ => ⟨fun h => absurd (of_decide_eq_true h) (by omega), fun _ => ?_⟩⟩
    (repeat' (first | exact trivial | exact flat_u8 _ | exact flatA _ | exact allU8_map _ | exact Nat.le_refl _ | refine And.intro ?_ ?_)) <;> (first | omega | exact z | (unfold in64; omega) | exact List.length_map _ | (show Is _ _ _; exact rfl) | skip)
    exact ⟨K⟩
  | succ d ih =>
    intro k hkd
    have ih := ih (k + 1) (by omega)
    have e1 : (4 : Int) * (i : Int) + (k : Int) = ((4 * i + k : Nat) : Int) := by omega
    have hg := gt_u8_at key (4 * i + k) (by omega)
    rw [← eat_lo key (by omega)] at hg
    have hs := SE_set key (m := 4 * i + k) (by omega)
    have hl := SE_len key (4 * i + k)
    refine vc53b hX _ _ _ _ _ _ _ ⟨fun _ => ⟨fun _ => ?_, fun h => absurd (of_decide_eq_false h) (by omega)⟩, fun h => absurd (of_decide_eq_false h) (by omega)⟩
    rw [e1]
    simp only [ixn, o53, hg, asU8, lay1, hs, List.length_map, hl]
    (repeat' (first | exact trivial | exact flat_u8 _ | exact flatA _ | exact allU8_map _ | exact Nat.le_refl _ | refine And.intro ?_ ?_)) <;> (first | omega | exact z | (unfold in64; omega) | exact List.length_map _ | (show Is _ _ _; exact rfl) | skip)
    exact ⟨ih⟩
theorem l53C {X : Ctx} (hX : X.P = Try.prog) (key : List (BitVec 8)) (n r i : Nat) (hi : i = 4 * (n + 1) + r) (hr : 1 ≤ r ∧ r < 4) (h44 : i < 44) (K : KRun X 53 0 (Is (.agg ((exL key 176).map AC.u8))) (kOf Try.f53 0) (mkS 113 [(2, .one (.ptr 0 0)), (3, .one (.ptr 1 0)), (4, .one (.ptr 2 0)), (5, .one (.ptr 3 0)), (6, .one (.u8 (pwF (i / 4)))), (7, .one (.i64 (i + 1 : Nat)))]) [some (key.map AC.u8), some (boxT.map AC.u8), some (List.replicate 176 (AC.u8 0)), some ((SE key (4 * i + 4)).map AC.u8)]) : ∀ (d k : Nat), k + d = 4 →
    KRun X 53 0 (Is (.agg ((exL key 176).map AC.u8))) (kOf Try.f53 1) (mkS 113 [(2, .one (.ptr 0 0)), (3, .one (.ptr 1 0)), (4, .one (.ptr 2 0)), (5, .one (.ptr 3 0)), (6, .one (.u8 (pwF ((i - 1) / 4)))), (7, .one (.i64 i)), (8, .one (.i64 k))]) [some (key.map AC.u8), some (boxT.map AC.u8), some (List.replicate 176 (AC.u8 0)), some ((SE key (4 * i + k)).map AC.u8)] := by
  have z : Flat (List.replicate 176 (AC.u8 0)) := by rw [mrep]; exact flat_u8 _
  have tm : Int.tmod (i : Int) 4 = ((i % 4 : Nat) : Int) := tmod_nat i 4
  intro d
  induction d with
  | zero =>
    intro k hkd
    have hkd : k = 4 := by omega
    subst hkd
    rw [show i / 4 = (i - 1) / 4 by omega] at K
    refine vc53b hX _ _ _ _ _ _ _ ⟨fun h => absurd (of_decide_eq_true h) (by omega), fun _ => ⟨fun _ => ⟨by decide, fun h => absurd (of_decide_eq_true h) (by rw [tm]; omega), fun _ => ?_⟩, fun h => absurd (of_decide_eq_false h) (by omega)⟩⟩
    (repeat' (first | exact trivial | exact flat_u8 _ | exact flatA _ | exact allU8_map _ | exact Nat.le_refl _ | refine And.intro ?_ ?_)) <;> (first | omega | exact z | (unfold in64; omega) | exact List.length_map _ | (show Is _ _ _; exact rfl) | skip)
    exact ⟨K⟩
  | succ d ih =>
    intro k hkd
    have ih := ih (k + 1) (by omega)
    have e4 : (i : Int) - 4 = ((i - 4 : Nat) : Int) := by omega
    have e1 : (i : Int) - 1 = ((i - 1 : Nat) : Int) := by omega
    have hg := SE_at key (m := 4 * i + k) (j := 4 * (i - 4) + k) (by omega) (by omega)
    have hg2 := SE_at key (m := 4 * i + k) (j := 4 * (i - 1) + k) (by omega) (by omega)
    have ev := eat_hi key (n := n + 1) (k := 4 * r + k) (by omega) (by omega) (by omega)
    rw [show 16 * (n + 1) + (4 * r + k) = 4 * i + k by omega, show 16 * (n + 1 - 1) + (4 * r + k) = 4 * (i - 4) + k by omega, show 16 * (n + 1) + (4 * r + k - 4) = 4 * (i - 1) + k by omega] at ev
    have hs := SE_set key (m := 4 * i + k) (by omega)
    have hl := SE_len key (4 * i + k)
    refine vc53b hX _ _ _ _ _ _ _ ⟨fun _ => ⟨fun h => absurd (of_decide_eq_true h) (by omega), fun _ => ⟨by decide, fun h => absurd (of_decide_eq_true h) (by rw [tm]; omega), fun _ => ?_⟩⟩, fun h => absurd (of_decide_eq_false h) (by omega)⟩
    rw [e4, e1]
    simp only [o53, hg, hg2, asU8]
    rw [← ev]
    simp only [lay1, hs, List.length_map, hl]
    (repeat' (first | exact trivial | exact flat_u8 _ | exact flatA _ | exact allU8_map _ | exact Nat.le_refl _ | refine And.intro ?_ ?_)) <;> (first | omega | exact z | (unfold in64; omega) | exact List.length_map _ | (show Is _ _ _; exact rfl) | skip)
    exact ⟨ih⟩
theorem SX_gt (key : List (BitVec 8)) {a m j : Nat} (x : BitVec 8) (h : j < a) (ha : a < m) (hm : m ≤ 176) : gt AC.any ((SX key a x m).map AC.u8) j = .u8 (eat key j) := by
  rw [gt_u8_at _ _ (by rw [SX_len]; omega)]
  unfold SX
  rw [getT_new _ _ _ (by rw [List.length_set, exL_len]; exact hm) (by omega), getD_set_ne _ _ _ _ _ (by omega), E_get key (by omega)]
theorem SX_gta (key : List (BitVec 8)) {a m : Nat} (x : BitVec 8) (ha : a < m) (hm : m ≤ 176) : gt AC.any ((SX key a x m).map AC.u8) a = .u8 x := by
  rw [gt_u8_at _ _ (by rw [SX_len]; omega), SX_at key x ha hm]
theorem l53B {X : Ctx} (hX : X.P = Try.prog) (key : List (BitVec 8)) (n i : Nat) (hi : i = 4 * (n + 1)) (h44 : i < 44) (K : KRun X 53 0 (Is (.agg ((exL key 176).map AC.u8))) (kOf Try.f53 0) (mkS 113 [(2, .one (.ptr 0 0)), (3, .one (.ptr 1 0)), (4, .one (.ptr 2 0)), (5, .one (.ptr 3 0)), (6, .one (.u8 (pwF (i / 4)))), (7, .one (.i64 (i + 1 : Nat)))]) [some (key.map AC.u8), some (boxT.map AC.u8), some (List.replicate 176 (AC.u8 0)), some ((SE key (4 * i + 4)).map AC.u8)]) : ∀ (d k : Nat), k + 1 + d = 4 →
    KRun X 53 0 (Is (.agg ((exL key 176).map AC.u8))) (kOf Try.f53 1) (mkS 113 [(2, .one (.ptr 0 0)), (3, .one (.ptr 1 0)), (4, .one (.ptr 2 0)), (5, .one (.ptr 3 0)), (6, .one (.u8 (pwF ((i - 1) / 4)))), (7, .one (.i64 i)), (8, .one (.i64 (k + 1 : Nat)))]) [some (key.map AC.u8), some (boxT.map AC.u8), some (List.replicate 176 (AC.u8 0)), some ((SX key (4 * i) (eat key (4 * i) ^^^ pwF ((i - 1) / 4)) (4 * i + (k + 1))).map AC.u8)] := by
  have z : Flat (List.replicate 176 (AC.u8 0)) := by rw [mrep]; exact flat_u8 _
  have tm : Int.tmod (i : Int) 4 = ((i % 4 : Nat) : Int) := tmod_nat i 4
  have hp : (i - 1) / 4 = n := by omega
  intro d
  induction d with
  | zero =>
    intro k hkd
    have hkd : k = 3 := by omega
    subst hkd
    have hg := SX_gta key (a := 4 * i) (m := 4 * i + (3 + 1)) (eat key (4 * i) ^^^ pwF ((i - 1) / 4)) (by omega) (by omega)
    have hb := SX_back key (a := 4 * i) (m := 4 * i + (3 + 1)) (eat key (4 * i) ^^^ pwF ((i - 1) / 4)) (by omega) (by omega)
    have hl := SX_len key (4 * i) (eat key (4 * i) ^^^ pwF ((i - 1) / 4)) (4 * i + (3 + 1))
    have ex : eat key (4 * i) ^^^ pwF ((i - 1) / 4) ^^^ pwF ((i - 1) / 4) = eat key (4 * i) := by rw [BitVec.xor_assoc, BitVec.xor_self, BitVec.xor_zero]
    have ep : tmF (pwF ((i - 1) / 4)) (BitVec.ofInt 8 2) = pwF (i / 4) := by
      rw [show i / 4 = (i - 1) / 4 + 1 by omega]
      exact (tm_all _).1
    have o4 : 0 + Int.toNat (i : Int) * 4 + 0 = 4 * i := by omega
    refine vc53b hX _ _ _ _ _ _ _ ⟨fun h => absurd (of_decide_eq_true h) (by omega), fun _ => ⟨fun _ => ⟨by decide, fun _ => ?_, fun h => absurd (of_decide_eq_false h) (by rw [tm]; omega)⟩, fun h => absurd (of_decide_eq_false h) (by omega)⟩⟩
    rw [ep]
    simp only [o4, hg, asU8, ex, lay1, hb, List.length_map, hl]
    (repeat' (first | exact trivial | exact flat_u8 _ | exact flatA _ | exact allU8_map _ | exact Nat.le_refl _ | refine And.intro ?_ ?_)) <;> (first | omega | exact z | (unfold in64; omega) | exact List.length_map _ | (show Is _ _ _; exact rfl) | skip)
    exact ⟨K⟩
  | succ d ih =>
    intro k hkd
    have ih := ih (k + 1) (by omega)
    have e4 : (i : Int) - 4 = ((i - 4 : Nat) : Int) := by omega
    have e1 : (i : Int) - 1 = ((i - 1 : Nat) : Int) := by omega
    have et : Int.tmod (((k + 1 : Nat) : Int) + 1) 4 = (((k + 1 + 1) % 4 : Nat) : Int) := by rw [show ((k + 1 : Nat) : Int) + 1 = ((k + 1 + 1 : Nat) : Int) by omega]; exact tmod_nat _ 4
    have hg := SX_gt key (a := 4 * i) (m := 4 * i + (k + 1)) (j := 4 * (i - 4) + (k + 1)) (eat key (4 * i) ^^^ pwF ((i - 1) / 4)) (by omega) (by omega) (by omega)
    have hg2 := SX_gt key (a := 4 * i) (m := 4 * i + (k + 1)) (j := 4 * (i - 1) + (k + 1 + 1) % 4) (eat key (4 * i) ^^^ pwF ((i - 1) / 4)) (by omega) (by omega) (by omega)
    have ev := eat_box key (n := n + 1) (k := k + 1) (by omega) (by omega)
    rw [if_neg (by omega), BitVec.xor_zero, show 16 * (n + 1) + (k + 1) = 4 * i + (k + 1) by omega, show 16 * (n + 1 - 1) + (k + 1) = 4 * (i - 4) + (k + 1) by omega, show 16 * (n + 1 - 1) + (12 + (k + 1 + 1) % 4) = 4 * (i - 1) + (k + 1 + 1) % 4 by omega] at ev
    have hs := SX_set key (a := 4 * i) (m := 4 * i + (k + 1)) (eat key (4 * i) ^^^ pwF ((i - 1) / 4)) (by omega) (by omega)
    have hl := SX_len key (4 * i) (eat key (4 * i) ^^^ pwF ((i - 1) / 4)) (4 * i + (k + 1))
    refine vc53b hX _ _ _ _ _ _ _ ⟨fun _ => ⟨fun h => absurd (of_decide_eq_true h) (by omega), fun _ => ⟨by decide, fun _ => ?_, fun h => absurd (of_decide_eq_false h) (by rw [tm]; omega)⟩⟩, fun h => absurd (of_decide_eq_false h) (by omega)⟩
    rw [e4, e1, et]
    simp only [o53, hg, hg2, asU8, gt_box, ixn, gt_box']
    rw [← ev]
    simp only [lay1, hs, List.length_map, hl]
    (repeat' (first | exact trivial | exact flat_u8 _ | exact flatA _ | exact allU8_map _ | exact Nat.le_refl _ | refine And.intro ?_ ?_)) <;> (first | omega | exact z | (unfold in64; omega) | exact List.length_map _ | (show Is _ _ _; exact rfl) | skip)
    exact ⟨ih⟩
theorem l53B0 {X : Ctx} (hX : X.P = Try.prog) (key : List (BitVec 8)) (n i : Nat) (hi : i = 4 * (n + 1)) (h44 : i < 44) (K : KRun X 53 0 (Is (.agg ((exL key 176).map AC.u8))) (kOf Try.f53 0) (mkS 113 [(2, .one (.ptr 0 0)), (3, .one (.ptr 1 0)), (4, .one (.ptr 2 0)), (5, .one (.ptr 3 0)), (6, .one (.u8 (pwF (i / 4)))), (7, .one (.i64 (i + 1 : Nat)))]) [some (key.map AC.u8), some (boxT.map AC.u8), some (List.replicate 176 (AC.u8 0)), some ((SE key (4 * i + 4)).map AC.u8)]) :
    KRun X 53 0 (Is (.agg ((exL key 176).map AC.u8))) (kOf Try.f53 1) (mkS 113 [(2, .one (.ptr 0 0)), (3, .one (.ptr 1 0)), (4, .one (.ptr 2 0)), (5, .one (.ptr 3 0)), (6, .one (.u8 (pwF ((i - 1) / 4)))), (7, .one (.i64 i)), (8, .one (.i64 0))]) [some (key.map AC.u8), some (boxT.map AC.u8), some (List.replicate 176 (AC.u8 0)), some ((SE key (4 * i)).map AC.u8)] := by
  have z : Flat (List.replicate 176 (AC.u8 0)) := by rw [mrep]; exact flat_u8 _
  have tm : Int.tmod (i : Int) 4 = ((i % 4 : Nat) : Int) := tmod_nat i 4
  have hp : (i - 1) / 4 = n := by omega
  have K := l53B hX key n i hi h44 K 3 0 rfl
  have e4 : (i : Int) - 4 = ((i - 4 : Nat) : Int) := by omega
  have e1 : (i : Int) - 1 = ((i - 1 : Nat) : Int) := by omega
  have et : Int.tmod ((0 : Int) + 1) 4 = ((1 : Nat) : Int) := by decide
  have o0 : ∀ j : Nat, 0 + Int.toNat (j : Int) * 4 + Int.toNat 0 * 1 = 4 * j := fun j => by omega
  have hg := SE_at key (m := 4 * i) (j := 4 * (i - 4)) (by omega) (by omega)
  have hg2 := SE_at key (m := 4 * i) (j := 4 * (i - 1) + 1) (by omega) (by omega)
  have ev := eat_box key (n := n + 1) (k := 0) (by omega) (by omega)
  rw [if_pos rfl, show 16 * (n + 1) + 0 = 4 * i by omega, show 16 * (n + 1 - 1) + 0 = 4 * (i - 4) by omega, show 16 * (n + 1 - 1) + (12 + (0 + 1) % 4) = 4 * (i - 1) + 1 by omega, show n + 1 - 1 = (i - 1) / 4 by omega] at ev
  have ev2 : eat key (4 * (i - 4)) ^^^ bx (eat key (4 * (i - 1) + 1)) = eat key (4 * i) ^^^ pwF ((i - 1) / 4) := by
    rw [ev, BitVec.xor_assoc _ (pwF ((i - 1) / 4)), BitVec.xor_self, BitVec.xor_zero]
  have hs := SX_set0 key (a := 4 * i) (eat key (4 * i) ^^^ pwF ((i - 1) / 4)) (by omega)
  have hl := SE_len key (4 * i)
  refine vc53b hX _ _ _ _ _ _ _ ⟨fun _ => ⟨fun h => absurd (of_decide_eq_true h) (by omega), fun _ => ⟨by decide, fun _ => ?_, fun h => absurd (of_decide_eq_false h) (by rw [tm]; omega)⟩⟩, fun h => absurd (of_decide_eq_false h) (by omega)⟩
  rw [e4, e1, et]
  simp only [o0, o53, hg, hg2, asU8, gt_box, ixn, gt_box', ev2]
  simp only [lay1, hs, List.length_map, hl]
  (repeat' (first | exact trivial | exact flat_u8 _ | exact flatA _ | exact allU8_map _ | exact Nat.le_refl _ | refine And.intro ?_ ?_)) <;> (first | omega | exact z | (unfold in64; omega) | exact List.length_map _ | (show Is _ _ _; exact rfl) | skip)
  exact ⟨K⟩
theorem l53cd {X : Ctx} (hX : X.P = Try.prog) (key : List (BitVec 8)) : ∀ (d i : Nat), i + d = 44 →
    KRun X 53 0 (Is (.agg ((exL key 176).map AC.u8))) (kOf Try.f53 2) (mkS 113 [(4, .one (.ptr 0 0)), (5, .one (.ptr 1 0)), (9, .one (.ptr 2 0)), (10, .one (.i64 i))]) [some (List.replicate 176 (AC.u8 0)), some ((exL key 176).map AC.u8), some ((SE key (4 * i)).map AC.u8)] := by
  have z : Flat (List.replicate 176 (AC.u8 0)) := by rw [mrep]; exact flat_u8 _
  have inner : ∀ (i : Nat), i < 44 → KRun X 53 0 (Is (.agg ((exL key 176).map AC.u8))) (kOf Try.f53 2) (mkS 113 [(4, .one (.ptr 0 0)), (5, .one (.ptr 1 0)), (9, .one (.ptr 2 0)), (10, .one (.i64 (i + 1 : Nat)))]) [some (List.replicate 176 (AC.u8 0)), some ((exL key 176).map AC.u8), some ((SE key (4 * i + 4)).map AC.u8)] →
      ∀ (d k : Nat), k + d = 4 → KRun X 53 0 (Is (.agg ((exL key 176).map AC.u8))) (kOf Try.f53 3) (mkS 113 [(4, .one (.ptr 0 0)), (5, .one (.ptr 1 0)), (9, .one (.ptr 2 0)), (10, .one (.i64 i)), (11, .one (.i64 k))]) [some (List.replicate 176 (AC.u8 0)), some ((exL key 176).map AC.u8), some ((SE key (4 * i + k)).map AC.u8)] := by
    intro i hi K d
    induction d with
    | zero =>
      intro k hkd
      have hkd : k = 4 := by omega
      subst hkd
      refine vc53d hX _ _ _ _ _ ⟨fun h => absurd (of_decide_eq_true h) (by omega), fun _ => ?_⟩
      (repeat' (first | exact trivial | exact flat_u8 _ | exact flatA _ | exact allU8_map _ | exact Nat.le_refl _ | refine And.intro ?_ ?_)) <;> (first | omega | exact z | (unfold in64; omega) | exact List.length_map _ | (show Is _ _ _; exact rfl) | skip)
      exact ⟨K⟩
    | succ d ih =>
      intro k hkd
      have ih := ih (k + 1) (by omega)
      have td : Int.tdiv (i : Int) 4 = ((i / 4 : Nat) : Int) := tdiv_nat i 4
      have tm : Int.tmod (i : Int) 4 * 4 + (k : Int) = ((i % 4 * 4 + k : Nat) : Int) := by rw [show Int.tmod (i : Int) 4 = ((i % 4 : Nat) : Int) from tmod_nat i 4]; omega
      have tm2 : Int.tmod (i : Int) 4 * 4 = ((i % 4 * 4 : Nat) : Int) := by rw [show Int.tmod (i : Int) 4 = ((i % 4 : Nat) : Int) from tmod_nat i 4]; omega
      have o16 : 0 + Int.toNat ((i / 4 : Nat) : Int) * 16 + Int.toNat ((i % 4 * 4 + k : Nat) : Int) * 1 = 4 * i + k := by omega
      have hE := exL_len key 176
      have hg := gt_u8_at (exL key 176) (4 * i + k) (by omega)
      rw [E_get key (by omega)] at hg
      have hs := SE_set key (m := 4 * i + k) (by omega)
      have hl := SE_len key (4 * i + k)
      clear hE
      refine vc53d hX _ _ _ _ _ ⟨fun _ => ?_, fun h => absurd (of_decide_eq_false h) (by omega)⟩
      rw [tm, tm2, td]
      simp only [o16, o53, hg, asU8, lay1, hs, List.length_map, hl]
      refine ⟨⟨by decide, by unfold in64; omega⟩, by decide, by unfold in64; omega, by unfold in64; omega, ?_⟩
      (repeat' (first | exact trivial | exact flat_u8 _ | exact flatA _ | exact allU8_map _ | exact Nat.le_refl _ | refine And.intro ?_ ?_)) <;> (first | omega | exact z | (unfold in64; omega) | exact List.length_map _ | (show Is _ _ _; exact rfl) | skip)
      exact ⟨ih⟩
  intro d
  induction d with
  | zero =>
    intro i hi
    have hi : i = 44 := by omega
    subst hi
    have e : SE key (4 * 44) = exL key 176 := SE_end key
    have hl := exL_len key 176
    refine vc53c hX _ _ _ _ ⟨fun h => absurd (of_decide_eq_true h) (by omega), fun _ => ?_⟩
    rw [e]
    simp only [hide_eq, tkm, tk0, map_as8, layR, layC, layM, lay1, tkn, List.drop_zero, Nat.zero_add, Nat.mul_one, Nat.reduceAdd, Nat.le_refl, Nat.min_self, Nat.reduceLeDiff, same_self, Int.toNat_natCast, List.length_map, List.length_append, List.length_replicate, List.length_take, List.length_drop, tab16_len, hl]
    (repeat' (first | exact trivial | exact flat_u8 _ | exact flatA _ | exact allU8_map _ | exact Nat.le_refl _ | refine And.intro ?_ ?_)) <;> (first | omega | exact z | (unfold in64; omega) | exact List.length_map _ | (show Is _ _ _; exact rfl) | skip)
  | succ d ih =>
    intro i hi
    have K := inner i (by omega) (ih (i + 1) (by omega)) 4 0 rfl
    refine vc53c hX _ _ _ _ ⟨fun _ => ?_, fun h => absurd (of_decide_eq_false h) (by omega)⟩
    (repeat' (first | exact trivial | exact flat_u8 _ | exact flatA _ | exact allU8_map _ | exact Nat.le_refl _ | refine And.intro ?_ ?_)) <;> (first | omega | exact z | (unfold in64; omega) | exact List.length_map _ | (show Is _ _ _; exact rfl) | skip)
    exact ⟨K⟩
theorem SE_0 (key : List (BitVec 8)) : (SE key (4 * 0)).map AC.u8 = List.replicate 176 (AC.u8 0) := by
  unfold SE
  rw [Nat.mul_zero, List.take_zero, List.drop_zero, List.nil_append, List.map_replicate]
theorem l53a {X : Ctx} (hX : X.P = Try.prog) (key : List (BitVec 8)) (hk : key.length = 16) : ∀ (d i : Nat), i + d = 44 →
    KRun X 53 0 (Is (.agg ((exL key 176).map AC.u8))) (kOf Try.f53 0) (mkS 113 [(2, .one (.ptr 0 0)), (3, .one (.ptr 1 0)), (4, .one (.ptr 2 0)), (5, .one (.ptr 3 0)), (6, .one (.u8 (pwF ((i - 1) / 4)))), (7, .one (.i64 i))]) [some (key.map AC.u8), some (boxT.map AC.u8), some (List.replicate 176 (AC.u8 0)), some ((SE key (4 * i)).map AC.u8)] := by
  have z : Flat (List.replicate 176 (AC.u8 0)) := by rw [mrep]; exact flat_u8 _
  intro d
  induction d with
  | zero =>
    intro i hi
    have hi : i = 44 := by omega
    subst hi
    have e : SE key (4 * 44) = exL key 176 := SE_end key
    have K := l53cd hX key 44 0 rfl
    rw [SE_0] at K
    refine vc53a hX _ _ _ _ _ _ ⟨fun h => absurd (of_decide_eq_true h) (by omega), fun _ => ?_⟩
    rw [e]
    (repeat' (first | exact trivial | exact flat_u8 _ | exact flatA _ | exact allU8_map _ | exact Nat.le_refl _ | refine And.intro ?_ ?_)) <;> (first | omega | exact z | (unfold in64; omega) | exact List.length_map _ | (show Is _ _ _; exact rfl) | skip)
    exact ⟨K⟩
  | succ d ih =>
    intro i hi
    have ih := ih (i + 1) (by omega)
    rw [Nat.add_sub_cancel] at ih
    have K : KRun X 53 0 (Is (.agg ((exL key 176).map AC.u8))) (kOf Try.f53 1) (mkS 113 [(2, .one (.ptr 0 0)), (3, .one (.ptr 1 0)), (4, .one (.ptr 2 0)), (5, .one (.ptr 3 0)), (6, .one (.u8 (pwF ((i - 1) / 4)))), (7, .one (.i64 i)), (8, .one (.i64 (0 : Nat)))]) [some (key.map AC.u8), some (boxT.map AC.u8), some (List.replicate 176 (AC.u8 0)), some ((SE key (4 * i + 0)).map AC.u8)] := by
      by_cases h4 : i < 4
      · exact l53A hX key hk i h4 ih 4 0 rfl
      · by_cases h0 : i % 4 = 0
        · exact l53B0 hX key (i / 4 - 1) i (by omega) (by omega) ih
        · exact l53C hX key (i / 4 - 1) (i % 4) i (by omega) (by omega) (by omega) ih 4 0 rfl
    refine vc53a hX _ _ _ _ _ _ ⟨fun _ => ?_, fun h => absurd (of_decide_eq_false h) (by omega)⟩
    (repeat' (first | exact trivial | exact flat_u8 _ | exact flatA _ | exact allU8_map _ | exact Nat.le_refl _ | refine And.intro ?_ ?_)) <;> (first | omega | exact z | (unfold in64; omega) | exact List.length_map _ | (show Is _ _ _; exact rfl) | skip)
    exact ⟨K⟩
theorem s53 (key : List (BitVec 8)) (hk : key.length = 16) : Spec Try.prog 53 [.agg (key.map AC.u8), .agg (boxT.map AC.u8)] [] (Is (.agg ((exL key 176).map AC.u8))) := by
  refine Spec.of_run ok53 fun X hX => vc53e hX _ _ ?_
  have K := l53a hX key hk 44 0 rfl
  rw [SE_0] at K
  have z : Flat (List.replicate 176 (AC.u8 0)) := by rw [mrep]; exact flat_u8 _
  exact ⟨flat_u8 _, flat_u8 _, z, z, ⟨K⟩⟩
end DH

noncomputable section
namespace DH
open Go Go.Proofs
def keyOf (cs : List AC) : List (BitVec 8) := (List.map asU8 cs).take 16
theorem keyOf_ex (key : List (BitVec 8)) (hk : key.length = 16) : keyOf ((exL key 176).map AC.u8) = key := by
  unfold keyOf
  rw [map_as8]
  apply List.ext_getElem (by rw [List.length_take, exL_len, hk]; omega)
  intro j h1 h2
  have := eat_lo key (j := j) (by omega)
  rw [← E_get key (by omega), List.getD_eq_getElem?_getD, List.getD_eq_getElem?_getD, List.getElem?_eq_getElem h2, List.getElem?_eq_getElem (by rw [exL_len]; omega)] at this
  rw [List.getElem_take]
  exact this
noncomputable def T14 : Tab := fun f xs => match f, xs with
  | 53, [.agg cs, .agg bs] => some ([allU8 cs ∧ cs.length = 16 ∧ bs = boxT.map AC.u8], .agg (hide ((exL (cs.map asU8) 176).map AC.u8)))
  | 45, [.agg (.b true :: cs), .agg bs] => some ([cs = (exL (keyOf cs) 176).map AC.u8 ∧ (keyOf cs).length = 16 ∧ allU8 bs ∧ bs.length = 16], .agg (hide ((encF (keyOf cs) (bs.map asU8)).map AC.u8)))
  | 45, [.agg (.b false :: cs), .agg bs] => some ([allU8 cs ∧ cs.length = 176 ∧ allU8 bs ∧ bs.length = 16], .agg (hide ((encF zkey (bs.map asU8)).map AC.u8)))
  | f, xs => T13 f xs
theorem T14_ok : TabOk Try.prog T14 := by
  intro f xs cs r h hc
  unfold T14 at h
  split at h
  · obtain ⟨rfl, rfl⟩ := Prod.mk.inj (Option.some.inj h)
    obtain ⟨h1, h2, rfl⟩ := hc.1
    rename_i cs
    have := s53 (cs.map asU8) (by rw [List.length_map]; exact h2)
    rw [← h1] at this
    rw [hide_eq]
    exact ⟨⟨_, _, ok53⟩, this, exactL_map _ (fun _ => rfl) _⟩
  · obtain ⟨rfl, rfl⟩ := Prod.mk.inj (Option.some.inj h)
    obtain ⟨h1, h2, h3, h4⟩ := hc.1
    rename_i cs bs
    have := s45t (keyOf cs) (bs.map asU8) (by rw [List.length_map]; exact h4)
    unfold kc at this
    rw [← h1, ← h3] at this
    rw [hide_eq]
    exact ⟨⟨_, _, ok45⟩, this, exactL_map _ (fun _ => rfl) _⟩
  · obtain ⟨rfl, rfl⟩ := Prod.mk.inj (Option.some.inj h)
    obtain ⟨h1, h2, h3, h4⟩ := hc.1
    rename_i cs bs
    have := s45f (cs.map asU8) (by rw [List.length_map]; exact h2) (bs.map asU8) (by rw [List.length_map]; exact h4)
    unfold kc at this
    rw [← h1, ← h3] at this
    rw [hide_eq]
    exact ⟨⟨_, _, ok45⟩, this, exactL_map _ (fun _ => rfl) _⟩
  · exact T13_ok _ _ _ _ h hc
set_option maxRecDepth 100000 in
theorem vc46 {X : Ctx} {Q : AV → Mem → Prop} (hX : X.P = Try.prog) (ks bs : List AC) (h : (List.length (hide (List.map AC.u8 boxT)) = 256 ∧ 256 ≤ 256) ∧ 16 ≤ List.length ks ∧ 256 ≤ List.length (layS (List.replicate 256 (AC.u8 (0 : BitVec 8))) 0 (hide (List.map AC.u8 boxT))) ∧ Flat (List.take 16 (List.drop 0 ks)) ∧ Flat (List.take 256 (List.drop 0 (layS (List.replicate 256 (AC.u8 (0 : BitVec 8))) 0 (hide (List.map AC.u8 boxT))))) ∧ (allU8 (List.take 16 (List.drop 0 ks)) ∧ List.length (List.take 16 (List.drop 0 ks)) = 16 ∧ List.take 256 (List.drop 0 (layS (List.replicate 256 (AC.u8 (0 : BitVec 8))) 0 (hide (List.map AC.u8 boxT)))) = List.map AC.u8 boxT) ∧ (List.length (hide (List.map AC.u8 (exL (List.map asU8 (List.take 16 (List.drop 0 ks))) 176))) = 176 ∧ 176 ≤ 176) ∧ 16 ≤ List.length bs ∧ ((0 : Int) ≤ (0 : Int) ∧ (0 : Int) < (↑11 : Int)) ∧ 16 ≤ List.length (layS (List.replicate 176 (AC.u8 (0 : BitVec 8))) 0 (hide (List.map AC.u8 (exL (List.map asU8 (List.take 16 (List.drop 0 ks))) 176)))) ∧ Flat (List.take 16 (List.drop 0 bs)) ∧ Flat (List.take 16 (List.drop 0 (layS (List.replicate 176 (AC.u8 (0 : BitVec 8))) 0 (hide (List.map AC.u8 (exL (List.map asU8 (List.take 16 (List.drop 0 ks))) 176)))))) ∧ (allU8 (List.take 16 (List.drop 0 bs)) ∧ List.length (List.take 16 (List.drop 0 bs)) = 16 ∧ allU8 (List.take 16 (List.drop 0 (layS (List.replicate 176 (AC.u8 (0 : BitVec 8))) 0 (hide (List.map AC.u8 (exL (List.map asU8 (List.take 16 (List.drop 0 ks))) 176)))))) ∧ List.length (List.take 16 (List.drop 0 (layS (List.replicate 176 (AC.u8 (0 : BitVec 8))) 0 (hide (List.map AC.u8 (exL (List.map asU8 (List.take 16 (List.drop 0 ks))) 176)))))) = 16) ∧ (List.length (hide (List.map AC.u8 (xorL (List.map asU8 (List.take 16 (List.drop 0 bs))) (List.map asU8 (List.take 16 (List.drop 0 (layS (List.replicate 176 (AC.u8 (0 : BitVec 8))) 0 (hide (List.map AC.u8 (exL (List.map asU8 (List.take 16 (List.drop 0 ks))) 176)))))))))) = 16 ∧ 16 ≤ List.length bs) ∧ Flat (layS bs 0 (hide (List.map AC.u8 (xorL (List.map asU8 (List.take 16 (List.drop 0 bs))) (List.map asU8 (List.take 16 (List.drop 0 (layS (List.replicate 176 (AC.u8 (0 : BitVec 8))) 0 (hide (List.map AC.u8 (exL (List.map asU8 (List.take 16 (List.drop 0 ks))) 176))))))))))) ∧ Flat (List.replicate 16 (AC.u8 (0 : BitVec 8))) ∧ Flat (layS (List.replicate 256 (AC.u8 (0 : BitVec 8))) 0 (hide (List.map AC.u8 boxT))) ∧ Flat (layS (List.replicate 176 (AC.u8 (0 : BitVec 8))) 0 (hide (List.map AC.u8 (exL (List.map asU8 (List.take 16 (List.drop 0 ks))) 176)))) ∧ KR X 46 0 Q (kOf Try.f46 0) (mkS 109 [(3, AV.one (AC.ptr 0 0)), (4, AV.one (AC.ptr 1 0)), (5, AV.one (AC.ptr 2 0)), (6, AV.one (AC.ptr 3 0)), (7, AV.one (AC.i64 (1 : Int)))]) [some (layS bs 0 (hide (List.map AC.u8 (xorL (List.map asU8 (List.take 16 (List.drop 0 bs))) (List.map asU8 (List.take 16 (List.drop 0 (layS (List.replicate 176 (AC.u8 (0 : BitVec 8))) 0 (hide (List.map AC.u8 (exL (List.map asU8 (List.take 16 (List.drop 0 ks))) 176))))))))))), some (List.replicate 16 (AC.u8 (0 : BitVec 8))), some (layS (List.replicate 256 (AC.u8 (0 : BitVec 8))) 0 (hide (List.map AC.u8 boxT))), some (layS (List.replicate 176 (AC.u8 (0 : BitVec 8))) 0 (hide (List.map AC.u8 (exL (List.map asU8 (List.take 16 (List.drop 0 ks))) 176))))]) : KRun X 46 0 Q ([.code (bodyOf Try.f46)]) (slots [.agg ks, .agg bs] Try.f46.ntmps) [] :=
  wpRun_ok (hX ▸ baseK_ok T14 mf13 M13) (hX ▸ baseK_call T14_ok M13_ok) (hX ▸ mixed) (hX ▸ ok46) LK_ok (cast (β := wpRun (baseK T14 mf13 M13) [23, 27, 31, 52, 55, 60] [(22, 40), (23, 5)] false (RS.mk Try.f46.results.toList 0 (CS.mk [] [] [0] [])) (LK X 46 0 Q true [(5, LS.mk [3, 4, 5, 6, 7] (CS.mk [] [true, true, true, true] [] [])), (9, LS.mk [3, 4, 5, 6, 7, 8, 9, 10] (CS.mk [] [true, true, true, true, true, true] [] [])), (12, LS.mk [3, 4, 5, 6, 7, 8, 9, 10, 11] (CS.mk [] [true, true, true, true, true, true] [] [])), (17, LS.mk [3, 4, 5, 6, 7, 8, 9, 12] (CS.mk [] [true, true, true, true, true, true] [] [])), (20, LS.mk [3, 4, 5, 6, 7, 8, 9, 12, 13] (CS.mk [] [true, true, true, true, true, true] [] []))]) Q 2000 ([.code (bodyOf Try.f46)]) (slots [.agg ks, .agg bs] Try.f46.ntmps) []) (by kernel_rfl) h)
set_option maxRecDepth 100000 in
theorem vc46a {X : Ctx} {Q : AV → Mem → Prop} (hX : X.P = Try.prog) (bs zs xs ks : List AC) (n : Int) (h : (decide (n ≤ (10 : Int)) = true → Flat bs ∧ Flat zs ∧ Flat xs ∧ Flat ks ∧ Flat (List.replicate 16 (AC.u8 (0 : BitVec 8))) ∧ Flat (List.replicate 16 (AC.u8 (0 : BitVec 8))) ∧ KR X 46 0 Q (kOf Try.f46 1) (mkS 109 [(3, AV.one (AC.ptr 0 0)), (4, AV.one (AC.ptr 1 0)), (5, AV.one (AC.ptr 2 0)), (6, AV.one (AC.ptr 3 0)), (7, AV.one (AC.i64 n)), (8, AV.one (AC.ptr 4 0)), (9, AV.one (AC.ptr 5 0)), (10, AV.one (AC.i64 (0 : Int)))]) [some bs, some zs, some xs, some ks, some (List.replicate 16 (AC.u8 (0 : BitVec 8))), some (List.replicate 16 (AC.u8 (0 : BitVec 8)))]) ∧ (decide (n ≤ (10 : Int)) = false → 16 ≤ List.length bs ∧ (List.length (List.take 16 (List.drop 0 bs)) = 16 ∧ 16 ≤ List.length zs) ∧ 16 ≤ List.length (layS zs 0 (List.take 16 (List.drop 0 bs))) ∧ flatAV (AV.agg (List.take 16 (List.drop 0 (layS zs 0 (List.take 16 (List.drop 0 bs)))))) ∧ Q (AV.agg (List.take 16 (List.drop 0 (layS zs 0 (List.take 16 (List.drop 0 bs)))))) [])) : KRun X 46 0 Q (kOf Try.f46 0) (mkS 109 [(3, .one (.ptr 0 0)), (4, .one (.ptr 1 0)), (5, .one (.ptr 2 0)), (6, .one (.ptr 3 0)), (7, .one (.i64 n))]) [some bs, some zs, some xs, some ks] :=
  wpRun_ok (hX ▸ baseK_ok T14 mf13 M13) (hX ▸ baseK_call T14_ok M13_ok) (hX ▸ mixed) (hX ▸ ok46) LK_ok (cast (β := wpRun (baseK T14 mf13 M13) [23, 27, 31, 52, 55, 60] [(22, 40), (23, 5)] false (RS.mk Try.f46.results.toList 0 (CS.mk [] [] [0] [])) (LK X 46 0 Q true [(5, LS.mk [3, 4, 5, 6, 7] (CS.mk [] [true, true, true, true] [] [])), (9, LS.mk [3, 4, 5, 6, 7, 8, 9, 10] (CS.mk [] [true, true, true, true, true, true] [] [])), (12, LS.mk [3, 4, 5, 6, 7, 8, 9, 10, 11] (CS.mk [] [true, true, true, true, true, true] [] [])), (17, LS.mk [3, 4, 5, 6, 7, 8, 9, 12] (CS.mk [] [true, true, true, true, true, true] [] [])), (20, LS.mk [3, 4, 5, 6, 7, 8, 9, 12, 13] (CS.mk [] [true, true, true, true, true, true] [] []))]) Q 2000 (kOf Try.f46 0) (mkS 109 [(3, .one (.ptr 0 0)), (4, .one (.ptr 1 0)), (5, .one (.ptr 2 0)), (6, .one (.ptr 3 0)), (7, .one (.i64 n))]) [some bs, some zs, some xs, some ks]) (by kernel_rfl) h)
set_option maxRecDepth 100000 in
theorem vc46b {X : Ctx} {Q : AV → Mem → Prop} (hX : X.P = Try.prog) (bs zs xs ks us vs : List AC) (n c : Int) (h : (decide (c < (4 : Int)) = true → Flat bs ∧ Flat zs ∧ Flat xs ∧ Flat ks ∧ Flat us ∧ Flat vs ∧ KR X 46 0 Q (kOf Try.f46 2) (mkS 109 [(3, AV.one (AC.ptr 0 0)), (4, AV.one (AC.ptr 1 0)), (5, AV.one (AC.ptr 2 0)), (6, AV.one (AC.ptr 3 0)), (7, AV.one (AC.i64 n)), (8, AV.one (AC.ptr 4 0)), (9, AV.one (AC.ptr 5 0)), (10, AV.one (AC.i64 c)), (11, AV.one (AC.i64 (0 : Int)))]) [some bs, some zs, some xs, some ks, some us, some vs]) ∧ (decide (c < (4 : Int)) = false → 16 ≤ List.length us ∧ (List.length (List.take 16 (List.drop 0 us)) = 16 ∧ 16 ≤ List.length vs) ∧ Flat bs ∧ Flat zs ∧ Flat xs ∧ Flat ks ∧ Flat us ∧ Flat (layS vs 0 (List.take 16 (List.drop 0 us))) ∧ KR X 46 0 Q (kOf Try.f46 3) (mkS 109 [(3, AV.one (AC.ptr 0 0)), (4, AV.one (AC.ptr 1 0)), (5, AV.one (AC.ptr 2 0)), (6, AV.one (AC.ptr 3 0)), (7, AV.one (AC.i64 n)), (8, AV.one (AC.ptr 4 0)), (9, AV.one (AC.ptr 5 0)), (12, AV.one (AC.i64 (0 : Int)))]) [some bs, some zs, some xs, some ks, some us, some (layS vs 0 (List.take 16 (List.drop 0 us)))])) : KRun X 46 0 Q (kOf Try.f46 1) (mkS 109 [(3, .one (.ptr 0 0)), (4, .one (.ptr 1 0)), (5, .one (.ptr 2 0)), (6, .one (.ptr 3 0)), (7, .one (.i64 n)), (8, .one (.ptr 4 0)), (9, .one (.ptr 5 0)), (10, .one (.i64 c))]) [some bs, some zs, some xs, some ks, some us, some vs] :=
  wpRun_ok (hX ▸ baseK_ok T14 mf13 M13) (hX ▸ baseK_call T14_ok M13_ok) (hX ▸ mixed) (hX ▸ ok46) LK_ok (cast (β := wpRun (baseK T14 mf13 M13) [23, 27, 31, 52, 55, 60] [(22, 40), (23, 5)] false (RS.mk Try.f46.results.toList 0 (CS.mk [] [] [0] [])) (LK X 46 0 Q true [(5, LS.mk [3, 4, 5, 6, 7] (CS.mk [] [true, true, true, true] [] [])), (9, LS.mk [3, 4, 5, 6, 7, 8, 9, 10] (CS.mk [] [true, true, true, true, true, true] [] [])), (12, LS.mk [3, 4, 5, 6, 7, 8, 9, 10, 11] (CS.mk [] [true, true, true, true, true, true] [] [])), (17, LS.mk [3, 4, 5, 6, 7, 8, 9, 12] (CS.mk [] [true, true, true, true, true, true] [] [])), (20, LS.mk [3, 4, 5, 6, 7, 8, 9, 12, 13] (CS.mk [] [true, true, true, true, true, true] [] []))]) Q 2000 (kOf Try.f46 1) (mkS 109 [(3, .one (.ptr 0 0)), (4, .one (.ptr 1 0)), (5, .one (.ptr 2 0)), (6, .one (.ptr 3 0)), (7, .one (.i64 n)), (8, .one (.ptr 4 0)), (9, .one (.ptr 5 0)), (10, .one (.i64 c))]) [some bs, some zs, some xs, some ks, some us, some vs]) (by kernel_rfl) h)
set_option maxRecDepth 100000 in
theorem vc46c {X : Ctx} {Q : AV → Mem → Prop} (hX : X.P = Try.prog) (bs zs xs ks us vs : List AC) (n c r : Int) (h : (decide (r < (4 : Int)) = true → in64 ((4 : Int) * c) ∧ in64 ((4 : Int) * c + r) ∧ in64 (c + r) ∧ (4 : Int) ≠ (0 : Int) ∧ in64 (Int.tmod (c + r) (4 : Int) * (4 : Int)) ∧ in64 (Int.tmod (c + r) (4 : Int) * (4 : Int) + r) ∧ ((0 : Int) ≤ Int.tmod (c + r) (4 : Int) * (4 : Int) + r ∧ Int.tmod (c + r) (4 : Int) * (4 : Int) + r < (↑16 : Int)) ∧ gt AC.any bs (0 + Int.toNat (Int.tmod (c + r) (4 : Int) * (4 : Int) + r) * 1) = AC.u8 (asU8 (gt AC.any bs (0 + Int.toNat (Int.tmod (c + r) (4 : Int) * (4 : Int) + r) * 1))) ∧ gt AC.any xs (0 + Int.toNat (↑(BitVec.toNat (asU8 (gt AC.any bs (0 + Int.toNat (Int.tmod (c + r) (4 : Int) * (4 : Int) + r) * 1)))) : Int) * 1) = AC.u8 (asU8 (gt AC.any xs (0 + Int.toNat (↑(BitVec.toNat (asU8 (gt AC.any bs (0 + Int.toNat (Int.tmod (c + r) (4 : Int) * (4 : Int) + r) * 1)))) : Int) * 1))) ∧ ((0 : Int) ≤ (4 : Int) * c + r ∧ (4 : Int) * c + r < (↑16 : Int)) ∧ (1 = 1 ∧ 0 + Int.toNat ((4 : Int) * c + r) * 1 + 1 ≤ List.length us) ∧ in64 (r + (1 : Int)) ∧ Flat bs ∧ Flat zs ∧ Flat xs ∧ Flat ks ∧ Flat (layS us (0 + Int.toNat ((4 : Int) * c + r) * 1) [AC.u8 (asU8 (gt AC.any xs (0 + Int.toNat (↑(BitVec.toNat (asU8 (gt AC.any bs (0 + Int.toNat (Int.tmod (c + r) (4 : Int) * (4 : Int) + r) * 1)))) : Int) * 1)))]) ∧ Flat vs ∧ KR X 46 0 Q (kOf Try.f46 2) (mkS 109 [(3, AV.one (AC.ptr 0 0)), (4, AV.one (AC.ptr 1 0)), (5, AV.one (AC.ptr 2 0)), (6, AV.one (AC.ptr 3 0)), (7, AV.one (AC.i64 n)), (8, AV.one (AC.ptr 4 0)), (9, AV.one (AC.ptr 5 0)), (10, AV.one (AC.i64 c)), (11, AV.one (AC.i64 (r + (1 : Int))))]) [some bs, some zs, some xs, some ks, some (layS us (0 + Int.toNat ((4 : Int) * c + r) * 1) [AC.u8 (asU8 (gt AC.any xs (0 + Int.toNat (↑(BitVec.toNat (asU8 (gt AC.any bs (0 + Int.toNat (Int.tmod (c + r) (4 : Int) * (4 : Int) + r) * 1)))) : Int) * 1)))]), some vs]) ∧ (decide (r < (4 : Int)) = false → in64 (c + (1 : Int)) ∧ Flat bs ∧ Flat zs ∧ Flat xs ∧ Flat ks ∧ Flat us ∧ Flat vs ∧ KR X 46 0 Q (kOf Try.f46 1) (mkS 109 [(3, AV.one (AC.ptr 0 0)), (4, AV.one (AC.ptr 1 0)), (5, AV.one (AC.ptr 2 0)), (6, AV.one (AC.ptr 3 0)), (7, AV.one (AC.i64 n)), (8, AV.one (AC.ptr 4 0)), (9, AV.one (AC.ptr 5 0)), (10, AV.one (AC.i64 (c + (1 : Int))))]) [some bs, some zs, some xs, some ks, some us, some vs])) : KRun X 46 0 Q (kOf Try.f46 2) (mkS 109 [(3, .one (.ptr 0 0)), (4, .one (.ptr 1 0)), (5, .one (.ptr 2 0)), (6, .one (.ptr 3 0)), (7, .one (.i64 n)), (8, .one (.ptr 4 0)), (9, .one (.ptr 5 0)), (10, .one (.i64 c)), (11, .one (.i64 r))]) [some bs, some zs, some xs, some ks, some us, some vs] :=
  wpRun_ok (hX ▸ baseK_ok T14 mf13 M13) (hX ▸ baseK_call T14_ok M13_ok) (hX ▸ mixed) (hX ▸ ok46) LK_ok (cast (β := wpRun (baseK T14 mf13 M13) [23, 27, 31, 52, 55, 60] [(22, 40), (23, 5)] false (RS.mk Try.f46.results.toList 0 (CS.mk [] [] [0] [])) (LK X 46 0 Q true [(5, LS.mk [3, 4, 5, 6, 7] (CS.mk [] [true, true, true, true] [] [])), (9, LS.mk [3, 4, 5, 6, 7, 8, 9, 10] (CS.mk [] [true, true, true, true, true, true] [] [])), (12, LS.mk [3, 4, 5, 6, 7, 8, 9, 10, 11] (CS.mk [] [true, true, true, true, true, true] [] [])), (17, LS.mk [3, 4, 5, 6, 7, 8, 9, 12] (CS.mk [] [true, true, true, true, true, true] [] [])), (20, LS.mk [3, 4, 5, 6, 7, 8, 9, 12, 13] (CS.mk [] [true, true, true, true, true, true] [] []))]) Q 2000 (kOf Try.f46 2) (mkS 109 [(3, .one (.ptr 0 0)), (4, .one (.ptr 1 0)), (5, .one (.ptr 2 0)), (6, .one (.ptr 3 0)), (7, .one (.i64 n)), (8, .one (.ptr 4 0)), (9, .one (.ptr 5 0)), (10, .one (.i64 c)), (11, .one (.i64 r))]) [some bs, some zs, some xs, some ks, some us, some vs]) (by kernel_rfl) h)
set_option maxRecDepth 100000 in
theorem vc46d {X : Ctx} {Q : AV → Mem → Prop} (hX : X.P = Try.prog) (bs zs xs ks us vs : List AC) (n c : Int) (h : (decide (c < (4 : Int)) = true → (decide (n < (10 : Int)) = true → Flat bs ∧ Flat zs ∧ Flat xs ∧ Flat ks ∧ Flat us ∧ Flat vs ∧ KR X 46 0 Q (kOf Try.f46 4) (mkS 109 [(3, AV.one (AC.ptr 0 0)), (4, AV.one (AC.ptr 1 0)), (5, AV.one (AC.ptr 2 0)), (6, AV.one (AC.ptr 3 0)), (7, AV.one (AC.i64 n)), (8, AV.one (AC.ptr 4 0)), (9, AV.one (AC.ptr 5 0)), (12, AV.one (AC.i64 c)), (13, AV.one (AC.i64 (0 : Int)))]) [some bs, some zs, some xs, some ks, some us, some vs]) ∧ (decide (n < (10 : Int)) = false → 16 ≤ List.length vs ∧ ((0 : Int) ≤ n ∧ n < (↑11 : Int)) ∧ 0 + Int.toNat n * 16 + 16 ≤ List.length ks ∧ Flat (List.take 16 (List.drop 0 vs)) ∧ Flat (List.take 16 (List.drop (0 + Int.toNat n * 16) ks)) ∧ (allU8 (List.take 16 (List.drop 0 vs)) ∧ List.length (List.take 16 (List.drop 0 vs)) = 16 ∧ allU8 (List.take 16 (List.drop (0 + Int.toNat n * 16) ks)) ∧ List.length (List.take 16 (List.drop (0 + Int.toNat n * 16) ks)) = 16) ∧ (List.length (hide (List.map AC.u8 (xorL (List.map asU8 (List.take 16 (List.drop 0 vs))) (List.map asU8 (List.take 16 (List.drop (0 + Int.toNat n * 16) ks)))))) = 16 ∧ 16 ≤ List.length bs) ∧ in64 (n + (1 : Int)) ∧ Flat (layS bs 0 (hide (List.map AC.u8 (xorL (List.map asU8 (List.take 16 (List.drop 0 vs))) (List.map asU8 (List.take 16 (List.drop (0 + Int.toNat n * 16) ks))))))) ∧ Flat zs ∧ Flat xs ∧ Flat ks ∧ KR X 46 0 Q (kOf Try.f46 0) (mkS 109 [(3, AV.one (AC.ptr 0 0)), (4, AV.one (AC.ptr 1 0)), (5, AV.one (AC.ptr 2 0)), (6, AV.one (AC.ptr 3 0)), (7, AV.one (AC.i64 (n + (1 : Int))))]) [some (layS bs 0 (hide (List.map AC.u8 (xorL (List.map asU8 (List.take 16 (List.drop 0 vs))) (List.map asU8 (List.take 16 (List.drop (0 + Int.toNat n * 16) ks))))))), some zs, some xs, some ks])) ∧ (decide (c < (4 : Int)) = false → 16 ≤ List.length vs ∧ ((0 : Int) ≤ n ∧ n < (↑11 : Int)) ∧ 0 + Int.toNat n * 16 + 16 ≤ List.length ks ∧ Flat (List.take 16 (List.drop 0 vs)) ∧ Flat (List.take 16 (List.drop (0 + Int.toNat n * 16) ks)) ∧ (allU8 (List.take 16 (List.drop 0 vs)) ∧ List.length (List.take 16 (List.drop 0 vs)) = 16 ∧ allU8 (List.take 16 (List.drop (0 + Int.toNat n * 16) ks)) ∧ List.length (List.take 16 (List.drop (0 + Int.toNat n * 16) ks)) = 16) ∧ (List.length (hide (List.map AC.u8 (xorL (List.map asU8 (List.take 16 (List.drop 0 vs))) (List.map asU8 (List.take 16 (List.drop (0 + Int.toNat n * 16) ks)))))) = 16 ∧ 16 ≤ List.length bs) ∧ in64 (n + (1 : Int)) ∧ Flat (layS bs 0 (hide (List.map AC.u8 (xorL (List.map asU8 (List.take 16 (List.drop 0 vs))) (List.map asU8 (List.take 16 (List.drop (0 + Int.toNat n * 16) ks))))))) ∧ Flat zs ∧ Flat xs ∧ Flat ks ∧ KR X 46 0 Q (kOf Try.f46 0) (mkS 109 [(3, AV.one (AC.ptr 0 0)), (4, AV.one (AC.ptr 1 0)), (5, AV.one (AC.ptr 2 0)), (6, AV.one (AC.ptr 3 0)), (7, AV.one (AC.i64 (n + (1 : Int))))]) [some (layS bs 0 (hide (List.map AC.u8 (xorL (List.map asU8 (List.take 16 (List.drop 0 vs))) (List.map asU8 (List.take 16 (List.drop (0 + Int.toNat n * 16) ks))))))), some zs, some xs, some ks])) : KRun X 46 0 Q (kOf Try.f46 3) (mkS 109 [(3, .one (.ptr 0 0)), (4, .one (.ptr 1 0)), (5, .one (.ptr 2 0)), (6, .one (.ptr 3 0)), (7, .one (.i64 n)), (8, .one (.ptr 4 0)), (9, .one (.ptr 5 0)), (12, .one (.i64 c))]) [some bs, some zs, some xs, some ks, some us, some vs] :=
  wpRun_ok (hX ▸ baseK_ok T14 mf13 M13) (hX ▸ baseK_call T14_ok M13_ok) (hX ▸ mixed) (hX ▸ ok46) LK_ok (cast (β := wpRun (baseK T14 mf13 M13) [23, 27, 31, 52, 55, 60] [(22, 40), (23, 5)] false (RS.mk Try.f46.results.toList 0 (CS.mk [] [] [0] [])) (LK X 46 0 Q true [(5, LS.mk [3, 4, 5, 6, 7] (CS.mk [] [true, true, true, true] [] [])), (9, LS.mk [3, 4, 5, 6, 7, 8, 9, 10] (CS.mk [] [true, true, true, true, true, true] [] [])), (12, LS.mk [3, 4, 5, 6, 7, 8, 9, 10, 11] (CS.mk [] [true, true, true, true, true, true] [] [])), (17, LS.mk [3, 4, 5, 6, 7, 8, 9, 12] (CS.mk [] [true, true, true, true, true, true] [] [])), (20, LS.mk [3, 4, 5, 6, 7, 8, 9, 12, 13] (CS.mk [] [true, true, true, true, true, true] [] []))]) Q 2000 (kOf Try.f46 3) (mkS 109 [(3, .one (.ptr 0 0)), (4, .one (.ptr 1 0)), (5, .one (.ptr 2 0)), (6, .one (.ptr 3 0)), (7, .one (.i64 n)), (8, .one (.ptr 4 0)), (9, .one (.ptr 5 0)), (12, .one (.i64 c))]) [some bs, some zs, some xs, some ks, some us, some vs]) (by kernel_rfl) h)
set_option maxRecDepth 100000 in
theorem vc46e {X : Ctx} {Q : AV → Mem → Prop} (hX : X.P = Try.prog) (bs zs xs ks us vs : List AC) (n c r : Int) (h : (decide (r < (4 : Int)) = true → in64 ((4 : Int) * c) ∧ in64 ((4 : Int) * c + r) ∧ in64 ((4 : Int) * c) ∧ in64 ((4 : Int) * c + r) ∧ ((0 : Int) ≤ (4 : Int) * c + r ∧ (4 : Int) * c + r < (↑16 : Int)) ∧ gt AC.any us (0 + Int.toNat ((4 : Int) * c + r) * 1) = AC.u8 (asU8 (gt AC.any us (0 + Int.toNat ((4 : Int) * c + r) * 1))) ∧ in64 ((4 : Int) * c) ∧ in64 (r + (1 : Int)) ∧ (4 : Int) ≠ (0 : Int) ∧ in64 ((4 : Int) * c + Int.tmod (r + (1 : Int)) (4 : Int)) ∧ ((0 : Int) ≤ (4 : Int) * c + Int.tmod (r + (1 : Int)) (4 : Int) ∧ (4 : Int) * c + Int.tmod (r + (1 : Int)) (4 : Int) < (↑16 : Int)) ∧ gt AC.any us (0 + Int.toNat ((4 : Int) * c + Int.tmod (r + (1 : Int)) (4 : Int)) * 1) = AC.u8 (asU8 (gt AC.any us (0 + Int.toNat ((4 : Int) * c + Int.tmod (r + (1 : Int)) (4 : Int)) * 1))) ∧ in64 ((4 : Int) * c) ∧ in64 (r + (2 : Int)) ∧ (4 : Int) ≠ (0 : Int) ∧ in64 ((4 : Int) * c + Int.tmod (r + (2 : Int)) (4 : Int)) ∧ ((0 : Int) ≤ (4 : Int) * c + Int.tmod (r + (2 : Int)) (4 : Int) ∧ (4 : Int) * c + Int.tmod (r + (2 : Int)) (4 : Int) < (↑16 : Int)) ∧ gt AC.any us (0 + Int.toNat ((4 : Int) * c + Int.tmod (r + (2 : Int)) (4 : Int)) * 1) = AC.u8 (asU8 (gt AC.any us (0 + Int.toNat ((4 : Int) * c + Int.tmod (r + (2 : Int)) (4 : Int)) * 1))) ∧ in64 ((4 : Int) * c) ∧ in64 (r + (3 : Int)) ∧ (4 : Int) ≠ (0 : Int) ∧ in64 ((4 : Int) * c + Int.tmod (r + (3 : Int)) (4 : Int)) ∧ ((0 : Int) ≤ (4 : Int) * c + Int.tmod (r + (3 : Int)) (4 : Int) ∧ (4 : Int) * c + Int.tmod (r + (3 : Int)) (4 : Int) < (↑16 : Int)) ∧ gt AC.any us (0 + Int.toNat ((4 : Int) * c + Int.tmod (r + (3 : Int)) (4 : Int)) * 1) = AC.u8 (asU8 (gt AC.any us (0 + Int.toNat ((4 : Int) * c + Int.tmod (r + (3 : Int)) (4 : Int)) * 1))) ∧ ((0 : Int) ≤ (4 : Int) * c + r ∧ (4 : Int) * c + r < (↑16 : Int)) ∧ (1 = 1 ∧ 0 + Int.toNat ((4 : Int) * c + r) * 1 + 1 ≤ List.length vs) ∧ in64 (r + (1 : Int)) ∧ Flat bs ∧ Flat zs ∧ Flat xs ∧ Flat ks ∧ Flat us ∧ Flat (layS vs (0 + Int.toNat ((4 : Int) * c + r) * 1) [AC.u8 (tmF (asU8 (gt AC.any us (0 + Int.toNat ((4 : Int) * c + r) * 1))) (BitVec.ofInt 8 (2 : Int)) ^^^ tmF (asU8 (gt AC.any us (0 + Int.toNat ((4 : Int) * c + Int.tmod (r + (1 : Int)) (4 : Int)) * 1))) (BitVec.ofInt 8 (3 : Int)) ^^^ asU8 (gt AC.any us (0 + Int.toNat ((4 : Int) * c + Int.tmod (r + (2 : Int)) (4 : Int)) * 1)) ^^^ asU8 (gt AC.any us (0 + Int.toNat ((4 : Int) * c + Int.tmod (r + (3 : Int)) (4 : Int)) * 1)))]) ∧ KR X 46 0 Q (kOf Try.f46 4) (mkS 109 [(3, AV.one (AC.ptr 0 0)), (4, AV.one (AC.ptr 1 0)), (5, AV.one (AC.ptr 2 0)), (6, AV.one (AC.ptr 3 0)), (7, AV.one (AC.i64 n)), (8, AV.one (AC.ptr 4 0)), (9, AV.one (AC.ptr 5 0)), (12, AV.one (AC.i64 c)), (13, AV.one (AC.i64 (r + (1 : Int))))]) [some bs, some zs, some xs, some ks, some us, some (layS vs (0 + Int.toNat ((4 : Int) * c + r) * 1) [AC.u8 (tmF (asU8 (gt AC.any us (0 + Int.toNat ((4 : Int) * c + r) * 1))) (BitVec.ofInt 8 (2 : Int)) ^^^ tmF (asU8 (gt AC.any us (0 + Int.toNat ((4 : Int) * c + Int.tmod (r + (1 : Int)) (4 : Int)) * 1))) (BitVec.ofInt 8 (3 : Int)) ^^^ asU8 (gt AC.any us (0 + Int.toNat ((4 : Int) * c + Int.tmod (r + (2 : Int)) (4 : Int)) * 1)) ^^^ asU8 (gt AC.any us (0 + Int.toNat ((4 : Int) * c + Int.tmod (r + (3 : Int)) (4 : Int)) * 1)))])]) ∧ (decide (r < (4 : Int)) = false → in64 (c + (1 : Int)) ∧ Flat bs ∧ Flat zs ∧ Flat xs ∧ Flat ks ∧ Flat us ∧ Flat vs ∧ KR X 46 0 Q (kOf Try.f46 3) (mkS 109 [(3, AV.one (AC.ptr 0 0)), (4, AV.one (AC.ptr 1 0)), (5, AV.one (AC.ptr 2 0)), (6, AV.one (AC.ptr 3 0)), (7, AV.one (AC.i64 n)), (8, AV.one (AC.ptr 4 0)), (9, AV.one (AC.ptr 5 0)), (12, AV.one (AC.i64 (c + (1 : Int))))]) [some bs, some zs, some xs, some ks, some us, some vs])) : KRun X 46 0 Q (kOf Try.f46 4) (mkS 109 [(3, .one (.ptr 0 0)), (4, .one (.ptr 1 0)), (5, .one (.ptr 2 0)), (6, .one (.ptr 3 0)), (7, .one (.i64 n)), (8, .one (.ptr 4 0)), (9, .one (.ptr 5 0)), (12, .one (.i64 c)), (13, .one (.i64 r))]) [some bs, some zs, some xs, some ks, some us, some vs] :=
  wpRun_ok (hX ▸ baseK_ok T14 mf13 M13) (hX ▸ baseK_call T14_ok M13_ok) (hX ▸ mixed) (hX ▸ ok46) LK_ok (cast (β := wpRun (baseK T14 mf13 M13) [23, 27, 31, 52, 55, 60] [(22, 40), (23, 5)] false (RS.mk Try.f46.results.toList 0 (CS.mk [] [] [0] [])) (LK X 46 0 Q true [(5, LS.mk [3, 4, 5, 6, 7] (CS.mk [] [true, true, true, true] [] [])), (9, LS.mk [3, 4, 5, 6, 7, 8, 9, 10] (CS.mk [] [true, true, true, true, true, true] [] [])), (12, LS.mk [3, 4, 5, 6, 7, 8, 9, 10, 11] (CS.mk [] [true, true, true, true, true, true] [] [])), (17, LS.mk [3, 4, 5, 6, 7, 8, 9, 12] (CS.mk [] [true, true, true, true, true, true] [] [])), (20, LS.mk [3, 4, 5, 6, 7, 8, 9, 12, 13] (CS.mk [] [true, true, true, true, true, true] [] []))]) Q 2000 (kOf Try.f46 4) (mkS 109 [(3, .one (.ptr 0 0)), (4, .one (.ptr 1 0)), (5, .one (.ptr 2 0)), (6, .one (.ptr 3 0)), (7, .one (.i64 n)), (8, .one (.ptr 4 0)), (9, .one (.ptr 5 0)), (12, .one (.i64 c)), (13, .one (.i64 r))]) [some bs, some zs, some xs, some ks, some us, some vs]) (by kernel_rfl) h)

theorem mix_ref (s : List (BitVec 8)) (c r : Nat) (hc : c < 4) (hr : r < 4) : tmF (s.getD (4 * c + r) 0) 2#8 ^^^ tmF (s.getD (4 * c + (r + 1) % 4) 0) 3#8 ^^^ s.getD (4 * c + (r + 2) % 4) 0 ^^^ s.getD (4 * c + (r + 3) % 4) 0 = (mixL s).getD (4 * c + r) 0 := by
  unfold mixL
  rw [tab16_get _ (by omega), (tm_all _).1, (tm_all _).2.1]
  unfold col
  rw [show (4 * c + r) / 4 * 4 = 4 * c by omega, show (4 * c + r) % 4 = r by omega, show (r + 0) % 4 = r by omega]
def VM (s : List (BitVec 8)) (m : Nat) : List (BitVec 8) := (mixL s).take m ++ s.drop m
def SU (b : List (BitVec 8)) (m : Nat) : List (BitVec 8) := (shL b).take m ++ (List.replicate 16 0).drop m
theorem VM_len {s : List (BitVec 8)} (hs : s.length = 16) (m : Nat) : (VM s m).length = 16 := by
  unfold VM
  rw [lenT _ _ (by rw [mixL_len, hs]), hs]
theorem SU_len (b : List (BitVec 8)) (m : Nat) : (SU b m).length = 16 := by
  unfold SU
  rw [lenT _ _ (by rw [shL_len, List.length_replicate]), List.length_replicate]
theorem VM_end {s : List (BitVec 8)} (hs : s.length = 16) : VM s (4 * 4) = mixL s := by
  have := endT (mixL s) s (by rw [mixL_len, hs])
  rw [mixL_len] at this
  exact this
theorem SU_end (b : List (BitVec 8)) : SU b (4 * 4) = shL b := by
  have := endT (shL b) (List.replicate 16 0) (by rw [shL_len, List.length_replicate])
  rw [shL_len] at this
  exact this
theorem l46e {X : Ctx} (hX : X.P = Try.prog) (key B b s : List (BitVec 8)) (hs : s.length = 16) (n c : Nat) (hc : c < 4)
    (K : KRun X 46 0 (Is (.agg ((encF key B).map AC.u8))) (kOf Try.f46 3) (mkS 109 [(3, .one (.ptr 0 0)), (4, .one (.ptr 1 0)), (5, .one (.ptr 2 0)), (6, .one (.ptr 3 0)), (7, .one (.i64 n)), (8, .one (.ptr 4 0)), (9, .one (.ptr 5 0)), (12, .one (.i64 (c + 1 : Nat)))]) [some (b.map AC.u8), some (List.replicate 16 (AC.u8 0)), some (boxT.map AC.u8), some ((exL key 176).map AC.u8), some (s.map AC.u8), some ((VM s (4 * (c + 1))).map AC.u8)]) : ∀ (d r : Nat), r + d = 4 →
    KRun X 46 0 (Is (.agg ((encF key B).map AC.u8))) (kOf Try.f46 4) (mkS 109 [(3, .one (.ptr 0 0)), (4, .one (.ptr 1 0)), (5, .one (.ptr 2 0)), (6, .one (.ptr 3 0)), (7, .one (.i64 n)), (8, .one (.ptr 4 0)), (9, .one (.ptr 5 0)), (12, .one (.i64 c)), (13, .one (.i64 r))]) [some (b.map AC.u8), some (List.replicate 16 (AC.u8 0)), some (boxT.map AC.u8), some ((exL key 176).map AC.u8), some (s.map AC.u8), some ((VM s (4 * c + r)).map AC.u8)] := by
  have z : Flat (List.replicate 16 (AC.u8 0)) := by rw [mrep]; exact flat_u8 _
  intro d
  induction d with
  | zero =>
    intro r hr
    have hr : r = 4 := by omega
    subst hr
    refine vc46e hX _ _ _ _ _ _ _ _ _ ⟨fun h => absurd (of_decide_eq_true h) (by omega), fun _ => ?_⟩
    (repeat' (first | exact trivial | exact flat_u8 _ | exact flatA _ | exact allU8_map _ | exact Nat.le_refl _ | refine And.intro ?_ ?_)) <;> (first | omega | exact z | (unfold in64; omega) | exact List.length_map _ | (show Is _ _ _; exact rfl) | skip)
    exact ⟨K⟩
  | succ d ih =>
    intro r hr
    have ih := ih (r + 1) (by omega)
    have hl := VM_len hs (4 * c + r)
    have t1 : (4 : Int) * (c : Int) + Int.tmod ((r : Int) + 1) 4 = ((4 * c + (r + 1) % 4 : Nat) : Int) := by rw [show Int.tmod ((r : Int) + 1) 4 = (((r + 1) % 4 : Nat) : Int) from tmod_nat (r + 1) 4]; omega
    have t2 : (4 : Int) * (c : Int) + Int.tmod ((r : Int) + 2) 4 = ((4 * c + (r + 2) % 4 : Nat) : Int) := by rw [show Int.tmod ((r : Int) + 2) 4 = (((r + 2) % 4 : Nat) : Int) from tmod_nat (r + 2) 4]; omega
    have t3 : (4 : Int) * (c : Int) + Int.tmod ((r : Int) + 3) 4 = ((4 * c + (r + 3) % 4 : Nat) : Int) := by rw [show Int.tmod ((r : Int) + 3) 4 = (((r + 3) % 4 : Nat) : Int) from tmod_nat (r + 3) 4]; omega
    have t0 : (4 : Int) * (c : Int) + (r : Int) = ((4 * c + r : Nat) : Int) := by omega
    have g0 := gt_u8_at s (4 * c + r) (by omega)
    have g1 := gt_u8_at s (4 * c + (r + 1) % 4) (by omega)
    have g2 := gt_u8_at s (4 * c + (r + 2) % 4) (by omega)
    have g3 := gt_u8_at s (4 * c + (r + 3) % 4) (by omega)
    have o2 : BitVec.ofInt 8 2 = 2#8 := rfl
    have o3 : BitVec.ofInt 8 3 = 3#8 := rfl
    have hset := setT (mixL s) s 0 (i := 4 * c + r) (by rw [mixL_len]; omega) (by rw [mixL_len, hs])
    rw [← mix_ref s c r hc (by omega)] at hset
    have hset : (VM s (4 * c + r)).set (4 * c + r) _ = VM s (4 * c + (r + 1)) := hset
    refine vc46e hX _ _ _ _ _ _ _ _ _ ⟨fun _ => ?_, fun h => absurd (of_decide_eq_false h) (by omega)⟩
    rw [t0, t1, t2, t3]
    simp only [ixn, g0, g1, g2, g3, asU8, o2, o3, lay1, hset, List.length_map, hl]
    have i4 : (4 : Int) ≠ 0 := by decide
    (repeat' (first | exact i4 | exact trivial | exact flat_u8 _ | exact flatA _ | exact allU8_map _ | exact Nat.le_refl _ | refine And.intro ?_ ?_)) <;> (first | omega | exact z | (unfold in64; omega) | exact List.length_map _ | (show Is _ _ _; exact rfl) | skip)
    exact ⟨ih⟩
theorem l46d {X : Ctx} (hX : X.P = Try.prog) (key B b : List (BitVec 8)) (hb : b.length = 16) (n : Nat) (hn : n < 11) (K : KRun X 46 0 (Is (.agg ((encF key B).map AC.u8))) (kOf Try.f46 0) (mkS 109 [(3, .one (.ptr 0 0)), (4, .one (.ptr 1 0)), (5, .one (.ptr 2 0)), (6, .one (.ptr 3 0)), (7, .one (.i64 (n + 1 : Nat)))]) [some ((rndF key n b).map AC.u8), some (List.replicate 16 (AC.u8 0)), some (boxT.map AC.u8), some ((exL key 176).map AC.u8)]) : ∀ (d c : Nat), c + d = 4 → (n < 10 ∨ c = 0) →
    KRun X 46 0 (Is (.agg ((encF key B).map AC.u8))) (kOf Try.f46 3) (mkS 109 [(3, .one (.ptr 0 0)), (4, .one (.ptr 1 0)), (5, .one (.ptr 2 0)), (6, .one (.ptr 3 0)), (7, .one (.i64 n)), (8, .one (.ptr 4 0)), (9, .one (.ptr 5 0)), (12, .one (.i64 c))]) [some (b.map AC.u8), some (List.replicate 16 (AC.u8 0)), some (boxT.map AC.u8), some ((exL key 176).map AC.u8), some ((shL b).map AC.u8), some ((VM (shL b) (4 * c)).map AC.u8)] := by
  have z : Flat (List.replicate 16 (AC.u8 0)) := by rw [mrep]; exact flat_u8 _
  have hr := rkF_len key (n := n) (by omega)
  have hE := exL_len key 176
  have o16 : 0 + Int.toNat (n : Int) * 16 = 16 * n := by omega
  have rk : ((exL key 176).drop (16 * n)).take 16 = rkF key n := rfl
  intro d
  induction d with
  | zero =>
    intro c hc h10
    have hc : c = 4 := by omega
    subst hc
    have e := VM_end (shL_len b)
    unfold rndF at K
    rw [if_pos (by omega)] at K
    have hm := mixL_len (shL b)
    have em : (mixL (shL b)).take 16 = mixL (shL b) := List.take_of_length_le (by omega)
    have h176 : 16 * n + 16 ≤ 176 := by omega
    refine vc46d hX _ _ _ _ _ _ _ _ ⟨fun h => absurd (of_decide_eq_true h) (by omega), fun _ => ?_⟩
    rw [e, o16]
    simp only [hide_eq, tkm, tk0, map_as8, layR, layC, layM, lay1, tkn, List.drop_zero, Nat.zero_add, Nat.mul_one, Nat.reduceAdd, Nat.le_refl, Nat.min_self, Nat.reduceLeDiff, same_self, Int.toNat_natCast, rk, em, List.length_map, List.length_append, List.length_replicate, List.length_take, List.length_drop, tab16_len, hb, hr, hE, hm, xorL_len]
    clear hE hr hm em e rk
    (repeat' (first | exact trivial | exact flat_u8 _ | exact flatA _ | exact allU8_map _ | exact Nat.le_refl _ | refine And.intro ?_ ?_)) <;> (first | omega | exact z | (unfold in64; omega) | exact List.length_map _ | (show Is _ _ _; exact rfl) | skip)
    exact ⟨K⟩
  | succ d ih =>
    intro c hc h10
    refine vc46d hX _ _ _ _ _ _ _ _ ⟨fun _ => ⟨fun h => ?_, fun h => ?_⟩, fun h => absurd (of_decide_eq_false h) (by omega)⟩
    · have h := of_decide_eq_true h
      have K2 := l46e hX key B b (shL b) (shL_len b) n c (by omega) (ih (c + 1) (by omega) (.inl (by omega))) 4 0 rfl
      clear hE hr rk
      (repeat' (first | exact trivial | exact flat_u8 _ | exact flatA _ | exact allU8_map _ | exact Nat.le_refl _ | refine And.intro ?_ ?_)) <;> (first | omega | exact z | (unfold in64; omega) | exact List.length_map _ | (show Is _ _ _; exact rfl) | skip)
      exact ⟨K2⟩
    · have h := of_decide_eq_false h
      have h0 : c = 0 := by omega
      subst h0
      have e : VM (shL b) (4 * 0) = shL b := begT _ _
      unfold rndF at K
      rw [if_neg (by omega)] at K
      have hm := shL_len b
      have em : (shL b).take 16 = shL b := List.take_of_length_le (by omega)
      have h176 : 16 * n + 16 ≤ 176 := by omega
      rw [e, o16]
      simp only [hide_eq, tkm, tk0, map_as8, layR, layC, layM, lay1, tkn, List.drop_zero, Nat.zero_add, Nat.mul_one, Nat.reduceAdd, Nat.le_refl, Nat.min_self, Nat.reduceLeDiff, same_self, Int.toNat_natCast, rk, em, List.length_map, List.length_append, List.length_replicate, List.length_take, List.length_drop, tab16_len, hb, hr, hE, hm, xorL_len]
      clear hE hr hm em e rk
      (repeat' (first | exact trivial | exact flat_u8 _ | exact flatA _ | exact allU8_map _ | exact Nat.le_refl _ | refine And.intro ?_ ?_)) <;> (first | omega | exact z | (unfold in64; omega) | exact List.length_map _ | (show Is _ _ _; exact rfl) | skip)
      exact ⟨K⟩
theorem l46c {X : Ctx} (hX : X.P = Try.prog) (key B b : List (BitVec 8)) (hb : b.length = 16) (n c : Nat) (hc : c < 4)
    (K : KRun X 46 0 (Is (.agg ((encF key B).map AC.u8))) (kOf Try.f46 1) (mkS 109 [(3, .one (.ptr 0 0)), (4, .one (.ptr 1 0)), (5, .one (.ptr 2 0)), (6, .one (.ptr 3 0)), (7, .one (.i64 n)), (8, .one (.ptr 4 0)), (9, .one (.ptr 5 0)), (10, .one (.i64 (c + 1 : Nat)))]) [some (b.map AC.u8), some (List.replicate 16 (AC.u8 0)), some (boxT.map AC.u8), some ((exL key 176).map AC.u8), some ((SU b (4 * (c + 1))).map AC.u8), some (List.replicate 16 (AC.u8 0))]) : ∀ (d r : Nat), r + d = 4 →
    KRun X 46 0 (Is (.agg ((encF key B).map AC.u8))) (kOf Try.f46 2) (mkS 109 [(3, .one (.ptr 0 0)), (4, .one (.ptr 1 0)), (5, .one (.ptr 2 0)), (6, .one (.ptr 3 0)), (7, .one (.i64 n)), (8, .one (.ptr 4 0)), (9, .one (.ptr 5 0)), (10, .one (.i64 c)), (11, .one (.i64 r))]) [some (b.map AC.u8), some (List.replicate 16 (AC.u8 0)), some (boxT.map AC.u8), some ((exL key 176).map AC.u8), some ((SU b (4 * c + r)).map AC.u8), some (List.replicate 16 (AC.u8 0))] := by
  have z : Flat (List.replicate 16 (AC.u8 0)) := by rw [mrep]; exact flat_u8 _
  intro d
  induction d with
  | zero =>
    intro r hr
    have hr : r = 4 := by omega
    subst hr
    refine vc46c hX _ _ _ _ _ _ _ _ _ ⟨fun h => absurd (of_decide_eq_true h) (by omega), fun _ => ?_⟩
    (repeat' (first | exact trivial | exact flat_u8 _ | exact flatA _ | exact allU8_map _ | exact Nat.le_refl _ | refine And.intro ?_ ?_)) <;> (first | omega | exact z | (unfold in64; omega) | exact List.length_map _ | (show Is _ _ _; exact rfl) | skip)
    exact ⟨K⟩
  | succ d ih =>
    intro r hr
    have ih := ih (r + 1) (by omega)
    have hl := SU_len b (4 * c + r)
    have t0 : (4 : Int) * (c : Int) + (r : Int) = ((4 * c + r : Nat) : Int) := by omega
    have t1 : Int.tmod ((c : Int) + (r : Int)) 4 * 4 + (r : Int) = (((c + r) % 4 * 4 + r : Nat) : Int) := by rw [show Int.tmod ((c : Int) + (r : Int)) 4 = (((c + r) % 4 : Nat) : Int) from tmod_nat (c + r) 4]; omega
    have t2 : Int.tmod ((c : Int) + (r : Int)) 4 * 4 = (((c + r) % 4 * 4 : Nat) : Int) := by rw [show Int.tmod ((c : Int) + (r : Int)) 4 = (((c + r) % 4 : Nat) : Int) from tmod_nat (c + r) 4]; omega
    have g0 := gt_u8_at b ((c + r) % 4 * 4 + r) (by omega)
    have hset := setT (shL b) (List.replicate 16 0) 0 (i := 4 * c + r) (by rw [shL_len]; omega) (by rw [shL_len, List.length_replicate])
    rw [show (shL b).getD (4 * c + r) 0 = bx (b.getD (shI (4 * c + r)) 0) from tab16_get _ (by omega), show shI (4 * c + r) = (c + r) % 4 * 4 + r by unfold shI; omega] at hset
    have hset : (SU b (4 * c + r)).set (4 * c + r) _ = SU b (4 * c + (r + 1)) := hset
    refine vc46c hX _ _ _ _ _ _ _ _ _ ⟨fun _ => ?_, fun h => absurd (of_decide_eq_false h) (by omega)⟩
    rw [t0, t1, t2]
    simp only [ixn, g0, asU8, gt_box, gt_box', lay1, hset, List.length_map, hl]
    have i4 : (4 : Int) ≠ 0 := by decide
    (repeat' (first | exact i4 | exact trivial | exact flat_u8 _ | exact flatA _ | exact allU8_map _ | exact Nat.le_refl _ | refine And.intro ?_ ?_)) <;> (first | omega | exact z | (unfold in64; omega) | exact List.length_map _ | (show Is _ _ _; exact rfl) | skip)
    exact ⟨ih⟩
theorem l46b {X : Ctx} (hX : X.P = Try.prog) (key B b : List (BitVec 8)) (hb : b.length = 16) (n : Nat) (hn : n < 11) (K : KRun X 46 0 (Is (.agg ((encF key B).map AC.u8))) (kOf Try.f46 0) (mkS 109 [(3, .one (.ptr 0 0)), (4, .one (.ptr 1 0)), (5, .one (.ptr 2 0)), (6, .one (.ptr 3 0)), (7, .one (.i64 (n + 1 : Nat)))]) [some ((rndF key n b).map AC.u8), some (List.replicate 16 (AC.u8 0)), some (boxT.map AC.u8), some ((exL key 176).map AC.u8)]) : ∀ (d c : Nat), c + d = 4 →
    KRun X 46 0 (Is (.agg ((encF key B).map AC.u8))) (kOf Try.f46 1) (mkS 109 [(3, .one (.ptr 0 0)), (4, .one (.ptr 1 0)), (5, .one (.ptr 2 0)), (6, .one (.ptr 3 0)), (7, .one (.i64 n)), (8, .one (.ptr 4 0)), (9, .one (.ptr 5 0)), (10, .one (.i64 c))]) [some (b.map AC.u8), some (List.replicate 16 (AC.u8 0)), some (boxT.map AC.u8), some ((exL key 176).map AC.u8), some ((SU b (4 * c)).map AC.u8), some (List.replicate 16 (AC.u8 0))] := by
  have z : Flat (List.replicate 16 (AC.u8 0)) := by rw [mrep]; exact flat_u8 _
  intro d
  induction d with
  | zero =>
    intro c hc
    have hc : c = 4 := by omega
    subst hc
    have e := SU_end b
    have K2 := l46d hX key B b hb n hn K 4 0 rfl (.inr rfl)
    rw [show VM (shL b) (4 * 0) = shL b from begT _ _] at K2
    have hm := shL_len b
    have em : (shL b).take 16 = shL b := List.take_of_length_le (by omega)
    refine vc46b hX _ _ _ _ _ _ _ _ ⟨fun h => absurd (of_decide_eq_true h) (by omega), fun _ => ?_⟩
    rw [e]
    simp only [hide_eq, tkm, tk0, map_as8, layR, layC, layM, lay1, tkn, List.drop_zero, Nat.zero_add, Nat.mul_one, Nat.reduceAdd, Nat.le_refl, Nat.min_self, Nat.reduceLeDiff, same_self, Int.toNat_natCast, em, List.length_map, List.length_append, List.length_replicate, List.length_take, List.length_drop, tab16_len, hm]
    (repeat' (first | exact trivial | exact flat_u8 _ | exact flatA _ | exact allU8_map _ | exact Nat.le_refl _ | refine And.intro ?_ ?_)) <;> (first | omega | exact z | (unfold in64; omega) | exact List.length_map _ | (show Is _ _ _; exact rfl) | skip)
    exact ⟨K2⟩
  | succ d ih =>
    intro c hc
    have K2 := l46c hX key B b hb n c (by omega) (ih (c + 1) (by omega)) 4 0 rfl
    refine vc46b hX _ _ _ _ _ _ _ _ ⟨fun _ => ?_, fun h => absurd (of_decide_eq_false h) (by omega)⟩
    (repeat' (first | exact trivial | exact flat_u8 _ | exact flatA _ | exact allU8_map _ | exact Nat.le_refl _ | refine And.intro ?_ ?_)) <;> (first | omega | exact z | (unfold in64; omega) | exact List.length_map _ | (show Is _ _ _; exact rfl) | skip)
    exact ⟨K2⟩
theorem l46a {X : Ctx} (hX : X.P = Try.prog) (key B : List (BitVec 8)) (hB : B.length = 16) : ∀ (d n : Nat), n + d = 10 →
    KRun X 46 0 (Is (.agg ((encF key B).map AC.u8))) (kOf Try.f46 0) (mkS 109 [(3, .one (.ptr 0 0)), (4, .one (.ptr 1 0)), (5, .one (.ptr 2 0)), (6, .one (.ptr 3 0)), (7, .one (.i64 (n + 1 : Nat)))]) [some ((encN key B n).map AC.u8), some (List.replicate 16 (AC.u8 0)), some (boxT.map AC.u8), some ((exL key 176).map AC.u8)] := by
  have z : Flat (List.replicate 16 (AC.u8 0)) := by rw [mrep]; exact flat_u8 _
  intro d
  induction d with
  | zero =>
    intro n hn
    have hn : n = 10 := by omega
    subst hn
    have e : encN key B 10 = encF key B := rfl
    have hl : (encF key B).length = 16 := encN_len _ _ _
    refine vc46a hX _ _ _ _ _ ⟨fun h => absurd (of_decide_eq_true h) (by omega), fun _ => ?_⟩
    rw [e]
    simp only [hide_eq, tkm, tk0, map_as8, layR, layC, layM, lay1, tkn, List.drop_zero, Nat.zero_add, Nat.mul_one, Nat.reduceAdd, Nat.le_refl, Nat.min_self, Nat.reduceLeDiff, same_self, Int.toNat_natCast, List.length_map, List.length_append, List.length_replicate, List.length_take, List.length_drop, tab16_len, hl]
    (repeat' (first | exact trivial | exact flat_u8 _ | exact flatA _ | exact allU8_map _ | exact Nat.le_refl _ | refine And.intro ?_ ?_)) <;> (first | omega | exact z | (unfold in64; omega) | exact List.length_map _ | (show Is _ _ _; exact rfl) | skip)
  | succ d ih =>
    intro n hn
    have K := l46b hX key B (encN key B n) (encN_len _ _ _) (n + 1) (by omega) (ih (n + 1) (by omega)) 4 0 rfl
    have e0 : (SU (encN key B n) (4 * 0)).map AC.u8 = List.replicate 16 (AC.u8 0) := by
      rw [show SU (encN key B n) (4 * 0) = List.replicate 16 0 from begT _ _, List.map_replicate]
    rw [e0] at K
    refine vc46a hX _ _ _ _ _ ⟨fun _ => ?_, fun h => absurd (of_decide_eq_false h) (by omega)⟩
    (repeat' (first | exact trivial | exact flat_u8 _ | exact flatA _ | exact allU8_map _ | exact Nat.le_refl _ | refine And.intro ?_ ?_)) <;> (first | omega | exact z | (unfold in64; omega) | exact List.length_map _ | (show Is _ _ _; exact rfl) | skip)
    exact ⟨K⟩
theorem s46 (key b : List (BitVec 8)) (hk : key.length = 16) (hb : b.length = 16) : Spec Try.prog 46 [.agg (key.map AC.u8), .agg (b.map AC.u8)] [] (Is (.agg ((encF key b).map AC.u8))) := by
  refine Spec.of_run ok46 fun X hX => vc46 hX _ _ ?_
  have K := l46a hX key b hb 10 0 rfl
  rw [show encN key b 0 = xorL b (rkF key 0) from rfl] at K
  have z : Flat (List.replicate 16 (AC.u8 0)) := by rw [mrep]; exact flat_u8 _
  have hE := exL_len key 176
  have hB := boxT_len
  have ek : key.take 16 = key := List.take_of_length_le (by omega)
  have eb : b.take 16 = b := List.take_of_length_le (by omega)
  have e16 : (exL key 176).take 16 = rkF key 0 := by unfold rkF; rw [Nat.mul_zero, List.drop_zero]
  have ebx : boxT.take 256 = boxT := List.take_of_length_le (by omega)
  have hr := rkF_len key (n := 0) (by omega)
  have l1 : layS (List.replicate 256 (AC.u8 0)) 0 (boxT.map AC.u8) = boxT.map AC.u8 := layR _ _ hB
  have l2 : layS (List.replicate 176 (AC.u8 0)) 0 ((exL key 176).map AC.u8) = (exL key 176).map AC.u8 := layR _ _ hE
  have l3 : layS (b.map AC.u8) 0 ((xorL b (rkF key 0)).map AC.u8) = (xorL b (rkF key 0)).map AC.u8 := layM _ _ (by rw [xorL_len, hb])
  simp only [hide_eq, tkm, tk0, List.drop_zero, ek, eb, map_as8, l1, l2, e16, ebx, l3, List.length_map, hE, hB, hk, hb, hr, xorL_len]
  clear hE hB ek eb e16 ebx hr l1 l2 l3
  (repeat' (first | exact trivial | exact flat_u8 _ | exact flatA _ | exact allU8_map _ | exact Nat.le_refl _ | refine And.intro ?_ ?_)) <;> (first | omega | exact z | (unfold in64; omega) | exact List.length_map _ | (show Is _ _ _; exact rfl) | skip)
  exact ⟨K⟩
end DH

noncomputable section
namespace DH
open Go Go.Proofs
/-! a block that is known -/
theorem exL_lit (key L : List (BitVec 8)) (hL : L.length = 176) (h : ∀ j, j < 176 → L.getD j 0 = exNext key L j) : exL key 176 = L := by
  have eq : ∀ m, ∀ j, j < m → j < 176 → eat key j = L.getD j 0 := by
    intro m
    induction m with
    | zero => intro j hj; omega
    | succ m ih =>
      intro j hj h176
      rw [eat_next, h j h176]
      unfold exNext
      by_cases h1 : j < 16
      · rw [if_pos h1, if_pos h1]
      · rw [if_neg h1, if_neg h1]
        by_cases h2 : j % 16 < 4
        · rw [if_pos h2, if_pos h2, exL_get _ _ _ (by omega), exL_get _ _ _ (by omega), ih _ (by omega) (by omega), ih _ (by omega) (by omega)]
        · rw [if_neg h2, if_neg h2, exL_get _ _ _ (by omega), exL_get _ _ _ (by omega), ih _ (by omega) (by omega), ih _ (by omega) (by omega)]
  apply List.ext_getElem (by rw [exL_len, hL])
  intro j h1 h2
  have h176 : j < 176 := by rw [exL_len] at h1; exact h1
  have := eq (j + 1) j (by omega) h176
  rw [← E_get key h176, List.getD_eq_getElem?_getD, List.getD_eq_getElem?_getD, List.getElem?_eq_getElem h1, List.getElem?_eq_getElem h2] at this
  exact this
def litB (l : List Nat) : List (BitVec 8) := l.map (BitVec.ofNat 8)
def akey : List (BitVec 8) := litB [0, 1, 2, 3, 4, 5, 6, 7, 8, 9, 10, 11, 12, 13, 14, 15]
def ablk : List (BitVec 8) := litB [0, 17, 34, 51, 68, 85, 102, 119, 136, 153, 170, 187, 204, 221, 238, 255]
def aL : List (BitVec 8) := litB [0, 1, 2, 3, 4, 5, 6, 7, 8, 9, 10, 11, 12, 13, 14, 15, 214, 170, 116, 253, 210, 175, 114, 250, 218, 166, 120, 241, 214, 171, 118, 254, 182, 146, 207, 11, 100, 61, 189, 241, 190, 155, 197, 0, 104, 48, 179, 254, 182, 255, 116, 78, 210, 194, 201, 191, 108, 89, 12, 191, 4, 105, 191, 65, 71, 247, 247, 188, 149, 53, 62, 3, 249, 108, 50, 188, 253, 5, 141, 253, 60, 170, 163, 232, 169, 159, 157, 235, 80, 243, 175, 87, 173, 246, 34, 170, 94, 57, 15, 125, 247, 166, 146, 150, 167, 85, 61, 193, 10, 163, 31, 107, 20, 249, 112, 26, 227, 95, 226, 140, 68, 10, 223, 77, 78, 169, 192, 38, 71, 67, 135, 53, 164, 28, 101, 185, 224, 22, 186, 244, 174, 191, 122, 210, 84, 153, 50, 209, 240, 133, 87, 104, 16, 147, 237, 156, 190, 44, 151, 78, 19, 17, 29, 127, 227, 148, 74, 23, 243, 7, 167, 139, 77, 43, 48, 197]
theorem t8 : (List.range 176).all (fun j => decide (aL.getD j 0 = exNext akey aL j)) = true := by kernel_rfl
theorem aL_eq : exL akey 176 = aL := exL_lit akey aL (by kernel_rfl) fun j h => of_decide_eq_true (List.all_eq_true.1 t8 j (List.mem_range.2 h))
def aB0 : List (BitVec 8) := litB [0, 16, 32, 48, 64, 80, 96, 112, 128, 144, 160, 176, 192, 208, 224, 240]
def aB1 : List (BitVec 8) := litB [137, 216, 16, 232, 133, 90, 206, 104, 45, 24, 67, 216, 203, 18, 143, 228]
def aB2 : List (BitVec 8) := litB [73, 21, 89, 143, 85, 229, 215, 160, 218, 202, 148, 250, 31, 10, 99, 247]
def aB3 : List (BitVec 8) := litB [250, 99, 106, 40, 37, 179, 57, 201, 64, 102, 138, 49, 87, 36, 77, 23]
def aB4 : List (BitVec 8) := litB [36, 114, 64, 35, 105, 102, 179, 250, 110, 210, 117, 50, 136, 66, 91, 108]
def aB5 : List (BitVec 8) := litB [200, 22, 119, 188, 155, 122, 201, 59, 37, 2, 121, 146, 176, 38, 25, 150]
def aB6 : List (BitVec 8) := litB [198, 47, 225, 9, 247, 94, 237, 195, 204, 121, 57, 93, 132, 249, 207, 93]
def aB7 : List (BitVec 8) := litB [209, 135, 108, 15, 121, 196, 48, 10, 180, 85, 148, 173, 214, 111, 244, 31]
def aB8 : List (BitVec 8) := litB [253, 227, 186, 210, 5, 229, 208, 215, 53, 71, 150, 78, 241, 254, 55, 241]
def aB9 : List (BitVec 8) := litB [189, 110, 124, 61, 242, 181, 119, 158, 11, 97, 33, 110, 139, 16, 182, 137]
def aB10 : List (BitVec 8) := litB [105, 196, 224, 216, 106, 123, 4, 48, 216, 205, 183, 128, 112, 180, 197, 90]
theorem aR (n : Nat) : rkF akey n = (aL.drop (16 * n)).take 16 := by unfold rkF; rw [aL_eq]
theorem aE0 : encN akey ablk 0 = aB0 := by
  show xorL ablk (rkF akey 0) = aB0
  rw [aR]
  decide +kernel
theorem aE1 : encN akey ablk 1 = aB1 := by
  show rndF akey 1 (encN akey ablk 0) = aB1
  rw [aE0]
  unfold rndF
  rw [aR]
  decide +kernel
theorem aE2 : encN akey ablk 2 = aB2 := by
  show rndF akey 2 (encN akey ablk 1) = aB2
  rw [aE1]
  unfold rndF
  rw [aR]
  decide +kernel
theorem aE3 : encN akey ablk 3 = aB3 := by
  show rndF akey 3 (encN akey ablk 2) = aB3
  rw [aE2]
  unfold rndF
  rw [aR]
  decide +kernel
theorem aE4 : encN akey ablk 4 = aB4 := by
  show rndF akey 4 (encN akey ablk 3) = aB4
  rw [aE3]
  unfold rndF
  rw [aR]
  decide +kernel
theorem aE5 : encN akey ablk 5 = aB5 := by
  show rndF akey 5 (encN akey ablk 4) = aB5
  rw [aE4]
  unfold rndF
  rw [aR]
  decide +kernel
theorem aE6 : encN akey ablk 6 = aB6 := by
  show rndF akey 6 (encN akey ablk 5) = aB6
  rw [aE5]
  unfold rndF
  rw [aR]
  decide +kernel
theorem aE7 : encN akey ablk 7 = aB7 := by
  show rndF akey 7 (encN akey ablk 6) = aB7
  rw [aE6]
  unfold rndF
  rw [aR]
  decide +kernel
theorem aE8 : encN akey ablk 8 = aB8 := by
  show rndF akey 8 (encN akey ablk 7) = aB8
  rw [aE7]
  unfold rndF
  rw [aR]
  decide +kernel
theorem aE9 : encN akey ablk 9 = aB9 := by
  show rndF akey 9 (encN akey ablk 8) = aB9
  rw [aE8]
  unfold rndF
  rw [aR]
  decide +kernel
theorem aE10 : encN akey ablk 10 = aB10 := by
  show rndF akey 10 (encN akey ablk 9) = aB10
  rw [aE9]
  unfold rndF
  rw [aR]
  decide +kernel
theorem aE : encF akey ablk = aB10 := aE10
noncomputable def T15 : Tab := fun f xs => match f, xs with
  | 46, [.agg cs, .agg bs] => some ([allU8 cs ∧ cs.length = 16 ∧ allU8 bs ∧ bs.length = 16], .agg (hide ((encF (cs.map asU8) (bs.map asU8)).map AC.u8)))
  | f, xs => T14 f xs
theorem T15_ok : TabOk Try.prog T15 := by
  intro f xs cs r h hc
  unfold T15 at h
  split at h
  · obtain ⟨rfl, rfl⟩ := Prod.mk.inj (Option.some.inj h)
    obtain ⟨h1, h2, h3, h4⟩ := hc.1
    rename_i cs bs
    have := s46 (cs.map asU8) (bs.map asU8) (by rw [List.length_map]; exact h2) (by rw [List.length_map]; exact h4)
    rw [← h1, ← h3] at this
    rw [hide_eq]
    exact ⟨⟨_, _, ok46⟩, this, exactL_map _ (fun _ => rfl) _⟩
  · exact T14_ok _ _ _ _ h hc
set_option maxRecDepth 100000 in
theorem vc47 {X : Ctx} {Q : AV → Mem → Prop} (hX : X.P = Try.prog)  (h : Flat (List.replicate 16 (AC.u8 (0 : BitVec 8))) ∧ Flat (List.replicate 16 (AC.u8 (0 : BitVec 8))) ∧ KR X 47 0 Q (kOf Try.f47 0) (mkS 39 [(1, AV.one (AC.ptr 0 0)), (2, AV.one (AC.ptr 1 0)), (5, AV.one (AC.i64 (0 : Int)))]) [some (List.replicate 16 (AC.u8 (0 : BitVec 8))), some (List.replicate 16 (AC.u8 (0 : BitVec 8)))]) : KRun X 47 0 Q ([.code (bodyOf Try.f47)]) (slots [] Try.f47.ntmps) [] :=
  wpRun_ok (hX ▸ baseK_ok T15 mf13 M13) (hX ▸ baseK_call T15_ok M13_ok) (hX ▸ mixed) (hX ▸ ok47) LK_ok (cast (β := wpRun (baseK T15 mf13 M13) [6, 24, 28, 33] [(7, 4)] false (RS.mk Try.f47.results.toList 0 (CS.mk [] [] [] [])) (LK X 47 0 Q true [(3, LS.mk [1, 2, 5] (CS.mk [] [true, true] [] []))]) Q 2000 ([.code (bodyOf Try.f47)]) (slots [] Try.f47.ntmps) []) (by kernel_rfl) h)
set_option maxRecDepth 100000 in
theorem vc47a {X : Ctx} {Q : AV → Mem → Prop} (hX : X.P = Try.prog) (ks bs : List AC) (i : Int) (h : (decide (i < (16 : Int)) = true → in64 ((17 : Int) * i) ∧ ((0 : Int) ≤ i ∧ i < (↑16 : Int)) ∧ (1 = 1 ∧ 0 + Int.toNat i * 1 + 1 ≤ List.length ks) ∧ ((0 : Int) ≤ i ∧ i < (↑16 : Int)) ∧ (1 = 1 ∧ 0 + Int.toNat i * 1 + 1 ≤ List.length bs) ∧ in64 (i + (1 : Int)) ∧ Flat (layS ks (0 + Int.toNat i * 1) [AC.u8 (BitVec.ofInt 8 i)]) ∧ Flat (layS bs (0 + Int.toNat i * 1) [AC.u8 (BitVec.ofInt 8 ((17 : Int) * i))]) ∧ KR X 47 0 Q (kOf Try.f47 0) (mkS 39 [(1, AV.one (AC.ptr 0 0)), (2, AV.one (AC.ptr 1 0)), (5, AV.one (AC.i64 (i + (1 : Int))))]) [some (layS ks (0 + Int.toNat i * 1) [AC.u8 (BitVec.ofInt 8 i)]), some (layS bs (0 + Int.toNat i * 1) [AC.u8 (BitVec.ofInt 8 ((17 : Int) * i))])]) ∧ (decide (i < (16 : Int)) = false → 16 ≤ List.length ks ∧ Flat (List.take 16 (List.drop 0 ks)) ∧ (allU8 (List.take 16 (List.drop 0 ks)) ∧ List.length (List.take 16 (List.drop 0 ks)) = 16) ∧ 16 ≤ List.length bs ∧ Flat (AC.b true :: hide (List.map AC.u8 (exL (List.map asU8 (List.take 16 (List.drop 0 ks))) 176))) ∧ Flat (List.take 16 (List.drop 0 bs)) ∧ (hide (List.map AC.u8 (exL (List.map asU8 (List.take 16 (List.drop 0 ks))) 176)) = List.map AC.u8 (exL (keyOf (hide (List.map AC.u8 (exL (List.map asU8 (List.take 16 (List.drop 0 ks))) 176)))) 176) ∧ List.length (keyOf (hide (List.map AC.u8 (exL (List.map asU8 (List.take 16 (List.drop 0 ks))) 176)))) = 16 ∧ allU8 (List.take 16 (List.drop 0 bs)) ∧ List.length (List.take 16 (List.drop 0 bs)) = 16) ∧ (List.length (hide (List.map AC.u8 (encF (keyOf (hide (List.map AC.u8 (exL (List.map asU8 (List.take 16 (List.drop 0 ks))) 176)))) (List.map asU8 (List.take 16 (List.drop 0 bs)))))) = 16 ∧ 16 ≤ 16) ∧ ((0 : Int) ≤ (0 : Int) ∧ (0 : Int) < (↑16 : Int)) ∧ gt AC.any (layS (List.replicate 16 (AC.u8 (0 : BitVec 8))) 0 (hide (List.map AC.u8 (encF (keyOf (hide (List.map AC.u8 (exL (List.map asU8 (List.take 16 (List.drop 0 ks))) 176)))) (List.map asU8 (List.take 16 (List.drop 0 bs))))))) 0 = AC.u8 (asU8 (gt AC.any (layS (List.replicate 16 (AC.u8 (0 : BitVec 8))) 0 (hide (List.map AC.u8 (encF (keyOf (hide (List.map AC.u8 (exL (List.map asU8 (List.take 16 (List.drop 0 ks))) 176)))) (List.map asU8 (List.take 16 (List.drop 0 bs))))))) 0)) ∧ (decide (asU8 (gt AC.any (layS (List.replicate 16 (AC.u8 (0 : BitVec 8))) 0 (hide (List.map AC.u8 (encF (keyOf (hide (List.map AC.u8 (exL (List.map asU8 (List.take 16 (List.drop 0 ks))) 176)))) (List.map asU8 (List.take 16 (List.drop 0 bs))))))) 0) = BitVec.ofInt 8 (105 : Int)) = true → ((0 : Int) ≤ (1 : Int) ∧ (1 : Int) < (↑16 : Int)) ∧ gt AC.any (layS (List.replicate 16 (AC.u8 (0 : BitVec 8))) 0 (hide (List.map AC.u8 (encF (keyOf (hide (List.map AC.u8 (exL (List.map asU8 (List.take 16 (List.drop 0 ks))) 176)))) (List.map asU8 (List.take 16 (List.drop 0 bs))))))) 1 = AC.u8 (asU8 (gt AC.any (layS (List.replicate 16 (AC.u8 (0 : BitVec 8))) 0 (hide (List.map AC.u8 (encF (keyOf (hide (List.map AC.u8 (exL (List.map asU8 (List.take 16 (List.drop 0 ks))) 176)))) (List.map asU8 (List.take 16 (List.drop 0 bs))))))) 1)) ∧ (decide (asU8 (gt AC.any (layS (List.replicate 16 (AC.u8 (0 : BitVec 8))) 0 (hide (List.map AC.u8 (encF (keyOf (hide (List.map AC.u8 (exL (List.map asU8 (List.take 16 (List.drop 0 ks))) 176)))) (List.map asU8 (List.take 16 (List.drop 0 bs))))))) 1) = BitVec.ofInt 8 (196 : Int)) = true → ((0 : Int) ≤ (15 : Int) ∧ (15 : Int) < (↑16 : Int)) ∧ gt AC.any (layS (List.replicate 16 (AC.u8 (0 : BitVec 8))) 0 (hide (List.map AC.u8 (encF (keyOf (hide (List.map AC.u8 (exL (List.map asU8 (List.take 16 (List.drop 0 ks))) 176)))) (List.map asU8 (List.take 16 (List.drop 0 bs))))))) 15 = AC.u8 (asU8 (gt AC.any (layS (List.replicate 16 (AC.u8 (0 : BitVec 8))) 0 (hide (List.map AC.u8 (encF (keyOf (hide (List.map AC.u8 (exL (List.map asU8 (List.take 16 (List.drop 0 ks))) 176)))) (List.map asU8 (List.take 16 (List.drop 0 bs))))))) 15)) ∧ (decide (asU8 (gt AC.any (layS (List.replicate 16 (AC.u8 (0 : BitVec 8))) 0 (hide (List.map AC.u8 (encF (keyOf (hide (List.map AC.u8 (exL (List.map asU8 (List.take 16 (List.drop 0 ks))) 176)))) (List.map asU8 (List.take 16 (List.drop 0 bs))))))) 15) = BitVec.ofInt 8 (90 : Int)) = true → Q (AV.one (AC.b true)) []) ∧ (decide (asU8 (gt AC.any (layS (List.replicate 16 (AC.u8 (0 : BitVec 8))) 0 (hide (List.map AC.u8 (encF (keyOf (hide (List.map AC.u8 (exL (List.map asU8 (List.take 16 (List.drop 0 ks))) 176)))) (List.map asU8 (List.take 16 (List.drop 0 bs))))))) 15) = BitVec.ofInt 8 (90 : Int)) = false → Q (AV.one (AC.b false)) [])) ∧ (decide (asU8 (gt AC.any (layS (List.replicate 16 (AC.u8 (0 : BitVec 8))) 0 (hide (List.map AC.u8 (encF (keyOf (hide (List.map AC.u8 (exL (List.map asU8 (List.take 16 (List.drop 0 ks))) 176)))) (List.map asU8 (List.take 16 (List.drop 0 bs))))))) 1) = BitVec.ofInt 8 (196 : Int)) = false → Q (AV.one (AC.b false)) [])) ∧ (decide (asU8 (gt AC.any (layS (List.replicate 16 (AC.u8 (0 : BitVec 8))) 0 (hide (List.map AC.u8 (encF (keyOf (hide (List.map AC.u8 (exL (List.map asU8 (List.take 16 (List.drop 0 ks))) 176)))) (List.map asU8 (List.take 16 (List.drop 0 bs))))))) 0) = BitVec.ofInt 8 (105 : Int)) = false → Q (AV.one (AC.b false)) []))) : KRun X 47 0 Q (kOf Try.f47 0) (mkS 39 [(1, .one (.ptr 0 0)), (2, .one (.ptr 1 0)), (5, .one (.i64 i))]) [some ks, some bs] :=
  wpRun_ok (hX ▸ baseK_ok T15 mf13 M13) (hX ▸ baseK_call T15_ok M13_ok) (hX ▸ mixed) (hX ▸ ok47) LK_ok (cast (β := wpRun (baseK T15 mf13 M13) [6, 24, 28, 33] [(7, 4)] false (RS.mk Try.f47.results.toList 0 (CS.mk [] [] [] [])) (LK X 47 0 Q true [(3, LS.mk [1, 2, 5] (CS.mk [] [true, true] [] []))]) Q 2000 (kOf Try.f47 0) (mkS 39 [(1, .one (.ptr 0 0)), (2, .one (.ptr 1 0)), (5, .one (.i64 i))]) [some ks, some bs]) (by kernel_rfl) h)

theorem l47 {X : Ctx} (hX : X.P = Try.prog) : ∀ (d i : Nat), i + d = 16 →
    KRun X 47 0 Fin (kOf Try.f47 0) (mkS 39 [(1, .one (.ptr 0 0)), (2, .one (.ptr 1 0)), (5, .one (.i64 i))]) [some ((akey.take i ++ (List.replicate 16 0).drop i).map AC.u8), some ((ablk.take i ++ (List.replicate 16 0).drop i).map AC.u8)] := by
  have hk : akey.length = 16 := Nat.le_antisymm (Nat.le_refl _) (Nat.le_refl _)
  have hb : ablk.length = 16 := Nat.le_antisymm (Nat.le_refl _) (Nat.le_refl _)
  have hl : akey.length = (List.replicate 16 (0 : BitVec 8)).length := by rw [hk, List.length_replicate]
  have hl2 : ablk.length = (List.replicate 16 (0 : BitVec 8)).length := by rw [hb, List.length_replicate]
  have ki : ∀ i, i < 16 → akey.getD i 0 = BitVec.ofInt 8 (i : Int) := by decide +kernel
  have bi : ∀ i, i < 16 → ablk.getD i 0 = BitVec.ofInt 8 (17 * (i : Int)) := by decide +kernel
  intro d
  induction d with
  | zero =>
    intro i hi
    have hi : i = 16 := by omega
    subst hi
    have e := endT _ _ hl
    have e2 := endT _ _ hl2
    rw [hk] at e
    rw [hb] at e2
    have ek : akey.take 16 = akey := List.take_of_length_le (by omega)
    have eb : ablk.take 16 = ablk := List.take_of_length_le (by omega)
    have hx := exL_len akey 176
    have h10 : aB10.length = 16 := Nat.le_antisymm (Nat.le_refl _) (Nat.le_refl _)
    have g : ∀ i, i < 16 → gt AC.any (aB10.map AC.u8) i = .u8 (aB10.getD i 0) := fun i h => gt_u8_at _ _ (by omega)
    have d0 : decide (aB10.getD 0 0 = BitVec.ofInt 8 105) = true := by decide +kernel
    have d1 : decide (aB10.getD 1 0 = BitVec.ofInt 8 196) = true := by decide +kernel
    have d2 : decide (aB10.getD 15 0 = BitVec.ofInt 8 90) = true := by decide +kernel
    have kk := keyOf_ex akey hk
    have zz : Flat (AC.b true :: (exL akey 176).map AC.u8) := fun c h => by
      rcases List.mem_cons.1 h with rfl | h
      · rfl
      · exact flat_u8 _ c h
    refine vc47a hX _ _ _ ⟨fun h => absurd (of_decide_eq_true h) (by omega), fun _ => ?_⟩
    rw [e, e2]
    simp only [hide_eq, tkm, tk0, List.drop_zero, ek, eb, map_as8, kk, aE, layR _ _ h10, g _ (show 0 < 16 by decide), g _ (show 1 < 16 by decide), g _ (show 15 < 16 by decide), asU8, d0, d1, d2, List.length_map, hk, hb, h10, Bool.true_eq_false, false_implies, true_implies, forall_const]
    refine ⟨by omega, flat_u8 _, ⟨allU8_map _, trivial⟩, by omega, zz, flat_u8 _, ?_⟩
    clear hx zz kk e e2 ek eb
    (repeat' (first | exact fin | exact trivial | exact allU8_map _ | exact Nat.le_refl _ | refine And.intro ?_ ?_)) <;> omega
  | succ d ih =>
    intro i hi
    have hL := lenT _ _ hl (i := i)
    have hL2 := lenT _ _ hl2 (i := i)
    have hs := setT akey (List.replicate 16 0) 0 (i := i) (by omega) hl
    have hs2 := setT ablk (List.replicate 16 0) 0 (i := i) (by omega) hl2
    rw [ki i (by omega)] at hs
    rw [bi i (by omega)] at hs2
    have ih := ih (i + 1) (by omega)
    refine vc47a hX _ _ _ ⟨fun _ => ?_, fun h => absurd (of_decide_eq_false h) (by omega)⟩
    simp only [ixn, lay1, hs, hs2, List.length_map, hL, hL2, List.length_replicate]
    clear ki bi
    (repeat' (first | exact trivial | exact flat_u8 _ | exact flatA _ | exact allU8_map _ | exact Nat.le_refl _ | refine And.intro ?_ ?_)) <;> (first | omega | exact z | (unfold in64; omega) | exact List.length_map _ | (show Is _ _ _; exact rfl) | skip)
    exact ⟨ih⟩
theorem s47 : Spec Try.prog 47 [] [] Fin := by
  refine Spec.of_run ok47 fun X hX => vc47 hX ?_
  have K := l47 hX 16 0 rfl
  rw [begT, begT, ← mrep] at K
  have z : Flat (List.replicate 16 (AC.u8 0)) := by rw [mrep]; exact flat_u8 _
  exact ⟨z, z, ⟨K⟩⟩
end DH

noncomputable section
namespace DH
open Go Go.Proofs
noncomputable def T16 : Tab := fun f xs => match f, xs with
  | 47, [] => some ([], .one (.b true))
  | f, xs => T15 f xs
theorem T16_ok : TabOk Try.prog T16 := by
  intro f xs cs r h hc
  unfold T16 at h
  split at h
  · obtain ⟨rfl, rfl⟩ := Prod.mk.inj (Option.some.inj h)
    exact ⟨⟨_, _, ok47⟩, s47, rfl⟩
  · exact T15_ok _ _ _ _ h hc
set_option maxRecDepth 100000 in
theorem vc9 {X : Ctx} {Q : AV → Mem → Prop} (hX : X.P = Try.prog) (ks bs : List AC) (h : 16 ≤ List.length ks ∧ Flat (List.take 16 (List.drop 0 ks)) ∧ (allU8 (List.take 16 (List.drop 0 ks)) ∧ List.length (List.take 16 (List.drop 0 ks)) = 16) ∧ 16 ≤ List.length bs ∧ Flat (AC.b true :: hide (List.map AC.u8 (exL (List.map asU8 (List.take 16 (List.drop 0 ks))) 176))) ∧ Flat (List.take 16 (List.drop 0 bs)) ∧ (hide (List.map AC.u8 (exL (List.map asU8 (List.take 16 (List.drop 0 ks))) 176)) = List.map AC.u8 (exL (keyOf (hide (List.map AC.u8 (exL (List.map asU8 (List.take 16 (List.drop 0 ks))) 176)))) 176) ∧ List.length (keyOf (hide (List.map AC.u8 (exL (List.map asU8 (List.take 16 (List.drop 0 ks))) 176)))) = 16 ∧ allU8 (List.take 16 (List.drop 0 bs)) ∧ List.length (List.take 16 (List.drop 0 bs)) = 16) ∧ 16 ≤ List.length ks ∧ 16 ≤ List.length bs ∧ Flat (List.take 16 (List.drop 0 ks)) ∧ Flat (List.take 16 (List.drop 0 bs)) ∧ (allU8 (List.take 16 (List.drop 0 ks)) ∧ List.length (List.take 16 (List.drop 0 ks)) = 16 ∧ allU8 (List.take 16 (List.drop 0 bs)) ∧ List.length (List.take 16 (List.drop 0 bs)) = 16) ∧ (fitCs (List.replicate 16 (AC.u8 (0 : BitVec 8))) (hide (List.map AC.u8 (encF (keyOf (hide (List.map AC.u8 (exL (List.map asU8 (List.take 16 (List.drop 0 ks))) 176)))) (List.map asU8 (List.take 16 (List.drop 0 bs)))))) ∧ fitCs (List.replicate 16 (AC.u8 (0 : BitVec 8))) (hide (List.map AC.u8 (encF (List.map asU8 (List.take 16 (List.drop 0 ks))) (List.map asU8 (List.take 16 (List.drop 0 bs))))))) ∧ (sameCells (hide (List.map AC.u8 (encF (keyOf (hide (List.map AC.u8 (exL (List.map asU8 (List.take 16 (List.drop 0 ks))) 176)))) (List.map asU8 (List.take 16 (List.drop 0 bs)))))) (hide (List.map AC.u8 (encF (List.map asU8 (List.take 16 (List.drop 0 ks))) (List.map asU8 (List.take 16 (List.drop 0 bs)))))) = true → Q (AV.one (AC.b true)) []) ∧ (sameCells (hide (List.map AC.u8 (encF (keyOf (hide (List.map AC.u8 (exL (List.map asU8 (List.take 16 (List.drop 0 ks))) 176)))) (List.map asU8 (List.take 16 (List.drop 0 bs)))))) (hide (List.map AC.u8 (encF (List.map asU8 (List.take 16 (List.drop 0 ks))) (List.map asU8 (List.take 16 (List.drop 0 bs)))))) = false → Q (AV.one (AC.b false)) [])) : KRun X 9 0 Q ([.code (bodyOf Try.f9)]) (slots [.agg ks, .agg bs] Try.f9.ntmps) [] :=
  wpRun_ok (hX ▸ baseK_ok T16 mf13 M13) (hX ▸ baseK_call T16_ok M13_ok) (hX ▸ mixed) (hX ▸ ok9) LK_ok (cast (β := wpRun (baseK T16 mf13 M13) [12] [] false (RS.mk Try.f9.results.toList 0 (CS.mk [] [] [] [])) (LK X 9 0 Q true []) Q 2000 ([.code (bodyOf Try.f9)]) (slots [.agg ks, .agg bs] Try.f9.ntmps) []) (by kernel_rfl) h)
set_option maxRecDepth 100000 in
theorem vc10 {X : Ctx} {Q : AV → Mem → Prop} (hX : X.P = Try.prog) (c d : BitVec 8) (h : (decide (bx c = bx c) = true → (decide (xt c = tmF c (BitVec.ofInt 8 (2 : Int))) = true → ((decide (bx c = bx d) == decide (c = d)) = true → Q (AV.one (AC.b true)) []) ∧ ((decide (bx c = bx d) == decide (c = d)) = false → Q (AV.one (AC.b false)) [])) ∧ (decide (xt c = tmF c (BitVec.ofInt 8 (2 : Int))) = false → Q (AV.one (AC.b false)) [])) ∧ (decide (bx c = bx c) = false → Q (AV.one (AC.b false)) [])) : KRun X 10 0 Q ([.code (bodyOf Try.f10)]) (slots [.one (.u8 c), .one (.u8 d)] Try.f10.ntmps) [] :=
  wpRun_ok (hX ▸ baseK_ok T16 mf13 M13) (hX ▸ baseK_call T16_ok M13_ok) (hX ▸ mixed) (hX ▸ ok10) LK_ok (cast (β := wpRun (baseK T16 mf13 M13) [9, 15, 26] [] false (RS.mk Try.f10.results.toList 0 (CS.mk [] [] [] [])) (LK X 10 0 Q true []) Q 2000 ([.code (bodyOf Try.f10)]) (slots [.one (.u8 c), .one (.u8 d)] Try.f10.ntmps) []) (by kernel_rfl) h)
theorem keyOf_ex' (key : List (BitVec 8)) (hk : key.length = 16) : keyOf ((exL key 176).map AC.u8) = key := keyOf_ex key hk
theorem encF_len (key b : List (BitVec 8)) : (encF key b).length = 16 := encN_len _ _ _
theorem fitE {l : List (BitVec 8)} (h : l.length = 16) : fitCs (List.replicate 16 (AC.u8 0)) (l.map AC.u8) := by
  have := fit_u8 l
  rw [h] at this
  exact this
theorem s9 (key b : List (BitVec 8)) (hk : key.length = 16) (hb : b.length = 16) : Spec Try.prog 9 [.agg (key.map AC.u8), .agg (b.map AC.u8)] [] Fin := by
  refine Spec.of_run ok9 fun X hX => vc9 hX _ _ ?_
  have ek : key.take 16 = key := List.take_of_length_le (by omega)
  have eb : b.take 16 = b := List.take_of_length_le (by omega)
  have kk := keyOf_ex key hk
  have zz : Flat (AC.b true :: (exL key 176).map AC.u8) := fun c h => by
    rcases List.mem_cons.1 h with rfl | h
    · rfl
    · exact flat_u8 _ c h
  have fe := fitE (encF_len key b)
  simp only [hide_eq, tkm, tk0, List.drop_zero, ek, eb, map_as8, kk, same_self, List.length_map, hk, hb, Bool.true_eq_false, false_implies, true_implies, forall_const]
  clear kk ek eb
  (repeat' (first | exact fin | exact trivial | exact allU8_map _ | exact flat_u8 _ | exact zz | exact fe | exact Nat.le_refl _ | refine And.intro ?_ ?_ | (intro h; first | (cases h; done) | skip))) <;> omega
theorem s10 (c d : BitVec 8) : Spec Try.prog 10 [.one (.u8 c), .one (.u8 d)] [] Fin := by
  refine Spec.of_run ok10 fun X hX => vc10 hX _ _ ?_
  have e1 : decide (bx c = bx c) = true := decide_eq_true rfl
  have e2 : decide (xt c = tmF c (BitVec.ofInt 8 2)) = true := decide_eq_true (tm_all c).1.symm
  have e3 : (decide (bx c = bx d) == decide (c = d)) = true := by
    have : decide (bx c = bx d) = decide (c = d) := decide_eq_decide.2 ⟨bx_inj, fun h => by rw [h]⟩
    rw [this]
    exact beq_self_eq_true _
  rw [e1, e2, e3]
  exact ⟨fun _ => ⟨fun _ => ⟨fun _ => fin, nofun⟩, nofun⟩, nofun⟩
end DH

noncomputable section
namespace DH
open Go Go.Proofs
/-! Round -/
def rdF (key : List (BitVec 8)) (n : Int) : List (BitVec 8) := if 0 ≤ n ∧ n ≤ 10 then rkF key n.toNat else List.replicate 16 0
theorem rdF_len (key : List (BitVec 8)) (n : Int) : (rdF key n).length = 16 := by
  unfold rdF
  split
  · exact rkF_len key (by omega)
  · exact List.length_replicate
theorem s55t (key : List (BitVec 8)) (hk : key.length = 16) (n : Int) : Spec Try.prog 55 [.agg (kc true (exL key 176)), .one (.i64 n)] [] (Is (.agg ((rdF key n).map AC.u8))) := by
  refine Spec.of_run ok55 fun X hX => vc55t hX _ _ ?_
  have hE := exL_len key 176
  have z : Flat (List.replicate 16 (AC.u8 0)) := by rw [mrep]; exact flat_u8 _
  have ez : List.take 16 (List.drop 0 (layS (List.replicate 16 (AC.u8 0)) 0 (List.replicate 16 (AC.u8 0)))) = List.replicate 16 (AC.u8 0) := rfl
  have hl : (AC.b true :: (exL key 176).map AC.u8).length = 177 := by rw [List.length_cons, List.length_map, hE]
  have zk : Flat (List.take 177 (List.drop 0 (AC.b true :: (exL key 176).map AC.u8))) := fun c h => by
    have h := List.mem_of_mem_drop (List.mem_of_mem_take h)
    rcases List.mem_cons.1 h with rfl | h
    · rfl
    · exact flat_u8 _ c h
  have ek : (exL key 176).take 176 = exL key 176 := List.take_of_length_le (by omega)
  refine ⟨fun h => ?_, fun h0 => ⟨fun h => ?_, fun h1 => ?_⟩⟩
  · have h := of_decide_eq_true h
    have e : rdF key n = List.replicate 16 0 := if_neg (by omega)
    rw [e, List.map_replicate]
    exact ⟨⟨rfl, Nat.le_refl _⟩, Nat.le_refl _, z, rfl⟩
  · have h := of_decide_eq_true h
    have e : rdF key n = List.replicate 16 0 := if_neg (by omega)
    rw [e, List.map_replicate]
    exact ⟨⟨rfl, Nat.le_refl _⟩, Nat.le_refl _, z, rfl⟩
  · have h0 := of_decide_eq_false h0
    have h1 := of_decide_eq_false h1
    obtain ⟨m, rfl⟩ := Int.eq_ofNat_of_zero_le (show 0 ≤ n by omega)
    have hr := rkF_len key (n := m) (by omega)
    have e : rdF key (m : Int) = rkF key m := by
      unfold rdF
      rw [if_pos (by omega)]
      rfl
    have em : 0 + Int.toNat (m : Int) * 16 = 16 * m := by omega
    have rk : ((exL key 176).drop (16 * m)).take 16 = rkF key m := rfl
    have l2 : layS (List.replicate 176 (AC.u8 0)) 0 ((exL key 176).map AC.u8) = (exL key 176).map AC.u8 := layR _ _ hE
    have er : (rkF key m).take 16 = rkF key m := List.take_of_length_le (by omega)
    rw [e, em]
    refine ⟨by rw [hl]; exact Nat.le_refl _, zk, ?_⟩
    simp only [hide_eq, tkm, tk0, List.drop_zero, ek, map_as8, l2, rk, layR _ _ hr, er, List.length_map, hE, hr]
    clear hE hl zk ek l2 rk er hr
    (repeat' (first | exact trivial | exact allU8_map _ | exact flat_u8 _ | exact flatA _ | exact Nat.le_refl _ | (show Is _ _ _; exact rfl) | refine And.intro ?_ ?_)) <;> omega
theorem s55f (ks : List (BitVec 8)) (hks : ks.length = 176) (n : Int) : Spec Try.prog 55 [.agg (kc false ks), .one (.i64 n)] [] (Is (.agg ((rdF zkey n).map AC.u8))) := by
  refine Spec.of_run ok55 fun X hX => vc55f hX _ _ ?_
  have hE := exL_len zkey 176
  have z : Flat (List.replicate 16 (AC.u8 0)) := by rw [mrep]; exact flat_u8 _
  have ez : List.take 16 (List.drop 0 (layS (List.replicate 16 (AC.u8 0)) 0 (List.replicate 16 (AC.u8 0)))) = List.replicate 16 (AC.u8 0) := rfl
  have hl : (AC.b false :: ks.map AC.u8).length = 177 := by rw [List.length_cons, List.length_map, hks]
  have zk : Flat (List.take 177 (List.drop 0 (AC.b false :: ks.map AC.u8))) := fun c h => by
    have h := List.mem_of_mem_drop (List.mem_of_mem_take h)
    rcases List.mem_cons.1 h with rfl | h
    · rfl
    · exact flat_u8 _ c h
  have ek : (exL zkey 176).take 176 = exL zkey 176 := List.take_of_length_le (by omega)
  refine ⟨fun h => ?_, fun h0 => ⟨fun h => ?_, fun h1 => ?_⟩⟩
  · have h := of_decide_eq_true h
    have e : rdF zkey n = List.replicate 16 0 := if_neg (by omega)
    rw [e, List.map_replicate]
    exact ⟨⟨rfl, Nat.le_refl _⟩, Nat.le_refl _, z, rfl⟩
  · have h := of_decide_eq_true h
    have e : rdF zkey n = List.replicate 16 0 := if_neg (by omega)
    rw [e, List.map_replicate]
    exact ⟨⟨rfl, Nat.le_refl _⟩, Nat.le_refl _, z, rfl⟩
  · have h0 := of_decide_eq_false h0
    have h1 := of_decide_eq_false h1
    obtain ⟨m, rfl⟩ := Int.eq_ofNat_of_zero_le (show 0 ≤ n by omega)
    have hr := rkF_len zkey (n := m) (by omega)
    have e : rdF zkey (m : Int) = rkF zkey m := by
      unfold rdF
      rw [if_pos (by omega)]
      rfl
    have em : 0 + Int.toNat (m : Int) * 16 = 16 * m := by omega
    have rk : ((exL zkey 176).drop (16 * m)).take 16 = rkF zkey m := rfl
    have l2 : layS (List.replicate 176 (AC.u8 0)) 0 ((exL zkey 176).map AC.u8) = (exL zkey 176).map AC.u8 := layR _ _ hE
    have er : (rkF zkey m).take 16 = rkF zkey m := List.take_of_length_le (by omega)
    rw [e, em]
    refine ⟨by rw [hl]; exact Nat.le_refl _, zk, ?_⟩
    simp only [hide_eq, tkm, tk0, List.drop_zero, ek, map_as8, l2, rk, layR _ _ hr, er, List.length_map, hE, hr]
    clear hE hl zk ek l2 rk er hr
    (repeat' (first | exact trivial | exact allU8_map _ | exact flat_u8 _ | exact flatA _ | exact Nat.le_refl _ | (show Is _ _ _; exact rfl) | refine And.intro ?_ ?_)) <;> omega
noncomputable def T17 : Tab := fun f xs => match f, xs with
  | 55, [.agg (.b true :: cs), .one (.i64 n)] => some ([cs = (exL (keyOf cs) 176).map AC.u8 ∧ (keyOf cs).length = 16], .agg (hide ((rdF (keyOf cs) n).map AC.u8)))
  | 55, [.agg (.b false :: cs), .one (.i64 n)] => some ([allU8 cs ∧ cs.length = 176], .agg (hide ((rdF zkey n).map AC.u8)))
  | f, xs => T16 f xs
theorem T17_ok : TabOk Try.prog T17 := by
  intro f xs cs r h hc
  unfold T17 at h
  split at h
  · obtain ⟨rfl, rfl⟩ := Prod.mk.inj (Option.some.inj h)
    obtain ⟨h1, h2⟩ := hc.1
    rename_i cs n
    have := s55t (keyOf cs) h2 n
    unfold kc at this
    rw [← h1] at this
    rw [hide_eq]
    exact ⟨⟨_, _, ok55⟩, this, exactL_map _ (fun _ => rfl) _⟩
  · obtain ⟨rfl, rfl⟩ := Prod.mk.inj (Option.some.inj h)
    obtain ⟨h1, h2⟩ := hc.1
    rename_i cs n
    have := s55f (cs.map asU8) (by rw [List.length_map]; exact h2) n
    unfold kc at this
    rw [← h1] at this
    rw [hide_eq]
    exact ⟨⟨_, _, ok55⟩, this, exactL_map _ (fun _ => rfl) _⟩
  · exact T16_ok _ _ _ _ h hc
end DH

noncomputable section
namespace DH
open Go Go.Proofs
set_option maxRecDepth 100000 in
theorem vc12 {X : Ctx} {Q : AV → Mem → Prop} (hX : X.P = Try.prog) (ks : List AC) (n : Int) (h : (decide ((0 : Int) ≤ n) = true → (decide (n ≤ (10 : Int)) = true → 16 ≤ List.length ks ∧ Flat (List.take 16 (List.drop 0 ks)) ∧ Flat (hide (List.map AC.u8 boxT)) ∧ (allU8 (List.take 16 (List.drop 0 ks)) ∧ List.length (List.take 16 (List.drop 0 ks)) = 16 ∧ hide (List.map AC.u8 boxT) = List.map AC.u8 boxT) ∧ ((0 : Int) ≤ n ∧ n < (↑11 : Int)) ∧ Int.toNat n * 16 + 16 ≤ List.length (hide (List.map AC.u8 (exL (List.map asU8 (List.take 16 (List.drop 0 ks))) 176))) ∧ (List.length (List.take 16 (List.drop (Int.toNat n * 16) (hide (List.map AC.u8 (exL (List.map asU8 (List.take 16 (List.drop 0 ks))) 176))))) = 16 ∧ 16 ≤ 16) ∧ Flat ks ∧ Flat (layS (List.replicate 16 (AC.u8 (0 : BitVec 8))) 0 (List.take 16 (List.drop (Int.toNat n * 16) (hide (List.map AC.u8 (exL (List.map asU8 (List.take 16 (List.drop 0 ks))) 176)))))) ∧ KR X 12 0 Q (kCut Try.f12 3) (mkS 26 [(1, AV.one (AC.i64 n)), (2, AV.one (AC.ptr 0 0)), (5, AV.one (AC.ptr 1 0))]) [some ks, some (layS (List.replicate 16 (AC.u8 (0 : BitVec 8))) 0 (List.take 16 (List.drop (Int.toNat n * 16) (hide (List.map AC.u8 (exL (List.map asU8 (List.take 16 (List.drop 0 ks))) 176))))))]) ∧ (decide (n ≤ (10 : Int)) = false → 16 ≤ List.length ks ∧ Flat (List.take 16 (List.drop 0 ks)) ∧ (allU8 (List.take 16 (List.drop 0 ks)) ∧ List.length (List.take 16 (List.drop 0 ks)) = 16) ∧ Flat (AC.b true :: hide (List.map AC.u8 (exL (List.map asU8 (List.take 16 (List.drop 0 ks))) 176))) ∧ (hide (List.map AC.u8 (exL (List.map asU8 (List.take 16 (List.drop 0 ks))) 176)) = List.map AC.u8 (exL (keyOf (hide (List.map AC.u8 (exL (List.map asU8 (List.take 16 (List.drop 0 ks))) 176)))) 176) ∧ List.length (keyOf (hide (List.map AC.u8 (exL (List.map asU8 (List.take 16 (List.drop 0 ks))) 176)))) = 16) ∧ 16 ≤ 16 ∧ (fitCs (List.replicate 16 (AC.u8 (0 : BitVec 8))) (hide (List.map AC.u8 (rdF (keyOf (hide (List.map AC.u8 (exL (List.map asU8 (List.take 16 (List.drop 0 ks))) 176)))) n))) ∧ fitCs (List.replicate 16 (AC.u8 (0 : BitVec 8))) (List.take 16 (List.drop 0 (List.replicate 16 (AC.u8 (0 : BitVec 8)))))) ∧ (sameCells (hide (List.map AC.u8 (rdF (keyOf (hide (List.map AC.u8 (exL (List.map asU8 (List.take 16 (List.drop 0 ks))) 176)))) n))) (List.take 16 (List.drop 0 (List.replicate 16 (AC.u8 (0 : BitVec 8))))) = true → Q (AV.one (AC.b true)) []) ∧ (sameCells (hide (List.map AC.u8 (rdF (keyOf (hide (List.map AC.u8 (exL (List.map asU8 (List.take 16 (List.drop 0 ks))) 176)))) n))) (List.take 16 (List.drop 0 (List.replicate 16 (AC.u8 (0 : BitVec 8))))) = false → Q (AV.one (AC.b false)) []))) ∧ (decide ((0 : Int) ≤ n) = false → 16 ≤ List.length ks ∧ Flat (List.take 16 (List.drop 0 ks)) ∧ (allU8 (List.take 16 (List.drop 0 ks)) ∧ List.length (List.take 16 (List.drop 0 ks)) = 16) ∧ Flat (AC.b true :: hide (List.map AC.u8 (exL (List.map asU8 (List.take 16 (List.drop 0 ks))) 176))) ∧ (hide (List.map AC.u8 (exL (List.map asU8 (List.take 16 (List.drop 0 ks))) 176)) = List.map AC.u8 (exL (keyOf (hide (List.map AC.u8 (exL (List.map asU8 (List.take 16 (List.drop 0 ks))) 176)))) 176) ∧ List.length (keyOf (hide (List.map AC.u8 (exL (List.map asU8 (List.take 16 (List.drop 0 ks))) 176)))) = 16) ∧ 16 ≤ 16 ∧ (fitCs (List.replicate 16 (AC.u8 (0 : BitVec 8))) (hide (List.map AC.u8 (rdF (keyOf (hide (List.map AC.u8 (exL (List.map asU8 (List.take 16 (List.drop 0 ks))) 176)))) n))) ∧ fitCs (List.replicate 16 (AC.u8 (0 : BitVec 8))) (List.take 16 (List.drop 0 (List.replicate 16 (AC.u8 (0 : BitVec 8)))))) ∧ (sameCells (hide (List.map AC.u8 (rdF (keyOf (hide (List.map AC.u8 (exL (List.map asU8 (List.take 16 (List.drop 0 ks))) 176)))) n))) (List.take 16 (List.drop 0 (List.replicate 16 (AC.u8 (0 : BitVec 8))))) = true → Q (AV.one (AC.b true)) []) ∧ (sameCells (hide (List.map AC.u8 (rdF (keyOf (hide (List.map AC.u8 (exL (List.map asU8 (List.take 16 (List.drop 0 ks))) 176)))) n))) (List.take 16 (List.drop 0 (List.replicate 16 (AC.u8 (0 : BitVec 8))))) = false → Q (AV.one (AC.b false)) []))) : KRun X 12 0 Q ([.code (bodyOf Try.f12)]) (slots [.agg ks, .one (.i64 n)] Try.f12.ntmps) [] :=
  wpRun_ok (hX ▸ baseK_ok T17 mf13 M13) (hX ▸ baseK_call T17_ok M13_ok) (hX ▸ mixed) (hX ▸ ok12) LK_ok (cast (β := wpRun (baseK T17 mf13 M13) [7, 10, 22] [(3, 5), (100003, 0)] false (RS.mk Try.f12.results.toList 0 (CS.mk [] [] [] [])) (LK X 12 0 Q true [(4, LS.mk [1, 2, 5] (CS.mk [] [true, true] [] []))]) Q 2000 ([.code (bodyOf Try.f12)]) (slots [.agg ks, .one (.i64 n)] Try.f12.ntmps) []) (by kernel_rfl) h)
set_option maxRecDepth 100000 in
theorem vc13 {X : Ctx} {Q : AV → Mem → Prop} (hX : X.P = Try.prog) (bs : List AC) (n : Int) (h : Flat (List.replicate 16 (AC.u8 (0 : BitVec 8))) ∧ (allU8 (List.replicate 16 (AC.u8 (0 : BitVec 8))) ∧ 16 = 16) ∧ (List.length (AC.b true :: hide (List.map AC.u8 (exL (List.map asU8 (List.replicate 16 (AC.u8 (0 : BitVec 8)))) 176))) = 177 ∧ 177 ≤ 177) ∧ Flat bs ∧ Flat (layS ([AC.b false] ++ List.replicate 176 (AC.u8 (0 : BitVec 8))) 0 (AC.b true :: hide (List.map AC.u8 (exL (List.map asU8 (List.replicate 16 (AC.u8 (0 : BitVec 8)))) 176)))) ∧ KR X 13 0 Q (kCut Try.f13 1) (mkS 27 [(1, AV.one (AC.i64 n)), (2, AV.one (AC.ptr 0 0)), (5, AV.one (AC.ptr 1 0))]) [some bs, some (layS ([AC.b false] ++ List.replicate 176 (AC.u8 (0 : BitVec 8))) 0 (AC.b true :: hide (List.map AC.u8 (exL (List.map asU8 (List.replicate 16 (AC.u8 (0 : BitVec 8)))) 176))))]) : KRun X 13 0 Q ([.code (bodyOf Try.f13)]) (slots [.agg bs, .one (.i64 n)] Try.f13.ntmps) [] :=
  wpRun_ok (hX ▸ baseK_ok T17 mf13 M13) (hX ▸ baseK_call T17_ok M13_ok) (hX ▸ mixed) (hX ▸ ok13) LK_ok (cast (β := wpRun (baseK T17 mf13 M13) [14, 22] [(100001, 0)] false (RS.mk Try.f13.results.toList 0 (CS.mk [] [] [] [])) (LK X 13 0 Q true [(2, LS.mk [1, 2, 5] (CS.mk [] [true, true] [] []))]) Q 2000 ([.code (bodyOf Try.f13)]) (slots [.agg bs, .one (.i64 n)] Try.f13.ntmps) []) (by kernel_rfl) h)
set_option maxRecDepth 100000 in
theorem vc12b {X : Ctx} {Q : AV → Mem → Prop} (hX : X.P = Try.prog) (ks ws : List AC) (n : Int) (h : 16 ≤ List.length ks ∧ Flat (List.take 16 (List.drop 0 ks)) ∧ (allU8 (List.take 16 (List.drop 0 ks)) ∧ List.length (List.take 16 (List.drop 0 ks)) = 16) ∧ Flat (AC.b true :: hide (List.map AC.u8 (exL (List.map asU8 (List.take 16 (List.drop 0 ks))) 176))) ∧ (hide (List.map AC.u8 (exL (List.map asU8 (List.take 16 (List.drop 0 ks))) 176)) = List.map AC.u8 (exL (keyOf (hide (List.map AC.u8 (exL (List.map asU8 (List.take 16 (List.drop 0 ks))) 176)))) 176) ∧ List.length (keyOf (hide (List.map AC.u8 (exL (List.map asU8 (List.take 16 (List.drop 0 ks))) 176)))) = 16) ∧ 16 ≤ List.length ws ∧ (fitCs (List.replicate 16 (AC.u8 (0 : BitVec 8))) (hide (List.map AC.u8 (rdF (keyOf (hide (List.map AC.u8 (exL (List.map asU8 (List.take 16 (List.drop 0 ks))) 176)))) n))) ∧ fitCs (List.replicate 16 (AC.u8 (0 : BitVec 8))) (List.take 16 (List.drop 0 ws))) ∧ (sameCells (hide (List.map AC.u8 (rdF (keyOf (hide (List.map AC.u8 (exL (List.map asU8 (List.take 16 (List.drop 0 ks))) 176)))) n))) (List.take 16 (List.drop 0 ws)) = true → Q (AV.one (AC.b true)) []) ∧ (sameCells (hide (List.map AC.u8 (rdF (keyOf (hide (List.map AC.u8 (exL (List.map asU8 (List.take 16 (List.drop 0 ks))) 176)))) n))) (List.take 16 (List.drop 0 ws)) = false → Q (AV.one (AC.b false)) [])) : KRun X 12 0 Q (kCut Try.f12 3) (mkS 26 [(1, .one (.i64 n)), (2, .one (.ptr 0 0)), (5, .one (.ptr 1 0))]) [some ks, some ws] :=
  wpRun_ok (hX ▸ baseK_ok T17 mf13 M13) (hX ▸ baseK_call T17_ok M13_ok) (hX ▸ mixed) (hX ▸ ok12) LK_ok (cast (β := wpRun (baseK T17 mf13 M13) [7, 10, 22] [(3, 5), (100003, 0)] false (RS.mk Try.f12.results.toList 0 (CS.mk [] [] [] [])) (LK X 12 0 Q true [(4, LS.mk [1, 2, 5] (CS.mk [] [true, true] [] []))]) Q 2000 (kCut Try.f12 3) (mkS 26 [(1, .one (.i64 n)), (2, .one (.ptr 0 0)), (5, .one (.ptr 1 0))]) [some ks, some ws]) (by kernel_rfl) h)
set_option maxRecDepth 100000 in
theorem vc13b {X : Ctx} {Q : AV → Mem → Prop} (hX : X.P = Try.prog) (bs ks : List AC) (n : Int) (h : 16 ≤ List.length bs ∧ Flat ([AC.b false] ++ List.replicate 176 (AC.u8 (0 : BitVec 8))) ∧ Flat (List.take 16 (List.drop 0 bs)) ∧ (allU8 (List.replicate 176 (AC.u8 (0 : BitVec 8))) ∧ 176 = 176 ∧ allU8 (List.take 16 (List.drop 0 bs)) ∧ List.length (List.take 16 (List.drop 0 bs)) = 16) ∧ 177 ≤ List.length (AC.b true :: ks) ∧ 16 ≤ List.length bs ∧ Flat (List.take 177 (List.drop 0 (AC.b true :: ks))) ∧ Flat (List.take 16 (List.drop 0 bs)) ∧ (List.take 176 ks = List.map AC.u8 (exL (keyOf (List.take 176 ks)) 176) ∧ List.length (keyOf (List.take 176 ks)) = 16 ∧ allU8 (List.take 16 (List.drop 0 bs)) ∧ List.length (List.take 16 (List.drop 0 bs)) = 16) ∧ (fitCs (List.replicate 16 (AC.u8 (0 : BitVec 8))) (hide (List.map AC.u8 (encF zkey (List.map asU8 (List.take 16 (List.drop 0 bs)))))) ∧ fitCs (List.replicate 16 (AC.u8 (0 : BitVec 8))) (hide (List.map AC.u8 (encF (keyOf (List.take 176 ks)) (List.map asU8 (List.take 16 (List.drop 0 bs))))))) ∧ (sameCells (hide (List.map AC.u8 (encF zkey (List.map asU8 (List.take 16 (List.drop 0 bs)))))) (hide (List.map AC.u8 (encF (keyOf (List.take 176 ks)) (List.map asU8 (List.take 16 (List.drop 0 bs)))))) = true → Flat ([AC.b false] ++ List.replicate 176 (AC.u8 (0 : BitVec 8))) ∧ (allU8 (List.replicate 176 (AC.u8 (0 : BitVec 8))) ∧ 176 = 176) ∧ 177 ≤ List.length (AC.b true :: ks) ∧ Flat (List.take 177 (List.drop 0 (AC.b true :: ks))) ∧ (List.take 176 ks = List.map AC.u8 (exL (keyOf (List.take 176 ks)) 176) ∧ List.length (keyOf (List.take 176 ks)) = 16) ∧ (fitCs (List.replicate 16 (AC.u8 (0 : BitVec 8))) (hide (List.map AC.u8 (rdF zkey n))) ∧ fitCs (List.replicate 16 (AC.u8 (0 : BitVec 8))) (hide (List.map AC.u8 (rdF (keyOf (List.take 176 ks)) n)))) ∧ (sameCells (hide (List.map AC.u8 (rdF zkey n))) (hide (List.map AC.u8 (rdF (keyOf (List.take 176 ks)) n))) = true → Q (AV.one (AC.b true)) []) ∧ (sameCells (hide (List.map AC.u8 (rdF zkey n))) (hide (List.map AC.u8 (rdF (keyOf (List.take 176 ks)) n))) = false → Q (AV.one (AC.b false)) [])) ∧ (sameCells (hide (List.map AC.u8 (encF zkey (List.map asU8 (List.take 16 (List.drop 0 bs)))))) (hide (List.map AC.u8 (encF (keyOf (List.take 176 ks)) (List.map asU8 (List.take 16 (List.drop 0 bs)))))) = false → Q (AV.one (AC.b false)) [])) : KRun X 13 0 Q (kCut Try.f13 1) (mkS 27 [(1, .one (.i64 n)), (2, .one (.ptr 0 0)), (5, .one (.ptr 1 0))]) [some bs, some (.b true :: ks)] :=
  wpRun_ok (hX ▸ baseK_ok T17 mf13 M13) (hX ▸ baseK_call T17_ok M13_ok) (hX ▸ mixed) (hX ▸ ok13) LK_ok (cast (β := wpRun (baseK T17 mf13 M13) [14, 22] [(100001, 0)] false (RS.mk Try.f13.results.toList 0 (CS.mk [] [] [] [])) (LK X 13 0 Q true [(2, LS.mk [1, 2, 5] (CS.mk [] [true, true] [] []))]) Q 2000 (kCut Try.f13 1) (mkS 27 [(1, .one (.i64 n)), (2, .one (.ptr 0 0)), (5, .one (.ptr 1 0))]) [some bs, some (.b true :: ks)]) (by kernel_rfl) h)
theorem kflat (ks : List (BitVec 8)) (b : Bool) : Flat (AC.b b :: ks.map AC.u8) := fun c h => by
  rcases List.mem_cons.1 h with rfl | h
  · rfl
  · exact flat_u8 _ c h
theorem s12 (key : List (BitVec 8)) (hk : key.length = 16) (n : Int) : Spec Try.prog 12 [.agg (key.map AC.u8), .one (.i64 n)] [] Fin := by
  refine Spec.of_run ok12 fun X hX => vc12 hX _ _ ?_
  have ek : key.take 16 = key := List.take_of_length_le (by omega)
  have kk := keyOf_ex key hk
  have hE := exL_len key 176
  have z : Flat (List.replicate 16 (AC.u8 0)) := by rw [mrep]; exact flat_u8 _
  have fr := fitE (rdF_len key n)
  have hr := rdF_len key n
  have er : (rdF key n).take 16 = rdF key n := List.take_of_length_le (by omega)
  have K : KRun X 12 0 Fin (kCut Try.f12 3) (mkS 26 [(1, .one (.i64 n)), (2, .one (.ptr 0 0)), (5, .one (.ptr 1 0))]) [some (key.map AC.u8), some ((rdF key n).map AC.u8)] := by
    refine vc12b hX _ _ _ ?_
    have fe := fr
    have fz := fr
    simp only [hide_eq, tkm, tk0, List.drop_zero, ek, er, map_as8, kk, same_self, List.length_map, hk, hr, Bool.true_eq_false, false_implies, true_implies, forall_const]
    clear kk hE ek er
    (repeat' (first | exact fin | exact trivial | exact allU8_map _ | exact flat_u8 _ | exact flatA _ | exact kflat _ _ | exact fe | exact fr | exact fz | exact z | exact Nat.le_refl _ | refine And.intro ?_ ?_ | (intro h; first | (cases h; done) | skip))) <;> first | omega | skip
  have fe := fr
  have fz : fitCs (List.replicate 16 (AC.u8 0)) (List.replicate 16 (AC.u8 0)) := by have := fitE (l := List.replicate 16 0) List.length_replicate; rwa [List.map_replicate] at this
  refine ⟨fun h0 => ⟨fun h1 => ?_, fun h1 => ?_⟩, fun h0 => ?_⟩
  · have h0 := of_decide_eq_true h0
    have h1 := of_decide_eq_true h1
    have e : ((exL key 176).drop (n.toNat * 16)).take 16 = rdF key n := by
      unfold rdF
      rw [if_pos ⟨h0, h1⟩, rk_eq]
    simp only [hide_eq, tkm, tk0, List.drop_zero, ek, map_as8, e, layR _ _ hr, List.length_map, hk, hE, hr]
    clear kk hE ek er e
    (repeat' (first | exact fin | exact trivial | exact allU8_map _ | exact flat_u8 _ | exact flatA _ | exact kflat _ _ | exact fe | exact fr | exact fz | exact z | exact Nat.le_refl _ | refine And.intro ?_ ?_ | (intro h; first | (cases h; done) | skip))) <;> first | omega | skip
    exact ⟨K⟩
  · have h1 := of_decide_eq_false h1
    have e : (rdF key n).map AC.u8 = List.replicate 16 (AC.u8 0) := by
      unfold rdF
      rw [if_neg (by omega), List.map_replicate]
    simp only [hide_eq, tkm, tk0, List.drop_zero, ek, map_as8, kk, e, List.length_map, hk, show List.take 16 (List.replicate 16 (AC.u8 0)) = List.replicate 16 (AC.u8 0) from rfl, same_self, Bool.true_eq_false, false_implies, true_implies, forall_const]
    clear kk hE ek er e
    (repeat' (first | exact fin | exact trivial | exact allU8_map _ | exact flat_u8 _ | exact flatA _ | exact kflat _ _ | exact fe | exact fr | exact fz | exact z | exact Nat.le_refl _ | refine And.intro ?_ ?_ | (intro h; first | (cases h; done) | skip))) <;> first | omega | skip
  · have h0 := of_decide_eq_false h0
    have e : (rdF key n).map AC.u8 = List.replicate 16 (AC.u8 0) := by
      unfold rdF
      rw [if_neg (by omega), List.map_replicate]
    simp only [hide_eq, tkm, tk0, List.drop_zero, ek, map_as8, kk, e, List.length_map, hk, show List.take 16 (List.replicate 16 (AC.u8 0)) = List.replicate 16 (AC.u8 0) from rfl, same_self, Bool.true_eq_false, false_implies, true_implies, forall_const]
    clear kk hE ek er e
    (repeat' (first | exact fin | exact trivial | exact allU8_map _ | exact flat_u8 _ | exact flatA _ | exact kflat _ _ | exact fe | exact fr | exact fz | exact z | exact Nat.le_refl _ | refine And.intro ?_ ?_ | (intro h; first | (cases h; done) | skip))) <;> first | omega | skip
theorem s13 (b : List (BitVec 8)) (hb : b.length = 16) (n : Int) : Spec Try.prog 13 [.agg (b.map AC.u8), .one (.i64 n)] [] Fin := by
  refine Spec.of_run ok13 fun X hX => vc13 hX _ _ ?_
  have hE := exL_len zkey 176
  have kk := keyOf_ex zkey rfl
  have eb : b.take 16 = b := List.take_of_length_le (by omega)
  have ek : (exL zkey 176).take 176 = exL zkey 176 := List.take_of_length_le (by omega)
  have z : Flat (List.replicate 16 (AC.u8 0)) := by rw [mrep]; exact flat_u8 _
  have fr := fitE (rdF_len zkey n)
  have fe := fitE (encF_len zkey b)
  have fz := fe
  have hz : zkey.length = 16 := Nat.le_antisymm (Nat.le_refl _) (Nat.le_refl _)
  have hl : (AC.b true :: (exL zkey 176).map AC.u8).length = 177 := by rw [List.length_cons, List.length_map, hE]
  have e177 : List.take 177 (List.drop 0 (AC.b true :: (exL zkey 176).map AC.u8)) = AC.b true :: (exL zkey 176).map AC.u8 := by rw [List.drop_zero, List.take_of_length_le (by rw [hl]; exact Nat.le_refl _)]
  have z177 : Flat ([AC.b false] ++ List.replicate 176 (AC.u8 0)) := by
    have := kflat (List.replicate 176 0) false
    rwa [List.map_replicate] at this
  have a16 : allU8 (List.replicate 16 (AC.u8 0)) := by rw [mrep]; exact allU8_map _
  have a176 : allU8 (List.replicate 176 (AC.u8 0)) := by rw [mrep]; exact allU8_map _
  have ez : List.map asU8 (List.replicate 16 (AC.u8 0)) = zkey := rfl
  have K : KRun X 13 0 Fin (kCut Try.f13 1) (mkS 27 [(1, .one (.i64 n)), (2, .one (.ptr 0 0)), (5, .one (.ptr 1 0))]) [some (b.map AC.u8), some (AC.b true :: (exL zkey 176).map AC.u8)] := by
    refine vc13b hX _ _ _ ?_
    rw [e177]
    simp only [hide_eq, tkm, tk0, List.drop_zero, eb, ek, map_as8, kk, hl, same_self, List.length_map, hb, hz, Bool.true_eq_false, false_implies, true_implies, forall_const]
    clear kk hE ek eb e177 hl
    (repeat' (first | exact fin | exact trivial | exact allU8_map _ | exact z177 | exact a176 | exact flat_u8 _ | exact kflat _ _ | exact fe | exact fr | exact Nat.le_refl _ | refine And.intro ?_ ?_)) <;> first | omega | skip
  have el : layS ([AC.b false] ++ List.replicate 176 (AC.u8 0)) 0 (AC.b true :: (exL zkey 176).map AC.u8) = AC.b true :: (exL zkey 176).map AC.u8 := layS_all (by rw [hl]; rfl)
  simp only [hide_eq, ez, el, hl]
  clear kk hE ek eb e177 hl el
  (repeat' (first | exact z | exact a16 | exact trivial | exact flat_u8 _ | exact kflat _ _ | exact Nat.le_refl _ | refine And.intro ?_ ?_)) <;> first | omega | exact ⟨K⟩
end DH

noncomputable section
namespace DH
open Go Go.Proofs
theorem s12w (k : List (BitVec 8)) (hk : (Sh.ar 16 .u8).wf k) (n : Int) : Spec Try.prog 12 [.agg (List.flatMap (Sh.enc .u8) k), .one (.i64 n)] [] (Is (.one (.b true))) := by
  rw [fm_u8]; exact s12 k hk.1 n
theorem s13w (b : List (BitVec 8)) (hb : (Sh.ar 16 .u8).wf b) (n : Int) : Spec Try.prog 13 [.agg (List.flatMap (Sh.enc .u8) b), .one (.i64 n)] [] (Is (.one (.b true))) := by
  rw [fm_u8]; exact s13 b hb.1 n
end DH

noncomputable section
namespace DH
open Go Go.Proofs
set_option maxRecDepth 100000 in
theorem vc52 {X : Ctx} {Q : AV → Mem → Prop} (hX : X.P = Try.prog) (ks bs : List AC) (h : (List.length (hide (List.map AC.u8 boxT)) = 256 ∧ 256 ≤ 256) ∧ Flat ks ∧ Flat bs ∧ Flat (List.replicate 16 (AC.u8 (0 : BitVec 8))) ∧ Flat (layS (List.replicate 256 (AC.u8 (0 : BitVec 8))) 0 (hide (List.map AC.u8 boxT))) ∧ Flat (List.replicate 256 (AC.u8 (0 : BitVec 8))) ∧ KR X 52 0 Q (kOf Try.f52 0) (mkS 121 [(2, AV.one (AC.ptr 0 0)), (3, AV.one (AC.ptr 1 0)), (4, AV.one (AC.ptr 2 0)), (5, AV.one (AC.ptr 3 0)), (6, AV.one (AC.ptr 4 0)), (7, AV.one (AC.i64 (0 : Int)))]) [some ks, some bs, some (List.replicate 16 (AC.u8 (0 : BitVec 8))), some (layS (List.replicate 256 (AC.u8 (0 : BitVec 8))) 0 (hide (List.map AC.u8 boxT))), some (List.replicate 256 (AC.u8 (0 : BitVec 8)))]) : KRun X 52 0 Q ([.code (bodyOf Try.f52)]) (slots [.agg ks, .agg bs] Try.f52.ntmps) [] :=
  wpRun_ok (hX ▸ baseK_ok T17 mf13 M13) (hX ▸ baseK_call T17_ok M13_ok) (hX ▸ mixed) (hX ▸ ok52) LK_ok (cast (β := wpRun (baseK T17 mf13 M13) [17, 30, 40, 43, 48, 94, 98] [(11, 5), (19, 42)] false (RS.mk Try.f52.results.toList 0 (CS.mk [] [] [0] [])) (LK X 52 0 Q true [(4, LS.mk [2, 3, 4, 5, 6, 7] (CS.mk [] [true, true, true, true, true] [] [])), (9, LS.mk [3, 4, 6, 8, 9] (CS.mk [] [true, true, true, true] [] [])), (14, LS.mk [3, 4, 6, 8, 9, 10, 11] (CS.mk [] [true, true, true, true, true] [] [])), (17, LS.mk [3, 4, 6, 8, 9, 10, 11, 12] (CS.mk [] [true, true, true, true, true] [] [])), (21, LS.mk [3, 4, 6, 8, 9, 10, 13] (CS.mk [] [true, true, true, true, true] [] [])), (24, LS.mk [3, 4, 6, 8, 9, 10, 13, 14] (CS.mk [] [true, true, true, true, true] [] []))]) Q 2000 ([.code (bodyOf Try.f52)]) (slots [.agg ks, .agg bs] Try.f52.ntmps) []) (by kernel_rfl) h)
set_option maxRecDepth 100000 in
theorem vc52a {X : Ctx} {Q : AV → Mem → Prop} (hX : X.P = Try.prog) (ks bs zs xs ys : List AC) (n : Int) (h : (decide (n < (256 : Int)) = true → ((0 : Int) ≤ n ∧ n < (↑256 : Int)) ∧ gt AC.any xs (0 + Int.toNat n * 1) = AC.u8 (asU8 (gt AC.any xs (0 + Int.toNat n * 1))) ∧ (1 = 1 ∧ 0 + Int.toNat (↑(BitVec.toNat (asU8 (gt AC.any xs (0 + Int.toNat n * 1)))) : Int) * 1 + 1 ≤ List.length ys) ∧ in64 (n + (1 : Int)) ∧ Flat ks ∧ Flat bs ∧ Flat zs ∧ Flat xs ∧ Flat (layS ys (0 + Int.toNat (↑(BitVec.toNat (asU8 (gt AC.any xs (0 + Int.toNat n * 1)))) : Int) * 1) [AC.u8 (BitVec.ofInt 8 n)]) ∧ KR X 52 0 Q (kOf Try.f52 0) (mkS 121 [(2, AV.one (AC.ptr 0 0)), (3, AV.one (AC.ptr 1 0)), (4, AV.one (AC.ptr 2 0)), (5, AV.one (AC.ptr 3 0)), (6, AV.one (AC.ptr 4 0)), (7, AV.one (AC.i64 (n + (1 : Int))))]) [some ks, some bs, some zs, some xs, some (layS ys (0 + Int.toNat (↑(BitVec.toNat (asU8 (gt AC.any xs (0 + Int.toNat n * 1)))) : Int) * 1) [AC.u8 (BitVec.ofInt 8 n)])]) ∧ (decide (n < (256 : Int)) = false → 16 ≤ List.length ks ∧ 256 ≤ List.length xs ∧ Flat (List.take 16 (List.drop 0 ks)) ∧ Flat (List.take 256 (List.drop 0 xs)) ∧ (allU8 (List.take 16 (List.drop 0 ks)) ∧ List.length (List.take 16 (List.drop 0 ks)) = 16 ∧ List.take 256 (List.drop 0 xs) = List.map AC.u8 boxT) ∧ (List.length (hide (List.map AC.u8 (exL (List.map asU8 (List.take 16 (List.drop 0 ks))) 176))) = 176 ∧ 176 ≤ 176) ∧ Flat bs ∧ Flat zs ∧ Flat ys ∧ Flat (layS (List.replicate 176 (AC.u8 (0 : BitVec 8))) 0 (hide (List.map AC.u8 (exL (List.map asU8 (List.take 16 (List.drop 0 ks))) 176)))) ∧ KR X 52 0 Q (kOf Try.f52 1) (mkS 121 [(3, AV.one (AC.ptr 0 0)), (4, AV.one (AC.ptr 1 0)), (6, AV.one (AC.ptr 2 0)), (8, AV.one (AC.ptr 3 0)), (9, AV.one (AC.i64 (10 : Int)))]) [some bs, some zs, some ys, some (layS (List.replicate 176 (AC.u8 (0 : BitVec 8))) 0 (hide (List.map AC.u8 (exL (List.map asU8 (List.take 16 (List.drop 0 ks))) 176))))])) : KRun X 52 0 Q (kOf Try.f52 0) (mkS 121 [(2, .one (.ptr 0 0)), (3, .one (.ptr 1 0)), (4, .one (.ptr 2 0)), (5, .one (.ptr 3 0)), (6, .one (.ptr 4 0)), (7, .one (.i64 n))]) [some ks, some bs, some zs, some xs, some ys] :=
  wpRun_ok (hX ▸ baseK_ok T17 mf13 M13) (hX ▸ baseK_call T17_ok M13_ok) (hX ▸ mixed) (hX ▸ ok52) LK_ok (cast (β := wpRun (baseK T17 mf13 M13) [17, 30, 40, 43, 48, 94, 98] [(11, 5), (19, 42)] false (RS.mk Try.f52.results.toList 0 (CS.mk [] [] [0] [])) (LK X 52 0 Q true [(4, LS.mk [2, 3, 4, 5, 6, 7] (CS.mk [] [true, true, true, true, true] [] [])), (9, LS.mk [3, 4, 6, 8, 9] (CS.mk [] [true, true, true, true] [] [])), (14, LS.mk [3, 4, 6, 8, 9, 10, 11] (CS.mk [] [true, true, true, true, true] [] [])), (17, LS.mk [3, 4, 6, 8, 9, 10, 11, 12] (CS.mk [] [true, true, true, true, true] [] [])), (21, LS.mk [3, 4, 6, 8, 9, 10, 13] (CS.mk [] [true, true, true, true, true] [] [])), (24, LS.mk [3, 4, 6, 8, 9, 10, 13, 14] (CS.mk [] [true, true, true, true, true] [] []))]) Q 2000 (kOf Try.f52 0) (mkS 121 [(2, .one (.ptr 0 0)), (3, .one (.ptr 1 0)), (4, .one (.ptr 2 0)), (5, .one (.ptr 3 0)), (6, .one (.ptr 4 0)), (7, .one (.i64 n))]) [some ks, some bs, some zs, some xs, some ys]) (by kernel_rfl) h)
set_option maxRecDepth 100000 in
theorem vc52b {X : Ctx} {Q : AV → Mem → Prop} (hX : X.P = Try.prog) (bs zs ys rs : List AC) (n : Int) (h : (decide ((1 : Int) ≤ n) = true → 16 ≤ List.length bs ∧ ((0 : Int) ≤ n ∧ n < (↑11 : Int)) ∧ 0 + Int.toNat n * 16 + 16 ≤ List.length rs ∧ Flat (List.take 16 (List.drop 0 bs)) ∧ Flat (List.take 16 (List.drop (0 + Int.toNat n * 16) rs)) ∧ (allU8 (List.take 16 (List.drop 0 bs)) ∧ List.length (List.take 16 (List.drop 0 bs)) = 16 ∧ allU8 (List.take 16 (List.drop (0 + Int.toNat n * 16) rs)) ∧ List.length (List.take 16 (List.drop (0 + Int.toNat n * 16) rs)) = 16) ∧ (List.length (hide (List.map AC.u8 (xorL (List.map asU8 (List.take 16 (List.drop 0 bs))) (List.map asU8 (List.take 16 (List.drop (0 + Int.toNat n * 16) rs)))))) = 16 ∧ 16 ≤ List.length bs) ∧ 16 ≤ List.length (layS bs 0 (hide (List.map AC.u8 (xorL (List.map asU8 (List.take 16 (List.drop 0 bs))) (List.map asU8 (List.take 16 (List.drop (0 + Int.toNat n * 16) rs))))))) ∧ (List.length (List.take 16 (List.drop 0 (layS bs 0 (hide (List.map AC.u8 (xorL (List.map asU8 (List.take 16 (List.drop 0 bs))) (List.map asU8 (List.take 16 (List.drop (0 + Int.toNat n * 16) rs))))))))) = 16 ∧ 16 ≤ 16) ∧ Flat (layS bs 0 (hide (List.map AC.u8 (xorL (List.map asU8 (List.take 16 (List.drop 0 bs))) (List.map asU8 (List.take 16 (List.drop (0 + Int.toNat n * 16) rs))))))) ∧ Flat zs ∧ Flat ys ∧ Flat rs ∧ Flat (layS (List.replicate 16 (AC.u8 (0 : BitVec 8))) 0 (List.take 16 (List.drop 0 (layS bs 0 (hide (List.map AC.u8 (xorL (List.map asU8 (List.take 16 (List.drop 0 bs))) (List.map asU8 (List.take 16 (List.drop (0 + Int.toNat n * 16) rs)))))))))) ∧ KR X 52 0 Q (kOf Try.f52 2) (mkS 121 [(3, AV.one (AC.ptr 0 0)), (4, AV.one (AC.ptr 1 0)), (6, AV.one (AC.ptr 2 0)), (8, AV.one (AC.ptr 3 0)), (9, AV.one (AC.i64 n)), (10, AV.one (AC.ptr 4 0)), (11, AV.one (AC.i64 (0 : Int)))]) [some (layS bs 0 (hide (List.map AC.u8 (xorL (List.map asU8 (List.take 16 (List.drop 0 bs))) (List.map asU8 (List.take 16 (List.drop (0 + Int.toNat n * 16) rs))))))), some zs, some ys, some rs, some (layS (List.replicate 16 (AC.u8 (0 : BitVec 8))) 0 (List.take 16 (List.drop 0 (layS bs 0 (hide (List.map AC.u8 (xorL (List.map asU8 (List.take 16 (List.drop 0 bs))) (List.map asU8 (List.take 16 (List.drop (0 + Int.toNat n * 16) rs))))))))))]) ∧ (decide ((1 : Int) ≤ n) = false → 16 ≤ List.length bs ∧ ((0 : Int) ≤ (0 : Int) ∧ (0 : Int) < (↑11 : Int)) ∧ 16 ≤ List.length rs ∧ Flat (List.take 16 (List.drop 0 bs)) ∧ Flat (List.take 16 (List.drop 0 rs)) ∧ (allU8 (List.take 16 (List.drop 0 bs)) ∧ List.length (List.take 16 (List.drop 0 bs)) = 16 ∧ allU8 (List.take 16 (List.drop 0 rs)) ∧ List.length (List.take 16 (List.drop 0 rs)) = 16) ∧ (List.length (hide (List.map AC.u8 (xorL (List.map asU8 (List.take 16 (List.drop 0 bs))) (List.map asU8 (List.take 16 (List.drop 0 rs)))))) = 16 ∧ 16 ≤ List.length zs) ∧ 16 ≤ List.length (layS zs 0 (hide (List.map AC.u8 (xorL (List.map asU8 (List.take 16 (List.drop 0 bs))) (List.map asU8 (List.take 16 (List.drop 0 rs))))))) ∧ flatAV (AV.agg (List.take 16 (List.drop 0 (layS zs 0 (hide (List.map AC.u8 (xorL (List.map asU8 (List.take 16 (List.drop 0 bs))) (List.map asU8 (List.take 16 (List.drop 0 rs)))))))))) ∧ Q (AV.agg (List.take 16 (List.drop 0 (layS zs 0 (hide (List.map AC.u8 (xorL (List.map asU8 (List.take 16 (List.drop 0 bs))) (List.map asU8 (List.take 16 (List.drop 0 rs)))))))))) [])) : KRun X 52 0 Q (kOf Try.f52 1) (mkS 121 [(3, .one (.ptr 0 0)), (4, .one (.ptr 1 0)), (6, .one (.ptr 2 0)), (8, .one (.ptr 3 0)), (9, .one (.i64 n))]) [some bs, some zs, some ys, some rs] :=
  wpRun_ok (hX ▸ baseK_ok T17 mf13 M13) (hX ▸ baseK_call T17_ok M13_ok) (hX ▸ mixed) (hX ▸ ok52) LK_ok (cast (β := wpRun (baseK T17 mf13 M13) [17, 30, 40, 43, 48, 94, 98] [(11, 5), (19, 42)] false (RS.mk Try.f52.results.toList 0 (CS.mk [] [] [0] [])) (LK X 52 0 Q true [(4, LS.mk [2, 3, 4, 5, 6, 7] (CS.mk [] [true, true, true, true, true] [] [])), (9, LS.mk [3, 4, 6, 8, 9] (CS.mk [] [true, true, true, true] [] [])), (14, LS.mk [3, 4, 6, 8, 9, 10, 11] (CS.mk [] [true, true, true, true, true] [] [])), (17, LS.mk [3, 4, 6, 8, 9, 10, 11, 12] (CS.mk [] [true, true, true, true, true] [] [])), (21, LS.mk [3, 4, 6, 8, 9, 10, 13] (CS.mk [] [true, true, true, true, true] [] [])), (24, LS.mk [3, 4, 6, 8, 9, 10, 13, 14] (CS.mk [] [true, true, true, true, true] [] []))]) Q 2000 (kOf Try.f52 1) (mkS 121 [(3, .one (.ptr 0 0)), (4, .one (.ptr 1 0)), (6, .one (.ptr 2 0)), (8, .one (.ptr 3 0)), (9, .one (.i64 n))]) [some bs, some zs, some ys, some rs]) (by kernel_rfl) h)
set_option maxRecDepth 100000 in
theorem vc52c {X : Ctx} {Q : AV → Mem → Prop} (hX : X.P = Try.prog) (bs zs ys rs xs : List AC) (n c : Int) (h : (decide (c < (4 : Int)) = true → (decide (n < (10 : Int)) = true → Flat bs ∧ Flat zs ∧ Flat ys ∧ Flat rs ∧ Flat xs ∧ KR X 52 0 Q (kOf Try.f52 3) (mkS 121 [(3, AV.one (AC.ptr 0 0)), (4, AV.one (AC.ptr 1 0)), (6, AV.one (AC.ptr 2 0)), (8, AV.one (AC.ptr 3 0)), (9, AV.one (AC.i64 n)), (10, AV.one (AC.ptr 4 0)), (11, AV.one (AC.i64 c)), (12, AV.one (AC.i64 (0 : Int)))]) [some bs, some zs, some ys, some rs, some xs]) ∧ (decide (n < (10 : Int)) = false → Flat bs ∧ Flat zs ∧ Flat ys ∧ Flat rs ∧ Flat xs ∧ KR X 52 0 Q (kOf Try.f52 4) (mkS 121 [(3, AV.one (AC.ptr 0 0)), (4, AV.one (AC.ptr 1 0)), (6, AV.one (AC.ptr 2 0)), (8, AV.one (AC.ptr 3 0)), (9, AV.one (AC.i64 n)), (10, AV.one (AC.ptr 4 0)), (13, AV.one (AC.i64 (0 : Int)))]) [some bs, some zs, some ys, some rs, some xs])) ∧ (decide (c < (4 : Int)) = false → Flat bs ∧ Flat zs ∧ Flat ys ∧ Flat rs ∧ Flat xs ∧ KR X 52 0 Q (kOf Try.f52 4) (mkS 121 [(3, AV.one (AC.ptr 0 0)), (4, AV.one (AC.ptr 1 0)), (6, AV.one (AC.ptr 2 0)), (8, AV.one (AC.ptr 3 0)), (9, AV.one (AC.i64 n)), (10, AV.one (AC.ptr 4 0)), (13, AV.one (AC.i64 (0 : Int)))]) [some bs, some zs, some ys, some rs, some xs])) : KRun X 52 0 Q (kOf Try.f52 2) (mkS 121 [(3, .one (.ptr 0 0)), (4, .one (.ptr 1 0)), (6, .one (.ptr 2 0)), (8, .one (.ptr 3 0)), (9, .one (.i64 n)), (10, .one (.ptr 4 0)), (11, .one (.i64 c))]) [some bs, some zs, some ys, some rs, some xs] :=
  wpRun_ok (hX ▸ baseK_ok T17 mf13 M13) (hX ▸ baseK_call T17_ok M13_ok) (hX ▸ mixed) (hX ▸ ok52) LK_ok (cast (β := wpRun (baseK T17 mf13 M13) [17, 30, 40, 43, 48, 94, 98] [(11, 5), (19, 42)] false (RS.mk Try.f52.results.toList 0 (CS.mk [] [] [0] [])) (LK X 52 0 Q true [(4, LS.mk [2, 3, 4, 5, 6, 7] (CS.mk [] [true, true, true, true, true] [] [])), (9, LS.mk [3, 4, 6, 8, 9] (CS.mk [] [true, true, true, true] [] [])), (14, LS.mk [3, 4, 6, 8, 9, 10, 11] (CS.mk [] [true, true, true, true, true] [] [])), (17, LS.mk [3, 4, 6, 8, 9, 10, 11, 12] (CS.mk [] [true, true, true, true, true] [] [])), (21, LS.mk [3, 4, 6, 8, 9, 10, 13] (CS.mk [] [true, true, true, true, true] [] [])), (24, LS.mk [3, 4, 6, 8, 9, 10, 13, 14] (CS.mk [] [true, true, true, true, true] [] []))]) Q 2000 (kOf Try.f52 2) (mkS 121 [(3, .one (.ptr 0 0)), (4, .one (.ptr 1 0)), (6, .one (.ptr 2 0)), (8, .one (.ptr 3 0)), (9, .one (.i64 n)), (10, .one (.ptr 4 0)), (11, .one (.i64 c))]) [some bs, some zs, some ys, some rs, some xs]) (by kernel_rfl) h)
set_option maxRecDepth 100000 in
theorem vc52d {X : Ctx} {Q : AV → Mem → Prop} (hX : X.P = Try.prog) (bs zs ys rs xs : List AC) (n c r : Int) (h : (decide (r < (4 : Int)) = true → in64 ((4 : Int) * c) ∧ in64 ((4 : Int) * c + r) ∧ in64 ((4 : Int) * c) ∧ in64 ((4 : Int) * c + r) ∧ ((0 : Int) ≤ (4 : Int) * c + r ∧ (4 : Int) * c + r < (↑16 : Int)) ∧ gt AC.any bs (0 + Int.toNat ((4 : Int) * c + r) * 1) = AC.u8 (asU8 (gt AC.any bs (0 + Int.toNat ((4 : Int) * c + r) * 1))) ∧ in64 ((4 : Int) * c) ∧ in64 (r + (1 : Int)) ∧ (4 : Int) ≠ (0 : Int) ∧ in64 ((4 : Int) * c + Int.tmod (r + (1 : Int)) (4 : Int)) ∧ ((0 : Int) ≤ (4 : Int) * c + Int.tmod (r + (1 : Int)) (4 : Int) ∧ (4 : Int) * c + Int.tmod (r + (1 : Int)) (4 : Int) < (↑16 : Int)) ∧ gt AC.any bs (0 + Int.toNat ((4 : Int) * c + Int.tmod (r + (1 : Int)) (4 : Int)) * 1) = AC.u8 (asU8 (gt AC.any bs (0 + Int.toNat ((4 : Int) * c + Int.tmod (r + (1 : Int)) (4 : Int)) * 1))) ∧ in64 ((4 : Int) * c) ∧ in64 (r + (2 : Int)) ∧ (4 : Int) ≠ (0 : Int) ∧ in64 ((4 : Int) * c + Int.tmod (r + (2 : Int)) (4 : Int)) ∧ ((0 : Int) ≤ (4 : Int) * c + Int.tmod (r + (2 : Int)) (4 : Int) ∧ (4 : Int) * c + Int.tmod (r + (2 : Int)) (4 : Int) < (↑16 : Int)) ∧ gt AC.any bs (0 + Int.toNat ((4 : Int) * c + Int.tmod (r + (2 : Int)) (4 : Int)) * 1) = AC.u8 (asU8 (gt AC.any bs (0 + Int.toNat ((4 : Int) * c + Int.tmod (r + (2 : Int)) (4 : Int)) * 1))) ∧ in64 ((4 : Int) * c) ∧ in64 (r + (3 : Int)) ∧ (4 : Int) ≠ (0 : Int) ∧ in64 ((4 : Int) * c + Int.tmod (r + (3 : Int)) (4 : Int)) ∧ ((0 : Int) ≤ (4 : Int) * c + Int.tmod (r + (3 : Int)) (4 : Int) ∧ (4 : Int) * c + Int.tmod (r + (3 : Int)) (4 : Int) < (↑16 : Int)) ∧ gt AC.any bs (0 + Int.toNat ((4 : Int) * c + Int.tmod (r + (3 : Int)) (4 : Int)) * 1) = AC.u8 (asU8 (gt AC.any bs (0 + Int.toNat ((4 : Int) * c + Int.tmod (r + (3 : Int)) (4 : Int)) * 1))) ∧ ((0 : Int) ≤ (4 : Int) * c + r ∧ (4 : Int) * c + r < (↑16 : Int)) ∧ (1 = 1 ∧ 0 + Int.toNat ((4 : Int) * c + r) * 1 + 1 ≤ List.length xs) ∧ in64 (r + (1 : Int)) ∧ Flat bs ∧ Flat zs ∧ Flat ys ∧ Flat rs ∧ Flat (layS xs (0 + Int.toNat ((4 : Int) * c + r) * 1) [AC.u8 (tmF (asU8 (gt AC.any bs (0 + Int.toNat ((4 : Int) * c + r) * 1))) (BitVec.ofInt 8 (14 : Int)) ^^^ tmF (asU8 (gt AC.any bs (0 + Int.toNat ((4 : Int) * c + Int.tmod (r + (1 : Int)) (4 : Int)) * 1))) (BitVec.ofInt 8 (11 : Int)) ^^^ tmF (asU8 (gt AC.any bs (0 + Int.toNat ((4 : Int) * c + Int.tmod (r + (2 : Int)) (4 : Int)) * 1))) (BitVec.ofInt 8 (13 : Int)) ^^^ tmF (asU8 (gt AC.any bs (0 + Int.toNat ((4 : Int) * c + Int.tmod (r + (3 : Int)) (4 : Int)) * 1))) (BitVec.ofInt 8 (9 : Int)))]) ∧ KR X 52 0 Q (kOf Try.f52 3) (mkS 121 [(3, AV.one (AC.ptr 0 0)), (4, AV.one (AC.ptr 1 0)), (6, AV.one (AC.ptr 2 0)), (8, AV.one (AC.ptr 3 0)), (9, AV.one (AC.i64 n)), (10, AV.one (AC.ptr 4 0)), (11, AV.one (AC.i64 c)), (12, AV.one (AC.i64 (r + (1 : Int))))]) [some bs, some zs, some ys, some rs, some (layS xs (0 + Int.toNat ((4 : Int) * c + r) * 1) [AC.u8 (tmF (asU8 (gt AC.any bs (0 + Int.toNat ((4 : Int) * c + r) * 1))) (BitVec.ofInt 8 (14 : Int)) ^^^ tmF (asU8 (gt AC.any bs (0 + Int.toNat ((4 : Int) * c + Int.tmod (r + (1 : Int)) (4 : Int)) * 1))) (BitVec.ofInt 8 (11 : Int)) ^^^ tmF (asU8 (gt AC.any bs (0 + Int.toNat ((4 : Int) * c + Int.tmod (r + (2 : Int)) (4 : Int)) * 1))) (BitVec.ofInt 8 (13 : Int)) ^^^ tmF (asU8 (gt AC.any bs (0 + Int.toNat ((4 : Int) * c + Int.tmod (r + (3 : Int)) (4 : Int)) * 1))) (BitVec.ofInt 8 (9 : Int)))])]) ∧ (decide (r < (4 : Int)) = false → in64 (c + (1 : Int)) ∧ Flat bs ∧ Flat zs ∧ Flat ys ∧ Flat rs ∧ Flat xs ∧ KR X 52 0 Q (kOf Try.f52 2) (mkS 121 [(3, AV.one (AC.ptr 0 0)), (4, AV.one (AC.ptr 1 0)), (6, AV.one (AC.ptr 2 0)), (8, AV.one (AC.ptr 3 0)), (9, AV.one (AC.i64 n)), (10, AV.one (AC.ptr 4 0)), (11, AV.one (AC.i64 (c + (1 : Int))))]) [some bs, some zs, some ys, some rs, some xs])) : KRun X 52 0 Q (kOf Try.f52 3) (mkS 121 [(3, .one (.ptr 0 0)), (4, .one (.ptr 1 0)), (6, .one (.ptr 2 0)), (8, .one (.ptr 3 0)), (9, .one (.i64 n)), (10, .one (.ptr 4 0)), (11, .one (.i64 c)), (12, .one (.i64 r))]) [some bs, some zs, some ys, some rs, some xs] :=
  wpRun_ok (hX ▸ baseK_ok T17 mf13 M13) (hX ▸ baseK_call T17_ok M13_ok) (hX ▸ mixed) (hX ▸ ok52) LK_ok (cast (β := wpRun (baseK T17 mf13 M13) [17, 30, 40, 43, 48, 94, 98] [(11, 5), (19, 42)] false (RS.mk Try.f52.results.toList 0 (CS.mk [] [] [0] [])) (LK X 52 0 Q true [(4, LS.mk [2, 3, 4, 5, 6, 7] (CS.mk [] [true, true, true, true, true] [] [])), (9, LS.mk [3, 4, 6, 8, 9] (CS.mk [] [true, true, true, true] [] [])), (14, LS.mk [3, 4, 6, 8, 9, 10, 11] (CS.mk [] [true, true, true, true, true] [] [])), (17, LS.mk [3, 4, 6, 8, 9, 10, 11, 12] (CS.mk [] [true, true, true, true, true] [] [])), (21, LS.mk [3, 4, 6, 8, 9, 10, 13] (CS.mk [] [true, true, true, true, true] [] [])), (24, LS.mk [3, 4, 6, 8, 9, 10, 13, 14] (CS.mk [] [true, true, true, true, true] [] []))]) Q 2000 (kOf Try.f52 3) (mkS 121 [(3, .one (.ptr 0 0)), (4, .one (.ptr 1 0)), (6, .one (.ptr 2 0)), (8, .one (.ptr 3 0)), (9, .one (.i64 n)), (10, .one (.ptr 4 0)), (11, .one (.i64 c)), (12, .one (.i64 r))]) [some bs, some zs, some ys, some rs, some xs]) (by kernel_rfl) h)
set_option maxRecDepth 100000 in
theorem vc52e {X : Ctx} {Q : AV → Mem → Prop} (hX : X.P = Try.prog) (bs zs ys rs xs : List AC) (n c : Int) (h : (decide (c < (4 : Int)) = true → Flat bs ∧ Flat zs ∧ Flat ys ∧ Flat rs ∧ Flat xs ∧ KR X 52 0 Q (kOf Try.f52 5) (mkS 121 [(3, AV.one (AC.ptr 0 0)), (4, AV.one (AC.ptr 1 0)), (6, AV.one (AC.ptr 2 0)), (8, AV.one (AC.ptr 3 0)), (9, AV.one (AC.i64 n)), (10, AV.one (AC.ptr 4 0)), (13, AV.one (AC.i64 c)), (14, AV.one (AC.i64 (0 : Int)))]) [some bs, some zs, some ys, some rs, some xs]) ∧ (decide (c < (4 : Int)) = false → in64 (n - (1 : Int)) ∧ Flat bs ∧ Flat zs ∧ Flat ys ∧ Flat rs ∧ KR X 52 0 Q (kOf Try.f52 1) (mkS 121 [(3, AV.one (AC.ptr 0 0)), (4, AV.one (AC.ptr 1 0)), (6, AV.one (AC.ptr 2 0)), (8, AV.one (AC.ptr 3 0)), (9, AV.one (AC.i64 (n - (1 : Int))))]) [some bs, some zs, some ys, some rs])) : KRun X 52 0 Q (kOf Try.f52 4) (mkS 121 [(3, .one (.ptr 0 0)), (4, .one (.ptr 1 0)), (6, .one (.ptr 2 0)), (8, .one (.ptr 3 0)), (9, .one (.i64 n)), (10, .one (.ptr 4 0)), (13, .one (.i64 c))]) [some bs, some zs, some ys, some rs, some xs] :=
  wpRun_ok (hX ▸ baseK_ok T17 mf13 M13) (hX ▸ baseK_call T17_ok M13_ok) (hX ▸ mixed) (hX ▸ ok52) LK_ok (cast (β := wpRun (baseK T17 mf13 M13) [17, 30, 40, 43, 48, 94, 98] [(11, 5), (19, 42)] false (RS.mk Try.f52.results.toList 0 (CS.mk [] [] [0] [])) (LK X 52 0 Q true [(4, LS.mk [2, 3, 4, 5, 6, 7] (CS.mk [] [true, true, true, true, true] [] [])), (9, LS.mk [3, 4, 6, 8, 9] (CS.mk [] [true, true, true, true] [] [])), (14, LS.mk [3, 4, 6, 8, 9, 10, 11] (CS.mk [] [true, true, true, true, true] [] [])), (17, LS.mk [3, 4, 6, 8, 9, 10, 11, 12] (CS.mk [] [true, true, true, true, true] [] [])), (21, LS.mk [3, 4, 6, 8, 9, 10, 13] (CS.mk [] [true, true, true, true, true] [] [])), (24, LS.mk [3, 4, 6, 8, 9, 10, 13, 14] (CS.mk [] [true, true, true, true, true] [] []))]) Q 2000 (kOf Try.f52 4) (mkS 121 [(3, .one (.ptr 0 0)), (4, .one (.ptr 1 0)), (6, .one (.ptr 2 0)), (8, .one (.ptr 3 0)), (9, .one (.i64 n)), (10, .one (.ptr 4 0)), (13, .one (.i64 c))]) [some bs, some zs, some ys, some rs, some xs]) (by kernel_rfl) h)
set_option maxRecDepth 100000 in
theorem vc52f {X : Ctx} {Q : AV → Mem → Prop} (hX : X.P = Try.prog) (bs zs ys rs xs : List AC) (n c r : Int) (h : (decide (r < (4 : Int)) = true → in64 (c + r) ∧ (4 : Int) ≠ (0 : Int) ∧ in64 (Int.tmod (c + r) (4 : Int) * (4 : Int)) ∧ in64 (Int.tmod (c + r) (4 : Int) * (4 : Int) + r) ∧ in64 ((4 : Int) * c) ∧ in64 ((4 : Int) * c + r) ∧ ((0 : Int) ≤ (4 : Int) * c + r ∧ (4 : Int) * c + r < (↑16 : Int)) ∧ gt AC.any xs (0 + Int.toNat ((4 : Int) * c + r) * 1) = AC.u8 (asU8 (gt AC.any xs (0 + Int.toNat ((4 : Int) * c + r) * 1))) ∧ gt AC.any ys (0 + Int.toNat (↑(BitVec.toNat (asU8 (gt AC.any xs (0 + Int.toNat ((4 : Int) * c + r) * 1)))) : Int) * 1) = AC.u8 (asU8 (gt AC.any ys (0 + Int.toNat (↑(BitVec.toNat (asU8 (gt AC.any xs (0 + Int.toNat ((4 : Int) * c + r) * 1)))) : Int) * 1))) ∧ ((0 : Int) ≤ Int.tmod (c + r) (4 : Int) * (4 : Int) + r ∧ Int.tmod (c + r) (4 : Int) * (4 : Int) + r < (↑16 : Int)) ∧ (1 = 1 ∧ 0 + Int.toNat (Int.tmod (c + r) (4 : Int) * (4 : Int) + r) * 1 + 1 ≤ List.length bs) ∧ in64 (r + (1 : Int)) ∧ Flat (layS bs (0 + Int.toNat (Int.tmod (c + r) (4 : Int) * (4 : Int) + r) * 1) [AC.u8 (asU8 (gt AC.any ys (0 + Int.toNat (↑(BitVec.toNat (asU8 (gt AC.any xs (0 + Int.toNat ((4 : Int) * c + r) * 1)))) : Int) * 1)))]) ∧ Flat zs ∧ Flat ys ∧ Flat rs ∧ Flat xs ∧ KR X 52 0 Q (kOf Try.f52 5) (mkS 121 [(3, AV.one (AC.ptr 0 0)), (4, AV.one (AC.ptr 1 0)), (6, AV.one (AC.ptr 2 0)), (8, AV.one (AC.ptr 3 0)), (9, AV.one (AC.i64 n)), (10, AV.one (AC.ptr 4 0)), (13, AV.one (AC.i64 c)), (14, AV.one (AC.i64 (r + (1 : Int))))]) [some (layS bs (0 + Int.toNat (Int.tmod (c + r) (4 : Int) * (4 : Int) + r) * 1) [AC.u8 (asU8 (gt AC.any ys (0 + Int.toNat (↑(BitVec.toNat (asU8 (gt AC.any xs (0 + Int.toNat ((4 : Int) * c + r) * 1)))) : Int) * 1)))]), some zs, some ys, some rs, some xs]) ∧ (decide (r < (4 : Int)) = false → in64 (c + (1 : Int)) ∧ Flat bs ∧ Flat zs ∧ Flat ys ∧ Flat rs ∧ Flat xs ∧ KR X 52 0 Q (kOf Try.f52 4) (mkS 121 [(3, AV.one (AC.ptr 0 0)), (4, AV.one (AC.ptr 1 0)), (6, AV.one (AC.ptr 2 0)), (8, AV.one (AC.ptr 3 0)), (9, AV.one (AC.i64 n)), (10, AV.one (AC.ptr 4 0)), (13, AV.one (AC.i64 (c + (1 : Int))))]) [some bs, some zs, some ys, some rs, some xs])) : KRun X 52 0 Q (kOf Try.f52 5) (mkS 121 [(3, .one (.ptr 0 0)), (4, .one (.ptr 1 0)), (6, .one (.ptr 2 0)), (8, .one (.ptr 3 0)), (9, .one (.i64 n)), (10, .one (.ptr 4 0)), (13, .one (.i64 c)), (14, .one (.i64 r))]) [some bs, some zs, some ys, some rs, some xs] :=
  wpRun_ok (hX ▸ baseK_ok T17 mf13 M13) (hX ▸ baseK_call T17_ok M13_ok) (hX ▸ mixed) (hX ▸ ok52) LK_ok (cast (β := wpRun (baseK T17 mf13 M13) [17, 30, 40, 43, 48, 94, 98] [(11, 5), (19, 42)] false (RS.mk Try.f52.results.toList 0 (CS.mk [] [] [0] [])) (LK X 52 0 Q true [(4, LS.mk [2, 3, 4, 5, 6, 7] (CS.mk [] [true, true, true, true, true] [] [])), (9, LS.mk [3, 4, 6, 8, 9] (CS.mk [] [true, true, true, true] [] [])), (14, LS.mk [3, 4, 6, 8, 9, 10, 11] (CS.mk [] [true, true, true, true, true] [] [])), (17, LS.mk [3, 4, 6, 8, 9, 10, 11, 12] (CS.mk [] [true, true, true, true, true] [] [])), (21, LS.mk [3, 4, 6, 8, 9, 10, 13] (CS.mk [] [true, true, true, true, true] [] [])), (24, LS.mk [3, 4, 6, 8, 9, 10, 13, 14] (CS.mk [] [true, true, true, true, true] [] []))]) Q 2000 (kOf Try.f52 5) (mkS 121 [(3, .one (.ptr 0 0)), (4, .one (.ptr 1 0)), (6, .one (.ptr 2 0)), (8, .one (.ptr 3 0)), (9, .one (.i64 n)), (10, .one (.ptr 4 0)), (13, .one (.i64 c)), (14, .one (.i64 r))]) [some bs, some zs, some ys, some rs, some xs]) (by kernel_rfl) h)

theorem tab16_set (f g : Nat → BitVec 8) {j : Nat} (hj : j < 16) {v : BitVec 8} (h1 : g j = v) (h2 : ∀ i, i < 16 → i ≠ j → g i = f i) : (tab16 f).set j v = tab16 g := by
  apply List.ext_getElem (by rw [List.length_set, tab16_len, tab16_len])
  intro i h3 h4
  rw [tab16_len] at h4
  have e : ∀ k : Nat → BitVec 8, ∀ h : i < (tab16 k).length, (tab16 k)[i] = k i := fun k h => by
    have := tab16_get k h4
    rw [List.getD_eq_getElem?_getD, List.getElem?_eq_getElem h] at this
    exact this
  rw [List.getElem_set, e]
  split
  · rename_i hji; subst hji; exact h1.symm.trans (e g _).symm
  · rename_i hji; rw [e]; exact (h2 i h4 (fun e => hji e.symm)).symm
def BKS : Nat → List (BitVec 8)
  | 0 => List.replicate 256 0
  | i + 1 => (BKS i).set (bx (BitVec.ofNat 8 i)).toNat (BitVec.ofNat 8 i)
theorem BKS_len : ∀ i, (BKS i).length = 256
  | 0 => List.length_replicate
  | i + 1 => by rw [BKS, List.length_set, BKS_len i]
theorem BKS_get (j : Nat) : ∀ i, j < i → i ≤ 256 → (BKS i).getD (bx (BitVec.ofNat 8 j)).toNat 0 = BitVec.ofNat 8 j
  | 0, h, _ => by omega
  | i + 1, h, hi => by
    rw [BKS]
    by_cases e : j = i
    · subst e
      rw [List.getD_eq_getElem?_getD, List.getElem?_set_self (by rw [BKS_len]; exact (bx _).isLt)]
      rfl
    · rw [List.getD_eq_getElem?_getD, List.getElem?_set_ne, ← List.getD_eq_getElem?_getD]
      · exact BKS_get j i (by omega) (by omega)
      · intro h2
        have h3 := bx_inj (BitVec.eq_of_toNat_eq h2)
        have h4 := congrArg BitVec.toNat h3
        rw [BitVec.toNat_ofNat, BitVec.toNat_ofNat] at h4
        omega
theorem t6b : (List.range 256).all (fun n => decide (bx (bk (BitVec.ofNat 8 n)) = BitVec.ofNat 8 n)) = true := by kernel_rfl
theorem bx_bk (x : BitVec 8) : bx (bk x) = x := of_decide_eq_true (all8 (p := fun x => decide (bx (bk x) = x)) t6b x)
def bkT : List (BitVec 8) := BKS 256
theorem bkT_len : bkT.length = 256 := BKS_len 256
theorem bkT_get (c : BitVec 8) : bkT.getD c.toNat 0 = bk c := by
  have := BKS_get (bk c).toNat 256 (bk c).isLt (Nat.le_refl _)
  rw [BitVec.ofNat_toNat, BitVec.setWidth_eq, bx_bk] at this
  exact this
def XM (b : List (BitVec 8)) (m : Nat) : List (BitVec 8) := (unmL b).take m ++ b.drop m
theorem XM_len {b : List (BitVec 8)} (hb : b.length = 16) (m : Nat) : (XM b m).length = 16 := by
  unfold XM
  rw [lenT _ _ (by rw [unm_len, hb]), hb]
theorem XM_end {b : List (BitVec 8)} (hb : b.length = 16) : XM b (4 * 4) = unmL b := by
  have := endT (unmL b) b (by rw [unm_len, hb])
  rw [unm_len] at this
  exact this
def WU (b x : List (BitVec 8)) (m : Nat) : List (BitVec 8) := tab16 fun j => if unsI j < m then bk (x.getD (unsI j) 0) else b.getD j 0
theorem WU_len (b x : List (BitVec 8)) (m : Nat) : (WU b x m).length = 16 := tab16_len _
theorem WU_0 {b : List (BitVec 8)} (hb : b.length = 16) (x : List (BitVec 8)) : WU b x 0 = b := by
  unfold WU
  refine Eq.trans (tab16_ext fun i _ => ?_) (tab16_self hb)
  rw [if_neg (by omega)]
theorem WU_end (b x : List (BitVec 8)) : WU b x 16 = unsL x := by
  unfold WU unsL
  refine tab16_ext fun i _ => if_pos ?_
  unfold unsI; omega
theorem WU_set (b x : List (BitVec 8)) {c r : Nat} (hc : c < 4) (hr : r < 4) : (WU b x (4 * c + r)).set ((c + r) % 4 * 4 + r) (bk (x.getD (4 * c + r) 0)) = WU b x (4 * c + (r + 1)) := by
  have hu : unsI ((c + r) % 4 * 4 + r) = 4 * c + r := by unfold unsI; omega
  unfold WU
  refine tab16_set _ _ (by omega) ?_ ?_
  · rw [hu, if_pos (by omega)]
  · intro i hi hne
    have : unsI i ≠ 4 * c + r := fun h => hne (by unfold unsI at h; omega)
    by_cases h : unsI i < 4 * c + r
    · rw [if_pos h, if_pos (by omega)]
    · rw [if_neg h, if_neg (by omega)]
theorem l52f {X : Ctx} (hX : X.P = Try.prog) (key R b x : List (BitVec 8)) (hx : x.length = 16) (n c : Nat) (hc : c < 4)
    (K : KRun X 52 0 (Is (.agg (R.map AC.u8))) (kOf Try.f52 4) (mkS 121 [(3, .one (.ptr 0 0)), (4, .one (.ptr 1 0)), (6, .one (.ptr 2 0)), (8, .one (.ptr 3 0)), (9, .one (.i64 n)), (10, .one (.ptr 4 0)), (13, .one (.i64 (c + 1 : Nat)))]) [some ((WU b x (4 * (c + 1))).map AC.u8), some (List.replicate 16 (AC.u8 0)), some (bkT.map AC.u8), some ((exL key 176).map AC.u8), some (x.map AC.u8)]) : ∀ (d r : Nat), r + d = 4 →
    KRun X 52 0 (Is (.agg (R.map AC.u8))) (kOf Try.f52 5) (mkS 121 [(3, .one (.ptr 0 0)), (4, .one (.ptr 1 0)), (6, .one (.ptr 2 0)), (8, .one (.ptr 3 0)), (9, .one (.i64 n)), (10, .one (.ptr 4 0)), (13, .one (.i64 c)), (14, .one (.i64 r))]) [some ((WU b x (4 * c + r)).map AC.u8), some (List.replicate 16 (AC.u8 0)), some (bkT.map AC.u8), some ((exL key 176).map AC.u8), some (x.map AC.u8)] := by
  have z : Flat (List.replicate 16 (AC.u8 0)) := by rw [mrep]; exact flat_u8 _
  intro d
  induction d with
  | zero =>
    intro r hr
    have hr : r = 4 := by omega
    subst hr
    refine vc52f hX _ _ _ _ _ _ _ _ ⟨fun h => absurd (of_decide_eq_true h) (by omega), fun _ => ?_⟩
    (repeat' (first | exact trivial | exact flat_u8 _ | exact flatA _ | exact allU8_map _ | exact Nat.le_refl _ | refine And.intro ?_ ?_)) <;> (first | omega | exact z | (unfold in64; omega) | exact List.length_map _ | (show Is _ _ _; exact rfl) | skip)
    exact ⟨K⟩
  | succ d ih =>
    intro r hr
    have ih := ih (r + 1) (by omega)
    have hl := WU_len b x (4 * c + r)
    have t0 : (4 : Int) * (c : Int) + (r : Int) = ((4 * c + r : Nat) : Int) := by omega
    have t1 : Int.tmod ((c : Int) + (r : Int)) 4 * 4 + (r : Int) = (((c + r) % 4 * 4 + r : Nat) : Int) := by rw [show Int.tmod ((c : Int) + (r : Int)) 4 = (((c + r) % 4 : Nat) : Int) from tmod_nat (c + r) 4]; omega
    have t2 : Int.tmod ((c : Int) + (r : Int)) 4 * 4 = (((c + r) % 4 * 4 : Nat) : Int) := by rw [show Int.tmod ((c : Int) + (r : Int)) 4 = (((c + r) % 4 : Nat) : Int) from tmod_nat (c + r) 4]; omega
    have g0 := gt_u8_at x (4 * c + r) (by omega)
    have gk : ∀ v : BitVec 8, gt AC.any (bkT.map AC.u8) v.toNat = .u8 (bk v) := fun v => by rw [gt_u8_at _ _ (by rw [bkT_len]; exact v.isLt), bkT_get]
    have hset := WU_set b x hc (show r < 4 by omega)
    refine vc52f hX _ _ _ _ _ _ _ _ ⟨fun _ => ?_, fun h => absurd (of_decide_eq_false h) (by omega)⟩
    rw [t0, t1, t2]
    simp only [ixn, g0, asU8, gk, lay1, hset, List.length_map, hl]
    have i4 : (4 : Int) ≠ 0 := by decide
    (repeat' (first | exact i4 | exact trivial | exact flat_u8 _ | exact flatA _ | exact allU8_map _ | exact Nat.le_refl _ | refine And.intro ?_ ?_)) <;> (first | omega | exact z | (unfold in64; omega) | exact List.length_map _ | (show Is _ _ _; exact rfl) | skip)
    exact ⟨ih⟩
theorem l52e {X : Ctx} (hX : X.P = Try.prog) (key R b x : List (BitVec 8)) (hx : x.length = 16) (n : Nat) (hn : 1 ≤ n ∧ n < 11)
    (K : KRun X 52 0 (Is (.agg (R.map AC.u8))) (kOf Try.f52 1) (mkS 121 [(3, .one (.ptr 0 0)), (4, .one (.ptr 1 0)), (6, .one (.ptr 2 0)), (8, .one (.ptr 3 0)), (9, .one (.i64 (n - 1 : Nat)))]) [some ((unsL x).map AC.u8), some (List.replicate 16 (AC.u8 0)), some (bkT.map AC.u8), some ((exL key 176).map AC.u8)]) : ∀ (d c : Nat), c + d = 4 →
    KRun X 52 0 (Is (.agg (R.map AC.u8))) (kOf Try.f52 4) (mkS 121 [(3, .one (.ptr 0 0)), (4, .one (.ptr 1 0)), (6, .one (.ptr 2 0)), (8, .one (.ptr 3 0)), (9, .one (.i64 n)), (10, .one (.ptr 4 0)), (13, .one (.i64 c))]) [some ((WU b x (4 * c)).map AC.u8), some (List.replicate 16 (AC.u8 0)), some (bkT.map AC.u8), some ((exL key 176).map AC.u8), some (x.map AC.u8)] := by
  have z : Flat (List.replicate 16 (AC.u8 0)) := by rw [mrep]; exact flat_u8 _
  intro d
  induction d with
  | zero =>
    intro c hc
    have hc : c = 4 := by omega
    subst hc
    rw [show ((n - 1 : Nat) : Int) = (n : Int) - 1 by omega] at K
    refine vc52e hX _ _ _ _ _ _ _ ⟨fun h => absurd (of_decide_eq_true h) (by omega), fun _ => ?_⟩
    rw [WU_end]
    (repeat' (first | exact trivial | exact flat_u8 _ | exact flatA _ | exact allU8_map _ | exact Nat.le_refl _ | refine And.intro ?_ ?_)) <;> (first | omega | exact z | (unfold in64; omega) | exact List.length_map _ | (show Is _ _ _; exact rfl) | skip)
    exact ⟨K⟩
  | succ d ih =>
    intro c hc
    have K2 := l52f hX key R b x hx n c (by omega) (ih (c + 1) (by omega)) 4 0 rfl
    refine vc52e hX _ _ _ _ _ _ _ ⟨fun _ => ?_, fun h => absurd (of_decide_eq_false h) (by omega)⟩
    (repeat' (first | exact trivial | exact flat_u8 _ | exact flatA _ | exact allU8_map _ | exact Nat.le_refl _ | refine And.intro ?_ ?_)) <;> (first | omega | exact z | (unfold in64; omega) | exact List.length_map _ | (show Is _ _ _; exact rfl) | skip)
    exact ⟨K2⟩
theorem unm_ref (s : List (BitVec 8)) (c r : Nat) (hc : c < 4) (hr : r < 4) : tmF (s.getD (4 * c + r) 0) 14#8 ^^^ tmF (s.getD (4 * c + (r + 1) % 4) 0) 11#8 ^^^ tmF (s.getD (4 * c + (r + 2) % 4) 0) 13#8 ^^^ tmF (s.getD (4 * c + (r + 3) % 4) 0) 9#8 = (unmL s).getD (4 * c + r) 0 := by
  unfold unmL
  rw [tab16_get _ (by omega)]
  unfold col
  rw [show (4 * c + r) / 4 * 4 = 4 * c by omega, show (4 * c + r) % 4 = r by omega, show (r + 0) % 4 = r by omega]
theorem l52d {X : Ctx} (hX : X.P = Try.prog) (key R b : List (BitVec 8)) (hb : b.length = 16) (n c : Nat) (hc : c < 4)
    (K : KRun X 52 0 (Is (.agg (R.map AC.u8))) (kOf Try.f52 2) (mkS 121 [(3, .one (.ptr 0 0)), (4, .one (.ptr 1 0)), (6, .one (.ptr 2 0)), (8, .one (.ptr 3 0)), (9, .one (.i64 n)), (10, .one (.ptr 4 0)), (11, .one (.i64 (c + 1 : Nat)))]) [some (b.map AC.u8), some (List.replicate 16 (AC.u8 0)), some (bkT.map AC.u8), some ((exL key 176).map AC.u8), some ((XM b (4 * (c + 1))).map AC.u8)]) : ∀ (d r : Nat), r + d = 4 →
    KRun X 52 0 (Is (.agg (R.map AC.u8))) (kOf Try.f52 3) (mkS 121 [(3, .one (.ptr 0 0)), (4, .one (.ptr 1 0)), (6, .one (.ptr 2 0)), (8, .one (.ptr 3 0)), (9, .one (.i64 n)), (10, .one (.ptr 4 0)), (11, .one (.i64 c)), (12, .one (.i64 r))]) [some (b.map AC.u8), some (List.replicate 16 (AC.u8 0)), some (bkT.map AC.u8), some ((exL key 176).map AC.u8), some ((XM b (4 * c + r)).map AC.u8)] := by
  have z : Flat (List.replicate 16 (AC.u8 0)) := by rw [mrep]; exact flat_u8 _
  intro d
  induction d with
  | zero =>
    intro r hr
    have hr : r = 4 := by omega
    subst hr
    refine vc52d hX _ _ _ _ _ _ _ _ ⟨fun h => absurd (of_decide_eq_true h) (by omega), fun _ => ?_⟩
    (repeat' (first | exact trivial | exact flat_u8 _ | exact flatA _ | exact allU8_map _ | exact Nat.le_refl _ | refine And.intro ?_ ?_)) <;> (first | omega | exact z | (unfold in64; omega) | exact List.length_map _ | (show Is _ _ _; exact rfl) | skip)
    exact ⟨K⟩
  | succ d ih =>
    intro r hr
    have ih := ih (r + 1) (by omega)
    have hl := XM_len hb (4 * c + r)
    have t1 : (4 : Int) * (c : Int) + Int.tmod ((r : Int) + 1) 4 = ((4 * c + (r + 1) % 4 : Nat) : Int) := by rw [show Int.tmod ((r : Int) + 1) 4 = (((r + 1) % 4 : Nat) : Int) from tmod_nat (r + 1) 4]; omega
    have t2 : (4 : Int) * (c : Int) + Int.tmod ((r : Int) + 2) 4 = ((4 * c + (r + 2) % 4 : Nat) : Int) := by rw [show Int.tmod ((r : Int) + 2) 4 = (((r + 2) % 4 : Nat) : Int) from tmod_nat (r + 2) 4]; omega
    have t3 : (4 : Int) * (c : Int) + Int.tmod ((r : Int) + 3) 4 = ((4 * c + (r + 3) % 4 : Nat) : Int) := by rw [show Int.tmod ((r : Int) + 3) 4 = (((r + 3) % 4 : Nat) : Int) from tmod_nat (r + 3) 4]; omega
    have t0 : (4 : Int) * (c : Int) + (r : Int) = ((4 * c + r : Nat) : Int) := by omega
    have g0 := gt_u8_at b (4 * c + r) (by omega)
    have g1 := gt_u8_at b (4 * c + (r + 1) % 4) (by omega)
    have g2 := gt_u8_at b (4 * c + (r + 2) % 4) (by omega)
    have g3 := gt_u8_at b (4 * c + (r + 3) % 4) (by omega)
    have o1 : BitVec.ofInt 8 14 = 14#8 := rfl
    have o2 : BitVec.ofInt 8 11 = 11#8 := rfl
    have o3 : BitVec.ofInt 8 13 = 13#8 := rfl
    have o4 : BitVec.ofInt 8 9 = 9#8 := rfl
    have hset := setT (unmL b) b 0 (i := 4 * c + r) (by rw [unm_len]; omega) (by rw [unm_len, hb])
    rw [← unm_ref b c r hc (by omega)] at hset
    have hset : (XM b (4 * c + r)).set (4 * c + r) _ = XM b (4 * c + (r + 1)) := hset
    refine vc52d hX _ _ _ _ _ _ _ _ ⟨fun _ => ?_, fun h => absurd (of_decide_eq_false h) (by omega)⟩
    rw [t0, t1, t2, t3]
    simp only [ixn, g0, g1, g2, g3, asU8, o1, o2, o3, o4, lay1, hset, List.length_map, hl]
    have i4 : (4 : Int) ≠ 0 := by decide
    (repeat' (first | exact i4 | exact trivial | exact flat_u8 _ | exact flatA _ | exact allU8_map _ | exact Nat.le_refl _ | refine And.intro ?_ ?_)) <;> (first | omega | exact z | (unfold in64; omega) | exact List.length_map _ | (show Is _ _ _; exact rfl) | skip)
    exact ⟨ih⟩
theorem l52c {X : Ctx} (hX : X.P = Try.prog) (key R b : List (BitVec 8)) (hb : b.length = 16) (n : Nat) (hn : 1 ≤ n ∧ n < 11)
    (K : KRun X 52 0 (Is (.agg (R.map AC.u8))) (kOf Try.f52 1) (mkS 121 [(3, .one (.ptr 0 0)), (4, .one (.ptr 1 0)), (6, .one (.ptr 2 0)), (8, .one (.ptr 3 0)), (9, .one (.i64 (n - 1 : Nat)))]) [some ((unsL (if n < 10 then unmL b else b)).map AC.u8), some (List.replicate 16 (AC.u8 0)), some (bkT.map AC.u8), some ((exL key 176).map AC.u8)]) : ∀ (d c : Nat), c + d = 4 → (n < 10 ∨ c = 0) →
    KRun X 52 0 (Is (.agg (R.map AC.u8))) (kOf Try.f52 2) (mkS 121 [(3, .one (.ptr 0 0)), (4, .one (.ptr 1 0)), (6, .one (.ptr 2 0)), (8, .one (.ptr 3 0)), (9, .one (.i64 n)), (10, .one (.ptr 4 0)), (11, .one (.i64 c))]) [some (b.map AC.u8), some (List.replicate 16 (AC.u8 0)), some (bkT.map AC.u8), some ((exL key 176).map AC.u8), some ((XM b (4 * c)).map AC.u8)] := by
  have z : Flat (List.replicate 16 (AC.u8 0)) := by rw [mrep]; exact flat_u8 _
  intro d
  induction d with
  | zero =>
    intro c hc h10
    have hc : c = 4 := by omega
    subst hc
    rw [if_pos (by omega)] at K
    have K2 := l52e hX key R b (unmL b) (unm_len b) n hn K 4 0 rfl
    rw [Nat.mul_zero, WU_0 hb] at K2
    refine vc52c hX _ _ _ _ _ _ _ ⟨fun h => absurd (of_decide_eq_true h) (by omega), fun _ => ?_⟩
    rw [XM_end hb]
    (repeat' (first | exact trivial | exact flat_u8 _ | exact flatA _ | exact allU8_map _ | exact Nat.le_refl _ | refine And.intro ?_ ?_)) <;> (first | omega | exact z | (unfold in64; omega) | exact List.length_map _ | (show Is _ _ _; exact rfl) | skip)
    exact ⟨K2⟩
  | succ d ih =>
    intro c hc h10
    refine vc52c hX _ _ _ _ _ _ _ ⟨fun _ => ⟨fun h => ?_, fun h => ?_⟩, fun h => absurd (of_decide_eq_false h) (by omega)⟩
    · have h := of_decide_eq_true h
      have K2 := l52d hX key R b hb n c (by omega) (ih (c + 1) (by omega) (.inl (by omega))) 4 0 rfl
      (repeat' (first | exact trivial | exact flat_u8 _ | exact flatA _ | exact allU8_map _ | exact Nat.le_refl _ | refine And.intro ?_ ?_)) <;> (first | omega | exact z | (unfold in64; omega) | exact List.length_map _ | (show Is _ _ _; exact rfl) | skip)
      exact ⟨K2⟩
    · have h := of_decide_eq_false h
      have h0 : c = 0 := by omega
      subst h0
      have e : XM b (4 * 0) = b := begT _ _
      rw [if_neg (by omega)] at K
      have K2 := l52e hX key R b b hb n hn K 4 0 rfl
      rw [Nat.mul_zero, WU_0 hb] at K2
      rw [e]
      (repeat' (first | exact trivial | exact flat_u8 _ | exact flatA _ | exact allU8_map _ | exact Nat.le_refl _ | refine And.intro ?_ ?_)) <;> (first | omega | exact z | (unfold in64; omega) | exact List.length_map _ | (show Is _ _ _; exact rfl) | skip)
      exact ⟨K2⟩
theorem l52b {X : Ctx} (hX : X.P = Try.prog) (key R : List (BitVec 8)) : ∀ (n : Nat) (b : List (BitVec 8)), b.length = 16 → n ≤ 10 → decN key n b = R →
    KRun X 52 0 (Is (.agg (R.map AC.u8))) (kOf Try.f52 1) (mkS 121 [(3, .one (.ptr 0 0)), (4, .one (.ptr 1 0)), (6, .one (.ptr 2 0)), (8, .one (.ptr 3 0)), (9, .one (.i64 n))]) [some (b.map AC.u8), some (List.replicate 16 (AC.u8 0)), some (bkT.map AC.u8), some ((exL key 176).map AC.u8)] := by
  have z : Flat (List.replicate 16 (AC.u8 0)) := by rw [mrep]; exact flat_u8 _
  have hE := exL_len key 176
  intro n
  induction n with
  | zero =>
    intro b hb hn hR
    have hr := rkF_len key (n := 0) (by omega)
    have e16 : (exL key 176).take 16 = rkF key 0 := by unfold rkF; rw [Nat.mul_zero, List.drop_zero]
    have hx : (xorL b (rkF key 0)).length = 16 := xorL_len _ _
    have eb : b.take 16 = b := List.take_of_length_le (by omega)
    have ex : (xorL b (rkF key 0)).take 16 = xorL b (rkF key 0) := List.take_of_length_le (by omega)
    rw [show decN key 0 b = xorL b (rkF key 0) from rfl] at hR
    have l1 : layS (List.replicate 16 (AC.u8 0)) 0 ((xorL b (rkF key 0)).map AC.u8) = (xorL b (rkF key 0)).map AC.u8 := layR _ _ hx
    refine vc52b hX _ _ _ _ _ ⟨fun h => absurd (of_decide_eq_true h) (by omega), fun _ => ?_⟩
    simp only [hide_eq, tkm, tk0, List.drop_zero, eb, map_as8, e16, l1, ex, List.length_map, List.length_replicate, hE, hb, hr, hx]
    rw [hR]
    clear hE e16 hr eb hx ex l1 hR
    (repeat' (first | exact trivial | exact flat_u8 _ | exact flatA _ | exact allU8_map _ | exact Nat.le_refl _ | refine And.intro ?_ ?_)) <;> (first | omega | exact z | (unfold in64; omega) | exact List.length_map _ | (show Is _ _ _; exact rfl) | skip)
  | succ n ih =>
    intro b hb hn hR
    have hr := rkF_len key (n := n + 1) (by omega)
    have o16 : 0 + Int.toNat ((n + 1 : Nat) : Int) * 16 = 16 * (n + 1) := by omega
    have rk : ((exL key 176).drop (16 * (n + 1))).take 16 = rkF key (n + 1) := rfl
    have hx : (xorL b (rkF key (n + 1))).length = 16 := xorL_len _ _
    have eb : b.take 16 = b := List.take_of_length_le (by omega)
    have ex : (xorL b (rkF key (n + 1))).take 16 = xorL b (rkF key (n + 1)) := List.take_of_length_le (by omega)
    have l2 : layS (b.map AC.u8) 0 ((xorL b (rkF key (n + 1))).map AC.u8) = (xorL b (rkF key (n + 1))).map AC.u8 := layM _ _ (by rw [hx, hb])
    have l1 : layS (List.replicate 16 (AC.u8 0)) 0 ((xorL b (rkF key (n + 1))).map AC.u8) = (xorL b (rkF key (n + 1))).map AC.u8 := layR _ _ hx
    have K := ih (decS key (n + 1) b) (decS_len _ _ _) (by omega) hR
    have K2 := l52c hX key R (xorL b (rkF key (n + 1))) hx (n + 1) (by omega) K 4 0 rfl (.inr rfl)
    rw [show XM (xorL b (rkF key (n + 1))) (4 * 0) = xorL b (rkF key (n + 1)) from begT _ _] at K2
    have h176 : 16 * (n + 1) + 16 ≤ 176 := by omega
    refine vc52b hX _ _ _ _ _ ⟨fun _ => ?_, fun h => absurd (of_decide_eq_false h) (by omega)⟩
    rw [o16]
    simp only [hide_eq, tkm, tk0, List.drop_zero, eb, map_as8, rk, l2, l1, ex, List.length_map, List.length_replicate, hE, hb, hr, hx]
    clear hE hr rk eb hx ex l1 l2 hR K
    (repeat' (first | exact trivial | exact flat_u8 _ | exact flatA _ | exact allU8_map _ | exact Nat.le_refl _ | refine And.intro ?_ ?_)) <;> (first | omega | exact z | (unfold in64; omega) | exact List.length_map _ | (show Is _ _ _; exact rfl) | skip)
    exact ⟨K2⟩
theorem l52a {X : Ctx} (hX : X.P = Try.prog) (key R b : List (BitVec 8)) (hk : key.length = 16)
    (K : KRun X 52 0 (Is (.agg (R.map AC.u8))) (kOf Try.f52 1) (mkS 121 [(3, .one (.ptr 0 0)), (4, .one (.ptr 1 0)), (6, .one (.ptr 2 0)), (8, .one (.ptr 3 0)), (9, .one (.i64 10))]) [some (b.map AC.u8), some (List.replicate 16 (AC.u8 0)), some (bkT.map AC.u8), some ((exL key 176).map AC.u8)]) : ∀ (d i : Nat), i + d = 256 →
    KRun X 52 0 (Is (.agg (R.map AC.u8))) (kOf Try.f52 0) (mkS 121 [(2, .one (.ptr 0 0)), (3, .one (.ptr 1 0)), (4, .one (.ptr 2 0)), (5, .one (.ptr 3 0)), (6, .one (.ptr 4 0)), (7, .one (.i64 i))]) [some (key.map AC.u8), some (b.map AC.u8), some (List.replicate 16 (AC.u8 0)), some (boxT.map AC.u8), some ((BKS i).map AC.u8)] := by
  have z : Flat (List.replicate 16 (AC.u8 0)) := by rw [mrep]; exact flat_u8 _
  have hE := exL_len key 176
  have hB := boxT_len
  intro d
  induction d with
  | zero =>
    intro i hi
    have hi : i = 256 := by omega
    subst hi
    have ek : key.take 16 = key := List.take_of_length_le (by omega)
    have ebx : boxT.take 256 = boxT := List.take_of_length_le (by omega)
    have l2 : layS (List.replicate 176 (AC.u8 0)) 0 ((exL key 176).map AC.u8) = (exL key 176).map AC.u8 := layR _ _ hE
    refine vc52a hX _ _ _ _ _ _ ⟨fun h => absurd (of_decide_eq_true h) (by omega), fun _ => ?_⟩
    rw [show BKS 256 = bkT from rfl]
    simp only [hide_eq, tkm, tk0, List.drop_zero, ek, ebx, map_as8, l2, List.length_map, hE, hB, hk]
    clear hE hB ek ebx l2
    (repeat' (first | exact trivial | exact flat_u8 _ | exact flatA _ | exact allU8_map _ | exact Nat.le_refl _ | refine And.intro ?_ ?_)) <;> (first | omega | exact z | (unfold in64; omega) | exact List.length_map _ | (show Is _ _ _; exact rfl) | skip)
    exact ⟨K⟩
  | succ d ih =>
    intro i hi
    have ih := ih (i + 1) (by omega)
    have hl := BKS_len i
    have gb : gt AC.any (boxT.map AC.u8) i = .u8 (bx (BitVec.ofNat 8 i)) := by
      rw [gt_u8_at _ _ (by omega)]
      unfold bx
      rw [BitVec.toNat_ofNat, Nat.mod_eq_of_lt (by omega)]
    have o : BitVec.ofInt 8 (i : Int) = BitVec.ofNat 8 i := BitVec.ofInt_natCast ..
    have hs : (BKS i).set (bx (BitVec.ofNat 8 i)).toNat (BitVec.ofNat 8 i) = BKS (i + 1) := rfl
    have hlt := (bx (BitVec.ofNat 8 i)).isLt
    refine vc52a hX _ _ _ _ _ _ ⟨fun _ => ?_, fun h => absurd (of_decide_eq_false h) (by omega)⟩
    simp only [ixn, gb, asU8, o, lay1, hs, List.length_map, hl]
    clear hE hB hs
    (repeat' (first | exact trivial | exact flat_u8 _ | exact flatA _ | exact allU8_map _ | exact Nat.le_refl _ | refine And.intro ?_ ?_)) <;> (first | omega | exact z | (unfold in64; omega) | exact List.length_map _ | (show Is _ _ _; exact rfl) | skip)
    exact ⟨ih⟩
theorem s52 (key b : List (BitVec 8)) (hk : key.length = 16) (hb : b.length = 16) : Spec Try.prog 52 [.agg (key.map AC.u8), .agg (b.map AC.u8)] [] (Is (.agg ((decF key b).map AC.u8))) := by
  refine Spec.of_run ok52 fun X hX => vc52 hX _ _ ?_
  have K := l52a hX key _ b hk (l52b hX key (decF key b) 10 b hb (Nat.le_refl _) rfl) 256 0 rfl
  rw [show (BKS 0).map AC.u8 = List.replicate 256 (AC.u8 0) from by rw [BKS, List.map_replicate]] at K
  have z : Flat (List.replicate 16 (AC.u8 0)) := by rw [mrep]; exact flat_u8 _
  have z2 : Flat (List.replicate 256 (AC.u8 0)) := by rw [mrep]; exact flat_u8 _
  have hB := boxT_len
  have l1 : layS (List.replicate 256 (AC.u8 0)) 0 (boxT.map AC.u8) = boxT.map AC.u8 := layR _ _ hB
  simp only [hide_eq, l1, List.length_map, hB]
  clear hB l1
  (repeat' (first | exact z2 | exact trivial | exact flat_u8 _ | exact flatA _ | exact allU8_map _ | exact Nat.le_refl _ | refine And.intro ?_ ?_)) <;> (first | omega | exact z | (unfold in64; omega) | exact List.length_map _ | (show Is _ _ _; exact rfl) | skip)
  exact ⟨K⟩
noncomputable def T18 : Tab := fun f xs => match f, xs with
  | 52, [.agg cs, .agg bs] => some ([allU8 cs ∧ cs.length = 16 ∧ allU8 bs ∧ bs.length = 16], .agg (hide ((decF (cs.map asU8) (bs.map asU8)).map AC.u8)))
  | f, xs => T17 f xs
theorem T18_ok : TabOk Try.prog T18 := by
  intro f xs cs r h hc
  unfold T18 at h
  split at h
  · obtain ⟨rfl, rfl⟩ := Prod.mk.inj (Option.some.inj h)
    obtain ⟨h1, h2, h3, h4⟩ := hc.1
    rename_i cs bs
    have := s52 (cs.map asU8) (bs.map asU8) (by rw [List.length_map]; exact h2) (by rw [List.length_map]; exact h4)
    rw [← h1, ← h3] at this
    rw [hide_eq]
    exact ⟨⟨_, _, ok52⟩, this, exactL_map _ (fun _ => rfl) _⟩
  · exact T17_ok _ _ _ _ h hc
set_option maxRecDepth 100000 in
theorem vc11 {X : Ctx} {Q : AV → Mem → Prop} (hX : X.P = Try.prog) (ks bs cs : List AC) (h : 16 ≤ List.length ks ∧ Flat (List.take 16 (List.drop 0 ks)) ∧ (allU8 (List.take 16 (List.drop 0 ks)) ∧ List.length (List.take 16 (List.drop 0 ks)) = 16) ∧ (List.length (AC.b true :: hide (List.map AC.u8 (exL (List.map asU8 (List.take 16 (List.drop 0 ks))) 176))) = 177 ∧ 177 ≤ 177) ∧ Flat ks ∧ Flat bs ∧ Flat cs ∧ Flat (layS ([AC.b false] ++ List.replicate 176 (AC.u8 (0 : BitVec 8))) 0 (AC.b true :: hide (List.map AC.u8 (exL (List.map asU8 (List.take 16 (List.drop 0 ks))) 176)))) ∧ KR X 11 0 Q (kCut Try.f11 1) (mkS 35 [(3, AV.one (AC.ptr 0 0)), (4, AV.one (AC.ptr 1 0)), (5, AV.one (AC.ptr 2 0)), (7, AV.one (AC.ptr 3 0))]) [some ks, some bs, some cs, some (layS ([AC.b false] ++ List.replicate 176 (AC.u8 (0 : BitVec 8))) 0 (AC.b true :: hide (List.map AC.u8 (exL (List.map asU8 (List.take 16 (List.drop 0 ks))) 176))))]) : KRun X 11 0 Q ([.code (bodyOf Try.f11)]) (slots [.agg ks, .agg bs, .agg cs] Try.f11.ntmps) [] :=
  wpRun_ok (hX ▸ baseK_ok T18 mf13 M13) (hX ▸ baseK_call T18_ok M13_ok) (hX ▸ mixed) (hX ▸ ok11) LK_ok (cast (β := wpRun (baseK T18 mf13 M13) [22, 30] [(2, 6), (100001, 0), (200002, 0)] false (RS.mk Try.f11.results.toList 0 (CS.mk [] [] [] [])) (LK X 11 0 Q true [(2, LS.mk [3, 4, 5, 7] (CS.mk [] [true, true, true, true] [] []))]) Q 2000 ([.code (bodyOf Try.f11)]) (slots [.agg ks, .agg bs, .agg cs] Try.f11.ntmps) []) (by kernel_rfl) h)
set_option maxRecDepth 100000 in
theorem vc11b {X : Ctx} {Q : AV → Mem → Prop} (hX : X.P = Try.prog) (gs bs cs ks : List AC) (h : 177 ≤ List.length (AC.b true :: ks) ∧ 16 ≤ List.length bs ∧ Flat (List.take 177 (List.drop 0 (AC.b true :: ks))) ∧ Flat (List.take 16 (List.drop 0 bs)) ∧ (List.take 176 ks = List.map AC.u8 (exL (keyOf (List.take 176 ks)) 176) ∧ List.length (keyOf (List.take 176 ks)) = 16 ∧ allU8 (List.take 16 (List.drop 0 bs)) ∧ List.length (List.take 16 (List.drop 0 bs)) = 16) ∧ 177 ≤ List.length (AC.b true :: ks) ∧ 16 ≤ List.length cs ∧ Flat (List.take 177 (List.drop 0 (AC.b true :: ks))) ∧ Flat (List.take 16 (List.drop 0 cs)) ∧ (List.take 176 ks = List.map AC.u8 (exL (keyOf (List.take 176 ks)) 176) ∧ List.length (keyOf (List.take 176 ks)) = 16 ∧ allU8 (List.take 16 (List.drop 0 cs)) ∧ List.length (List.take 16 (List.drop 0 cs)) = 16) ∧ ((List.length (hide (List.map AC.u8 (encF (keyOf (List.take 176 ks)) (List.map asU8 (List.take 16 (List.drop 0 bs)))))) = 16 ∧ 16 ≤ 16) ∧ (List.length (hide (List.map AC.u8 (encF (keyOf (List.take 176 ks)) (List.map asU8 (List.take 16 (List.drop 0 cs)))))) = 16 ∧ 16 ≤ 16) ∧ 16 ≤ List.length gs ∧ 16 ≤ List.length (layS (List.replicate 16 (AC.u8 (0 : BitVec 8))) 0 (hide (List.map AC.u8 (encF (keyOf (List.take 176 ks)) (List.map asU8 (List.take 16 (List.drop 0 bs))))))) ∧ Flat (List.take 16 (List.drop 0 gs)) ∧ Flat (List.take 16 (List.drop 0 (layS (List.replicate 16 (AC.u8 (0 : BitVec 8))) 0 (hide (List.map AC.u8 (encF (keyOf (List.take 176 ks)) (List.map asU8 (List.take 16 (List.drop 0 bs))))))))) ∧ (allU8 (List.take 16 (List.drop 0 gs)) ∧ List.length (List.take 16 (List.drop 0 gs)) = 16 ∧ allU8 (List.take 16 (List.drop 0 (layS (List.replicate 16 (AC.u8 (0 : BitVec 8))) 0 (hide (List.map AC.u8 (encF (keyOf (List.take 176 ks)) (List.map asU8 (List.take 16 (List.drop 0 bs))))))))) ∧ List.length (List.take 16 (List.drop 0 (layS (List.replicate 16 (AC.u8 (0 : BitVec 8))) 0 (hide (List.map AC.u8 (encF (keyOf (List.take 176 ks)) (List.map asU8 (List.take 16 (List.drop 0 bs))))))))) = 16) ∧ 16 ≤ List.length bs ∧ (fitCs (List.replicate 16 (AC.u8 (0 : BitVec 8))) (hide (List.map AC.u8 (decF (List.map asU8 (List.take 16 (List.drop 0 gs))) (List.map asU8 (List.take 16 (List.drop 0 (layS (List.replicate 16 (AC.u8 (0 : BitVec 8))) 0 (hide (List.map AC.u8 (encF (keyOf (List.take 176 ks)) (List.map asU8 (List.take 16 (List.drop 0 bs))))))))))))) ∧ fitCs (List.replicate 16 (AC.u8 (0 : BitVec 8))) (List.take 16 (List.drop 0 bs))) ∧ (sameCells (hide (List.map AC.u8 (decF (List.map asU8 (List.take 16 (List.drop 0 gs))) (List.map asU8 (List.take 16 (List.drop 0 (layS (List.replicate 16 (AC.u8 (0 : BitVec 8))) 0 (hide (List.map AC.u8 (encF (keyOf (List.take 176 ks)) (List.map asU8 (List.take 16 (List.drop 0 bs))))))))))))) (List.take 16 (List.drop 0 bs)) = true → 16 ≤ List.length (layS (List.replicate 16 (AC.u8 (0 : BitVec 8))) 0 (hide (List.map AC.u8 (encF (keyOf (List.take 176 ks)) (List.map asU8 (List.take 16 (List.drop 0 bs))))))) ∧ 16 ≤ List.length (layS (List.replicate 16 (AC.u8 (0 : BitVec 8))) 0 (hide (List.map AC.u8 (encF (keyOf (List.take 176 ks)) (List.map asU8 (List.take 16 (List.drop 0 cs))))))) ∧ (fitCs (List.replicate 16 (AC.u8 (0 : BitVec 8))) (List.take 16 (List.drop 0 (layS (List.replicate 16 (AC.u8 (0 : BitVec 8))) 0 (hide (List.map AC.u8 (encF (keyOf (List.take 176 ks)) (List.map asU8 (List.take 16 (List.drop 0 bs))))))))) ∧ fitCs (List.replicate 16 (AC.u8 (0 : BitVec 8))) (List.take 16 (List.drop 0 (layS (List.replicate 16 (AC.u8 (0 : BitVec 8))) 0 (hide (List.map AC.u8 (encF (keyOf (List.take 176 ks)) (List.map asU8 (List.take 16 (List.drop 0 cs)))))))))) ∧ 16 ≤ List.length bs ∧ 16 ≤ List.length cs ∧ (fitCs (List.replicate 16 (AC.u8 (0 : BitVec 8))) (List.take 16 (List.drop 0 bs)) ∧ fitCs (List.replicate 16 (AC.u8 (0 : BitVec 8))) (List.take 16 (List.drop 0 cs))) ∧ ((sameCells (List.take 16 (List.drop 0 (layS (List.replicate 16 (AC.u8 (0 : BitVec 8))) 0 (hide (List.map AC.u8 (encF (keyOf (List.take 176 ks)) (List.map asU8 (List.take 16 (List.drop 0 bs))))))))) (List.take 16 (List.drop 0 (layS (List.replicate 16 (AC.u8 (0 : BitVec 8))) 0 (hide (List.map AC.u8 (encF (keyOf (List.take 176 ks)) (List.map asU8 (List.take 16 (List.drop 0 cs))))))))) == sameCells (List.take 16 (List.drop 0 bs)) (List.take 16 (List.drop 0 cs))) = true → Q (AV.one (AC.b true)) []) ∧ ((sameCells (List.take 16 (List.drop 0 (layS (List.replicate 16 (AC.u8 (0 : BitVec 8))) 0 (hide (List.map AC.u8 (encF (keyOf (List.take 176 ks)) (List.map asU8 (List.take 16 (List.drop 0 bs))))))))) (List.take 16 (List.drop 0 (layS (List.replicate 16 (AC.u8 (0 : BitVec 8))) 0 (hide (List.map AC.u8 (encF (keyOf (List.take 176 ks)) (List.map asU8 (List.take 16 (List.drop 0 cs))))))))) == sameCells (List.take 16 (List.drop 0 bs)) (List.take 16 (List.drop 0 cs))) = false → Q (AV.one (AC.b false)) [])) ∧ (sameCells (hide (List.map AC.u8 (decF (List.map asU8 (List.take 16 (List.drop 0 gs))) (List.map asU8 (List.take 16 (List.drop 0 (layS (List.replicate 16 (AC.u8 (0 : BitVec 8))) 0 (hide (List.map AC.u8 (encF (keyOf (List.take 176 ks)) (List.map asU8 (List.take 16 (List.drop 0 bs))))))))))))) (List.take 16 (List.drop 0 bs)) = false → Q (AV.one (AC.b false)) [])) ∧ (List.length (hide (List.map AC.u8 (encF (keyOf (List.take 176 ks)) (List.map asU8 (List.take 16 (List.drop 0 bs)))))) = 16 ∧ 16 ≤ 16) ∧ (List.length (hide (List.map AC.u8 (encF (keyOf (List.take 176 ks)) (List.map asU8 (List.take 16 (List.drop 0 cs)))))) = 16 ∧ 16 ≤ 16) ∧ 16 ≤ List.length gs ∧ 16 ≤ List.length (layS (List.replicate 16 (AC.u8 (0 : BitVec 8))) 0 (hide (List.map AC.u8 (encF (keyOf (List.take 176 ks)) (List.map asU8 (List.take 16 (List.drop 0 bs))))))) ∧ Flat (List.take 16 (List.drop 0 gs)) ∧ Flat (List.take 16 (List.drop 0 (layS (List.replicate 16 (AC.u8 (0 : BitVec 8))) 0 (hide (List.map AC.u8 (encF (keyOf (List.take 176 ks)) (List.map asU8 (List.take 16 (List.drop 0 bs))))))))) ∧ (allU8 (List.take 16 (List.drop 0 gs)) ∧ List.length (List.take 16 (List.drop 0 gs)) = 16 ∧ allU8 (List.take 16 (List.drop 0 (layS (List.replicate 16 (AC.u8 (0 : BitVec 8))) 0 (hide (List.map AC.u8 (encF (keyOf (List.take 176 ks)) (List.map asU8 (List.take 16 (List.drop 0 bs))))))))) ∧ List.length (List.take 16 (List.drop 0 (layS (List.replicate 16 (AC.u8 (0 : BitVec 8))) 0 (hide (List.map AC.u8 (encF (keyOf (List.take 176 ks)) (List.map asU8 (List.take 16 (List.drop 0 bs))))))))) = 16) ∧ 16 ≤ List.length bs ∧ (fitCs (List.replicate 16 (AC.u8 (0 : BitVec 8))) (hide (List.map AC.u8 (decF (List.map asU8 (List.take 16 (List.drop 0 gs))) (List.map asU8 (List.take 16 (List.drop 0 (layS (List.replicate 16 (AC.u8 (0 : BitVec 8))) 0 (hide (List.map AC.u8 (encF (keyOf (List.take 176 ks)) (List.map asU8 (List.take 16 (List.drop 0 bs))))))))))))) ∧ fitCs (List.replicate 16 (AC.u8 (0 : BitVec 8))) (List.take 16 (List.drop 0 bs))) ∧ (sameCells (hide (List.map AC.u8 (decF (List.map asU8 (List.take 16 (List.drop 0 gs))) (List.map asU8 (List.take 16 (List.drop 0 (layS (List.replicate 16 (AC.u8 (0 : BitVec 8))) 0 (hide (List.map AC.u8 (encF (keyOf (List.take 176 ks)) (List.map asU8 (List.take 16 (List.drop 0 bs))))))))))))) (List.take 16 (List.drop 0 bs)) = true → 16 ≤ List.length (layS (List.replicate 16 (AC.u8 (0 : BitVec 8))) 0 (hide (List.map AC.u8 (encF (keyOf (List.take 176 ks)) (List.map asU8 (List.take 16 (List.drop 0 bs))))))) ∧ 16 ≤ List.length (layS (List.replicate 16 (AC.u8 (0 : BitVec 8))) 0 (hide (List.map AC.u8 (encF (keyOf (List.take 176 ks)) (List.map asU8 (List.take 16 (List.drop 0 cs))))))) ∧ (fitCs (List.replicate 16 (AC.u8 (0 : BitVec 8))) (List.take 16 (List.drop 0 (layS (List.replicate 16 (AC.u8 (0 : BitVec 8))) 0 (hide (List.map AC.u8 (encF (keyOf (List.take 176 ks)) (List.map asU8 (List.take 16 (List.drop 0 bs))))))))) ∧ fitCs (List.replicate 16 (AC.u8 (0 : BitVec 8))) (List.take 16 (List.drop 0 (layS (List.replicate 16 (AC.u8 (0 : BitVec 8))) 0 (hide (List.map AC.u8 (encF (keyOf (List.take 176 ks)) (List.map asU8 (List.take 16 (List.drop 0 cs)))))))))) ∧ 16 ≤ List.length bs ∧ 16 ≤ List.length cs ∧ (fitCs (List.replicate 16 (AC.u8 (0 : BitVec 8))) (List.take 16 (List.drop 0 bs)) ∧ fitCs (List.replicate 16 (AC.u8 (0 : BitVec 8))) (List.take 16 (List.drop 0 cs))) ∧ ((sameCells (List.take 16 (List.drop 0 (layS (List.replicate 16 (AC.u8 (0 : BitVec 8))) 0 (hide (List.map AC.u8 (encF (keyOf (List.take 176 ks)) (List.map asU8 (List.take 16 (List.drop 0 bs))))))))) (List.take 16 (List.drop 0 (layS (List.replicate 16 (AC.u8 (0 : BitVec 8))) 0 (hide (List.map AC.u8 (encF (keyOf (List.take 176 ks)) (List.map asU8 (List.take 16 (List.drop 0 cs))))))))) == sameCells (List.take 16 (List.drop 0 bs)) (List.take 16 (List.drop 0 cs))) = true → Q (AV.one (AC.b true)) []) ∧ ((sameCells (List.take 16 (List.drop 0 (layS (List.replicate 16 (AC.u8 (0 : BitVec 8))) 0 (hide (List.map AC.u8 (encF (keyOf (List.take 176 ks)) (List.map asU8 (List.take 16 (List.drop 0 bs))))))))) (List.take 16 (List.drop 0 (layS (List.replicate 16 (AC.u8 (0 : BitVec 8))) 0 (hide (List.map AC.u8 (encF (keyOf (List.take 176 ks)) (List.map asU8 (List.take 16 (List.drop 0 cs))))))))) == sameCells (List.take 16 (List.drop 0 bs)) (List.take 16 (List.drop 0 cs))) = false → Q (AV.one (AC.b false)) [])) ∧ (sameCells (hide (List.map AC.u8 (decF (List.map asU8 (List.take 16 (List.drop 0 gs))) (List.map asU8 (List.take 16 (List.drop 0 (layS (List.replicate 16 (AC.u8 (0 : BitVec 8))) 0 (hide (List.map AC.u8 (encF (keyOf (List.take 176 ks)) (List.map asU8 (List.take 16 (List.drop 0 bs))))))))))))) (List.take 16 (List.drop 0 bs)) = false → Q (AV.one (AC.b false)) [])) : KRun X 11 0 Q (kCut Try.f11 1) (mkS 35 [(3, .one (.ptr 0 0)), (4, .one (.ptr 1 0)), (5, .one (.ptr 2 0)), (7, .one (.ptr 3 0))]) [some gs, some bs, some cs, some (.b true :: ks)] :=
  wpRun_ok (hX ▸ baseK_ok T18 mf13 M13) (hX ▸ baseK_call T18_ok M13_ok) (hX ▸ mixed) (hX ▸ ok11) LK_ok (cast (β := wpRun (baseK T18 mf13 M13) [22, 30] [(2, 6), (100001, 0), (200002, 0)] false (RS.mk Try.f11.results.toList 0 (CS.mk [] [] [] [])) (LK X 11 0 Q true [(2, LS.mk [3, 4, 5, 7] (CS.mk [] [true, true, true, true] [] []))]) Q 2000 (kCut Try.f11 1) (mkS 35 [(3, .one (.ptr 0 0)), (4, .one (.ptr 1 0)), (5, .one (.ptr 2 0)), (7, .one (.ptr 3 0))]) [some gs, some bs, some cs, some (.b true :: ks)]) (by kernel_rfl) h)

theorem u8_inj {a b : List (BitVec 8)} (h : a.map AC.u8 = b.map AC.u8) : a = b := by
  have := congrArg (List.map asU8) h
  rwa [map_as8, map_as8] at this
theorem same_u8 (a b : List (BitVec 8)) : sameCells (a.map AC.u8) (b.map AC.u8) = decide (a = b) := by
  unfold sameCells
  exact decide_eq_decide.2 ⟨u8_inj, fun h => by rw [h]⟩
theorem s11 (key a b : List (BitVec 8)) (hk : key.length = 16) (ha : a.length = 16) (hb : b.length = 16) : Spec Try.prog 11 [.agg (key.map AC.u8), .agg (a.map AC.u8), .agg (b.map AC.u8)] [] Fin := by
  refine Spec.of_run ok11 fun X hX => vc11 hX _ _ _ ?_
  have hE := exL_len key 176
  have kk := keyOf_ex key hk
  have ek : key.take 16 = key := List.take_of_length_le (by omega)
  have ea : a.take 16 = a := List.take_of_length_le (by omega)
  have eb : b.take 16 = b := List.take_of_length_le (by omega)
  have eE : (exL key 176).take 176 = exL key 176 := List.take_of_length_le (by omega)
  have hx := encF_len key a
  have hy := encF_len key b
  have ex : (encF key a).take 16 = encF key a := List.take_of_length_le (by omega)
  have ey : (encF key b).take 16 = encF key b := List.take_of_length_le (by omega)
  have hl : (AC.b true :: (exL key 176).map AC.u8).length = 177 := by rw [List.length_cons, List.length_map, hE]
  have e177 : List.take 177 (List.drop 0 (AC.b true :: (exL key 176).map AC.u8)) = AC.b true :: (exL key 176).map AC.u8 := by rw [List.drop_zero, List.take_of_length_le (by rw [hl]; exact Nat.le_refl _)]
  have el : layS ([AC.b false] ++ List.replicate 176 (AC.u8 0)) 0 (AC.b true :: (exL key 176).map AC.u8) = AC.b true :: (exL key 176).map AC.u8 := layS_all (by rw [hl]; rfl)
  have lx : layS (List.replicate 16 (AC.u8 0)) 0 ((encF key a).map AC.u8) = (encF key a).map AC.u8 := layR _ _ hx
  have ly : layS (List.replicate 16 (AC.u8 0)) 0 ((encF key b).map AC.u8) = (encF key b).map AC.u8 := layR _ _ hy
  have fx := fitE hx
  have fy := fitE hy
  have fa := fitE ha
  have fb := fitE hb
  have hd := dec_of key a ha
  have K : KRun X 11 0 Fin (kCut Try.f11 1) (mkS 35 [(3, .one (.ptr 0 0)), (4, .one (.ptr 1 0)), (5, .one (.ptr 2 0)), (7, .one (.ptr 3 0))]) [some (key.map AC.u8), some (a.map AC.u8), some (b.map AC.u8), some (AC.b true :: (exL key 176).map AC.u8)] := by
    have e3 : (decide (encF key a = encF key b) == decide (a = b)) = true := by
      have : decide (encF key a = encF key b) = decide (a = b) := decide_eq_decide.2 ⟨enc_inj ha hb, fun h => by rw [h]⟩
      rw [this]
      exact beq_self_eq_true _
    refine vc11b hX _ _ _ _ ?_
    rw [e177]
    simp only [hide_eq, tkm, tk0, List.drop_zero, ek, ea, eb, eE, ex, ey, lx, ly, map_as8, kk, hl, hd, same_self, same_u8, e3, List.length_map, hk, ha, hb, hx, hy, Bool.true_eq_false, false_implies, true_implies, forall_const]
    clear kk hE ek ea eb eE ex ey e177 hl el lx ly hd e3
    generalize encF key a = x at hx fx ⊢
    generalize encF key b = y at hy fy ⊢
    (repeat' (first | exact fin | exact trivial | exact allU8_map _ | exact flat_u8 _ | exact kflat _ _ | exact fx | exact fy | exact fa | exact fb | exact Nat.le_refl _ | refine And.intro ?_ ?_)) <;> first | omega | skip
  simp only [hide_eq, tkm, tk0, List.drop_zero, ek, map_as8, hl, el, List.length_map, hk]
  clear kk hE ek ea eb eE ex ey e177 hl el lx ly hd
  (repeat' (first | exact trivial | exact allU8_map _ | exact flat_u8 _ | exact kflat _ _ | exact Nat.le_refl _ | refine And.intro ?_ ?_)) <;> first | omega | exact ⟨K⟩
end DH

noncomputable section
namespace DH
open Go Go.Proofs
theorem s11w (k a b : List (BitVec 8)) (hk : (Sh.ar 16 .u8).wf k) (ha : (Sh.ar 16 .u8).wf a) (hb : (Sh.ar 16 .u8).wf b) : Spec Try.prog 11 [.agg (List.flatMap (Sh.enc .u8) k), .agg (List.flatMap (Sh.enc .u8) a), .agg (List.flatMap (Sh.enc .u8) b)] [] (Is (.one (.b true))) := by
  rw [fm_u8, fm_u8, fm_u8]; exact s11 k a b hk.1 ha.1 hb.1
end DH
