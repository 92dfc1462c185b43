/- Walks of functions, each by evaluation: what each returns; with the layer beneath. -/
import Derived.Test.YtdnggeocdocomaaJB
import Derived.Test.YtdnggeocdocomaaLC
import Derived.Test.YtdnggeocdocomaaJA
set_option linter.unusedVariables false
set_option linter.unusedSimpArgs false
noncomputable section
namespace DH
open List (take drop replicate)
open Go Go.Proofs
set_option maxRecDepth 100000 in
theorem vc53e {X : Ctx} {Q : AV → Mem → Prop} (hX : X.P = Try.prog) (ks bs : List AC) (h : Flat ks ∧ Flat bs ∧ Flat (replicate 176 (AC.u8 (0:BitVec 8))) ∧ Flat (replicate 176 (AC.u8 (0:BitVec 8))) ∧ KR X 53 0 Q (kOf Try.f53 0) (mkS 113 [(2, AV.one (AC.ptr 0 0)), (3, AV.one (AC.ptr 1 0)), (4, AV.one (AC.ptr 2 0)), (5, AV.one (AC.ptr 3 0)), (6, AV.one (AC.u8 (BitVec.ofInt 8 (1:Int)))), (7, AV.one (AC.i64 (0:Int)))]) [some ks, some bs, some (replicate 176 (AC.u8 (0:BitVec 8))), some (replicate 176 (AC.u8 (0:BitVec 8)))]) : KRun X 53 0 Q ([.code (bodyOf Try.f53)]) (slots [.agg ks, .agg bs] Try.f53.ntmps) [] :=
  wpRun_ok (hX ▸ baseK_ok T13 mf13 M13) (hX ▸ baseK_call T13_ok M13_ok) (hX ▸ mixed) (hX ▸ ok53) LK_ok (cast (β := wpRun (baseK T13 mf13 M13) [13, 17, 21, 34, 74, 78, 91, 95] [(10, 10), (12, 21), (13, 17), (15, 8), (24, 14)] false (RS.mk Try.f53.results.toList 0 (CS.mk [] [] [0] [])) (LK X 53 0 Q true [(4, LS.mk [2, 3, 4, 5, 6, 7] (CS.mk [] [true, true, true, true] [] [])), (7, LS.mk [2, 3, 4, 5, 6, 7, 8] (CS.mk [] [true, true, true, true] [] [])), (19, LS.mk [4, 5, 9, 10] (CS.mk [] [true, true, true] [] [])), (22, LS.mk [4, 5, 9, 10, 11] (CS.mk [] [true, true, true] [] []))]) Q 2000 ([.code (bodyOf Try.f53)]) (slots [.agg ks, .agg bs] Try.f53.ntmps) []) (by kernel_rfl) h)
set_option maxRecDepth 100000 in
theorem vc53a {X : Ctx} {Q : AV → Mem → Prop} (hX : X.P = Try.prog) (ks bs zs ws : List AC) (p:BitVec 8) (i:Int) (h : (decide (i < (44:Int)) = true → Flat ks ∧ Flat bs ∧ Flat zs ∧ Flat ws ∧ KR X 53 0 Q (kOf Try.f53 1) (mkS 113 [(2, AV.one (AC.ptr 0 0)), (3, AV.one (AC.ptr 1 0)), (4, AV.one (AC.ptr 2 0)), (5, AV.one (AC.ptr 3 0)), (6, AV.one (AC.u8 p)), (7, AV.one (AC.i64 i)), (8, AV.one (AC.i64 (0:Int)))]) [some ks, some bs, some zs, some ws]) ∧ (decide (i < (44:Int)) = false → Flat zs ∧ Flat ws ∧ Flat (replicate 176 (AC.u8 (0:BitVec 8))) ∧ KR X 53 0 Q (kOf Try.f53 2) (mkS 113 [(4, AV.one (AC.ptr 0 0)), (5, AV.one (AC.ptr 1 0)), (9, AV.one (AC.ptr 2 0)), (10, AV.one (AC.i64 (0:Int)))]) [some zs, some ws, some (replicate 176 (AC.u8 (0:BitVec 8)))])) : KRun X 53 0 Q (kOf Try.f53 0) (mkS 113 [(2, .one (.ptr 0 0)), (3, .one (.ptr 1 0)), (4, .one (.ptr 2 0)), (5, .one (.ptr 3 0)), (6, .one (.u8 p)), (7, .one (.i64 i))]) [some ks, some bs, some zs, some ws] :=
  wpRun_ok (hX ▸ baseK_ok T13 mf13 M13) (hX ▸ baseK_call T13_ok M13_ok) (hX ▸ mixed) (hX ▸ ok53) LK_ok (cast (β := wpRun (baseK T13 mf13 M13) [13, 17, 21, 34, 74, 78, 91, 95] [(10, 10), (12, 21), (13, 17), (15, 8), (24, 14)] false (RS.mk Try.f53.results.toList 0 (CS.mk [] [] [0] [])) (LK X 53 0 Q true [(4, LS.mk [2, 3, 4, 5, 6, 7] (CS.mk [] [true, true, true, true] [] [])), (7, LS.mk [2, 3, 4, 5, 6, 7, 8] (CS.mk [] [true, true, true, true] [] [])), (19, LS.mk [4, 5, 9, 10] (CS.mk [] [true, true, true] [] [])), (22, LS.mk [4, 5, 9, 10, 11] (CS.mk [] [true, true, true] [] []))]) Q 2000 (kOf Try.f53 0) (mkS 113 [(2, .one (.ptr 0 0)), (3, .one (.ptr 1 0)), (4, .one (.ptr 2 0)), (5, .one (.ptr 3 0)), (6, .one (.u8 p)), (7, .one (.i64 i))]) [some ks, some bs, some zs, some ws]) (by kernel_rfl) h)
set_option maxRecDepth 100000 in
theorem vc53b {X : Ctx} {Q : AV → Mem → Prop} (hX : X.P = Try.prog) (ks bs zs ws : List AC) (p:BitVec 8) (i k:Int) (h : (decide (k < (4:Int)) = true → (decide (i < (4:Int)) = true → in64 ((4:Int) * i) ∧ in64 ((4:Int) * i + k) ∧ ((0:Int) ≤ (4:Int) * i + k ∧ (4:Int) * i + k < (↑16:Int)) ∧ gt AC.any ks (0 + Int.toNat ((4:Int) * i + k) * 1) = AC.u8 (asU8 (gt AC.any ks (0 + Int.toNat ((4:Int) * i + k) * 1))) ∧ ((0:Int) ≤ i ∧ i < (↑44:Int)) ∧ ((0:Int) ≤ k ∧ k < (↑4:Int)) ∧ (1 = 1 ∧ 0 + Int.toNat i * 4 + Int.toNat k * 1 + 1 ≤ List.length ws) ∧ in64 (k + (1:Int)) ∧ Flat ks ∧ Flat bs ∧ Flat zs ∧ Flat (layS ws (0 + Int.toNat i * 4 + Int.toNat k * 1) [AC.u8 (asU8 (gt AC.any ks (0 + Int.toNat ((4:Int) * i + k) * 1)))]) ∧ KR X 53 0 Q (kOf Try.f53 1) (mkS 113 [(2, AV.one (AC.ptr 0 0)), (3, AV.one (AC.ptr 1 0)), (4, AV.one (AC.ptr 2 0)), (5, AV.one (AC.ptr 3 0)), (6, AV.one (AC.u8 p)), (7, AV.one (AC.i64 i)), (8, AV.one (AC.i64 (k + (1:Int))))]) [some ks, some bs, some zs, some (layS ws (0 + Int.toNat i * 4 + Int.toNat k * 1) [AC.u8 (asU8 (gt AC.any ks (0 + Int.toNat ((4:Int) * i + k) * 1)))])]) ∧ (decide (i < (4:Int)) = false → (4:Int) ≠ (0:Int) ∧ (decide (Int.tmod i (4:Int) = (0:Int)) = true → in64 (i - (4:Int)) ∧ ((0:Int) ≤ i - (4:Int) ∧ i - (4:Int) < (↑44:Int)) ∧ ((0:Int) ≤ k ∧ k < (↑4:Int)) ∧ gt AC.any ws (0 + Int.toNat (i - (4:Int)) * 4 + Int.toNat k * 1) = AC.u8 (asU8 (gt AC.any ws (0 + Int.toNat (i - (4:Int)) * 4 + Int.toNat k * 1))) ∧ in64 (i - (1:Int)) ∧ in64 (k + (1:Int)) ∧ (4:Int) ≠ (0:Int) ∧ ((0:Int) ≤ i - (1:Int) ∧ i - (1:Int) < (↑44:Int)) ∧ ((0:Int) ≤ Int.tmod (k + (1:Int)) (4:Int) ∧ Int.tmod (k + (1:Int)) (4:Int) < (↑4:Int)) ∧ gt AC.any ws (0 + Int.toNat (i - (1:Int)) * 4 + Int.toNat (Int.tmod (k + (1:Int)) (4:Int)) * 1) = AC.u8 (asU8 (gt AC.any ws (0 + Int.toNat (i - (1:Int)) * 4 + Int.toNat (Int.tmod (k + (1:Int)) (4:Int)) * 1))) ∧ gt AC.any bs (0 + Int.toNat (↑(BitVec.toNat (asU8 (gt AC.any ws (0 + Int.toNat (i - (1:Int)) * 4 + Int.toNat (Int.tmod (k + (1:Int)) (4:Int)) * 1)))):Int) * 1) = AC.u8 (asU8 (gt AC.any bs (0 + Int.toNat (↑(BitVec.toNat (asU8 (gt AC.any ws (0 + Int.toNat (i - (1:Int)) * 4 + Int.toNat (Int.tmod (k + (1:Int)) (4:Int)) * 1)))):Int) * 1))) ∧ ((0:Int) ≤ i ∧ i < (↑44:Int)) ∧ ((0:Int) ≤ k ∧ k < (↑4:Int)) ∧ (1 = 1 ∧ 0 + Int.toNat i * 4 + Int.toNat k * 1 + 1 ≤ List.length ws) ∧ in64 (k + (1:Int)) ∧ Flat ks ∧ Flat bs ∧ Flat zs ∧ Flat (layS ws (0 + Int.toNat i * 4 + Int.toNat k * 1) [AC.u8 (asU8 (gt AC.any ws (0 + Int.toNat (i - (4:Int)) * 4 + Int.toNat k * 1)) ^^^ asU8 (gt AC.any bs (0 + Int.toNat (↑(BitVec.toNat (asU8 (gt AC.any ws (0 + Int.toNat (i - (1:Int)) * 4 + Int.toNat (Int.tmod (k + (1:Int)) (4:Int)) * 1)))):Int) * 1)))]) ∧ KR X 53 0 Q (kOf Try.f53 1) (mkS 113 [(2, AV.one (AC.ptr 0 0)), (3, AV.one (AC.ptr 1 0)), (4, AV.one (AC.ptr 2 0)), (5, AV.one (AC.ptr 3 0)), (6, AV.one (AC.u8 p)), (7, AV.one (AC.i64 i)), (8, AV.one (AC.i64 (k + (1:Int))))]) [some ks, some bs, some zs, some (layS ws (0 + Int.toNat i * 4 + Int.toNat k * 1) [AC.u8 (asU8 (gt AC.any ws (0 + Int.toNat (i - (4:Int)) * 4 + Int.toNat k * 1)) ^^^ asU8 (gt AC.any bs (0 + Int.toNat (↑(BitVec.toNat (asU8 (gt AC.any ws (0 + Int.toNat (i - (1:Int)) * 4 + Int.toNat (Int.tmod (k + (1:Int)) (4:Int)) * 1)))):Int) * 1)))])]) ∧ (decide (Int.tmod i (4:Int) = (0:Int)) = false → in64 (i - (4:Int)) ∧ ((0:Int) ≤ i - (4:Int) ∧ i - (4:Int) < (↑44:Int)) ∧ ((0:Int) ≤ k ∧ k < (↑4:Int)) ∧ gt AC.any ws (0 + Int.toNat (i - (4:Int)) * 4 + Int.toNat k * 1) = AC.u8 (asU8 (gt AC.any ws (0 + Int.toNat (i - (4:Int)) * 4 + Int.toNat k * 1))) ∧ in64 (i - (1:Int)) ∧ ((0:Int) ≤ i - (1:Int) ∧ i - (1:Int) < (↑44:Int)) ∧ ((0:Int) ≤ k ∧ k < (↑4:Int)) ∧ gt AC.any ws (0 + Int.toNat (i - (1:Int)) * 4 + Int.toNat k * 1) = AC.u8 (asU8 (gt AC.any ws (0 + Int.toNat (i - (1:Int)) * 4 + Int.toNat k * 1))) ∧ ((0:Int) ≤ i ∧ i < (↑44:Int)) ∧ ((0:Int) ≤ k ∧ k < (↑4:Int)) ∧ (1 = 1 ∧ 0 + Int.toNat i * 4 + Int.toNat k * 1 + 1 ≤ List.length ws) ∧ in64 (k + (1:Int)) ∧ Flat ks ∧ Flat bs ∧ Flat zs ∧ Flat (layS ws (0 + Int.toNat i * 4 + Int.toNat k * 1) [AC.u8 (asU8 (gt AC.any ws (0 + Int.toNat (i - (4:Int)) * 4 + Int.toNat k * 1)) ^^^ asU8 (gt AC.any ws (0 + Int.toNat (i - (1:Int)) * 4 + Int.toNat k * 1)))]) ∧ KR X 53 0 Q (kOf Try.f53 1) (mkS 113 [(2, AV.one (AC.ptr 0 0)), (3, AV.one (AC.ptr 1 0)), (4, AV.one (AC.ptr 2 0)), (5, AV.one (AC.ptr 3 0)), (6, AV.one (AC.u8 p)), (7, AV.one (AC.i64 i)), (8, AV.one (AC.i64 (k + (1:Int))))]) [some ks, some bs, some zs, some (layS ws (0 + Int.toNat i * 4 + Int.toNat k * 1) [AC.u8 (asU8 (gt AC.any ws (0 + Int.toNat (i - (4:Int)) * 4 + Int.toNat k * 1)) ^^^ asU8 (gt AC.any ws (0 + Int.toNat (i - (1:Int)) * 4 + Int.toNat k * 1)))])]))) ∧ (decide (k < (4:Int)) = false → (decide ((4:Int) ≤ i) = true → (4:Int) ≠ (0:Int) ∧ (decide (Int.tmod i (4:Int) = (0:Int)) = true → ((0:Int) ≤ i ∧ i < (↑44:Int)) ∧ ((0:Int) ≤ (0:Int) ∧ (0:Int) < (↑4:Int)) ∧ gt AC.any ws (0 + Int.toNat i * 4 + 0) = AC.u8 (asU8 (gt AC.any ws (0 + Int.toNat i * 4 + 0))) ∧ ((0:Int) ≤ i ∧ i < (↑44:Int)) ∧ ((0:Int) ≤ (0:Int) ∧ (0:Int) < (↑4:Int)) ∧ (1 = 1 ∧ 0 + Int.toNat i * 4 + 0 + 1 ≤ List.length ws) ∧ in64 (i + (1:Int)) ∧ Flat ks ∧ Flat bs ∧ Flat zs ∧ Flat (layS ws (0 + Int.toNat i * 4 + 0) [AC.u8 (asU8 (gt AC.any ws (0 + Int.toNat i * 4 + 0)) ^^^ p)]) ∧ KR X 53 0 Q (kOf Try.f53 0) (mkS 113 [(2, AV.one (AC.ptr 0 0)), (3, AV.one (AC.ptr 1 0)), (4, AV.one (AC.ptr 2 0)), (5, AV.one (AC.ptr 3 0)), (6, AV.one (AC.u8 (tmF p (BitVec.ofInt 8 (2:Int))))), (7, AV.one (AC.i64 (i + (1:Int))))]) [some ks, some bs, some zs, some (layS ws (0 + Int.toNat i * 4 + 0) [AC.u8 (asU8 (gt AC.any ws (0 + Int.toNat i * 4 + 0)) ^^^ p)])]) ∧ (decide (Int.tmod i (4:Int) = (0:Int)) = false → in64 (i + (1:Int)) ∧ Flat ks ∧ Flat bs ∧ Flat zs ∧ Flat ws ∧ KR X 53 0 Q (kOf Try.f53 0) (mkS 113 [(2, AV.one (AC.ptr 0 0)), (3, AV.one (AC.ptr 1 0)), (4, AV.one (AC.ptr 2 0)), (5, AV.one (AC.ptr 3 0)), (6, AV.one (AC.u8 p)), (7, AV.one (AC.i64 (i + (1:Int))))]) [some ks, some bs, some zs, some ws])) ∧ (decide ((4:Int) ≤ i) = false → in64 (i + (1:Int)) ∧ Flat ks ∧ Flat bs ∧ Flat zs ∧ Flat ws ∧ KR X 53 0 Q (kOf Try.f53 0) (mkS 113 [(2, AV.one (AC.ptr 0 0)), (3, AV.one (AC.ptr 1 0)), (4, AV.one (AC.ptr 2 0)), (5, AV.one (AC.ptr 3 0)), (6, AV.one (AC.u8 p)), (7, AV.one (AC.i64 (i + (1:Int))))]) [some ks, some bs, some zs, some ws]))) : KRun X 53 0 Q (kOf Try.f53 1) (mkS 113 [(2, .one (.ptr 0 0)), (3, .one (.ptr 1 0)), (4, .one (.ptr 2 0)), (5, .one (.ptr 3 0)), (6, .one (.u8 p)), (7, .one (.i64 i)), (8, .one (.i64 k))]) [some ks, some bs, some zs, some ws] :=
  wpRun_ok (hX ▸ baseK_ok T13 mf13 M13) (hX ▸ baseK_call T13_ok M13_ok) (hX ▸ mixed) (hX ▸ ok53) LK_ok (cast (β := wpRun (baseK T13 mf13 M13) [13, 17, 21, 34, 74, 78, 91, 95] [(10, 10), (12, 21), (13, 17), (15, 8), (24, 14)] false (RS.mk Try.f53.results.toList 0 (CS.mk [] [] [0] [])) (LK X 53 0 Q true [(4, LS.mk [2, 3, 4, 5, 6, 7] (CS.mk [] [true, true, true, true] [] [])), (7, LS.mk [2, 3, 4, 5, 6, 7, 8] (CS.mk [] [true, true, true, true] [] [])), (19, LS.mk [4, 5, 9, 10] (CS.mk [] [true, true, true] [] [])), (22, LS.mk [4, 5, 9, 10, 11] (CS.mk [] [true, true, true] [] []))]) Q 2000 (kOf Try.f53 1) (mkS 113 [(2, .one (.ptr 0 0)), (3, .one (.ptr 1 0)), (4, .one (.ptr 2 0)), (5, .one (.ptr 3 0)), (6, .one (.u8 p)), (7, .one (.i64 i)), (8, .one (.i64 k))]) [some ks, some bs, some zs, some ws]) (by kernel_rfl) h)
set_option maxRecDepth 100000 in
theorem vc53c {X : Ctx} {Q : AV → Mem → Prop} (hX : X.P = Try.prog) (zs ws os : List AC) (i:Int) (h : (decide (i < (44:Int)) = true → Flat zs ∧ Flat ws ∧ Flat os ∧ KR X 53 0 Q (kOf Try.f53 3) (mkS 113 [(4, AV.one (AC.ptr 0 0)), (5, AV.one (AC.ptr 1 0)), (9, AV.one (AC.ptr 2 0)), (10, AV.one (AC.i64 i)), (11, AV.one (AC.i64 (0:Int)))]) [some zs, some ws, some os]) ∧ (decide (i < (44:Int)) = false → 176 ≤ List.length os ∧ (List.length (take 176 (drop 0 os)) = 176 ∧ 176 ≤ List.length zs) ∧ 176 ≤ List.length (layS zs 0 (take 176 (drop 0 os))) ∧ flatAV (AV.agg (take 176 (drop 0 (layS zs 0 (take 176 (drop 0 os)))))) ∧ Q (AV.agg (take 176 (drop 0 (layS zs 0 (take 176 (drop 0 os)))))) [])) : KRun X 53 0 Q (kOf Try.f53 2) (mkS 113 [(4, .one (.ptr 0 0)), (5, .one (.ptr 1 0)), (9, .one (.ptr 2 0)), (10, .one (.i64 i))]) [some zs, some ws, some os] :=
  wpRun_ok (hX ▸ baseK_ok T13 mf13 M13) (hX ▸ baseK_call T13_ok M13_ok) (hX ▸ mixed) (hX ▸ ok53) LK_ok (cast (β := wpRun (baseK T13 mf13 M13) [13, 17, 21, 34, 74, 78, 91, 95] [(10, 10), (12, 21), (13, 17), (15, 8), (24, 14)] false (RS.mk Try.f53.results.toList 0 (CS.mk [] [] [0] [])) (LK X 53 0 Q true [(4, LS.mk [2, 3, 4, 5, 6, 7] (CS.mk [] [true, true, true, true] [] [])), (7, LS.mk [2, 3, 4, 5, 6, 7, 8] (CS.mk [] [true, true, true, true] [] [])), (19, LS.mk [4, 5, 9, 10] (CS.mk [] [true, true, true] [] [])), (22, LS.mk [4, 5, 9, 10, 11] (CS.mk [] [true, true, true] [] []))]) Q 2000 (kOf Try.f53 2) (mkS 113 [(4, .one (.ptr 0 0)), (5, .one (.ptr 1 0)), (9, .one (.ptr 2 0)), (10, .one (.i64 i))]) [some zs, some ws, some os]) (by kernel_rfl) h)
set_option maxRecDepth 100000 in
theorem vc53d {X : Ctx} {Q : AV → Mem → Prop} (hX : X.P = Try.prog) (zs ws os : List AC) (i k:Int) (h : (decide (k < (4:Int)) = true → ((4:Int) ≠ (0:Int) ∧ in64 (Int.tdiv i (4:Int))) ∧ (4:Int) ≠ (0:Int) ∧ in64 (Int.tmod i (4:Int) * (4:Int)) ∧ in64 (Int.tmod i (4:Int) * (4:Int) + k) ∧ ((0:Int) ≤ i ∧ i < (↑44:Int)) ∧ ((0:Int) ≤ k ∧ k < (↑4:Int)) ∧ gt AC.any ws (0 + Int.toNat i * 4 + Int.toNat k * 1) = AC.u8 (asU8 (gt AC.any ws (0 + Int.toNat i * 4 + Int.toNat k * 1))) ∧ ((0:Int) ≤ Int.tdiv i (4:Int) ∧ Int.tdiv i (4:Int) < (↑11:Int)) ∧ ((0:Int) ≤ Int.tmod i (4:Int) * (4:Int) + k ∧ Int.tmod i (4:Int) * (4:Int) + k < (↑16:Int)) ∧ (1 = 1 ∧ 0 + Int.toNat (Int.tdiv i (4:Int)) * 16 + Int.toNat (Int.tmod i (4:Int) * (4:Int) + k) * 1 + 1 ≤ List.length os) ∧ in64 (k + (1:Int)) ∧ Flat zs ∧ Flat ws ∧ Flat (layS os (0 + Int.toNat (Int.tdiv i (4:Int)) * 16 + Int.toNat (Int.tmod i (4:Int) * (4:Int) + k) * 1) [AC.u8 (asU8 (gt AC.any ws (0 + Int.toNat i * 4 + Int.toNat k * 1)))]) ∧ KR X 53 0 Q (kOf Try.f53 3) (mkS 113 [(4, AV.one (AC.ptr 0 0)), (5, AV.one (AC.ptr 1 0)), (9, AV.one (AC.ptr 2 0)), (10, AV.one (AC.i64 i)), (11, AV.one (AC.i64 (k + (1:Int))))]) [some zs, some ws, some (layS os (0 + Int.toNat (Int.tdiv i (4:Int)) * 16 + Int.toNat (Int.tmod i (4:Int) * (4:Int) + k) * 1) [AC.u8 (asU8 (gt AC.any ws (0 + Int.toNat i * 4 + Int.toNat k * 1)))])]) ∧ (decide (k < (4:Int)) = false → in64 (i + (1:Int)) ∧ Flat zs ∧ Flat ws ∧ Flat os ∧ KR X 53 0 Q (kOf Try.f53 2) (mkS 113 [(4, AV.one (AC.ptr 0 0)), (5, AV.one (AC.ptr 1 0)), (9, AV.one (AC.ptr 2 0)), (10, AV.one (AC.i64 (i + (1:Int))))]) [some zs, some ws, some os])) : KRun X 53 0 Q (kOf Try.f53 3) (mkS 113 [(4, .one (.ptr 0 0)), (5, .one (.ptr 1 0)), (9, .one (.ptr 2 0)), (10, .one (.i64 i)), (11, .one (.i64 k))]) [some zs, some ws, some os] :=
  wpRun_ok (hX ▸ baseK_ok T13 mf13 M13) (hX ▸ baseK_call T13_ok M13_ok) (hX ▸ mixed) (hX ▸ ok53) LK_ok (cast (β := wpRun (baseK T13 mf13 M13) [13, 17, 21, 34, 74, 78, 91, 95] [(10, 10), (12, 21), (13, 17), (15, 8), (24, 14)] false (RS.mk Try.f53.results.toList 0 (CS.mk [] [] [0] [])) (LK X 53 0 Q true [(4, LS.mk [2, 3, 4, 5, 6, 7] (CS.mk [] [true, true, true, true] [] [])), (7, LS.mk [2, 3, 4, 5, 6, 7, 8] (CS.mk [] [true, true, true, true] [] [])), (19, LS.mk [4, 5, 9, 10] (CS.mk [] [true, true, true] [] [])), (22, LS.mk [4, 5, 9, 10, 11] (CS.mk [] [true, true, true] [] []))]) Q 2000 (kOf Try.f53 3) (mkS 113 [(4, .one (.ptr 0 0)), (5, .one (.ptr 1 0)), (9, .one (.ptr 2 0)), (10, .one (.i64 i)), (11, .one (.i64 k))]) [some zs, some ws, some os]) (by kernel_rfl) h)
theorem o53 (i k:Nat) : 0 + Int.toNat (i:Int) * 4 + Int.toNat (k:Int) * 1 = 4 * i + k := by omega
theorem SE_at (key : List (BitVec 8)) {m j : Nat} (h : j < m) (hm : m ≤ 176) : gt AC.any ((SE key m).map AC.u8) j = .u8 (eat key j) := by
  rw [gt_u8_at _ _ (by rw [SE_len]; omega), SE_get key h hm]
theorem l53A {X : Ctx} (hX : X.P = Try.prog) (key : List (BitVec 8)) (hk : key.length = 16) (i:Nat) (hi : i < 4) (K : KRun X 53 0 (Is (.agg ((exL key 176).map AC.u8))) (kOf Try.f53 0) (mkS 113 [(2, .one (.ptr 0 0)), (3, .one (.ptr 1 0)), (4, .one (.ptr 2 0)), (5, .one (.ptr 3 0)), (6, .one (.u8 (pwF (i / 4)))), (7, .one (.i64 (i + 1:Nat)))]) [some (key.map AC.u8), some (boxT.map AC.u8), some (replicate 176 (AC.u8 0)), some ((SE key (4 * i + 4)).map AC.u8)]) : ∀ (d k:Nat), k + d = 4 →
    KRun X 53 0 (Is (.agg ((exL key 176).map AC.u8))) (kOf Try.f53 1) (mkS 113 [(2, .one (.ptr 0 0)), (3, .one (.ptr 1 0)), (4, .one (.ptr 2 0)), (5, .one (.ptr 3 0)), (6, .one (.u8 (pwF ((i - 1) / 4)))), (7, .one (.i64 i)), (8, .one (.i64 k))]) [some (key.map AC.u8), some (boxT.map AC.u8), some (replicate 176 (AC.u8 0)), some ((SE key (4 * i + k)).map AC.u8)] := by
  have z : Flat (replicate 176 (AC.u8 0)) := by rw [mrep]; exact flat_u8 _
  intro d
  induction d with
  | zero =>
    intro k hkd
    have hkd : k = 4 := by omega
    subst hkd
    rw [show i / 4 = (i - 1) / 4 by omega] at K
    refine vc53b hX _ _ _ _ _ _ _ ⟨fun h => absurd (of_decide_eq_true h) (by omega), fun _ => ⟨fun h => absurd (of_decide_eq_true h) (by omega), fun _ => ?_⟩⟩
    (repeat' (first | exact trivial | exact flat_u8 _ | exact flatA _ | exact allU8_map _ | exact Nat.le_refl _ | refine And.intro ?_ ?_)) <;> (first | omega | exact z | (unfold in64; omega) | exact List.length_map _ | (show Is _ _ _; exact rfl) | skip)
    exact ⟨K⟩
  | succ d ih =>
    intro k hkd
    have ih := ih (k + 1) (by omega)
    have e1 : (4:Int) * (i:Int) + (k:Int) = ((4 * i + k:Nat):Int) := by omega
    have hg := gt_u8_at key (4 * i + k) (by omega)
    rw [← eat_lo key (by omega)] at hg
    have hs := SE_set key (m := 4 * i + k) (by omega)
    have hl := SE_len key (4 * i + k)
    refine vc53b hX _ _ _ _ _ _ _ ⟨fun _ => ⟨fun _ => ?_, fun h => absurd (of_decide_eq_false h) (by omega)⟩, fun h => absurd (of_decide_eq_false h) (by omega)⟩
    rw [e1]
    simp only [ixn, o53, hg, asU8, lay1, hs, List.length_map, hl]
    (repeat' (first | exact trivial | exact flat_u8 _ | exact flatA _ | exact allU8_map _ | exact Nat.le_refl _ | refine And.intro ?_ ?_)) <;> (first | omega | exact z | (unfold in64; omega) | exact List.length_map _ | (show Is _ _ _; exact rfl) | skip)
    exact ⟨ih⟩
theorem l53C {X : Ctx} (hX : X.P = Try.prog) (key : List (BitVec 8)) (n r i:Nat) (hi : i = 4 * (n + 1) + r) (hr : 1 ≤ r ∧ r < 4) (h44 : i < 44) (K : KRun X 53 0 (Is (.agg ((exL key 176).map AC.u8))) (kOf Try.f53 0) (mkS 113 [(2, .one (.ptr 0 0)), (3, .one (.ptr 1 0)), (4, .one (.ptr 2 0)), (5, .one (.ptr 3 0)), (6, .one (.u8 (pwF (i / 4)))), (7, .one (.i64 (i + 1:Nat)))]) [some (key.map AC.u8), some (boxT.map AC.u8), some (replicate 176 (AC.u8 0)), some ((SE key (4 * i + 4)).map AC.u8)]) : ∀ (d k:Nat), k + d = 4 →
    KRun X 53 0 (Is (.agg ((exL key 176).map AC.u8))) (kOf Try.f53 1) (mkS 113 [(2, .one (.ptr 0 0)), (3, .one (.ptr 1 0)), (4, .one (.ptr 2 0)), (5, .one (.ptr 3 0)), (6, .one (.u8 (pwF ((i - 1) / 4)))), (7, .one (.i64 i)), (8, .one (.i64 k))]) [some (key.map AC.u8), some (boxT.map AC.u8), some (replicate 176 (AC.u8 0)), some ((SE key (4 * i + k)).map AC.u8)] := by
  have z : Flat (replicate 176 (AC.u8 0)) := by rw [mrep]; exact flat_u8 _
  have tm : Int.tmod (i:Int) 4 = ((i % 4:Nat):Int) := tmod_nat i 4
  intro d
  induction d with
  | zero =>
    intro k hkd
    have hkd : k = 4 := by omega
    subst hkd
    rw [show i / 4 = (i - 1) / 4 by omega] at K
    refine vc53b hX _ _ _ _ _ _ _ ⟨fun h => absurd (of_decide_eq_true h) (by omega), fun _ => ⟨fun _ => ⟨by decide, fun h => absurd (of_decide_eq_true h) (by rw [tm]; omega), fun _ => ?_⟩, fun h => absurd (of_decide_eq_false h) (by omega)⟩⟩
    (repeat' (first | exact trivial | exact flat_u8 _ | exact flatA _ | exact allU8_map _ | exact Nat.le_refl _ | refine And.intro ?_ ?_)) <;> (first | omega | exact z | (unfold in64; omega) | exact List.length_map _ | (show Is _ _ _; exact rfl) | skip)
    exact ⟨K⟩
  | succ d ih =>
    intro k hkd
    have ih := ih (k + 1) (by omega)
    have e4 : (i:Int) - 4 = ((i - 4:Nat):Int) := by omega
    have e1 : (i:Int) - 1 = ((i - 1:Nat):Int) := by omega
    have hg := SE_at key (m := 4 * i + k) (j := 4 * (i - 4) + k) (by omega) (by omega)
    have hg2 := SE_at key (m := 4 * i + k) (j := 4 * (i - 1) + k) (by omega) (by omega)
    have ev := eat_hi key (n := n + 1) (k := 4 * r + k) (by omega) (by omega) (by omega)
    rw [show 16 * (n + 1) + (4 * r + k) = 4 * i + k by omega, show 16 * (n + 1 - 1) + (4 * r + k) = 4 * (i - 4) + k by omega, show 16 * (n + 1) + (4 * r + k - 4) = 4 * (i - 1) + k by omega] at ev
    have hs := SE_set key (m := 4 * i + k) (by omega)
    have hl := SE_len key (4 * i + k)
    refine vc53b hX _ _ _ _ _ _ _ ⟨fun _ => ⟨fun h => absurd (of_decide_eq_true h) (by omega), fun _ => ⟨by decide, fun h => absurd (of_decide_eq_true h) (by rw [tm]; omega), fun _ => ?_⟩⟩, fun h => absurd (of_decide_eq_false h) (by omega)⟩
    rw [e4, e1]
    simp only [o53, hg, hg2, asU8]
    rw [← ev]
    simp only [lay1, hs, List.length_map, hl]
    (repeat' (first | exact trivial | exact flat_u8 _ | exact flatA _ | exact allU8_map _ | exact Nat.le_refl _ | refine And.intro ?_ ?_)) <;> (first | omega | exact z | (unfold in64; omega) | exact List.length_map _ | (show Is _ _ _; exact rfl) | skip)
    exact ⟨ih⟩
theorem SX_gt (key : List (BitVec 8)) {a m j : Nat} (x:BitVec 8) (h : j < a) (ha : a < m) (hm : m ≤ 176) : gt AC.any ((SX key a x m).map AC.u8) j = .u8 (eat key j) := by
  rw [gt_u8_at _ _ (by rw [SX_len]; omega)]
  unfold SX
  rw [getT_new _ _ _ (by rw [List.length_set, exL_len]; exact hm) (by omega), getD_set_ne _ _ _ _ _ (by omega), E_get key (by omega)]
theorem SX_gta (key : List (BitVec 8)) {a m : Nat} (x:BitVec 8) (ha : a < m) (hm : m ≤ 176) : gt AC.any ((SX key a x m).map AC.u8) a = .u8 x := by
  rw [gt_u8_at _ _ (by rw [SX_len]; omega), SX_at key x ha hm]
theorem l53B {X : Ctx} (hX : X.P = Try.prog) (key : List (BitVec 8)) (n i:Nat) (hi : i = 4 * (n + 1)) (h44 : i < 44) (K : KRun X 53 0 (Is (.agg ((exL key 176).map AC.u8))) (kOf Try.f53 0) (mkS 113 [(2, .one (.ptr 0 0)), (3, .one (.ptr 1 0)), (4, .one (.ptr 2 0)), (5, .one (.ptr 3 0)), (6, .one (.u8 (pwF (i / 4)))), (7, .one (.i64 (i + 1:Nat)))]) [some (key.map AC.u8), some (boxT.map AC.u8), some (replicate 176 (AC.u8 0)), some ((SE key (4 * i + 4)).map AC.u8)]) : ∀ (d k:Nat), k + 1 + d = 4 →
    KRun X 53 0 (Is (.agg ((exL key 176).map AC.u8))) (kOf Try.f53 1) (mkS 113 [(2, .one (.ptr 0 0)), (3, .one (.ptr 1 0)), (4, .one (.ptr 2 0)), (5, .one (.ptr 3 0)), (6, .one (.u8 (pwF ((i - 1) / 4)))), (7, .one (.i64 i)), (8, .one (.i64 (k + 1:Nat)))]) [some (key.map AC.u8), some (boxT.map AC.u8), some (replicate 176 (AC.u8 0)), some ((SX key (4 * i) (eat key (4 * i) ^^^ pwF ((i - 1) / 4)) (4 * i + (k + 1))).map AC.u8)] := by
  have z : Flat (replicate 176 (AC.u8 0)) := by rw [mrep]; exact flat_u8 _
  have tm : Int.tmod (i:Int) 4 = ((i % 4:Nat):Int) := tmod_nat i 4
  have hp : (i - 1) / 4 = n := by omega
  intro d
  induction d with
  | zero =>
    intro k hkd
    have hkd : k = 3 := by omega
    subst hkd
    have hg := SX_gta key (a := 4 * i) (m := 4 * i + (3 + 1)) (eat key (4 * i) ^^^ pwF ((i - 1) / 4)) (by omega) (by omega)
    have hb := SX_back key (a := 4 * i) (m := 4 * i + (3 + 1)) (eat key (4 * i) ^^^ pwF ((i - 1) / 4)) (by omega) (by omega)
    have hl := SX_len key (4 * i) (eat key (4 * i) ^^^ pwF ((i - 1) / 4)) (4 * i + (3 + 1))
    have ex : eat key (4 * i) ^^^ pwF ((i - 1) / 4) ^^^ pwF ((i - 1) / 4) = eat key (4 * i) := by rw [BitVec.xor_assoc, BitVec.xor_self, BitVec.xor_zero]
    have ep : tmF (pwF ((i - 1) / 4)) (BitVec.ofInt 8 2) = pwF (i / 4) := by
      rw [show i / 4 = (i - 1) / 4 + 1 by omega]
      exact (tm_all _).1
    have o4 : 0 + Int.toNat (i:Int) * 4 + 0 = 4 * i := by omega
    refine vc53b hX _ _ _ _ _ _ _ ⟨fun h => absurd (of_decide_eq_true h) (by omega), fun _ => ⟨fun _ => ⟨by decide, fun _ => ?_, fun h => absurd (of_decide_eq_false h) (by rw [tm]; omega)⟩, fun h => absurd (of_decide_eq_false h) (by omega)⟩⟩
    rw [ep]
    simp only [o4, hg, asU8, ex, lay1, hb, List.length_map, hl]
    (repeat' (first | exact trivial | exact flat_u8 _ | exact flatA _ | exact allU8_map _ | exact Nat.le_refl _ | refine And.intro ?_ ?_)) <;> (first | omega | exact z | (unfold in64; omega) | exact List.length_map _ | (show Is _ _ _; exact rfl) | skip)
    exact ⟨K⟩
  | succ d ih =>
    intro k hkd
    have ih := ih (k + 1) (by omega)
    have e4 : (i:Int) - 4 = ((i - 4:Nat):Int) := by omega
    have e1 : (i:Int) - 1 = ((i - 1:Nat):Int) := by omega
    have et : Int.tmod (((k + 1:Nat):Int) + 1) 4 = (((k + 1 + 1) % 4:Nat):Int) := by rw [show ((k + 1:Nat):Int) + 1 = ((k + 1 + 1:Nat):Int) by omega]; exact tmod_nat _ 4
    have hg := SX_gt key (a := 4 * i) (m := 4 * i + (k + 1)) (j := 4 * (i - 4) + (k + 1)) (eat key (4 * i) ^^^ pwF ((i - 1) / 4)) (by omega) (by omega) (by omega)
    have hg2 := SX_gt key (a := 4 * i) (m := 4 * i + (k + 1)) (j := 4 * (i - 1) + (k + 1 + 1) % 4) (eat key (4 * i) ^^^ pwF ((i - 1) / 4)) (by omega) (by omega) (by omega)
    have ev := eat_box key (n := n + 1) (k := k + 1) (by omega) (by omega)
    rw [if_neg (by omega), BitVec.xor_zero, show 16 * (n + 1) + (k + 1) = 4 * i + (k + 1) by omega, show 16 * (n + 1 - 1) + (k + 1) = 4 * (i - 4) + (k + 1) by omega, show 16 * (n + 1 - 1) + (12 + (k + 1 + 1) % 4) = 4 * (i - 1) + (k + 1 + 1) % 4 by omega] at ev
    have hs := SX_set key (a := 4 * i) (m := 4 * i + (k + 1)) (eat key (4 * i) ^^^ pwF ((i - 1) / 4)) (by omega) (by omega)
    have hl := SX_len key (4 * i) (eat key (4 * i) ^^^ pwF ((i - 1) / 4)) (4 * i + (k + 1))
    refine vc53b hX _ _ _ _ _ _ _ ⟨fun _ => ⟨fun h => absurd (of_decide_eq_true h) (by omega), fun _ => ⟨by decide, fun _ => ?_, fun h => absurd (of_decide_eq_false h) (by rw [tm]; omega)⟩⟩, fun h => absurd (of_decide_eq_false h) (by omega)⟩
    rw [e4, e1, et]
    simp only [o53, hg, hg2, asU8, gt_box, ixn, gt_box']
    rw [← ev]
    simp only [lay1, hs, List.length_map, hl]
    (repeat' (first | exact trivial | exact flat_u8 _ | exact flatA _ | exact allU8_map _ | exact Nat.le_refl _ | refine And.intro ?_ ?_)) <;> (first | omega | exact z | (unfold in64; omega) | exact List.length_map _ | (show Is _ _ _; exact rfl) | skip)
    exact ⟨ih⟩
theorem l53B0 {X : Ctx} (hX : X.P = Try.prog) (key : List (BitVec 8)) (n i:Nat) (hi : i = 4 * (n + 1)) (h44 : i < 44) (K : KRun X 53 0 (Is (.agg ((exL key 176).map AC.u8))) (kOf Try.f53 0) (mkS 113 [(2, .one (.ptr 0 0)), (3, .one (.ptr 1 0)), (4, .one (.ptr 2 0)), (5, .one (.ptr 3 0)), (6, .one (.u8 (pwF (i / 4)))), (7, .one (.i64 (i + 1:Nat)))]) [some (key.map AC.u8), some (boxT.map AC.u8), some (replicate 176 (AC.u8 0)), some ((SE key (4 * i + 4)).map AC.u8)]) :
    KRun X 53 0 (Is (.agg ((exL key 176).map AC.u8))) (kOf Try.f53 1) (mkS 113 [(2, .one (.ptr 0 0)), (3, .one (.ptr 1 0)), (4, .one (.ptr 2 0)), (5, .one (.ptr 3 0)), (6, .one (.u8 (pwF ((i - 1) / 4)))), (7, .one (.i64 i)), (8, .one (.i64 0))]) [some (key.map AC.u8), some (boxT.map AC.u8), some (replicate 176 (AC.u8 0)), some ((SE key (4 * i)).map AC.u8)] := by
  have z : Flat (replicate 176 (AC.u8 0)) := by rw [mrep]; exact flat_u8 _
  have tm : Int.tmod (i:Int) 4 = ((i % 4:Nat):Int) := tmod_nat i 4
  have hp : (i - 1) / 4 = n := by omega
  have K := l53B hX key n i hi h44 K 3 0 rfl
  have e4 : (i:Int) - 4 = ((i - 4:Nat):Int) := by omega
  have e1 : (i:Int) - 1 = ((i - 1:Nat):Int) := by omega
  have et : Int.tmod ((0:Int) + 1) 4 = ((1:Nat):Int) := by decide
  have o0 : ∀ j : Nat, 0 + Int.toNat (j:Int) * 4 + Int.toNat 0 * 1 = 4 * j := fun j => by omega
  have hg := SE_at key (m := 4 * i) (j := 4 * (i - 4)) (by omega) (by omega)
  have hg2 := SE_at key (m := 4 * i) (j := 4 * (i - 1) + 1) (by omega) (by omega)
  have ev := eat_box key (n := n + 1) (k := 0) (by omega) (by omega)
  rw [if_pos rfl, show 16 * (n + 1) + 0 = 4 * i by omega, show 16 * (n + 1 - 1) + 0 = 4 * (i - 4) by omega, show 16 * (n + 1 - 1) + (12 + (0 + 1) % 4) = 4 * (i - 1) + 1 by omega, show n + 1 - 1 = (i - 1) / 4 by omega] at ev
  have ev2 : eat key (4 * (i - 4)) ^^^ bx (eat key (4 * (i - 1) + 1)) = eat key (4 * i) ^^^ pwF ((i - 1) / 4) := by
    rw [ev, BitVec.xor_assoc _ (pwF ((i - 1) / 4)), BitVec.xor_self, BitVec.xor_zero]
  have hs := SX_set0 key (a := 4 * i) (eat key (4 * i) ^^^ pwF ((i - 1) / 4)) (by omega)
  have hl := SE_len key (4 * i)
  refine vc53b hX _ _ _ _ _ _ _ ⟨fun _ => ⟨fun h => absurd (of_decide_eq_true h) (by omega), fun _ => ⟨by decide, fun _ => ?_, fun h => absurd (of_decide_eq_false h) (by rw [tm]; omega)⟩⟩, fun h => absurd (of_decide_eq_false h) (by omega)⟩
  rw [e4, e1, et]
  simp only [o0, o53, hg, hg2, asU8, gt_box, ixn, gt_box', ev2]
  simp only [lay1, hs, List.length_map, hl]
  (repeat' (first | exact trivial | exact flat_u8 _ | exact flatA _ | exact allU8_map _ | exact Nat.le_refl _ | refine And.intro ?_ ?_)) <;> (first | omega | exact z | (unfold in64; omega) | exact List.length_map _ | (show Is _ _ _; exact rfl) | skip)
  exact ⟨K⟩
theorem l53cd {X : Ctx} (hX : X.P = Try.prog) (key : List (BitVec 8)) : ∀ (d i:Nat), i + d = 44 →
    KRun X 53 0 (Is (.agg ((exL key 176).map AC.u8))) (kOf Try.f53 2) (mkS 113 [(4, .one (.ptr 0 0)), (5, .one (.ptr 1 0)), (9, .one (.ptr 2 0)), (10, .one (.i64 i))]) [some (replicate 176 (AC.u8 0)), some ((exL key 176).map AC.u8), some ((SE key (4 * i)).map AC.u8)] := by
  have z : Flat (replicate 176 (AC.u8 0)) := by rw [mrep]; exact flat_u8 _
  have inner : ∀ (i:Nat), i < 44 → KRun X 53 0 (Is (.agg ((exL key 176).map AC.u8))) (kOf Try.f53 2) (mkS 113 [(4, .one (.ptr 0 0)), (5, .one (.ptr 1 0)), (9, .one (.ptr 2 0)), (10, .one (.i64 (i + 1:Nat)))]) [some (replicate 176 (AC.u8 0)), some ((exL key 176).map AC.u8), some ((SE key (4 * i + 4)).map AC.u8)] →
      ∀ (d k:Nat), k + d = 4 → KRun X 53 0 (Is (.agg ((exL key 176).map AC.u8))) (kOf Try.f53 3) (mkS 113 [(4, .one (.ptr 0 0)), (5, .one (.ptr 1 0)), (9, .one (.ptr 2 0)), (10, .one (.i64 i)), (11, .one (.i64 k))]) [some (replicate 176 (AC.u8 0)), some ((exL key 176).map AC.u8), some ((SE key (4 * i + k)).map AC.u8)] := by
    intro i hi K d
    induction d with
    | zero =>
      intro k hkd
      have hkd : k = 4 := by omega
      subst hkd
      refine vc53d hX _ _ _ _ _ ⟨fun h => absurd (of_decide_eq_true h) (by omega), fun _ => ?_⟩
      (repeat' (first | exact trivial | exact flat_u8 _ | exact flatA _ | exact allU8_map _ | exact Nat.le_refl _ | refine And.intro ?_ ?_)) <;> (first | omega | exact z | (unfold in64; omega) | exact List.length_map _ | (show Is _ _ _; exact rfl) | skip)
      exact ⟨K⟩
    | succ d ih =>
      intro k hkd
      have ih := ih (k + 1) (by omega)
      have td : Int.tdiv (i:Int) 4 = ((i / 4:Nat):Int) := tdiv_nat i 4
      have tm : Int.tmod (i:Int) 4 * 4 + (k:Int) = ((i % 4 * 4 + k:Nat):Int) := by rw [show Int.tmod (i:Int) 4 = ((i % 4:Nat):Int) from tmod_nat i 4]; omega
      have tm2 : Int.tmod (i:Int) 4 * 4 = ((i % 4 * 4:Nat):Int) := by rw [show Int.tmod (i:Int) 4 = ((i % 4:Nat):Int) from tmod_nat i 4]; omega
      have o16 : 0 + Int.toNat ((i / 4:Nat):Int) * 16 + Int.toNat ((i % 4 * 4 + k:Nat):Int) * 1 = 4 * i + k := by omega
      have hE := exL_len key 176
      have hg := gt_u8_at (exL key 176) (4 * i + k) (by omega)
      rw [E_get key (by omega)] at hg
      have hs := SE_set key (m := 4 * i + k) (by omega)
      have hl := SE_len key (4 * i + k)
      clear hE
      refine vc53d hX _ _ _ _ _ ⟨fun _ => ?_, fun h => absurd (of_decide_eq_false h) (by omega)⟩
      rw [tm, tm2, td]
      simp only [o16, o53, hg, asU8, lay1, hs, List.length_map, hl]
      refine ⟨⟨by decide, by unfold in64; omega⟩, by decide, by unfold in64; omega, by unfold in64; omega, ?_⟩
      (repeat' (first | exact trivial | exact flat_u8 _ | exact flatA _ | exact allU8_map _ | exact Nat.le_refl _ | refine And.intro ?_ ?_)) <;> (first | omega | exact z | (unfold in64; omega) | exact List.length_map _ | (show Is _ _ _; exact rfl) | skip)
      exact ⟨ih⟩
  intro d
  induction d with
  | zero =>
    intro i hi
    have hi : i = 44 := by omega
    subst hi
    have e : SE key (4 * 44) = exL key 176 := SE_end key
    have hl := exL_len key 176
    refine vc53c hX _ _ _ _ ⟨fun h => absurd (of_decide_eq_true h) (by omega), fun _ => ?_⟩
    rw [e]
    simp only [hide_eq, tkm, tk0, map_as8, layR, layC, layM, lay1, tkn, List.drop_zero, Nat.zero_add, Nat.mul_one, Nat.reduceAdd, Nat.le_refl, Nat.min_self, Nat.reduceLeDiff, same_self, Int.toNat_natCast, List.length_map, List.length_append, List.length_replicate, List.length_take, List.length_drop, tab16_len, hl]
    (repeat' (first | exact trivial | exact flat_u8 _ | exact flatA _ | exact allU8_map _ | exact Nat.le_refl _ | refine And.intro ?_ ?_)) <;> (first | omega | exact z | (unfold in64; omega) | exact List.length_map _ | (show Is _ _ _; exact rfl) | skip)
  | succ d ih =>
    intro i hi
    have K := inner i (by omega) (ih (i + 1) (by omega)) 4 0 rfl
    refine vc53c hX _ _ _ _ ⟨fun _ => ?_, fun h => absurd (of_decide_eq_false h) (by omega)⟩
    (repeat' (first | exact trivial | exact flat_u8 _ | exact flatA _ | exact allU8_map _ | exact Nat.le_refl _ | refine And.intro ?_ ?_)) <;> (first | omega | exact z | (unfold in64; omega) | exact List.length_map _ | (show Is _ _ _; exact rfl) | skip)
    exact ⟨K⟩
theorem SE_0 (key : List (BitVec 8)) : (SE key (4 * 0)).map AC.u8 = replicate 176 (AC.u8 0) := by
  unfold SE
  rw [Nat.mul_zero, List.take_zero, List.drop_zero, List.nil_append, List.map_replicate]
theorem l53a {X : Ctx} (hX : X.P = Try.prog) (key : List (BitVec 8)) (hk : key.length = 16) : ∀ (d i:Nat), i + d = 44 →
    KRun X 53 0 (Is (.agg ((exL key 176).map AC.u8))) (kOf Try.f53 0) (mkS 113 [(2, .one (.ptr 0 0)), (3, .one (.ptr 1 0)), (4, .one (.ptr 2 0)), (5, .one (.ptr 3 0)), (6, .one (.u8 (pwF ((i - 1) / 4)))), (7, .one (.i64 i))]) [some (key.map AC.u8), some (boxT.map AC.u8), some (replicate 176 (AC.u8 0)), some ((SE key (4 * i)).map AC.u8)] := by
  have z : Flat (replicate 176 (AC.u8 0)) := by rw [mrep]; exact flat_u8 _
  intro d
  induction d with
  | zero =>
    intro i hi
    have hi : i = 44 := by omega
    subst hi
    have e : SE key (4 * 44) = exL key 176 := SE_end key
    have K := l53cd hX key 44 0 rfl
    rw [SE_0] at K
    refine vc53a hX _ _ _ _ _ _ ⟨fun h => absurd (of_decide_eq_true h) (by omega), fun _ => ?_⟩
    rw [e]
    (repeat' (first | exact trivial | exact flat_u8 _ | exact flatA _ | exact allU8_map _ | exact Nat.le_refl _ | refine And.intro ?_ ?_)) <;> (first | omega | exact z | (unfold in64; omega) | exact List.length_map _ | (show Is _ _ _; exact rfl) | skip)
    exact ⟨K⟩
  | succ d ih =>
    intro i hi
    have ih := ih (i + 1) (by omega)
    rw [Nat.add_sub_cancel] at ih
    have K : KRun X 53 0 (Is (.agg ((exL key 176).map AC.u8))) (kOf Try.f53 1) (mkS 113 [(2, .one (.ptr 0 0)), (3, .one (.ptr 1 0)), (4, .one (.ptr 2 0)), (5, .one (.ptr 3 0)), (6, .one (.u8 (pwF ((i - 1) / 4)))), (7, .one (.i64 i)), (8, .one (.i64 (0:Nat)))]) [some (key.map AC.u8), some (boxT.map AC.u8), some (replicate 176 (AC.u8 0)), some ((SE key (4 * i + 0)).map AC.u8)] := by
      by_cases h4 : i < 4
      · exact l53A hX key hk i h4 ih 4 0 rfl
      · by_cases h0 : i % 4 = 0
        · exact l53B0 hX key (i / 4 - 1) i (by omega) (by omega) ih
        · exact l53C hX key (i / 4 - 1) (i % 4) i (by omega) (by omega) (by omega) ih 4 0 rfl
    refine vc53a hX _ _ _ _ _ _ ⟨fun _ => ?_, fun h => absurd (of_decide_eq_false h) (by omega)⟩
    (repeat' (first | exact trivial | exact flat_u8 _ | exact flatA _ | exact allU8_map _ | exact Nat.le_refl _ | refine And.intro ?_ ?_)) <;> (first | omega | exact z | (unfold in64; omega) | exact List.length_map _ | (show Is _ _ _; exact rfl) | skip)
    exact ⟨K⟩
theorem s53 (key : List (BitVec 8)) (hk : key.length = 16) : Spec Try.prog 53 [.agg (key.map AC.u8), .agg (boxT.map AC.u8)] [] (Is (.agg ((exL key 176).map AC.u8))) := by
  refine Spec.of_run ok53 fun X hX => vc53e hX _ _ ?_
  have K := l53a hX key hk 44 0 rfl
  rw [SE_0] at K
  have z : Flat (replicate 176 (AC.u8 0)) := by rw [mrep]; exact flat_u8 _
  exact ⟨flat_u8 _, flat_u8 _, z, z, ⟨K⟩⟩
end DH
noncomputable section
namespace DH
open List (take drop replicate)
open Go Go.Proofs
def keyOf (cs : List AC) : List (BitVec 8) := (List.map asU8 cs).take 16
theorem keyOf_ex (key : List (BitVec 8)) (hk : key.length = 16) : keyOf ((exL key 176).map AC.u8) = key := by
  unfold keyOf
  rw [map_as8]
  apply List.ext_getElem (by rw [List.length_take, exL_len, hk]; omega)
  intro j h1 h2
  have := eat_lo key (j := j) (by omega)
  rw [← E_get key (by omega), List.getD_eq_getElem?_getD, List.getD_eq_getElem?_getD, List.getElem?_eq_getElem h2, List.getElem?_eq_getElem (by rw [exL_len]; omega)] at this
  rw [List.getElem_take]
  exact this
noncomputable def T14 : Tab := fun f xs => match f, xs with
  | 53, [.agg cs, .agg bs] => some ([allU8 cs ∧ cs.length = 16 ∧ bs = boxT.map AC.u8], .agg (hide ((exL (cs.map asU8) 176).map AC.u8)))
  | 45, [.agg (.b true :: cs), .agg bs] => some ([cs = (exL (keyOf cs) 176).map AC.u8 ∧ (keyOf cs).length = 16 ∧ allU8 bs ∧ bs.length = 16], .agg (hide ((encF (keyOf cs) (bs.map asU8)).map AC.u8)))
  | 45, [.agg (.b false :: cs), .agg bs] => some ([allU8 cs ∧ cs.length = 176 ∧ allU8 bs ∧ bs.length = 16], .agg (hide ((encF zkey (bs.map asU8)).map AC.u8)))
  | f, xs => T13 f xs
theorem T14_ok : TabOk Try.prog T14 := by
  intro f xs cs r h hc
  unfold T14 at h
  split at h
  · obtain ⟨rfl, rfl⟩ := Prod.mk.inj (Option.some.inj h)
    obtain ⟨h1, h2, rfl⟩ := hc.1
    rename_i cs
    have := s53 (cs.map asU8) (by rw [List.length_map]; exact h2)
    rw [← h1] at this
    rw [hide_eq]
    exact ⟨⟨_, _, ok53⟩, this, exactL_map _ (fun _ => rfl) _⟩
  · obtain ⟨rfl, rfl⟩ := Prod.mk.inj (Option.some.inj h)
    obtain ⟨h1, h2, h3, h4⟩ := hc.1
    rename_i cs bs
    have := s45t (keyOf cs) (bs.map asU8) (by rw [List.length_map]; exact h4)
    unfold kc at this
    rw [← h1, ← h3] at this
    rw [hide_eq]
    exact ⟨⟨_, _, ok45⟩, this, exactL_map _ (fun _ => rfl) _⟩
  · obtain ⟨rfl, rfl⟩ := Prod.mk.inj (Option.some.inj h)
    obtain ⟨h1, h2, h3, h4⟩ := hc.1
    rename_i cs bs
    have := s45f (cs.map asU8) (by rw [List.length_map]; exact h2) (bs.map asU8) (by rw [List.length_map]; exact h4)
    unfold kc at this
    rw [← h1, ← h3] at this
    rw [hide_eq]
    exact ⟨⟨_, _, ok45⟩, this, exactL_map _ (fun _ => rfl) _⟩
  · exact T13_ok _ _ _ _ h hc
set_option maxRecDepth 100000 in
theorem vc46 {X : Ctx} {Q : AV → Mem → Prop} (hX : X.P = Try.prog) (ks bs : List AC) (h : (List.length (hide (List.map AC.u8 boxT)) = 256 ∧ 256 ≤ 256) ∧ 16 ≤ List.length ks ∧ 256 ≤ List.length (layS (replicate 256 (AC.u8 (0:BitVec 8))) 0 (hide (List.map AC.u8 boxT))) ∧ Flat (take 16 (drop 0 ks)) ∧ Flat (take 256 (drop 0 (layS (replicate 256 (AC.u8 (0:BitVec 8))) 0 (hide (List.map AC.u8 boxT))))) ∧ (allU8 (take 16 (drop 0 ks)) ∧ List.length (take 16 (drop 0 ks)) = 16 ∧ take 256 (drop 0 (layS (replicate 256 (AC.u8 (0:BitVec 8))) 0 (hide (List.map AC.u8 boxT)))) = List.map AC.u8 boxT) ∧ (List.length (hide (List.map AC.u8 (exL (List.map asU8 (take 16 (drop 0 ks))) 176))) = 176 ∧ 176 ≤ 176) ∧ 16 ≤ List.length bs ∧ ((0:Int) ≤ (0:Int) ∧ (0:Int) < (↑11:Int)) ∧ 16 ≤ List.length (layS (replicate 176 (AC.u8 (0:BitVec 8))) 0 (hide (List.map AC.u8 (exL (List.map asU8 (take 16 (drop 0 ks))) 176)))) ∧ Flat (take 16 (drop 0 bs)) ∧ Flat (take 16 (drop 0 (layS (replicate 176 (AC.u8 (0:BitVec 8))) 0 (hide (List.map AC.u8 (exL (List.map asU8 (take 16 (drop 0 ks))) 176)))))) ∧ (allU8 (take 16 (drop 0 bs)) ∧ List.length (take 16 (drop 0 bs)) = 16 ∧ allU8 (take 16 (drop 0 (layS (replicate 176 (AC.u8 (0:BitVec 8))) 0 (hide (List.map AC.u8 (exL (List.map asU8 (take 16 (drop 0 ks))) 176)))))) ∧ List.length (take 16 (drop 0 (layS (replicate 176 (AC.u8 (0:BitVec 8))) 0 (hide (List.map AC.u8 (exL (List.map asU8 (take 16 (drop 0 ks))) 176)))))) = 16) ∧ (List.length (hide (List.map AC.u8 (xorL (List.map asU8 (take 16 (drop 0 bs))) (List.map asU8 (take 16 (drop 0 (layS (replicate 176 (AC.u8 (0:BitVec 8))) 0 (hide (List.map AC.u8 (exL (List.map asU8 (take 16 (drop 0 ks))) 176)))))))))) = 16 ∧ 16 ≤ List.length bs) ∧ Flat (layS bs 0 (hide (List.map AC.u8 (xorL (List.map asU8 (take 16 (drop 0 bs))) (List.map asU8 (take 16 (drop 0 (layS (replicate 176 (AC.u8 (0:BitVec 8))) 0 (hide (List.map AC.u8 (exL (List.map asU8 (take 16 (drop 0 ks))) 176))))))))))) ∧ Flat (replicate 16 (AC.u8 (0:BitVec 8))) ∧ Flat (layS (replicate 256 (AC.u8 (0:BitVec 8))) 0 (hide (List.map AC.u8 boxT))) ∧ Flat (layS (replicate 176 (AC.u8 (0:BitVec 8))) 0 (hide (List.map AC.u8 (exL (List.map asU8 (take 16 (drop 0 ks))) 176)))) ∧ KR X 46 0 Q (kOf Try.f46 0) (mkS 109 [(3, AV.one (AC.ptr 0 0)), (4, AV.one (AC.ptr 1 0)), (5, AV.one (AC.ptr 2 0)), (6, AV.one (AC.ptr 3 0)), (7, AV.one (AC.i64 (1:Int)))]) [some (layS bs 0 (hide (List.map AC.u8 (xorL (List.map asU8 (take 16 (drop 0 bs))) (List.map asU8 (take 16 (drop 0 (layS (replicate 176 (AC.u8 (0:BitVec 8))) 0 (hide (List.map AC.u8 (exL (List.map asU8 (take 16 (drop 0 ks))) 176))))))))))), some (replicate 16 (AC.u8 (0:BitVec 8))), some (layS (replicate 256 (AC.u8 (0:BitVec 8))) 0 (hide (List.map AC.u8 boxT))), some (layS (replicate 176 (AC.u8 (0:BitVec 8))) 0 (hide (List.map AC.u8 (exL (List.map asU8 (take 16 (drop 0 ks))) 176))))]) : KRun X 46 0 Q ([.code (bodyOf Try.f46)]) (slots [.agg ks, .agg bs] Try.f46.ntmps) [] :=
  wpRun_ok (hX ▸ baseK_ok T14 mf13 M13) (hX ▸ baseK_call T14_ok M13_ok) (hX ▸ mixed) (hX ▸ ok46) LK_ok (cast (β := wpRun (baseK T14 mf13 M13) [23, 27, 31, 52, 55, 60] [(22, 40), (23, 5)] false (RS.mk Try.f46.results.toList 0 (CS.mk [] [] [0] [])) (LK X 46 0 Q true [(5, LS.mk [3, 4, 5, 6, 7] (CS.mk [] [true, true, true, true] [] [])), (9, LS.mk [3, 4, 5, 6, 7, 8, 9, 10] (CS.mk [] [true, true, true, true, true, true] [] [])), (12, LS.mk [3, 4, 5, 6, 7, 8, 9, 10, 11] (CS.mk [] [true, true, true, true, true, true] [] [])), (17, LS.mk [3, 4, 5, 6, 7, 8, 9, 12] (CS.mk [] [true, true, true, true, true, true] [] [])), (20, LS.mk [3, 4, 5, 6, 7, 8, 9, 12, 13] (CS.mk [] [true, true, true, true, true, true] [] []))]) Q 2000 ([.code (bodyOf Try.f46)]) (slots [.agg ks, .agg bs] Try.f46.ntmps) []) (by kernel_rfl) h)
set_option maxRecDepth 100000 in
theorem vc46a {X : Ctx} {Q : AV → Mem → Prop} (hX : X.P = Try.prog) (bs zs xs ks : List AC) (n:Int) (h : (decide (n ≤ (10:Int)) = true → Flat bs ∧ Flat zs ∧ Flat xs ∧ Flat ks ∧ Flat (replicate 16 (AC.u8 (0:BitVec 8))) ∧ Flat (replicate 16 (AC.u8 (0:BitVec 8))) ∧ KR X 46 0 Q (kOf Try.f46 1) (mkS 109 [(3, AV.one (AC.ptr 0 0)), (4, AV.one (AC.ptr 1 0)), (5, AV.one (AC.ptr 2 0)), (6, AV.one (AC.ptr 3 0)), (7, AV.one (AC.i64 n)), (8, AV.one (AC.ptr 4 0)), (9, AV.one (AC.ptr 5 0)), (10, AV.one (AC.i64 (0:Int)))]) [some bs, some zs, some xs, some ks, some (replicate 16 (AC.u8 (0:BitVec 8))), some (replicate 16 (AC.u8 (0:BitVec 8)))]) ∧ (decide (n ≤ (10:Int)) = false → 16 ≤ List.length bs ∧ (List.length (take 16 (drop 0 bs)) = 16 ∧ 16 ≤ List.length zs) ∧ 16 ≤ List.length (layS zs 0 (take 16 (drop 0 bs))) ∧ flatAV (AV.agg (take 16 (drop 0 (layS zs 0 (take 16 (drop 0 bs)))))) ∧ Q (AV.agg (take 16 (drop 0 (layS zs 0 (take 16 (drop 0 bs)))))) [])) : KRun X 46 0 Q (kOf Try.f46 0) (mkS 109 [(3, .one (.ptr 0 0)), (4, .one (.ptr 1 0)), (5, .one (.ptr 2 0)), (6, .one (.ptr 3 0)), (7, .one (.i64 n))]) [some bs, some zs, some xs, some ks] :=
  wpRun_ok (hX ▸ baseK_ok T14 mf13 M13) (hX ▸ baseK_call T14_ok M13_ok) (hX ▸ mixed) (hX ▸ ok46) LK_ok (cast (β := wpRun (baseK T14 mf13 M13) [23, 27, 31, 52, 55, 60] [(22, 40), (23, 5)] false (RS.mk Try.f46.results.toList 0 (CS.mk [] [] [0] [])) (LK X 46 0 Q true [(5, LS.mk [3, 4, 5, 6, 7] (CS.mk [] [true, true, true, true] [] [])), (9, LS.mk [3, 4, 5, 6, 7, 8, 9, 10] (CS.mk [] [true, true, true, true, true, true] [] [])), (12, LS.mk [3, 4, 5, 6, 7, 8, 9, 10, 11] (CS.mk [] [true, true, true, true, true, true] [] [])), (17, LS.mk [3, 4, 5, 6, 7, 8, 9, 12] (CS.mk [] [true, true, true, true, true, true] [] [])), (20, LS.mk [3, 4, 5, 6, 7, 8, 9, 12, 13] (CS.mk [] [true, true, true, true, true, true] [] []))]) Q 2000 (kOf Try.f46 0) (mkS 109 [(3, .one (.ptr 0 0)), (4, .one (.ptr 1 0)), (5, .one (.ptr 2 0)), (6, .one (.ptr 3 0)), (7, .one (.i64 n))]) [some bs, some zs, some xs, some ks]) (by kernel_rfl) h)
set_option maxRecDepth 100000 in
theorem vc46b {X : Ctx} {Q : AV → Mem → Prop} (hX : X.P = Try.prog) (bs zs xs ks us vs : List AC) (n c:Int) (h : (decide (c < (4:Int)) = true → Flat bs ∧ Flat zs ∧ Flat xs ∧ Flat ks ∧ Flat us ∧ Flat vs ∧ KR X 46 0 Q (kOf Try.f46 2) (mkS 109 [(3, AV.one (AC.ptr 0 0)), (4, AV.one (AC.ptr 1 0)), (5, AV.one (AC.ptr 2 0)), (6, AV.one (AC.ptr 3 0)), (7, AV.one (AC.i64 n)), (8, AV.one (AC.ptr 4 0)), (9, AV.one (AC.ptr 5 0)), (10, AV.one (AC.i64 c)), (11, AV.one (AC.i64 (0:Int)))]) [some bs, some zs, some xs, some ks, some us, some vs]) ∧ (decide (c < (4:Int)) = false → 16 ≤ List.length us ∧ (List.length (take 16 (drop 0 us)) = 16 ∧ 16 ≤ List.length vs) ∧ Flat bs ∧ Flat zs ∧ Flat xs ∧ Flat ks ∧ Flat us ∧ Flat (layS vs 0 (take 16 (drop 0 us))) ∧ KR X 46 0 Q (kOf Try.f46 3) (mkS 109 [(3, AV.one (AC.ptr 0 0)), (4, AV.one (AC.ptr 1 0)), (5, AV.one (AC.ptr 2 0)), (6, AV.one (AC.ptr 3 0)), (7, AV.one (AC.i64 n)), (8, AV.one (AC.ptr 4 0)), (9, AV.one (AC.ptr 5 0)), (12, AV.one (AC.i64 (0:Int)))]) [some bs, some zs, some xs, some ks, some us, some (layS vs 0 (take 16 (drop 0 us)))])) : KRun X 46 0 Q (kOf Try.f46 1) (mkS 109 [(3, .one (.ptr 0 0)), (4, .one (.ptr 1 0)), (5, .one (.ptr 2 0)), (6, .one (.ptr 3 0)), (7, .one (.i64 n)), (8, .one (.ptr 4 0)), (9, .one (.ptr 5 0)), (10, .one (.i64 c))]) [some bs, some zs, some xs, some ks, some us, some vs] :=
  wpRun_ok (hX ▸ baseK_ok T14 mf13 M13) (hX ▸ baseK_call T14_ok M13_ok) (hX ▸ mixed) (hX ▸ ok46) LK_ok (cast (β := wpRun (baseK T14 mf13 M13) [23, 27, 31, 52, 55, 60] [(22, 40), (23, 5)] false (RS.mk Try.f46.results.toList 0 (CS.mk [] [] [0] [])) (LK X 46 0 Q true [(5, LS.mk [3, 4, 5, 6, 7] (CS.mk [] [true, true, true, true] [] [])), (9, LS.mk [3, 4, 5, 6, 7, 8, 9, 10] (CS.mk [] [true, true, true, true, true, true] [] [])), (12, LS.mk [3, 4, 5, 6, 7, 8, 9, 10, 11] (CS.mk [] [true, true, true, true, true, true] [] [])), (17, LS.mk [3, 4, 5, 6, 7, 8, 9, 12] (CS.mk [] [true, true, true, true, true, true] [] [])), (20, LS.mk [3, 4, 5, 6, 7, 8, 9, 12, 13] (CS.mk [] [true, true, true, true, true, true] [] []))]) Q 2000 (kOf Try.f46 1) (mkS 109 [(3, .one (.ptr 0 0)), (4, .one (.ptr 1 0)), (5, .one (.ptr 2 0)), (6, .one (.ptr 3 0)), (7, .one (.i64 n)), (8, .one (.ptr 4 0)), (9, .one (.ptr 5 0)), (10, .one (.i64 c))]) [some bs, some zs, some xs, some ks, some us, some vs]) (by kernel_rfl) h)
set_option maxRecDepth 100000 in
theorem vc46c {X : Ctx} {Q : AV → Mem → Prop} (hX : X.P = Try.prog) (bs zs xs ks us vs : List AC) (n c r:Int) (h : (decide (r < (4:Int)) = true → in64 ((4:Int) * c) ∧ in64 ((4:Int) * c + r) ∧ in64 (c + r) ∧ (4:Int) ≠ (0:Int) ∧ in64 (Int.tmod (c + r) (4:Int) * (4:Int)) ∧ in64 (Int.tmod (c + r) (4:Int) * (4:Int) + r) ∧ ((0:Int) ≤ Int.tmod (c + r) (4:Int) * (4:Int) + r ∧ Int.tmod (c + r) (4:Int) * (4:Int) + r < (↑16:Int)) ∧ gt AC.any bs (0 + Int.toNat (Int.tmod (c + r) (4:Int) * (4:Int) + r) * 1) = AC.u8 (asU8 (gt AC.any bs (0 + Int.toNat (Int.tmod (c + r) (4:Int) * (4:Int) + r) * 1))) ∧ gt AC.any xs (0 + Int.toNat (↑(BitVec.toNat (asU8 (gt AC.any bs (0 + Int.toNat (Int.tmod (c + r) (4:Int) * (4:Int) + r) * 1)))):Int) * 1) = AC.u8 (asU8 (gt AC.any xs (0 + Int.toNat (↑(BitVec.toNat (asU8 (gt AC.any bs (0 + Int.toNat (Int.tmod (c + r) (4:Int) * (4:Int) + r) * 1)))):Int) * 1))) ∧ ((0:Int) ≤ (4:Int) * c + r ∧ (4:Int) * c + r < (↑16:Int)) ∧ (1 = 1 ∧ 0 + Int.toNat ((4:Int) * c + r) * 1 + 1 ≤ List.length us) ∧ in64 (r + (1:Int)) ∧ Flat bs ∧ Flat zs ∧ Flat xs ∧ Flat ks ∧ Flat (layS us (0 + Int.toNat ((4:Int) * c + r) * 1) [AC.u8 (asU8 (gt AC.any xs (0 + Int.toNat (↑(BitVec.toNat (asU8 (gt AC.any bs (0 + Int.toNat (Int.tmod (c + r) (4:Int) * (4:Int) + r) * 1)))):Int) * 1)))]) ∧ Flat vs ∧ KR X 46 0 Q (kOf Try.f46 2) (mkS 109 [(3, AV.one (AC.ptr 0 0)), (4, AV.one (AC.ptr 1 0)), (5, AV.one (AC.ptr 2 0)), (6, AV.one (AC.ptr 3 0)), (7, AV.one (AC.i64 n)), (8, AV.one (AC.ptr 4 0)), (9, AV.one (AC.ptr 5 0)), (10, AV.one (AC.i64 c)), (11, AV.one (AC.i64 (r + (1:Int))))]) [some bs, some zs, some xs, some ks, some (layS us (0 + Int.toNat ((4:Int) * c + r) * 1) [AC.u8 (asU8 (gt AC.any xs (0 + Int.toNat (↑(BitVec.toNat (asU8 (gt AC.any bs (0 + Int.toNat (Int.tmod (c + r) (4:Int) * (4:Int) + r) * 1)))):Int) * 1)))]), some vs]) ∧ (decide (r < (4:Int)) = false → in64 (c + (1:Int)) ∧ Flat bs ∧ Flat zs ∧ Flat xs ∧ Flat ks ∧ Flat us ∧ Flat vs ∧ KR X 46 0 Q (kOf Try.f46 1) (mkS 109 [(3, AV.one (AC.ptr 0 0)), (4, AV.one (AC.ptr 1 0)), (5, AV.one (AC.ptr 2 0)), (6, AV.one (AC.ptr 3 0)), (7, AV.one (AC.i64 n)), (8, AV.one (AC.ptr 4 0)), (9, AV.one (AC.ptr 5 0)), (10, AV.one (AC.i64 (c + (1:Int))))]) [some bs, some zs, some xs, some ks, some us, some vs])) : KRun X 46 0 Q (kOf Try.f46 2) (mkS 109 [(3, .one (.ptr 0 0)), (4, .one (.ptr 1 0)), (5, .one (.ptr 2 0)), (6, .one (.ptr 3 0)), (7, .one (.i64 n)), (8, .one (.ptr 4 0)), (9, .one (.ptr 5 0)), (10, .one (.i64 c)), (11, .one (.i64 r))]) [some bs, some zs, some xs, some ks, some us, some vs] :=
  wpRun_ok (hX ▸ baseK_ok T14 mf13 M13) (hX ▸ baseK_call T14_ok M13_ok) (hX ▸ mixed) (hX ▸ ok46) LK_ok (cast (β := wpRun (baseK T14 mf13 M13) [23, 27, 31, 52, 55, 60] [(22, 40), (23, 5)] false (RS.mk Try.f46.results.toList 0 (CS.mk [] [] [0] [])) (LK X 46 0 Q true [(5, LS.mk [3, 4, 5, 6, 7] (CS.mk [] [true, true, true, true] [] [])), (9, LS.mk [3, 4, 5, 6, 7, 8, 9, 10] (CS.mk [] [true, true, true, true, true, true] [] [])), (12, LS.mk [3, 4, 5, 6, 7, 8, 9, 10, 11] (CS.mk [] [true, true, true, true, true, true] [] [])), (17, LS.mk [3, 4, 5, 6, 7, 8, 9, 12] (CS.mk [] [true, true, true, true, true, true] [] [])), (20, LS.mk [3, 4, 5, 6, 7, 8, 9, 12, 13] (CS.mk [] [true, true, true, true, true, true] [] []))]) Q 2000 (kOf Try.f46 2) (mkS 109 [(3, .one (.ptr 0 0)), (4, .one (.ptr 1 0)), (5, .one (.ptr 2 0)), (6, .one (.ptr 3 0)), (7, .one (.i64 n)), (8, .one (.ptr 4 0)), (9, .one (.ptr 5 0)), (10, .one (.i64 c)), (11, .one (.i64 r))]) [some bs, some zs, some xs, some ks, some us, some vs]) (by kernel_rfl) h)
set_option maxRecDepth 100000 in
theorem vc46d {X : Ctx} {Q : AV → Mem → Prop} (hX : X.P = Try.prog) (bs zs xs ks us vs : List AC) (n c:Int) (h : (decide (c < (4:Int)) = true → (decide (n < (10:Int)) = true → Flat bs ∧ Flat zs ∧ Flat xs ∧ Flat ks ∧ Flat us ∧ Flat vs ∧ KR X 46 0 Q (kOf Try.f46 4) (mkS 109 [(3, AV.one (AC.ptr 0 0)), (4, AV.one (AC.ptr 1 0)), (5, AV.one (AC.ptr 2 0)), (6, AV.one (AC.ptr 3 0)), (7, AV.one (AC.i64 n)), (8, AV.one (AC.ptr 4 0)), (9, AV.one (AC.ptr 5 0)), (12, AV.one (AC.i64 c)), (13, AV.one (AC.i64 (0:Int)))]) [some bs, some zs, some xs, some ks, some us, some vs]) ∧ (decide (n < (10:Int)) = false → 16 ≤ List.length vs ∧ ((0:Int) ≤ n ∧ n < (↑11:Int)) ∧ 0 + Int.toNat n * 16 + 16 ≤ List.length ks ∧ Flat (take 16 (drop 0 vs)) ∧ Flat (take 16 (drop (0 + Int.toNat n * 16) ks)) ∧ (allU8 (take 16 (drop 0 vs)) ∧ List.length (take 16 (drop 0 vs)) = 16 ∧ allU8 (take 16 (drop (0 + Int.toNat n * 16) ks)) ∧ List.length (take 16 (drop (0 + Int.toNat n * 16) ks)) = 16) ∧ (List.length (hide (List.map AC.u8 (xorL (List.map asU8 (take 16 (drop 0 vs))) (List.map asU8 (take 16 (drop (0 + Int.toNat n * 16) ks)))))) = 16 ∧ 16 ≤ List.length bs) ∧ in64 (n + (1:Int)) ∧ Flat (layS bs 0 (hide (List.map AC.u8 (xorL (List.map asU8 (take 16 (drop 0 vs))) (List.map asU8 (take 16 (drop (0 + Int.toNat n * 16) ks))))))) ∧ Flat zs ∧ Flat xs ∧ Flat ks ∧ KR X 46 0 Q (kOf Try.f46 0) (mkS 109 [(3, AV.one (AC.ptr 0 0)), (4, AV.one (AC.ptr 1 0)), (5, AV.one (AC.ptr 2 0)), (6, AV.one (AC.ptr 3 0)), (7, AV.one (AC.i64 (n + (1:Int))))]) [some (layS bs 0 (hide (List.map AC.u8 (xorL (List.map asU8 (take 16 (drop 0 vs))) (List.map asU8 (take 16 (drop (0 + Int.toNat n * 16) ks))))))), some zs, some xs, some ks])) ∧ (decide (c < (4:Int)) = false → 16 ≤ List.length vs ∧ ((0:Int) ≤ n ∧ n < (↑11:Int)) ∧ 0 + Int.toNat n * 16 + 16 ≤ List.length ks ∧ Flat (take 16 (drop 0 vs)) ∧ Flat (take 16 (drop (0 + Int.toNat n * 16) ks)) ∧ (allU8 (take 16 (drop 0 vs)) ∧ List.length (take 16 (drop 0 vs)) = 16 ∧ allU8 (take 16 (drop (0 + Int.toNat n * 16) ks)) ∧ List.length (take 16 (drop (0 + Int.toNat n * 16) ks)) = 16) ∧ (List.length (hide (List.map AC.u8 (xorL (List.map asU8 (take 16 (drop 0 vs))) (List.map asU8 (take 16 (drop (0 + Int.toNat n * 16) ks)))))) = 16 ∧ 16 ≤ List.length bs) ∧ in64 (n + (1:Int)) ∧ Flat (layS bs 0 (hide (List.map AC.u8 (xorL (List.map asU8 (take 16 (drop 0 vs))) (List.map asU8 (take 16 (drop (0 + Int.toNat n * 16) ks))))))) ∧ Flat zs ∧ Flat xs ∧ Flat ks ∧ KR X 46 0 Q (kOf Try.f46 0) (mkS 109 [(3, AV.one (AC.ptr 0 0)), (4, AV.one (AC.ptr 1 0)), (5, AV.one (AC.ptr 2 0)), (6, AV.one (AC.ptr 3 0)), (7, AV.one (AC.i64 (n + (1:Int))))]) [some (layS bs 0 (hide (List.map AC.u8 (xorL (List.map asU8 (take 16 (drop 0 vs))) (List.map asU8 (take 16 (drop (0 + Int.toNat n * 16) ks))))))), some zs, some xs, some ks])) : KRun X 46 0 Q (kOf Try.f46 3) (mkS 109 [(3, .one (.ptr 0 0)), (4, .one (.ptr 1 0)), (5, .one (.ptr 2 0)), (6, .one (.ptr 3 0)), (7, .one (.i64 n)), (8, .one (.ptr 4 0)), (9, .one (.ptr 5 0)), (12, .one (.i64 c))]) [some bs, some zs, some xs, some ks, some us, some vs] :=
  wpRun_ok (hX ▸ baseK_ok T14 mf13 M13) (hX ▸ baseK_call T14_ok M13_ok) (hX ▸ mixed) (hX ▸ ok46) LK_ok (cast (β := wpRun (baseK T14 mf13 M13) [23, 27, 31, 52, 55, 60] [(22, 40), (23, 5)] false (RS.mk Try.f46.results.toList 0 (CS.mk [] [] [0] [])) (LK X 46 0 Q true [(5, LS.mk [3, 4, 5, 6, 7] (CS.mk [] [true, true, true, true] [] [])), (9, LS.mk [3, 4, 5, 6, 7, 8, 9, 10] (CS.mk [] [true, true, true, true, true, true] [] [])), (12, LS.mk [3, 4, 5, 6, 7, 8, 9, 10, 11] (CS.mk [] [true, true, true, true, true, true] [] [])), (17, LS.mk [3, 4, 5, 6, 7, 8, 9, 12] (CS.mk [] [true, true, true, true, true, true] [] [])), (20, LS.mk [3, 4, 5, 6, 7, 8, 9, 12, 13] (CS.mk [] [true, true, true, true, true, true] [] []))]) Q 2000 (kOf Try.f46 3) (mkS 109 [(3, .one (.ptr 0 0)), (4, .one (.ptr 1 0)), (5, .one (.ptr 2 0)), (6, .one (.ptr 3 0)), (7, .one (.i64 n)), (8, .one (.ptr 4 0)), (9, .one (.ptr 5 0)), (12, .one (.i64 c))]) [some bs, some zs, some xs, some ks, some us, some vs]) (by kernel_rfl) h)
set_option maxRecDepth 100000 in
theorem vc46e {X : Ctx} {Q : AV → Mem → Prop} (hX : X.P = Try.prog) (bs zs xs ks us vs : List AC) (n c r:Int) (h : (decide (r < (4:Int)) = true → in64 ((4:Int) * c) ∧ in64 ((4:Int) * c + r) ∧ in64 ((4:Int) * c) ∧ in64 ((4:Int) * c + r) ∧ ((0:Int) ≤ (4:Int) * c + r ∧ (4:Int) * c + r < (↑16:Int)) ∧ gt AC.any us (0 + Int.toNat ((4:Int) * c + r) * 1) = AC.u8 (asU8 (gt AC.any us (0 + Int.toNat ((4:Int) * c + r) * 1))) ∧ in64 ((4:Int) * c) ∧ in64 (r + (1:Int)) ∧ (4:Int) ≠ (0:Int) ∧ in64 ((4:Int) * c + Int.tmod (r + (1:Int)) (4:Int)) ∧ ((0:Int) ≤ (4:Int) * c + Int.tmod (r + (1:Int)) (4:Int) ∧ (4:Int) * c + Int.tmod (r + (1:Int)) (4:Int) < (↑16:Int)) ∧ gt AC.any us (0 + Int.toNat ((4:Int) * c + Int.tmod (r + (1:Int)) (4:Int)) * 1) = AC.u8 (asU8 (gt AC.any us (0 + Int.toNat ((4:Int) * c + Int.tmod (r + (1:Int)) (4:Int)) * 1))) ∧ in64 ((4:Int) * c) ∧ in64 (r + (2:Int)) ∧ (4:Int) ≠ (0:Int) ∧ in64 ((4:Int) * c + Int.tmod (r + (2:Int)) (4:Int)) ∧ ((0:Int) ≤ (4:Int) * c + Int.tmod (r + (2:Int)) (4:Int) ∧ (4:Int) * c + Int.tmod (r + (2:Int)) (4:Int) < (↑16:Int)) ∧ gt AC.any us (0 + Int.toNat ((4:Int) * c + Int.tmod (r + (2:Int)) (4:Int)) * 1) = AC.u8 (asU8 (gt AC.any us (0 + Int.toNat ((4:Int) * c + Int.tmod (r + (2:Int)) (4:Int)) * 1))) ∧ in64 ((4:Int) * c) ∧ in64 (r + (3:Int)) ∧ (4:Int) ≠ (0:Int) ∧ in64 ((4:Int) * c + Int.tmod (r + (3:Int)) (4:Int)) ∧ ((0:Int) ≤ (4:Int) * c + Int.tmod (r + (3:Int)) (4:Int) ∧ (4:Int) * c + Int.tmod (r + (3:Int)) (4:Int) < (↑16:Int)) ∧ gt AC.any us (0 + Int.toNat ((4:Int) * c + Int.tmod (r + (3:Int)) (4:Int)) * 1) = AC.u8 (asU8 (gt AC.any us (0 + Int.toNat ((4:Int) * c + Int.tmod (r + (3:Int)) (4:Int)) * 1))) ∧ ((0:Int) ≤ (4:Int) * c + r ∧ (4:Int) * c + r < (↑16:Int)) ∧ (1 = 1 ∧ 0 + Int.toNat ((4:Int) * c + r) * 1 + 1 ≤ List.length vs) ∧ in64 (r + (1:Int)) ∧ Flat bs ∧ Flat zs ∧ Flat xs ∧ Flat ks ∧ Flat us ∧ Flat (layS vs (0 + Int.toNat ((4:Int) * c + r) * 1) [AC.u8 (tmF (asU8 (gt AC.any us (0 + Int.toNat ((4:Int) * c + r) * 1))) (BitVec.ofInt 8 (2:Int)) ^^^ tmF (asU8 (gt AC.any us (0 + Int.toNat ((4:Int) * c + Int.tmod (r + (1:Int)) (4:Int)) * 1))) (BitVec.ofInt 8 (3:Int)) ^^^ asU8 (gt AC.any us (0 + Int.toNat ((4:Int) * c + Int.tmod (r + (2:Int)) (4:Int)) * 1)) ^^^ asU8 (gt AC.any us (0 + Int.toNat ((4:Int) * c + Int.tmod (r + (3:Int)) (4:Int)) * 1)))]) ∧ KR X 46 0 Q (kOf Try.f46 4) (mkS 109 [(3, AV.one (AC.ptr 0 0)), (4, AV.one (AC.ptr 1 0)), (5, AV.one (AC.ptr 2 0)), (6, AV.one (AC.ptr 3 0)), (7, AV.one (AC.i64 n)), (8, AV.one (AC.ptr 4 0)), (9, AV.one (AC.ptr 5 0)), (12, AV.one (AC.i64 c)), (13, AV.one (AC.i64 (r + (1:Int))))]) [some bs, some zs, some xs, some ks, some us, some (layS vs (0 + Int.toNat ((4:Int) * c + r) * 1) [AC.u8 (tmF (asU8 (gt AC.any us (0 + Int.toNat ((4:Int) * c + r) * 1))) (BitVec.ofInt 8 (2:Int)) ^^^ tmF (asU8 (gt AC.any us (0 + Int.toNat ((4:Int) * c + Int.tmod (r + (1:Int)) (4:Int)) * 1))) (BitVec.ofInt 8 (3:Int)) ^^^ asU8 (gt AC.any us (0 + Int.toNat ((4:Int) * c + Int.tmod (r + (2:Int)) (4:Int)) * 1)) ^^^ asU8 (gt AC.any us (0 + Int.toNat ((4:Int) * c + Int.tmod (r + (3:Int)) (4:Int)) * 1)))])]) ∧ (decide (r < (4:Int)) = false → in64 (c + (1:Int)) ∧ Flat bs ∧ Flat zs ∧ Flat xs ∧ Flat ks ∧ Flat us ∧ Flat vs ∧ KR X 46 0 Q (kOf Try.f46 3) (mkS 109 [(3, AV.one (AC.ptr 0 0)), (4, AV.one (AC.ptr 1 0)), (5, AV.one (AC.ptr 2 0)), (6, AV.one (AC.ptr 3 0)), (7, AV.one (AC.i64 n)), (8, AV.one (AC.ptr 4 0)), (9, AV.one (AC.ptr 5 0)), (12, AV.one (AC.i64 (c + (1:Int))))]) [some bs, some zs, some xs, some ks, some us, some vs])) : KRun X 46 0 Q (kOf Try.f46 4) (mkS 109 [(3, .one (.ptr 0 0)), (4, .one (.ptr 1 0)), (5, .one (.ptr 2 0)), (6, .one (.ptr 3 0)), (7, .one (.i64 n)), (8, .one (.ptr 4 0)), (9, .one (.ptr 5 0)), (12, .one (.i64 c)), (13, .one (.i64 r))]) [some bs, some zs, some xs, some ks, some us, some vs] :=
  wpRun_ok (hX ▸ baseK_ok T14 mf13 M13) (hX ▸ baseK_call T14_ok M13_ok) (hX ▸ mixed) (hX ▸ ok46) LK_ok (cast (β := wpRun (baseK T14 mf13 M13) [23, 27, 31, 52, 55, 60] [(22, 40), (23, 5)] false (RS.mk Try.f46.results.toList 0 (CS.mk [] [] [0] [])) (LK X 46 0 Q true [(5, LS.mk [3, 4, 5, 6, 7] (CS.mk [] [true, true, true, true] [] [])), (9, LS.mk [3, 4, 5, 6, 7, 8, 9, 10] (CS.mk [] [true, true, true, true, true, true] [] [])), (12, LS.mk [3, 4, 5, 6, 7, 8, 9, 10, 11] (CS.mk [] [true, true, true, true, true, true] [] [])), (17, LS.mk [3, 4, 5, 6, 7, 8, 9, 12] (CS.mk [] [true, true, true, true, true, true] [] [])), (20, LS.mk [3, 4, 5, 6, 7, 8, 9, 12, 13] (CS.mk [] [true, true, true, true, true, true] [] []))]) Q 2000 (kOf Try.f46 4) (mkS 109 [(3, .one (.ptr 0 0)), (4, .one (.ptr 1 0)), (5, .one (.ptr 2 0)), (6, .one (.ptr 3 0)), (7, .one (.i64 n)), (8, .one (.ptr 4 0)), (9, .one (.ptr 5 0)), (12, .one (.i64 c)), (13, .one (.i64 r))]) [some bs, some zs, some xs, some ks, some us, some vs]) (by kernel_rfl) h)
theorem mix_ref (s : List (BitVec 8)) (c r:Nat) (hc : c < 4) (hr : r < 4) : tmF (s.getD (4 * c + r) 0) 2#8 ^^^ tmF (s.getD (4 * c + (r + 1) % 4) 0) 3#8 ^^^ s.getD (4 * c + (r + 2) % 4) 0 ^^^ s.getD (4 * c + (r + 3) % 4) 0 = (mixL s).getD (4 * c + r) 0 := by
  unfold mixL
  rw [tab16_get _ (by omega), (tm_all _).1, (tm_all _).2.1]
  unfold col
  rw [show (4 * c + r) / 4 * 4 = 4 * c by omega, show (4 * c + r) % 4 = r by omega, show (r + 0) % 4 = r by omega]
def VM (s : List (BitVec 8)) (m:Nat) : List (BitVec 8) := (mixL s).take m ++ s.drop m
def SU (b : List (BitVec 8)) (m:Nat) : List (BitVec 8) := (shL b).take m ++ (replicate 16 0).drop m
theorem VM_len {s : List (BitVec 8)} (hs : s.length = 16) (m:Nat) : (VM s m).length = 16 := by
  unfold VM
  rw [lenT _ _ (by rw [mixL_len, hs]), hs]
theorem SU_len (b : List (BitVec 8)) (m:Nat) : (SU b m).length = 16 := by
  unfold SU
  rw [lenT _ _ (by rw [shL_len, List.length_replicate]), List.length_replicate]
theorem VM_end {s : List (BitVec 8)} (hs : s.length = 16) : VM s (4 * 4) = mixL s := by
  have := endT (mixL s) s (by rw [mixL_len, hs])
  rw [mixL_len] at this
  exact this
theorem SU_end (b : List (BitVec 8)) : SU b (4 * 4) = shL b := by
  have := endT (shL b) (replicate 16 0) (by rw [shL_len, List.length_replicate])
  rw [shL_len] at this
  exact this
theorem l46e {X : Ctx} (hX : X.P = Try.prog) (key B b s : List (BitVec 8)) (hs : s.length = 16) (n c:Nat) (hc : c < 4)
    (K : KRun X 46 0 (Is (.agg ((encF key B).map AC.u8))) (kOf Try.f46 3) (mkS 109 [(3, .one (.ptr 0 0)), (4, .one (.ptr 1 0)), (5, .one (.ptr 2 0)), (6, .one (.ptr 3 0)), (7, .one (.i64 n)), (8, .one (.ptr 4 0)), (9, .one (.ptr 5 0)), (12, .one (.i64 (c + 1:Nat)))]) [some (b.map AC.u8), some (replicate 16 (AC.u8 0)), some (boxT.map AC.u8), some ((exL key 176).map AC.u8), some (s.map AC.u8), some ((VM s (4 * (c + 1))).map AC.u8)]) : ∀ (d r:Nat), r + d = 4 →
    KRun X 46 0 (Is (.agg ((encF key B).map AC.u8))) (kOf Try.f46 4) (mkS 109 [(3, .one (.ptr 0 0)), (4, .one (.ptr 1 0)), (5, .one (.ptr 2 0)), (6, .one (.ptr 3 0)), (7, .one (.i64 n)), (8, .one (.ptr 4 0)), (9, .one (.ptr 5 0)), (12, .one (.i64 c)), (13, .one (.i64 r))]) [some (b.map AC.u8), some (replicate 16 (AC.u8 0)), some (boxT.map AC.u8), some ((exL key 176).map AC.u8), some (s.map AC.u8), some ((VM s (4 * c + r)).map AC.u8)] := by
  have z : Flat (replicate 16 (AC.u8 0)) := by rw [mrep]; exact flat_u8 _
  intro d
  induction d with
  | zero =>
    intro r hr
    have hr : r = 4 := by omega
    subst hr
    refine vc46e hX _ _ _ _ _ _ _ _ _ ⟨fun h => absurd (of_decide_eq_true h) (by omega), fun _ => ?_⟩
    (repeat' (first | exact trivial | exact flat_u8 _ | exact flatA _ | exact allU8_map _ | exact Nat.le_refl _ | refine And.intro ?_ ?_)) <;> (first | omega | exact z | (unfold in64; omega) | exact List.length_map _ | (show Is _ _ _; exact rfl) | skip)
    exact ⟨K⟩
  | succ d ih =>
    intro r hr
    have ih := ih (r + 1) (by omega)
    have hl := VM_len hs (4 * c + r)
    have t1 : (4:Int) * (c:Int) + Int.tmod ((r:Int) + 1) 4 = ((4 * c + (r + 1) % 4:Nat):Int) := by rw [show Int.tmod ((r:Int) + 1) 4 = (((r + 1) % 4:Nat):Int) from tmod_nat (r + 1) 4]; omega
    have t2 : (4:Int) * (c:Int) + Int.tmod ((r:Int) + 2) 4 = ((4 * c + (r + 2) % 4:Nat):Int) := by rw [show Int.tmod ((r:Int) + 2) 4 = (((r + 2) % 4:Nat):Int) from tmod_nat (r + 2) 4]; omega
    have t3 : (4:Int) * (c:Int) + Int.tmod ((r:Int) + 3) 4 = ((4 * c + (r + 3) % 4:Nat):Int) := by rw [show Int.tmod ((r:Int) + 3) 4 = (((r + 3) % 4:Nat):Int) from tmod_nat (r + 3) 4]; omega
    have t0 : (4:Int) * (c:Int) + (r:Int) = ((4 * c + r:Nat):Int) := by omega
    have g0 := gt_u8_at s (4 * c + r) (by omega)
    have g1 := gt_u8_at s (4 * c + (r + 1) % 4) (by omega)
    have g2 := gt_u8_at s (4 * c + (r + 2) % 4) (by omega)
    have g3 := gt_u8_at s (4 * c + (r + 3) % 4) (by omega)
    have o2 : BitVec.ofInt 8 2 = 2#8 := rfl
    have o3 : BitVec.ofInt 8 3 = 3#8 := rfl
    have hset := setT (mixL s) s 0 (i := 4 * c + r) (by rw [mixL_len]; omega) (by rw [mixL_len, hs])
    rw [← mix_ref s c r hc (by omega)] at hset
    have hset : (VM s (4 * c + r)).set (4 * c + r) _ = VM s (4 * c + (r + 1)) := hset
    refine vc46e hX _ _ _ _ _ _ _ _ _ ⟨fun _ => ?_, fun h => absurd (of_decide_eq_false h) (by omega)⟩
    rw [t0, t1, t2, t3]
    simp only [ixn, g0, g1, g2, g3, asU8, o2, o3, lay1, hset, List.length_map, hl]
    have i4 : (4:Int) ≠ 0 := by decide
    (repeat' (first | exact i4 | exact trivial | exact flat_u8 _ | exact flatA _ | exact allU8_map _ | exact Nat.le_refl _ | refine And.intro ?_ ?_)) <;> (first | omega | exact z | (unfold in64; omega) | exact List.length_map _ | (show Is _ _ _; exact rfl) | skip)
    exact ⟨ih⟩
theorem l46d {X : Ctx} (hX : X.P = Try.prog) (key B b : List (BitVec 8)) (hb : b.length = 16) (n:Nat) (hn : n < 11) (K : KRun X 46 0 (Is (.agg ((encF key B).map AC.u8))) (kOf Try.f46 0) (mkS 109 [(3, .one (.ptr 0 0)), (4, .one (.ptr 1 0)), (5, .one (.ptr 2 0)), (6, .one (.ptr 3 0)), (7, .one (.i64 (n + 1:Nat)))]) [some ((rndF key n b).map AC.u8), some (replicate 16 (AC.u8 0)), some (boxT.map AC.u8), some ((exL key 176).map AC.u8)]) : ∀ (d c:Nat), c + d = 4 → (n < 10 ∨ c = 0) →
    KRun X 46 0 (Is (.agg ((encF key B).map AC.u8))) (kOf Try.f46 3) (mkS 109 [(3, .one (.ptr 0 0)), (4, .one (.ptr 1 0)), (5, .one (.ptr 2 0)), (6, .one (.ptr 3 0)), (7, .one (.i64 n)), (8, .one (.ptr 4 0)), (9, .one (.ptr 5 0)), (12, .one (.i64 c))]) [some (b.map AC.u8), some (replicate 16 (AC.u8 0)), some (boxT.map AC.u8), some ((exL key 176).map AC.u8), some ((shL b).map AC.u8), some ((VM (shL b) (4 * c)).map AC.u8)] := by
  have z : Flat (replicate 16 (AC.u8 0)) := by rw [mrep]; exact flat_u8 _
  have hr := rkF_len key (n := n) (by omega)
  have hE := exL_len key 176
  have o16 : 0 + Int.toNat (n:Int) * 16 = 16 * n := by omega
  have rk : ((exL key 176).drop (16 * n)).take 16 = rkF key n := rfl
  intro d
  induction d with
  | zero =>
    intro c hc h10
    have hc : c = 4 := by omega
    subst hc
    have e := VM_end (shL_len b)
    unfold rndF at K
    rw [if_pos (by omega)] at K
    have hm := mixL_len (shL b)
    have em : (mixL (shL b)).take 16 = mixL (shL b) := List.take_of_length_le (by omega)
    have h176 : 16 * n + 16 ≤ 176 := by omega
    refine vc46d hX _ _ _ _ _ _ _ _ ⟨fun h => absurd (of_decide_eq_true h) (by omega), fun _ => ?_⟩
    rw [e, o16]
    simp only [hide_eq, tkm, tk0, map_as8, layR, layC, layM, lay1, tkn, List.drop_zero, Nat.zero_add, Nat.mul_one, Nat.reduceAdd, Nat.le_refl, Nat.min_self, Nat.reduceLeDiff, same_self, Int.toNat_natCast, rk, em, List.length_map, List.length_append, List.length_replicate, List.length_take, List.length_drop, tab16_len, hb, hr, hE, hm, xorL_len]
    clear hE hr hm em e rk
    (repeat' (first | exact trivial | exact flat_u8 _ | exact flatA _ | exact allU8_map _ | exact Nat.le_refl _ | refine And.intro ?_ ?_)) <;> (first | omega | exact z | (unfold in64; omega) | exact List.length_map _ | (show Is _ _ _; exact rfl) | skip)
    exact ⟨K⟩
  | succ d ih =>
    intro c hc h10
    refine vc46d hX _ _ _ _ _ _ _ _ ⟨fun _ => ⟨fun h => ?_, fun h => ?_⟩, fun h => absurd (of_decide_eq_false h) (by omega)⟩
    · have h := of_decide_eq_true h
      have K2 := l46e hX key B b (shL b) (shL_len b) n c (by omega) (ih (c + 1) (by omega) (.inl (by omega))) 4 0 rfl
      clear hE hr rk
      (repeat' (first | exact trivial | exact flat_u8 _ | exact flatA _ | exact allU8_map _ | exact Nat.le_refl _ | refine And.intro ?_ ?_)) <;> (first | omega | exact z | (unfold in64; omega) | exact List.length_map _ | (show Is _ _ _; exact rfl) | skip)
      exact ⟨K2⟩
    · have h := of_decide_eq_false h
      have h0 : c = 0 := by omega
      subst h0
      have e : VM (shL b) (4 * 0) = shL b := begT _ _
      unfold rndF at K
      rw [if_neg (by omega)] at K
      have hm := shL_len b
      have em : (shL b).take 16 = shL b := List.take_of_length_le (by omega)
      have h176 : 16 * n + 16 ≤ 176 := by omega
      rw [e, o16]
      simp only [hide_eq, tkm, tk0, map_as8, layR, layC, layM, lay1, tkn, List.drop_zero, Nat.zero_add, Nat.mul_one, Nat.reduceAdd, Nat.le_refl, Nat.min_self, Nat.reduceLeDiff, same_self, Int.toNat_natCast, rk, em, List.length_map, List.length_append, List.length_replicate, List.length_take, List.length_drop, tab16_len, hb, hr, hE, hm, xorL_len]
      clear hE hr hm em e rk
      (repeat' (first | exact trivial | exact flat_u8 _ | exact flatA _ | exact allU8_map _ | exact Nat.le_refl _ | refine And.intro ?_ ?_)) <;> (first | omega | exact z | (unfold in64; omega) | exact List.length_map _ | (show Is _ _ _; exact rfl) | skip)
      exact ⟨K⟩
theorem l46c {X : Ctx} (hX : X.P = Try.prog) (key B b : List (BitVec 8)) (hb : b.length = 16) (n c:Nat) (hc : c < 4)
    (K : KRun X 46 0 (Is (.agg ((encF key B).map AC.u8))) (kOf Try.f46 1) (mkS 109 [(3, .one (.ptr 0 0)), (4, .one (.ptr 1 0)), (5, .one (.ptr 2 0)), (6, .one (.ptr 3 0)), (7, .one (.i64 n)), (8, .one (.ptr 4 0)), (9, .one (.ptr 5 0)), (10, .one (.i64 (c + 1:Nat)))]) [some (b.map AC.u8), some (replicate 16 (AC.u8 0)), some (boxT.map AC.u8), some ((exL key 176).map AC.u8), some ((SU b (4 * (c + 1))).map AC.u8), some (replicate 16 (AC.u8 0))]) : ∀ (d r:Nat), r + d = 4 →
    KRun X 46 0 (Is (.agg ((encF key B).map AC.u8))) (kOf Try.f46 2) (mkS 109 [(3, .one (.ptr 0 0)), (4, .one (.ptr 1 0)), (5, .one (.ptr 2 0)), (6, .one (.ptr 3 0)), (7, .one (.i64 n)), (8, .one (.ptr 4 0)), (9, .one (.ptr 5 0)), (10, .one (.i64 c)), (11, .one (.i64 r))]) [some (b.map AC.u8), some (replicate 16 (AC.u8 0)), some (boxT.map AC.u8), some ((exL key 176).map AC.u8), some ((SU b (4 * c + r)).map AC.u8), some (replicate 16 (AC.u8 0))] := by
  have z : Flat (replicate 16 (AC.u8 0)) := by rw [mrep]; exact flat_u8 _
  intro d
  induction d with
  | zero =>
    intro r hr
    have hr : r = 4 := by omega
    subst hr
    refine vc46c hX _ _ _ _ _ _ _ _ _ ⟨fun h => absurd (of_decide_eq_true h) (by omega), fun _ => ?_⟩
    (repeat' (first | exact trivial | exact flat_u8 _ | exact flatA _ | exact allU8_map _ | exact Nat.le_refl _ | refine And.intro ?_ ?_)) <;> (first | omega | exact z | (unfold in64; omega) | exact List.length_map _ | (show Is _ _ _; exact rfl) | skip)
    exact ⟨K⟩
  | succ d ih =>
    intro r hr
    have ih := ih (r + 1) (by omega)
    have hl := SU_len b (4 * c + r)
    have t0 : (4:Int) * (c:Int) + (r:Int) = ((4 * c + r:Nat):Int) := by omega
    have t1 : Int.tmod ((c:Int) + (r:Int)) 4 * 4 + (r:Int) = (((c + r) % 4 * 4 + r:Nat):Int) := by rw [show Int.tmod ((c:Int) + (r:Int)) 4 = (((c + r) % 4:Nat):Int) from tmod_nat (c + r) 4]; omega
    have t2 : Int.tmod ((c:Int) + (r:Int)) 4 * 4 = (((c + r) % 4 * 4:Nat):Int) := by rw [show Int.tmod ((c:Int) + (r:Int)) 4 = (((c + r) % 4:Nat):Int) from tmod_nat (c + r) 4]; omega
    have g0 := gt_u8_at b ((c + r) % 4 * 4 + r) (by omega)
    have hset := setT (shL b) (replicate 16 0) 0 (i := 4 * c + r) (by rw [shL_len]; omega) (by rw [shL_len, List.length_replicate])
    rw [show (shL b).getD (4 * c + r) 0 = bx (b.getD (shI (4 * c + r)) 0) from tab16_get _ (by omega), show shI (4 * c + r) = (c + r) % 4 * 4 + r by unfold shI; omega] at hset
    have hset : (SU b (4 * c + r)).set (4 * c + r) _ = SU b (4 * c + (r + 1)) := hset
    refine vc46c hX _ _ _ _ _ _ _ _ _ ⟨fun _ => ?_, fun h => absurd (of_decide_eq_false h) (by omega)⟩
    rw [t0, t1, t2]
    simp only [ixn, g0, asU8, gt_box, gt_box', lay1, hset, List.length_map, hl]
    have i4 : (4:Int) ≠ 0 := by decide
    (repeat' (first | exact i4 | exact trivial | exact flat_u8 _ | exact flatA _ | exact allU8_map _ | exact Nat.le_refl _ | refine And.intro ?_ ?_)) <;> (first | omega | exact z | (unfold in64; omega) | exact List.length_map _ | (show Is _ _ _; exact rfl) | skip)
    exact ⟨ih⟩
theorem l46b {X : Ctx} (hX : X.P = Try.prog) (key B b : List (BitVec 8)) (hb : b.length = 16) (n:Nat) (hn : n < 11) (K : KRun X 46 0 (Is (.agg ((encF key B).map AC.u8))) (kOf Try.f46 0) (mkS 109 [(3, .one (.ptr 0 0)), (4, .one (.ptr 1 0)), (5, .one (.ptr 2 0)), (6, .one (.ptr 3 0)), (7, .one (.i64 (n + 1:Nat)))]) [some ((rndF key n b).map AC.u8), some (replicate 16 (AC.u8 0)), some (boxT.map AC.u8), some ((exL key 176).map AC.u8)]) : ∀ (d c:Nat), c + d = 4 →
    KRun X 46 0 (Is (.agg ((encF key B).map AC.u8))) (kOf Try.f46 1) (mkS 109 [(3, .one (.ptr 0 0)), (4, .one (.ptr 1 0)), (5, .one (.ptr 2 0)), (6, .one (.ptr 3 0)), (7, .one (.i64 n)), (8, .one (.ptr 4 0)), (9, .one (.ptr 5 0)), (10, .one (.i64 c))]) [some (b.map AC.u8), some (replicate 16 (AC.u8 0)), some (boxT.map AC.u8), some ((exL key 176).map AC.u8), some ((SU b (4 * c)).map AC.u8), some (replicate 16 (AC.u8 0))] := by
  have z : Flat (replicate 16 (AC.u8 0)) := by rw [mrep]; exact flat_u8 _
  intro d
  induction d with
  | zero =>
    intro c hc
    have hc : c = 4 := by omega
    subst hc
    have e := SU_end b
    have K2 := l46d hX key B b hb n hn K 4 0 rfl (.inr rfl)
    rw [show VM (shL b) (4 * 0) = shL b from begT _ _] at K2
    have hm := shL_len b
    have em : (shL b).take 16 = shL b := List.take_of_length_le (by omega)
    refine vc46b hX _ _ _ _ _ _ _ _ ⟨fun h => absurd (of_decide_eq_true h) (by omega), fun _ => ?_⟩
    rw [e]
    simp only [hide_eq, tkm, tk0, map_as8, layR, layC, layM, lay1, tkn, List.drop_zero, Nat.zero_add, Nat.mul_one, Nat.reduceAdd, Nat.le_refl, Nat.min_self, Nat.reduceLeDiff, same_self, Int.toNat_natCast, em, List.length_map, List.length_append, List.length_replicate, List.length_take, List.length_drop, tab16_len, hm]
    (repeat' (first | exact trivial | exact flat_u8 _ | exact flatA _ | exact allU8_map _ | exact Nat.le_refl _ | refine And.intro ?_ ?_)) <;> (first | omega | exact z | (unfold in64; omega) | exact List.length_map _ | (show Is _ _ _; exact rfl) | skip)
    exact ⟨K2⟩
  | succ d ih =>
    intro c hc
    have K2 := l46c hX key B b hb n c (by omega) (ih (c + 1) (by omega)) 4 0 rfl
    refine vc46b hX _ _ _ _ _ _ _ _ ⟨fun _ => ?_, fun h => absurd (of_decide_eq_false h) (by omega)⟩
    (repeat' (first | exact trivial | exact flat_u8 _ | exact flatA _ | exact allU8_map _ | exact Nat.le_refl _ | refine And.intro ?_ ?_)) <;> (first | omega | exact z | (unfold in64; omega) | exact List.length_map _ | (show Is _ _ _; exact rfl) | skip)
    exact ⟨K2⟩
theorem l46a {X : Ctx} (hX : X.P = Try.prog) (key B : List (BitVec 8)) (hB : B.length = 16) : ∀ (d n:Nat), n + d = 10 →
    KRun X 46 0 (Is (.agg ((encF key B).map AC.u8))) (kOf Try.f46 0) (mkS 109 [(3, .one (.ptr 0 0)), (4, .one (.ptr 1 0)), (5, .one (.ptr 2 0)), (6, .one (.ptr 3 0)), (7, .one (.i64 (n + 1:Nat)))]) [some ((encN key B n).map AC.u8), some (replicate 16 (AC.u8 0)), some (boxT.map AC.u8), some ((exL key 176).map AC.u8)] := by
  have z : Flat (replicate 16 (AC.u8 0)) := by rw [mrep]; exact flat_u8 _
  intro d
  induction d with
  | zero =>
    intro n hn
    have hn : n = 10 := by omega
    subst hn
    have e : encN key B 10 = encF key B := rfl
    have hl : (encF key B).length = 16 := encN_len _ _ _
    refine vc46a hX _ _ _ _ _ ⟨fun h => absurd (of_decide_eq_true h) (by omega), fun _ => ?_⟩
    rw [e]
    simp only [hide_eq, tkm, tk0, map_as8, layR, layC, layM, lay1, tkn, List.drop_zero, Nat.zero_add, Nat.mul_one, Nat.reduceAdd, Nat.le_refl, Nat.min_self, Nat.reduceLeDiff, same_self, Int.toNat_natCast, List.length_map, List.length_append, List.length_replicate, List.length_take, List.length_drop, tab16_len, hl]
    (repeat' (first | exact trivial | exact flat_u8 _ | exact flatA _ | exact allU8_map _ | exact Nat.le_refl _ | refine And.intro ?_ ?_)) <;> (first | omega | exact z | (unfold in64; omega) | exact List.length_map _ | (show Is _ _ _; exact rfl) | skip)
  | succ d ih =>
    intro n hn
    have K := l46b hX key B (encN key B n) (encN_len _ _ _) (n + 1) (by omega) (ih (n + 1) (by omega)) 4 0 rfl
    have e0 : (SU (encN key B n) (4 * 0)).map AC.u8 = replicate 16 (AC.u8 0) := by
      rw [show SU (encN key B n) (4 * 0) = replicate 16 0 from begT _ _, List.map_replicate]
    rw [e0] at K
    refine vc46a hX _ _ _ _ _ ⟨fun _ => ?_, fun h => absurd (of_decide_eq_false h) (by omega)⟩
    (repeat' (first | exact trivial | exact flat_u8 _ | exact flatA _ | exact allU8_map _ | exact Nat.le_refl _ | refine And.intro ?_ ?_)) <;> (first | omega | exact z | (unfold in64; omega) | exact List.length_map _ | (show Is _ _ _; exact rfl) | skip)
    exact ⟨K⟩
theorem s46 (key b : List (BitVec 8)) (hk : key.length = 16) (hb : b.length = 16) : Spec Try.prog 46 [.agg (key.map AC.u8), .agg (b.map AC.u8)] [] (Is (.agg ((encF key b).map AC.u8))) := by
  refine Spec.of_run ok46 fun X hX => vc46 hX _ _ ?_
  have K := l46a hX key b hb 10 0 rfl
  rw [show encN key b 0 = xorL b (rkF key 0) from rfl] at K
  have z : Flat (replicate 16 (AC.u8 0)) := by rw [mrep]; exact flat_u8 _
  have hE := exL_len key 176
  have hB := boxT_len
  have ek : key.take 16 = key := List.take_of_length_le (by omega)
  have eb : b.take 16 = b := List.take_of_length_le (by omega)
  have e16 : (exL key 176).take 16 = rkF key 0 := by unfold rkF; rw [Nat.mul_zero, List.drop_zero]
  have ebx : boxT.take 256 = boxT := List.take_of_length_le (by omega)
  have hr := rkF_len key (n := 0) (by omega)
  have l1 : layS (replicate 256 (AC.u8 0)) 0 (boxT.map AC.u8) = boxT.map AC.u8 := layR _ _ hB
  have l2 : layS (replicate 176 (AC.u8 0)) 0 ((exL key 176).map AC.u8) = (exL key 176).map AC.u8 := layR _ _ hE
  have l3 : layS (b.map AC.u8) 0 ((xorL b (rkF key 0)).map AC.u8) = (xorL b (rkF key 0)).map AC.u8 := layM _ _ (by rw [xorL_len, hb])
  simp only [hide_eq, tkm, tk0, List.drop_zero, ek, eb, map_as8, l1, l2, e16, ebx, l3, List.length_map, hE, hB, hk, hb, hr, xorL_len]
  clear hE hB ek eb e16 ebx hr l1 l2 l3
  (repeat' (first | exact trivial | exact flat_u8 _ | exact flatA _ | exact allU8_map _ | exact Nat.le_refl _ | refine And.intro ?_ ?_)) <;> (first | omega | exact z | (unfold in64; omega) | exact List.length_map _ | (show Is _ _ _; exact rfl) | skip)
  exact ⟨K⟩
end DH
noncomputable section
namespace DH
open List (take drop replicate)
open Go Go.Proofs
/-! a block that is known -/
noncomputable def T15 : Tab := fun f xs => match f, xs with
  | 46, [.agg cs, .agg bs] => some ([allU8 cs ∧ cs.length = 16 ∧ allU8 bs ∧ bs.length = 16], .agg (hide ((encF (cs.map asU8) (bs.map asU8)).map AC.u8)))
  | f, xs => T14 f xs
theorem T15_ok : TabOk Try.prog T15 := by
  intro f xs cs r h hc
  unfold T15 at h
  split at h
  · obtain ⟨rfl, rfl⟩ := Prod.mk.inj (Option.some.inj h)
    obtain ⟨h1, h2, h3, h4⟩ := hc.1
    rename_i cs bs
    have := s46 (cs.map asU8) (bs.map asU8) (by rw [List.length_map]; exact h2) (by rw [List.length_map]; exact h4)
    rw [← h1, ← h3] at this
    rw [hide_eq]
    exact ⟨⟨_, _, ok46⟩, this, exactL_map _ (fun _ => rfl) _⟩
  · exact T14_ok _ _ _ _ h hc
end DH
noncomputable section
namespace DH
open List (take drop replicate)
open Go Go.Proofs
noncomputable def T16 : Tab := T15
theorem T16_ok : TabOk Try.prog T16 := T15_ok
theorem encF_len (key b : List (BitVec 8)) : (encF key b).length = 16 := encN_len _ _ _
end DH
noncomputable section
namespace DH
open List (take drop replicate)
open Go Go.Proofs
/-! Round -/
noncomputable def T17 : Tab := T16
theorem T17_ok : TabOk Try.prog T17 := T16_ok
end DH
noncomputable section
namespace DH
open List (take drop replicate)
open Go Go.Proofs
theorem kflat (ks : List (BitVec 8)) (b : Bool) : Flat (AC.b b :: ks.map AC.u8) := fun c h => by
  rcases List.mem_cons.1 h with rfl | h
  · rfl
  · exact flat_u8 _ c h
end DH
noncomputable section
namespace DH
open List (take drop replicate)
open Go Go.Proofs
end DH
noncomputable section
namespace DH
open List (take drop replicate)
open Go Go.Proofs
theorem tab16_set (f g : Nat → BitVec 8) {j : Nat} (hj : j < 16) {v : BitVec 8} (h1 : g j = v) (h2 : ∀ i, i < 16 → i ≠ j → g i = f i) : (tab16 f).set j v = tab16 g := by
  apply List.ext_getElem (by rw [List.length_set, tab16_len, tab16_len])
  intro i h3 h4
  rw [tab16_len] at h4
  have e : ∀ k : Nat → BitVec 8, ∀ h : i < (tab16 k).length, (tab16 k)[i] = k i := fun k h => by
    have := tab16_get k h4
    rw [List.getD_eq_getElem?_getD, List.getElem?_eq_getElem h] at this
    exact this
  rw [List.getElem_set, e]
  split
  · rename_i hji; subst hji; exact h1.symm.trans (e g _).symm
  · rename_i hji; rw [e]; exact (h2 i h4 (fun e => hji e.symm)).symm
noncomputable def T18 : Tab := T17
theorem T18_ok : TabOk Try.prog T18 := T17_ok
theorem u8_inj {a b : List (BitVec 8)} (h : a.map AC.u8 = b.map AC.u8) : a = b := by
  have := congrArg (List.map asU8) h
  rwa [map_as8, map_as8] at this
theorem same_u8 (a b : List (BitVec 8)) : sameCells (a.map AC.u8) (b.map AC.u8) = decide (a = b) := by
  unfold sameCells
  exact decide_eq_decide.2 ⟨u8_inj, fun h => by rw [h]⟩
end DH
noncomputable section
namespace DH
open List (take drop replicate)
open Go Go.Proofs
end DH
