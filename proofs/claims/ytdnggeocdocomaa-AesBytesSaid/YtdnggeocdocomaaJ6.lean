/- Walks of functions, each by evaluation: what each returns. -/
import Derived.Test.YtdnggeocdocomaaJ5
set_option linter.unusedVariables false
set_option linter.unusedSimpArgs false
noncomputable section
namespace DH
open Go Go.Proofs
def keyOf (cs : List AC) : List (BitVec 8) := (List.map asU8 cs).take 16
theorem keyOf_ex (key : List (BitVec 8)) (hk : key.length = 16) : keyOf ((exL key 176).map AC.u8) = key := by
  unfold keyOf
  rw [map_as8]
  apply List.ext_getElem (by rw [List.length_take, exL_len, hk]; omega)
  intro j h1 h2
  have := eat_lo key (j := j) (by omega)
  rw [← E_get key (by omega), List.getD_eq_getElem?_getD, List.getD_eq_getElem?_getD, List.getElem?_eq_getElem h2, List.getElem?_eq_getElem (by rw [exL_len]; omega)] at this
  rw [List.getElem_take]
  exact this
noncomputable def T14 : Tab := fun f xs => match f, xs with
  | 53, [.agg cs, .agg bs] => some ([allU8 cs ∧ cs.length = 16 ∧ bs = boxT.map AC.u8], .agg (hide ((exL (cs.map asU8) 176).map AC.u8)))
  | 45, [.agg (.b true :: cs), .agg bs] => some ([cs = (exL (keyOf cs) 176).map AC.u8 ∧ (keyOf cs).length = 16 ∧ allU8 bs ∧ bs.length = 16], .agg (hide ((encF (keyOf cs) (bs.map asU8)).map AC.u8)))
  | 45, [.agg (.b false :: cs), .agg bs] => some ([allU8 cs ∧ cs.length = 176 ∧ allU8 bs ∧ bs.length = 16], .agg (hide ((encF zkey (bs.map asU8)).map AC.u8)))
  | f, xs => T13 f xs
theorem T14_ok : TabOk Try.prog T14 := by
  intro f xs cs r h hc
  unfold T14 at h
  split at h
  · obtain ⟨rfl, rfl⟩ := Prod.mk.inj (Option.some.inj h)
    obtain ⟨h1, h2, rfl⟩ := hc.1
    rename_i cs
    have := s53 (cs.map asU8) (by rw [List.length_map]; exact h2)
    rw [← h1] at this
    rw [hide_eq]
    exact ⟨⟨_, _, ok53⟩, this, exactL_map _ (fun _ => rfl) _⟩
  · obtain ⟨rfl, rfl⟩ := Prod.mk.inj (Option.some.inj h)
    obtain ⟨h1, h2, h3, h4⟩ := hc.1
    rename_i cs bs
    have := s45t (keyOf cs) (bs.map asU8) (by rw [List.length_map]; exact h4)
    unfold kc at this
    rw [← h1, ← h3] at this
    rw [hide_eq]
    exact ⟨⟨_, _, ok45⟩, this, exactL_map _ (fun _ => rfl) _⟩
  · obtain ⟨rfl, rfl⟩ := Prod.mk.inj (Option.some.inj h)
    obtain ⟨h1, h2, h3, h4⟩ := hc.1
    rename_i cs bs
    have := s45f (cs.map asU8) (by rw [List.length_map]; exact h2) (bs.map asU8) (by rw [List.length_map]; exact h4)
    unfold kc at this
    rw [← h1, ← h3] at this
    rw [hide_eq]
    exact ⟨⟨_, _, ok45⟩, this, exactL_map _ (fun _ => rfl) _⟩
  · exact T13_ok _ _ _ _ h hc
set_option maxRecDepth 100000 in
theorem vc46 {X : Ctx} {Q : AV → Mem → Prop} (hX : X.P = Try.prog) (ks bs : List AC) (h : (List.length (hide (List.map AC.u8 boxT)) = 256 ∧ 256 ≤ 256) ∧ 16 ≤ List.length ks ∧ 256 ≤ List.length (layS (List.replicate 256 (AC.u8 (0 : BitVec 8))) 0 (hide (List.map AC.u8 boxT))) ∧ Flat (List.take 16 (List.drop 0 ks)) ∧ Flat (List.take 256 (List.drop 0 (layS (List.replicate 256 (AC.u8 (0 : BitVec 8))) 0 (hide (List.map AC.u8 boxT))))) ∧ (allU8 (List.take 16 (List.drop 0 ks)) ∧ List.length (List.take 16 (List.drop 0 ks)) = 16 ∧ List.take 256 (List.drop 0 (layS (List.replicate 256 (AC.u8 (0 : BitVec 8))) 0 (hide (List.map AC.u8 boxT)))) = List.map AC.u8 boxT) ∧ (List.length (hide (List.map AC.u8 (exL (List.map asU8 (List.take 16 (List.drop 0 ks))) 176))) = 176 ∧ 176 ≤ 176) ∧ 16 ≤ List.length bs ∧ ((0 : Int) ≤ (0 : Int) ∧ (0 : Int) < (↑11 : Int)) ∧ 16 ≤ List.length (layS (List.replicate 176 (AC.u8 (0 : BitVec 8))) 0 (hide (List.map AC.u8 (exL (List.map asU8 (List.take 16 (List.drop 0 ks))) 176)))) ∧ Flat (List.take 16 (List.drop 0 bs)) ∧ Flat (List.take 16 (List.drop 0 (layS (List.replicate 176 (AC.u8 (0 : BitVec 8))) 0 (hide (List.map AC.u8 (exL (List.map asU8 (List.take 16 (List.drop 0 ks))) 176)))))) ∧ (allU8 (List.take 16 (List.drop 0 bs)) ∧ List.length (List.take 16 (List.drop 0 bs)) = 16 ∧ allU8 (List.take 16 (List.drop 0 (layS (List.replicate 176 (AC.u8 (0 : BitVec 8))) 0 (hide (List.map AC.u8 (exL (List.map asU8 (List.take 16 (List.drop 0 ks))) 176)))))) ∧ List.length (List.take 16 (List.drop 0 (layS (List.replicate 176 (AC.u8 (0 : BitVec 8))) 0 (hide (List.map AC.u8 (exL (List.map asU8 (List.take 16 (List.drop 0 ks))) 176)))))) = 16) ∧ (List.length (hide (List.map AC.u8 (xorL (List.map asU8 (List.take 16 (List.drop 0 bs))) (List.map asU8 (List.take 16 (List.drop 0 (layS (List.replicate 176 (AC.u8 (0 : BitVec 8))) 0 (hide (List.map AC.u8 (exL (List.map asU8 (List.take 16 (List.drop 0 ks))) 176)))))))))) = 16 ∧ 16 ≤ List.length bs) ∧ Flat (layS bs 0 (hide (List.map AC.u8 (xorL (List.map asU8 (List.take 16 (List.drop 0 bs))) (List.map asU8 (List.take 16 (List.drop 0 (layS (List.replicate 176 (AC.u8 (0 : BitVec 8))) 0 (hide (List.map AC.u8 (exL (List.map asU8 (List.take 16 (List.drop 0 ks))) 176))))))))))) ∧ Flat (List.replicate 16 (AC.u8 (0 : BitVec 8))) ∧ Flat (layS (List.replicate 256 (AC.u8 (0 : BitVec 8))) 0 (hide (List.map AC.u8 boxT))) ∧ Flat (layS (List.replicate 176 (AC.u8 (0 : BitVec 8))) 0 (hide (List.map AC.u8 (exL (List.map asU8 (List.take 16 (List.drop 0 ks))) 176)))) ∧ KR X 46 0 Q (kOf Try.f46 0) (mkS 109 [(3, AV.one (AC.ptr 0 0)), (4, AV.one (AC.ptr 1 0)), (5, AV.one (AC.ptr 2 0)), (6, AV.one (AC.ptr 3 0)), (7, AV.one (AC.i64 (1 : Int)))]) [some (layS bs 0 (hide (List.map AC.u8 (xorL (List.map asU8 (List.take 16 (List.drop 0 bs))) (List.map asU8 (List.take 16 (List.drop 0 (layS (List.replicate 176 (AC.u8 (0 : BitVec 8))) 0 (hide (List.map AC.u8 (exL (List.map asU8 (List.take 16 (List.drop 0 ks))) 176))))))))))), some (List.replicate 16 (AC.u8 (0 : BitVec 8))), some (layS (List.replicate 256 (AC.u8 (0 : BitVec 8))) 0 (hide (List.map AC.u8 boxT))), some (layS (List.replicate 176 (AC.u8 (0 : BitVec 8))) 0 (hide (List.map AC.u8 (exL (List.map asU8 (List.take 16 (List.drop 0 ks))) 176))))]) : KRun X 46 0 Q ([.code (bodyOf Try.f46)]) (slots [.agg ks, .agg bs] Try.f46.ntmps) [] :=
  wpRun_ok (hX ▸ baseK_ok T14 mf13 M13) (hX ▸ baseK_call T14_ok M13_ok) (hX ▸ mixed) (hX ▸ ok46) LK_ok (cast (β := wpRun (baseK T14 mf13 M13) [23, 27, 31, 52, 55, 60] [(22, 40), (23, 5)] false (RS.mk Try.f46.results.toList 0 (CS.mk [] [] [0] [])) (LK X 46 0 Q true [(5, LS.mk [3, 4, 5, 6, 7] (CS.mk [] [true, true, true, true] [] [])), (9, LS.mk [3, 4, 5, 6, 7, 8, 9, 10] (CS.mk [] [true, true, true, true, true, true] [] [])), (12, LS.mk [3, 4, 5, 6, 7, 8, 9, 10, 11] (CS.mk [] [true, true, true, true, true, true] [] [])), (17, LS.mk [3, 4, 5, 6, 7, 8, 9, 12] (CS.mk [] [true, true, true, true, true, true] [] [])), (20, LS.mk [3, 4, 5, 6, 7, 8, 9, 12, 13] (CS.mk [] [true, true, true, true, true, true] [] []))]) Q 2000 ([.code (bodyOf Try.f46)]) (slots [.agg ks, .agg bs] Try.f46.ntmps) []) (by kernel_rfl) h)
set_option maxRecDepth 100000 in
theorem vc46a {X : Ctx} {Q : AV → Mem → Prop} (hX : X.P = Try.prog) (bs zs xs ks : List AC) (n : Int) (h : (decide (n ≤ (10 : Int)) = true → Flat bs ∧ Flat zs ∧ Flat xs ∧ Flat ks ∧ Flat (List.replicate 16 (AC.u8 (0 : BitVec 8))) ∧ Flat (List.replicate 16 (AC.u8 (0 : BitVec 8))) ∧ KR X 46 0 Q (kOf Try.f46 1) (mkS 109 [(3, AV.one (AC.ptr 0 0)), (4, AV.one (AC.ptr 1 0)), (5, AV.one (AC.ptr 2 0)), (6, AV.one (AC.ptr 3 0)), (7, AV.one (AC.i64 n)), (8, AV.one (AC.ptr 4 0)), (9, AV.one (AC.ptr 5 0)), (10, AV.one (AC.i64 (0 : Int)))]) [some bs, some zs, some xs, some ks, some (List.replicate 16 (AC.u8 (0 : BitVec 8))), some (List.replicate 16 (AC.u8 (0 : BitVec 8)))]) ∧ (decide (n ≤ (10 : Int)) = false → 16 ≤ List.length bs ∧ (List.length (List.take 16 (List.drop 0 bs)) = 16 ∧ 16 ≤ List.length zs) ∧ 16 ≤ List.length (layS zs 0 (List.take 16 (List.drop 0 bs))) ∧ flatAV (AV.agg (List.take 16 (List.drop 0 (layS zs 0 (List.take 16 (List.drop 0 bs)))))) ∧ Q (AV.agg (List.take 16 (List.drop 0 (layS zs 0 (List.take 16 (List.drop 0 bs)))))) [])) : KRun X 46 0 Q (kOf Try.f46 0) (mkS 109 [(3, .one (.ptr 0 0)), (4, .one (.ptr 1 0)), (5, .one (.ptr 2 0)), (6, .one (.ptr 3 0)), (7, .one (.i64 n))]) [some bs, some zs, some xs, some ks] :=
  wpRun_ok (hX ▸ baseK_ok T14 mf13 M13) (hX ▸ baseK_call T14_ok M13_ok) (hX ▸ mixed) (hX ▸ ok46) LK_ok (cast (β := wpRun (baseK T14 mf13 M13) [23, 27, 31, 52, 55, 60] [(22, 40), (23, 5)] false (RS.mk Try.f46.results.toList 0 (CS.mk [] [] [0] [])) (LK X 46 0 Q true [(5, LS.mk [3, 4, 5, 6, 7] (CS.mk [] [true, true, true, true] [] [])), (9, LS.mk [3, 4, 5, 6, 7, 8, 9, 10] (CS.mk [] [true, true, true, true, true, true] [] [])), (12, LS.mk [3, 4, 5, 6, 7, 8, 9, 10, 11] (CS.mk [] [true, true, true, true, true, true] [] [])), (17, LS.mk [3, 4, 5, 6, 7, 8, 9, 12] (CS.mk [] [true, true, true, true, true, true] [] [])), (20, LS.mk [3, 4, 5, 6, 7, 8, 9, 12, 13] (CS.mk [] [true, true, true, true, true, true] [] []))]) Q 2000 (kOf Try.f46 0) (mkS 109 [(3, .one (.ptr 0 0)), (4, .one (.ptr 1 0)), (5, .one (.ptr 2 0)), (6, .one (.ptr 3 0)), (7, .one (.i64 n))]) [some bs, some zs, some xs, some ks]) (by kernel_rfl) h)
set_option maxRecDepth 100000 in
theorem vc46b {X : Ctx} {Q : AV → Mem → Prop} (hX : X.P = Try.prog) (bs zs xs ks us vs : List AC) (n c : Int) (h : (decide (c < (4 : Int)) = true → Flat bs ∧ Flat zs ∧ Flat xs ∧ Flat ks ∧ Flat us ∧ Flat vs ∧ KR X 46 0 Q (kOf Try.f46 2) (mkS 109 [(3, AV.one (AC.ptr 0 0)), (4, AV.one (AC.ptr 1 0)), (5, AV.one (AC.ptr 2 0)), (6, AV.one (AC.ptr 3 0)), (7, AV.one (AC.i64 n)), (8, AV.one (AC.ptr 4 0)), (9, AV.one (AC.ptr 5 0)), (10, AV.one (AC.i64 c)), (11, AV.one (AC.i64 (0 : Int)))]) [some bs, some zs, some xs, some ks, some us, some vs]) ∧ (decide (c < (4 : Int)) = false → 16 ≤ List.length us ∧ (List.length (List.take 16 (List.drop 0 us)) = 16 ∧ 16 ≤ List.length vs) ∧ Flat bs ∧ Flat zs ∧ Flat xs ∧ Flat ks ∧ Flat us ∧ Flat (layS vs 0 (List.take 16 (List.drop 0 us))) ∧ KR X 46 0 Q (kOf Try.f46 3) (mkS 109 [(3, AV.one (AC.ptr 0 0)), (4, AV.one (AC.ptr 1 0)), (5, AV.one (AC.ptr 2 0)), (6, AV.one (AC.ptr 3 0)), (7, AV.one (AC.i64 n)), (8, AV.one (AC.ptr 4 0)), (9, AV.one (AC.ptr 5 0)), (12, AV.one (AC.i64 (0 : Int)))]) [some bs, some zs, some xs, some ks, some us, some (layS vs 0 (List.take 16 (List.drop 0 us)))])) : KRun X 46 0 Q (kOf Try.f46 1) (mkS 109 [(3, .one (.ptr 0 0)), (4, .one (.ptr 1 0)), (5, .one (.ptr 2 0)), (6, .one (.ptr 3 0)), (7, .one (.i64 n)), (8, .one (.ptr 4 0)), (9, .one (.ptr 5 0)), (10, .one (.i64 c))]) [some bs, some zs, some xs, some ks, some us, some vs] :=
  wpRun_ok (hX ▸ baseK_ok T14 mf13 M13) (hX ▸ baseK_call T14_ok M13_ok) (hX ▸ mixed) (hX ▸ ok46) LK_ok (cast (β := wpRun (baseK T14 mf13 M13) [23, 27, 31, 52, 55, 60] [(22, 40), (23, 5)] false (RS.mk Try.f46.results.toList 0 (CS.mk [] [] [0] [])) (LK X 46 0 Q true [(5, LS.mk [3, 4, 5, 6, 7] (CS.mk [] [true, true, true, true] [] [])), (9, LS.mk [3, 4, 5, 6, 7, 8, 9, 10] (CS.mk [] [true, true, true, true, true, true] [] [])), (12, LS.mk [3, 4, 5, 6, 7, 8, 9, 10, 11] (CS.mk [] [true, true, true, true, true, true] [] [])), (17, LS.mk [3, 4, 5, 6, 7, 8, 9, 12] (CS.mk [] [true, true, true, true, true, true] [] [])), (20, LS.mk [3, 4, 5, 6, 7, 8, 9, 12, 13] (CS.mk [] [true, true, true, true, true, true] [] []))]) Q 2000 (kOf Try.f46 1) (mkS 109 [(3, .one (.ptr 0 0)), (4, .one (.ptr 1 0)), (5, .one (.ptr 2 0)), (6, .one (.ptr 3 0)), (7, .one (.i64 n)), (8, .one (.ptr 4 0)), (9, .one (.ptr 5 0)), (10, .one (.i64 c))]) [some bs, some zs, some xs, some ks, some us, some vs]) (by kernel_rfl) h)
set_option maxRecDepth 100000 in
theorem vc46c {X : Ctx} {Q : AV → Mem → Prop} (hX : X.P = Try.prog) (bs zs xs ks us vs : List AC) (n c r : Int) (h : (decide (r < (4 : Int)) = true → in64 ((4 : Int) * c) ∧ in64 ((4 : Int) * c + r) ∧ in64 (c + r) ∧ (4 : Int) ≠ (0 : Int) ∧ in64 (Int.tmod (c + r) (4 : Int) * (4 : Int)) ∧ in64 (Int.tmod (c + r) (4 : Int) * (4 : Int) + r) ∧ ((0 : Int) ≤ Int.tmod (c + r) (4 : Int) * (4 : Int) + r ∧ Int.tmod (c + r) (4 : Int) * (4 : Int) + r < (↑16 : Int)) ∧ gt AC.any bs (0 + Int.toNat (Int.tmod (c + r) (4 : Int) * (4 : Int) + r) * 1) = AC.u8 (asU8 (gt AC.any bs (0 + Int.toNat (Int.tmod (c + r) (4 : Int) * (4 : Int) + r) * 1))) ∧ gt AC.any xs (0 + Int.toNat (↑(BitVec.toNat (asU8 (gt AC.any bs (0 + Int.toNat (Int.tmod (c + r) (4 : Int) * (4 : Int) + r) * 1)))) : Int) * 1) = AC.u8 (asU8 (gt AC.any xs (0 + Int.toNat (↑(BitVec.toNat (asU8 (gt AC.any bs (0 + Int.toNat (Int.tmod (c + r) (4 : Int) * (4 : Int) + r) * 1)))) : Int) * 1))) ∧ ((0 : Int) ≤ (4 : Int) * c + r ∧ (4 : Int) * c + r < (↑16 : Int)) ∧ (1 = 1 ∧ 0 + Int.toNat ((4 : Int) * c + r) * 1 + 1 ≤ List.length us) ∧ in64 (r + (1 : Int)) ∧ Flat bs ∧ Flat zs ∧ Flat xs ∧ Flat ks ∧ Flat (layS us (0 + Int.toNat ((4 : Int) * c + r) * 1) [AC.u8 (asU8 (gt AC.any xs (0 + Int.toNat (↑(BitVec.toNat (asU8 (gt AC.any bs (0 + Int.toNat (Int.tmod (c + r) (4 : Int) * (4 : Int) + r) * 1)))) : Int) * 1)))]) ∧ Flat vs ∧ KR X 46 0 Q (kOf Try.f46 2) (mkS 109 [(3, AV.one (AC.ptr 0 0)), (4, AV.one (AC.ptr 1 0)), (5, AV.one (AC.ptr 2 0)), (6, AV.one (AC.ptr 3 0)), (7, AV.one (AC.i64 n)), (8, AV.one (AC.ptr 4 0)), (9, AV.one (AC.ptr 5 0)), (10, AV.one (AC.i64 c)), (11, AV.one (AC.i64 (r + (1 : Int))))]) [some bs, some zs, some xs, some ks, some (layS us (0 + Int.toNat ((4 : Int) * c + r) * 1) [AC.u8 (asU8 (gt AC.any xs (0 + Int.toNat (↑(BitVec.toNat (asU8 (gt AC.any bs (0 + Int.toNat (Int.tmod (c + r) (4 : Int) * (4 : Int) + r) * 1)))) : Int) * 1)))]), some vs]) ∧ (decide (r < (4 : Int)) = false → in64 (c + (1 : Int)) ∧ Flat bs ∧ Flat zs ∧ Flat xs ∧ Flat ks ∧ Flat us ∧ Flat vs ∧ KR X 46 0 Q (kOf Try.f46 1) (mkS 109 [(3, AV.one (AC.ptr 0 0)), (4, AV.one (AC.ptr 1 0)), (5, AV.one (AC.ptr 2 0)), (6, AV.one (AC.ptr 3 0)), (7, AV.one (AC.i64 n)), (8, AV.one (AC.ptr 4 0)), (9, AV.one (AC.ptr 5 0)), (10, AV.one (AC.i64 (c + (1 : Int))))]) [some bs, some zs, some xs, some ks, some us, some vs])) : KRun X 46 0 Q (kOf Try.f46 2) (mkS 109 [(3, .one (.ptr 0 0)), (4, .one (.ptr 1 0)), (5, .one (.ptr 2 0)), (6, .one (.ptr 3 0)), (7, .one (.i64 n)), (8, .one (.ptr 4 0)), (9, .one (.ptr 5 0)), (10, .one (.i64 c)), (11, .one (.i64 r))]) [some bs, some zs, some xs, some ks, some us, some vs] :=
  wpRun_ok (hX ▸ baseK_ok T14 mf13 M13) (hX ▸ baseK_call T14_ok M13_ok) (hX ▸ mixed) (hX ▸ ok46) LK_ok (cast (β := wpRun (baseK T14 mf13 M13) [23, 27, 31, 52, 55, 60] [(22, 40), (23, 5)] false (RS.mk Try.f46.results.toList 0 (CS.mk [] [] [0] [])) (LK X 46 0 Q true [(5, LS.mk [3, 4, 5, 6, 7] (CS.mk [] [true, true, true, true] [] [])), (9, LS.mk [3, 4, 5, 6, 7, 8, 9, 10] (CS.mk [] [true, true, true, true, true, true] [] [])), (12, LS.mk [3, 4, 5, 6, 7, 8, 9, 10, 11] (CS.mk [] [true, true, true, true, true, true] [] [])), (17, LS.mk [3, 4, 5, 6, 7, 8, 9, 12] (CS.mk [] [true, true, true, true, true, true] [] [])), (20, LS.mk [3, 4, 5, 6, 7, 8, 9, 12, 13] (CS.mk [] [true, true, true, true, true, true] [] []))]) Q 2000 (kOf Try.f46 2) (mkS 109 [(3, .one (.ptr 0 0)), (4, .one (.ptr 1 0)), (5, .one (.ptr 2 0)), (6, .one (.ptr 3 0)), (7, .one (.i64 n)), (8, .one (.ptr 4 0)), (9, .one (.ptr 5 0)), (10, .one (.i64 c)), (11, .one (.i64 r))]) [some bs, some zs, some xs, some ks, some us, some vs]) (by kernel_rfl) h)
set_option maxRecDepth 100000 in
theorem vc46d {X : Ctx} {Q : AV → Mem → Prop} (hX : X.P = Try.prog) (bs zs xs ks us vs : List AC) (n c : Int) (h : (decide (c < (4 : Int)) = true → (decide (n < (10 : Int)) = true → Flat bs ∧ Flat zs ∧ Flat xs ∧ Flat ks ∧ Flat us ∧ Flat vs ∧ KR X 46 0 Q (kOf Try.f46 4) (mkS 109 [(3, AV.one (AC.ptr 0 0)), (4, AV.one (AC.ptr 1 0)), (5, AV.one (AC.ptr 2 0)), (6, AV.one (AC.ptr 3 0)), (7, AV.one (AC.i64 n)), (8, AV.one (AC.ptr 4 0)), (9, AV.one (AC.ptr 5 0)), (12, AV.one (AC.i64 c)), (13, AV.one (AC.i64 (0 : Int)))]) [some bs, some zs, some xs, some ks, some us, some vs]) ∧ (decide (n < (10 : Int)) = false → 16 ≤ List.length vs ∧ ((0 : Int) ≤ n ∧ n < (↑11 : Int)) ∧ 0 + Int.toNat n * 16 + 16 ≤ List.length ks ∧ Flat (List.take 16 (List.drop 0 vs)) ∧ Flat (List.take 16 (List.drop (0 + Int.toNat n * 16) ks)) ∧ (allU8 (List.take 16 (List.drop 0 vs)) ∧ List.length (List.take 16 (List.drop 0 vs)) = 16 ∧ allU8 (List.take 16 (List.drop (0 + Int.toNat n * 16) ks)) ∧ List.length (List.take 16 (List.drop (0 + Int.toNat n * 16) ks)) = 16) ∧ (List.length (hide (List.map AC.u8 (xorL (List.map asU8 (List.take 16 (List.drop 0 vs))) (List.map asU8 (List.take 16 (List.drop (0 + Int.toNat n * 16) ks)))))) = 16 ∧ 16 ≤ List.length bs) ∧ in64 (n + (1 : Int)) ∧ Flat (layS bs 0 (hide (List.map AC.u8 (xorL (List.map asU8 (List.take 16 (List.drop 0 vs))) (List.map asU8 (List.take 16 (List.drop (0 + Int.toNat n * 16) ks))))))) ∧ Flat zs ∧ Flat xs ∧ Flat ks ∧ KR X 46 0 Q (kOf Try.f46 0) (mkS 109 [(3, AV.one (AC.ptr 0 0)), (4, AV.one (AC.ptr 1 0)), (5, AV.one (AC.ptr 2 0)), (6, AV.one (AC.ptr 3 0)), (7, AV.one (AC.i64 (n + (1 : Int))))]) [some (layS bs 0 (hide (List.map AC.u8 (xorL (List.map asU8 (List.take 16 (List.drop 0 vs))) (List.map asU8 (List.take 16 (List.drop (0 + Int.toNat n * 16) ks))))))), some zs, some xs, some ks])) ∧ (decide (c < (4 : Int)) = false → 16 ≤ List.length vs ∧ ((0 : Int) ≤ n ∧ n < (↑11 : Int)) ∧ 0 + Int.toNat n * 16 + 16 ≤ List.length ks ∧ Flat (List.take 16 (List.drop 0 vs)) ∧ Flat (List.take 16 (List.drop (0 + Int.toNat n * 16) ks)) ∧ (allU8 (List.take 16 (List.drop 0 vs)) ∧ List.length (List.take 16 (List.drop 0 vs)) = 16 ∧ allU8 (List.take 16 (List.drop (0 + Int.toNat n * 16) ks)) ∧ List.length (List.take 16 (List.drop (0 + Int.toNat n * 16) ks)) = 16) ∧ (List.length (hide (List.map AC.u8 (xorL (List.map asU8 (List.take 16 (List.drop 0 vs))) (List.map asU8 (List.take 16 (List.drop (0 + Int.toNat n * 16) ks)))))) = 16 ∧ 16 ≤ List.length bs) ∧ in64 (n + (1 : Int)) ∧ Flat (layS bs 0 (hide (List.map AC.u8 (xorL (List.map asU8 (List.take 16 (List.drop 0 vs))) (List.map asU8 (List.take 16 (List.drop (0 + Int.toNat n * 16) ks))))))) ∧ Flat zs ∧ Flat xs ∧ Flat ks ∧ KR X 46 0 Q (kOf Try.f46 0) (mkS 109 [(3, AV.one (AC.ptr 0 0)), (4, AV.one (AC.ptr 1 0)), (5, AV.one (AC.ptr 2 0)), (6, AV.one (AC.ptr 3 0)), (7, AV.one (AC.i64 (n + (1 : Int))))]) [some (layS bs 0 (hide (List.map AC.u8 (xorL (List.map asU8 (List.take 16 (List.drop 0 vs))) (List.map asU8 (List.take 16 (List.drop (0 + Int.toNat n * 16) ks))))))), some zs, some xs, some ks])) : KRun X 46 0 Q (kOf Try.f46 3) (mkS 109 [(3, .one (.ptr 0 0)), (4, .one (.ptr 1 0)), (5, .one (.ptr 2 0)), (6, .one (.ptr 3 0)), (7, .one (.i64 n)), (8, .one (.ptr 4 0)), (9, .one (.ptr 5 0)), (12, .one (.i64 c))]) [some bs, some zs, some xs, some ks, some us, some vs] :=
  wpRun_ok (hX ▸ baseK_ok T14 mf13 M13) (hX ▸ baseK_call T14_ok M13_ok) (hX ▸ mixed) (hX ▸ ok46) LK_ok (cast (β := wpRun (baseK T14 mf13 M13) [23, 27, 31, 52, 55, 60] [(22, 40), (23, 5)] false (RS.mk Try.f46.results.toList 0 (CS.mk [] [] [0] [])) (LK X 46 0 Q true [(5, LS.mk [3, 4, 5, 6, 7] (CS.mk [] [true, true, true, true] [] [])), (9, LS.mk [3, 4, 5, 6, 7, 8, 9, 10] (CS.mk [] [true, true, true, true, true, true] [] [])), (12, LS.mk [3, 4, 5, 6, 7, 8, 9, 10, 11] (CS.mk [] [true, true, true, true, true, true] [] [])), (17, LS.mk [3, 4, 5, 6, 7, 8, 9, 12] (CS.mk [] [true, true, true, true, true, true] [] [])), (20, LS.mk [3, 4, 5, 6, 7, 8, 9, 12, 13] (CS.mk [] [true, true, true, true, true, true] [] []))]) Q 2000 (kOf Try.f46 3) (mkS 109 [(3, .one (.ptr 0 0)), (4, .one (.ptr 1 0)), (5, .one (.ptr 2 0)), (6, .one (.ptr 3 0)), (7, .one (.i64 n)), (8, .one (.ptr 4 0)), (9, .one (.ptr 5 0)), (12, .one (.i64 c))]) [some bs, some zs, some xs, some ks, some us, some vs]) (by kernel_rfl) h)
set_option maxRecDepth 100000 in
theorem vc46e {X : Ctx} {Q : AV → Mem → Prop} (hX : X.P = Try.prog) (bs zs xs ks us vs : List AC) (n c r : Int) (h : (decide (r < (4 : Int)) = true → in64 ((4 : Int) * c) ∧ in64 ((4 : Int) * c + r) ∧ in64 ((4 : Int) * c) ∧ in64 ((4 : Int) * c + r) ∧ ((0 : Int) ≤ (4 : Int) * c + r ∧ (4 : Int) * c + r < (↑16 : Int)) ∧ gt AC.any us (0 + Int.toNat ((4 : Int) * c + r) * 1) = AC.u8 (asU8 (gt AC.any us (0 + Int.toNat ((4 : Int) * c + r) * 1))) ∧ in64 ((4 : Int) * c) ∧ in64 (r + (1 : Int)) ∧ (4 : Int) ≠ (0 : Int) ∧ in64 ((4 : Int) * c + Int.tmod (r + (1 : Int)) (4 : Int)) ∧ ((0 : Int) ≤ (4 : Int) * c + Int.tmod (r + (1 : Int)) (4 : Int) ∧ (4 : Int) * c + Int.tmod (r + (1 : Int)) (4 : Int) < (↑16 : Int)) ∧ gt AC.any us (0 + Int.toNat ((4 : Int) * c + Int.tmod (r + (1 : Int)) (4 : Int)) * 1) = AC.u8 (asU8 (gt AC.any us (0 + Int.toNat ((4 : Int) * c + Int.tmod (r + (1 : Int)) (4 : Int)) * 1))) ∧ in64 ((4 : Int) * c) ∧ in64 (r + (2 : Int)) ∧ (4 : Int) ≠ (0 : Int) ∧ in64 ((4 : Int) * c + Int.tmod (r + (2 : Int)) (4 : Int)) ∧ ((0 : Int) ≤ (4 : Int) * c + Int.tmod (r + (2 : Int)) (4 : Int) ∧ (4 : Int) * c + Int.tmod (r + (2 : Int)) (4 : Int) < (↑16 : Int)) ∧ gt AC.any us (0 + Int.toNat ((4 : Int) * c + Int.tmod (r + (2 : Int)) (4 : Int)) * 1) = AC.u8 (asU8 (gt AC.any us (0 + Int.toNat ((4 : Int) * c + Int.tmod (r + (2 : Int)) (4 : Int)) * 1))) ∧ in64 ((4 : Int) * c) ∧ in64 (r + (3 : Int)) ∧ (4 : Int) ≠ (0 : Int) ∧ in64 ((4 : Int) * c + Int.tmod (r + (3 : Int)) (4 : Int)) ∧ ((0 : Int) ≤ (4 : Int) * c + Int.tmod (r + (3 : Int)) (4 : Int) ∧ (4 : Int) * c + Int.tmod (r + (3 : Int)) (4 : Int) < (↑16 : Int)) ∧ gt AC.any us (0 + Int.toNat ((4 : Int) * c + Int.tmod (r + (3 : Int)) (4 : Int)) * 1) = AC.u8 (asU8 (gt AC.any us (0 + Int.toNat ((4 : Int) * c + Int.tmod (r + (3 : Int)) (4 : Int)) * 1))) ∧ ((0 : Int) ≤ (4 : Int) * c + r ∧ (4 : Int) * c + r < (↑16 : Int)) ∧ (1 = 1 ∧ 0 + Int.toNat ((4 : Int) * c + r) * 1 + 1 ≤ List.length vs) ∧ in64 (r + (1 : Int)) ∧ Flat bs ∧ Flat zs ∧ Flat xs ∧ Flat ks ∧ Flat us ∧ Flat (layS vs (0 + Int.toNat ((4 : Int) * c + r) * 1) [AC.u8 (tmF (asU8 (gt AC.any us (0 + Int.toNat ((4 : Int) * c + r) * 1))) (BitVec.ofInt 8 (2 : Int)) ^^^ tmF (asU8 (gt AC.any us (0 + Int.toNat ((4 : Int) * c + Int.tmod (r + (1 : Int)) (4 : Int)) * 1))) (BitVec.ofInt 8 (3 : Int)) ^^^ asU8 (gt AC.any us (0 + Int.toNat ((4 : Int) * c + Int.tmod (r + (2 : Int)) (4 : Int)) * 1)) ^^^ asU8 (gt AC.any us (0 + Int.toNat ((4 : Int) * c + Int.tmod (r + (3 : Int)) (4 : Int)) * 1)))]) ∧ KR X 46 0 Q (kOf Try.f46 4) (mkS 109 [(3, AV.one (AC.ptr 0 0)), (4, AV.one (AC.ptr 1 0)), (5, AV.one (AC.ptr 2 0)), (6, AV.one (AC.ptr 3 0)), (7, AV.one (AC.i64 n)), (8, AV.one (AC.ptr 4 0)), (9, AV.one (AC.ptr 5 0)), (12, AV.one (AC.i64 c)), (13, AV.one (AC.i64 (r + (1 : Int))))]) [some bs, some zs, some xs, some ks, some us, some (layS vs (0 + Int.toNat ((4 : Int) * c + r) * 1) [AC.u8 (tmF (asU8 (gt AC.any us (0 + Int.toNat ((4 : Int) * c + r) * 1))) (BitVec.ofInt 8 (2 : Int)) ^^^ tmF (asU8 (gt AC.any us (0 + Int.toNat ((4 : Int) * c + Int.tmod (r + (1 : Int)) (4 : Int)) * 1))) (BitVec.ofInt 8 (3 : Int)) ^^^ asU8 (gt AC.any us (0 + Int.toNat ((4 : Int) * c + Int.tmod (r + (2 : Int)) (4 : Int)) * 1)) ^^^ asU8 (gt AC.any us (0 + Int.toNat ((4 : Int) * c + Int.tmod (r + (3 : Int)) (4 : Int)) * 1)))])]) ∧ (decide (r < (4 : Int)) = false → in64 (c + (1 : Int)) ∧ Flat bs ∧ Flat zs ∧ Flat xs ∧ Flat ks ∧ Flat us ∧ Flat vs ∧ KR X 46 0 Q (kOf Try.f46 3) (mkS 109 [(3, AV.one (AC.ptr 0 0)), (4, AV.one (AC.ptr 1 0)), (5, AV.one (AC.ptr 2 0)), (6, AV.one (AC.ptr 3 0)), (7, AV.one (AC.i64 n)), (8, AV.one (AC.ptr 4 0)), (9, AV.one (AC.ptr 5 0)), (12, AV.one (AC.i64 (c + (1 : Int))))]) [some bs, some zs, some xs, some ks, some us, some vs])) : KRun X 46 0 Q (kOf Try.f46 4) (mkS 109 [(3, .one (.ptr 0 0)), (4, .one (.ptr 1 0)), (5, .one (.ptr 2 0)), (6, .one (.ptr 3 0)), (7, .one (.i64 n)), (8, .one (.ptr 4 0)), (9, .one (.ptr 5 0)), (12, .one (.i64 c)), (13, .one (.i64 r))]) [some bs, some zs, some xs, some ks, some us, some vs] :=
  wpRun_ok (hX ▸ baseK_ok T14 mf13 M13) (hX ▸ baseK_call T14_ok M13_ok) (hX ▸ mixed) (hX ▸ ok46) LK_ok (cast (β := wpRun (baseK T14 mf13 M13) [23, 27, 31, 52, 55, 60] [(22, 40), (23, 5)] false (RS.mk Try.f46.results.toList 0 (CS.mk [] [] [0] [])) (LK X 46 0 Q true [(5, LS.mk [3, 4, 5, 6, 7] (CS.mk [] [true, true, true, true] [] [])), (9, LS.mk [3, 4, 5, 6, 7, 8, 9, 10] (CS.mk [] [true, true, true, true, true, true] [] [])), (12, LS.mk [3, 4, 5, 6, 7, 8, 9, 10, 11] (CS.mk [] [true, true, true, true, true, true] [] [])), (17, LS.mk [3, 4, 5, 6, 7, 8, 9, 12] (CS.mk [] [true, true, true, true, true, true] [] [])), (20, LS.mk [3, 4, 5, 6, 7, 8, 9, 12, 13] (CS.mk [] [true, true, true, true, true, true] [] []))]) Q 2000 (kOf Try.f46 4) (mkS 109 [(3, .one (.ptr 0 0)), (4, .one (.ptr 1 0)), (5, .one (.ptr 2 0)), (6, .one (.ptr 3 0)), (7, .one (.i64 n)), (8, .one (.ptr 4 0)), (9, .one (.ptr 5 0)), (12, .one (.i64 c)), (13, .one (.i64 r))]) [some bs, some zs, some xs, some ks, some us, some vs]) (by kernel_rfl) h)

theorem mix_ref (s : List (BitVec 8)) (c r : Nat) (hc : c < 4) (hr : r < 4) : tmF (s.getD (4 * c + r) 0) 2#8 ^^^ tmF (s.getD (4 * c + (r + 1) % 4) 0) 3#8 ^^^ s.getD (4 * c + (r + 2) % 4) 0 ^^^ s.getD (4 * c + (r + 3) % 4) 0 = (mixL s).getD (4 * c + r) 0 := by
  unfold mixL
  rw [tab16_get _ (by omega), (tm_all _).1, (tm_all _).2.1]
  unfold col
  rw [show (4 * c + r) / 4 * 4 = 4 * c by omega, show (4 * c + r) % 4 = r by omega, show (r + 0) % 4 = r by omega]
def VM (s : List (BitVec 8)) (m : Nat) : List (BitVec 8) := (mixL s).take m ++ s.drop m
def SU (b : List (BitVec 8)) (m : Nat) : List (BitVec 8) := (shL b).take m ++ (List.replicate 16 0).drop m
theorem VM_len {s : List (BitVec 8)} (hs : s.length = 16) (m : Nat) : (VM s m).length = 16 := by
  unfold VM
  rw [lenT _ _ (by rw [mixL_len, hs]), hs]
theorem SU_len (b : List (BitVec 8)) (m : Nat) : (SU b m).length = 16 := by
  unfold SU
  rw [lenT _ _ (by rw [shL_len, List.length_replicate]), List.length_replicate]
theorem VM_end {s : List (BitVec 8)} (hs : s.length = 16) : VM s (4 * 4) = mixL s := by
  have := endT (mixL s) s (by rw [mixL_len, hs])
  rw [mixL_len] at this
  exact this
theorem SU_end (b : List (BitVec 8)) : SU b (4 * 4) = shL b := by
  have := endT (shL b) (List.replicate 16 0) (by rw [shL_len, List.length_replicate])
  rw [shL_len] at this
  exact this
theorem l46e {X : Ctx} (hX : X.P = Try.prog) (key B b s : List (BitVec 8)) (hs : s.length = 16) (n c : Nat) (hc : c < 4)
    (K : KRun X 46 0 (Is (.agg ((encF key B).map AC.u8))) (kOf Try.f46 3) (mkS 109 [(3, .one (.ptr 0 0)), (4, .one (.ptr 1 0)), (5, .one (.ptr 2 0)), (6, .one (.ptr 3 0)), (7, .one (.i64 n)), (8, .one (.ptr 4 0)), (9, .one (.ptr 5 0)), (12, .one (.i64 (c + 1 : Nat)))]) [some (b.map AC.u8), some (List.replicate 16 (AC.u8 0)), some (boxT.map AC.u8), some ((exL key 176).map AC.u8), some (s.map AC.u8), some ((VM s (4 * (c + 1))).map AC.u8)]) : ∀ (d r : Nat), r + d = 4 →
    KRun X 46 0 (Is (.agg ((encF key B).map AC.u8))) (kOf Try.f46 4) (mkS 109 [(3, .one (.ptr 0 0)), (4, .one (.ptr 1 0)), (5, .one (.ptr 2 0)), (6, .one (.ptr 3 0)), (7, .one (.i64 n)), (8, .one (.ptr 4 0)), (9, .one (.ptr 5 0)), (12, .one (.i64 c)), (13, .one (.i64 r))]) [some (b.map AC.u8), some (List.replicate 16 (AC.u8 0)), some (boxT.map AC.u8), some ((exL key 176).map AC.u8), some (s.map AC.u8), some ((VM s (4 * c + r)).map AC.u8)] := by
  have z : Flat (List.replicate 16 (AC.u8 0)) := by rw [mrep]; exact flat_u8 _
  intro d
  induction d with
  | zero =>
    intro r hr
    have hr : r = 4 := by omega
    subst hr
    refine vc46e hX _ _ _ _ _ _ _ _ _ ⟨fun h => absurd (of_decide_eq_true h) (by omega), fun _ => ?_⟩
    (repeat' (first | exact trivial | exact flat_u8 _ | exact flatA _ | exact allU8_map _ | exact Nat.le_refl _ | refine And.intro ?_ ?_)) <;> (first | omega | exact z | (unfold in64; omega) | exact List.length_map _ | (show Is _ _ _; exact rfl) | skip)
    exact ⟨K⟩
  | succ d ih =>
    intro r hr
    have ih := ih (r + 1) (by omega)
    have hl := VM_len hs (4 * c + r)
    have t1 : (4 : Int) * (c : Int) + Int.tmod ((r : Int) + 1) 4 = ((4 * c + (r + 1) % 4 : Nat) : Int) := by rw [show Int.tmod ((r : Int) + 1) 4 = (((r + 1) % 4 : Nat) : Int) from tmod_nat (r + 1) 4]; omega
    have t2 : (4 : Int) * (c : Int) + Int.tmod ((r : Int) + 2) 4 = ((4 * c + (r + 2) % 4 : Nat) : Int) := by rw [show Int.tmod ((r : Int) + 2) 4 = (((r + 2) % 4 : Nat) : Int) from tmod_nat (r + 2) 4]; omega
    have t3 : (4 : Int) * (c : Int) + Int.tmod ((r : Int) + 3) 4 = ((4 * c + (r + 3) % 4 : Nat) : Int) := by rw [show Int.tmod ((r : Int) + 3) 4 = (((r + 3) % 4 : Nat) : Int) from tmod_nat (r + 3) 4]; omega
    have t0 : (4 : Int) * (c : Int) + (r : Int) = ((4 * c + r : Nat) : Int) := by omega
    have g0 := gt_u8_at s (4 * c + r) (by omega)
    have g1 := gt_u8_at s (4 * c + (r + 1) % 4) (by omega)
    have g2 := gt_u8_at s (4 * c + (r + 2) % 4) (by omega)
    have g3 := gt_u8_at s (4 * c + (r + 3) % 4) (by omega)
    have o2 : BitVec.ofInt 8 2 = 2#8 := rfl
    have o3 : BitVec.ofInt 8 3 = 3#8 := rfl
    have hset := setT (mixL s) s 0 (i := 4 * c + r) (by rw [mixL_len]; omega) (by rw [mixL_len, hs])
    rw [← mix_ref s c r hc (by omega)] at hset
    have hset : (VM s (4 * c + r)).set (4 * c + r) _ = VM s (4 * c + (r + 1)) := hset
    refine vc46e hX _ _ _ _ _ _ _ _ _ ⟨fun _ => ?_, fun h => absurd (of_decide_eq_false h) (by omega)⟩
    rw [t0, t1, t2, t3]
    simp only [ixn, g0, g1, g2, g3, asU8, o2, o3, lay1, hset, List.length_map, hl]
    have i4 : (4 : Int) ≠ 0 := by decide
    (repeat' (first | exact i4 | exact trivial | exact flat_u8 _ | exact flatA _ | exact allU8_map _ | exact Nat.le_refl _ | refine And.intro ?_ ?_)) <;> (first | omega | exact z | (unfold in64; omega) | exact List.length_map _ | (show Is _ _ _; exact rfl) | skip)
    exact ⟨ih⟩
theorem l46d {X : Ctx} (hX : X.P = Try.prog) (key B b : List (BitVec 8)) (hb : b.length = 16) (n : Nat) (hn : n < 11) (K : KRun X 46 0 (Is (.agg ((encF key B).map AC.u8))) (kOf Try.f46 0) (mkS 109 [(3, .one (.ptr 0 0)), (4, .one (.ptr 1 0)), (5, .one (.ptr 2 0)), (6, .one (.ptr 3 0)), (7, .one (.i64 (n + 1 : Nat)))]) [some ((rndF key n b).map AC.u8), some (List.replicate 16 (AC.u8 0)), some (boxT.map AC.u8), some ((exL key 176).map AC.u8)]) : ∀ (d c : Nat), c + d = 4 → (n < 10 ∨ c = 0) →
    KRun X 46 0 (Is (.agg ((encF key B).map AC.u8))) (kOf Try.f46 3) (mkS 109 [(3, .one (.ptr 0 0)), (4, .one (.ptr 1 0)), (5, .one (.ptr 2 0)), (6, .one (.ptr 3 0)), (7, .one (.i64 n)), (8, .one (.ptr 4 0)), (9, .one (.ptr 5 0)), (12, .one (.i64 c))]) [some (b.map AC.u8), some (List.replicate 16 (AC.u8 0)), some (boxT.map AC.u8), some ((exL key 176).map AC.u8), some ((shL b).map AC.u8), some ((VM (shL b) (4 * c)).map AC.u8)] := by
  have z : Flat (List.replicate 16 (AC.u8 0)) := by rw [mrep]; exact flat_u8 _
  have hr := rkF_len key (n := n) (by omega)
  have hE := exL_len key 176
  have o16 : 0 + Int.toNat (n : Int) * 16 = 16 * n := by omega
  have rk : ((exL key 176).drop (16 * n)).take 16 = rkF key n := rfl
  intro d
  induction d with
  | zero =>
    intro c hc h10
    have hc : c = 4 := by omega
    subst hc
    have e := VM_end (shL_len b)
    unfold rndF at K
    rw [if_pos (by omega)] at K
    have hm := mixL_len (shL b)
    have em : (mixL (shL b)).take 16 = mixL (shL b) := List.take_of_length_le (by omega)
    have h176 : 16 * n + 16 ≤ 176 := by omega
    refine vc46d hX _ _ _ _ _ _ _ _ ⟨fun h => absurd (of_decide_eq_true h) (by omega), fun _ => ?_⟩
    rw [e, o16]
    simp only [hide_eq, tkm, tk0, map_as8, layR, layC, layM, lay1, tkn, List.drop_zero, Nat.zero_add, Nat.mul_one, Nat.reduceAdd, Nat.le_refl, Nat.min_self, Nat.reduceLeDiff, same_self, Int.toNat_natCast, rk, em, List.length_map, List.length_append, List.length_replicate, List.length_take, List.length_drop, tab16_len, hb, hr, hE, hm, xorL_len]
    clear hE hr hm em e rk
    (repeat' (first | exact trivial | exact flat_u8 _ | exact flatA _ | exact allU8_map _ | exact Nat.le_refl _ | refine And.intro ?_ ?_)) <;> (first | omega | exact z | (unfold in64; omega) | exact List.length_map _ | (show Is _ _ _; exact rfl) | skip)
    exact ⟨K⟩
  | succ d ih =>
    intro c hc h10
    refine vc46d hX _ _ _ _ _ _ _ _ ⟨fun _ => ⟨fun h => ?_, fun h => ?_⟩, fun h => absurd (of_decide_eq_false h) (by omega)⟩
    · have h := of_decide_eq_true h
      have K2 := l46e hX key B b (shL b) (shL_len b) n c (by omega) (ih (c + 1) (by omega) (.inl (by omega))) 4 0 rfl
      clear hE hr rk
      (repeat' (first | exact trivial | exact flat_u8 _ | exact flatA _ | exact allU8_map _ | exact Nat.le_refl _ | refine And.intro ?_ ?_)) <;> (first | omega | exact z | (unfold in64; omega) | exact List.length_map _ | (show Is _ _ _; exact rfl) | skip)
      exact ⟨K2⟩
    · have h := of_decide_eq_false h
      have h0 : c = 0 := by omega
      subst h0
      have e : VM (shL b) (4 * 0) = shL b := begT _ _
      unfold rndF at K
      rw [if_neg (by omega)] at K
      have hm := shL_len b
      have em : (shL b).take 16 = shL b := List.take_of_length_le (by omega)
      have h176 : 16 * n + 16 ≤ 176 := by omega
      rw [e, o16]
      simp only [hide_eq, tkm, tk0, map_as8, layR, layC, layM, lay1, tkn, List.drop_zero, Nat.zero_add, Nat.mul_one, Nat.reduceAdd, Nat.le_refl, Nat.min_self, Nat.reduceLeDiff, same_self, Int.toNat_natCast, rk, em, List.length_map, List.length_append, List.length_replicate, List.length_take, List.length_drop, tab16_len, hb, hr, hE, hm, xorL_len]
      clear hE hr hm em e rk
      (repeat' (first | exact trivial | exact flat_u8 _ | exact flatA _ | exact allU8_map _ | exact Nat.le_refl _ | refine And.intro ?_ ?_)) <;> (first | omega | exact z | (unfold in64; omega) | exact List.length_map _ | (show Is _ _ _; exact rfl) | skip)
      exact ⟨K⟩
theorem l46c {X : Ctx} (hX : X.P = Try.prog) (key B b : List (BitVec 8)) (hb : b.length = 16) (n c : Nat) (hc : c < 4)
    (K : KRun X 46 0 (Is (.agg ((encF key B).map AC.u8))) (kOf Try.f46 1) (mkS 109 [(3, .one (.ptr 0 0)), (4, .one (.ptr 1 0)), (5, .one (.ptr 2 0)), (6, .one (.ptr 3 0)), (7, .one (.i64 n)), (8, .one (.ptr 4 0)), (9, .one (.ptr 5 0)), (10, .one (.i64 (c + 1 : Nat)))]) [some (b.map AC.u8), some (List.replicate 16 (AC.u8 0)), some (boxT.map AC.u8), some ((exL key 176).map AC.u8), some ((SU b (4 * (c + 1))).map AC.u8), some (List.replicate 16 (AC.u8 0))]) : ∀ (d r : Nat), r + d = 4 →
    KRun X 46 0 (Is (.agg ((encF key B).map AC.u8))) (kOf Try.f46 2) (mkS 109 [(3, .one (.ptr 0 0)), (4, .one (.ptr 1 0)), (5, .one (.ptr 2 0)), (6, .one (.ptr 3 0)), (7, .one (.i64 n)), (8, .one (.ptr 4 0)), (9, .one (.ptr 5 0)), (10, .one (.i64 c)), (11, .one (.i64 r))]) [some (b.map AC.u8), some (List.replicate 16 (AC.u8 0)), some (boxT.map AC.u8), some ((exL key 176).map AC.u8), some ((SU b (4 * c + r)).map AC.u8), some (List.replicate 16 (AC.u8 0))] := by
  have z : Flat (List.replicate 16 (AC.u8 0)) := by rw [mrep]; exact flat_u8 _
  intro d
  induction d with
  | zero =>
    intro r hr
    have hr : r = 4 := by omega
    subst hr
    refine vc46c hX _ _ _ _ _ _ _ _ _ ⟨fun h => absurd (of_decide_eq_true h) (by omega), fun _ => ?_⟩
    (repeat' (first | exact trivial | exact flat_u8 _ | exact flatA _ | exact allU8_map _ | exact Nat.le_refl _ | refine And.intro ?_ ?_)) <;> (first | omega | exact z | (unfold in64; omega) | exact List.length_map _ | (show Is _ _ _; exact rfl) | skip)
    exact ⟨K⟩
  | succ d ih =>
    intro r hr
    have ih := ih (r + 1) (by omega)
    have hl := SU_len b (4 * c + r)
    have t0 : (4 : Int) * (c : Int) + (r : Int) = ((4 * c + r : Nat) : Int) := by omega
    have t1 : Int.tmod ((c : Int) + (r : Int)) 4 * 4 + (r : Int) = (((c + r) % 4 * 4 + r : Nat) : Int) := by rw [show Int.tmod ((c : Int) + (r : Int)) 4 = (((c + r) % 4 : Nat) : Int) from tmod_nat (c + r) 4]; omega
    have t2 : Int.tmod ((c : Int) + (r : Int)) 4 * 4 = (((c + r) % 4 * 4 : Nat) : Int) := by rw [show Int.tmod ((c : Int) + (r : Int)) 4 = (((c + r) % 4 : Nat) : Int) from tmod_nat (c + r) 4]; omega
    have g0 := gt_u8_at b ((c + r) % 4 * 4 + r) (by omega)
    have hset := setT (shL b) (List.replicate 16 0) 0 (i := 4 * c + r) (by rw [shL_len]; omega) (by rw [shL_len, List.length_replicate])
    rw [show (shL b).getD (4 * c + r) 0 = bx (b.getD (shI (4 * c + r)) 0) from tab16_get _ (by omega), show shI (4 * c + r) = (c + r) % 4 * 4 + r by unfold shI; omega] at hset
    have hset : (SU b (4 * c + r)).set (4 * c + r) _ = SU b (4 * c + (r + 1)) := hset
    refine vc46c hX _ _ _ _ _ _ _ _ _ ⟨fun _ => ?_, fun h => absurd (of_decide_eq_false h) (by omega)⟩
    rw [t0, t1, t2]
    simp only [ixn, g0, asU8, gt_box, gt_box', lay1, hset, List.length_map, hl]
    have i4 : (4 : Int) ≠ 0 := by decide
    (repeat' (first | exact i4 | exact trivial | exact flat_u8 _ | exact flatA _ | exact allU8_map _ | exact Nat.le_refl _ | refine And.intro ?_ ?_)) <;> (first | omega | exact z | (unfold in64; omega) | exact List.length_map _ | (show Is _ _ _; exact rfl) | skip)
    exact ⟨ih⟩
theorem l46b {X : Ctx} (hX : X.P = Try.prog) (key B b : List (BitVec 8)) (hb : b.length = 16) (n : Nat) (hn : n < 11) (K : KRun X 46 0 (Is (.agg ((encF key B).map AC.u8))) (kOf Try.f46 0) (mkS 109 [(3, .one (.ptr 0 0)), (4, .one (.ptr 1 0)), (5, .one (.ptr 2 0)), (6, .one (.ptr 3 0)), (7, .one (.i64 (n + 1 : Nat)))]) [some ((rndF key n b).map AC.u8), some (List.replicate 16 (AC.u8 0)), some (boxT.map AC.u8), some ((exL key 176).map AC.u8)]) : ∀ (d c : Nat), c + d = 4 →
    KRun X 46 0 (Is (.agg ((encF key B).map AC.u8))) (kOf Try.f46 1) (mkS 109 [(3, .one (.ptr 0 0)), (4, .one (.ptr 1 0)), (5, .one (.ptr 2 0)), (6, .one (.ptr 3 0)), (7, .one (.i64 n)), (8, .one (.ptr 4 0)), (9, .one (.ptr 5 0)), (10, .one (.i64 c))]) [some (b.map AC.u8), some (List.replicate 16 (AC.u8 0)), some (boxT.map AC.u8), some ((exL key 176).map AC.u8), some ((SU b (4 * c)).map AC.u8), some (List.replicate 16 (AC.u8 0))] := by
  have z : Flat (List.replicate 16 (AC.u8 0)) := by rw [mrep]; exact flat_u8 _
  intro d
  induction d with
  | zero =>
    intro c hc
    have hc : c = 4 := by omega
    subst hc
    have e := SU_end b
    have K2 := l46d hX key B b hb n hn K 4 0 rfl (.inr rfl)
    rw [show VM (shL b) (4 * 0) = shL b from begT _ _] at K2
    have hm := shL_len b
    have em : (shL b).take 16 = shL b := List.take_of_length_le (by omega)
    refine vc46b hX _ _ _ _ _ _ _ _ ⟨fun h => absurd (of_decide_eq_true h) (by omega), fun _ => ?_⟩
    rw [e]
    simp only [hide_eq, tkm, tk0, map_as8, layR, layC, layM, lay1, tkn, List.drop_zero, Nat.zero_add, Nat.mul_one, Nat.reduceAdd, Nat.le_refl, Nat.min_self, Nat.reduceLeDiff, same_self, Int.toNat_natCast, em, List.length_map, List.length_append, List.length_replicate, List.length_take, List.length_drop, tab16_len, hm]
    (repeat' (first | exact trivial | exact flat_u8 _ | exact flatA _ | exact allU8_map _ | exact Nat.le_refl _ | refine And.intro ?_ ?_)) <;> (first | omega | exact z | (unfold in64; omega) | exact List.length_map _ | (show Is _ _ _; exact rfl) | skip)
    exact ⟨K2⟩
  | succ d ih =>
    intro c hc
    have K2 := l46c hX key B b hb n c (by omega) (ih (c + 1) (by omega)) 4 0 rfl
    refine vc46b hX _ _ _ _ _ _ _ _ ⟨fun _ => ?_, fun h => absurd (of_decide_eq_false h) (by omega)⟩
    (repeat' (first | exact trivial | exact flat_u8 _ | exact flatA _ | exact allU8_map _ | exact Nat.le_refl _ | refine And.intro ?_ ?_)) <;> (first | omega | exact z | (unfold in64; omega) | exact List.length_map _ | (show Is _ _ _; exact rfl) | skip)
    exact ⟨K2⟩
theorem l46a {X : Ctx} (hX : X.P = Try.prog) (key B : List (BitVec 8)) (hB : B.length = 16) : ∀ (d n : Nat), n + d = 10 →
    KRun X 46 0 (Is (.agg ((encF key B).map AC.u8))) (kOf Try.f46 0) (mkS 109 [(3, .one (.ptr 0 0)), (4, .one (.ptr 1 0)), (5, .one (.ptr 2 0)), (6, .one (.ptr 3 0)), (7, .one (.i64 (n + 1 : Nat)))]) [some ((encN key B n).map AC.u8), some (List.replicate 16 (AC.u8 0)), some (boxT.map AC.u8), some ((exL key 176).map AC.u8)] := by
  have z : Flat (List.replicate 16 (AC.u8 0)) := by rw [mrep]; exact flat_u8 _
  intro d
  induction d with
  | zero =>
    intro n hn
    have hn : n = 10 := by omega
    subst hn
    have e : encN key B 10 = encF key B := rfl
    have hl : (encF key B).length = 16 := encN_len _ _ _
    refine vc46a hX _ _ _ _ _ ⟨fun h => absurd (of_decide_eq_true h) (by omega), fun _ => ?_⟩
    rw [e]
    simp only [hide_eq, tkm, tk0, map_as8, layR, layC, layM, lay1, tkn, List.drop_zero, Nat.zero_add, Nat.mul_one, Nat.reduceAdd, Nat.le_refl, Nat.min_self, Nat.reduceLeDiff, same_self, Int.toNat_natCast, List.length_map, List.length_append, List.length_replicate, List.length_take, List.length_drop, tab16_len, hl]
    (repeat' (first | exact trivial | exact flat_u8 _ | exact flatA _ | exact allU8_map _ | exact Nat.le_refl _ | refine And.intro ?_ ?_)) <;> (first | omega | exact z | (unfold in64; omega) | exact List.length_map _ | (show Is _ _ _; exact rfl) | skip)
  | succ d ih =>
    intro n hn
    have K := l46b hX key B (encN key B n) (encN_len _ _ _) (n + 1) (by omega) (ih (n + 1) (by omega)) 4 0 rfl
    have e0 : (SU (encN key B n) (4 * 0)).map AC.u8 = List.replicate 16 (AC.u8 0) := by
      rw [show SU (encN key B n) (4 * 0) = List.replicate 16 0 from begT _ _, List.map_replicate]
    rw [e0] at K
    refine vc46a hX _ _ _ _ _ ⟨fun _ => ?_, fun h => absurd (of_decide_eq_false h) (by omega)⟩
    (repeat' (first | exact trivial | exact flat_u8 _ | exact flatA _ | exact allU8_map _ | exact Nat.le_refl _ | refine And.intro ?_ ?_)) <;> (first | omega | exact z | (unfold in64; omega) | exact List.length_map _ | (show Is _ _ _; exact rfl) | skip)
    exact ⟨K⟩
theorem s46 (key b : List (BitVec 8)) (hk : key.length = 16) (hb : b.length = 16) : Spec Try.prog 46 [.agg (key.map AC.u8), .agg (b.map AC.u8)] [] (Is (.agg ((encF key b).map AC.u8))) := by
  refine Spec.of_run ok46 fun X hX => vc46 hX _ _ ?_
  have K := l46a hX key b hb 10 0 rfl
  rw [show encN key b 0 = xorL b (rkF key 0) from rfl] at K
  have z : Flat (List.replicate 16 (AC.u8 0)) := by rw [mrep]; exact flat_u8 _
  have hE := exL_len key 176
  have hB := boxT_len
  have ek : key.take 16 = key := List.take_of_length_le (by omega)
  have eb : b.take 16 = b := List.take_of_length_le (by omega)
  have e16 : (exL key 176).take 16 = rkF key 0 := by unfold rkF; rw [Nat.mul_zero, List.drop_zero]
  have ebx : boxT.take 256 = boxT := List.take_of_length_le (by omega)
  have hr := rkF_len key (n := 0) (by omega)
  have l1 : layS (List.replicate 256 (AC.u8 0)) 0 (boxT.map AC.u8) = boxT.map AC.u8 := layR _ _ hB
  have l2 : layS (List.replicate 176 (AC.u8 0)) 0 ((exL key 176).map AC.u8) = (exL key 176).map AC.u8 := layR _ _ hE
  have l3 : layS (b.map AC.u8) 0 ((xorL b (rkF key 0)).map AC.u8) = (xorL b (rkF key 0)).map AC.u8 := layM _ _ (by rw [xorL_len, hb])
  simp only [hide_eq, tkm, tk0, List.drop_zero, ek, eb, map_as8, l1, l2, e16, ebx, l3, List.length_map, hE, hB, hk, hb, hr, xorL_len]
  clear hE hB ek eb e16 ebx hr l1 l2 l3
  (repeat' (first | exact trivial | exact flat_u8 _ | exact flatA _ | exact allU8_map _ | exact Nat.le_refl _ | refine And.intro ?_ ?_)) <;> (first | omega | exact z | (unfold in64; omega) | exact List.length_map _ | (show Is _ _ _; exact rfl) | skip)
  exact ⟨K⟩
end DH
