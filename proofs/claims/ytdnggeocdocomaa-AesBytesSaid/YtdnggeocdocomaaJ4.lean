/- Walks of functions, each by evaluation: what each returns. -/
import Derived.Test.YtdnggeocdocomaaJ3
set_option linter.unusedVariables false
set_option linter.unusedSimpArgs false
noncomputable section
namespace DH
open Go Go.Proofs
noncomputable def T13 : Tab := fun f xs => match f, xs with
  | 44, [.agg cs] => some ([allU8 cs ∧ cs.length = 16], .agg (.b true :: hide ((exL (cs.map asU8) 176).map AC.u8)))
  | 104, [.agg (.b true :: cs)] => some ([allU8 cs ∧ cs.length = 176], .agg (hide ((cs.map asU8).map AC.u8)))
  | 104, [.agg (.b false :: _)] => some ([], .agg (hide ((exL zkey 176).map AC.u8)))
  | f, xs => T12 f xs
theorem T13_ok : TabOk Try.prog T13 := by
  intro f xs cs r h hc
  unfold T13 at h
  split at h
  · obtain ⟨rfl, rfl⟩ := Prod.mk.inj (Option.some.inj h)
    obtain ⟨h1, h2⟩ := hc.1
    rename_i cs
    have := s44 (cs.map asU8) (by rw [List.length_map]; exact h2)
    rw [← h1] at this
    rw [hide_eq]
    refine ⟨⟨_, _, ok44⟩, this, fun c h => ?_⟩
    rcases List.mem_cons.1 h with rfl | h
    · rfl
    · exact exactL_map AC.u8 (fun _ => rfl) _ c h
  · obtain ⟨rfl, rfl⟩ := Prod.mk.inj (Option.some.inj h)
    obtain ⟨h1, h2⟩ := hc.1
    rename_i cs
    have := s104t (cs.map asU8) (by rw [List.length_map]; exact h2)
    unfold kc at this
    rw [← h1] at this
    rw [hide_eq, ← h1]
    refine ⟨⟨_, _, ok104⟩, this, ?_⟩
    rw [h1]
    exact exactL_map _ (fun _ => rfl) _
  · obtain ⟨rfl, rfl⟩ := Prod.mk.inj (Option.some.inj h)
    rw [hide_eq]
    exact ⟨⟨_, _, ok104⟩, s104f _, exactL_map _ (fun _ => rfl) _⟩
  · exact T12_ok _ _ _ _ h hc
noncomputable def M13 : TabM := fun f xs m => match f, xs, m with
  | 106, [.one (.ptr 0 0)], [some bs] => some ([allU8 bs ∧ bs.length = 16], .tup [], [some (hide ((mixL (bs.map asU8)).map AC.u8))])
  | 107, [.one (.ptr 0 0), .agg bs], [some as'] => some ([allU8 as' ∧ as'.length = 16 ∧ allU8 bs ∧ bs.length = 16], .tup [], [some (hide ((xorL (as'.map asU8) (bs.map asU8)).map AC.u8))])
  | _, _, _ => none
noncomputable def mf13 : FuncId → Option MF := fun f => match f with
  | 106 => some { cs := { kinds := [], fl := [true] }, flo := [true] }
  | 107 => some { cs := { kinds := [], fl := [true], fv := [1] }, flo := [true] }
  | _ => none
theorem M13_ok : TabMOk Try.prog M13 := by
  intro f xs m cs r m1 h hc
  unfold M13 at h
  split at h
  · simp only [Option.some.injEq, Prod.mk.injEq] at h
    obtain ⟨rfl, rfl, rfl⟩ := h
    obtain ⟨h1, h2⟩ := hc.1
    rename_i bs
    have := s106 (bs.map asU8) (by rw [List.length_map]; exact h2)
    rw [← h1] at this
    rw [hide_eq]
    exact ⟨⟨_, _, ok106⟩, this⟩
  · simp only [Option.some.injEq, Prod.mk.injEq] at h
    obtain ⟨rfl, rfl, rfl⟩ := h
    obtain ⟨h1, h2, h3, h4⟩ := hc.1
    rename_i bs as'
    have := s107 (as'.map asU8) (bs.map asU8) (by rw [List.length_map]; exact h2) (by rw [List.length_map]; exact h4)
    rw [← h1, ← h3] at this
    rw [hide_eq]
    exact ⟨⟨_, _, ok107⟩, this⟩
  · cases h
set_option maxRecDepth 100000 in
theorem vc45t {X : Ctx} {Q : AV → Mem → Prop} (hX : X.P = Try.prog) (ks bs : List AC) (h : (List.length (hide (List.map AC.u8 boxT)) = 256 ∧ 256 ≤ 256) ∧ 177 ≤ List.length (AC.b true :: ks) ∧ Flat (List.take 177 (List.drop 0 (AC.b true :: ks))) ∧ (allU8 (List.take 176 ks) ∧ List.length (List.take 176 ks) = 176) ∧ flatAV (AV.agg (hide (List.map AC.u8 (List.map asU8 (List.take 176 ks))))) ∧ Flat bs ∧ Flat (List.replicate 16 (AC.u8 (0 : BitVec 8))) ∧ Flat (layS (List.replicate 256 (AC.u8 (0 : BitVec 8))) 0 (hide (List.map AC.u8 boxT))) ∧ KR X 45 0 Q (kOf Try.f45 0) (mkS 30 [(3, AV.one (AC.ptr 0 0)), (4, AV.one (AC.ptr 1 0)), (5, AV.one (AC.ptr 2 0)), (10, AV.agg (hide (List.map AC.u8 (List.map asU8 (List.take 176 ks))))), (11, AV.one (AC.i64 (0 : Int)))]) [some bs, some (List.replicate 16 (AC.u8 (0 : BitVec 8))), some (layS (List.replicate 256 (AC.u8 (0 : BitVec 8))) 0 (hide (List.map AC.u8 boxT)))]) : KRun X 45 0 Q ([.code (bodyOf Try.f45)]) (slots [.agg (.b true :: ks), .agg bs] Try.f45.ntmps) [] :=
  wpRun_ok (hX ▸ baseK_ok T13 mf13 M13) (hX ▸ baseK_call T13_ok M13_ok) (hX ▸ mixed) (hX ▸ ok45) LK_ok (cast (β := wpRun (baseK T13 mf13 M13) [12, 16, 20, 23] [] false (RS.mk Try.f45.results.toList 0 (CS.mk [] [] [0] [])) (LK X 45 0 Q true [(3, LS.mk [3, 4, 5, 10, 11] (CS.mk [] [true, true, true] [10] []))]) Q 2000 ([.code (bodyOf Try.f45)]) (slots [.agg (.b true :: ks), .agg bs] Try.f45.ntmps) []) (by kernel_rfl) h)
set_option maxRecDepth 100000 in
theorem vc45f {X : Ctx} {Q : AV → Mem → Prop} (hX : X.P = Try.prog) (ks bs : List AC) (h : (List.length (hide (List.map AC.u8 boxT)) = 256 ∧ 256 ≤ 256) ∧ 177 ≤ List.length (AC.b false :: ks) ∧ Flat (List.take 177 (List.drop 0 (AC.b false :: ks))) ∧ flatAV (AV.agg (hide (List.map AC.u8 (exL zkey 176)))) ∧ Flat bs ∧ Flat (List.replicate 16 (AC.u8 (0 : BitVec 8))) ∧ Flat (layS (List.replicate 256 (AC.u8 (0 : BitVec 8))) 0 (hide (List.map AC.u8 boxT))) ∧ KR X 45 0 Q (kOf Try.f45 0) (mkS 30 [(3, AV.one (AC.ptr 0 0)), (4, AV.one (AC.ptr 1 0)), (5, AV.one (AC.ptr 2 0)), (10, AV.agg (hide (List.map AC.u8 (exL zkey 176)))), (11, AV.one (AC.i64 (0 : Int)))]) [some bs, some (List.replicate 16 (AC.u8 (0 : BitVec 8))), some (layS (List.replicate 256 (AC.u8 (0 : BitVec 8))) 0 (hide (List.map AC.u8 boxT)))]) : KRun X 45 0 Q ([.code (bodyOf Try.f45)]) (slots [.agg (.b false :: ks), .agg bs] Try.f45.ntmps) [] :=
  wpRun_ok (hX ▸ baseK_ok T13 mf13 M13) (hX ▸ baseK_call T13_ok M13_ok) (hX ▸ mixed) (hX ▸ ok45) LK_ok (cast (β := wpRun (baseK T13 mf13 M13) [12, 16, 20, 23] [] false (RS.mk Try.f45.results.toList 0 (CS.mk [] [] [0] [])) (LK X 45 0 Q true [(3, LS.mk [3, 4, 5, 10, 11] (CS.mk [] [true, true, true] [10] []))]) Q 2000 ([.code (bodyOf Try.f45)]) (slots [.agg (.b false :: ks), .agg bs] Try.f45.ntmps) []) (by kernel_rfl) h)
set_option maxRecDepth 100000 in
theorem vc45a {X : Ctx} {Q : AV → Mem → Prop} (hX : X.P = Try.prog) (zs bs xs ks : List AC) (i : Int) (h : (decide (i < (11 : Int)) = true → ((0 : Int) ≤ i ∧ i < (↑11 : Int)) ∧ Int.toNat i * 16 + 16 ≤ List.length ks ∧ (List.length (List.take 16 (List.drop (Int.toNat i * 16) ks)) = 16 ∧ 16 ≤ 16) ∧ (decide ((0 : Int) < i) = true → 16 ≤ List.length bs ∧ Flat (List.take 16 (List.drop 0 bs)) ∧ 1 ≤ List.length xs ∧ Flat xs ∧ (allU8 (List.take 16 (List.drop 0 bs)) ∧ List.length (List.take 16 (List.drop 0 bs)) = 16 ∧ xs = List.map AC.u8 boxT) ∧ (List.length (hide (List.map AC.u8 (shL (List.map asU8 (List.take 16 (List.drop 0 bs)))))) = 16 ∧ 16 ≤ List.length bs) ∧ (decide ((0 : Int) < i) = true → (decide (i < (10 : Int)) = true → (allU8 (layS bs 0 (hide (List.map AC.u8 (shL (List.map asU8 (List.take 16 (List.drop 0 bs))))))) ∧ List.length (layS bs 0 (hide (List.map AC.u8 (shL (List.map asU8 (List.take 16 (List.drop 0 bs))))))) = 16) ∧ Flat (layS bs 0 (hide (List.map AC.u8 (shL (List.map asU8 (List.take 16 (List.drop 0 bs))))))) ∧ Flat (hide (List.map AC.u8 (mixL (List.map asU8 (layS bs 0 (hide (List.map AC.u8 (shL (List.map asU8 (List.take 16 (List.drop 0 bs))))))))))) ∧ 16 ≤ List.length (layS (List.replicate 16 (AC.u8 (0 : BitVec 8))) 0 (List.take 16 (List.drop (Int.toNat i * 16) ks))) ∧ (allU8 (hide (List.map AC.u8 (mixL (List.map asU8 (layS bs 0 (hide (List.map AC.u8 (shL (List.map asU8 (List.take 16 (List.drop 0 bs))))))))))) ∧ List.length (hide (List.map AC.u8 (mixL (List.map asU8 (layS bs 0 (hide (List.map AC.u8 (shL (List.map asU8 (List.take 16 (List.drop 0 bs))))))))))) = 16 ∧ allU8 (List.take 16 (List.drop 0 (layS (List.replicate 16 (AC.u8 (0 : BitVec 8))) 0 (List.take 16 (List.drop (Int.toNat i * 16) ks))))) ∧ List.length (List.take 16 (List.drop 0 (layS (List.replicate 16 (AC.u8 (0 : BitVec 8))) 0 (List.take 16 (List.drop (Int.toNat i * 16) ks))))) = 16) ∧ flatAV (AV.agg (List.take 16 (List.drop 0 (layS (List.replicate 16 (AC.u8 (0 : BitVec 8))) 0 (List.take 16 (List.drop (Int.toNat i * 16) ks)))))) ∧ Flat (hide (List.map AC.u8 (mixL (List.map asU8 (layS bs 0 (hide (List.map AC.u8 (shL (List.map asU8 (List.take 16 (List.drop 0 bs))))))))))) ∧ Flat (hide (List.map AC.u8 (xorL (List.map asU8 (hide (List.map AC.u8 (mixL (List.map asU8 (layS bs 0 (hide (List.map AC.u8 (shL (List.map asU8 (List.take 16 (List.drop 0 bs)))))))))))) (List.map asU8 (List.take 16 (List.drop 0 (layS (List.replicate 16 (AC.u8 (0 : BitVec 8))) 0 (List.take 16 (List.drop (Int.toNat i * 16) ks))))))))) ∧ in64 (i + (1 : Int)) ∧ flatAV (AV.agg ks) ∧ Flat (hide (List.map AC.u8 (xorL (List.map asU8 (hide (List.map AC.u8 (mixL (List.map asU8 (layS bs 0 (hide (List.map AC.u8 (shL (List.map asU8 (List.take 16 (List.drop 0 bs)))))))))))) (List.map asU8 (List.take 16 (List.drop 0 (layS (List.replicate 16 (AC.u8 (0 : BitVec 8))) 0 (List.take 16 (List.drop (Int.toNat i * 16) ks))))))))) ∧ Flat zs ∧ Flat xs ∧ KR X 45 0 Q (kOf Try.f45 0) (mkS 30 [(3, AV.one (AC.ptr 0 0)), (4, AV.one (AC.ptr 1 0)), (5, AV.one (AC.ptr 2 0)), (10, AV.agg ks), (11, AV.one (AC.i64 (i + (1 : Int))))]) [some (hide (List.map AC.u8 (xorL (List.map asU8 (hide (List.map AC.u8 (mixL (List.map asU8 (layS bs 0 (hide (List.map AC.u8 (shL (List.map asU8 (List.take 16 (List.drop 0 bs)))))))))))) (List.map asU8 (List.take 16 (List.drop 0 (layS (List.replicate 16 (AC.u8 (0 : BitVec 8))) 0 (List.take 16 (List.drop (Int.toNat i * 16) ks))))))))), some zs, some xs]) ∧ (decide (i < (10 : Int)) = false → 16 ≤ List.length (layS (List.replicate 16 (AC.u8 (0 : BitVec 8))) 0 (List.take 16 (List.drop (Int.toNat i * 16) ks))) ∧ (allU8 (layS bs 0 (hide (List.map AC.u8 (shL (List.map asU8 (List.take 16 (List.drop 0 bs))))))) ∧ List.length (layS bs 0 (hide (List.map AC.u8 (shL (List.map asU8 (List.take 16 (List.drop 0 bs))))))) = 16 ∧ allU8 (List.take 16 (List.drop 0 (layS (List.replicate 16 (AC.u8 (0 : BitVec 8))) 0 (List.take 16 (List.drop (Int.toNat i * 16) ks))))) ∧ List.length (List.take 16 (List.drop 0 (layS (List.replicate 16 (AC.u8 (0 : BitVec 8))) 0 (List.take 16 (List.drop (Int.toNat i * 16) ks))))) = 16) ∧ flatAV (AV.agg (List.take 16 (List.drop 0 (layS (List.replicate 16 (AC.u8 (0 : BitVec 8))) 0 (List.take 16 (List.drop (Int.toNat i * 16) ks)))))) ∧ Flat (layS bs 0 (hide (List.map AC.u8 (shL (List.map asU8 (List.take 16 (List.drop 0 bs))))))) ∧ Flat (hide (List.map AC.u8 (xorL (List.map asU8 (layS bs 0 (hide (List.map AC.u8 (shL (List.map asU8 (List.take 16 (List.drop 0 bs)))))))) (List.map asU8 (List.take 16 (List.drop 0 (layS (List.replicate 16 (AC.u8 (0 : BitVec 8))) 0 (List.take 16 (List.drop (Int.toNat i * 16) ks))))))))) ∧ in64 (i + (1 : Int)) ∧ flatAV (AV.agg ks) ∧ Flat (hide (List.map AC.u8 (xorL (List.map asU8 (layS bs 0 (hide (List.map AC.u8 (shL (List.map asU8 (List.take 16 (List.drop 0 bs)))))))) (List.map asU8 (List.take 16 (List.drop 0 (layS (List.replicate 16 (AC.u8 (0 : BitVec 8))) 0 (List.take 16 (List.drop (Int.toNat i * 16) ks))))))))) ∧ Flat zs ∧ Flat xs ∧ KR X 45 0 Q (kOf Try.f45 0) (mkS 30 [(3, AV.one (AC.ptr 0 0)), (4, AV.one (AC.ptr 1 0)), (5, AV.one (AC.ptr 2 0)), (10, AV.agg ks), (11, AV.one (AC.i64 (i + (1 : Int))))]) [some (hide (List.map AC.u8 (xorL (List.map asU8 (layS bs 0 (hide (List.map AC.u8 (shL (List.map asU8 (List.take 16 (List.drop 0 bs)))))))) (List.map asU8 (List.take 16 (List.drop 0 (layS (List.replicate 16 (AC.u8 (0 : BitVec 8))) 0 (List.take 16 (List.drop (Int.toNat i * 16) ks))))))))), some zs, some xs])) ∧ (decide ((0 : Int) < i) = false → 16 ≤ List.length (layS (List.replicate 16 (AC.u8 (0 : BitVec 8))) 0 (List.take 16 (List.drop (Int.toNat i * 16) ks))) ∧ (allU8 (layS bs 0 (hide (List.map AC.u8 (shL (List.map asU8 (List.take 16 (List.drop 0 bs))))))) ∧ List.length (layS bs 0 (hide (List.map AC.u8 (shL (List.map asU8 (List.take 16 (List.drop 0 bs))))))) = 16 ∧ allU8 (List.take 16 (List.drop 0 (layS (List.replicate 16 (AC.u8 (0 : BitVec 8))) 0 (List.take 16 (List.drop (Int.toNat i * 16) ks))))) ∧ List.length (List.take 16 (List.drop 0 (layS (List.replicate 16 (AC.u8 (0 : BitVec 8))) 0 (List.take 16 (List.drop (Int.toNat i * 16) ks))))) = 16) ∧ flatAV (AV.agg (List.take 16 (List.drop 0 (layS (List.replicate 16 (AC.u8 (0 : BitVec 8))) 0 (List.take 16 (List.drop (Int.toNat i * 16) ks)))))) ∧ Flat (layS bs 0 (hide (List.map AC.u8 (shL (List.map asU8 (List.take 16 (List.drop 0 bs))))))) ∧ Flat (hide (List.map AC.u8 (xorL (List.map asU8 (layS bs 0 (hide (List.map AC.u8 (shL (List.map asU8 (List.take 16 (List.drop 0 bs)))))))) (List.map asU8 (List.take 16 (List.drop 0 (layS (List.replicate 16 (AC.u8 (0 : BitVec 8))) 0 (List.take 16 (List.drop (Int.toNat i * 16) ks))))))))) ∧ in64 (i + (1 : Int)) ∧ flatAV (AV.agg ks) ∧ Flat (hide (List.map AC.u8 (xorL (List.map asU8 (layS bs 0 (hide (List.map AC.u8 (shL (List.map asU8 (List.take 16 (List.drop 0 bs)))))))) (List.map asU8 (List.take 16 (List.drop 0 (layS (List.replicate 16 (AC.u8 (0 : BitVec 8))) 0 (List.take 16 (List.drop (Int.toNat i * 16) ks))))))))) ∧ Flat zs ∧ Flat xs ∧ KR X 45 0 Q (kOf Try.f45 0) (mkS 30 [(3, AV.one (AC.ptr 0 0)), (4, AV.one (AC.ptr 1 0)), (5, AV.one (AC.ptr 2 0)), (10, AV.agg ks), (11, AV.one (AC.i64 (i + (1 : Int))))]) [some (hide (List.map AC.u8 (xorL (List.map asU8 (layS bs 0 (hide (List.map AC.u8 (shL (List.map asU8 (List.take 16 (List.drop 0 bs)))))))) (List.map asU8 (List.take 16 (List.drop 0 (layS (List.replicate 16 (AC.u8 (0 : BitVec 8))) 0 (List.take 16 (List.drop (Int.toNat i * 16) ks))))))))), some zs, some xs])) ∧ (decide ((0 : Int) < i) = false → (decide ((0 : Int) < i) = true → (decide (i < (10 : Int)) = true → (allU8 bs ∧ List.length bs = 16) ∧ Flat bs ∧ Flat (hide (List.map AC.u8 (mixL (List.map asU8 bs)))) ∧ 16 ≤ List.length (layS (List.replicate 16 (AC.u8 (0 : BitVec 8))) 0 (List.take 16 (List.drop (Int.toNat i * 16) ks))) ∧ (allU8 (hide (List.map AC.u8 (mixL (List.map asU8 bs)))) ∧ List.length (hide (List.map AC.u8 (mixL (List.map asU8 bs)))) = 16 ∧ allU8 (List.take 16 (List.drop 0 (layS (List.replicate 16 (AC.u8 (0 : BitVec 8))) 0 (List.take 16 (List.drop (Int.toNat i * 16) ks))))) ∧ List.length (List.take 16 (List.drop 0 (layS (List.replicate 16 (AC.u8 (0 : BitVec 8))) 0 (List.take 16 (List.drop (Int.toNat i * 16) ks))))) = 16) ∧ flatAV (AV.agg (List.take 16 (List.drop 0 (layS (List.replicate 16 (AC.u8 (0 : BitVec 8))) 0 (List.take 16 (List.drop (Int.toNat i * 16) ks)))))) ∧ Flat (hide (List.map AC.u8 (mixL (List.map asU8 bs)))) ∧ Flat (hide (List.map AC.u8 (xorL (List.map asU8 (hide (List.map AC.u8 (mixL (List.map asU8 bs))))) (List.map asU8 (List.take 16 (List.drop 0 (layS (List.replicate 16 (AC.u8 (0 : BitVec 8))) 0 (List.take 16 (List.drop (Int.toNat i * 16) ks))))))))) ∧ in64 (i + (1 : Int)) ∧ flatAV (AV.agg ks) ∧ Flat (hide (List.map AC.u8 (xorL (List.map asU8 (hide (List.map AC.u8 (mixL (List.map asU8 bs))))) (List.map asU8 (List.take 16 (List.drop 0 (layS (List.replicate 16 (AC.u8 (0 : BitVec 8))) 0 (List.take 16 (List.drop (Int.toNat i * 16) ks))))))))) ∧ Flat zs ∧ Flat xs ∧ KR X 45 0 Q (kOf Try.f45 0) (mkS 30 [(3, AV.one (AC.ptr 0 0)), (4, AV.one (AC.ptr 1 0)), (5, AV.one (AC.ptr 2 0)), (10, AV.agg ks), (11, AV.one (AC.i64 (i + (1 : Int))))]) [some (hide (List.map AC.u8 (xorL (List.map asU8 (hide (List.map AC.u8 (mixL (List.map asU8 bs))))) (List.map asU8 (List.take 16 (List.drop 0 (layS (List.replicate 16 (AC.u8 (0 : BitVec 8))) 0 (List.take 16 (List.drop (Int.toNat i * 16) ks))))))))), some zs, some xs]) ∧ (decide (i < (10 : Int)) = false → 16 ≤ List.length (layS (List.replicate 16 (AC.u8 (0 : BitVec 8))) 0 (List.take 16 (List.drop (Int.toNat i * 16) ks))) ∧ (allU8 bs ∧ List.length bs = 16 ∧ allU8 (List.take 16 (List.drop 0 (layS (List.replicate 16 (AC.u8 (0 : BitVec 8))) 0 (List.take 16 (List.drop (Int.toNat i * 16) ks))))) ∧ List.length (List.take 16 (List.drop 0 (layS (List.replicate 16 (AC.u8 (0 : BitVec 8))) 0 (List.take 16 (List.drop (Int.toNat i * 16) ks))))) = 16) ∧ flatAV (AV.agg (List.take 16 (List.drop 0 (layS (List.replicate 16 (AC.u8 (0 : BitVec 8))) 0 (List.take 16 (List.drop (Int.toNat i * 16) ks)))))) ∧ Flat bs ∧ Flat (hide (List.map AC.u8 (xorL (List.map asU8 bs) (List.map asU8 (List.take 16 (List.drop 0 (layS (List.replicate 16 (AC.u8 (0 : BitVec 8))) 0 (List.take 16 (List.drop (Int.toNat i * 16) ks))))))))) ∧ in64 (i + (1 : Int)) ∧ flatAV (AV.agg ks) ∧ Flat (hide (List.map AC.u8 (xorL (List.map asU8 bs) (List.map asU8 (List.take 16 (List.drop 0 (layS (List.replicate 16 (AC.u8 (0 : BitVec 8))) 0 (List.take 16 (List.drop (Int.toNat i * 16) ks))))))))) ∧ Flat zs ∧ Flat xs ∧ KR X 45 0 Q (kOf Try.f45 0) (mkS 30 [(3, AV.one (AC.ptr 0 0)), (4, AV.one (AC.ptr 1 0)), (5, AV.one (AC.ptr 2 0)), (10, AV.agg ks), (11, AV.one (AC.i64 (i + (1 : Int))))]) [some (hide (List.map AC.u8 (xorL (List.map asU8 bs) (List.map asU8 (List.take 16 (List.drop 0 (layS (List.replicate 16 (AC.u8 (0 : BitVec 8))) 0 (List.take 16 (List.drop (Int.toNat i * 16) ks))))))))), some zs, some xs])) ∧ (decide ((0 : Int) < i) = false → 16 ≤ List.length (layS (List.replicate 16 (AC.u8 (0 : BitVec 8))) 0 (List.take 16 (List.drop (Int.toNat i * 16) ks))) ∧ (allU8 bs ∧ List.length bs = 16 ∧ allU8 (List.take 16 (List.drop 0 (layS (List.replicate 16 (AC.u8 (0 : BitVec 8))) 0 (List.take 16 (List.drop (Int.toNat i * 16) ks))))) ∧ List.length (List.take 16 (List.drop 0 (layS (List.replicate 16 (AC.u8 (0 : BitVec 8))) 0 (List.take 16 (List.drop (Int.toNat i * 16) ks))))) = 16) ∧ flatAV (AV.agg (List.take 16 (List.drop 0 (layS (List.replicate 16 (AC.u8 (0 : BitVec 8))) 0 (List.take 16 (List.drop (Int.toNat i * 16) ks)))))) ∧ Flat bs ∧ Flat (hide (List.map AC.u8 (xorL (List.map asU8 bs) (List.map asU8 (List.take 16 (List.drop 0 (layS (List.replicate 16 (AC.u8 (0 : BitVec 8))) 0 (List.take 16 (List.drop (Int.toNat i * 16) ks))))))))) ∧ in64 (i + (1 : Int)) ∧ flatAV (AV.agg ks) ∧ Flat (hide (List.map AC.u8 (xorL (List.map asU8 bs) (List.map asU8 (List.take 16 (List.drop 0 (layS (List.replicate 16 (AC.u8 (0 : BitVec 8))) 0 (List.take 16 (List.drop (Int.toNat i * 16) ks))))))))) ∧ Flat zs ∧ Flat xs ∧ KR X 45 0 Q (kOf Try.f45 0) (mkS 30 [(3, AV.one (AC.ptr 0 0)), (4, AV.one (AC.ptr 1 0)), (5, AV.one (AC.ptr 2 0)), (10, AV.agg ks), (11, AV.one (AC.i64 (i + (1 : Int))))]) [some (hide (List.map AC.u8 (xorL (List.map asU8 bs) (List.map asU8 (List.take 16 (List.drop 0 (layS (List.replicate 16 (AC.u8 (0 : BitVec 8))) 0 (List.take 16 (List.drop (Int.toNat i * 16) ks))))))))), some zs, some xs]))) ∧ (decide (i < (11 : Int)) = false → 16 ≤ List.length bs ∧ (List.length (List.take 16 (List.drop 0 bs)) = 16 ∧ 16 ≤ List.length zs) ∧ 16 ≤ List.length (layS zs 0 (List.take 16 (List.drop 0 bs))) ∧ flatAV (AV.agg (List.take 16 (List.drop 0 (layS zs 0 (List.take 16 (List.drop 0 bs)))))) ∧ Q (AV.agg (List.take 16 (List.drop 0 (layS zs 0 (List.take 16 (List.drop 0 bs)))))) [])) : KRun X 45 0 Q (kOf Try.f45 0) (mkS 30 [(3, .one (.ptr 0 0)), (4, .one (.ptr 1 0)), (5, .one (.ptr 2 0)), (10, .agg ks), (11, .one (.i64 i))]) [some bs, some zs, some xs] :=
  wpRun_ok (hX ▸ baseK_ok T13 mf13 M13) (hX ▸ baseK_call T13_ok M13_ok) (hX ▸ mixed) (hX ▸ ok45) LK_ok (cast (β := wpRun (baseK T13 mf13 M13) [12, 16, 20, 23] [] false (RS.mk Try.f45.results.toList 0 (CS.mk [] [] [0] [])) (LK X 45 0 Q true [(3, LS.mk [3, 4, 5, 10, 11] (CS.mk [] [true, true, true] [10] []))]) Q 2000 (kOf Try.f45 0) (mkS 30 [(3, .one (.ptr 0 0)), (4, .one (.ptr 1 0)), (5, .one (.ptr 2 0)), (10, .agg ks), (11, .one (.i64 i))]) [some bs, some zs, some xs]) (by kernel_rfl) h)
set_option maxRecDepth 100000 in
theorem vc55t {X : Ctx} {Q : AV → Mem → Prop} (hX : X.P = Try.prog) (ks : List AC) (n : Int) (h : (decide (n < (0 : Int)) = true → (16 = 16 ∧ 16 ≤ 16) ∧ 16 ≤ 16 ∧ flatAV (AV.agg (List.replicate 16 (AC.u8 (0 : BitVec 8)))) ∧ Q (AV.agg (List.replicate 16 (AC.u8 (0 : BitVec 8)))) []) ∧ (decide (n < (0 : Int)) = false → (decide ((10 : Int) < n) = true → (16 = 16 ∧ 16 ≤ 16) ∧ 16 ≤ 16 ∧ flatAV (AV.agg (List.replicate 16 (AC.u8 (0 : BitVec 8)))) ∧ Q (AV.agg (List.replicate 16 (AC.u8 (0 : BitVec 8)))) []) ∧ (decide ((10 : Int) < n) = false → 177 ≤ List.length (AC.b true :: ks) ∧ Flat (List.take 177 (List.drop 0 (AC.b true :: ks))) ∧ (allU8 (List.take 176 ks) ∧ List.length (List.take 176 ks) = 176) ∧ (List.length (hide (List.map AC.u8 (List.map asU8 (List.take 176 ks)))) = 176 ∧ 176 ≤ 176) ∧ ((0 : Int) ≤ n ∧ n < (↑11 : Int)) ∧ 0 + Int.toNat n * 16 + 16 ≤ List.length (layS (List.replicate 176 (AC.u8 (0 : BitVec 8))) 0 (hide (List.map AC.u8 (List.map asU8 (List.take 176 ks))))) ∧ (List.length (List.take 16 (List.drop (0 + Int.toNat n * 16) (layS (List.replicate 176 (AC.u8 (0 : BitVec 8))) 0 (hide (List.map AC.u8 (List.map asU8 (List.take 176 ks))))))) = 16 ∧ 16 ≤ 16) ∧ 16 ≤ List.length (layS (List.replicate 16 (AC.u8 (0 : BitVec 8))) 0 (List.take 16 (List.drop (0 + Int.toNat n * 16) (layS (List.replicate 176 (AC.u8 (0 : BitVec 8))) 0 (hide (List.map AC.u8 (List.map asU8 (List.take 176 ks)))))))) ∧ flatAV (AV.agg (List.take 16 (List.drop 0 (layS (List.replicate 16 (AC.u8 (0 : BitVec 8))) 0 (List.take 16 (List.drop (0 + Int.toNat n * 16) (layS (List.replicate 176 (AC.u8 (0 : BitVec 8))) 0 (hide (List.map AC.u8 (List.map asU8 (List.take 176 ks))))))))))) ∧ Q (AV.agg (List.take 16 (List.drop 0 (layS (List.replicate 16 (AC.u8 (0 : BitVec 8))) 0 (List.take 16 (List.drop (0 + Int.toNat n * 16) (layS (List.replicate 176 (AC.u8 (0 : BitVec 8))) 0 (hide (List.map AC.u8 (List.map asU8 (List.take 176 ks))))))))))) []))) : KRun X 55 0 Q ([.code (bodyOf Try.f55)]) (slots [.agg (.b true :: ks), .one (.i64 n)] Try.f55.ntmps) [] :=
  wpRun_ok (hX ▸ baseK_ok T13 mf13 M13) (hX ▸ baseK_call T13_ok M13_ok) (hX ▸ mixed) (hX ▸ ok55) LK_ok (cast (β := wpRun (baseK T13 mf13 M13) [7, 10] [] false (RS.mk Try.f55.results.toList 0 (CS.mk [] [] [0] [])) (LK X 55 0 Q true []) Q 2000 ([.code (bodyOf Try.f55)]) (slots [.agg (.b true :: ks), .one (.i64 n)] Try.f55.ntmps) []) (by kernel_rfl) h)
set_option maxRecDepth 100000 in
theorem vc55f {X : Ctx} {Q : AV → Mem → Prop} (hX : X.P = Try.prog) (ks : List AC) (n : Int) (h : (decide (n < (0 : Int)) = true → (16 = 16 ∧ 16 ≤ 16) ∧ 16 ≤ 16 ∧ flatAV (AV.agg (List.replicate 16 (AC.u8 (0 : BitVec 8)))) ∧ Q (AV.agg (List.replicate 16 (AC.u8 (0 : BitVec 8)))) []) ∧ (decide (n < (0 : Int)) = false → (decide ((10 : Int) < n) = true → (16 = 16 ∧ 16 ≤ 16) ∧ 16 ≤ 16 ∧ flatAV (AV.agg (List.replicate 16 (AC.u8 (0 : BitVec 8)))) ∧ Q (AV.agg (List.replicate 16 (AC.u8 (0 : BitVec 8)))) []) ∧ (decide ((10 : Int) < n) = false → 177 ≤ List.length (AC.b false :: ks) ∧ Flat (List.take 177 (List.drop 0 (AC.b false :: ks))) ∧ (List.length (hide (List.map AC.u8 (exL zkey 176))) = 176 ∧ 176 ≤ 176) ∧ ((0 : Int) ≤ n ∧ n < (↑11 : Int)) ∧ 0 + Int.toNat n * 16 + 16 ≤ List.length (layS (List.replicate 176 (AC.u8 (0 : BitVec 8))) 0 (hide (List.map AC.u8 (exL zkey 176)))) ∧ (List.length (List.take 16 (List.drop (0 + Int.toNat n * 16) (layS (List.replicate 176 (AC.u8 (0 : BitVec 8))) 0 (hide (List.map AC.u8 (exL zkey 176)))))) = 16 ∧ 16 ≤ 16) ∧ 16 ≤ List.length (layS (List.replicate 16 (AC.u8 (0 : BitVec 8))) 0 (List.take 16 (List.drop (0 + Int.toNat n * 16) (layS (List.replicate 176 (AC.u8 (0 : BitVec 8))) 0 (hide (List.map AC.u8 (exL zkey 176))))))) ∧ flatAV (AV.agg (List.take 16 (List.drop 0 (layS (List.replicate 16 (AC.u8 (0 : BitVec 8))) 0 (List.take 16 (List.drop (0 + Int.toNat n * 16) (layS (List.replicate 176 (AC.u8 (0 : BitVec 8))) 0 (hide (List.map AC.u8 (exL zkey 176)))))))))) ∧ Q (AV.agg (List.take 16 (List.drop 0 (layS (List.replicate 16 (AC.u8 (0 : BitVec 8))) 0 (List.take 16 (List.drop (0 + Int.toNat n * 16) (layS (List.replicate 176 (AC.u8 (0 : BitVec 8))) 0 (hide (List.map AC.u8 (exL zkey 176)))))))))) []))) : KRun X 55 0 Q ([.code (bodyOf Try.f55)]) (slots [.agg (.b false :: ks), .one (.i64 n)] Try.f55.ntmps) [] :=
  wpRun_ok (hX ▸ baseK_ok T13 mf13 M13) (hX ▸ baseK_call T13_ok M13_ok) (hX ▸ mixed) (hX ▸ ok55) LK_ok (cast (β := wpRun (baseK T13 mf13 M13) [7, 10] [] false (RS.mk Try.f55.results.toList 0 (CS.mk [] [] [0] [])) (LK X 55 0 Q true []) Q 2000 ([.code (bodyOf Try.f55)]) (slots [.agg (.b false :: ks), .one (.i64 n)] Try.f55.ntmps) []) (by kernel_rfl) h)

theorem xorL_len (a b : List (BitVec 8)) : (xorL a b).length = 16 := tab16_len _
theorem shL_len (b : List (BitVec 8)) : (shL b).length = 16 := tab16_len _
theorem encN_len (key b : List (BitVec 8)) : ∀ n, (encN key b n).length = 16
  | 0 => xorL_len _ _
  | _ + 1 => xorL_len _ _
theorem rk_eq (key : List (BitVec 8)) (n : Nat) : ((exL key 176).drop (n * 16)).take 16 = rkF key n := by unfold rkF; rw [Nat.mul_comm]
/-- the block ahead of round n -/
def encP' (key b : List (BitVec 8)) : Nat → List (BitVec 8)
  | 0 => b
  | n + 1 => encN key b n
theorem l45 {X : Ctx} (hX : X.P = Try.prog) (key b : List (BitVec 8)) (hb : b.length = 16) : ∀ (d i : Nat), i + d = 11 →
    KRun X 45 0 (Is (.agg ((encF key b).map AC.u8))) (kOf Try.f45 0) (mkS 30 [(3, .one (.ptr 0 0)), (4, .one (.ptr 1 0)), (5, .one (.ptr 2 0)), (10, .agg ((exL key 176).map AC.u8)), (11, .one (.i64 i))]) [some ((encP' key b i).map AC.u8), some (List.replicate 16 (AC.u8 0)), some (boxT.map AC.u8)] := by
  have z : Flat (List.replicate 16 (AC.u8 0)) := by rw [mrep]; exact flat_u8 _
  have hE := exL_len key 176
  intro d
  induction d with
  | zero =>
    intro i hi
    have hi : i = 11 := by omega
    subst hi
    have e : encP' key b 11 = encF key b := rfl
    have hl : (encF key b).length = 16 := encN_len _ _ _
    refine vc45a hX _ _ _ _ _ ⟨fun h => absurd (of_decide_eq_true h) (by omega), fun _ => ?_⟩
    rw [e]
    simp only [hide_eq, tkm, tk0, map_as8, layR, layC, layM, lay1, tkn, List.drop_zero, Nat.zero_add, Nat.mul_one, Nat.reduceAdd, Nat.le_refl, Nat.min_self, Nat.reduceLeDiff, same_self, Int.toNat_natCast, List.length_map, List.length_append, List.length_replicate, List.length_take, List.length_drop, tab16_len, hl]
    (repeat' (first | exact trivial | exact flat_u8 _ | exact flatA _ | exact allU8_map _ | exact Nat.le_refl _ | refine And.intro ?_ ?_)) <;> (first | omega | exact z | (unfold in64; omega) | exact List.length_map _ | (show Is _ _ _; exact rfl) | skip)
  | succ d ih =>
    intro i hi
    have ih := ih (i + 1) (by omega)
    have hr := rkF_len key (n := i) (by omega)
    have hB := boxT_len
    refine vc45a hX _ _ _ _ _ ⟨fun _ => ?_, fun h => absurd (of_decide_eq_false h) (by omega)⟩
    rcases Nat.eq_zero_or_pos i with h0 | h0
    · subst h0
      have d0 : decide ((0 : Int) < ((0 : Nat) : Int)) = false := rfl
      have e0 : encP' key b 0 = b := rfl
      have e1 : encP' key b (0 + 1) = xorL b (rkF key 0) := rfl
      rw [e1] at ih
      have eb : b.take 16 = b := List.take_of_length_le (by omega)
      have e16 : (exL key 176).take 16 = rkF key 0 := by unfold rkF; rw [Nat.mul_zero, List.drop_zero]
      have er : (rkF key 0).take 16 = rkF key 0 := List.take_of_length_le (by omega)
      simp only [d0, e0, decide_true, true_implies, forall_const, Bool.true_eq_false, Bool.false_eq_true, false_implies, and_true, true_and]
      simp only [hide_eq, tkm, tk0, map_as8, layR, layC, layM, lay1, tkn, List.drop_zero, Nat.zero_add, Nat.mul_one, Nat.reduceAdd, Nat.le_refl, Nat.min_self, Nat.reduceLeDiff, same_self, Int.toNat_natCast, rk_eq, List.length_map, List.length_append, List.length_replicate, List.length_take, List.length_drop, tab16_len, hE, hb, eb, hr, er, hB, xorL_len, shL_len, mixL_len, Int.toNat_zero, Nat.zero_mul, e16]
      clear hE hB hr er eb e0 e1 e16
      (repeat' (first | exact trivial | exact flat_u8 _ | exact flatA _ | exact allU8_map _ | exact Nat.le_refl _ | refine And.intro ?_ ?_)) <;> (first | omega | exact z | (unfold in64; omega) | exact List.length_map _ | (show Is _ _ _; exact rfl) | skip)
      exact ⟨ih⟩
    · have d0 : decide ((0 : Int) < (i : Int)) = true := decide_eq_true (by omega)
      obtain ⟨n, rfl⟩ : ∃ n, i = n + 1 := ⟨i - 1, by omega⟩
      have e0 : encP' key b (n + 1) = encN key b n := rfl
      have e1 : encP' key b (n + 1 + 1) = xorL (if n + 1 < 10 then mixL (shL (encN key b n)) else shL (encN key b n)) (rkF key (n + 1)) := rfl
      rw [e1] at ih
      have hn := encN_len key b n
      have eb : (encN key b n).take 16 = encN key b n := List.take_of_length_le (by omega)
      have er : (rkF key (n + 1)).take 16 = rkF key (n + 1) := List.take_of_length_le (by omega)
      have hk : (n + 1) * 16 + 16 ≤ 176 := by omega
      by_cases h10 : n + 1 < 10
      · have d1 : decide (((n + 1 : Nat) : Int) < 10) = true := decide_eq_true (by omega)
        rw [if_pos h10] at ih
        simp only [d0, d1, e0, decide_true, true_implies, forall_const, Bool.true_eq_false, Bool.false_eq_true, false_implies, and_true, true_and]
        simp only [hide_eq, tkm, tk0, map_as8, layR, layC, layM, lay1, tkn, List.drop_zero, Nat.zero_add, Nat.mul_one, Nat.reduceAdd, Nat.le_refl, Nat.min_self, Nat.reduceLeDiff, same_self, Int.toNat_natCast, rk_eq, List.length_map, List.length_append, List.length_replicate, List.length_take, List.length_drop, tab16_len, hE, hn, eb, hr, er, hB, xorL_len, shL_len, mixL_len]
        clear hE hB hr er eb hn
        (repeat' (first | exact trivial | exact flat_u8 _ | exact flatA _ | exact allU8_map _ | exact Nat.le_refl _ | refine And.intro ?_ ?_)) <;> (first | omega | exact z | (unfold in64; omega) | exact List.length_map _ | (show Is _ _ _; exact rfl) | skip)
        exact ⟨ih⟩
      · have d1 : decide (((n + 1 : Nat) : Int) < 10) = false := decide_eq_false (by omega)
        rw [if_neg h10] at ih
        simp only [d0, d1, e0, decide_true, true_implies, forall_const, Bool.true_eq_false, Bool.false_eq_true, false_implies, and_true, true_and]
        simp only [hide_eq, tkm, tk0, map_as8, layR, layC, layM, lay1, tkn, List.drop_zero, Nat.zero_add, Nat.mul_one, Nat.reduceAdd, Nat.le_refl, Nat.min_self, Nat.reduceLeDiff, same_self, Int.toNat_natCast, rk_eq, List.length_map, List.length_append, List.length_replicate, List.length_take, List.length_drop, tab16_len, hE, hn, eb, hr, er, hB, xorL_len, shL_len, mixL_len]
        clear hE hB hr er eb hn
        (repeat' (first | exact trivial | exact flat_u8 _ | exact flatA _ | exact allU8_map _ | exact Nat.le_refl _ | refine And.intro ?_ ?_)) <;> (first | omega | exact z | (unfold in64; omega) | exact List.length_map _ | (show Is _ _ _; exact rfl) | skip)
        exact ⟨ih⟩
theorem s45t (key b : List (BitVec 8)) (hb : b.length = 16) : Spec Try.prog 45 [.agg (kc true (exL key 176)), .agg (b.map AC.u8)] [] (Is (.agg ((encF key b).map AC.u8))) := by
  refine Spec.of_run ok45 fun X hX => vc45t hX _ _ ?_
  have K := l45 hX key b hb 11 0 rfl
  have e0 : encP' key b 0 = b := rfl
  rw [e0] at K
  have hE := exL_len key 176
  have hB := boxT_len
  have z : Flat (List.replicate 16 (AC.u8 0)) := by rw [mrep]; exact flat_u8 _
  have hl : (AC.b true :: (exL key 176).map AC.u8).length = 177 := by rw [List.length_cons, List.length_map, hE]
  have zk : Flat (List.take 177 (List.drop 0 (AC.b true :: (exL key 176).map AC.u8))) := fun c h => by
    have h := List.mem_of_mem_drop (List.mem_of_mem_take h)
    rcases List.mem_cons.1 h with rfl | h
    · rfl
    · exact flat_u8 _ c h
  have ek : (exL key 176).take 176 = exL key 176 := List.take_of_length_le (by omega)
  have el : layS (List.replicate 256 (AC.u8 0)) 0 (boxT.map AC.u8) = boxT.map AC.u8 := layR _ _ hB
  refine ⟨?_, ?_, zk, ?_⟩
  · rw [hide_eq, List.length_map, hB]; exact ⟨rfl, Nat.le_refl _⟩
  · rw [hl]; exact Nat.le_refl _
  · simp only [hide_eq, tk0, ek, map_as8, el, List.length_map, hE]
    exact ⟨⟨allU8_map _, trivial⟩, flatA _, flat_u8 _, z, flat_u8 _, ⟨K⟩⟩
theorem s45f (ks : List (BitVec 8)) (hk : ks.length = 176) (b : List (BitVec 8)) (hb : b.length = 16) : Spec Try.prog 45 [.agg (kc false ks), .agg (b.map AC.u8)] [] (Is (.agg ((encF zkey b).map AC.u8))) := by
  refine Spec.of_run ok45 fun X hX => vc45f hX _ _ ?_
  have K := l45 hX zkey b hb 11 0 rfl
  have e0 : encP' zkey b 0 = b := rfl
  rw [e0] at K
  have hB := boxT_len
  have z : Flat (List.replicate 16 (AC.u8 0)) := by rw [mrep]; exact flat_u8 _
  have hl : (AC.b false :: ks.map AC.u8).length = 177 := by rw [List.length_cons, List.length_map, hk]
  have zk : Flat (List.take 177 (List.drop 0 (AC.b false :: ks.map AC.u8))) := fun c h => by
    have h := List.mem_of_mem_drop (List.mem_of_mem_take h)
    rcases List.mem_cons.1 h with rfl | h
    · rfl
    · exact flat_u8 _ c h
  have el : layS (List.replicate 256 (AC.u8 0)) 0 (boxT.map AC.u8) = boxT.map AC.u8 := layR _ _ hB
  refine ⟨?_, ?_, zk, ?_⟩
  · rw [hide_eq, List.length_map, hB]; exact ⟨rfl, Nat.le_refl _⟩
  · rw [hl]; exact Nat.le_refl _
  · simp only [hide_eq, el]
    exact ⟨flatA _, flat_u8 _, z, flat_u8 _, ⟨K⟩⟩
end DH
