/- Walks of functions, each by evaluation: what each returns; with the layer beneath. -/
import Derived.Test.YtdnggeocdocomaaPA
import Derived.Test.YtdnggeocdocomaaHB
set_option linter.unusedVariables false
set_option linter.unusedSimpArgs false
noncomputable section
namespace DH
open List (take drop replicate)
open Go Go.Proofs
def z12 : List (BitVec 8) := replicate 12 0
def macB (a:Int) (k m : List (BitVec 8)) : List (BitVec 8) := if kszF a = 0 then z12 else if k.length ≠ kszF a then z12 else if a = 1 then shF k m else sh12 (cmF k m)
def macE (a:Int) (k : List (BitVec 8)) : Int := if kszF a = 0 then 11 else if k.length ≠ kszF a then 1 else 0
theorem macB_len (a:Int) (k m : List (BitVec 8)) : (macB a k m).length = 12 := by
  unfold macB
  split
  · exact List.length_replicate
  · split
    · exact List.length_replicate
    · split
      · exact shF_len _ _
      · exact sh12_len (cmF_len _ _)
theorem kszF_cases (a:Int) : (a = 1 ∧ kszF a = 20) ∨ (a = 2 ∧ kszF a = 16) ∨ (a ≠ 1 ∧ a ≠ 2 ∧ kszF a = 0) := by
  unfold kszF
  by_cases h1 : a = 1
  · exact .inl ⟨h1, if_pos h1⟩
  · by_cases h2 : a = 2
    · exact .inr (.inl ⟨h2, by rw [if_neg h1, if_pos h2]⟩)
    · exact .inr (.inr ⟨h1, h2, by rw [if_neg h1, if_neg h2]⟩)
theorem s80 (a:Int) (k : List (BitVec 8)) (ps : List (List (BitVec 8))) (hk : k.length ≤ 1000000) (hps : ps.length ≤ 1000000) : Spec Try.prog 80 [.one (.i64 a), .one (.xs (k.map AC.u8) 0 k.length), .one (.xs (ps.map encP) 0 ps.length)] [] (Is (.tup [.agg ((macB a k ps.flatten).map AC.u8), .one (.i64 (macE a k))])) := by
  generalize hm : ps.flatten = m
  refine Spec.of_run ok80 fun X hX => vc80 hX _ _ _ _ _ ?_
  have z : Flat (replicate 12 (AC.u8 0)) := by rw [mrep]; exact flat_u8 _
  have zA : flatAV (.agg (replicate 12 (AC.u8 0))) := z
  have hz : z12.map AC.u8 = replicate 12 (AC.u8 0) := List.map_replicate
  have hs := shF_len k m
  have hc := cmF_len k m
  have h12 := sh12_len hc
  have l1 : layS (replicate 12 (AC.u8 0)) 0 ((shF k m).map AC.u8) = (shF k m).map AC.u8 := layR _ _ hs
  have l2 : layS (replicate 12 (AC.u8 0)) 0 ((sh12 (cmF k m)).map AC.u8) = (sh12 (cmF k m)).map AC.u8 := layR _ _ h12
  have t1 : (shF k m).take 12 = shF k m := List.take_of_length_le (by omega)
  have t2 : (sh12 (cmF k m)).take 12 = sh12 (cmF k m) := List.take_of_length_le (by omega)
  refine ⟨fun h => ?_, fun h => ⟨fun h1 => ?_, fun h1 => ⟨fun h2 => ?_, fun h2 => ?_⟩⟩⟩
  · have h0 : kszF a = 0 := by have := of_decide_eq_true h; omega
    have hB : macB a k m = z12 := if_pos h0
    have hE : macE a k = 11 := if_pos h0
    rw [hB, hE, hz]
    (repeat' (first | exact trivial | exact flat_u8 _ | exact flatA _ | exact z | exact zA | exact allU8_map _ | exact exU8 _ | exact Nat.le_refl _ | exact (rfl : AC.flat (AC.i64 _) = true) | refine And.intro ?_ ?_)) <;> first | omega | skip
    exact rfl
  · have h0 : ¬ kszF a = 0 := by have := of_decide_eq_false h; omega
    have h1 : k.length ≠ kszF a := by have := not_dec h1; omega
    have hB : macB a k m = z12 := by unfold macB; rw [if_neg h0, if_pos h1]
    have hE : macE a k = 1 := by unfold macE; rw [if_neg h0, if_pos h1]
    rw [hB, hE, hz]
    (repeat' (first | exact trivial | exact flat_u8 _ | exact flatA _ | exact z | exact zA | exact allU8_map _ | exact exU8 _ | exact Nat.le_refl _ | exact (rfl : AC.flat (AC.i64 _) = true) | refine And.intro ?_ ?_)) <;> first | omega | skip
    exact rfl
  · have h0 : ¬ kszF a = 0 := by have := of_decide_eq_false h; omega
    have h1 : ¬ k.length ≠ kszF a := by have := is_dec h1; omega
    have h2 := of_decide_eq_true h2
    have hB : macB a k m = shF k m := by unfold macB; rw [if_neg h0, if_neg h1, if_pos h2]
    have hE : macE a k = 0 := by unfold macE; rw [if_neg h0, if_neg h1]
    rw [tk k, tkP ps, map_asP, hm, hB, hE]
    simp only [hide_eq, map_as8, l1, tk0, List.drop_zero, t1, List.length_map, List.length_replicate, hs]
    clear l1 l2 t1 t2 hB hc h12
    generalize shF k m = E at *
    (repeat' (first | exact trivial | exact flat_u8 _ | exact flatA _ | exact z | exact zA | exact allU8_map _ | exact exU8 _ | exact Nat.le_refl _ | exact (rfl : AC.flat (AC.i64 _) = true) | refine And.intro ?_ ?_)) <;> first | omega | skip
    exact rfl
  · have h0 : ¬ kszF a = 0 := by have := of_decide_eq_false h; omega
    have h1 : ¬ k.length ≠ kszF a := by have := is_dec h1; omega
    have h2 := of_decide_eq_false h2
    have h16 : k.length = 16 := by rcases kszF_cases a with h | h | h <;> omega
    have ek : k.take 16 = k := List.take_of_length_le (by omega)
    have hB : macB a k m = sh12 (cmF k m) := by unfold macB; rw [if_neg h0, if_neg h1, if_neg h2]
    have hE : macE a k = 0 := by unfold macE; rw [if_neg h0, if_neg h1]
    rw [tkP ps, map_asP, hm, hB, hE]
    simp only [hide_eq, ek, map_as8, l2, tk0, List.drop_zero, t2, List.length_map, List.length_replicate, h12, h16]
    clear l1 l2 t1 t2 hB hs ek
    generalize cmF k m = E at *
    (repeat' (first | exact trivial | exact flat_u8 _ | exact flatA _ | exact z | exact zA | exact allU8_map _ | exact exU8 _ | exact Nat.le_refl _ | exact (rfl : AC.flat (AC.i64 _) = true) | refine And.intro ?_ ?_)) <;> first | omega | skip
    exact rfl
theorem s81 (a:Int) (k m : List (BitVec 8)) (hk : k.length ≤ 1000000) (hmm : m.length ≤ 900000) : Spec Try.prog 81 [.one (.i64 a), .one (.xs (k.map AC.u8) 0 k.length), .one (.xs (m.map AC.u8) 0 m.length)] [] (Is (.tup [.agg ((macB a k m).map AC.u8), .one (.i64 (macE a k))])) := by
  refine Spec.of_run ok81 fun X hX => vc81 hX _ _ _ _ _ ?_
  have z : Flat (replicate 12 (AC.u8 0)) := by rw [mrep]; exact flat_u8 _
  have zA : flatAV (.agg (replicate 12 (AC.u8 0))) := z
  have hz : z12.map AC.u8 = replicate 12 (AC.u8 0) := List.map_replicate
  have hs := shF_len k m
  have hc := cmF_len k m
  have h12 := sh12_len hc
  have hx := sxF_len k
  have l1 : layS (replicate 12 (AC.u8 0)) 0 ((shF k m).map AC.u8) = (shF k m).map AC.u8 := layR _ _ hs
  have l2 : layS (replicate 12 (AC.u8 0)) 0 ((sh12 (cmF k m)).map AC.u8) = (sh12 (cmF k m)).map AC.u8 := layR _ _ h12
  have t1 : (shF k m).take 12 = shF k m := List.take_of_length_le (by omega)
  have t2 : (sh12 (cmF k m)).take 12 = sh12 (cmF k m) := List.take_of_length_le (by omega)
  refine ⟨fun h => ?_, fun h => ⟨fun h1 => ?_, fun h1 => ⟨fun h2 => ?_, fun h2 => ?_⟩⟩⟩
  · have h0 : kszF a = 0 := by have := of_decide_eq_true h; omega
    have hB : macB a k m = z12 := if_pos h0
    have hE : macE a k = 11 := if_pos h0
    rw [hB, hE, hz]
    (repeat' (first | exact trivial | exact flat_u8 _ | exact flatA _ | exact z | exact zA | exact allU8_map _ | exact exU8 _ | exact Nat.le_refl _ | exact (rfl : AC.flat (AC.i64 _) = true) | refine And.intro ?_ ?_)) <;> first | omega | skip
    exact rfl
  · have h0 : ¬ kszF a = 0 := by have := of_decide_eq_false h; omega
    have h1 : k.length ≠ kszF a := by have := not_dec h1; omega
    have hB : macB a k m = z12 := by unfold macB; rw [if_neg h0, if_pos h1]
    have hE : macE a k = 1 := by unfold macE; rw [if_neg h0, if_pos h1]
    rw [hB, hE, hz]
    (repeat' (first | exact trivial | exact flat_u8 _ | exact flatA _ | exact z | exact zA | exact allU8_map _ | exact exU8 _ | exact Nat.le_refl _ | exact (rfl : AC.flat (AC.i64 _) = true) | refine And.intro ?_ ?_)) <;> first | omega | skip
    exact rfl
  · have h0 : ¬ kszF a = 0 := by have := of_decide_eq_false h; omega
    have h1 : ¬ k.length ≠ kszF a := by have := is_dec h1; omega
    have h2 := of_decide_eq_true h2
    have hB : macB a k m = shF k m := by unfold macB; rw [if_neg h0, if_neg h1, if_pos h2]
    have hE : macE a k = 0 := by unfold macE; rw [if_neg h0, if_neg h1]
    rw [tk k, tk m, hB, hE]
    simp only [hide_eq, map_as8, l1, tk0, List.drop_zero, t1, List.length_map, List.length_replicate, hs]
    clear l1 l2 t1 t2 hB hc h12
    generalize shF k m = E at *
    (repeat' (first | exact trivial | exact flat_u8 _ | exact flatA _ | exact z | exact zA | exact allU8_map _ | exact exU8 _ | exact Nat.le_refl _ | exact (rfl : AC.flat (AC.i64 _) = true) | refine And.intro ?_ ?_)) <;> first | omega | skip
    exact rfl
  · have h0 : ¬ kszF a = 0 := by have := of_decide_eq_false h; omega
    have h1 : ¬ k.length ≠ kszF a := by have := is_dec h1; omega
    have h2 := of_decide_eq_false h2
    have h16 : k.length = 16 := by rcases kszF_cases a with h | h | h <;> omega
    have ex := sxF_16 h16
    have hB : macB a k m = sh12 (cmF k m) := by unfold macB; rw [if_neg h0, if_neg h1, if_neg h2]
    have hE : macE a k = 0 := by unfold macE; rw [if_neg h0, if_neg h1]
    rw [tk k, tk m, hB, hE]
    simp only [hide_eq, map_as8, ex, l2, tk0, List.drop_zero, t2, List.length_map, List.length_replicate, h12, h16]
    clear l1 l2 t1 t2 hB hs ex hx
    generalize cmF k m = E at *
    (repeat' (first | exact trivial | exact flat_u8 _ | exact flatA _ | exact z | exact zA | exact allU8_map _ | exact exU8 _ | exact Nat.le_refl _ | exact (rfl : AC.flat (AC.i64 _) = true) | refine And.intro ?_ ?_)) <;> first | omega | skip
    exact rfl
noncomputable def T25 : Tab := fun f xs => match f, xs with
  | 80, [.one (.i64 a), .one (.xs row 0 n), .one (.xs ps 0 k)] => some ([allU8 row ∧ row.length = n ∧ n ≤ 1000000 ∧ ps = (ps.map asP).map encP ∧ ps.length = k ∧ k ≤ 1000000], .tup [.agg (hide ((macB a (row.map asU8) (ps.map asP).flatten).map AC.u8)), .one (.i64 (macE a (row.map asU8)))])
  | 81, [.one (.i64 a), .one (.xs row 0 n), .one (.xs r2 0 k)] => some ([allU8 row ∧ row.length = n ∧ n ≤ 1000000 ∧ allU8 r2 ∧ r2.length = k ∧ k ≤ 900000], .tup [.agg (hide ((macB a (row.map asU8) (r2.map asU8)).map AC.u8)), .one (.i64 (macE a (row.map asU8)))])
  | f, xs => T24 f xs
theorem exact_mac (l : List (BitVec 8)) (e:Int) : (AV.tup [.agg (l.map AC.u8), .one (.i64 e)]).exact := by
  intro v hv
  rcases List.mem_cons.1 hv with rfl | hv
  · exact exU8 _
  · rw [List.mem_singleton.1 hv]; exact rfl
theorem T25_ok : TabOk Try.prog T25 := by
  intro f xs cs r h hc
  unfold T25 at h
  split at h
  · obtain ⟨rfl, rfl⟩ := Prod.mk.inj (Option.some.inj h)
    obtain ⟨h1, h2, h3, h4, h5, h6⟩ := hc.1
    rename_i a row n ps k
    have := s80 a (row.map asU8) (ps.map asP) (by rw [List.length_map]; omega) (by rw [List.length_map]; omega)
    rw [← h1, ← h4, List.length_map, List.length_map, h2, h5] at this
    rw [hide_eq]
    exact ⟨⟨_, _, ok80⟩, this, exact_mac _ _⟩
  · obtain ⟨rfl, rfl⟩ := Prod.mk.inj (Option.some.inj h)
    obtain ⟨h1, h2, h3, h4, h5, h6⟩ := hc.1
    rename_i a row n r2 k
    have := s81 a (row.map asU8) (r2.map asU8) (by rw [List.length_map]; omega) (by rw [List.length_map]; omega)
    rw [← h1, ← h4, List.length_map, List.length_map, h2, h5] at this
    rw [hide_eq]
    exact ⟨⟨_, _, ok81⟩, this, exact_mac _ _⟩
  · exact T24_ok _ _ _ _ h hc
noncomputable def M20 : TabM := fun f xs m => match f, xs, m with
  | 76, [.one (.i64 a), .one (.xs mr 0 n), .one (.xs cr 0 k)], [] => some ([allU8 mr ∧ mr.length = n ∧ allU8 cr ∧ cr.length = k ∧ k ≤ 1000], .tup [.one (.sv 0 0 (keyB a (mr.map asU8) (cr.map asU8)).length), .one (.i64 (keyE a (mr.map asU8)))], [some (hide ((keyB a (mr.map asU8) (cr.map asU8)).map AC.u8))])
  | 77, [.one (.i64 a), .one (.xs mr 0 n), .one (.xs cr 0 k)], [] => some ([allU8 mr ∧ mr.length = n ∧ allU8 cr ∧ cr.length = k ∧ k ≤ 1000], .tup [.one (.sv 0 0 (keyB a (mr.map asU8) (cr.map asU8)).length), .one (.i64 (keyE a (mr.map asU8)))], [some (hide ((keyB a (mr.map asU8) (cr.map asU8)).map AC.u8))])
  | f, xs, m => M19 f xs m
noncomputable def mf20 : FuncId → Option MF := fun f => match f with
  | 76 => some { cs := { kinds := [], fl := [] }, flo := [true], fresh := true }
  | 77 => some { cs := { kinds := [], fl := [] }, flo := [true], fresh := true }
  | f => mf19 f
theorem M20_ok : TabMOk Try.prog M20 := by
  intro f xs m0 cs r m1 h hc
  unfold M20 at h
  split at h
  · simp only [Option.some.injEq, Prod.mk.injEq] at h; obtain ⟨rfl, rfl, rfl⟩ := h
    rename_i a mr n cr k
    obtain ⟨h1, h2, h3, h4, h5⟩ := hc.1
    have := s76 a (mr.map asU8) (cr.map asU8) (by rw [List.length_map]; omega)
    rw [← h1, ← h3, List.length_map, List.length_map, h2, h4] at this
    rw [hide_eq]
    exact ⟨⟨_, _, ok76⟩, this⟩
  · simp only [Option.some.injEq, Prod.mk.injEq] at h; obtain ⟨rfl, rfl, rfl⟩ := h
    rename_i a mr n cr k
    obtain ⟨h1, h2, h3, h4, h5⟩ := hc.1
    have := s77 a (mr.map asU8) (cr.map asU8) (by rw [List.length_map]; omega)
    rw [← h1, ← h3, List.length_map, List.length_map, h2, h4] at this
    rw [hide_eq]
    exact ⟨⟨_, _, ok77⟩, this⟩
  · exact M19_ok _ _ _ _ _ _ h hc
set_option maxRecDepth 100000 in
theorem vc75 {X : Ctx} {Q : AV → Mem → Prop} (hX : X.P = Try.prog)  (h : ((0:Int) ≤ (16:Int) ∧ (16:Int) ≤ (16:Int) ∧ (16:Int) * (↑1:Int) ≤ (140737488355328:Int) ∧ (16:Int) < (4611686018427387904:Int)) ∧ 16 ≤ 16 ∧ Flat (take 16 (drop 0 (zeros [AC.u8 (0:BitVec 8)] 16))) ∧ (allU8 (replicate 16 (AC.u8 (0:BitVec 8))) ∧ 16 = 16 ∧ allU8 [] ∧ 0 = 0 ∧ 0 ≤ 1000) ∧ ExactL (hide (List.map AC.u8 (keyB (2:Int) (List.map asU8 (take 16 (drop 0 (zeros [AC.u8 (0:BitVec 8)] 16)))) (List.map asU8 [])))) ∧ 1 ≤ 1 ∧ 16 ≤ List.length (hide (List.map AC.u8 (keyB (2:Int) (List.map asU8 (take 16 (drop 0 (zeros [AC.u8 (0:BitVec 8)] 16)))) (List.map asU8 [])))) ∧ Flat (take 16 (drop 0 (hide (List.map AC.u8 (keyB (2:Int) (List.map asU8 (take 16 (drop 0 (zeros [AC.u8 (0:BitVec 8)] 16)))) (List.map asU8 [])))))) ∧ 1 ≤ 1 ∧ 1 ≤ 1 ∧ Flat (take 1 (drop 0 [cvC (Value.int IntKind.u8 (97:Int))])) ∧ (allU8 (take 16 (drop 0 (hide (List.map AC.u8 (keyB (2:Int) (List.map asU8 (take 16 (drop 0 (zeros [AC.u8 (0:BitVec 8)] 16)))) (List.map asU8 [])))))) ∧ List.length (take 16 (drop 0 (hide (List.map AC.u8 (keyB (2:Int) (List.map asU8 (take 16 (drop 0 (zeros [AC.u8 (0:BitVec 8)] 16)))) (List.map asU8 [])))))) = 16 ∧ 16 ≤ 1000000 ∧ [AC.xs (take 1 (drop 0 [cvC (Value.int IntKind.u8 (97:Int))])) 0 1] = List.map encP (List.map asP [AC.xs (take 1 (drop 0 [cvC (Value.int IntKind.u8 (97:Int))])) 0 1]) ∧ 1 = 1 ∧ 1 ≤ 1000000) ∧ (List.length (hide (List.map AC.u8 (macB (2:Int) (List.map asU8 (take 16 (drop 0 (hide (List.map AC.u8 (keyB (2:Int) (List.map asU8 (take 16 (drop 0 (zeros [AC.u8 (0:BitVec 8)] 16)))) (List.map asU8 []))))))) (List.flatten (List.map asP [AC.xs (take 1 (drop 0 [cvC (Value.int IntKind.u8 (97:Int))])) 0 1]))))) = 12 ∧ 12 ≤ 12) ∧ Flat (hide (List.map AC.u8 (keyB (2:Int) (List.map asU8 (take 16 (drop 0 (zeros [AC.u8 (0:BitVec 8)] 16)))) (List.map asU8 [])))) ∧ Flat (layS (replicate 12 (AC.u8 (0:BitVec 8))) 0 (hide (List.map AC.u8 (macB (2:Int) (List.map asU8 (take 16 (drop 0 (hide (List.map AC.u8 (keyB (2:Int) (List.map asU8 (take 16 (drop 0 (zeros [AC.u8 (0:BitVec 8)] 16)))) (List.map asU8 []))))))) (List.flatten (List.map asP [AC.xs (take 1 (drop 0 [cvC (Value.int IntKind.u8 (97:Int))])) 0 1])))))) ∧ KR X 75 0 Q (kCut Try.f75 2) (mkS 38 [(1, AV.one (AC.sv 0 0 16)), (2, AV.one (AC.i64 (keyE (2:Int) (List.map asU8 (take 16 (drop 0 (zeros [AC.u8 (0:BitVec 8)] 16))))))), (3, AV.one (AC.ptr 1 0)), (4, AV.one (AC.i64 (macE (2:Int) (List.map asU8 (take 16 (drop 0 (hide (List.map AC.u8 (keyB (2:Int) (List.map asU8 (take 16 (drop 0 (zeros [AC.u8 (0:BitVec 8)] 16)))) (List.map asU8 []))))))))))]) [some (hide (List.map AC.u8 (keyB (2:Int) (List.map asU8 (take 16 (drop 0 (zeros [AC.u8 (0:BitVec 8)] 16)))) (List.map asU8 [])))), some (layS (replicate 12 (AC.u8 (0:BitVec 8))) 0 (hide (List.map AC.u8 (macB (2:Int) (List.map asU8 (take 16 (drop 0 (hide (List.map AC.u8 (keyB (2:Int) (List.map asU8 (take 16 (drop 0 (zeros [AC.u8 (0:BitVec 8)] 16)))) (List.map asU8 []))))))) (List.flatten (List.map asP [AC.xs (take 1 (drop 0 [cvC (Value.int IntKind.u8 (97:Int))])) 0 1]))))))]) : KRun X 75 0 Q ([.code (bodyOf Try.f75)]) (slots [] Try.f75.ntmps) [] :=
  wpRun_ok (hX ▸ envP_ok T25 mf20 M20) (hX ▸ envP_call T25_ok M20_ok) (hX ▸ mixed) (hX ▸ ok75) LK_ok (cast (β := wpRun (envP T25 mf20 M20) [20, 23, 27, 32] [(100002, 0)] false (RS.mk Try.f75.results.toList 0 (CS.mk [] [] [] [])) (LK X 75 0 Q true [(3, LS.mk [1, 2, 3, 4] (CS.mk [] [true, true] [] []))]) Q 2000 ([.code (bodyOf Try.f75)]) (slots [] Try.f75.ntmps) []) (by kernel_rfl) h)
end DH
noncomputable section
namespace DH
open List (take drop replicate)
open Go Go.Proofs
def alK : List (BitVec 8) := lit8 [33, 226, 40, 9, 64, 142, 150, 171, 250, 45, 191, 130, 185, 74, 146, 143]
def alM : List (BitVec 8) := lit8 [184, 121, 104, 86, 199, 122, 206, 228, 164, 92, 81, 87]
theorem al_b1 : beqL (cmS z16k (lit8 [1, 84, 67, 80, 45, 65, 79, 0, 128])) [33, 226, 40, 9, 64, 142, 150, 171, 250, 45, 191, 130, 185, 74, 146, 143] = true := by kernel_rfl
theorem al_b2 : beqL (cmS alK (lit8 [97])) [184, 121, 104, 86, 199, 122, 206, 228, 164, 92, 81, 87, 148, 55, 201, 16] = true := by kernel_rfl
theorem al_in : inK 2 [] = lit8 [1, 84, 67, 80, 45, 65, 79, 0, 128] := by kernel_rfl
theorem al_key : keyB 2 z16k [] = alK := by
  have h : keyB 2 z16k [] = cmF (blkA z16k) (inK 2 []) := by kernel_rfl
  have hb : blkA z16k = z16k := by unfold blkA; exact if_pos rfl
  rw [h, hb, al_in, ← cmS_eq]
  exact beqL_ok al_b1
theorem al_mac : macB 2 alK (lit8 [97]) = alM := by
  have h : macB 2 alK (lit8 [97]) = sh12 (cmF alK (lit8 [97])) := by
    unfold macB
    rw [if_neg (by decide), if_neg (by decide), if_neg (by decide)]
  rw [h, ← cmS_eq, beqL_ok al_b2]
  rfl
set_option maxRecDepth 100000 in
theorem vc75b {X : Ctx} {Q : AV → Mem → Prop} (hX : X.P = Try.prog) (kr mr : List AC) (k e:Int) (h : (decide ((↑16:Int) = (16:Int)) = true → (decide (k = (0:Int)) = true → (decide (e = (0:Int)) = true → 12 ≤ List.length mr ∧ (fitCs (replicate 12 (AC.u8 (0:BitVec 8))) (take 12 (drop 0 mr)) ∧ fitCs (replicate 12 (AC.u8 (0:BitVec 8))) (replicate 12 (AC.u8 (0:BitVec 8)))) ∧ ((!sameCells (take 12 (drop 0 mr)) (replicate 12 (AC.u8 (0:BitVec 8)))) = true → Q (AV.one (AC.b true)) []) ∧ ((!sameCells (take 12 (drop 0 mr)) (replicate 12 (AC.u8 (0:BitVec 8)))) = false → Q (AV.one (AC.b false)) [])) ∧ (decide (e = (0:Int)) = false → Q (AV.one (AC.b false)) [])) ∧ (decide (k = (0:Int)) = false → Q (AV.one (AC.b false)) [])) ∧ (decide ((↑16:Int) = (16:Int)) = false → Q (AV.one (AC.b false)) [])) : KRun X 75 0 Q (kCut Try.f75 2) (mkS 38 [(1, .one (.sv 0 0 16)), (2, .one (.i64 k)), (3, .one (.ptr 1 0)), (4, .one (.i64 e))]) [some kr, some mr] :=
  wpRun_ok (hX ▸ envP_ok T25 mf20 M20) (hX ▸ envP_call T25_ok M20_ok) (hX ▸ mixed) (hX ▸ ok75) LK_ok (cast (β := wpRun (envP T25 mf20 M20) [20, 23, 27, 32] [(100002, 0)] false (RS.mk Try.f75.results.toList 0 (CS.mk [] [] [] [])) (LK X 75 0 Q true [(3, LS.mk [1, 2, 3, 4] (CS.mk [] [true, true] [] []))]) Q 2000 (kCut Try.f75 2) (mkS 38 [(1, .one (.sv 0 0 16)), (2, .one (.i64 k)), (3, .one (.ptr 1 0)), (4, .one (.i64 e))]) [some kr, some mr]) (by kernel_rfl) h)
theorem zk_map : replicate 16 (AC.u8 0) = z16k.map AC.u8 := by unfold z16k; rw [List.map_replicate]
theorem zk_len : z16k.length = 16 := List.length_replicate
theorem al_ne : sameCells (alM.map AC.u8) (replicate 12 (AC.u8 0)) = false := by
  rw [show replicate 12 (AC.u8 0) = z12.map AC.u8 from (List.map_replicate).symm, same_u8]
  exact decide_eq_false (fun h => by have := congrArg (fun l : List (BitVec 8) => (l.headD 0).toNat) h; revert this; decide)
theorem cv97 : [cvC (Value.int IntKind.u8 (97:Int))] = (lit8 [97]).map AC.u8 := rfl
theorem s75 : Spec Try.prog 75 [] [] Fin := by
  refine Spec.of_run ok75 fun X hX => vc75 hX ?_
  have z0 : take 16 (drop 0 (zeros [AC.u8 (0:BitVec 8)] 16)) = z16k.map AC.u8 := zk_map
  have t16 : take 16 (drop 0 (alK.map AC.u8)) = alK.map AC.u8 := rfl
  have t1 : take 1 (drop 0 ((lit8 [97]).map AC.u8)) = (lit8 [97]).map AC.u8 := rfl
  have l1 : layS (replicate 12 (AC.u8 0)) 0 (alM.map AC.u8) = alM.map AC.u8 := layR _ _ rfl
  have lm : alM.length = 12 := rfl
  have lk : alK.length = 16 := rfl
  have hE : keyE 2 z16k = 0 := by unfold keyE; rw [if_neg (by decide), if_neg (by rw [zk_len]; decide)]
  have hM : macE 2 alK = 0 := by unfold macE; rw [if_neg (by decide), if_neg (by rw [lk]; decide)]
  have a1 : [AC.xs ((lit8 [97]).map AC.u8) 0 1].map asP = [lit8 [97]] := rfl
  have a2 : [lit8 [97]].map encP = [AC.xs ((lit8 [97]).map AC.u8) 0 1] := rfl
  have a3 : [lit8 [97]].flatten = lit8 [97] := rfl
  have K : KRun X 75 0 Fin (kCut Try.f75 2) (mkS 38 [(1, .one (.sv 0 0 16)), (2, .one (.i64 0)), (3, .one (.ptr 1 0)), (4, .one (.i64 0))]) [some (alK.map AC.u8), some (alM.map AC.u8)] := by
    refine vc75b hX _ _ _ _ ?_
    have t12 : take 12 (drop 0 (alM.map AC.u8)) = alM.map AC.u8 := rfl
    rw [t12, al_ne]
    have z : fitCs (replicate 12 (AC.u8 0)) (alM.map AC.u8) := fit12 lm
    have z2 : fitCs (replicate 12 (AC.u8 0)) (replicate 12 (AC.u8 0)) := by
      have := fit12 (l := z12) List.length_replicate
      rwa [show z12.map AC.u8 = replicate 12 (AC.u8 0) from List.map_replicate] at this
    refine ⟨fun _ => ⟨fun _ => ⟨fun _ => ⟨Nat.le_refl _, ⟨z, z2⟩, fun _ => rfl, fun h => by cases h⟩, fun h => by cases h⟩, fun h => by cases h⟩, fun h => by cases h⟩
  rw [z0, zk_map, cv97, t1, map_as8, a1, a2, a3]
  simp only [hide_eq, List.map_nil, al_key, t16, map_as8, al_mac, l1, hE, hM, lm, lk, List.length_map]
  have z : Flat (alM.map AC.u8) := flat_u8 _
  clear l1 z0 t16 t1 a1 a2 a3
  (repeat' (first | exact trivial | exact flat_u8 _ | exact flatA _ | exact z | exact zA | exact allU8_map _ | exact exU8 _ | exact Nat.le_refl _ | exact (rfl : AC.flat (AC.i64 _) = true) | refine And.intro ?_ ?_)) <;> first | omega | skip
  · exact rfl
  · exact ⟨K⟩
noncomputable def T26 : Tab := fun f xs => match f, xs with
  | 75, [] => some ([], .one (.b true))
  | f, xs => T25 f xs
theorem T26_ok : TabOk Try.prog T26 := by
  intro f xs cs r h hc
  unfold T26 at h
  split at h
  · obtain ⟨rfl, rfl⟩ := Prod.mk.inj (Option.some.inj h)
    exact ⟨⟨_, _, ok75⟩, s75, rfl⟩
  · exact T25_ok _ _ _ _ h hc
set_option maxRecDepth 100000 in
theorem vc23 {X : Ctx} {Q : AV → Mem → Prop} (hX : X.P = Try.prog) (a:Int) (mr cr : List AC) (m c:Nat) (h : 0 + m * 1 ≤ List.length mr ∧ (decide ((300:Int) < (↑m:Int)) = true → Q (AV.one (AC.b true)) []) ∧ (decide ((300:Int) < (↑m:Int)) = false → 0 + c * 1 ≤ List.length cr ∧ (decide ((300:Int) < (↑c:Int)) = true → Q (AV.one (AC.b true)) []) ∧ (decide ((300:Int) < (↑c:Int)) = false → 0 + m * 1 ≤ List.length mr ∧ 0 + c * 1 ≤ List.length cr ∧ (allU8 (take (m * 1) (drop 0 mr)) ∧ List.length (take (m * 1) (drop 0 mr)) = m ∧ allU8 (take (c * 1) (drop 0 cr)) ∧ List.length (take (c * 1) (drop 0 cr)) = c ∧ c ≤ 1000) ∧ ExactL (hide (List.map AC.u8 (keyB a (List.map asU8 (take (m * 1) (drop 0 mr))) (List.map asU8 (take (c * 1) (drop 0 cr)))))) ∧ 0 + m * 1 ≤ List.length mr ∧ 0 + c * 1 ≤ List.length cr ∧ (allU8 (take (m * 1) (drop 0 mr)) ∧ List.length (take (m * 1) (drop 0 mr)) = m ∧ allU8 (take (c * 1) (drop 0 cr)) ∧ List.length (take (c * 1) (drop 0 cr)) = c ∧ c ≤ 1000) ∧ ExactL (hide (List.map AC.u8 (keyB a (List.map asU8 (take (m * 1) (drop 0 mr))) (List.map asU8 (take (c * 1) (drop 0 cr)))))) ∧ 0 + List.length (keyB a (List.map asU8 (take (m * 1) (drop 0 mr))) (List.map asU8 (take (c * 1) (drop 0 cr)))) * 1 ≤ List.length (hide (List.map AC.u8 (keyB a (List.map asU8 (take (m * 1) (drop 0 mr))) (List.map asU8 (take (c * 1) (drop 0 cr)))))) ∧ allU8 (take (List.length (keyB a (List.map asU8 (take (m * 1) (drop 0 mr))) (List.map asU8 (take (c * 1) (drop 0 cr)))) * 1) (drop 0 (hide (List.map AC.u8 (keyB a (List.map asU8 (take (m * 1) (drop 0 mr))) (List.map asU8 (take (c * 1) (drop 0 cr)))))))) ∧ 0 + List.length (keyB a (List.map asU8 (take (m * 1) (drop 0 mr))) (List.map asU8 (take (c * 1) (drop 0 cr)))) * 1 ≤ List.length (hide (List.map AC.u8 (keyB a (List.map asU8 (take (m * 1) (drop 0 mr))) (List.map asU8 (take (c * 1) (drop 0 cr)))))) ∧ allU8 (take (List.length (keyB a (List.map asU8 (take (m * 1) (drop 0 mr))) (List.map asU8 (take (c * 1) (drop 0 cr)))) * 1) (drop 0 (hide (List.map AC.u8 (keyB a (List.map asU8 (take (m * 1) (drop 0 mr))) (List.map asU8 (take (c * 1) (drop 0 cr)))))))) ∧ (decide (List.map asU8 (take (List.length (keyB a (List.map asU8 (take (m * 1) (drop 0 mr))) (List.map asU8 (take (c * 1) (drop 0 cr)))) * 1) (drop 0 (hide (List.map AC.u8 (keyB a (List.map asU8 (take (m * 1) (drop 0 mr))) (List.map asU8 (take (c * 1) (drop 0 cr)))))))) = List.map asU8 (take (List.length (keyB a (List.map asU8 (take (m * 1) (drop 0 mr))) (List.map asU8 (take (c * 1) (drop 0 cr)))) * 1) (drop 0 (hide (List.map AC.u8 (keyB a (List.map asU8 (take (m * 1) (drop 0 mr))) (List.map asU8 (take (c * 1) (drop 0 cr))))))))) = true → (decide (keyE a (List.map asU8 (take (m * 1) (drop 0 mr))) = keyE a (List.map asU8 (take (m * 1) (drop 0 mr)))) = true → (decide ((↑(kszF a):Int) = (↑(kszF a):Int)) = true → KR X 23 0 Q (kCut Try.f23 5) (mkS 52 [(6, AV.one (AC.b true))]) []) ∧ (decide ((↑(kszF a):Int) = (↑(kszF a):Int)) = false → KR X 23 0 Q (kCut Try.f23 5) (mkS 52 [(6, AV.one (AC.b false))]) [])) ∧ (decide (keyE a (List.map asU8 (take (m * 1) (drop 0 mr))) = keyE a (List.map asU8 (take (m * 1) (drop 0 mr)))) = false → KR X 23 0 Q (kCut Try.f23 5) (mkS 52 [(6, AV.one (AC.b false))]) [])) ∧ (decide (List.map asU8 (take (List.length (keyB a (List.map asU8 (take (m * 1) (drop 0 mr))) (List.map asU8 (take (c * 1) (drop 0 cr)))) * 1) (drop 0 (hide (List.map AC.u8 (keyB a (List.map asU8 (take (m * 1) (drop 0 mr))) (List.map asU8 (take (c * 1) (drop 0 cr)))))))) = List.map asU8 (take (List.length (keyB a (List.map asU8 (take (m * 1) (drop 0 mr))) (List.map asU8 (take (c * 1) (drop 0 cr)))) * 1) (drop 0 (hide (List.map AC.u8 (keyB a (List.map asU8 (take (m * 1) (drop 0 mr))) (List.map asU8 (take (c * 1) (drop 0 cr))))))))) = false → KR X 23 0 Q (kCut Try.f23 5) (mkS 52 [(6, AV.one (AC.b false))]) [])))) : KRun X 23 0 Q ([.code (bodyOf Try.f23)]) (slots [.one (.i64 a), .one (.xs mr 0 m), .one (.xs cr 0 c)] Try.f23.ntmps) [] :=
  wpRun_ok (hX ▸ envP_ok T26 mf20 M20) (hX ▸ envP_call T26_ok M20_ok) (hX ▸ mixed) (hX ▸ ok23) LK_ok (cast (β := wpRun (envP T26 mf20 M20) [12, 15, 36, 40, 47] [(100005, 0)] false (RS.mk Try.f23.results.toList 0 (CS.mk [] [] [] [])) (LK X 23 0 Q true [(0, LS.mk [6] (CS.mk [] [true, true] [] []))]) Q 2000 ([.code (bodyOf Try.f23)]) (slots [.one (.i64 a), .one (.xs mr 0 m), .one (.xs cr 0 c)] Try.f23.ntmps) []) (by kernel_rfl) h)
set_option maxRecDepth 100000 in
theorem vc23b {X : Ctx} {Q : AV → Mem → Prop} (hX : X.P = Try.prog) (b : Bool) (h : Q (AV.one (AC.b b)) []) : KRun X 23 0 Q (kCut Try.f23 5) (mkS 52 [(6, .one (.b b))]) [] :=
  wpRun_ok (hX ▸ envP_ok T26 mf20 M20) (hX ▸ envP_call T26_ok M20_ok) (hX ▸ mixed) (hX ▸ ok23) LK_ok (cast (β := wpRun (envP T26 mf20 M20) [12, 15, 36, 40, 47] [(100005, 0)] false (RS.mk Try.f23.results.toList 0 (CS.mk [] [] [] [])) (LK X 23 0 Q true [(0, LS.mk [6] (CS.mk [] [true, true] [] []))]) Q 2000 (kCut Try.f23 5) (mkS 52 [(6, .one (.b b))]) []) (by kernel_rfl) h)
set_option maxRecDepth 100000 in
theorem vc24 {X : Ctx} {Q : AV → Mem → Prop} (hX : X.P = Try.prog) (a:Int) (mr cr : List AC) (m c:Nat) (h : 0 + m * 1 ≤ List.length mr ∧ (decide ((300:Int) < (↑m:Int)) = true → Q (AV.one (AC.b true)) []) ∧ (decide ((300:Int) < (↑m:Int)) = false → 0 + c * 1 ≤ List.length cr ∧ (decide ((300:Int) < (↑c:Int)) = true → Q (AV.one (AC.b true)) []) ∧ (decide ((300:Int) < (↑c:Int)) = false → 0 + m * 1 ≤ List.length mr ∧ 1 ≤ 1 ∧ 0 + c * 1 ≤ List.length cr ∧ (allU8 (take (m * 1) (drop 0 mr)) ∧ List.length (take (m * 1) (drop 0 mr)) = m ∧ m ≤ 1000000 ∧ [AC.xs (take (c * 1) (drop 0 cr)) 0 c] = List.map encP (List.map asP [AC.xs (take (c * 1) (drop 0 cr)) 0 c]) ∧ 1 = 1 ∧ 1 ≤ 1000000) ∧ (List.length (hide (List.map AC.u8 (macB a (List.map asU8 (take (m * 1) (drop 0 mr))) (List.flatten (List.map asP [AC.xs (take (c * 1) (drop 0 cr)) 0 c]))))) = 12 ∧ 12 ≤ 12) ∧ 0 + m * 1 ≤ List.length mr ∧ 0 + c * 1 ≤ List.length cr ∧ (allU8 (take (m * 1) (drop 0 mr)) ∧ List.length (take (m * 1) (drop 0 mr)) = m ∧ m ≤ 1000000 ∧ allU8 (take (c * 1) (drop 0 cr)) ∧ List.length (take (c * 1) (drop 0 cr)) = c ∧ c ≤ 900000) ∧ (List.length (hide (List.map AC.u8 (macB a (List.map asU8 (take (m * 1) (drop 0 mr))) (List.map asU8 (take (c * 1) (drop 0 cr)))))) = 12 ∧ 12 ≤ 12) ∧ 12 ≤ List.length (layS (replicate 12 (AC.u8 (0:BitVec 8))) 0 (hide (List.map AC.u8 (macB a (List.map asU8 (take (m * 1) (drop 0 mr))) (List.flatten (List.map asP [AC.xs (take (c * 1) (drop 0 cr)) 0 c])))))) ∧ 12 ≤ List.length (layS (replicate 12 (AC.u8 (0:BitVec 8))) 0 (hide (List.map AC.u8 (macB a (List.map asU8 (take (m * 1) (drop 0 mr))) (List.map asU8 (take (c * 1) (drop 0 cr))))))) ∧ (fitCs (replicate 12 (AC.u8 (0:BitVec 8))) (take 12 (drop 0 (layS (replicate 12 (AC.u8 (0:BitVec 8))) 0 (hide (List.map AC.u8 (macB a (List.map asU8 (take (m * 1) (drop 0 mr))) (List.flatten (List.map asP [AC.xs (take (c * 1) (drop 0 cr)) 0 c])))))))) ∧ fitCs (replicate 12 (AC.u8 (0:BitVec 8))) (take 12 (drop 0 (layS (replicate 12 (AC.u8 (0:BitVec 8))) 0 (hide (List.map AC.u8 (macB a (List.map asU8 (take (m * 1) (drop 0 mr))) (List.map asU8 (take (c * 1) (drop 0 cr)))))))))) ∧ (sameCells (take 12 (drop 0 (layS (replicate 12 (AC.u8 (0:BitVec 8))) 0 (hide (List.map AC.u8 (macB a (List.map asU8 (take (m * 1) (drop 0 mr))) (List.flatten (List.map asP [AC.xs (take (c * 1) (drop 0 cr)) 0 c])))))))) (take 12 (drop 0 (layS (replicate 12 (AC.u8 (0:BitVec 8))) 0 (hide (List.map AC.u8 (macB a (List.map asU8 (take (m * 1) (drop 0 mr))) (List.map asU8 (take (c * 1) (drop 0 cr))))))))) = true → (decide (macE a (List.map asU8 (take (m * 1) (drop 0 mr))) = macE a (List.map asU8 (take (m * 1) (drop 0 mr)))) = true → Q (AV.one (AC.b true)) []) ∧ (decide (macE a (List.map asU8 (take (m * 1) (drop 0 mr))) = macE a (List.map asU8 (take (m * 1) (drop 0 mr)))) = false → Q (AV.one (AC.b false)) [])) ∧ (sameCells (take 12 (drop 0 (layS (replicate 12 (AC.u8 (0:BitVec 8))) 0 (hide (List.map AC.u8 (macB a (List.map asU8 (take (m * 1) (drop 0 mr))) (List.flatten (List.map asP [AC.xs (take (c * 1) (drop 0 cr)) 0 c])))))))) (take 12 (drop 0 (layS (replicate 12 (AC.u8 (0:BitVec 8))) 0 (hide (List.map AC.u8 (macB a (List.map asU8 (take (m * 1) (drop 0 mr))) (List.map asU8 (take (c * 1) (drop 0 cr))))))))) = false → Q (AV.one (AC.b false)) [])))) : KRun X 24 0 Q ([.code (bodyOf Try.f24)]) (slots [.one (.i64 a), .one (.xs mr 0 m), .one (.xs cr 0 c)] Try.f24.ntmps) [] :=
  wpRun_ok (hX ▸ envP_ok T26 mf20 M20) (hX ▸ envP_call T26_ok M20_ok) (hX ▸ mixed) (hX ▸ ok24) LK_ok (cast (β := wpRun (envP T26 mf20 M20) [12, 15, 35, 39] [(200005, 0)] false (RS.mk Try.f24.results.toList 0 (CS.mk [] [] [] [])) (LK X 24 0 Q true []) Q 2000 ([.code (bodyOf Try.f24)]) (slots [.one (.i64 a), .one (.xs mr 0 m), .one (.xs cr 0 c)] Try.f24.ntmps) []) (by kernel_rfl) h)
theorem deq {α : Type _} (a : α) (i : Decidable (a = a)) : @decide (a = a) i = true := by
  cases i with
  | isTrue h => rfl
  | isFalse h => exact absurd rfl h
theorem s23 (a:Int) (m c : List (BitVec 8)) : Spec Try.prog 23 [.one (.i64 a), .one (.xs (m.map AC.u8) 0 m.length), .one (.xs (c.map AC.u8) 0 c.length)] [] Fin := by
  refine Spec.of_run ok23 fun X hX => vc23 hX _ _ _ _ _ ?_
  rw [tk m, tk c]
  simp only [hide_eq, map_as8]
  have K : KRun X 23 0 Fin (kCut Try.f23 5) (mkS 52 [(6, .one (.b true))]) [] := by
    refine vc23b hX _ ?_
    exact rfl
  have hk : ∀ l : List (BitVec 8), take (l.length * 1) (drop 0 (l.map AC.u8)) = l.map AC.u8 := tk
  simp only [hk, map_as8, deq, Bool.true_eq_false, false_implies, true_implies, and_true, decide_true, List.length_map]
  generalize keyB a m c = E at *
  refine ⟨by omega, fun _ => rfl, fun h => ⟨by omega, fun _ => rfl, fun h2 => ?_⟩⟩
  have h2 := of_decide_eq_false h2
  (repeat' (first | exact trivial | exact flat_u8 _ | exact flatA _ | exact z | exact zA | exact allU8_map _ | exact exU8 _ | exact Nat.le_refl _ | exact (rfl : AC.flat (AC.i64 _) = true) | refine And.intro ?_ ?_)) <;> first | omega | skip
  all_goals exact ⟨K⟩
theorem s24 (a:Int) (m c : List (BitVec 8)) : Spec Try.prog 24 [.one (.i64 a), .one (.xs (m.map AC.u8) 0 m.length), .one (.xs (c.map AC.u8) 0 c.length)] [] Fin := by
  refine Spec.of_run ok24 fun X hX => vc24 hX _ _ _ _ _ ?_
  rw [tk m, tk c]
  have pe : List.map asP [AC.xs (c.map AC.u8) 0 c.length] = [c] := by simp only [List.map_cons, List.map_nil, asP, xsRow, map_as8]
  have pf : List.map encP [c] = [AC.xs (c.map AC.u8) 0 c.length] := rfl
  rw [pe, pf, fl1]
  simp only [hide_eq, map_as8]
  have hl := macB_len a m c
  have l1 : layS (replicate 12 (AC.u8 0)) 0 ((macB a m c).map AC.u8) = (macB a m c).map AC.u8 := layR _ _ hl
  have t1 : take 12 (drop 0 ((macB a m c).map AC.u8)) = (macB a m c).map AC.u8 := List.take_of_length_le (by rw [List.drop_zero, List.length_map]; omega)
  simp only [l1, t1, same_self, deq, Bool.true_eq_false, false_implies, true_implies, and_true, decide_true, List.length_map, hl]
  have z : fitCs (replicate 12 (AC.u8 0)) ((macB a m c).map AC.u8) := fit12 hl
  clear t1 l1
  generalize macB a m c = E at *
  refine ⟨by omega, fun _ => rfl, fun h => ⟨by omega, fun _ => rfl, fun h2 => ?_⟩⟩
  have h1 := of_decide_eq_false h
  have h2 := of_decide_eq_false h2
  (repeat' (first | exact trivial | exact flat_u8 _ | exact flatA _ | exact z | exact zA | exact allU8_map _ | exact exU8 _ | exact Nat.le_refl _ | exact (rfl : AC.flat (AC.i64 _) = true) | refine And.intro ?_ ?_)) <;> first | omega | skip
  all_goals exact rfl
end DH
noncomputable section
namespace DH
open List (take drop replicate)
open Go Go.Proofs
set_option maxRecDepth 100000 in
theorem vc25 {X : Ctx} {Q : AV → Mem → Prop} (hX : X.P = Try.prog) (a:Int) (mr cr : List AC) (m c:Nat) (h : 0 + m * 1 ≤ List.length mr ∧ (decide ((300:Int) < (↑m:Int)) = true → Q (AV.one (AC.b true)) []) ∧ (decide ((300:Int) < (↑m:Int)) = false → 0 + c * 1 ≤ List.length cr ∧ (decide ((300:Int) < (↑c:Int)) = true → Q (AV.one (AC.b true)) []) ∧ (decide ((300:Int) < (↑c:Int)) = false → 0 + m * 1 ≤ List.length mr ∧ 0 + c * 1 ≤ List.length cr ∧ (allU8 (take (m * 1) (drop 0 mr)) ∧ List.length (take (m * 1) (drop 0 mr)) = m ∧ allU8 (take (c * 1) (drop 0 cr)) ∧ List.length (take (c * 1) (drop 0 cr)) = c ∧ c ≤ 1000) ∧ ExactL (hide (List.map AC.u8 (keyB a (List.map asU8 (take (m * 1) (drop 0 mr))) (List.map asU8 (take (c * 1) (drop 0 cr)))))) ∧ ((!decide (keyE a (List.map asU8 (take (m * 1) (drop 0 mr))) = (0:Int))) = true → (decide ((↑(List.length (keyB a (List.map asU8 (take (m * 1) (drop 0 mr))) (List.map asU8 (take (c * 1) (drop 0 cr))))):Int) = (0:Int)) = true → Q (AV.one (AC.b true)) []) ∧ (decide ((↑(List.length (keyB a (List.map asU8 (take (m * 1) (drop 0 mr))) (List.map asU8 (take (c * 1) (drop 0 cr))))):Int) = (0:Int)) = false → Q (AV.one (AC.b false)) [])) ∧ ((!decide (keyE a (List.map asU8 (take (m * 1) (drop 0 mr))) = (0:Int))) = false → 0 + List.length (keyB a (List.map asU8 (take (m * 1) (drop 0 mr))) (List.map asU8 (take (c * 1) (drop 0 cr)))) * 1 ≤ List.length (hide (List.map AC.u8 (keyB a (List.map asU8 (take (m * 1) (drop 0 mr))) (List.map asU8 (take (c * 1) (drop 0 cr)))))) ∧ Flat (take (List.length (keyB a (List.map asU8 (take (m * 1) (drop 0 mr))) (List.map asU8 (take (c * 1) (drop 0 cr)))) * 1) (drop 0 (hide (List.map AC.u8 (keyB a (List.map asU8 (take (m * 1) (drop 0 mr))) (List.map asU8 (take (c * 1) (drop 0 cr)))))))) ∧ 1 ≤ 1 ∧ 0 + c * 1 ≤ List.length cr ∧ (allU8 (take (List.length (keyB a (List.map asU8 (take (m * 1) (drop 0 mr))) (List.map asU8 (take (c * 1) (drop 0 cr)))) * 1) (drop 0 (hide (List.map AC.u8 (keyB a (List.map asU8 (take (m * 1) (drop 0 mr))) (List.map asU8 (take (c * 1) (drop 0 cr)))))))) ∧ List.length (take (List.length (keyB a (List.map asU8 (take (m * 1) (drop 0 mr))) (List.map asU8 (take (c * 1) (drop 0 cr)))) * 1) (drop 0 (hide (List.map AC.u8 (keyB a (List.map asU8 (take (m * 1) (drop 0 mr))) (List.map asU8 (take (c * 1) (drop 0 cr)))))))) = List.length (keyB a (List.map asU8 (take (m * 1) (drop 0 mr))) (List.map asU8 (take (c * 1) (drop 0 cr)))) ∧ List.length (keyB a (List.map asU8 (take (m * 1) (drop 0 mr))) (List.map asU8 (take (c * 1) (drop 0 cr)))) ≤ 1000000 ∧ [AC.xs (take (c * 1) (drop 0 cr)) 0 c] = List.map encP (List.map asP [AC.xs (take (c * 1) (drop 0 cr)) 0 c]) ∧ 1 = 1 ∧ 1 ≤ 1000000) ∧ (List.length (hide (List.map AC.u8 (macB a (List.map asU8 (take (List.length (keyB a (List.map asU8 (take (m * 1) (drop 0 mr))) (List.map asU8 (take (c * 1) (drop 0 cr)))) * 1) (drop 0 (hide (List.map AC.u8 (keyB a (List.map asU8 (take (m * 1) (drop 0 mr))) (List.map asU8 (take (c * 1) (drop 0 cr))))))))) (List.flatten (List.map asP [AC.xs (take (c * 1) (drop 0 cr)) 0 c]))))) = 12 ∧ 12 ≤ 12) ∧ (decide ((↑(List.length (keyB a (List.map asU8 (take (m * 1) (drop 0 mr))) (List.map asU8 (take (c * 1) (drop 0 cr))))):Int) = (↑(kszF a):Int)) = true → (decide (macE a (List.map asU8 (take (List.length (keyB a (List.map asU8 (take (m * 1) (drop 0 mr))) (List.map asU8 (take (c * 1) (drop 0 cr)))) * 1) (drop 0 (hide (List.map AC.u8 (keyB a (List.map asU8 (take (m * 1) (drop 0 mr))) (List.map asU8 (take (c * 1) (drop 0 cr))))))))) = (0:Int)) = true → Q (AV.one (AC.b true)) []) ∧ (decide (macE a (List.map asU8 (take (List.length (keyB a (List.map asU8 (take (m * 1) (drop 0 mr))) (List.map asU8 (take (c * 1) (drop 0 cr)))) * 1) (drop 0 (hide (List.map AC.u8 (keyB a (List.map asU8 (take (m * 1) (drop 0 mr))) (List.map asU8 (take (c * 1) (drop 0 cr))))))))) = (0:Int)) = false → Q (AV.one (AC.b false)) [])) ∧ (decide ((↑(List.length (keyB a (List.map asU8 (take (m * 1) (drop 0 mr))) (List.map asU8 (take (c * 1) (drop 0 cr))))):Int) = (↑(kszF a):Int)) = false → Q (AV.one (AC.b false)) []))))) : KRun X 25 0 Q ([.code (bodyOf Try.f25)]) (slots [.one (.i64 a), .one (.xs mr 0 m), .one (.xs cr 0 c)] Try.f25.ntmps) [] :=
  wpRun_ok (hX ▸ envP_ok T26 mf20 M20) (hX ▸ envP_call T26_ok M20_ok) (hX ▸ mixed) (hX ▸ ok25) LK_ok (cast (β := wpRun (envP T26 mf20 M20) [12, 15, 26, 29, 45, 48] [] false (RS.mk Try.f25.results.toList 0 (CS.mk [] [] [] [])) (LK X 25 0 Q true []) Q 2000 ([.code (bodyOf Try.f25)]) (slots [.one (.i64 a), .one (.xs mr 0 m), .one (.xs cr 0 c)] Try.f25.ntmps) []) (by kernel_rfl) h)
set_option maxRecDepth 100000 in
theorem vc26 {X : Ctx} {Q : AV → Mem → Prop} (hX : X.P = Try.prog) (pr : List AC) (x y:BitVec 32) (h : 18 ≤ List.length pr ∧ 36 ≤ List.length pr ∧ Flat (take 18 (drop 0 pr)) ∧ Flat (take 18 (drop 18 pr)) ∧ (IsE (take 18 (drop 0 pr)) ∧ IsE (take 18 (drop 18 pr))) ∧ ExactL (hide (List.map AC.u8 (ctC (take 18 (drop 0 pr)) (take 18 (drop 18 pr)) x y))) ∧ 18 ≤ List.length pr ∧ 36 ≤ List.length pr ∧ Flat (take 18 (drop 0 pr)) ∧ Flat (take 18 (drop 18 pr)) ∧ (IsE (take 18 (drop 0 pr)) ∧ IsE (take 18 (drop 18 pr))) ∧ ExactL (hide (List.map AC.u8 (ctC (take 18 (drop 0 pr)) (take 18 (drop 18 pr)) x y))) ∧ 0 + List.length (ctC (take 18 (drop 0 pr)) (take 18 (drop 18 pr)) x y) * 1 ≤ List.length (hide (List.map AC.u8 (ctC (take 18 (drop 0 pr)) (take 18 (drop 18 pr)) x y))) ∧ allU8 (take (List.length (ctC (take 18 (drop 0 pr)) (take 18 (drop 18 pr)) x y) * 1) (drop 0 (hide (List.map AC.u8 (ctC (take 18 (drop 0 pr)) (take 18 (drop 18 pr)) x y))))) ∧ 0 + List.length (ctC (take 18 (drop 0 pr)) (take 18 (drop 18 pr)) x y) * 1 ≤ List.length (hide (List.map AC.u8 (ctC (take 18 (drop 0 pr)) (take 18 (drop 18 pr)) x y))) ∧ allU8 (take (List.length (ctC (take 18 (drop 0 pr)) (take 18 (drop 18 pr)) x y) * 1) (drop 0 (hide (List.map AC.u8 (ctC (take 18 (drop 0 pr)) (take 18 (drop 18 pr)) x y))))) ∧ (decide (List.map asU8 (take (List.length (ctC (take 18 (drop 0 pr)) (take 18 (drop 18 pr)) x y) * 1) (drop 0 (hide (List.map AC.u8 (ctC (take 18 (drop 0 pr)) (take 18 (drop 18 pr)) x y))))) = List.map asU8 (take (List.length (ctC (take 18 (drop 0 pr)) (take 18 (drop 18 pr)) x y) * 1) (drop 0 (hide (List.map AC.u8 (ctC (take 18 (drop 0 pr)) (take 18 (drop 18 pr)) x y)))))) = true → (decide (ctE (sE (take 18 (drop 0 pr))) (sE (take 18 (drop 18 pr))) = ctE (sE (take 18 (drop 0 pr))) (sE (take 18 (drop 18 pr)))) = true → KR X 26 0 Q (kCut Try.f26 3) (mkS 44 [(6, AV.one (AC.b true))]) []) ∧ (decide (ctE (sE (take 18 (drop 0 pr))) (sE (take 18 (drop 18 pr))) = ctE (sE (take 18 (drop 0 pr))) (sE (take 18 (drop 18 pr)))) = false → KR X 26 0 Q (kCut Try.f26 3) (mkS 44 [(6, AV.one (AC.b false))]) [])) ∧ (decide (List.map asU8 (take (List.length (ctC (take 18 (drop 0 pr)) (take 18 (drop 18 pr)) x y) * 1) (drop 0 (hide (List.map AC.u8 (ctC (take 18 (drop 0 pr)) (take 18 (drop 18 pr)) x y))))) = List.map asU8 (take (List.length (ctC (take 18 (drop 0 pr)) (take 18 (drop 18 pr)) x y) * 1) (drop 0 (hide (List.map AC.u8 (ctC (take 18 (drop 0 pr)) (take 18 (drop 18 pr)) x y)))))) = false → KR X 26 0 Q (kCut Try.f26 3) (mkS 44 [(6, AV.one (AC.b false))]) [])) : KRun X 26 0 Q ([.code (bodyOf Try.f26)]) (slots [.agg pr, .one (.u32 x), .one (.u32 y)] Try.f26.ntmps) [] :=
  wpRun_ok (hX ▸ envP_ok T26 mf20 M20) (hX ▸ envP_call T26_ok M20_ok) (hX ▸ mixed) (hX ▸ ok26) LK_ok (cast (β := wpRun (envP T26 mf20 M20) [35, 39] [(100003, 0)] false (RS.mk Try.f26.results.toList 0 (CS.mk [] [] [] [])) (LK X 26 0 Q true [(0, LS.mk [6] (CS.mk [] [true] [] []))]) Q 2000 ([.code (bodyOf Try.f26)]) (slots [.agg pr, .one (.u32 x), .one (.u32 y)] Try.f26.ntmps) []) (by kernel_rfl) h)
set_option maxRecDepth 100000 in
theorem vc26b {X : Ctx} {Q : AV → Mem → Prop} (hX : X.P = Try.prog) (b : Bool) (h : Q (AV.one (AC.b b)) []) : KRun X 26 0 Q (kCut Try.f26 3) (mkS 44 [(6, .one (.b b))]) [] :=
  wpRun_ok (hX ▸ envP_ok T26 mf20 M20) (hX ▸ envP_call T26_ok M20_ok) (hX ▸ mixed) (hX ▸ ok26) LK_ok (cast (β := wpRun (envP T26 mf20 M20) [35, 39] [(100003, 0)] false (RS.mk Try.f26.results.toList 0 (CS.mk [] [] [] [])) (LK X 26 0 Q true [(0, LS.mk [6] (CS.mk [] [true] [] []))]) Q 2000 (kCut Try.f26 3) (mkS 44 [(6, .one (.b b))]) []) (by kernel_rfl) h)
theorem keyB_len {a : Int} {m : List (BitVec 8)} (c : List (BitVec 8)) (h : keyE a m = 0) : (keyB a m c).length = kszF a ∧ kszF a ≠ 0 := by
  unfold keyE at h
  unfold keyB
  rcases kszF_cases a with h1 | h1 | h1
  · have h0 : ¬ kszF a = 0 := by omega
    rw [if_neg h0] at h ⊢
    split at h
    · cases h
    · rename_i hm
      rw [if_neg hm, if_pos h1.1, hmF_len]
      omega
  · have h0 : ¬ kszF a = 0 := by omega
    rw [if_neg h0] at h ⊢
    split at h
    · cases h
    · rename_i hm
      rw [if_neg hm, if_neg (by omega), cmF_len]
      omega
  · rw [if_pos h1.2.2] at h; cases h
theorem keyB_nil {a : Int} {m : List (BitVec 8)} (c : List (BitVec 8)) (h : ¬ keyE a m = 0) : keyB a m c = [] := by
  unfold keyE at h
  unfold keyB
  split
  · rfl
  · rename_i h0
    rw [if_neg h0] at h
    split
    · rfl
    · rename_i h1
      rw [if_neg h1] at h
      exact absurd rfl h
theorem macE_ok {a : Int} {k : List (BitVec 8)} (h : k.length = kszF a) (h0 : kszF a ≠ 0) : macE a k = 0 := by
  unfold macE
  rw [if_neg h0, if_neg (by omega)]
theorem s25 (a:Int) (m c : List (BitVec 8)) : Spec Try.prog 25 [.one (.i64 a), .one (.xs (m.map AC.u8) 0 m.length), .one (.xs (c.map AC.u8) 0 c.length)] [] Fin := by
  refine Spec.of_run ok25 fun X hX => vc25 hX _ _ _ _ _ ?_
  rw [tk m, tk c]
  have pe : List.map asP [AC.xs (c.map AC.u8) 0 c.length] = [c] := by simp only [List.map_cons, List.map_nil, asP, xsRow, map_as8]
  have pf : List.map encP [c] = [AC.xs (c.map AC.u8) 0 c.length] := rfl
  rw [pe, pf, fl1]
  simp only [hide_eq, map_as8]
  have hk : ∀ l : List (BitVec 8), take (l.length * 1) (drop 0 (l.map AC.u8)) = l.map AC.u8 := tk
  simp only [hk, map_as8, List.length_map]
  have hk1 := keyB_len (a := a) (m := m) c
  have hk0 := keyB_nil (a := a) (m := m) c
  have hm := macB_len a (keyB a m c) c
  have hks : kszF a ≤ 20 := by rcases kszF_cases a with h | h | h <;> omega
  refine ⟨by omega, fun _ => rfl, fun h => ⟨by omega, fun _ => rfl, fun h2 => ⟨by omega, by omega, ?_, ?_, fun h3 => ⟨fun _ => rfl, fun h4 => ?_⟩, fun h3 => ?_⟩⟩⟩
  · have h2 := of_decide_eq_false h2
    clear hk
    (repeat' (first | exact trivial | exact flat_u8 _ | exact flatA _ | exact z | exact zA | exact allU8_map _ | exact exU8 _ | exact Nat.le_refl _ | exact (rfl : AC.flat (AC.i64 _) = true) | refine And.intro ?_ ?_)) <;> first | omega | skip
  · exact exU8 _
  · have := of_decide_eq_false h4
    rw [hk0 (not_dec h3)] at this
    exact absurd rfl this
  · have h3 : keyE a m = 0 := is_dec h3
    have ⟨e1, e2⟩ := hk1 h3
    have h1 := of_decide_eq_false h
    have h2 := of_decide_eq_false h2
    have e3 := macE_ok e1 e2
    rw [e3, e1]
    generalize keyB a m c = E at *
    simp only [deq, Bool.true_eq_false, false_implies, true_implies, and_true, decide_true, List.length_map, hm]
    clear hk hk0 hk1
    (repeat' (first | exact trivial | exact flat_u8 _ | exact flatA _ | exact z | exact zA | exact allU8_map _ | exact exU8 _ | exact Nat.le_refl _ | exact (rfl : AC.flat (AC.i64 _) = true) | refine And.intro ?_ ?_)) <;> first | omega | skip
    all_goals first | exact rfl | rw [List.drop_zero]
theorem enE_len (s : Bool) {a : List (BitVec 8)} (ha : a.length = 16) (p:BitVec 16) : (enE s a p).length = 18 := by
  unfold enE
  rw [List.length_cons, List.length_append, List.length_map, ha]
  rfl
theorem pr1 (s : Bool) {a : List (BitVec 8)} (ha : a.length = 16) (p:BitVec 16) (l : List AC) : take 18 (drop 0 (enE s a p ++ l)) = enE s a p := by
  rw [List.drop_zero, List.take_append_of_le_length (by rw [enE_len s ha]; omega), List.take_of_length_le (by rw [enE_len s ha]; omega)]
theorem pr2 (s : Bool) {a : List (BitVec 8)} (ha : a.length = 16) (p:BitVec 16) (t : Bool) {b : List (BitVec 8)} (hb : b.length = 16) (q:BitVec 16) : take 18 (drop 18 (enE s a p ++ enE t b q)) = enE t b q := by
  rw [List.drop_append_of_le_length (by rw [enE_len s ha]; omega), List.drop_eq_nil_of_le (by rw [enE_len s ha]; omega), List.nil_append, List.take_of_length_le (by rw [enE_len t hb]; omega)]
theorem flat_en (s : Bool) (a : List (BitVec 8)) (p:BitVec 16) : Flat (enE s a p) := by
  unfold enE
  intro c hc
  rcases List.mem_cons.1 hc with rfl | hc
  · rfl
  · rcases List.mem_append.1 hc with hc | hc
    · exact flat_u8 _ c hc
    · rw [List.mem_singleton.1 hc]; rfl
theorem s26 (s t : Bool) (a b : List (BitVec 8)) (p q:BitVec 16) (x y:BitVec 32) (ha : a.length = 16) (hb : b.length = 16) : Spec Try.prog 26 [.agg (enE s a p ++ enE t b q), .one (.u32 x), .one (.u32 y)] [] Fin := by
  refine Spec.of_run ok26 fun X hX => vc26 hX _ _ _ ?_
  have hl : (enE s a p ++ enE t b q).length = 36 := by rw [List.length_append, enE_len s ha, enE_len t hb]
  have e1 := pr1 s ha p (enE t b q)
  have e2 := pr2 s ha p t hb q
  have i1 := isE_en s ha p
  have i2 := isE_en t hb q
  have z1 := flat_en s a p
  have z2 := flat_en t b q
  have K : KRun X 26 0 Fin (kCut Try.f26 3) (mkS 44 [(6, .one (.b true))]) [] := by
    refine vc26b hX _ ?_
    exact rfl
  rw [e1, e2]
  have hk : ∀ l : List (BitVec 8), take (l.length * 1) (drop 0 (l.map AC.u8)) = l.map AC.u8 := tk
  simp only [hide_eq, hk, map_as8, deq, Bool.true_eq_false, false_implies, true_implies, and_true, decide_true, List.length_map, hl]
  clear e1 e2 hk
  generalize enE s a p = E1 at *
  generalize enE t b q = E2 at *
  generalize ctC E1 E2 x y = E at *
  (repeat' (first | exact i1 | exact i2 | exact z1 | exact z2 | exact K | exact allU8_map _ | exact exU8 _ | exact ⟨K⟩ | refine And.intro ?_ ?_)) <;> omega
end DH
namespace DH
open List (take drop replicate)
open Go Go.Proofs
/-! contexts, plainly: turned about, and apart -/
def ctF (A B P Q X Y : List (BitVec 8)) : List (BitVec 8) := A ++ (B ++ (P ++ (Q ++ (X ++ Y))))
theorem sl_at (u v w : List (BitVec 8)) {i j : Nat} (hi : u.length = i) (hj : v.length = j) : ((u ++ (v ++ w)).drop i).take j = v := by
  rw [List.drop_append_of_le_length (by omega), List.drop_eq_nil_of_le (by omega), List.nil_append, List.take_append_of_le_length (by omega), List.take_of_length_le (by omega)]
theorem be2_len (p:BitVec 64) : (beN 2 p).length = 2 := beN_len _ _
theorem ctL_eq (s : Bool) (a : List (BitVec 8)) (p:BitVec 16) (t : Bool) (b : List (BitVec 8)) (q:BitVec 16) (x y:BitVec 32) :
    ctL s a p t b q x y = ctF (adB s a) (adB t b) (beN 2 (p.setWidth 64)) (beN 2 (q.setWidth 64)) (beN 4 (x.setWidth 64)) (beN 4 (y.setWidth 64)) := by
  unfold ctL ctF ptB
  rw [szN2, szN4]
  simp only [putL, List.flatMap_cons, List.flatMap_nil, List.append_nil, List.append_assoc]
theorem ctX_self (s : Bool) (a : List (BitVec 8)) (p:BitVec 16) (b : List (BitVec 8)) (q:BitVec 16) (x y:BitVec 32) : ctX s a p s b q x y = ctL s a p s b q x y := if_pos rfl
/-- what is put together again, of the one turned about -/
theorem ctF_turn {A B P Q X Y : List (BitVec 8)} {n : Nat} (hA : A.length = n) (hB : B.length = n) (hP : P.length = 2) (hQ : Q.length = 2) (hX : X.length = 4) (hY : Y.length = 4) :
    (((((((ctF B A Q P Y X).drop n).take n ++ (ctF B A Q P Y X).take n) ++ ((ctF B A Q P Y X).drop (2 * n + 2)).take 2) ++ ((ctF B A Q P Y X).drop (2 * n)).take 2) ++
      ((ctF B A Q P Y X).drop (2 * n + 8))) ++ ((ctF B A Q P Y X).drop (2 * n + 4)).take 4) = ctF A B P Q X Y := by
  have e1 : ((ctF B A Q P Y X).drop n).take n = A := sl_at B A _ hB hA
  have e2 : (ctF B A Q P Y X).take n = B := by
    unfold ctF
    rw [List.take_append_of_le_length (by omega), List.take_of_length_le (by omega)]
  have e3 : ((ctF B A Q P Y X).drop (2 * n + 2)).take 2 = P := by
    have := sl_at (B ++ (A ++ Q)) P (Y ++ X) (i := 2 * n + 2) (j := 2) (by simp only [List.length_append]; omega) hP
    unfold ctF
    simpa only [List.append_assoc] using this
  have e4 : ((ctF B A Q P Y X).drop (2 * n)).take 2 = Q := by
    have := sl_at (B ++ A) Q (P ++ (Y ++ X)) (i := 2 * n) (j := 2) (by simp only [List.length_append]; omega) hQ
    unfold ctF
    simpa only [List.append_assoc] using this
  have e5 : (ctF B A Q P Y X).drop (2 * n + 8) = X := by
    have h : ctF B A Q P Y X = (B ++ (A ++ (Q ++ (P ++ Y)))) ++ X := by unfold ctF; simp only [List.append_assoc]
    rw [h, List.drop_append_of_le_length (by simp only [List.length_append]; omega), List.drop_eq_nil_of_le (by simp only [List.length_append]; omega), List.nil_append]
  have e6 : ((ctF B A Q P Y X).drop (2 * n + 4)).take 4 = Y := by
    have := sl_at (B ++ (A ++ (Q ++ P))) Y X (i := 2 * n + 4) (j := 4) (by simp only [List.length_append]; omega) hY
    unfold ctF
    simpa only [List.append_assoc] using this
  rw [e1, e2, e3, e4, e5, e6]
  unfold ctF
  simp only [List.append_assoc]
theorem ctF_inj {A B P Q X Y A' B' P' Q' X' Y' : List (BitVec 8)} {n : Nat} (hA : A.length = n) (hB : B.length = n) (hP : P.length = 2) (hQ : Q.length = 2) (hX : X.length = 4)
    (hA' : A'.length = n) (hB' : B'.length = n) (hP' : P'.length = 2) (hQ' : Q'.length = 2) (hX' : X'.length = 4) (h : ctF A B P Q X Y = ctF A' B' P' Q' X' Y') :
    A = A' ∧ B = B' ∧ P = P' ∧ Q = Q' ∧ X = X' ∧ Y = Y' := by
  unfold ctF at h
  obtain ⟨h1, h⟩ := List.append_inj h (by omega)
  obtain ⟨h2, h⟩ := List.append_inj h (by omega)
  obtain ⟨h3, h⟩ := List.append_inj h (by omega)
  obtain ⟨h4, h⟩ := List.append_inj h (by omega)
  obtain ⟨h5, h⟩ := List.append_inj h (by omega)
  exact ⟨h1, h2, h3, h4, h5, h⟩
theorem tn8 (z:BitVec 64) (k:Nat) : ((z >>> k).setWidth 8).toNat = z.toNat / 2 ^ k % 256 := by
  rw [BitVec.toNat_setWidth, BitVec.toNat_ushiftRight, Nat.shiftRight_eq_div_pow]
theorem sw16 (z:BitVec 16) : (z.setWidth 64).toNat = z.toNat := by
  rw [BitVec.toNat_setWidth]; have := z.isLt; omega
theorem sw32 (z:BitVec 32) : (z.setWidth 64).toNat = z.toNat := by
  rw [BitVec.toNat_setWidth]; have := z.isLt; omega
theorem be2_inj {p q : BitVec 16} (h : beN 2 (p.setWidth 64) = beN 2 (q.setWidth 64)) : p = q := by
  have e : ∀ z : BitVec 16, beN 2 (z.setWidth 64) = [(z.setWidth 64 >>> 8).setWidth 8, (z.setWidth 64 >>> 0).setWidth 8] := fun _ => rfl
  rw [e, e] at h
  injection h with h1 h2
  injection h2 with h2 _
  have h1 := congrArg BitVec.toNat h1
  have h2 := congrArg BitVec.toNat h2
  rw [tn8, tn8, sw16, sw16] at h1 h2
  have := p.isLt
  have := q.isLt
  exact BitVec.eq_of_toNat_eq (by omega)
theorem be4_inj {p q : BitVec 32} (h : beN 4 (p.setWidth 64) = beN 4 (q.setWidth 64)) : p = q := by
  have e : ∀ z : BitVec 32, beN 4 (z.setWidth 64) = [(z.setWidth 64 >>> 24).setWidth 8, (z.setWidth 64 >>> 16).setWidth 8, (z.setWidth 64 >>> 8).setWidth 8, (z.setWidth 64 >>> 0).setWidth 8] := fun _ => rfl
  rw [e, e] at h
  injection h with h1 h
  injection h with h2 h
  injection h with h3 h
  injection h with h4 _
  have h1 := congrArg BitVec.toNat h1
  have h2 := congrArg BitVec.toNat h2
  have h3 := congrArg BitVec.toNat h3
  have h4 := congrArg BitVec.toNat h4
  rw [tn8, tn8, sw32, sw32] at h1 h2 h3 h4
  have := p.isLt
  have := q.isLt
  exact BitVec.eq_of_toNat_eq (by omega)
/-- an end as it is covered -/
def canB (s : Bool) (a : List (BitVec 8)) : List (BitVec 8) := match s with | true => a | false => a.take 4 ++ replicate 12 0
theorem canB_len (s : Bool) {a : List (BitVec 8)} (h : a.length = 16) : (canB s a).length = 16 := by
  cases s
  · show (a.take 4 ++ replicate 12 0).length = 16
    rw [List.length_append, List.length_take, List.length_replicate]; omega
  · exact h
theorem canB_iff (s : Bool) {a b : List (BitVec 8)} (ha : a.length = 16) (hb : b.length = 16) : canB s a = canB s b ↔ adB s a = adB s b := by
  cases s
  · show a.take 4 ++ replicate 12 0 = b.take 4 ++ replicate 12 0 ↔ a.take 4 = b.take 4
    exact ⟨fun h => (List.append_inj h (by rw [List.length_take, List.length_take]; omega)).1, fun h => by rw [h]⟩
  · show a = b ↔ a.take 16 = b.take 16
    rw [List.take_of_length_le (by omega), List.take_of_length_le (by omega)]
theorem ctL_iff {a b a' b' : List (BitVec 8)} (ha : a.length = 16) (hb : b.length = 16) (ha' : a'.length = 16) (hb' : b'.length = 16) (s s' : Bool) (p q p' q':BitVec 16) (x y x' y':BitVec 32) :
    ctL s a p s b q x y = ctL s' a' p' s' b' q' x' y' ↔ ((s = s' ∧ canB s a = canB s' a' ∧ p = p') ∧ (canB s b = canB s' b' ∧ q = q') ∧ x = x' ∧ y = y') := by
  constructor
  · intro h
    have hs : s = s' := by
      have hl := congrArg List.length h
      rw [ctL_len ha hb, ctL_len ha' hb'] at hl
      cases s <;> cases s' <;> first | rfl | (simp only [adN] at hl; omega)
    subst hs
    rw [ctL_eq, ctL_eq] at h
    obtain ⟨h1, h2, h3, h4, h5, h6⟩ := ctF_inj (n := adN s) (adB_len ha s) (adB_len hb s) (be2_len _) (be2_len _) (beN_len _ _) (adB_len ha' s) (adB_len hb' s) (be2_len _) (be2_len _) (beN_len _ _) h
    exact ⟨⟨rfl, (canB_iff s ha ha').2 h1, be2_inj h3⟩, ⟨(canB_iff s hb hb').2 h2, be2_inj h4⟩, be4_inj h5, be4_inj h6⟩
  · rintro ⟨⟨rfl, h1, rfl⟩, ⟨h2, rfl⟩, rfl, rfl⟩
    rw [ctL_eq, ctL_eq, (canB_iff s ha ha').1 h1, (canB_iff s hb hb').1 h2]
end DH
noncomputable section
namespace DH
open List (take drop replicate)
open Go Go.Proofs
set_option maxRecDepth 100000 in
theorem vc27 {X : Ctx} {Q : AV → Mem → Prop} (hX : X.P = Try.prog) (pr : List AC) (x y:BitVec 32) (h : 18 ≤ List.length pr ∧ 36 ≤ List.length pr ∧ Flat (take 18 (drop 0 pr)) ∧ Flat (take 18 (drop 18 pr)) ∧ (IsE (take 18 (drop 0 pr)) ∧ IsE (take 18 (drop 18 pr))) ∧ ExactL (hide (List.map AC.u8 (ctC (take 18 (drop 0 pr)) (take 18 (drop 18 pr)) x y))) ∧ 36 ≤ List.length pr ∧ 18 ≤ List.length pr ∧ Flat (take 18 (drop 18 pr)) ∧ Flat (take 18 (drop 0 pr)) ∧ (IsE (take 18 (drop 18 pr)) ∧ IsE (take 18 (drop 0 pr))) ∧ ExactL (hide (List.map AC.u8 (ctC (take 18 (drop 18 pr)) (take 18 (drop 0 pr)) y x))) ∧ ((!decide (ctE (sE (take 18 (drop 0 pr))) (sE (take 18 (drop 18 pr))) = (0:Int))) = true → (decide (ctE (sE (take 18 (drop 0 pr))) (sE (take 18 (drop 18 pr))) = ctE (sE (take 18 (drop 18 pr))) (sE (take 18 (drop 0 pr)))) = true → in64 ((↑(List.length (ctC (take 18 (drop 0 pr)) (take 18 (drop 18 pr)) x y)):Int) + (↑(List.length (ctC (take 18 (drop 18 pr)) (take 18 (drop 0 pr)) y x)):Int)) ∧ (decide ((↑(List.length (ctC (take 18 (drop 0 pr)) (take 18 (drop 18 pr)) x y)):Int) + (↑(List.length (ctC (take 18 (drop 18 pr)) (take 18 (drop 0 pr)) y x)):Int) = (0:Int)) = true → Q (AV.one (AC.b true)) []) ∧ (decide ((↑(List.length (ctC (take 18 (drop 0 pr)) (take 18 (drop 18 pr)) x y)):Int) + (↑(List.length (ctC (take 18 (drop 18 pr)) (take 18 (drop 0 pr)) y x)):Int) = (0:Int)) = false → Q (AV.one (AC.b false)) [])) ∧ (decide (ctE (sE (take 18 (drop 0 pr))) (sE (take 18 (drop 18 pr))) = ctE (sE (take 18 (drop 18 pr))) (sE (take 18 (drop 0 pr)))) = false → Q (AV.one (AC.b false)) [])) ∧ ((!decide (ctE (sE (take 18 (drop 0 pr))) (sE (take 18 (drop 18 pr))) = (0:Int))) = false → ((!decide (ctE (sE (take 18 (drop 18 pr))) (sE (take 18 (drop 0 pr))) = (0:Int))) = true → (decide (ctE (sE (take 18 (drop 0 pr))) (sE (take 18 (drop 18 pr))) = ctE (sE (take 18 (drop 18 pr))) (sE (take 18 (drop 0 pr)))) = true → in64 ((↑(List.length (ctC (take 18 (drop 0 pr)) (take 18 (drop 18 pr)) x y)):Int) + (↑(List.length (ctC (take 18 (drop 18 pr)) (take 18 (drop 0 pr)) y x)):Int)) ∧ (decide ((↑(List.length (ctC (take 18 (drop 0 pr)) (take 18 (drop 18 pr)) x y)):Int) + (↑(List.length (ctC (take 18 (drop 18 pr)) (take 18 (drop 0 pr)) y x)):Int) = (0:Int)) = true → Q (AV.one (AC.b true)) []) ∧ (decide ((↑(List.length (ctC (take 18 (drop 0 pr)) (take 18 (drop 18 pr)) x y)):Int) + (↑(List.length (ctC (take 18 (drop 18 pr)) (take 18 (drop 0 pr)) y x)):Int) = (0:Int)) = false → Q (AV.one (AC.b false)) [])) ∧ (decide (ctE (sE (take 18 (drop 0 pr))) (sE (take 18 (drop 18 pr))) = ctE (sE (take 18 (drop 18 pr))) (sE (take 18 (drop 0 pr)))) = false → Q (AV.one (AC.b false)) [])) ∧ ((!decide (ctE (sE (take 18 (drop 18 pr))) (sE (take 18 (drop 0 pr))) = (0:Int))) = false → in64 ((↑(List.length (ctC (take 18 (drop 0 pr)) (take 18 (drop 18 pr)) x y)):Int) - (12:Int)) ∧ ((2:Int) ≠ (0:Int) ∧ in64 (Int.tdiv ((↑(List.length (ctC (take 18 (drop 0 pr)) (take 18 (drop 18 pr)) x y)):Int) - (12:Int)) (2:Int))) ∧ Flat (hide (List.map AC.u8 (ctC (take 18 (drop 0 pr)) (take 18 (drop 18 pr)) x y))) ∧ Flat (hide (List.map AC.u8 (ctC (take 18 (drop 18 pr)) (take 18 (drop 0 pr)) y x))) ∧ KR X 27 0 Q (kCut Try.f27 5) (mkS 124 [(7, AV.one (AC.gs 0 (List.length (ctC (take 18 (drop 0 pr)) (take 18 (drop 18 pr)) x y)) 1)), (9, AV.one (AC.gs 1 (List.length (ctC (take 18 (drop 18 pr)) (take 18 (drop 0 pr)) y x)) 1)), (11, AV.one (AC.i64 (Int.tdiv ((↑(List.length (ctC (take 18 (drop 0 pr)) (take 18 (drop 18 pr)) x y)):Int) - (12:Int)) (2:Int))))]) [some (hide (List.map AC.u8 (ctC (take 18 (drop 0 pr)) (take 18 (drop 18 pr)) x y))), some (hide (List.map AC.u8 (ctC (take 18 (drop 18 pr)) (take 18 (drop 0 pr)) y x)))]))) : KRun X 27 0 Q ([.code (bodyOf Try.f27)]) (slots [.agg pr, .one (.u32 x), .one (.u32 y)] Try.f27.ntmps) [] :=
  wpRun_ok (hX ▸ envP_ok T26 mf20 M20) (hX ▸ envP_call T26_ok M20_ok) (hX ▸ mixed) (hX ▸ ok27) LK_ok (cast (β := wpRun (envP T26 mf20 M20) [34, 37, 41, 48, 61, 64, 67, 120] [(100005, 0), (200008, 0)] false (RS.mk Try.f27.results.toList 0 (CS.mk [] [] [] [])) (LK X 27 0 Q true [(6, LS.mk [7, 9, 11] (CS.mk [] [true, true] [] []))]) Q 2000 ([.code (bodyOf Try.f27)]) (slots [.agg pr, .one (.u32 x), .one (.u32 y)] Try.f27.ntmps) []) (by kernel_rfl) h)
set_option maxRecDepth 100000 in
theorem vc27a {X : Ctx} {Q : AV → Mem → Prop} (hX : X.P = Try.prog) (cr dr : List AC) (h : ((!decide ((↑20:Int) = (↑20:Int))) = true → Q (AV.one (AC.b false)) []) ∧ ((!decide ((↑20:Int) = (↑20:Int))) = false → ((!decide ((4:Int) = (4:Int))) = true → ((!decide ((4:Int) = (16:Int))) = true → Q (AV.one (AC.b false)) []) ∧ ((!decide ((4:Int) = (16:Int))) = false → in64 ((2:Int) * (4:Int)) ∧ ((0:Int) ≤ (4:Int) ∧ (4:Int) ≤ (2:Int) * (4:Int) ∧ (2:Int) * (4:Int) ≤ (↑20:Int)) ∧ 8 ≤ List.length dr ∧ allU8 (take 4 (drop 4 dr)) ∧ ((0:Int) ≤ (↑0:Int) ∧ (↑0:Int) ≤ (4:Int) ∧ (4:Int) ≤ (↑20:Int)) ∧ 4 ≤ List.length dr ∧ allU8 (take 4 (drop 0 dr)) ∧ List.length (List.map asU8 (take 4 (drop 4 dr))) + List.length (List.map asU8 (take 4 (drop 0 dr))) < 4611686018427387904 ∧ in64 ((2:Int) * (4:Int)) ∧ in64 ((2:Int) * (4:Int) + (2:Int)) ∧ in64 ((2:Int) * (4:Int)) ∧ in64 ((2:Int) * (4:Int) + (4:Int)) ∧ ((0:Int) ≤ (2:Int) * (4:Int) + (2:Int) ∧ (2:Int) * (4:Int) + (2:Int) ≤ (2:Int) * (4:Int) + (4:Int) ∧ (2:Int) * (4:Int) + (4:Int) ≤ (↑20:Int)) ∧ 12 ≤ List.length dr ∧ allU8 (take 2 (drop 10 dr)) ∧ List.length (List.map asU8 (take 4 (drop 4 dr)) ++ List.map asU8 (take 4 (drop 0 dr))) + List.length (List.map asU8 (take 2 (drop 10 dr))) < 4611686018427387904 ∧ in64 ((2:Int) * (4:Int)) ∧ in64 ((2:Int) * (4:Int)) ∧ in64 ((2:Int) * (4:Int) + (2:Int)) ∧ ((0:Int) ≤ (2:Int) * (4:Int) ∧ (2:Int) * (4:Int) ≤ (2:Int) * (4:Int) + (2:Int) ∧ (2:Int) * (4:Int) + (2:Int) ≤ (↑20:Int)) ∧ 10 ≤ List.length dr ∧ allU8 (take 2 (drop 8 dr)) ∧ List.length (List.map asU8 (take 4 (drop 4 dr)) ++ List.map asU8 (take 4 (drop 0 dr)) ++ List.map asU8 (take 2 (drop 10 dr))) + List.length (List.map asU8 (take 2 (drop 8 dr))) < 4611686018427387904 ∧ in64 ((2:Int) * (4:Int)) ∧ in64 ((2:Int) * (4:Int) + (8:Int)) ∧ ((0:Int) ≤ (2:Int) * (4:Int) + (8:Int) ∧ (2:Int) * (4:Int) + (8:Int) ≤ (↑20:Int) ∧ (↑20:Int) ≤ (↑20:Int)) ∧ 20 ≤ List.length dr ∧ allU8 (take 4 (drop 16 dr)) ∧ List.length (List.map asU8 (take 4 (drop 4 dr)) ++ List.map asU8 (take 4 (drop 0 dr)) ++ List.map asU8 (take 2 (drop 10 dr)) ++ List.map asU8 (take 2 (drop 8 dr))) + List.length (List.map asU8 (take 4 (drop 16 dr))) < 4611686018427387904 ∧ in64 ((2:Int) * (4:Int)) ∧ in64 ((2:Int) * (4:Int) + (4:Int)) ∧ in64 ((2:Int) * (4:Int)) ∧ in64 ((2:Int) * (4:Int) + (8:Int)) ∧ ((0:Int) ≤ (2:Int) * (4:Int) + (4:Int) ∧ (2:Int) * (4:Int) + (4:Int) ≤ (2:Int) * (4:Int) + (8:Int) ∧ (2:Int) * (4:Int) + (8:Int) ≤ (↑20:Int)) ∧ 16 ≤ List.length dr ∧ allU8 (take 4 (drop 12 dr)) ∧ List.length (List.map asU8 (take 4 (drop 4 dr)) ++ List.map asU8 (take 4 (drop 0 dr)) ++ List.map asU8 (take 2 (drop 10 dr)) ++ List.map asU8 (take 2 (drop 8 dr)) ++ List.map asU8 (take 4 (drop 16 dr))) + List.length (List.map asU8 (take 4 (drop 12 dr))) < 4611686018427387904 ∧ 20 ≤ List.length cr ∧ allU8 (take 20 (drop 0 cr)) ∧ (decide (List.map asU8 (take 20 (drop 0 cr)) = List.map asU8 (take 4 (drop 4 dr)) ++ List.map asU8 (take 4 (drop 0 dr)) ++ List.map asU8 (take 2 (drop 10 dr)) ++ List.map asU8 (take 2 (drop 8 dr)) ++ List.map asU8 (take 4 (drop 16 dr)) ++ List.map asU8 (take 4 (drop 12 dr))) = true → Q (AV.one (AC.b true)) []) ∧ (decide (List.map asU8 (take 20 (drop 0 cr)) = List.map asU8 (take 4 (drop 4 dr)) ++ List.map asU8 (take 4 (drop 0 dr)) ++ List.map asU8 (take 2 (drop 10 dr)) ++ List.map asU8 (take 2 (drop 8 dr)) ++ List.map asU8 (take 4 (drop 16 dr)) ++ List.map asU8 (take 4 (drop 12 dr))) = false → Q (AV.one (AC.b false)) []))) ∧ ((!decide ((4:Int) = (4:Int))) = false → in64 ((2:Int) * (4:Int)) ∧ ((0:Int) ≤ (4:Int) ∧ (4:Int) ≤ (2:Int) * (4:Int) ∧ (2:Int) * (4:Int) ≤ (↑20:Int)) ∧ 8 ≤ List.length dr ∧ allU8 (take 4 (drop 4 dr)) ∧ ((0:Int) ≤ (↑0:Int) ∧ (↑0:Int) ≤ (4:Int) ∧ (4:Int) ≤ (↑20:Int)) ∧ 4 ≤ List.length dr ∧ allU8 (take 4 (drop 0 dr)) ∧ List.length (List.map asU8 (take 4 (drop 4 dr))) + List.length (List.map asU8 (take 4 (drop 0 dr))) < 4611686018427387904 ∧ in64 ((2:Int) * (4:Int)) ∧ in64 ((2:Int) * (4:Int) + (2:Int)) ∧ in64 ((2:Int) * (4:Int)) ∧ in64 ((2:Int) * (4:Int) + (4:Int)) ∧ ((0:Int) ≤ (2:Int) * (4:Int) + (2:Int) ∧ (2:Int) * (4:Int) + (2:Int) ≤ (2:Int) * (4:Int) + (4:Int) ∧ (2:Int) * (4:Int) + (4:Int) ≤ (↑20:Int)) ∧ 12 ≤ List.length dr ∧ allU8 (take 2 (drop 10 dr)) ∧ List.length (List.map asU8 (take 4 (drop 4 dr)) ++ List.map asU8 (take 4 (drop 0 dr))) + List.length (List.map asU8 (take 2 (drop 10 dr))) < 4611686018427387904 ∧ in64 ((2:Int) * (4:Int)) ∧ in64 ((2:Int) * (4:Int)) ∧ in64 ((2:Int) * (4:Int) + (2:Int)) ∧ ((0:Int) ≤ (2:Int) * (4:Int) ∧ (2:Int) * (4:Int) ≤ (2:Int) * (4:Int) + (2:Int) ∧ (2:Int) * (4:Int) + (2:Int) ≤ (↑20:Int)) ∧ 10 ≤ List.length dr ∧ allU8 (take 2 (drop 8 dr)) ∧ List.length (List.map asU8 (take 4 (drop 4 dr)) ++ List.map asU8 (take 4 (drop 0 dr)) ++ List.map asU8 (take 2 (drop 10 dr))) + List.length (List.map asU8 (take 2 (drop 8 dr))) < 4611686018427387904 ∧ in64 ((2:Int) * (4:Int)) ∧ in64 ((2:Int) * (4:Int) + (8:Int)) ∧ ((0:Int) ≤ (2:Int) * (4:Int) + (8:Int) ∧ (2:Int) * (4:Int) + (8:Int) ≤ (↑20:Int) ∧ (↑20:Int) ≤ (↑20:Int)) ∧ 20 ≤ List.length dr ∧ allU8 (take 4 (drop 16 dr)) ∧ List.length (List.map asU8 (take 4 (drop 4 dr)) ++ List.map asU8 (take 4 (drop 0 dr)) ++ List.map asU8 (take 2 (drop 10 dr)) ++ List.map asU8 (take 2 (drop 8 dr))) + List.length (List.map asU8 (take 4 (drop 16 dr))) < 4611686018427387904 ∧ in64 ((2:Int) * (4:Int)) ∧ in64 ((2:Int) * (4:Int) + (4:Int)) ∧ in64 ((2:Int) * (4:Int)) ∧ in64 ((2:Int) * (4:Int) + (8:Int)) ∧ ((0:Int) ≤ (2:Int) * (4:Int) + (4:Int) ∧ (2:Int) * (4:Int) + (4:Int) ≤ (2:Int) * (4:Int) + (8:Int) ∧ (2:Int) * (4:Int) + (8:Int) ≤ (↑20:Int)) ∧ 16 ≤ List.length dr ∧ allU8 (take 4 (drop 12 dr)) ∧ List.length (List.map asU8 (take 4 (drop 4 dr)) ++ List.map asU8 (take 4 (drop 0 dr)) ++ List.map asU8 (take 2 (drop 10 dr)) ++ List.map asU8 (take 2 (drop 8 dr)) ++ List.map asU8 (take 4 (drop 16 dr))) + List.length (List.map asU8 (take 4 (drop 12 dr))) < 4611686018427387904 ∧ 20 ≤ List.length cr ∧ allU8 (take 20 (drop 0 cr)) ∧ (decide (List.map asU8 (take 20 (drop 0 cr)) = List.map asU8 (take 4 (drop 4 dr)) ++ List.map asU8 (take 4 (drop 0 dr)) ++ List.map asU8 (take 2 (drop 10 dr)) ++ List.map asU8 (take 2 (drop 8 dr)) ++ List.map asU8 (take 4 (drop 16 dr)) ++ List.map asU8 (take 4 (drop 12 dr))) = true → Q (AV.one (AC.b true)) []) ∧ (decide (List.map asU8 (take 20 (drop 0 cr)) = List.map asU8 (take 4 (drop 4 dr)) ++ List.map asU8 (take 4 (drop 0 dr)) ++ List.map asU8 (take 2 (drop 10 dr)) ++ List.map asU8 (take 2 (drop 8 dr)) ++ List.map asU8 (take 4 (drop 16 dr)) ++ List.map asU8 (take 4 (drop 12 dr))) = false → Q (AV.one (AC.b false)) [])))) : KRun X 27 0 Q (kCut Try.f27 5) (mkS 124 [(7, .one (.gs 0 20 1)), (9, .one (.gs 1 20 1)), (11, .one (.i64 4))]) [some cr, some dr] :=
  wpRun_ok (hX ▸ envP_ok T26 mf20 M20) (hX ▸ envP_call T26_ok M20_ok) (hX ▸ mixed) (hX ▸ ok27) LK_ok (cast (β := wpRun (envP T26 mf20 M20) [34, 37, 41, 48, 61, 64, 67, 120] [(100005, 0), (200008, 0)] false (RS.mk Try.f27.results.toList 0 (CS.mk [] [] [] [])) (LK X 27 0 Q true [(6, LS.mk [7, 9, 11] (CS.mk [] [true, true] [] []))]) Q 2000 (kCut Try.f27 5) (mkS 124 [(7, .one (.gs 0 20 1)), (9, .one (.gs 1 20 1)), (11, .one (.i64 4))]) [some cr, some dr]) (by kernel_rfl) h)
set_option maxRecDepth 100000 in
theorem vc27b {X : Ctx} {Q : AV → Mem → Prop} (hX : X.P = Try.prog) (cr dr : List AC) (h : ((!decide ((↑44:Int) = (↑44:Int))) = true → Q (AV.one (AC.b false)) []) ∧ ((!decide ((↑44:Int) = (↑44:Int))) = false → ((!decide ((16:Int) = (4:Int))) = true → ((!decide ((16:Int) = (16:Int))) = true → Q (AV.one (AC.b false)) []) ∧ ((!decide ((16:Int) = (16:Int))) = false → in64 ((2:Int) * (16:Int)) ∧ ((0:Int) ≤ (16:Int) ∧ (16:Int) ≤ (2:Int) * (16:Int) ∧ (2:Int) * (16:Int) ≤ (↑44:Int)) ∧ 32 ≤ List.length dr ∧ allU8 (take 16 (drop 16 dr)) ∧ ((0:Int) ≤ (↑0:Int) ∧ (↑0:Int) ≤ (16:Int) ∧ (16:Int) ≤ (↑44:Int)) ∧ 16 ≤ List.length dr ∧ allU8 (take 16 (drop 0 dr)) ∧ List.length (List.map asU8 (take 16 (drop 16 dr))) + List.length (List.map asU8 (take 16 (drop 0 dr))) < 4611686018427387904 ∧ in64 ((2:Int) * (16:Int)) ∧ in64 ((2:Int) * (16:Int) + (2:Int)) ∧ in64 ((2:Int) * (16:Int)) ∧ in64 ((2:Int) * (16:Int) + (4:Int)) ∧ ((0:Int) ≤ (2:Int) * (16:Int) + (2:Int) ∧ (2:Int) * (16:Int) + (2:Int) ≤ (2:Int) * (16:Int) + (4:Int) ∧ (2:Int) * (16:Int) + (4:Int) ≤ (↑44:Int)) ∧ 36 ≤ List.length dr ∧ allU8 (take 2 (drop 34 dr)) ∧ List.length (List.map asU8 (take 16 (drop 16 dr)) ++ List.map asU8 (take 16 (drop 0 dr))) + List.length (List.map asU8 (take 2 (drop 34 dr))) < 4611686018427387904 ∧ in64 ((2:Int) * (16:Int)) ∧ in64 ((2:Int) * (16:Int)) ∧ in64 ((2:Int) * (16:Int) + (2:Int)) ∧ ((0:Int) ≤ (2:Int) * (16:Int) ∧ (2:Int) * (16:Int) ≤ (2:Int) * (16:Int) + (2:Int) ∧ (2:Int) * (16:Int) + (2:Int) ≤ (↑44:Int)) ∧ 34 ≤ List.length dr ∧ allU8 (take 2 (drop 32 dr)) ∧ List.length (List.map asU8 (take 16 (drop 16 dr)) ++ List.map asU8 (take 16 (drop 0 dr)) ++ List.map asU8 (take 2 (drop 34 dr))) + List.length (List.map asU8 (take 2 (drop 32 dr))) < 4611686018427387904 ∧ in64 ((2:Int) * (16:Int)) ∧ in64 ((2:Int) * (16:Int) + (8:Int)) ∧ ((0:Int) ≤ (2:Int) * (16:Int) + (8:Int) ∧ (2:Int) * (16:Int) + (8:Int) ≤ (↑44:Int) ∧ (↑44:Int) ≤ (↑44:Int)) ∧ 44 ≤ List.length dr ∧ allU8 (take 4 (drop 40 dr)) ∧ List.length (List.map asU8 (take 16 (drop 16 dr)) ++ List.map asU8 (take 16 (drop 0 dr)) ++ List.map asU8 (take 2 (drop 34 dr)) ++ List.map asU8 (take 2 (drop 32 dr))) + List.length (List.map asU8 (take 4 (drop 40 dr))) < 4611686018427387904 ∧ in64 ((2:Int) * (16:Int)) ∧ in64 ((2:Int) * (16:Int) + (4:Int)) ∧ in64 ((2:Int) * (16:Int)) ∧ in64 ((2:Int) * (16:Int) + (8:Int)) ∧ ((0:Int) ≤ (2:Int) * (16:Int) + (4:Int) ∧ (2:Int) * (16:Int) + (4:Int) ≤ (2:Int) * (16:Int) + (8:Int) ∧ (2:Int) * (16:Int) + (8:Int) ≤ (↑44:Int)) ∧ 40 ≤ List.length dr ∧ allU8 (take 4 (drop 36 dr)) ∧ List.length (List.map asU8 (take 16 (drop 16 dr)) ++ List.map asU8 (take 16 (drop 0 dr)) ++ List.map asU8 (take 2 (drop 34 dr)) ++ List.map asU8 (take 2 (drop 32 dr)) ++ List.map asU8 (take 4 (drop 40 dr))) + List.length (List.map asU8 (take 4 (drop 36 dr))) < 4611686018427387904 ∧ 44 ≤ List.length cr ∧ allU8 (take 44 (drop 0 cr)) ∧ (decide (List.map asU8 (take 44 (drop 0 cr)) = List.map asU8 (take 16 (drop 16 dr)) ++ List.map asU8 (take 16 (drop 0 dr)) ++ List.map asU8 (take 2 (drop 34 dr)) ++ List.map asU8 (take 2 (drop 32 dr)) ++ List.map asU8 (take 4 (drop 40 dr)) ++ List.map asU8 (take 4 (drop 36 dr))) = true → Q (AV.one (AC.b true)) []) ∧ (decide (List.map asU8 (take 44 (drop 0 cr)) = List.map asU8 (take 16 (drop 16 dr)) ++ List.map asU8 (take 16 (drop 0 dr)) ++ List.map asU8 (take 2 (drop 34 dr)) ++ List.map asU8 (take 2 (drop 32 dr)) ++ List.map asU8 (take 4 (drop 40 dr)) ++ List.map asU8 (take 4 (drop 36 dr))) = false → Q (AV.one (AC.b false)) []))) ∧ ((!decide ((16:Int) = (4:Int))) = false → in64 ((2:Int) * (16:Int)) ∧ ((0:Int) ≤ (16:Int) ∧ (16:Int) ≤ (2:Int) * (16:Int) ∧ (2:Int) * (16:Int) ≤ (↑44:Int)) ∧ 32 ≤ List.length dr ∧ allU8 (take 16 (drop 16 dr)) ∧ ((0:Int) ≤ (↑0:Int) ∧ (↑0:Int) ≤ (16:Int) ∧ (16:Int) ≤ (↑44:Int)) ∧ 16 ≤ List.length dr ∧ allU8 (take 16 (drop 0 dr)) ∧ List.length (List.map asU8 (take 16 (drop 16 dr))) + List.length (List.map asU8 (take 16 (drop 0 dr))) < 4611686018427387904 ∧ in64 ((2:Int) * (16:Int)) ∧ in64 ((2:Int) * (16:Int) + (2:Int)) ∧ in64 ((2:Int) * (16:Int)) ∧ in64 ((2:Int) * (16:Int) + (4:Int)) ∧ ((0:Int) ≤ (2:Int) * (16:Int) + (2:Int) ∧ (2:Int) * (16:Int) + (2:Int) ≤ (2:Int) * (16:Int) + (4:Int) ∧ (2:Int) * (16:Int) + (4:Int) ≤ (↑44:Int)) ∧ 36 ≤ List.length dr ∧ allU8 (take 2 (drop 34 dr)) ∧ List.length (List.map asU8 (take 16 (drop 16 dr)) ++ List.map asU8 (take 16 (drop 0 dr))) + List.length (List.map asU8 (take 2 (drop 34 dr))) < 4611686018427387904 ∧ in64 ((2:Int) * (16:Int)) ∧ in64 ((2:Int) * (16:Int)) ∧ in64 ((2:Int) * (16:Int) + (2:Int)) ∧ ((0:Int) ≤ (2:Int) * (16:Int) ∧ (2:Int) * (16:Int) ≤ (2:Int) * (16:Int) + (2:Int) ∧ (2:Int) * (16:Int) + (2:Int) ≤ (↑44:Int)) ∧ 34 ≤ List.length dr ∧ allU8 (take 2 (drop 32 dr)) ∧ List.length (List.map asU8 (take 16 (drop 16 dr)) ++ List.map asU8 (take 16 (drop 0 dr)) ++ List.map asU8 (take 2 (drop 34 dr))) + List.length (List.map asU8 (take 2 (drop 32 dr))) < 4611686018427387904 ∧ in64 ((2:Int) * (16:Int)) ∧ in64 ((2:Int) * (16:Int) + (8:Int)) ∧ ((0:Int) ≤ (2:Int) * (16:Int) + (8:Int) ∧ (2:Int) * (16:Int) + (8:Int) ≤ (↑44:Int) ∧ (↑44:Int) ≤ (↑44:Int)) ∧ 44 ≤ List.length dr ∧ allU8 (take 4 (drop 40 dr)) ∧ List.length (List.map asU8 (take 16 (drop 16 dr)) ++ List.map asU8 (take 16 (drop 0 dr)) ++ List.map asU8 (take 2 (drop 34 dr)) ++ List.map asU8 (take 2 (drop 32 dr))) + List.length (List.map asU8 (take 4 (drop 40 dr))) < 4611686018427387904 ∧ in64 ((2:Int) * (16:Int)) ∧ in64 ((2:Int) * (16:Int) + (4:Int)) ∧ in64 ((2:Int) * (16:Int)) ∧ in64 ((2:Int) * (16:Int) + (8:Int)) ∧ ((0:Int) ≤ (2:Int) * (16:Int) + (4:Int) ∧ (2:Int) * (16:Int) + (4:Int) ≤ (2:Int) * (16:Int) + (8:Int) ∧ (2:Int) * (16:Int) + (8:Int) ≤ (↑44:Int)) ∧ 40 ≤ List.length dr ∧ allU8 (take 4 (drop 36 dr)) ∧ List.length (List.map asU8 (take 16 (drop 16 dr)) ++ List.map asU8 (take 16 (drop 0 dr)) ++ List.map asU8 (take 2 (drop 34 dr)) ++ List.map asU8 (take 2 (drop 32 dr)) ++ List.map asU8 (take 4 (drop 40 dr))) + List.length (List.map asU8 (take 4 (drop 36 dr))) < 4611686018427387904 ∧ 44 ≤ List.length cr ∧ allU8 (take 44 (drop 0 cr)) ∧ (decide (List.map asU8 (take 44 (drop 0 cr)) = List.map asU8 (take 16 (drop 16 dr)) ++ List.map asU8 (take 16 (drop 0 dr)) ++ List.map asU8 (take 2 (drop 34 dr)) ++ List.map asU8 (take 2 (drop 32 dr)) ++ List.map asU8 (take 4 (drop 40 dr)) ++ List.map asU8 (take 4 (drop 36 dr))) = true → Q (AV.one (AC.b true)) []) ∧ (decide (List.map asU8 (take 44 (drop 0 cr)) = List.map asU8 (take 16 (drop 16 dr)) ++ List.map asU8 (take 16 (drop 0 dr)) ++ List.map asU8 (take 2 (drop 34 dr)) ++ List.map asU8 (take 2 (drop 32 dr)) ++ List.map asU8 (take 4 (drop 40 dr)) ++ List.map asU8 (take 4 (drop 36 dr))) = false → Q (AV.one (AC.b false)) [])))) : KRun X 27 0 Q (kCut Try.f27 5) (mkS 124 [(7, .one (.gs 0 44 1)), (9, .one (.gs 1 44 1)), (11, .one (.i64 16))]) [some cr, some dr] :=
  wpRun_ok (hX ▸ envP_ok T26 mf20 M20) (hX ▸ envP_call T26_ok M20_ok) (hX ▸ mixed) (hX ▸ ok27) LK_ok (cast (β := wpRun (envP T26 mf20 M20) [34, 37, 41, 48, 61, 64, 67, 120] [(100005, 0), (200008, 0)] false (RS.mk Try.f27.results.toList 0 (CS.mk [] [] [] [])) (LK X 27 0 Q true [(6, LS.mk [7, 9, 11] (CS.mk [] [true, true] [] []))]) Q 2000 (kCut Try.f27 5) (mkS 124 [(7, .one (.gs 0 44 1)), (9, .one (.gs 1 44 1)), (11, .one (.i64 16))]) [some cr, some dr]) (by kernel_rfl) h)
theorem tdm (l : List (BitVec 8)) (i j:Nat) : take i (drop j (l.map AC.u8)) = ((l.drop j).take i).map AC.u8 := by rw [List.map_take, List.map_drop]
theorem tm0 (l : List (BitVec 8)) (i:Nat) : take i (l.map AC.u8) = (l.take i).map AC.u8 := by rw [List.map_take]
theorem ctE_self (s : Bool) : ctE s s = 0 := if_pos rfl
theorem l27a {X : Ctx} (hX : X.P = Try.prog) {C D : List (BitVec 8)} (hc : C.length = 20) (hd : D.length = 20) (h : (((((D.drop 4).take 4 ++ D.take 4) ++ (D.drop (2 * 4 + 2)).take 2) ++ (D.drop (2 * 4)).take 2) ++ D.drop (2 * 4 + 8)) ++ (D.drop (2 * 4 + 4)).take 4 = C) :
    KRun X 27 0 Fin (kCut Try.f27 5) (mkS 124 [(7, .one (.gs 0 20 1)), (9, .one (.gs 1 20 1)), (11, .one (.i64 4))]) [some (C.map AC.u8), some (D.map AC.u8)] := by
  refine vc27a hX _ _ ?_
  have e : take 4 (drop 16 D) = D.drop (2 * 4 + 8) := List.take_of_length_le (by rw [List.length_drop]; omega)
  have e0 : take 20 C = C := List.take_of_length_le (by omega)
  have e1 : take 4 (drop 0 D) = D.take 4 := by rw [List.drop_zero]
  simp only [tdm, tm0, map_as8, List.drop_zero, e, e0, e1]
  have h2 : (((((take 4 (drop 4 D) ++ take 4 D) ++ take 2 (drop 10 D)) ++ take 2 (drop 8 D)) ++ D.drop (2 * 4 + 8)) ++ take 4 (drop 12 D)) = C := h
  rw [h2]
  simp only [deq, Bool.not_true, Bool.false_eq_true, false_implies, true_implies, Bool.true_eq_false, and_true, true_and]
  clear e e0 e1 h h2
  (repeat' (first | exact allU8_map _ | exact (rfl : Fin _ _) | refine And.intro ?_ ?_ | exact fun h => absurd h (by decide) | intro _)) <;> first | omega | (unfold in64; omega) | (simp only [List.length_append, List.length_take, List.length_drop, List.length_map]; omega)
theorem l27b {X : Ctx} (hX : X.P = Try.prog) {C D : List (BitVec 8)} (hc : C.length = 44) (hd : D.length = 44) (h : (((((D.drop 16).take 16 ++ D.take 16) ++ (D.drop (2 * 16 + 2)).take 2) ++ (D.drop (2 * 16)).take 2) ++ D.drop (2 * 16 + 8)) ++ (D.drop (2 * 16 + 4)).take 4 = C) :
    KRun X 27 0 Fin (kCut Try.f27 5) (mkS 124 [(7, .one (.gs 0 44 1)), (9, .one (.gs 1 44 1)), (11, .one (.i64 16))]) [some (C.map AC.u8), some (D.map AC.u8)] := by
  refine vc27b hX _ _ ?_
  have e : take 4 (drop 40 D) = D.drop (2 * 16 + 8) := List.take_of_length_le (by rw [List.length_drop]; omega)
  have e0 : take 44 C = C := List.take_of_length_le (by omega)
  have e1 : take 16 (drop 0 D) = D.take 16 := by rw [List.drop_zero]
  simp only [tdm, tm0, map_as8, List.drop_zero, e, e0, e1]
  have h2 : (((((take 16 (drop 16 D) ++ take 16 D) ++ take 2 (drop 34 D)) ++ take 2 (drop 32 D)) ++ D.drop (2 * 16 + 8)) ++ take 4 (drop 36 D)) = C := h
  rw [h2]
  simp only [deq, Bool.not_true, Bool.false_eq_true, false_implies, true_implies, Bool.true_eq_false, and_true, true_and]
  clear e e0 e1 h h2
  (repeat' (first | exact allU8_map _ | exact (rfl : Fin _ _) | refine And.intro ?_ ?_ | exact fun h => absurd h (by decide) | intro _)) <;> first | omega | (unfold in64; omega) | (simp only [List.length_append, List.length_take, List.length_drop, List.length_map]; omega)
theorem s27 (s t : Bool) (a b : List (BitVec 8)) (p q:BitVec 16) (x y:BitVec 32) (ha : a.length = 16) (hb : b.length = 16) : Spec Try.prog 27 [.agg (enE s a p ++ enE t b q), .one (.u32 x), .one (.u32 y)] [] Fin := by
  refine Spec.of_run ok27 fun X hX => vc27 hX _ _ _ ?_
  have hl : (enE s a p ++ enE t b q).length = 36 := by rw [List.length_append, enE_len s ha, enE_len t hb]
  have e1 := pr1 s ha p (enE t b q)
  have e2 := pr2 s ha p t hb q
  have i1 := isE_en s ha p
  have i2 := isE_en t hb q
  have z1 := flat_en s a p
  have z2 := flat_en t b q
  have c1 : ctC (enE s a p) (enE t b q) x y = ctX s a p t b q x y := by unfold ctC; rw [sE_en, sE_en, bE_en s ha, bE_en t hb, pE_en s ha, pE_en t hb]
  have c2 : ctC (enE t b q) (enE s a p) y x = ctX t b q s a p y x := by unfold ctC; rw [sE_en, sE_en, bE_en s ha, bE_en t hb, pE_en s ha, pE_en t hb]
  rw [e1, e2, c1, c2]
  simp only [hide_eq, sE_en]
  clear e1 e2 c1 c2
  by_cases hst : s = t
  · subst hst
    simp only [ctE_self, ctX_self]
    have n1 := ctL_len ha hb s s p q x y
    have n2 := ctL_len hb ha s s q p y x
    have f : Flat (List.map AC.u8 (ctL s a p s b q x y)) := flat_u8 _
    have f' : Flat (List.map AC.u8 (ctL s b q s a p y x)) := flat_u8 _
    have T : ∀ n, adN s = n → _ := fun n hn => ctF_turn (n := n) ((adB_len ha s).trans hn) ((adB_len hb s).trans hn) (be2_len (p.setWidth 64)) (be2_len (q.setWidth 64)) (beN_len 4 (x.setWidth 64)) (beN_len 4 (y.setWidth 64))
    rw [← ctL_eq, ← ctL_eq] at T
    generalize ctL s a p s b q x y = C at *
    generalize ctL s b q s a p y x = D at *
    generalize enE s a p = E1 at *
    generalize enE s b q = E2 at *
    cases s with
    | false =>
      have n1 : C.length = 20 := n1
      have n2 : D.length = 20 := n2
      have K := l27a hX (C := C) (D := D) (by omega) (by omega) (T 4 rfl)
      simp only [n1, n2, deq, decide_true, Bool.not_true, Bool.false_eq_true, false_implies, true_implies, true_and, hl]
      clear T
      (repeat' (first | exact i1 | exact i2 | exact z1 | exact z2 | exact f | exact f' | exact exU8 _ | exact ⟨K⟩ | refine And.intro ?_ ?_)) <;> first | omega | decide | (unfold in64; decide)
    | true =>
      have n1 : C.length = 44 := n1
      have n2 : D.length = 44 := n2
      have K := l27b hX (C := C) (D := D) (by omega) (by omega) (T 16 rfl)
      simp only [n1, n2, deq, decide_true, Bool.not_true, Bool.false_eq_true, false_implies, true_implies, true_and, hl]
      clear T
      (repeat' (first | exact i1 | exact i2 | exact z1 | exact z2 | exact f | exact f' | exact exU8 _ | exact ⟨K⟩ | refine And.intro ?_ ?_)) <;> first | omega | decide | (unfold in64; decide)
  · have hts : ¬ t = s := fun h => hst h.symm
    have g1 : ctE s t = 1 := if_neg hst
    have g2 : ctE t s = 1 := if_neg hts
    have g3 : ctX s a p t b q x y = [] := if_neg hst
    have g4 : ctX t b q s a p y x = [] := if_neg hts
    simp only [g1, g2, g3, g4]
    generalize enE s a p = E1 at *
    generalize enE t b q = E2 at *
    refine ⟨by omega, by omega, z1, z2, ⟨i1, i2⟩, exU8 _, by omega, by omega, z2, z1, ⟨i2, i1⟩, exU8 _, fun _ => ⟨fun _ => ⟨by unfold in64; decide, fun _ => rfl, fun h => absurd h (by decide)⟩, fun h => absurd h (by decide)⟩, fun h => absurd h (by decide)⟩
end DH
noncomputable section
namespace DH
open List (take drop replicate)
open Go Go.Proofs
set_option maxRecDepth 100000 in
theorem vc84 {X : Ctx} {Q : AV → Mem → Prop} (hX : X.P = Try.prog) (s : Bool) (es : List AC) (h : (s = true → 18 ≤ List.length (AC.b s :: es) ∧ (List.length (take 18 (drop 0 (AC.b s :: es))) = 18 ∧ 18 ≤ 18) ∧ 18 ≤ List.length (layS ([AC.b false] ++ (replicate 16 (AC.u8 (0:BitVec 8)) ++ [AC.u16 (0:BitVec 16)])) 0 (take 18 (drop 0 (AC.b s :: es)))) ∧ flatAV (AV.agg (take 18 (drop 0 (layS ([AC.b false] ++ (replicate 16 (AC.u8 (0:BitVec 8)) ++ [AC.u16 (0:BitVec 16)])) 0 (take 18 (drop 0 (AC.b s :: es))))))) ∧ Q (AV.agg (take 18 (drop 0 (layS ([AC.b false] ++ (replicate 16 (AC.u8 (0:BitVec 8)) ++ [AC.u16 (0:BitVec 16)])) 0 (take 18 (drop 0 (AC.b s :: es))))))) []) ∧ (s = false → Flat (AC.b s :: es) ∧ Flat ([AC.b false] ++ (replicate 16 (AC.u8 (0:BitVec 8)) ++ [AC.u16 (0:BitVec 16)])) ∧ KR X 84 0 Q (kOf Try.f84 0) (mkS 17 [(1, AV.one (AC.ptr 0 0)), (2, AV.one (AC.ptr 1 0)), (3, AV.one (AC.i64 (4:Int)))]) [some (AC.b s :: es), some ([AC.b false] ++ (replicate 16 (AC.u8 (0:BitVec 8)) ++ [AC.u16 (0:BitVec 16)]))])) : KRun X 84 0 Q ([.code (bodyOf Try.f84)]) (slots [.agg (.b s :: es)] Try.f84.ntmps) [] :=
  wpRun_ok (hX ▸ envP_ok T26 mf20 M20) (hX ▸ envP_call T26_ok M20_ok) (hX ▸ mixed) (hX ▸ ok84) LK_ok (cast (β := wpRun (envP T26 mf20 M20) [6, 9] [] false (RS.mk Try.f84.results.toList 0 (CS.mk [] [] [0] [])) (LK X 84 0 Q true [(3, LS.mk [1, 2, 3] (CS.mk [] [] [] []))]) Q 2000 ([.code (bodyOf Try.f84)]) (slots [.agg (.b s :: es)] Try.f84.ntmps) []) (by kernel_rfl) h)
set_option maxRecDepth 100000 in
theorem vc84a {X : Ctx} {Q : AV → Mem → Prop} (hX : X.P = Try.prog) (row zs : List AC) (i:Int) (h : (decide (i < (16:Int)) = true → ((0:Int) ≤ i ∧ i < (↑16:Int)) ∧ (1 = 1 ∧ 1 + Int.toNat i * 1 + 1 ≤ List.length row) ∧ in64 (i + (1:Int)) ∧ Flat (layS row (1 + Int.toNat i * 1) [cvC (Value.int IntKind.u8 (0:Int))]) ∧ Flat zs ∧ KR X 84 0 Q (kOf Try.f84 0) (mkS 17 [(1, AV.one (AC.ptr 0 0)), (2, AV.one (AC.ptr 1 0)), (3, AV.one (AC.i64 (i + (1:Int))))]) [some (layS row (1 + Int.toNat i * 1) [cvC (Value.int IntKind.u8 (0:Int))]), some zs]) ∧ (decide (i < (16:Int)) = false → 18 ≤ List.length row ∧ (List.length (take 18 (drop 0 row)) = 18 ∧ 18 ≤ List.length zs) ∧ 18 ≤ List.length (layS zs 0 (take 18 (drop 0 row))) ∧ flatAV (AV.agg (take 18 (drop 0 (layS zs 0 (take 18 (drop 0 row)))))) ∧ Q (AV.agg (take 18 (drop 0 (layS zs 0 (take 18 (drop 0 row)))))) [])) : KRun X 84 0 Q (kOf Try.f84 0) (mkS 17 [(1, .one (.ptr 0 0)), (2, .one (.ptr 1 0)), (3, .one (.i64 i))]) [some row, some zs] :=
  wpRun_ok (hX ▸ envP_ok T26 mf20 M20) (hX ▸ envP_call T26_ok M20_ok) (hX ▸ mixed) (hX ▸ ok84) LK_ok (cast (β := wpRun (envP T26 mf20 M20) [6, 9] [] false (RS.mk Try.f84.results.toList 0 (CS.mk [] [] [0] [])) (LK X 84 0 Q true [(3, LS.mk [1, 2, 3] (CS.mk [] [] [] []))]) Q 2000 (kOf Try.f84 0) (mkS 17 [(1, .one (.ptr 0 0)), (2, .one (.ptr 1 0)), (3, .one (.i64 i))]) [some row, some zs]) (by kernel_rfl) h)
def zC (a : List (BitVec 8)) (i:Nat) : List (BitVec 8) := a.take 4 ++ (replicate (i - 4) 0 ++ a.drop i)
theorem zC_len {a : List (BitVec 8)} (ha : a.length = 16) {i : Nat} (h : 4 ≤ i) (h2 : i ≤ 16) : (zC a i).length = 16 := by
  unfold zC
  rw [List.length_append, List.length_append, List.length_take, List.length_replicate, List.length_drop]
  omega
theorem zC_4 {a : List (BitVec 8)} (ha : a.length = 16) : zC a 4 = a := by
  unfold zC
  rw [Nat.sub_self]
  exact List.take_append_drop 4 a
theorem zC_16 {a : List (BitVec 8)} (ha : a.length = 16) : zC a 16 = canB false a := by
  unfold zC
  rw [List.drop_eq_nil_of_le (by omega), List.append_nil]
  rfl
theorem zC_set {a : List (BitVec 8)} (ha : a.length = 16) {i : Nat} (h : 4 ≤ i) (h2 : i < 16) : (zC a i).set i 0 = zC a (i + 1) := by
  unfold zC
  have l4 : (a.take 4).length = 4 := by rw [List.length_take]; omega
  rw [List.set_append, if_neg (by omega), List.set_append, if_neg (by rw [List.length_replicate]; omega), List.length_replicate, l4, Nat.sub_self, List.drop_eq_getElem_cons (by omega)]
  show _ ++ (_ ++ (0 :: a.drop (i + 1))) = _
  rw [show i + 1 - 4 = (i - 4) + 1 by omega, List.replicate_succ', List.append_assoc]
  rfl
theorem en_set (s : Bool) {b : List (BitVec 8)} (hb : b.length = 16) (p:BitVec 16) {i : Nat} (h : i < 16) : layS (enE s b p) (1 + i) [AC.u8 0] = enE s (b.set i 0) p := by
  rw [layS_eq (by rw [enE_len s hb]; show 1 + i + 1 ≤ 18; omega), lay_one _ _ _ (by rw [enE_len s hb]; omega)]
  unfold enE
  rw [show 1 + i = i + 1 by omega, List.set_cons_succ, List.set_append, if_pos (by rw [List.length_map]; omega), List.map_set]
theorem z18_len : ([AC.b false] ++ (replicate 16 (AC.u8 (0:BitVec 8)) ++ [AC.u16 (0:BitVec 16)])).length = 18 := rfl
theorem tk18 (s : Bool) {b : List (BitVec 8)} (hb : b.length = 16) (p:BitVec 16) : take 18 (drop 0 (enE s b p)) = enE s b p := by
  rw [List.drop_zero, List.take_of_length_le (by rw [enE_len s hb]; omega)]
theorem flat_z18 : Flat ([AC.b false] ++ (replicate 16 (AC.u8 (0:BitVec 8)) ++ [AC.u16 (0:BitVec 16)])) := by
  have := flat_en false (replicate 16 0) 0
  unfold enE at this
  rw [List.map_replicate] at this
  exact this
theorem l84 {X : Ctx} (hX : X.P = Try.prog) (a : List (BitVec 8)) (ha : a.length = 16) (p:BitVec 16) : ∀ (d i:Nat), i + d = 16 → 4 ≤ i →
    KRun X 84 0 (Is (.agg (enE false (canB false a) p))) (kOf Try.f84 0) (mkS 17 [(1, .one (.ptr 0 0)), (2, .one (.ptr 1 0)), (3, .one (.i64 i))]) [some (enE false (zC a i) p), some ([AC.b false] ++ (replicate 16 (AC.u8 (0:BitVec 8)) ++ [AC.u16 (0:BitVec 16)]))] := by
  intro d
  induction d with
  | zero =>
    intro i hi h4
    have hi : i = 16 := by omega
    subst hi
    refine vc84a hX _ _ _ ⟨fun h => absurd (of_decide_eq_true h) (by omega), fun _ => ?_⟩
    rw [zC_16 ha]
    have hc := canB_len false ha
    have hl := enE_len false hc p
    have e1 : layS ([AC.b false] ++ (replicate 16 (AC.u8 (0:BitVec 8)) ++ [AC.u16 (0:BitVec 16)])) 0 (enE false (canB false a) p) = enE false (canB false a) p := layS_all (z18_len.trans hl.symm)
    rw [tk18 false hc p, e1, tk18 false hc p, hl]
    exact ⟨by omega, ⟨rfl, Nat.le_of_eq z18_len.symm⟩, Nat.le_refl _, flat_en _ _ _, rfl⟩
  | succ d ih =>
    intro i hi h4
    refine vc84a hX _ _ _ ⟨fun _ => ?_, fun h => absurd (of_decide_eq_false h) (by omega)⟩
    have ih := ih (i + 1) (by omega) (by omega)
    have hz := zC_len ha h4 (by omega)
    have hset : layS (enE false (zC a i) p) (1 + Int.toNat (i:Int) * 1) [cvC (Value.int IntKind.u8 0)] = enE false (zC a (i + 1)) p := by
      have := en_set false hz p (i := i) (by omega)
      rw [zC_set ha h4 (by omega)] at this
      rw [Int.toNat_natCast, Nat.mul_one]
      exact this
    rw [hset, enE_len false hz p]
    refine ⟨⟨by omega, by omega⟩, ⟨rfl, by omega⟩, by unfold in64; omega, flat_en _ _ _, flat_z18, ⟨?_⟩⟩
    have e : ((i + 1:Nat):Int) = (i:Int) + 1 := by omega
    rw [e] at ih
    exact ih
theorem s84 (s : Bool) (a : List (BitVec 8)) (p:BitVec 16) (ha : a.length = 16) : Spec Try.prog 84 [.agg (enE s a p)] [] (Is (.agg (enE s (canB s a) p))) := by
  refine Spec.of_run ok84 fun X hX => ?_
  refine vc84 hX s (a.map AC.u8 ++ [.u16 p]) ⟨fun h => ?_, fun h => ?_⟩
  · subst h
    show 18 ≤ (enE true a p).length ∧ ((take 18 (drop 0 (enE true a p))).length = 18 ∧ 18 ≤ 18) ∧ 18 ≤ (layS _ 0 (take 18 (drop 0 (enE true a p)))).length ∧ flatAV (.agg (take 18 (drop 0 (layS _ 0 (take 18 (drop 0 (enE true a p))))))) ∧ Is _ (.agg (take 18 (drop 0 (layS _ 0 (take 18 (drop 0 (enE true a p))))))) []
    have hl := enE_len true ha p
    have e1 : layS ([AC.b false] ++ (replicate 16 (AC.u8 (0:BitVec 8)) ++ [AC.u16 (0:BitVec 16)])) 0 (enE true a p) = enE true a p := layS_all (z18_len.trans hl.symm)
    rw [tk18 true ha p, e1, tk18 true ha p, hl]
    exact ⟨Nat.le_refl _, ⟨rfl, Nat.le_refl _⟩, Nat.le_refl _, flat_en _ _ _, rfl⟩
  · subst h
    have K := l84 hX a ha p 12 4 rfl (Nat.le_refl _)
    rw [zC_4 ha] at K
    exact ⟨flat_en false a p, flat_z18, ⟨K⟩⟩
end DH
noncomputable section
namespace DH
open List (take drop replicate)
open Go Go.Proofs
def canC (cs : List AC) : List AC := enE (sE cs) (canB (sE cs) (bE cs)) (pE cs)
theorem exact_en (s : Bool) (a : List (BitVec 8)) (p:BitVec 16) : ExactL (enE s a p) := by
  unfold enE
  intro c hc
  rcases List.mem_cons.1 hc with rfl | hc
  · rfl
  · rcases List.mem_append.1 hc with hc | hc
    · exact exU8 _ c hc
    · rw [List.mem_singleton.1 hc]; rfl
noncomputable def T27 : Tab := fun f xs => match f, xs with
  | 84, [.agg cs] => some ([IsE cs], .agg (hide (canC cs)))
  | f, xs => T26 f xs
theorem T27_ok : TabOk Try.prog T27 := by
  intro f xs cs r h hc
  unfold T27 at h
  split at h
  · obtain ⟨rfl, rfl⟩ := Prod.mk.inj (Option.some.inj h)
    have h1 := hc.1
    rename_i cs
    have := s84 (sE cs) (bE cs) (pE cs) h1.len
    rw [← h1.eq] at this
    rw [hide_eq]
    exact ⟨⟨_, _, ok84⟩, this, exact_en _ _ _⟩
  · exact T26_ok _ _ _ _ h hc
set_option maxRecDepth 100000 in
theorem vc28 {X : Ctx} {Q : AV → Mem → Prop} (hX : X.P = Try.prog) (pr ps xs : List AC) (h : 18 ≤ List.length pr ∧ 36 ≤ List.length pr ∧ ((0:Int) ≤ (0:Int) ∧ (0:Int) < (↑4:Int)) ∧ gt AC.any xs 0 = AC.u32 (asU32 (gt AC.any xs 0)) ∧ ((0:Int) ≤ (1:Int) ∧ (1:Int) < (↑4:Int)) ∧ gt AC.any xs 1 = AC.u32 (asU32 (gt AC.any xs 1)) ∧ Flat (take 18 (drop 0 pr)) ∧ Flat (take 18 (drop 18 pr)) ∧ (IsE (take 18 (drop 0 pr)) ∧ IsE (take 18 (drop 18 pr))) ∧ ExactL (hide (List.map AC.u8 (ctC (take 18 (drop 0 pr)) (take 18 (drop 18 pr)) (asU32 (gt AC.any xs 0)) (asU32 (gt AC.any xs 1))))) ∧ 18 ≤ List.length ps ∧ 36 ≤ List.length ps ∧ ((0:Int) ≤ (2:Int) ∧ (2:Int) < (↑4:Int)) ∧ gt AC.any xs 2 = AC.u32 (asU32 (gt AC.any xs 2)) ∧ ((0:Int) ≤ (3:Int) ∧ (3:Int) < (↑4:Int)) ∧ gt AC.any xs 3 = AC.u32 (asU32 (gt AC.any xs 3)) ∧ Flat (take 18 (drop 0 ps)) ∧ Flat (take 18 (drop 18 ps)) ∧ (IsE (take 18 (drop 0 ps)) ∧ IsE (take 18 (drop 18 ps))) ∧ ExactL (hide (List.map AC.u8 (ctC (take 18 (drop 0 ps)) (take 18 (drop 18 ps)) (asU32 (gt AC.any xs 2)) (asU32 (gt AC.any xs 3))))) ∧ ((!decide (ctE (sE (take 18 (drop 0 pr))) (sE (take 18 (drop 18 pr))) = (0:Int))) = true → Q (AV.one (AC.b true)) []) ∧ ((!decide (ctE (sE (take 18 (drop 0 pr))) (sE (take 18 (drop 18 pr))) = (0:Int))) = false → ((!decide (ctE (sE (take 18 (drop 0 ps))) (sE (take 18 (drop 18 ps))) = (0:Int))) = true → Q (AV.one (AC.b true)) []) ∧ ((!decide (ctE (sE (take 18 (drop 0 ps))) (sE (take 18 (drop 18 ps))) = (0:Int))) = false → Flat pr ∧ Flat ps ∧ Flat xs ∧ Flat (hide (List.map AC.u8 (ctC (take 18 (drop 0 pr)) (take 18 (drop 18 pr)) (asU32 (gt AC.any xs 0)) (asU32 (gt AC.any xs 1))))) ∧ Flat (hide (List.map AC.u8 (ctC (take 18 (drop 0 ps)) (take 18 (drop 18 ps)) (asU32 (gt AC.any xs 2)) (asU32 (gt AC.any xs 3))))) ∧ KR X 28 0 Q (kCut Try.f28 5) (mkS 88 [(3, AV.one (AC.ptr 0 0)), (4, AV.one (AC.ptr 1 0)), (5, AV.one (AC.ptr 2 0)), (7, AV.one (AC.gs 3 (List.length (ctC (take 18 (drop 0 pr)) (take 18 (drop 18 pr)) (asU32 (gt AC.any xs 0)) (asU32 (gt AC.any xs 1)))) 1)), (9, AV.one (AC.gs 4 (List.length (ctC (take 18 (drop 0 ps)) (take 18 (drop 18 ps)) (asU32 (gt AC.any xs 2)) (asU32 (gt AC.any xs 3)))) 1)), (11, AV.one (AC.fn 84 []))]) [some pr, some ps, some xs, some (hide (List.map AC.u8 (ctC (take 18 (drop 0 pr)) (take 18 (drop 18 pr)) (asU32 (gt AC.any xs 0)) (asU32 (gt AC.any xs 1))))), some (hide (List.map AC.u8 (ctC (take 18 (drop 0 ps)) (take 18 (drop 18 ps)) (asU32 (gt AC.any xs 2)) (asU32 (gt AC.any xs 3)))))]))) : KRun X 28 0 Q ([.code (bodyOf Try.f28)]) (slots [.agg pr, .agg ps, .agg xs] Try.f28.ntmps) [] :=
  wpRun_ok (hX ▸ envP_ok T27 mf20 M20) (hX ▸ envP_call T27_ok M20_ok) (hX ▸ mixed) (hX ▸ ok28) LK_ok (cast (β := wpRun (envP T27 mf20 M20) [38, 41, 52, 62, 69, 84] [(6, 3), (100005, 0), (200006, 0)] false (RS.mk Try.f28.results.toList 0 (CS.mk [] [] [] [])) (LK X 28 0 Q true [(6, LS.mk [3, 4, 5, 7, 9, 11] (CS.mk [] [true, true, true, true, true] [] []))]) Q 2000 ([.code (bodyOf Try.f28)]) (slots [.agg pr, .agg ps, .agg xs] Try.f28.ntmps) []) (by kernel_rfl) h)
set_option maxRecDepth 100000 in
theorem vc28b {X : Ctx} {Q : AV → Mem → Prop} (hX : X.P = Try.prog) (pr ps xs cr dr : List AC) (n m:Nat) (h : 18 ≤ List.length pr ∧ Flat (take 18 (drop 0 pr)) ∧ IsE (take 18 (drop 0 pr)) ∧ 18 ≤ List.length ps ∧ Flat (take 18 (drop 0 ps)) ∧ IsE (take 18 (drop 0 ps)) ∧ (fitCs ([AC.b false] ++ (replicate 16 (AC.u8 (0:BitVec 8)) ++ [AC.u16 (0:BitVec 16)])) (hide (canC (take 18 (drop 0 pr)))) ∧ fitCs ([AC.b false] ++ (replicate 16 (AC.u8 (0:BitVec 8)) ++ [AC.u16 (0:BitVec 16)])) (hide (canC (take 18 (drop 0 ps))))) ∧ (sameCells (hide (canC (take 18 (drop 0 pr)))) (hide (canC (take 18 (drop 0 ps)))) = true → 36 ≤ List.length pr ∧ Flat (take 18 (drop 18 pr)) ∧ IsE (take 18 (drop 18 pr)) ∧ 36 ≤ List.length ps ∧ Flat (take 18 (drop 18 ps)) ∧ IsE (take 18 (drop 18 ps)) ∧ (fitCs ([AC.b false] ++ (replicate 16 (AC.u8 (0:BitVec 8)) ++ [AC.u16 (0:BitVec 16)])) (hide (canC (take 18 (drop 18 pr)))) ∧ fitCs ([AC.b false] ++ (replicate 16 (AC.u8 (0:BitVec 8)) ++ [AC.u16 (0:BitVec 16)])) (hide (canC (take 18 (drop 18 ps))))) ∧ (sameCells (hide (canC (take 18 (drop 18 pr)))) (hide (canC (take 18 (drop 18 ps)))) = true → ((0:Int) ≤ (0:Int) ∧ (0:Int) < (↑4:Int)) ∧ gt AC.any xs 0 = AC.u32 (asU32 (gt AC.any xs 0)) ∧ ((0:Int) ≤ (2:Int) ∧ (2:Int) < (↑4:Int)) ∧ gt AC.any xs 2 = AC.u32 (asU32 (gt AC.any xs 2)) ∧ (decide (asU32 (gt AC.any xs 0) = asU32 (gt AC.any xs 2)) = true → ((0:Int) ≤ (1:Int) ∧ (1:Int) < (↑4:Int)) ∧ gt AC.any xs 1 = AC.u32 (asU32 (gt AC.any xs 1)) ∧ ((0:Int) ≤ (3:Int) ∧ (3:Int) < (↑4:Int)) ∧ gt AC.any xs 3 = AC.u32 (asU32 (gt AC.any xs 3)) ∧ 0 + n * 1 ≤ List.length cr ∧ allU8 (take (n * 1) (drop 0 cr)) ∧ 0 + m * 1 ≤ List.length dr ∧ allU8 (take (m * 1) (drop 0 dr)) ∧ ((decide (List.map asU8 (take (n * 1) (drop 0 cr)) = List.map asU8 (take (m * 1) (drop 0 dr))) == decide (asU32 (gt AC.any xs 1) = asU32 (gt AC.any xs 3))) = true → Q (AV.one (AC.b true)) []) ∧ ((decide (List.map asU8 (take (n * 1) (drop 0 cr)) = List.map asU8 (take (m * 1) (drop 0 dr))) == decide (asU32 (gt AC.any xs 1) = asU32 (gt AC.any xs 3))) = false → Q (AV.one (AC.b false)) [])) ∧ (decide (asU32 (gt AC.any xs 0) = asU32 (gt AC.any xs 2)) = false → 0 + n * 1 ≤ List.length cr ∧ allU8 (take (n * 1) (drop 0 cr)) ∧ 0 + m * 1 ≤ List.length dr ∧ allU8 (take (m * 1) (drop 0 dr)) ∧ ((decide (List.map asU8 (take (n * 1) (drop 0 cr)) = List.map asU8 (take (m * 1) (drop 0 dr))) == false) = true → Q (AV.one (AC.b true)) []) ∧ ((decide (List.map asU8 (take (n * 1) (drop 0 cr)) = List.map asU8 (take (m * 1) (drop 0 dr))) == false) = false → Q (AV.one (AC.b false)) []))) ∧ (sameCells (hide (canC (take 18 (drop 18 pr)))) (hide (canC (take 18 (drop 18 ps)))) = false → 0 + n * 1 ≤ List.length cr ∧ allU8 (take (n * 1) (drop 0 cr)) ∧ 0 + m * 1 ≤ List.length dr ∧ allU8 (take (m * 1) (drop 0 dr)) ∧ ((decide (List.map asU8 (take (n * 1) (drop 0 cr)) = List.map asU8 (take (m * 1) (drop 0 dr))) == false) = true → Q (AV.one (AC.b true)) []) ∧ ((decide (List.map asU8 (take (n * 1) (drop 0 cr)) = List.map asU8 (take (m * 1) (drop 0 dr))) == false) = false → Q (AV.one (AC.b false)) []))) ∧ (sameCells (hide (canC (take 18 (drop 0 pr)))) (hide (canC (take 18 (drop 0 ps)))) = false → 0 + n * 1 ≤ List.length cr ∧ allU8 (take (n * 1) (drop 0 cr)) ∧ 0 + m * 1 ≤ List.length dr ∧ allU8 (take (m * 1) (drop 0 dr)) ∧ ((decide (List.map asU8 (take (n * 1) (drop 0 cr)) = List.map asU8 (take (m * 1) (drop 0 dr))) == false) = true → Q (AV.one (AC.b true)) []) ∧ ((decide (List.map asU8 (take (n * 1) (drop 0 cr)) = List.map asU8 (take (m * 1) (drop 0 dr))) == false) = false → Q (AV.one (AC.b false)) []))) : KRun X 28 0 Q (kCut Try.f28 5) (mkS 88 [(3, .one (.ptr 0 0)), (4, .one (.ptr 1 0)), (5, .one (.ptr 2 0)), (7, .one (.gs 3 n 1)), (9, .one (.gs 4 m 1)), (11, .one (.fn 84 []))]) [some pr, some ps, some xs, some cr, some dr] :=
  wpRun_ok (hX ▸ envP_ok T27 mf20 M20) (hX ▸ envP_call T27_ok M20_ok) (hX ▸ mixed) (hX ▸ ok28) LK_ok (cast (β := wpRun (envP T27 mf20 M20) [38, 41, 52, 62, 69, 84] [(6, 3), (100005, 0), (200006, 0)] false (RS.mk Try.f28.results.toList 0 (CS.mk [] [] [] [])) (LK X 28 0 Q true [(6, LS.mk [3, 4, 5, 7, 9, 11] (CS.mk [] [true, true, true, true, true] [] []))]) Q 2000 (kCut Try.f28 5) (mkS 88 [(3, .one (.ptr 0 0)), (4, .one (.ptr 1 0)), (5, .one (.ptr 2 0)), (7, .one (.gs 3 n 1)), (9, .one (.gs 4 m 1)), (11, .one (.fn 84 []))]) [some pr, some ps, some xs, some cr, some dr]) (by kernel_rfl) h)
theorem fitCs_app : ∀ {a b c d : List AC}, fitCs a b → fitCs c d → fitCs (a ++ c) (b ++ d)
  | [], [], _, _, _, h => h
  | _ :: _, _ :: _, _, _, h1, h2 => ⟨h1.1, fitCs_app h1.2 h2⟩
theorem fit_en (s : Bool) {b : List (BitVec 8)} (hb : b.length = 16) (p:BitVec 16) : fitCs ([AC.b false] ++ (replicate 16 (AC.u8 (0:BitVec 8)) ++ [AC.u16 (0:BitVec 16)])) (enE s b p) := by
  have h := fit_u8 b
  rw [hb] at h
  exact fitCs_app (a := [AC.b false]) (b := [AC.b s]) ⟨trivial, trivial⟩ (fitCs_app h ⟨trivial, trivial⟩)
theorem en_inj {s s' : Bool} {a a' : List (BitVec 8)} {p p' : BitVec 16} (ha : a.length = 16) (ha' : a'.length = 16) : enE s a p = enE s' a' p' ↔ (s = s' ∧ a = a' ∧ p = p') := by
  constructor
  · intro h
    refine ⟨?_, ?_, ?_⟩
    · have := congrArg sE h
      rwa [sE_en, sE_en] at this
    · have := congrArg bE h
      rwa [bE_en s ha, bE_en s' ha'] at this
    · have := congrArg pE h
      rwa [pE_en s ha, pE_en s' ha'] at this
  · rintro ⟨rfl, rfl, rfl⟩; rfl
theorem same_iff {a b : List AC} : sameCells a b = true ↔ a = b := by unfold sameCells; simp
theorem same_not {a b : List AC} (h : sameCells a b = false) : ¬ a = b := fun e => by rw [same_iff.2 e] at h; cases h
theorem canC_en (s : Bool) {a : List (BitVec 8)} (ha : a.length = 16) (p:BitVec 16) : canC (enE s a p) = enE s (canB s a) p := by
  unfold canC; rw [sE_en, bE_en s ha, pE_en s ha]
theorem ctC_en (s t : Bool) {a b : List (BitVec 8)} (ha : a.length = 16) (hb : b.length = 16) (p q:BitVec 16) (x y:BitVec 32) : ctC (enE s a p) (enE t b q) x y = ctX s a p t b q x y := by
  unfold ctC; rw [sE_en, sE_en, bE_en s ha, bE_en t hb, pE_en s ha, pE_en t hb]
theorem ctE_ne {s t : Bool} (h : ¬ s = t) : ctE s t = 1 := if_neg h
theorem deq_iff {p q : Prop} [Decidable p] [Decidable q] (h : p ↔ q) : (decide p == decide q) = true := by
  rw [decide_eq_decide.2 h]; exact beq_self_eq_true _
theorem deq_no {p : Prop} [Decidable p] (h : ¬ p) : (decide p == false) = true := by
  rw [decide_eq_false h]; rfl
theorem fin_t {b : Bool} (h : b = true) : (b = true → Fin (.one (.b true)) []) ∧ (b = false → Fin (.one (.b false)) []) := by
  subst h; exact ⟨fun _ => rfl, fun h => by cases h⟩
theorem l28 {X : Ctx} (hX : X.P = Try.prog) (s s' : Bool) (a b a' b' : List (BitVec 8)) (p q p' q':BitVec 16) (x0 x1 x2 x3:BitVec 32) (ha : a.length = 16) (hb : b.length = 16) (ha' : a'.length = 16) (hb' : b'.length = 16) (C D : List (BitVec 8))
    (hCD : C = D ↔ ((s = s' ∧ canB s a = canB s' a' ∧ p = p') ∧ (canB s b = canB s' b' ∧ q = q') ∧ x0 = x2 ∧ x1 = x3)) :
    KRun X 28 0 Fin (kCut Try.f28 5) (mkS 88 [(3, .one (.ptr 0 0)), (4, .one (.ptr 1 0)), (5, .one (.ptr 2 0)), (7, .one (.gs 3 C.length 1)), (9, .one (.gs 4 D.length 1)), (11, .one (.fn 84 []))])
      [some (enE s a p ++ enE s b q), some (enE s' a' p' ++ enE s' b' q'), some [.u32 x0, .u32 x1, .u32 x2, .u32 x3], some (C.map AC.u8), some (D.map AC.u8)] := by
  refine vc28b hX _ _ _ _ _ _ _ ?_
  have hl : (enE s a p ++ enE s b q).length = 36 := by rw [List.length_append, enE_len s ha, enE_len s hb]
  have hl' : (enE s' a' p' ++ enE s' b' q').length = 36 := by rw [List.length_append, enE_len s' ha', enE_len s' hb']
  rw [pr1 s ha, pr2 s ha p s hb q, pr1 s' ha', pr2 s' ha' p' s' hb' q', tk C, tk D, hl, hl']
  have c1 := canC_en s ha p
  have c2 := canC_en s hb q
  have c3 := canC_en s' ha' p'
  have c4 := canC_en s' hb' q'
  simp only [hide_eq, map_as8, c1, c2, c3, c4, List.length_map]
  have g0 : gt .any [AC.u32 x0, .u32 x1, .u32 x2, .u32 x3] 0 = .u32 x0 := rfl
  have g1 : gt .any [AC.u32 x0, .u32 x1, .u32 x2, .u32 x3] 1 = .u32 x1 := rfl
  have g2 : gt .any [AC.u32 x0, .u32 x1, .u32 x2, .u32 x3] 2 = .u32 x2 := rfl
  have g3 : gt .any [AC.u32 x0, .u32 x1, .u32 x2, .u32 x3] 3 = .u32 x3 := rfl
  have u (z:BitVec 32) : asU32 (.u32 z) = z := rfl
  simp only [g0, g1, g2, g3, u]
  have f1 := fit_en s (canB_len s ha) p
  have f2 := fit_en s (canB_len s hb) q
  have f3 := fit_en s' (canB_len s' ha') p'
  have f4 := fit_en s' (canB_len s' hb') q'
  have i1 := isE_en s ha p
  have i2 := isE_en s hb q
  have i3 := isE_en s' ha' p'
  have i4 := isE_en s' hb' q'
  have z1 := flat_en s a p
  have z2 := flat_en s b q
  have z3 := flat_en s' a' p'
  have z4 := flat_en s' b' q'
  have e1 := en_inj (s := s) (s' := s') (p := p) (p' := p') (canB_len s ha) (canB_len s' ha')
  have e2 := en_inj (s := s) (s' := s') (p := q) (p' := q') (canB_len s hb) (canB_len s' hb')
  refine ⟨by omega, z1, i1, by omega, z3, i3, ⟨f1, f3⟩, fun h1 => ⟨by omega, z2, i2, by omega, z4, i4, ⟨f2, f4⟩, fun h2 => ⟨⟨by omega, by omega⟩, trivial, ⟨by omega, by omega⟩, trivial, fun h3 => ⟨⟨by omega, by omega⟩, trivial, ⟨by omega, by omega⟩, trivial, by omega, allU8_map _, by omega, allU8_map _, ?_⟩, fun h3 => ⟨by omega, allU8_map _, by omega, allU8_map _, ?_⟩⟩, fun h2 => ⟨by omega, allU8_map _, by omega, allU8_map _, ?_⟩⟩, fun h1 => ⟨by omega, allU8_map _, by omega, allU8_map _, ?_⟩⟩
  · refine fin_t (deq_iff (hCD.trans ⟨fun h => h.2.2.2, fun h => ⟨e1.1 (same_iff.1 h1), (e2.1 (same_iff.1 h2)).2, of_decide_eq_true h3, h⟩⟩))
  · exact fin_t (deq_no fun h => of_decide_eq_false h3 (hCD.1 h).2.2.1)
  · exact fin_t (deq_no fun h => same_not h2 (e2.2 ⟨(hCD.1 h).1.1, (hCD.1 h).2.1⟩))
  · exact fin_t (deq_no fun h => same_not h1 (e1.2 (hCD.1 h).1))
theorem s28 (s t s' t' : Bool) (a b a' b' : List (BitVec 8)) (p q p' q':BitVec 16) (x0 x1 x2 x3:BitVec 32) (ha : a.length = 16) (hb : b.length = 16) (ha' : a'.length = 16) (hb' : b'.length = 16) :
    Spec Try.prog 28 [.agg (enE s a p ++ enE t b q), .agg (enE s' a' p' ++ enE t' b' q'), .agg [.u32 x0, .u32 x1, .u32 x2, .u32 x3]] [] Fin := by
  refine Spec.of_run ok28 fun X hX => vc28 hX _ _ _ ?_
  have hl : (enE s a p ++ enE t b q).length = 36 := by rw [List.length_append, enE_len s ha, enE_len t hb]
  have hl' : (enE s' a' p' ++ enE t' b' q').length = 36 := by rw [List.length_append, enE_len s' ha', enE_len t' hb']
  rw [pr1 s ha, pr2 s ha p t hb q, pr1 s' ha', pr2 s' ha' p' t' hb' q', hl, hl']
  have c1 := fun x y => ctC_en s t ha hb p q x y
  have c2 := fun x y => ctC_en s' t' ha' hb' p' q' x y
  have g0 : gt .any [AC.u32 x0, .u32 x1, .u32 x2, .u32 x3] 0 = .u32 x0 := rfl
  have g1 : gt .any [AC.u32 x0, .u32 x1, .u32 x2, .u32 x3] 1 = .u32 x1 := rfl
  have g2 : gt .any [AC.u32 x0, .u32 x1, .u32 x2, .u32 x3] 2 = .u32 x2 := rfl
  have g3 : gt .any [AC.u32 x0, .u32 x1, .u32 x2, .u32 x3] 3 = .u32 x3 := rfl
  have u (z:BitVec 32) : asU32 (.u32 z) = z := rfl
  simp only [hide_eq, c1, c2, sE_en, g0, g1, g2, g3, u]
  have i1 := isE_en s ha p
  have i2 := isE_en t hb q
  have i3 := isE_en s' ha' p'
  have i4 := isE_en t' hb' q'
  have z1 := flat_en s a p
  have z2 := flat_en t b q
  have z3 := flat_en s' a' p'
  have z4 := flat_en t' b' q'
  have fx : Flat [AC.u32 x0, .u32 x1, .u32 x2, .u32 x3] := fun c hc => by
    simp only [List.mem_cons, List.not_mem_nil, or_false] at hc
    rcases hc with rfl | rfl | rfl | rfl <;> rfl
  have fp : ∀ {l m : List AC}, Flat l → Flat m → Flat (l ++ m) := fun h1 h2 c hc => (List.mem_append.1 hc).elim (h1 c) (h2 c)
  refine ⟨by omega, by omega, ⟨by omega, by omega⟩, trivial, ⟨by omega, by omega⟩, trivial, z1, z2, ⟨i1, i2⟩, exU8 _, by omega, by omega, ⟨by omega, by omega⟩, trivial, ⟨by omega, by omega⟩, trivial, z3, z4, ⟨i3, i4⟩, exU8 _, fun _ => rfl, fun h1 => ⟨fun _ => rfl, fun h2 => ⟨fp z1 z2, fp z3 z4, fx, flat_u8 _, flat_u8 _, ⟨?_⟩⟩⟩⟩
  have h1 := is_dec h1
  have h2 := is_dec h2
  have e1 : s = t := Decidable.byContradiction fun h => by rw [ctE_ne h] at h1; cases h1
  have e2 : s' = t' := Decidable.byContradiction fun h => by rw [ctE_ne h] at h2; cases h2
  subst e1
  subst e2
  rw [ctX_self, ctX_self]
  exact l28 hX s s' a b a' b' p q p' q' x0 x1 x2 x3 ha hb ha' hb' _ _ (ctL_iff ha hb ha' hb' s s' p q p' q' x0 x1 x2 x3)
end DH
noncomputable section
namespace DH
open List (take drop replicate)
open Go Go.Proofs
def shEnd : Sh := .st (.cons (.st (.cons .bool (.cons (.ar 16 .u8) .nil))) (.cons .u16 .nil))
def shPair : Sh := .st (.cons shEnd (.cons shEnd .nil))
theorem encEnd' (s : Bool) (a : List (BitVec 8)) (p:BitVec 16) : [AC.b s] ++ (List.flatMap (Sh.enc .u8) a ++ []) ++ ([AC.u16 p] ++ []) = enE s a p := by
  rw [fm_u8, List.append_nil, List.append_nil]
  rfl
theorem encEnd (y : shEnd.T) : shEnd.enc y = enE y.1.1 y.1.2.1 y.2.1 := encEnd' y.1.1 y.1.2.1 y.2.1
theorem wfEnd {y : shEnd.T} (h : shEnd.wf y) : List.length (α := BitVec 8) y.1.2.1 = 16 := by
  obtain ⟨⟨s, a, _⟩, p, _⟩ := y
  exact h.1.2.1.1
theorem encPair (y : shPair.T) : shPair.enc y = enE y.1.1.1 y.1.1.2.1 y.1.2.1 ++ enE y.2.1.1.1 y.2.1.1.2.1 y.2.1.2.1 := by
  obtain ⟨e, f, _⟩ := y
  show shEnd.enc e ++ (shEnd.enc f ++ []) = _
  rw [encEnd, encEnd, List.append_nil]
theorem wfPair {y : shPair.T} (h : shPair.wf y) : List.length (α := BitVec 8) y.1.1.2.1 = 16 ∧ List.length (α := BitVec 8) y.2.1.1.2.1 = 16 := by
  obtain ⟨e, f, _⟩ := y
  exact ⟨wfEnd h.1, wfEnd h.2.1⟩
theorem s23w (a:Int) (m c : List (BitVec 8)) : Spec Try.prog 23 [.one (.i64 a), .one (.xs (List.flatMap (Sh.enc .u8) m) 0 m.length), .one (.xs (List.flatMap (Sh.enc .u8) c) 0 c.length)] [] (Is (.one (.b true))) := by
  rw [fm_u8, fm_u8]; exact s23 a m c
theorem s24w (a:Int) (m c : List (BitVec 8)) : Spec Try.prog 24 [.one (.i64 a), .one (.xs (List.flatMap (Sh.enc .u8) m) 0 m.length), .one (.xs (List.flatMap (Sh.enc .u8) c) 0 c.length)] [] (Is (.one (.b true))) := by
  rw [fm_u8, fm_u8]; exact s24 a m c
theorem s25w (a:Int) (m c : List (BitVec 8)) : Spec Try.prog 25 [.one (.i64 a), .one (.xs (List.flatMap (Sh.enc .u8) m) 0 m.length), .one (.xs (List.flatMap (Sh.enc .u8) c) 0 c.length)] [] (Is (.one (.b true))) := by
  rw [fm_u8, fm_u8]; exact s25 a m c
theorem s26w (pr : shPair.T) (h : shPair.wf pr) (x y:BitVec 32) : Spec Try.prog 26 [.agg (shPair.enc pr), .one (.u32 x), .one (.u32 y)] [] (Is (.one (.b true))) := by
  rw [encPair]; exact s26 _ _ _ _ _ _ x y (wfPair h).1 (wfPair h).2
theorem s27w (pr : shPair.T) (h : shPair.wf pr) (x y:BitVec 32) : Spec Try.prog 27 [.agg (shPair.enc pr), .one (.u32 x), .one (.u32 y)] [] (Is (.one (.b true))) := by
  rw [encPair]; exact s27 _ _ _ _ _ _ x y (wfPair h).1 (wfPair h).2
theorem four {l : List (BitVec 32)} (h : l.length = 4) : ∃ a b c d, l = [a, b, c, d] := by
  match l, h with
  | [a, b, c, d], _ => exact ⟨a, b, c, d, rfl⟩
theorem s28w (pr ps : shPair.T) (h : shPair.wf pr) (h' : shPair.wf ps) (xs : List (BitVec 32)) (hx : (Sh.ar 4 .u32).wf xs) : Spec Try.prog 28 [.agg (shPair.enc pr), .agg (shPair.enc ps), .agg (List.flatMap (Sh.enc .u32) xs)] [] (Is (.one (.b true))) := by
  obtain ⟨a, b, c, d, rfl⟩ := four hx.1
  rw [encPair, encPair]
  exact s28 _ _ _ _ _ _ _ _ _ _ _ _ a b c d (wfPair h).1 (wfPair h).2 (wfPair h').1 (wfPair h').2
end DH
