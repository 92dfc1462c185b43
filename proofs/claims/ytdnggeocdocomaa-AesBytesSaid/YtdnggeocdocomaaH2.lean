/- Walks of functions, each by evaluation: what each returns. -/
import Derived.Test.YtdnggeocdocomaaH1
set_option linter.unusedVariables false
set_option linter.unusedSimpArgs false
noncomputable section
namespace DH
open Go Go.Proofs
theorem and_zero (x y : BitVec 32) (h : ∀ i, i < 32 → ¬ (x.getLsbD i = true ∧ y.getLsbD i = true)) : x &&& y = 0#32 := by
  apply BitVec.eq_of_getLsbD_eq
  intro i hi
  rw [BitVec.getLsbD_and, BitVec.getLsbD_zero]
  have := h i hi
  cases hx : x.getLsbD i <;> cases hy : y.getLsbD i <;> simp_all
theorem bit_lt {x : BitVec 8} {i : Nat} (h : x.getLsbD i = true) : i < 8 := by
  rcases Nat.lt_or_ge i 8 with hl | hg
  · exact hl
  · rw [BitVec.getLsbD_of_ge x i hg] at h; cases h
theorem sh_bit {x : BitVec 8} {k i : Nat} (h : (x.setWidth 32 <<< k).getLsbD i = true) : k ≤ i ∧ i < k + 8 := by
  rw [BitVec.getLsbD_shiftLeft, BitVec.getLsbD_setWidth] at h
  simp only [Bool.and_eq_true, Bool.not_eq_true', decide_eq_false_iff_not] at h
  have := bit_lt h.2.2
  omega
theorem sum4 (a b c d : BitVec 8) : a.setWidth 32 <<< 24 + b.setWidth 32 <<< 16 + c.setWidth 32 <<< 8 + d.setWidth 32 = a.setWidth 32 <<< 24 ||| b.setWidth 32 <<< 16 ||| c.setWidth 32 <<< 8 ||| d.setWidth 32 := by
  have hd : d.setWidth 32 = d.setWidth 32 <<< 0 := by simp
  rw [hd]
  rw [BitVec.add_eq_or_of_and_eq_zero _ _ (and_zero (a.setWidth 32 <<< 24) (b.setWidth 32 <<< 16) (fun i hi ⟨h1, h2⟩ => by have := sh_bit h1; have := sh_bit h2; omega))]
  rw [BitVec.add_eq_or_of_and_eq_zero _ _ (and_zero (a.setWidth 32 <<< 24 ||| b.setWidth 32 <<< 16) (c.setWidth 32 <<< 8) (fun i hi ⟨h1, h2⟩ => by
    have := sh_bit h2
    rw [BitVec.getLsbD_or, Bool.or_eq_true] at h1
    rcases h1 with h1 | h1 <;> have := sh_bit h1 <;> omega))]
  rw [BitVec.add_eq_or_of_and_eq_zero _ _ (and_zero (a.setWidth 32 <<< 24 ||| b.setWidth 32 <<< 16 ||| c.setWidth 32 <<< 8) (d.setWidth 32 <<< 0) (fun i hi ⟨h1, h2⟩ => by
    have := sh_bit h2
    rw [BitVec.getLsbD_or, BitVec.getLsbD_or, Bool.or_eq_true, Bool.or_eq_true] at h1
    rcases h1 with (h1 | h1) | h1 <;> have := sh_bit h1 <;> omega))]
theorem ch_eq (b c d : BitVec 32) : (b &&& c ||| ~~~b &&& d) = (b &&& (c ^^^ d) ^^^ d) := by
  apply BitVec.eq_of_getLsbD_eq
  intro i hi
  simp only [BitVec.getLsbD_and, BitVec.getLsbD_or, BitVec.getLsbD_xor, BitVec.getLsbD_not, hi, decide_true, Bool.true_and]
  cases b.getLsbD i <;> cases c.getLsbD i <;> cases d.getLsbD i <;> rfl
theorem maj_eq (b c d : BitVec 32) : (b &&& c ||| b &&& d ||| c &&& d) = (b &&& c ||| d &&& (b ||| c)) := by
  apply BitVec.eq_of_getLsbD_eq
  intro i hi
  simp only [BitVec.getLsbD_and, BitVec.getLsbD_or]
  cases b.getLsbD i <;> cases c.getLsbD i <;> cases d.getLsbD i <;> rfl
theorem add4 (r f e w k : BitVec 32) : r + f + e + w + k = r + (f + k) + e + w := by ac_rfl
def symR (t : TypeId) : Bool := match t with | 49 => true | t => symS t
noncomputable def baseR (T : Tab) (mf : FuncId → Option MF) (M : TabM) : Env := ⟨tys, symR, false, T, [], mf, M⟩
theorem baseR_ok (T : Tab) (mf : FuncId → Option MF) (M : TabM) : EnvOk Try.prog (baseR T mf M) := EnvOk.of tysOk
theorem baseR_call {T : Tab} {mf : FuncId → Option MF} {M : TabM} (hT : TabOk Try.prog T) (hM : TabMOk Try.prog M) : CallOk Try.prog (baseR T mf M) :=
  ⟨hT, fun f mf xs m0 cs r m1 _ h hc => hM f xs m0 cs r m1 h hc⟩
set_option maxRecDepth 100000 in
theorem vc93 {X : Ctx} {Q : AV → Mem → Prop} (hX : X.P = Try.prog) (h0 h1 h2 h3 h4 : BitVec 32) (row : List AC) (n : Nat) (h : Flat (List.replicate 80 (AC.u32 (0 : BitVec 32))) ∧ KR X 93 0 Q (kOf Try.f93 0) (mkS 164 [(1, AV.one (AC.xs row 0 n)), (2, AV.one (AC.ptr 0 0)), (4, AV.one (AC.ptr 1 0)), (5, AV.one (AC.ptr 2 0)), (6, AV.one (AC.i64 (0 : Int)))]) [some [AC.u32 h0, AC.u32 h1, AC.u32 h2, AC.u32 h3, AC.u32 h4], some [AC.u32 (0 : BitVec 32), AC.u32 (0 : BitVec 32), AC.u32 (0 : BitVec 32), AC.u32 (0 : BitVec 32), AC.u32 (0 : BitVec 32)], some (List.replicate 80 (AC.u32 (0 : BitVec 32)))]) : KRun X 93 0 Q ([.code (bodyOf Try.f93)]) (slots [.agg [.u32 h0, .u32 h1, .u32 h2, .u32 h3, .u32 h4], .one (.xs row 0 n)] Try.f93.ntmps) [] :=
  wpRun_ok (hX ▸ baseR_ok T1 mf0 M0) (hX ▸ baseR_call T1_ok M0_ok) (hX ▸ mixed) (hX ▸ ok93) LK_ok (cast (β := wpRun (baseR T1 mf0 M0) [14, 18, 78, 92, 106, 125, 152] [(6, 35), (7, 22), (21, 11), (25, 8)] false (RS.mk Try.f93.results.toList 0 (CS.mk [] [] [0] [])) (LK X 93 0 Q true [(3, LS.mk [1, 2, 4, 5, 6] (CS.mk [] [false, false] [] [])), (10, LS.mk [2, 4, 5, 7, 8] (CS.mk [] [false, false, true, false] [] [])), (23, LS.mk [2, 4, 7, 12] (CS.mk [] [true, false, true] [] []))]) Q 2000 ([.code (bodyOf Try.f93)]) (slots [.agg [.u32 h0, .u32 h1, .u32 h2, .u32 h3, .u32 h4], .one (.xs row 0 n)] Try.f93.ntmps) []) (by kernel_rfl) h)
set_option maxRecDepth 100000 in
theorem vc93a {X : Ctx} {Q : AV → Mem → Prop} (hX : X.P = Try.prog) (h0 h1 h2 h3 h4 : BitVec 32) (row w : List AC) (n : Nat) (i : Int) (h : (decide (i < (80 : Int)) = true → (decide (i < (16 : Int)) = true → in64 ((4 : Int) * i) ∧ ((0 : Int) ≤ (4 : Int) * i ∧ (4 : Int) * i < (↑n : Int)) ∧ gt AC.any row (0 + Int.toNat ((4 : Int) * i) * 1) = AC.u8 (asU8 (gt AC.any row (0 + Int.toNat ((4 : Int) * i) * 1))) ∧ in64 ((4 : Int) * i) ∧ in64 ((4 : Int) * i + (1 : Int)) ∧ ((0 : Int) ≤ (4 : Int) * i + (1 : Int) ∧ (4 : Int) * i + (1 : Int) < (↑n : Int)) ∧ gt AC.any row (0 + Int.toNat ((4 : Int) * i + (1 : Int)) * 1) = AC.u8 (asU8 (gt AC.any row (0 + Int.toNat ((4 : Int) * i + (1 : Int)) * 1))) ∧ in64 ((4 : Int) * i) ∧ in64 ((4 : Int) * i + (2 : Int)) ∧ ((0 : Int) ≤ (4 : Int) * i + (2 : Int) ∧ (4 : Int) * i + (2 : Int) < (↑n : Int)) ∧ gt AC.any row (0 + Int.toNat ((4 : Int) * i + (2 : Int)) * 1) = AC.u8 (asU8 (gt AC.any row (0 + Int.toNat ((4 : Int) * i + (2 : Int)) * 1))) ∧ in64 ((4 : Int) * i) ∧ in64 ((4 : Int) * i + (3 : Int)) ∧ ((0 : Int) ≤ (4 : Int) * i + (3 : Int) ∧ (4 : Int) * i + (3 : Int) < (↑n : Int)) ∧ gt AC.any row (0 + Int.toNat ((4 : Int) * i + (3 : Int)) * 1) = AC.u8 (asU8 (gt AC.any row (0 + Int.toNat ((4 : Int) * i + (3 : Int)) * 1))) ∧ ((0 : Int) ≤ i ∧ i < (↑80 : Int)) ∧ (1 = 1 ∧ 0 + Int.toNat i * 1 + 1 ≤ List.length w) ∧ in64 (i + (1 : Int)) ∧ Flat (layS w (0 + Int.toNat i * 1) [AC.u32 (BitVec.setWidth 32 (asU8 (gt AC.any row (0 + Int.toNat ((4 : Int) * i) * 1))) <<< 24 + BitVec.setWidth 32 (asU8 (gt AC.any row (0 + Int.toNat ((4 : Int) * i + (1 : Int)) * 1))) <<< 16 + BitVec.setWidth 32 (asU8 (gt AC.any row (0 + Int.toNat ((4 : Int) * i + (2 : Int)) * 1))) <<< 8 + BitVec.setWidth 32 (asU8 (gt AC.any row (0 + Int.toNat ((4 : Int) * i + (3 : Int)) * 1))))]) ∧ KR X 93 0 Q (kOf Try.f93 0) (mkS 164 [(1, AV.one (AC.xs row 0 n)), (2, AV.one (AC.ptr 0 0)), (4, AV.one (AC.ptr 1 0)), (5, AV.one (AC.ptr 2 0)), (6, AV.one (AC.i64 (i + (1 : Int))))]) [some [AC.u32 h0, AC.u32 h1, AC.u32 h2, AC.u32 h3, AC.u32 h4], some [AC.u32 (0 : BitVec 32), AC.u32 (0 : BitVec 32), AC.u32 (0 : BitVec 32), AC.u32 (0 : BitVec 32), AC.u32 (0 : BitVec 32)], some (layS w (0 + Int.toNat i * 1) [AC.u32 (BitVec.setWidth 32 (asU8 (gt AC.any row (0 + Int.toNat ((4 : Int) * i) * 1))) <<< 24 + BitVec.setWidth 32 (asU8 (gt AC.any row (0 + Int.toNat ((4 : Int) * i + (1 : Int)) * 1))) <<< 16 + BitVec.setWidth 32 (asU8 (gt AC.any row (0 + Int.toNat ((4 : Int) * i + (2 : Int)) * 1))) <<< 8 + BitVec.setWidth 32 (asU8 (gt AC.any row (0 + Int.toNat ((4 : Int) * i + (3 : Int)) * 1))))])]) ∧ (decide (i < (16 : Int)) = false → in64 (i - (3 : Int)) ∧ ((0 : Int) ≤ i - (3 : Int) ∧ i - (3 : Int) < (↑80 : Int)) ∧ gt AC.any w (0 + Int.toNat (i - (3 : Int)) * 1) = AC.u32 (asU32 (gt AC.any w (0 + Int.toNat (i - (3 : Int)) * 1))) ∧ in64 (i - (8 : Int)) ∧ ((0 : Int) ≤ i - (8 : Int) ∧ i - (8 : Int) < (↑80 : Int)) ∧ gt AC.any w (0 + Int.toNat (i - (8 : Int)) * 1) = AC.u32 (asU32 (gt AC.any w (0 + Int.toNat (i - (8 : Int)) * 1))) ∧ in64 (i - (14 : Int)) ∧ ((0 : Int) ≤ i - (14 : Int) ∧ i - (14 : Int) < (↑80 : Int)) ∧ gt AC.any w (0 + Int.toNat (i - (14 : Int)) * 1) = AC.u32 (asU32 (gt AC.any w (0 + Int.toNat (i - (14 : Int)) * 1))) ∧ in64 (i - (16 : Int)) ∧ ((0 : Int) ≤ i - (16 : Int) ∧ i - (16 : Int) < (↑80 : Int)) ∧ gt AC.any w (0 + Int.toNat (i - (16 : Int)) * 1) = AC.u32 (asU32 (gt AC.any w (0 + Int.toNat (i - (16 : Int)) * 1))) ∧ ((0 : Int) ≤ (1 : Int) ∧ (1 : Int) ≤ (32 : Int)) ∧ ((0 : Int) ≤ i ∧ i < (↑80 : Int)) ∧ (1 = 1 ∧ 0 + Int.toNat i * 1 + 1 ≤ List.length w) ∧ in64 (i + (1 : Int)) ∧ Flat (layS w (0 + Int.toNat i * 1) [AC.u32 (rol (asU32 (gt AC.any w (0 + Int.toNat (i - (3 : Int)) * 1)) ^^^ asU32 (gt AC.any w (0 + Int.toNat (i - (8 : Int)) * 1)) ^^^ asU32 (gt AC.any w (0 + Int.toNat (i - (14 : Int)) * 1)) ^^^ asU32 (gt AC.any w (0 + Int.toNat (i - (16 : Int)) * 1))) 1)]) ∧ KR X 93 0 Q (kOf Try.f93 0) (mkS 164 [(1, AV.one (AC.xs row 0 n)), (2, AV.one (AC.ptr 0 0)), (4, AV.one (AC.ptr 1 0)), (5, AV.one (AC.ptr 2 0)), (6, AV.one (AC.i64 (i + (1 : Int))))]) [some [AC.u32 h0, AC.u32 h1, AC.u32 h2, AC.u32 h3, AC.u32 h4], some [AC.u32 (0 : BitVec 32), AC.u32 (0 : BitVec 32), AC.u32 (0 : BitVec 32), AC.u32 (0 : BitVec 32), AC.u32 (0 : BitVec 32)], some (layS w (0 + Int.toNat i * 1) [AC.u32 (rol (asU32 (gt AC.any w (0 + Int.toNat (i - (3 : Int)) * 1)) ^^^ asU32 (gt AC.any w (0 + Int.toNat (i - (8 : Int)) * 1)) ^^^ asU32 (gt AC.any w (0 + Int.toNat (i - (14 : Int)) * 1)) ^^^ asU32 (gt AC.any w (0 + Int.toNat (i - (16 : Int)) * 1))) 1)])])) ∧ (decide (i < (80 : Int)) = false → 5 ≤ 5 ∧ (5 = 5 ∧ 5 ≤ 5) ∧ Flat w ∧ KR X 93 0 Q (kOf Try.f93 1) (mkS 164 [(2, AV.one (AC.ptr 0 0)), (4, AV.one (AC.ptr 1 0)), (5, AV.one (AC.ptr 2 0)), (7, AV.one (AC.ptr 3 0)), (8, AV.one (AC.i64 (0 : Int)))]) [some [AC.u32 h0, AC.u32 h1, AC.u32 h2, AC.u32 h3, AC.u32 h4], some [AC.u32 (0 : BitVec 32), AC.u32 (0 : BitVec 32), AC.u32 (0 : BitVec 32), AC.u32 (0 : BitVec 32), AC.u32 (0 : BitVec 32)], some w, some [AC.u32 h0, AC.u32 h1, AC.u32 h2, AC.u32 h3, AC.u32 h4]])) : KRun X 93 0 Q (kOf Try.f93 0) (mkS 164 [(1, .one (.xs row 0 n)), (2, .one (.ptr 0 0)), (4, .one (.ptr 1 0)), (5, .one (.ptr 2 0)), (6, .one (.i64 i))]) [some [.u32 h0, .u32 h1, .u32 h2, .u32 h3, .u32 h4], some [.u32 0, .u32 0, .u32 0, .u32 0, .u32 0], some w] :=
  wpRun_ok (hX ▸ baseR_ok T1 mf0 M0) (hX ▸ baseR_call T1_ok M0_ok) (hX ▸ mixed) (hX ▸ ok93) LK_ok (cast (β := wpRun (baseR T1 mf0 M0) [14, 18, 78, 92, 106, 125, 152] [(6, 35), (7, 22), (21, 11), (25, 8)] false (RS.mk Try.f93.results.toList 0 (CS.mk [] [] [0] [])) (LK X 93 0 Q true [(3, LS.mk [1, 2, 4, 5, 6] (CS.mk [] [false, false] [] [])), (10, LS.mk [2, 4, 5, 7, 8] (CS.mk [] [false, false, true, false] [] [])), (23, LS.mk [2, 4, 7, 12] (CS.mk [] [true, false, true] [] []))]) Q 2000 (kOf Try.f93 0) (mkS 164 [(1, .one (.xs row 0 n)), (2, .one (.ptr 0 0)), (4, .one (.ptr 1 0)), (5, .one (.ptr 2 0)), (6, .one (.i64 i))]) [some [.u32 h0, .u32 h1, .u32 h2, .u32 h3, .u32 h4], some [.u32 0, .u32 0, .u32 0, .u32 0, .u32 0], some w]) (by kernel_rfl) h)
set_option maxRecDepth 100000 in
theorem vc93b {X : Ctx} {Q : AV → Mem → Prop} (hX : X.P = Try.prog) (h0 h1 h2 h3 h4 a b c d e : BitVec 32) (w : List AC) (i : Int) (h : (decide (i < (80 : Int)) = true → ((0 : Int) ≤ (1 : Int) ∧ (1 : Int) < (↑5 : Int)) ∧ AC.u32 b = AC.u32 b ∧ ((0 : Int) ≤ (2 : Int) ∧ (2 : Int) < (↑5 : Int)) ∧ AC.u32 c = AC.u32 c ∧ ((0 : Int) ≤ (3 : Int) ∧ (3 : Int) < (↑5 : Int)) ∧ AC.u32 d = AC.u32 d ∧ ((20 : Int) ≠ (0 : Int) ∧ in64 (Int.tdiv i (20 : Int))) ∧ (decide (Int.tdiv i (20 : Int) = (0 : Int)) = true → ((0 : Int) ≤ (1 : Int) ∧ (1 : Int) < (↑5 : Int)) ∧ AC.u32 b = AC.u32 b ∧ ((0 : Int) ≤ (2 : Int) ∧ (2 : Int) < (↑5 : Int)) ∧ AC.u32 c = AC.u32 c ∧ ((0 : Int) ≤ (1 : Int) ∧ (1 : Int) < (↑5 : Int)) ∧ AC.u32 b = AC.u32 b ∧ ((0 : Int) ≤ (3 : Int) ∧ (3 : Int) < (↑5 : Int)) ∧ AC.u32 d = AC.u32 d ∧ ((0 : Int) ≤ (0 : Int) ∧ (0 : Int) < (↑5 : Int)) ∧ AC.u32 a = AC.u32 a ∧ ((0 : Int) ≤ (5 : Int) ∧ (5 : Int) ≤ (32 : Int)) ∧ ((0 : Int) ≤ (4 : Int) ∧ (4 : Int) < (↑5 : Int)) ∧ AC.u32 e = AC.u32 e ∧ ((0 : Int) ≤ i ∧ i < (↑80 : Int)) ∧ gt AC.any w (0 + Int.toNat i * 1) = AC.u32 (asU32 (gt AC.any w (0 + Int.toNat i * 1))) ∧ ((0 : Int) ≤ (0 : Int) ∧ (0 : Int) < (↑5 : Int)) ∧ AC.u32 a = AC.u32 a ∧ ((0 : Int) ≤ (1 : Int) ∧ (1 : Int) < (↑5 : Int)) ∧ AC.u32 b = AC.u32 b ∧ ((0 : Int) ≤ (30 : Int) ∧ (30 : Int) ≤ (32 : Int)) ∧ ((0 : Int) ≤ (2 : Int) ∧ (2 : Int) < (↑5 : Int)) ∧ AC.u32 c = AC.u32 c ∧ ((0 : Int) ≤ (3 : Int) ∧ (3 : Int) < (↑5 : Int)) ∧ AC.u32 d = AC.u32 d ∧ (1 = 1 ∧ 1 ≤ 5) ∧ (1 = 1 ∧ 2 ≤ 5) ∧ (1 = 1 ∧ 3 ≤ 5) ∧ (1 = 1 ∧ 4 ≤ 5) ∧ (1 = 1 ∧ 5 ≤ 5) ∧ (5 = 5 ∧ 5 ≤ 5) ∧ in64 (i + (1 : Int)) ∧ Flat w ∧ KR X 93 0 Q (kOf Try.f93 1) (mkS 164 [(2, AV.one (AC.ptr 0 0)), (4, AV.one (AC.ptr 1 0)), (5, AV.one (AC.ptr 2 0)), (7, AV.one (AC.ptr 3 0)), (8, AV.one (AC.i64 (i + (1 : Int))))]) [some [AC.u32 h0, AC.u32 h1, AC.u32 h2, AC.u32 h3, AC.u32 h4], some [AC.u32 (0 : BitVec 32), AC.u32 (0 : BitVec 32), AC.u32 (0 : BitVec 32), AC.u32 (0 : BitVec 32), AC.u32 (0 : BitVec 32)], some w, some [AC.u32 (rol a 5 + (b &&& c ||| ~~~b &&& d) + e + asU32 (gt AC.any w (0 + Int.toNat i * 1)) + BitVec.ofInt 32 (1518500249 : Int)), AC.u32 a, AC.u32 (rol b 30), AC.u32 c, AC.u32 d]]) ∧ (decide (Int.tdiv i (20 : Int) = (0 : Int)) = false → (decide (Int.tdiv i (20 : Int) = (2 : Int)) = true → ((0 : Int) ≤ (1 : Int) ∧ (1 : Int) < (↑5 : Int)) ∧ AC.u32 b = AC.u32 b ∧ ((0 : Int) ≤ (2 : Int) ∧ (2 : Int) < (↑5 : Int)) ∧ AC.u32 c = AC.u32 c ∧ ((0 : Int) ≤ (1 : Int) ∧ (1 : Int) < (↑5 : Int)) ∧ AC.u32 b = AC.u32 b ∧ ((0 : Int) ≤ (3 : Int) ∧ (3 : Int) < (↑5 : Int)) ∧ AC.u32 d = AC.u32 d ∧ ((0 : Int) ≤ (2 : Int) ∧ (2 : Int) < (↑5 : Int)) ∧ AC.u32 c = AC.u32 c ∧ ((0 : Int) ≤ (3 : Int) ∧ (3 : Int) < (↑5 : Int)) ∧ AC.u32 d = AC.u32 d ∧ ((0 : Int) ≤ (0 : Int) ∧ (0 : Int) < (↑5 : Int)) ∧ AC.u32 a = AC.u32 a ∧ ((0 : Int) ≤ (5 : Int) ∧ (5 : Int) ≤ (32 : Int)) ∧ ((0 : Int) ≤ (4 : Int) ∧ (4 : Int) < (↑5 : Int)) ∧ AC.u32 e = AC.u32 e ∧ ((0 : Int) ≤ i ∧ i < (↑80 : Int)) ∧ gt AC.any w (0 + Int.toNat i * 1) = AC.u32 (asU32 (gt AC.any w (0 + Int.toNat i * 1))) ∧ ((0 : Int) ≤ (0 : Int) ∧ (0 : Int) < (↑5 : Int)) ∧ AC.u32 a = AC.u32 a ∧ ((0 : Int) ≤ (1 : Int) ∧ (1 : Int) < (↑5 : Int)) ∧ AC.u32 b = AC.u32 b ∧ ((0 : Int) ≤ (30 : Int) ∧ (30 : Int) ≤ (32 : Int)) ∧ ((0 : Int) ≤ (2 : Int) ∧ (2 : Int) < (↑5 : Int)) ∧ AC.u32 c = AC.u32 c ∧ ((0 : Int) ≤ (3 : Int) ∧ (3 : Int) < (↑5 : Int)) ∧ AC.u32 d = AC.u32 d ∧ (1 = 1 ∧ 1 ≤ 5) ∧ (1 = 1 ∧ 2 ≤ 5) ∧ (1 = 1 ∧ 3 ≤ 5) ∧ (1 = 1 ∧ 4 ≤ 5) ∧ (1 = 1 ∧ 5 ≤ 5) ∧ (5 = 5 ∧ 5 ≤ 5) ∧ in64 (i + (1 : Int)) ∧ Flat w ∧ KR X 93 0 Q (kOf Try.f93 1) (mkS 164 [(2, AV.one (AC.ptr 0 0)), (4, AV.one (AC.ptr 1 0)), (5, AV.one (AC.ptr 2 0)), (7, AV.one (AC.ptr 3 0)), (8, AV.one (AC.i64 (i + (1 : Int))))]) [some [AC.u32 h0, AC.u32 h1, AC.u32 h2, AC.u32 h3, AC.u32 h4], some [AC.u32 (0 : BitVec 32), AC.u32 (0 : BitVec 32), AC.u32 (0 : BitVec 32), AC.u32 (0 : BitVec 32), AC.u32 (0 : BitVec 32)], some w, some [AC.u32 (rol a 5 + (b &&& c ||| b &&& d ||| c &&& d) + e + asU32 (gt AC.any w (0 + Int.toNat i * 1)) + BitVec.ofInt 32 (2400959708 : Int)), AC.u32 a, AC.u32 (rol b 30), AC.u32 c, AC.u32 d]]) ∧ (decide (Int.tdiv i (20 : Int) = (2 : Int)) = false → (decide (Int.tdiv i (20 : Int) = (3 : Int)) = true → ((0 : Int) ≤ (0 : Int) ∧ (0 : Int) < (↑5 : Int)) ∧ AC.u32 a = AC.u32 a ∧ ((0 : Int) ≤ (5 : Int) ∧ (5 : Int) ≤ (32 : Int)) ∧ ((0 : Int) ≤ (4 : Int) ∧ (4 : Int) < (↑5 : Int)) ∧ AC.u32 e = AC.u32 e ∧ ((0 : Int) ≤ i ∧ i < (↑80 : Int)) ∧ gt AC.any w (0 + Int.toNat i * 1) = AC.u32 (asU32 (gt AC.any w (0 + Int.toNat i * 1))) ∧ ((0 : Int) ≤ (0 : Int) ∧ (0 : Int) < (↑5 : Int)) ∧ AC.u32 a = AC.u32 a ∧ ((0 : Int) ≤ (1 : Int) ∧ (1 : Int) < (↑5 : Int)) ∧ AC.u32 b = AC.u32 b ∧ ((0 : Int) ≤ (30 : Int) ∧ (30 : Int) ≤ (32 : Int)) ∧ ((0 : Int) ≤ (2 : Int) ∧ (2 : Int) < (↑5 : Int)) ∧ AC.u32 c = AC.u32 c ∧ ((0 : Int) ≤ (3 : Int) ∧ (3 : Int) < (↑5 : Int)) ∧ AC.u32 d = AC.u32 d ∧ (1 = 1 ∧ 1 ≤ 5) ∧ (1 = 1 ∧ 2 ≤ 5) ∧ (1 = 1 ∧ 3 ≤ 5) ∧ (1 = 1 ∧ 4 ≤ 5) ∧ (1 = 1 ∧ 5 ≤ 5) ∧ (5 = 5 ∧ 5 ≤ 5) ∧ in64 (i + (1 : Int)) ∧ Flat w ∧ KR X 93 0 Q (kOf Try.f93 1) (mkS 164 [(2, AV.one (AC.ptr 0 0)), (4, AV.one (AC.ptr 1 0)), (5, AV.one (AC.ptr 2 0)), (7, AV.one (AC.ptr 3 0)), (8, AV.one (AC.i64 (i + (1 : Int))))]) [some [AC.u32 h0, AC.u32 h1, AC.u32 h2, AC.u32 h3, AC.u32 h4], some [AC.u32 (0 : BitVec 32), AC.u32 (0 : BitVec 32), AC.u32 (0 : BitVec 32), AC.u32 (0 : BitVec 32), AC.u32 (0 : BitVec 32)], some w, some [AC.u32 (rol a 5 + (b ^^^ c ^^^ d) + e + asU32 (gt AC.any w (0 + Int.toNat i * 1)) + BitVec.ofInt 32 (3395469782 : Int)), AC.u32 a, AC.u32 (rol b 30), AC.u32 c, AC.u32 d]]) ∧ (decide (Int.tdiv i (20 : Int) = (3 : Int)) = false → ((0 : Int) ≤ (0 : Int) ∧ (0 : Int) < (↑5 : Int)) ∧ AC.u32 a = AC.u32 a ∧ ((0 : Int) ≤ (5 : Int) ∧ (5 : Int) ≤ (32 : Int)) ∧ ((0 : Int) ≤ (4 : Int) ∧ (4 : Int) < (↑5 : Int)) ∧ AC.u32 e = AC.u32 e ∧ ((0 : Int) ≤ i ∧ i < (↑80 : Int)) ∧ gt AC.any w (0 + Int.toNat i * 1) = AC.u32 (asU32 (gt AC.any w (0 + Int.toNat i * 1))) ∧ ((0 : Int) ≤ (0 : Int) ∧ (0 : Int) < (↑5 : Int)) ∧ AC.u32 a = AC.u32 a ∧ ((0 : Int) ≤ (1 : Int) ∧ (1 : Int) < (↑5 : Int)) ∧ AC.u32 b = AC.u32 b ∧ ((0 : Int) ≤ (30 : Int) ∧ (30 : Int) ≤ (32 : Int)) ∧ ((0 : Int) ≤ (2 : Int) ∧ (2 : Int) < (↑5 : Int)) ∧ AC.u32 c = AC.u32 c ∧ ((0 : Int) ≤ (3 : Int) ∧ (3 : Int) < (↑5 : Int)) ∧ AC.u32 d = AC.u32 d ∧ (1 = 1 ∧ 1 ≤ 5) ∧ (1 = 1 ∧ 2 ≤ 5) ∧ (1 = 1 ∧ 3 ≤ 5) ∧ (1 = 1 ∧ 4 ≤ 5) ∧ (1 = 1 ∧ 5 ≤ 5) ∧ (5 = 5 ∧ 5 ≤ 5) ∧ in64 (i + (1 : Int)) ∧ Flat w ∧ KR X 93 0 Q (kOf Try.f93 1) (mkS 164 [(2, AV.one (AC.ptr 0 0)), (4, AV.one (AC.ptr 1 0)), (5, AV.one (AC.ptr 2 0)), (7, AV.one (AC.ptr 3 0)), (8, AV.one (AC.i64 (i + (1 : Int))))]) [some [AC.u32 h0, AC.u32 h1, AC.u32 h2, AC.u32 h3, AC.u32 h4], some [AC.u32 (0 : BitVec 32), AC.u32 (0 : BitVec 32), AC.u32 (0 : BitVec 32), AC.u32 (0 : BitVec 32), AC.u32 (0 : BitVec 32)], some w, some [AC.u32 (rol a 5 + (b ^^^ c ^^^ d) + e + asU32 (gt AC.any w (0 + Int.toNat i * 1)) + BitVec.ofInt 32 (1859775393 : Int)), AC.u32 a, AC.u32 (rol b 30), AC.u32 c, AC.u32 d]])))) ∧ (decide (i < (80 : Int)) = false → Flat [AC.u32 h0, AC.u32 h1, AC.u32 h2, AC.u32 h3, AC.u32 h4] ∧ Flat [AC.u32 a, AC.u32 b, AC.u32 c, AC.u32 d, AC.u32 e] ∧ KR X 93 0 Q (kOf Try.f93 2) (mkS 164 [(2, AV.one (AC.ptr 0 0)), (4, AV.one (AC.ptr 1 0)), (7, AV.one (AC.ptr 2 0)), (12, AV.one (AC.i64 (0 : Int)))]) [some [AC.u32 h0, AC.u32 h1, AC.u32 h2, AC.u32 h3, AC.u32 h4], some [AC.u32 (0 : BitVec 32), AC.u32 (0 : BitVec 32), AC.u32 (0 : BitVec 32), AC.u32 (0 : BitVec 32), AC.u32 (0 : BitVec 32)], some [AC.u32 a, AC.u32 b, AC.u32 c, AC.u32 d, AC.u32 e]])) : KRun X 93 0 Q (kOf Try.f93 1) (mkS 164 [(2, .one (.ptr 0 0)), (4, .one (.ptr 1 0)), (5, .one (.ptr 2 0)), (7, .one (.ptr 3 0)), (8, .one (.i64 i))]) [some [.u32 h0, .u32 h1, .u32 h2, .u32 h3, .u32 h4], some [.u32 0, .u32 0, .u32 0, .u32 0, .u32 0], some w, some [.u32 a, .u32 b, .u32 c, .u32 d, .u32 e]] :=
  wpRun_ok (hX ▸ baseR_ok T1 mf0 M0) (hX ▸ baseR_call T1_ok M0_ok) (hX ▸ mixed) (hX ▸ ok93) LK_ok (cast (β := wpRun (baseR T1 mf0 M0) [14, 18, 78, 92, 106, 125, 152] [(6, 35), (7, 22), (21, 11), (25, 8)] false (RS.mk Try.f93.results.toList 0 (CS.mk [] [] [0] [])) (LK X 93 0 Q true [(3, LS.mk [1, 2, 4, 5, 6] (CS.mk [] [false, false] [] [])), (10, LS.mk [2, 4, 5, 7, 8] (CS.mk [] [false, false, true, false] [] [])), (23, LS.mk [2, 4, 7, 12] (CS.mk [] [true, false, true] [] []))]) Q 2000 (kOf Try.f93 1) (mkS 164 [(2, .one (.ptr 0 0)), (4, .one (.ptr 1 0)), (5, .one (.ptr 2 0)), (7, .one (.ptr 3 0)), (8, .one (.i64 i))]) [some [.u32 h0, .u32 h1, .u32 h2, .u32 h3, .u32 h4], some [.u32 0, .u32 0, .u32 0, .u32 0, .u32 0], some w, some [.u32 a, .u32 b, .u32 c, .u32 d, .u32 e]]) (by kernel_rfl) h)
set_option maxRecDepth 100000 in
theorem vc93c {X : Ctx} {Q : AV → Mem → Prop} (hX : X.P = Try.prog) (hr xr : List AC) (i : Int) (h : (decide (i < (5 : Int)) = true → ((0 : Int) ≤ i ∧ i < (↑5 : Int)) ∧ gt AC.any hr (0 + Int.toNat i * 1) = AC.u32 (asU32 (gt AC.any hr (0 + Int.toNat i * 1))) ∧ ((0 : Int) ≤ i ∧ i < (↑5 : Int)) ∧ gt AC.any xr (0 + Int.toNat i * 1) = AC.u32 (asU32 (gt AC.any xr (0 + Int.toNat i * 1))) ∧ ((0 : Int) ≤ i ∧ i < (↑5 : Int)) ∧ (1 = 1 ∧ 0 + Int.toNat i * 1 + 1 ≤ List.length hr) ∧ in64 (i + (1 : Int)) ∧ Flat (layS hr (0 + Int.toNat i * 1) [AC.u32 (asU32 (gt AC.any hr (0 + Int.toNat i * 1)) + asU32 (gt AC.any xr (0 + Int.toNat i * 1)))]) ∧ Flat xr ∧ KR X 93 0 Q (kOf Try.f93 2) (mkS 164 [(2, AV.one (AC.ptr 0 0)), (4, AV.one (AC.ptr 1 0)), (7, AV.one (AC.ptr 2 0)), (12, AV.one (AC.i64 (i + (1 : Int))))]) [some (layS hr (0 + Int.toNat i * 1) [AC.u32 (asU32 (gt AC.any hr (0 + Int.toNat i * 1)) + asU32 (gt AC.any xr (0 + Int.toNat i * 1)))]), some [AC.u32 (0 : BitVec 32), AC.u32 (0 : BitVec 32), AC.u32 (0 : BitVec 32), AC.u32 (0 : BitVec 32), AC.u32 (0 : BitVec 32)], some xr]) ∧ (decide (i < (5 : Int)) = false → 5 ≤ List.length hr ∧ (List.length (List.take 5 (List.drop 0 hr)) = 5 ∧ 5 ≤ 5) ∧ 5 ≤ List.length (layS [AC.u32 (0 : BitVec 32), AC.u32 (0 : BitVec 32), AC.u32 (0 : BitVec 32), AC.u32 (0 : BitVec 32), AC.u32 (0 : BitVec 32)] 0 (List.take 5 (List.drop 0 hr))) ∧ flatAV (AV.agg (List.take 5 (List.drop 0 (layS [AC.u32 (0 : BitVec 32), AC.u32 (0 : BitVec 32), AC.u32 (0 : BitVec 32), AC.u32 (0 : BitVec 32), AC.u32 (0 : BitVec 32)] 0 (List.take 5 (List.drop 0 hr)))))) ∧ Q (AV.agg (List.take 5 (List.drop 0 (layS [AC.u32 (0 : BitVec 32), AC.u32 (0 : BitVec 32), AC.u32 (0 : BitVec 32), AC.u32 (0 : BitVec 32), AC.u32 (0 : BitVec 32)] 0 (List.take 5 (List.drop 0 hr)))))) [])) : KRun X 93 0 Q (kOf Try.f93 2) (mkS 164 [(2, .one (.ptr 0 0)), (4, .one (.ptr 1 0)), (7, .one (.ptr 2 0)), (12, .one (.i64 i))]) [some hr, some [.u32 0, .u32 0, .u32 0, .u32 0, .u32 0], some xr] :=
  wpRun_ok (hX ▸ baseR_ok T1 mf0 M0) (hX ▸ baseR_call T1_ok M0_ok) (hX ▸ mixed) (hX ▸ ok93) LK_ok (cast (β := wpRun (baseR T1 mf0 M0) [14, 18, 78, 92, 106, 125, 152] [(6, 35), (7, 22), (21, 11), (25, 8)] false (RS.mk Try.f93.results.toList 0 (CS.mk [] [] [0] [])) (LK X 93 0 Q true [(3, LS.mk [1, 2, 4, 5, 6] (CS.mk [] [false, false] [] [])), (10, LS.mk [2, 4, 5, 7, 8] (CS.mk [] [false, false, true, false] [] [])), (23, LS.mk [2, 4, 7, 12] (CS.mk [] [true, false, true] [] []))]) Q 2000 (kOf Try.f93 2) (mkS 164 [(2, .one (.ptr 0 0)), (4, .one (.ptr 1 0)), (7, .one (.ptr 2 0)), (12, .one (.i64 i))]) [some hr, some [.u32 0, .u32 0, .u32 0, .u32 0, .u32 0], some xr]) (by kernel_rfl) h)

theorem l93a {X : Ctx} (hX : X.P = Try.prog) {Q : AV → Mem → Prop} (s : St) (b : List (BitVec 8)) (hb : b.length = 64)
    (hK : ∀ ws : List (BitVec 32), ws.length = 80 → (∀ j, j < 80 → ws.getD j 0 = Wt b j) → KRun X 93 0 Q (kOf Try.f93 1) (mkS 164 [(2, .one (.ptr 0 0)), (4, .one (.ptr 1 0)), (5, .one (.ptr 2 0)), (7, .one (.ptr 3 0)), (8, .one (.i64 0))])
      [some [.u32 s.a, .u32 s.b, .u32 s.c, .u32 s.d, .u32 s.e], some [.u32 0, .u32 0, .u32 0, .u32 0, .u32 0], some (ws.map AC.u32), some [.u32 s.a, .u32 s.b, .u32 s.c, .u32 s.d, .u32 s.e]]) :
    ∀ (d i : Nat) (ws : List (BitVec 32)), i + d = 80 → ws.length = 80 → (∀ j, j < i → ws.getD j 0 = Wt b j) →
      KRun X 93 0 Q (kOf Try.f93 0) (mkS 164 [(1, .one (.xs (b.map AC.u8) 0 64)), (2, .one (.ptr 0 0)), (4, .one (.ptr 1 0)), (5, .one (.ptr 2 0)), (6, .one (.i64 i))])
        [some [.u32 s.a, .u32 s.b, .u32 s.c, .u32 s.d, .u32 s.e], some [.u32 0, .u32 0, .u32 0, .u32 0, .u32 0], some (ws.map AC.u32)] := by
  intro d
  induction d with
  | zero =>
    intro i ws hi hl hw
    have hi : i = 80 := by omega
    subst hi
    refine vc93a hX _ _ _ _ _ _ _ _ _ ⟨fun h => absurd (of_decide_eq_true h) (by decide), fun _ => ⟨by decide, by decide, flat_u32 _, ⟨?_⟩⟩⟩
    exact hK ws hl hw
  | succ d ih =>
    intro i ws hi hl hw
    have hlen : (ws.map AC.u32).length = 80 := by simpa using hl
    have step : ∀ x, x = Wt b i → KRun X 93 0 Q (kOf Try.f93 0) (mkS 164 [(1, .one (.xs (b.map AC.u8) 0 64)), (2, .one (.ptr 0 0)), (4, .one (.ptr 1 0)), (5, .one (.ptr 2 0)), (6, .one (.i64 ((i : Int) + 1)))])
        [some [.u32 s.a, .u32 s.b, .u32 s.c, .u32 s.d, .u32 s.e], some [.u32 0, .u32 0, .u32 0, .u32 0, .u32 0], some ((ws.set i x).map AC.u32)] := fun x hx => by
      have := ih (i + 1) (ws.set i x) (by omega) (by rw [List.length_set]; exact hl) (fun j hj => by
        by_cases e : i = j
        · subst e; rw [getD_set_eq _ _ _ _ (by omega), hx]
        · rw [getD_set_ne _ _ _ _ _ e]; exact hw j (by omega))
      exact this
    refine vc93a hX _ _ _ _ _ _ _ _ _ ⟨fun _ => ⟨fun h16 => ?_, fun h16 => ?_⟩, fun h => absurd (of_decide_eq_false h) (by omega)⟩
    · have h16 : i < 16 := by have := of_decide_eq_true h16; omega
      have e1 := ixk i 1
      have e2 := ixk i 2
      have e3 := ixk i 3
      have g0 := gt_u8_at b (4 * i) (by omega)
      have g1 := gt_u8_at b (4 * i + 1) (by omega)
      have g2 := gt_u8_at b (4 * i + 2) (by omega)
      have g3 := gt_u8_at b (4 * i + 3) (by omega)
      simp only [ix0, ixi, show (0 : Nat) + Int.toNat ((4 : Int) * (i : Int) + (1 : Int)) * 1 = 4 * i + 1 from e1, show (0 : Nat) + Int.toNat ((4 : Int) * (i : Int) + (2 : Int)) * 1 = 4 * i + 2 from e2,
        show (0 : Nat) + Int.toNat ((4 : Int) * (i : Int) + (3 : Int)) * 1 = 4 * i + 3 from e3, g0, g1, g2, g3, asU8, layS_u32, hlen]
      (repeat' apply And.intro) <;> first | trivial | (unfold in64; omega) | omega | exact flat_u32 _ | skip
      refine ⟨?_⟩
      exact step _ (by rw [Wt_lo b h16]; exact sum4 _ _ _ _)
    · have h16 : ¬ i < 16 := by have := of_decide_eq_false h16; omega
      have e1 : (0 : Nat) + Int.toNat ((i : Int) - 3) * 1 = i - 3 := by omega
      have e2 : (0 : Nat) + Int.toNat ((i : Int) - 8) * 1 = i - 8 := by omega
      have e3 : (0 : Nat) + Int.toNat ((i : Int) - 14) * 1 = i - 14 := by omega
      have e4 : (0 : Nat) + Int.toNat ((i : Int) - 16) * 1 = i - 16 := by omega
      have g0 := gt_u32_at ws (i - 3) (by omega)
      have g1 := gt_u32_at ws (i - 8) (by omega)
      have g2 := gt_u32_at ws (i - 14) (by omega)
      have g3 := gt_u32_at ws (i - 16) (by omega)
      simp only [ixi, e1, e2, e3, e4, g0, g1, g2, g3, asU32, layS_u32, hlen]
      (repeat' apply And.intro) <;> first | trivial | (unfold in64; omega) | omega | exact flat_u32 _ | skip
      refine ⟨?_⟩
      exact step _ (by rw [Wt_hi b h16, hw _ (by omega), hw _ (by omega), hw _ (by omega), hw _ (by omega)])

def addR (hs xs : List (BitVec 32)) : Nat → List (BitVec 32)
  | 0 => hs
  | n + 1 => (addR hs xs n).set n ((addR hs xs n).getD n 0 + xs.getD n 0)
theorem addR_len (hs xs : List (BitVec 32)) : ∀ n, (addR hs xs n).length = hs.length
  | 0 => rfl
  | n + 1 => by rw [addR, List.length_set, addR_len hs xs n]
theorem l93c {X : Ctx} (hX : X.P = Try.prog) (s x : St) : ∀ (d i : Nat), i + d = 5 →
    KRun X 93 0 (Is (.agg ((s.add x).list.map AC.u32))) (kOf Try.f93 2) (mkS 164 [(2, .one (.ptr 0 0)), (4, .one (.ptr 1 0)), (7, .one (.ptr 2 0)), (12, .one (.i64 i))])
      [some ((addR s.list x.list i).map AC.u32), some [.u32 0, .u32 0, .u32 0, .u32 0, .u32 0], some (x.list.map AC.u32)] := by
  intro d
  induction d with
  | zero =>
    intro i hi
    have hi : i = 5 := by omega
    subst hi
    refine vc93c hX _ _ _ ⟨fun h => absurd (of_decide_eq_true h) (by decide), fun _ => ?_⟩
    have e : (addR s.list x.list 5).map AC.u32 = (s.add x).list.map AC.u32 := rfl
    rw [e]
    exact ⟨Nat.le_refl 5, ⟨rfl, Nat.le_refl 5⟩, Nat.le_refl 5, exactFlat rfl, rfl⟩
  | succ d ih =>
    intro i hi
    have hl := addR_len s.list x.list i
    have hl : (addR s.list x.list i).length = 5 := hl
    have hlen : ((addR s.list x.list i).map AC.u32).length = 5 := by simpa using hl
    have g0 := gt_u32_at (addR s.list x.list i) i (by omega)
    have g1 := gt_u32_at x.list i (show i < 5 by omega)
    refine vc93c hX _ _ _ ⟨fun _ => ?_, fun h => absurd (of_decide_eq_false h) (by omega)⟩
    simp only [ixi, g0, g1, asU32, layS_u32, hlen]
    (repeat' apply And.intro) <;> first | trivial | (unfold in64; omega) | omega | exact flat_u32 _ | skip
    refine ⟨?_⟩
    exact ih (i + 1) (by omega)

theorem l93b {X : Ctx} (hX : X.P = Try.prog) (s : St) (b : List (BitVec 8)) (ws : List (BitVec 32)) (hl : ws.length = 80) (hw : ∀ j, j < 80 → ws.getD j 0 = Wt b j) : ∀ (d t : Nat), t + d = 80 →
      KRun X 93 0 (Is (.agg ((blockF s b).list.map AC.u32))) (kOf Try.f93 1) (mkS 164 [(2, .one (.ptr 0 0)), (4, .one (.ptr 1 0)), (5, .one (.ptr 2 0)), (7, .one (.ptr 3 0)), (8, .one (.i64 t))])
      [some [.u32 s.a, .u32 s.b, .u32 s.c, .u32 s.d, .u32 s.e], some [.u32 0, .u32 0, .u32 0, .u32 0, .u32 0], some (ws.map AC.u32), some [.u32 (rnds b t s).a, .u32 (rnds b t s).b, .u32 (rnds b t s).c, .u32 (rnds b t s).d, .u32 (rnds b t s).e]] := by
  intro d
  induction d with
  | zero =>
    intro t ht
    have ht : t = 80 := by omega
    subst ht
    exact vc93b hX _ _ _ _ _ _ _ _ _ _ _ _ ⟨fun h => absurd (of_decide_eq_true h) (by decide), fun _ => ⟨exactFlat rfl, exactFlat rfl, ⟨l93c hX s (rnds b 80 s) 5 0 rfl⟩⟩⟩
  | succ d ih =>
    intro t ht
    have g0 := gt_u32_at ws t (by omega)
    rw [hw t (by omega)] at g0
    have i0 : (0 : Nat) + Int.toNat (t : Int) * 1 = t := by omega
    have e : Int.tdiv (t : Int) 20 = ((t / 20 : Nat) : Int) := by rw [Int.tdiv_eq_ediv_of_nonneg (by omega)]; omega
    have step : ∀ x, x = (stepF t (Wt b t) (rnds b t s)).a → KRun X 93 0 (Is (.agg ((blockF s b).list.map AC.u32))) (kOf Try.f93 1) (mkS 164 [(2, .one (.ptr 0 0)), (4, .one (.ptr 1 0)), (5, .one (.ptr 2 0)), (7, .one (.ptr 3 0)), (8, .one (.i64 ((t : Int) + 1)))])
      [some [.u32 s.a, .u32 s.b, .u32 s.c, .u32 s.d, .u32 s.e], some [.u32 0, .u32 0, .u32 0, .u32 0, .u32 0], some (ws.map AC.u32), some [.u32 x, .u32 (rnds b t s).a, .u32 (rol (rnds b t s).b 30), .u32 (rnds b t s).c, .u32 (rnds b t s).d]] := fun x hx => by
      subst hx
      exact ih (t + 1) (by omega)
    refine vc93b hX _ _ _ _ _ _ _ _ _ _ _ _ ⟨fun _ => ?_, fun h => absurd (of_decide_eq_false h) (by omega)⟩
    simp only [e, i0, g0, asU32, Nat.le_refl, true_and, and_true]
    (repeat' apply And.intro) <;> first | decide | (unfold in64; omega) | omega | exact flat_u32 _ | skip
    · intro h
      have h := of_decide_eq_true h
      (repeat' apply And.intro) <;> first | decide | (unfold in64; omega) | omega | exact flat_u32 _ | skip
      refine ⟨step _ ?_⟩
      unfold stepF mixF; rw [if_pos (by omega), add4, ch_eq]; rfl
    · intro h0
      have h0 := of_decide_eq_false h0
      (repeat' apply And.intro) <;> first | decide | (unfold in64; omega) | omega | exact flat_u32 _ | skip
      · intro h
        have h := of_decide_eq_true h
        (repeat' apply And.intro) <;> first | decide | (unfold in64; omega) | omega | exact flat_u32 _ | skip
        refine ⟨step _ ?_⟩
        unfold stepF mixF; rw [if_neg (by omega), if_neg (by omega), if_pos (by omega), add4, maj_eq]; rfl
      · intro h1
        have h1 := of_decide_eq_false h1
        (repeat' apply And.intro) <;> first | decide | (unfold in64; omega) | omega | exact flat_u32 _ | skip
        · intro h
          have h := of_decide_eq_true h
          (repeat' apply And.intro) <;> first | decide | (unfold in64; omega) | omega | exact flat_u32 _ | skip
          refine ⟨step _ ?_⟩
          unfold stepF mixF; rw [if_neg (by omega), if_neg (by omega), if_neg (by omega), add4]; rfl
        · intro h2
          have h2 := of_decide_eq_false h2
          (repeat' apply And.intro) <;> first | decide | (unfold in64; omega) | omega | exact flat_u32 _ | skip
          refine ⟨step _ ?_⟩
          unfold stepF mixF; rw [if_neg (by omega), if_pos (by omega), add4]; rfl

theorem s93 (s : St) (b : List (BitVec 8)) (hb : b.length = 64) : Spec Try.prog 93 [.agg (s.list.map AC.u32), .one (.xs (b.map AC.u8) 0 64)] [] (Is (.agg ((blockF s b).list.map AC.u32))) := by
  refine Spec.of_run ok93 fun X hX => vc93 hX s.a s.b s.c s.d s.e _ _ ⟨exactFlat rfl, ⟨?_⟩⟩
  exact l93a hX s b hb (fun ws hl hw => l93b hX s b ws hl hw 80 0 (by omega)) 80 0 (List.replicate 80 0) (by omega) (by simp) (fun j hj => by omega)
end DH
