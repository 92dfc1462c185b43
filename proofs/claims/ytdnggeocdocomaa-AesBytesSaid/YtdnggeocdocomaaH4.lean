/- Walks of functions, each by evaluation: what each returns. -/
import Derived.Test.YtdnggeocdocomaaH3
set_option linter.unusedVariables false
set_option linter.unusedSimpArgs false
noncomputable section
namespace DH
open Go Go.Proofs

/-! the digest, in numbers alone -/
def padZ (n : Nat) : Nat := (119 - n % 64) % 64
def lenB (x : BitVec 64) : List (BitVec 8) := (List.range 8).map fun i => (x >>> (56 - 8 * i)).setWidth 8
def tailF (n : BitVec 64) : List (BitVec 8) := 128#8 :: (List.replicate (padZ n.toNat) 0#8 ++ lenB (n * 8#64))
def outB (s : St) (j : Nat) : BitVec 8 := (s.list.getD (j / 4) 0 >>> (24 - 8 * (j % 4))).setWidth 8
def outF (s : St) : List (BitVec 8) := (List.range 20).map (outB s)
def digF (s : Sm) : List (BitVec 8) := outF (addF s (tailF s.n)).h
def blkAt (b : List (BitVec 8)) (j : Nat) : List (BitVec 8) := (b.drop (64 * j)).take 64
def blks (b : List (BitVec 8)) : Nat → St
  | 0 => st0
  | k + 1 => blockF (blks b k) (blkAt b k)
def ofF (m : List (BitVec 8)) : List (BitVec 8) := outF (blks (m ++ tailF (BitVec.ofNat 64 m.length)) ((m ++ tailF (BitVec.ofNat 64 m.length)).length / 64))

theorem blkAt_app (b : List (BitVec 8)) (x : BitVec 8) (j : Nat) (h : 64 * j + 64 ≤ b.length) : blkAt (b ++ [x]) j = blkAt b j := by
  unfold blkAt
  rw [List.drop_append_of_le_length (by omega), List.take_append_of_le_length (by rw [List.length_drop]; omega)]
theorem blks_app (b : List (BitVec 8)) (x : BitVec 8) : ∀ k, 64 * k ≤ b.length → blks (b ++ [x]) k = blks b k
  | 0, _ => rfl
  | k + 1, h => by rw [blks, blks, blks_app b x k (by omega), blkAt_app b x k (by omega)]

theorem addF_app (s : Sm) (a b : List (BitVec 8)) : addF s (a ++ b) = addF (addF s a) b := by unfold addF; rw [List.foldl_append]

structure Took (b : List (BitVec 8)) (s : Sm) : Prop where
  n : s.n = BitVec.ofNat 64 b.length
  len : s.left.length = 64
  left : s.left.take (b.length % 64) = b.drop (64 * (b.length / 64))
  h : s.h = blks b (b.length / 64)

theorem Took.snoc {b : List (BitVec 8)} {s : Sm} (t : Took b s) (x : BitVec 8) : Took (b ++ [x]) (step1 s x) := by
  have e0 : s.n.toNat % 64 = b.length % 64 := by rw [t.n, BitVec.toNat_ofNat]; omega
  have e1 : s.n + 1#64 = BitVec.ofNat 64 (b.length + 1) := by
    rw [t.n]
    apply BitVec.eq_of_toNat_eq
    simp only [BitVec.toNat_add, BitVec.toNat_ofNat]
    omega
  have e2 : (s.n + 1#64).toNat % 64 = (b.length + 1) % 64 := by rw [e1, BitVec.toNat_ofNat]; omega
  have hr : b.length % 64 < 64 := Nat.mod_lt _ (by decide)
  have et : (s.left.set (b.length % 64) x).take (b.length % 64 + 1) = b.drop (64 * (b.length / 64)) ++ [x] := by
    rw [List.take_add_one, ← t.left, List.take_set, List.getElem?_set_self (by rw [t.len]; omega)]
    rw [List.set_eq_of_length_le (by rw [List.length_take, t.len]; omega)]
    rfl
  have hd : (b ++ [x]).drop (64 * (b.length / 64)) = b.drop (64 * (b.length / 64)) ++ [x] := List.drop_append_of_le_length (by omega)
  have hl : (b ++ [x]).length = b.length + 1 := by simp
  refine ⟨?_, ?_, ?_, ?_⟩
  · show s.n + 1#64 = _
    rw [e1, hl]
  · show (s.left.set _ _).length = 64
    rw [List.length_set, t.len]
  · show (s.left.set (s.n.toNat % 64) x).take _ = _
    rw [e0, hl]
    by_cases h : (b.length + 1) % 64 = 0
    · rw [h, List.take_zero, show 64 * ((b.length + 1) / 64) = b.length + 1 by omega, List.drop_of_length_le (by omega)]
    · rw [show (b.length + 1) % 64 = b.length % 64 + 1 by omega, show (b.length + 1) / 64 = b.length / 64 by omega, et, hd]
  · show (if (s.n + 1#64).toNat % 64 = 0 then blockF s.h (s.left.set (s.n.toNat % 64) x) else s.h) = _
    rw [e0, e2, hl]
    by_cases h : (b.length + 1) % 64 = 0
    · rw [if_pos h, show (b.length + 1) / 64 = b.length / 64 + 1 by omega, blks, blks_app b x _ (by omega), ← t.h]
      congr 1
      unfold blkAt
      rw [hd, ← et, show b.length % 64 + 1 = 64 by omega, List.take_take]
      rw [List.take_of_length_le (by rw [List.length_set, t.len]; omega)]
    · rw [if_neg h, show (b.length + 1) / 64 = b.length / 64 by omega, blks_app b x _ (by omega), t.h]

theorem took_nil : Took [] nwS := ⟨rfl, rfl, rfl, rfl⟩
theorem Took.app : ∀ {c b : List (BitVec 8)} {s : Sm}, Took b s → Took (b ++ c) (addF s c)
  | [], b, s, t => by rw [List.append_nil]; exact t
  | x :: c, b, s, t => by
    have := Took.app (c := c) (t.snoc x)
    rw [List.append_assoc] at this
    exact this
theorem took (b : List (BitVec 8)) : Took b (addF nwS b) := by
  have := Took.app (c := b) took_nil
  exact this
theorem dig_of (m : List (BitVec 8)) : digF (addF nwS m) = ofF m := by
  unfold digF ofF
  rw [(took m).n, ← addF_app, (took _).h]
def hideE {α : Type} (x : α) : {y : α // y = x} := Classical.choice ⟨⟨x, rfl⟩⟩
/-- a thing that is not opened -/
def hide {α : Type} (x : α) : α := (hideE x).1
theorem hide_eq {α : Type} (x : α) : hide x = x := (hideE x).2
theorem exactL_append {a b : List AC} (h : ExactL a) (g : ExactL b) : ExactL (a ++ b) := fun c hc => (List.mem_append.1 hc).elim (h c) (g c)
theorem exactL_map {α : Type} (f : α → AC) (hf : ∀ x, (f x).exact = true) (l : List α) : ExactL (l.map f) := fun c hc => by
  obtain ⟨x, _, rfl⟩ := List.mem_map.1 hc
  exact hf x
theorem Sm.exact (s : Sm) : ExactL s.cells := exactL_append (exactL_append (exactL_map _ (fun _ => rfl) _) (exactL_map _ (fun _ => rfl) _)) (exactL_ok rfl)

noncomputable def T4 : Tab := fun f xs => match f, xs with
  | 41, [.agg cs, .one (.xs row 0 n)] => some ([cs = (smOf cs).cells ∧ cs.length = 70 ∧ allU8 row ∧ row.length = n], .agg (hide (addF (smOf cs) (row.map asU8)).cells))
  | f, xs => T3 f xs
theorem T4_ok : TabOk Try.prog T4 := by
  intro f xs cs r h hc
  unfold T4 at h
  split at h
  · obtain ⟨rfl, rfl⟩ := Prod.mk.inj (Option.some.inj h)
    obtain ⟨h1, h2, h3, h4⟩ := hc.1
    rename_i cs row n
    have hl : (smOf cs).left.length = 64 := by have := (smOf cs).len; rw [← h1] at this; omega
    have := s41 (smOf cs) hl (row.map asU8)
    rw [← h1, ← h3, List.length_map, h4] at this
    rw [hide_eq]
    exact ⟨⟨_, _, ok41⟩, this, Sm.exact _⟩
  · exact T3_ok _ _ _ _ h hc
set_option maxRecDepth 100000 in
theorem vc42 {X : Ctx} {Q : AV → Mem → Prop} (hX : X.P = Try.prog) (cs : List AC) (h : gt AC.any cs 69 = AC.u64 (asU64 (gt AC.any cs 69)) ∧ Flat cs ∧ Flat (List.replicate 20 (AC.u8 (0 : BitVec 8))) ∧ Flat [cvC (Value.int IntKind.u8 (128 : Int))] ∧ KR X 42 0 Q (kOf Try.f42 0) (mkS 58 [(1, AV.one (AC.ptr 0 0)), (2, AV.one (AC.ptr 1 0)), (3, AV.one (AC.u64 (asU64 (gt AC.any cs 69) * BitVec.ofInt 64 (8 : Int)))), (4, AV.one (AC.gs 2 1 1))]) [some cs, some (List.replicate 20 (AC.u8 (0 : BitVec 8))), some [AC.u8 (BitVec.ofInt 8 (128 : Int))]]) : KRun X 42 0 Q ([.code (bodyOf Try.f42)]) (slots [.agg cs] Try.f42.ntmps) [] :=
  wpRun_ok (hX ▸ envH_ok T4 mf0 M0) (hX ▸ envH_call T4_ok M0_ok) (hX ▸ mixed) (hX ▸ ok42) LK_ok (cast (β := wpRun (envH T4 mf0 M0) [20, 25, 42] [] false (RS.mk Try.f42.results.toList 0 (CS.mk [] [] [0] [])) (LK X 42 0 Q true [(3, LS.mk [1, 2, 3, 4] (CS.mk [] [] [] [])), (6, LS.mk [1, 2, 3, 4, 24] (CS.mk [] [] [] [])), (13, LS.mk [2, 6, 7, 41] (CS.mk [] [] [] []))]) Q 2000 ([.code (bodyOf Try.f42)]) (slots [.agg cs] Try.f42.ntmps) []) (by kernel_rfl) h)
set_option maxRecDepth 100000 in
theorem vc42a {X : Ctx} {Q : AV → Mem → Prop} (hX : X.P = Try.prog) (cs zs row : List AC) (x : BitVec 64) (n : Nat) (h : gt AC.any cs 69 = AC.u64 (asU64 (gt AC.any cs 69)) ∧ BitVec.ofInt 64 (64 : Int) ≠ (0 : BitVec 64) ∧ ((!decide ((asU64 (gt AC.any cs 69) + BitVec.ofInt 64 (↑n : Int)) % BitVec.ofInt 64 (64 : Int) = BitVec.ofInt 64 (56 : Int))) = true → 1 ≤ 1 ∧ ((n + 1) * 1 ≤ 140737488355328 ∧ n + 1 ≤ 4611686018427387904) ∧ List.length row = n * 1 ∧ Flat cs ∧ Flat zs ∧ Flat (row ++ List.take 1 (List.drop 0 [cvC (Value.int IntKind.u8 (0 : Int))])) ∧ KR X 42 0 Q (kOf Try.f42 0) (mkS 58 [(1, AV.one (AC.ptr 0 0)), (2, AV.one (AC.ptr 1 0)), (3, AV.one (AC.u64 x)), (4, AV.one (AC.gs 2 (n + 1) 1))]) [some cs, some zs, some (row ++ List.take 1 (List.drop 0 [cvC (Value.int IntKind.u8 (0 : Int))]))]) ∧ ((!decide ((asU64 (gt AC.any cs 69) + BitVec.ofInt 64 (↑n : Int)) % BitVec.ofInt 64 (64 : Int) = BitVec.ofInt 64 (56 : Int))) = false → Flat cs ∧ Flat zs ∧ Flat row ∧ KR X 42 0 Q (kOf Try.f42 1) (mkS 58 [(1, AV.one (AC.ptr 0 0)), (2, AV.one (AC.ptr 1 0)), (3, AV.one (AC.u64 x)), (4, AV.one (AC.gs 2 n 1)), (24, AV.one (AC.i64 (0 : Int)))]) [some cs, some zs, some row])) : KRun X 42 0 Q (kOf Try.f42 0) (mkS 58 [(1, .one (.ptr 0 0)), (2, .one (.ptr 1 0)), (3, .one (.u64 x)), (4, .one (.gs 2 n 1))]) [some cs, some zs, some row] :=
  wpRun_ok (hX ▸ envH_ok T4 mf0 M0) (hX ▸ envH_call T4_ok M0_ok) (hX ▸ mixed) (hX ▸ ok42) LK_ok (cast (β := wpRun (envH T4 mf0 M0) [20, 25, 42] [] false (RS.mk Try.f42.results.toList 0 (CS.mk [] [] [0] [])) (LK X 42 0 Q true [(3, LS.mk [1, 2, 3, 4] (CS.mk [] [] [] [])), (6, LS.mk [1, 2, 3, 4, 24] (CS.mk [] [] [] [])), (13, LS.mk [2, 6, 7, 41] (CS.mk [] [] [] []))]) Q 2000 (kOf Try.f42 0) (mkS 58 [(1, .one (.ptr 0 0)), (2, .one (.ptr 1 0)), (3, .one (.u64 x)), (4, .one (.gs 2 n 1))]) [some cs, some zs, some row]) (by kernel_rfl) h)
set_option maxRecDepth 100000 in
theorem vc42b {X : Ctx} {Q : AV → Mem → Prop} (hX : X.P = Try.prog) (cs zs row : List AC) (x : BitVec 64) (n : Nat) (i : Int) (h : (decide (i < (8 : Int)) = true → in64 ((8 : Int) * i) ∧ in64 ((56 : Int) - (8 : Int) * i) ∧ (0 : Int) ≤ (56 : Int) - (8 : Int) * i ∧ 1 ≤ 1 ∧ ((n + 1) * 1 ≤ 140737488355328 ∧ n + 1 ≤ 4611686018427387904) ∧ List.length row = n * 1 ∧ in64 (i + (1 : Int)) ∧ Flat cs ∧ Flat zs ∧ Flat (row ++ List.take 1 (List.drop 0 [AC.u8 (BitVec.setWidth 8 (x >>> Int.toNat ((56 : Int) - (8 : Int) * i)))])) ∧ KR X 42 0 Q (kOf Try.f42 1) (mkS 58 [(1, AV.one (AC.ptr 0 0)), (2, AV.one (AC.ptr 1 0)), (3, AV.one (AC.u64 x)), (4, AV.one (AC.gs 2 (n + 1) 1)), (24, AV.one (AC.i64 (i + (1 : Int))))]) [some cs, some zs, some (row ++ List.take 1 (List.drop 0 [AC.u8 (BitVec.setWidth 8 (x >>> Int.toNat ((56 : Int) - (8 : Int) * i)))]))]) ∧ (decide (i < (8 : Int)) = false → 70 ≤ List.length cs ∧ Flat (List.take 70 (List.drop 0 cs)) ∧ 0 + n * 1 ≤ List.length row ∧ Flat (List.take (n * 1) (List.drop 0 row)) ∧ (List.take 70 (List.drop 0 cs) = Sm.cells (smOf (List.take 70 (List.drop 0 cs))) ∧ List.length (List.take 70 (List.drop 0 cs)) = 70 ∧ allU8 (List.take (n * 1) (List.drop 0 row)) ∧ List.length (List.take (n * 1) (List.drop 0 row)) = n) ∧ Flat (hide (Sm.cells (addF (smOf (List.take 70 (List.drop 0 cs))) (List.map asU8 (List.take (n * 1) (List.drop 0 row)))))) ∧ (hide (Sm.cells (addF (smOf (List.take 70 (List.drop 0 cs))) (List.map asU8 (List.take (n * 1) (List.drop 0 row))))) = Sm.cells (smOf (hide (Sm.cells (addF (smOf (List.take 70 (List.drop 0 cs))) (List.map asU8 (List.take (n * 1) (List.drop 0 row))))))) ∧ List.length (hide (Sm.cells (addF (smOf (List.take 70 (List.drop 0 cs))) (List.map asU8 (List.take (n * 1) (List.drop 0 row)))))) = 70) ∧ (5 = 5 ∧ 5 ≤ 5) ∧ Flat zs ∧ Flat (layS [AC.u32 (0 : BitVec 32), AC.u32 (0 : BitVec 32), AC.u32 (0 : BitVec 32), AC.u32 (0 : BitVec 32), AC.u32 (0 : BitVec 32)] 0 [AC.u32 (St.a (Sm.h (smOf (hide (Sm.cells (addF (smOf (List.take 70 (List.drop 0 cs))) (List.map asU8 (List.take (n * 1) (List.drop 0 row))))))))), AC.u32 (St.b (Sm.h (smOf (hide (Sm.cells (addF (smOf (List.take 70 (List.drop 0 cs))) (List.map asU8 (List.take (n * 1) (List.drop 0 row))))))))), AC.u32 (St.c (Sm.h (smOf (hide (Sm.cells (addF (smOf (List.take 70 (List.drop 0 cs))) (List.map asU8 (List.take (n * 1) (List.drop 0 row))))))))), AC.u32 (St.d (Sm.h (smOf (hide (Sm.cells (addF (smOf (List.take 70 (List.drop 0 cs))) (List.map asU8 (List.take (n * 1) (List.drop 0 row))))))))), AC.u32 (St.e (Sm.h (smOf (hide (Sm.cells (addF (smOf (List.take 70 (List.drop 0 cs))) (List.map asU8 (List.take (n * 1) (List.drop 0 row)))))))))]) ∧ Flat (List.replicate 20 (AC.u8 (0 : BitVec 8))) ∧ KR X 42 0 Q (kOf Try.f42 2) (mkS 58 [(2, AV.one (AC.ptr 0 0)), (6, AV.one (AC.ptr 1 0)), (7, AV.one (AC.ptr 2 0)), (41, AV.one (AC.i64 (0 : Int)))]) [some zs, some [AC.u32 (St.a (Sm.h (smOf (hide (Sm.cells (addF (smOf (List.take 70 (List.drop 0 cs))) (List.map asU8 (List.take (n * 1) (List.drop 0 row))))))))), AC.u32 (St.b (Sm.h (smOf (hide (Sm.cells (addF (smOf (List.take 70 (List.drop 0 cs))) (List.map asU8 (List.take (n * 1) (List.drop 0 row))))))))), AC.u32 (St.c (Sm.h (smOf (hide (Sm.cells (addF (smOf (List.take 70 (List.drop 0 cs))) (List.map asU8 (List.take (n * 1) (List.drop 0 row))))))))), AC.u32 (St.d (Sm.h (smOf (hide (Sm.cells (addF (smOf (List.take 70 (List.drop 0 cs))) (List.map asU8 (List.take (n * 1) (List.drop 0 row))))))))), AC.u32 (St.e (Sm.h (smOf (hide (Sm.cells (addF (smOf (List.take 70 (List.drop 0 cs))) (List.map asU8 (List.take (n * 1) (List.drop 0 row)))))))))], some (List.replicate 20 (AC.u8 (0 : BitVec 8)))])) : KRun X 42 0 Q (kOf Try.f42 1) (mkS 58 [(1, .one (.ptr 0 0)), (2, .one (.ptr 1 0)), (3, .one (.u64 x)), (4, .one (.gs 2 n 1)), (24, .one (.i64 i))]) [some cs, some zs, some row] :=
  wpRun_ok (hX ▸ envH_ok T4 mf0 M0) (hX ▸ envH_call T4_ok M0_ok) (hX ▸ mixed) (hX ▸ ok42) LK_ok (cast (β := wpRun (envH T4 mf0 M0) [20, 25, 42] [] false (RS.mk Try.f42.results.toList 0 (CS.mk [] [] [0] [])) (LK X 42 0 Q true [(3, LS.mk [1, 2, 3, 4] (CS.mk [] [] [] [])), (6, LS.mk [1, 2, 3, 4, 24] (CS.mk [] [] [] [])), (13, LS.mk [2, 6, 7, 41] (CS.mk [] [] [] []))]) Q 2000 (kOf Try.f42 1) (mkS 58 [(1, .one (.ptr 0 0)), (2, .one (.ptr 1 0)), (3, .one (.u64 x)), (4, .one (.gs 2 n 1)), (24, .one (.i64 i))]) [some cs, some zs, some row]) (by kernel_rfl) h)
set_option maxRecDepth 100000 in
theorem vc42c {X : Ctx} {Q : AV → Mem → Prop} (hX : X.P = Try.prog) (zs hr row : List AC) (i : Int) (h : (decide (i < (20 : Int)) = true → ((4 : Int) ≠ (0 : Int) ∧ in64 (Int.tdiv i (4 : Int))) ∧ ((0 : Int) ≤ Int.tdiv i (4 : Int) ∧ Int.tdiv i (4 : Int) < (↑5 : Int)) ∧ gt AC.any hr (0 + Int.toNat (Int.tdiv i (4 : Int)) * 1) = AC.u32 (asU32 (gt AC.any hr (0 + Int.toNat (Int.tdiv i (4 : Int)) * 1))) ∧ (4 : Int) ≠ (0 : Int) ∧ in64 (Int.tmod i (4 : Int) * (8 : Int)) ∧ in64 ((24 : Int) - Int.tmod i (4 : Int) * (8 : Int)) ∧ (0 : Int) ≤ (24 : Int) - Int.tmod i (4 : Int) * (8 : Int) ∧ ((0 : Int) ≤ i ∧ i < (↑20 : Int)) ∧ (1 = 1 ∧ 0 + Int.toNat i * 1 + 1 ≤ List.length row) ∧ in64 (i + (1 : Int)) ∧ Flat zs ∧ Flat hr ∧ Flat (layS row (0 + Int.toNat i * 1) [AC.u8 (BitVec.setWidth 8 (asU32 (gt AC.any hr (0 + Int.toNat (Int.tdiv i (4 : Int)) * 1)) >>> Int.toNat ((24 : Int) - Int.tmod i (4 : Int) * (8 : Int))))]) ∧ KR X 42 0 Q (kOf Try.f42 2) (mkS 58 [(2, AV.one (AC.ptr 0 0)), (6, AV.one (AC.ptr 1 0)), (7, AV.one (AC.ptr 2 0)), (41, AV.one (AC.i64 (i + (1 : Int))))]) [some zs, some hr, some (layS row (0 + Int.toNat i * 1) [AC.u8 (BitVec.setWidth 8 (asU32 (gt AC.any hr (0 + Int.toNat (Int.tdiv i (4 : Int)) * 1)) >>> Int.toNat ((24 : Int) - Int.tmod i (4 : Int) * (8 : Int))))])]) ∧ (decide (i < (20 : Int)) = false → 20 ≤ List.length row ∧ (List.length (List.take 20 (List.drop 0 row)) = 20 ∧ 20 ≤ List.length zs) ∧ 20 ≤ List.length (layS zs 0 (List.take 20 (List.drop 0 row))) ∧ flatAV (AV.agg (List.take 20 (List.drop 0 (layS zs 0 (List.take 20 (List.drop 0 row)))))) ∧ Q (AV.agg (List.take 20 (List.drop 0 (layS zs 0 (List.take 20 (List.drop 0 row)))))) [])) : KRun X 42 0 Q (kOf Try.f42 2) (mkS 58 [(2, .one (.ptr 0 0)), (6, .one (.ptr 1 0)), (7, .one (.ptr 2 0)), (41, .one (.i64 i))]) [some zs, some hr, some row] :=
  wpRun_ok (hX ▸ envH_ok T4 mf0 M0) (hX ▸ envH_call T4_ok M0_ok) (hX ▸ mixed) (hX ▸ ok42) LK_ok (cast (β := wpRun (envH T4 mf0 M0) [20, 25, 42] [] false (RS.mk Try.f42.results.toList 0 (CS.mk [] [] [0] [])) (LK X 42 0 Q true [(3, LS.mk [1, 2, 3, 4] (CS.mk [] [] [] [])), (6, LS.mk [1, 2, 3, 4, 24] (CS.mk [] [] [] [])), (13, LS.mk [2, 6, 7, 41] (CS.mk [] [] [] []))]) Q 2000 (kOf Try.f42 2) (mkS 58 [(2, .one (.ptr 0 0)), (6, .one (.ptr 1 0)), (7, .one (.ptr 2 0)), (41, .one (.i64 i))]) [some zs, some hr, some row]) (by kernel_rfl) h)

theorem tmod_nat (a b : Nat) : Int.tmod (a : Int) (b : Int) = ((a % b : Nat) : Int) := by rw [Int.tmod_eq_emod_of_nonneg (by omega)]; omega
theorem tdiv_nat (a b : Nat) : Int.tdiv (a : Int) (b : Int) = ((a / b : Nat) : Int) := by rw [Int.tdiv_eq_ediv_of_nonneg (by omega)]; omega
theorem out_eq (s : St) (ws : List (BitVec 8)) (hl : ws.length = 20) (h : ∀ j, j < 20 → ws.getD j 0 = outB s j) : ws = outF s := by
  apply List.ext_getElem (by rw [hl]; rfl)
  intro j h1 h2
  have := h j (by omega)
  rw [List.getD_eq_getElem?_getD, List.getElem?_eq_getElem h1] at this
  have e : (outF s)[j] = outB s j := by simp [outF]
  rw [e]
  exact this
theorem outF_len (s : St) : (outF s).length = 20 := rfl

theorem l42c {X : Ctx} (hX : X.P = Try.prog) (s : St) (zs : List AC) (hz : Flat zs) (hzl : zs.length = 20) : ∀ (d i : Nat) (ws : List (BitVec 8)), i + d = 20 → ws.length = 20 → (∀ j, j < i → ws.getD j 0 = outB s j) →
    KRun X 42 0 (Is (.agg ((outF s).map AC.u8))) (kOf Try.f42 2) (mkS 58 [(2, .one (.ptr 0 0)), (6, .one (.ptr 1 0)), (7, .one (.ptr 2 0)), (41, .one (.i64 i))]) [some zs, some (s.list.map AC.u32), some (ws.map AC.u8)] := by
  intro d
  induction d with
  | zero =>
    intro i ws hi hl hw
    have hi : i = 20 := by omega
    subst hi
    have hlen : (ws.map AC.u8).length = 20 := by simpa using hl
    refine vc42c hX _ _ _ _ ⟨fun h => absurd (of_decide_eq_true h) (by decide), fun _ => ?_⟩
    have hc2 : List.take 20 (List.drop 0 (ws.map AC.u8)) = ws.map AC.u8 := by rw [List.drop_zero, List.take_of_length_le (by omega)]
    rw [hc2, take_lay hzl hlen, layS_len (by omega), out_eq s ws hl hw]
    exact ⟨by rw [← out_eq s ws hl hw]; omega, ⟨rfl, by omega⟩, by omega, flat_u8 _, rfl⟩
  | succ d ih =>
    intro i ws hi hl hw
    have hlen : (ws.map AC.u8).length = 20 := by simpa using hl
    have e4 := tdiv_nat i 4
    have m4 := tmod_nat i 4
    have g0 := St.list_get s (i := i / 4) (by omega)
    have es : Int.toNat (24 - ((i % 4 : Nat) : Int) * 8) = 24 - 8 * (i % 4) := by omega
    refine vc42c hX _ _ _ _ ⟨fun _ => ?_, fun h => absurd (of_decide_eq_false h) (by omega)⟩
    simp only [show Int.tdiv (i : Int) 4 = ((i / 4 : Nat) : Int) from e4, show Int.tmod (i : Int) 4 = ((i % 4 : Nat) : Int) from m4, ixi, g0, es, asU32, layS_u8, hlen]
    (repeat' apply And.intro) <;> first | trivial | decide | (unfold in64; omega) | omega | exact hz | exact flat_u8 _ | exact flat_u32 _ | skip
    refine ⟨?_⟩
    exact ih (i + 1) (ws.set i (outB s i)) (by omega) (by rw [List.length_set]; exact hl) (fun j hj => by
        by_cases e : i = j
        · subst e; rw [getD_set_eq _ _ _ _ (by omega)]
        · rw [getD_set_ne _ _ _ _ _ e]; exact hw j (by omega))

theorem app1 (l : List (BitVec 8)) (x : BitVec 8) : l.map AC.u8 ++ List.take 1 (List.drop 0 [AC.u8 x]) = (l ++ [x]).map AC.u8 := by rw [List.map_append]; rfl
theorem lenB_take (x : BitVec 64) {i : Nat} (h : i < 8) : (lenB x).take (i + 1) = (lenB x).take i ++ [(x >>> (56 - 8 * i)).setWidth 8] := by
  match i, h with
  | 0, _ => rfl
  | 1, _ => rfl
  | 2, _ => rfl
  | 3, _ => rfl
  | 4, _ => rfl
  | 5, _ => rfl
  | 6, _ => rfl
  | 7, _ => rfl
theorem lenB_all (x : BitVec 64) : (lenB x).take 8 = lenB x := rfl

theorem l42b {X : Ctx} (hX : X.P = Try.prog) (s : Sm) (hs : s.left.length = 64) (zs : List AC) (hz : Flat zs) (hzl : zs.length = 20) (x : BitVec 64) (l : List (BitVec 8)) (hll : l.length ≤ 1000) : ∀ (d i : Nat), i + d = 8 →
    KRun X 42 0 (Is (.agg ((outF (addF s (l ++ lenB x)).h).map AC.u8))) (kOf Try.f42 1) (mkS 58 [(1, .one (.ptr 0 0)), (2, .one (.ptr 1 0)), (3, .one (.u64 x)), (4, .one (.gs 2 (l.length + i) 1)), (24, .one (.i64 i))]) [some s.cells, some zs, some ((l ++ (lenB x).take i).map AC.u8)] := by
  have hlen : ∀ i, i ≤ 8 → ((l ++ (lenB x).take i).map AC.u8).length = l.length + i := fun i hi => by
    rw [List.length_map, List.length_append, List.length_take]
    have : (lenB x).length = 8 := rfl
    omega
  intro d
  induction d with
  | zero =>
    intro i hi
    have hi : i = 8 := by omega
    subst hi
    refine vc42b hX _ _ _ _ _ _ ⟨fun h => absurd (of_decide_eq_true h) (by decide), fun _ => ?_⟩
    have hc : s.cells.length = 70 := by rw [s.len, hs]
    have hc2 : (List.take 70 (List.drop 0 s.cells)) = s.cells := by rw [List.drop_zero, List.take_of_length_le (by omega)]
    have ht : (List.take ((l.length + 8) * 1) (List.drop 0 ((l ++ (lenB x).take 8).map AC.u8))) = (l ++ lenB x).map AC.u8 := by
      rw [List.drop_zero, List.take_of_length_le (by rw [hlen 8 (by omega)]; omega)]
      rfl
    have h3 : (addF s (l ++ lenB x)).left.length = 64 := by rw [addF_left, hs]
    rw [hc2, ht, map_as8, smOf_cells s hs, hide_eq, smOf_cells _ h3, hlen 8 (by omega)]
    refine ⟨by omega, s.flat, by omega, flat_u8 _, ⟨rfl, hc, allU8_map _, ?_⟩, Sm.flat _, ⟨rfl, by rw [Sm.len, h3]⟩, ⟨rfl, Nat.le_refl _⟩, hz, exactFlat rfl, exactFlat rfl, ⟨?_⟩⟩
    · rw [List.length_map, List.length_append]; rfl
    · exact l42c hX (addF s (l ++ lenB x)).h zs hz hzl 20 0 (List.replicate 20 0) (by omega) (by simp) (fun j hj => by omega)
  | succ d ih =>
    intro i hi
    have hc : s.cells.length = 70 := by rw [s.len, hs]
    have es : Int.toNat (56 - 8 * (i : Int)) = 56 - 8 * i := by omega
    refine vc42b hX _ _ _ _ _ _ ⟨fun _ => ?_, fun h => absurd (of_decide_eq_false h) (by omega)⟩
    simp only [es, app1, hlen i (by omega)]
    rw [List.append_assoc, ← lenB_take x (by omega)]
    (repeat' apply And.intro) <;> first | trivial | decide | (unfold in64; omega) | omega | exact hz | exact flat_u8 _ | exact s.flat | skip
    refine ⟨?_⟩
    exact ih (i + 1) (by omega)
theorem l42a {X : Ctx} (hX : X.P = Try.prog) (s : Sm) (hs : s.left.length = 64) (zs : List AC) (hz : Flat zs) (hzl : zs.length = 20) : ∀ (d i : Nat), i + d = padZ s.n.toNat →
    KRun X 42 0 (Is (.agg ((digF s).map AC.u8))) (kOf Try.f42 0) (mkS 58 [(1, .one (.ptr 0 0)), (2, .one (.ptr 1 0)), (3, .one (.u64 (s.n * 8#64))), (4, .one (.gs 2 (i + 1) 1))]) [some s.cells, some zs, some ((128#8 :: List.replicate i 0#8).map AC.u8)] := by
  have hg := Sm.get_n s hs
  have hmod : ∀ i : Nat, i ≤ 64 → ((s.n + BitVec.ofInt 64 ((i + 1 : Nat) : Int)) % BitVec.ofInt 64 64 = BitVec.ofInt 64 56 ↔ (s.n.toNat + (i + 1)) % 64 = 56) := fun i hi => by
    have e1 : (BitVec.ofInt 64 64).toNat = 64 := rfl
    have e0 : (BitVec.ofInt 64 56).toNat = 56 := rfl
    rw [← BitVec.toNat_inj, BitVec.toNat_umod, e1, e0, BitVec.toNat_add, BitVec.ofInt_natCast, BitVec.toNat_ofNat]
    omega
  have hpz : padZ s.n.toNat < 64 := Nat.mod_lt _ (by decide)
  intro d
  induction d with
  | zero =>
    intro i hi
    have hi : i = padZ s.n.toNat := by omega
    have hx : (s.n.toNat + (i + 1)) % 64 = 56 := by unfold padZ at hi; omega
    refine vc42a hX _ _ _ _ _ ?_
    simp only [hg, asU64_u64]
    refine ⟨trivial, by decide, fun h => ?_, fun h => ⟨s.flat, hz, flat_u8 _, ⟨?_⟩⟩⟩
    · rw [decide_eq_true ((hmod i (by omega)).2 hx)] at h; cases h
    · have := l42b hX s hs zs hz hzl (s.n * 8#64) (128#8 :: List.replicate i 0#8) (by rw [List.length_cons, List.length_replicate]; omega) 8 0 rfl
      rw [show digF s = outF (addF s (128#8 :: List.replicate i 0#8 ++ lenB (s.n * 8#64))).h by unfold digF tailF; rw [← hi]; rfl]
      rw [show (128#8 :: List.replicate i 0#8).length + 0 = i + 1 by rw [List.length_cons, List.length_replicate]] at this
      rw [List.take_zero, List.append_nil] at this
      exact this
  | succ d ih =>
    intro i hi
    have hx : ¬ (s.n.toNat + (i + 1)) % 64 = 56 := by unfold padZ at hi; omega
    refine vc42a hX _ _ _ _ _ ?_
    simp only [hg, asU64_u64]
    have ha : (128#8 :: List.replicate i 0#8).map AC.u8 ++ List.take 1 (List.drop 0 [cvC (.int .u8 0)]) = (128#8 :: List.replicate (i + 1) 0#8).map AC.u8 := by
      have := app1 (128#8 :: List.replicate i 0#8) 0#8
      rw [List.cons_append, ← List.replicate_succ'] at this
      exact this
    rw [ha]
    refine ⟨trivial, by decide, fun h => ⟨by decide, by omega, ?_, s.flat, hz, flat_u8 _, ⟨?_⟩⟩, fun h => ?_⟩
    · rw [List.length_map, List.length_cons, List.length_replicate]; omega
    · exact ih (i + 1) (by omega)
    · rw [decide_eq_false (fun e => hx ((hmod i (by omega)).1 e))] at h; cases h
theorem s42 (s : Sm) (hs : s.left.length = 64) : Spec Try.prog 42 [.agg s.cells] [] (Is (.agg ((digF s).map AC.u8))) := by
  refine Spec.of_run ok42 fun X hX => vc42 hX _ ?_
  have hg := Sm.get_n s hs
  simp only [hg, asU64_u64]
  refine ⟨trivial, s.flat, exactFlat rfl, exactFlat rfl, ⟨?_⟩⟩
  refine l42a hX s hs _ ?_ ?_ (padZ s.n.toNat) 0 (by omega)
  · exact exactFlat rfl
  · rfl
end DH
