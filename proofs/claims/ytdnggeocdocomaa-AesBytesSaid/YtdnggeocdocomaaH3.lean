/- Walks of functions, each by evaluation: what each returns. -/
import Derived.Test.YtdnggeocdocomaaH2
set_option linter.unusedVariables false
set_option linter.unusedSimpArgs false
noncomputable section
namespace DH
open Go Go.Proofs

/-! What a Sum is, byte by byte. -/
def st0 : St := ⟨1732584193#32, 4023233417#32, 2562383102#32, 271733878#32, 3285377520#32⟩
def St.xr (s t : St) : St := ⟨s.a ^^^ t.a, s.b ^^^ t.b, s.c ^^^ t.c, s.d ^^^ t.d, s.e ^^^ t.e⟩
structure Sm where
  h : St
  left : List (BitVec 8)
  n : BitVec 64
def Sm.cells (s : Sm) : List AC := (s.h.xr st0).list.map AC.u32 ++ s.left.map AC.u8 ++ [.u64 s.n]
def nwS : Sm := ⟨st0, List.replicate 64 0, 0⟩
def step1 (s : Sm) (x : BitVec 8) : Sm :=
  ⟨if (s.n + 1#64).toNat % 64 = 0 then blockF s.h (s.left.set (s.n.toNat % 64) x) else s.h, s.left.set (s.n.toNat % 64) x, s.n + 1#64⟩
def addF (s : Sm) (b : List (BitVec 8)) : Sm := b.foldl step1 s
def smOf (cs : List AC) : Sm :=
  ⟨St.xr ⟨asU32 (gt .any cs 0), asU32 (gt .any cs 1), asU32 (gt .any cs 2), asU32 (gt .any cs 3), asU32 (gt .any cs 4)⟩ st0, ((cs.drop 5).take 64).map asU8, asU64 (gt .any cs 69)⟩

noncomputable def inlH : Inl := fun f => match f with
  | 96 => some (Try.f96, [])
  | 40 => some (Try.f40, [])
  | 36 => some (Try.f36, [])
  | _ => none
theorem inlH_ok : InlOk Try.prog inlH := by
  intro f fn hs h
  unfold inlH at h
  split at h <;> first | (cases h; done) | (obtain ⟨rfl, _⟩ := Prod.mk.inj (Option.some.inj h); first | exact ok96 | exact ok40 | exact ok36)
def symH (t : TypeId) : Bool := match t with | 51 => true | 46 => true | t => symR t
noncomputable def baseH (T : Tab) (mf : FuncId → Option MF) (M : TabM) : Env := ⟨tys, symH, false, T, [], mf, M⟩
theorem baseH_ok (T : Tab) (mf : FuncId → Option MF) (M : TabM) : EnvOk Try.prog (baseH T mf M) := EnvOk.of tysOk
theorem baseH_call {T : Tab} {mf : FuncId → Option MF} {M : TabM} (hT : TabOk Try.prog T) (hM : TabMOk Try.prog M) : CallOk Try.prog (baseH T mf M) :=
  ⟨hT, fun f mf xs m0 cs r m1 _ h hc => hM f xs m0 cs r m1 h hc⟩
noncomputable def envH (T : Tab) (mf : FuncId → Option MF) (M : TabM) : Env := inlE (baseH T mf M) inlH 2
theorem envH_ok (T : Tab) (mf : FuncId → Option MF) (M : TabM) : EnvOk Try.prog (envH T mf M) := inlE_envOk (baseH_ok T mf M) _ _
theorem envH_call {T : Tab} {mf : FuncId → Option MF} {M : TabM} (hT : TabOk Try.prog T) (hM : TabMOk Try.prog M) : CallOk Try.prog (envH T mf M) :=
  inlE_ok (baseH_ok T mf M) (baseH_call hT hM) mixed inlH_ok 2

noncomputable def T2 : Tab := fun f xs => match f, xs with
  | 95, [.agg [.u32 a, .u32 b, .u32 c, .u32 d, .u32 e], .one (.xs row 0 n)] => some ([allU8 row ∧ row.length = 64 ∧ n = 64], .agg [.u32 (blockF ⟨a, b, c, d, e⟩ (row.map asU8)).a, .u32 (blockF ⟨a, b, c, d, e⟩ (row.map asU8)).b, .u32 (blockF ⟨a, b, c, d, e⟩ (row.map asU8)).c, .u32 (blockF ⟨a, b, c, d, e⟩ (row.map asU8)).d, .u32 (blockF ⟨a, b, c, d, e⟩ (row.map asU8)).e])
  | 93, [.agg [.u32 a, .u32 b, .u32 c, .u32 d, .u32 e], .one (.xs row 0 n)] => some ([allU8 row ∧ row.length = 64 ∧ n = 64], .agg [.u32 (blockF ⟨a, b, c, d, e⟩ (row.map asU8)).a, .u32 (blockF ⟨a, b, c, d, e⟩ (row.map asU8)).b, .u32 (blockF ⟨a, b, c, d, e⟩ (row.map asU8)).c, .u32 (blockF ⟨a, b, c, d, e⟩ (row.map asU8)).d, .u32 (blockF ⟨a, b, c, d, e⟩ (row.map asU8)).e])
  | _, _ => none
theorem T2_ok : TabOk Try.prog T2 := by
  intro f xs cs r h hc
  unfold T2 at h
  split at h <;> first | (cases h; done) | (obtain ⟨rfl, rfl⟩ := Prod.mk.inj (Option.some.inj h))
  · rename_i a b c d e row n
    obtain ⟨h1, h2, rfl⟩ := hc.1
    have := s95 ⟨a, b, c, d, e⟩ (row.map asU8) (by rw [List.length_map]; exact h2)
    rw [← h1] at this
    exact ⟨⟨_, _, ok95⟩, this, exactB_ok rfl⟩
  · rename_i a b c d e row n
    obtain ⟨h1, h2, rfl⟩ := hc.1
    have := s93 ⟨a, b, c, d, e⟩ (row.map asU8) (by rw [List.length_map]; exact h2)
    rw [← h1] at this
    exact ⟨⟨_, _, ok93⟩, this, exactB_ok rfl⟩
set_option maxRecDepth 100000 in
theorem vc94 {X : Ctx} {Q : AV → Mem → Prop} (hX : X.P = Try.prog) (cs : List AC) (h : 5 ≤ 5 ∧ (5 = 5 ∧ 5 ≤ 5) ∧ (1 = 1 ∧ 1 ≤ 5) ∧ (1 = 1 ∧ 2 ≤ 5) ∧ (1 = 1 ∧ 3 ≤ 5) ∧ (1 = 1 ∧ 4 ≤ 5) ∧ (1 = 1 ∧ 5 ≤ 5) ∧ (5 = 5 ∧ 5 ≤ 5) ∧ Flat cs ∧ Flat [AC.u32 (0 : BitVec 32), AC.u32 (0 : BitVec 32), AC.u32 (0 : BitVec 32), AC.u32 (0 : BitVec 32), AC.u32 (0 : BitVec 32)] ∧ Flat (layS [AC.u32 (0 : BitVec 32), AC.u32 (0 : BitVec 32), AC.u32 (0 : BitVec 32), AC.u32 (0 : BitVec 32), AC.u32 (0 : BitVec 32)] 0 (List.take 5 (List.drop 0 (layS [AC.u32 (0 : BitVec 32), AC.u32 (0 : BitVec 32), AC.u32 (0 : BitVec 32), AC.u32 (0 : BitVec 32), AC.u32 (0 : BitVec 32)] 0 (lay (lay (lay (lay (lay [AC.u32 (0 : BitVec 32), AC.u32 (0 : BitVec 32), AC.u32 (0 : BitVec 32), AC.u32 (0 : BitVec 32), AC.u32 (0 : BitVec 32)] 0 [cvC (Value.int IntKind.u32 (1732584193 : Int))]) 1 [cvC (Value.int IntKind.u32 (4023233417 : Int))]) 2 [cvC (Value.int IntKind.u32 (2562383102 : Int))]) 3 [cvC (Value.int IntKind.u32 (271733878 : Int))]) 4 [cvC (Value.int IntKind.u32 (3285377520 : Int))]))))) ∧ KR X 94 0 Q (kOf Try.f94 0) (mkS 20 [(1, AV.one (AC.ptr 0 0)), (2, AV.one (AC.ptr 1 0)), (3, AV.one (AC.ptr 2 0)), (6, AV.one (AC.i64 (0 : Int)))]) [some cs, some [AC.u32 (0 : BitVec 32), AC.u32 (0 : BitVec 32), AC.u32 (0 : BitVec 32), AC.u32 (0 : BitVec 32), AC.u32 (0 : BitVec 32)], some [AC.u32 (BitVec.ofInt 32 (1732584193 : Int)), AC.u32 (BitVec.ofInt 32 (4023233417 : Int)), AC.u32 (BitVec.ofInt 32 (2562383102 : Int)), AC.u32 (BitVec.ofInt 32 (271733878 : Int)), AC.u32 (BitVec.ofInt 32 (3285377520 : Int))]]) : KRun X 94 0 Q ([.code (bodyOf Try.f94)]) (slots [.agg cs] Try.f94.ntmps) [] :=
  wpRun_ok (hX ▸ envH_ok T2 mf0 M0) (hX ▸ envH_call T2_ok M0_ok) (hX ▸ mixed) (hX ▸ ok94) LK_ok (cast (β := wpRun (envH T2 mf0 M0) [7] [(5, 9)] false (RS.mk Try.f94.results.toList 0 (CS.mk [] [] [0] [])) (LK X 94 0 Q true [(3, LS.mk [1, 2, 3, 6] (CS.mk [] [] [] []))]) Q 2000 ([.code (bodyOf Try.f94)]) (slots [.agg cs] Try.f94.ntmps) []) (by kernel_rfl) h)
set_option maxRecDepth 100000 in
theorem vc94a {X : Ctx} {Q : AV → Mem → Prop} (hX : X.P = Try.prog) (cs zs hr : List AC) (i : Int) (h : (decide (i < (5 : Int)) = true → ((0 : Int) ≤ i ∧ i < (↑5 : Int)) ∧ gt AC.any hr (0 + Int.toNat i * 1) = AC.u32 (asU32 (gt AC.any hr (0 + Int.toNat i * 1))) ∧ ((0 : Int) ≤ i ∧ i < (↑5 : Int)) ∧ gt AC.any cs (0 + Int.toNat i * 1) = AC.u32 (asU32 (gt AC.any cs (0 + Int.toNat i * 1))) ∧ ((0 : Int) ≤ i ∧ i < (↑5 : Int)) ∧ (1 = 1 ∧ 0 + Int.toNat i * 1 + 1 ≤ List.length hr) ∧ in64 (i + (1 : Int)) ∧ Flat cs ∧ Flat zs ∧ Flat (layS hr (0 + Int.toNat i * 1) [AC.u32 (asU32 (gt AC.any hr (0 + Int.toNat i * 1)) ^^^ asU32 (gt AC.any cs (0 + Int.toNat i * 1)))]) ∧ KR X 94 0 Q (kOf Try.f94 0) (mkS 20 [(1, AV.one (AC.ptr 0 0)), (2, AV.one (AC.ptr 1 0)), (3, AV.one (AC.ptr 2 0)), (6, AV.one (AC.i64 (i + (1 : Int))))]) [some cs, some zs, some (layS hr (0 + Int.toNat i * 1) [AC.u32 (asU32 (gt AC.any hr (0 + Int.toNat i * 1)) ^^^ asU32 (gt AC.any cs (0 + Int.toNat i * 1)))])]) ∧ (decide (i < (5 : Int)) = false → 5 ≤ List.length hr ∧ (List.length (List.take 5 (List.drop 0 hr)) = 5 ∧ 5 ≤ List.length zs) ∧ 5 ≤ List.length (layS zs 0 (List.take 5 (List.drop 0 hr))) ∧ flatAV (AV.agg (List.take 5 (List.drop 0 (layS zs 0 (List.take 5 (List.drop 0 hr)))))) ∧ Q (AV.agg (List.take 5 (List.drop 0 (layS zs 0 (List.take 5 (List.drop 0 hr)))))) [])) : KRun X 94 0 Q (kOf Try.f94 0) (mkS 20 [(1, .one (.ptr 0 0)), (2, .one (.ptr 1 0)), (3, .one (.ptr 2 0)), (6, .one (.i64 i))]) [some cs, some zs, some hr] :=
  wpRun_ok (hX ▸ envH_ok T2 mf0 M0) (hX ▸ envH_call T2_ok M0_ok) (hX ▸ mixed) (hX ▸ ok94) LK_ok (cast (β := wpRun (envH T2 mf0 M0) [7] [(5, 9)] false (RS.mk Try.f94.results.toList 0 (CS.mk [] [] [0] [])) (LK X 94 0 Q true [(3, LS.mk [1, 2, 3, 6] (CS.mk [] [] [] []))]) Q 2000 (kOf Try.f94 0) (mkS 20 [(1, .one (.ptr 0 0)), (2, .one (.ptr 1 0)), (3, .one (.ptr 2 0)), (6, .one (.i64 i))]) [some cs, some zs, some hr]) (by kernel_rfl) h)

theorem gt_app_l {α : Type} (d : α) : ∀ (a b : List α) (i : Nat), i < a.length → gt d (a ++ b) i = gt d a i
  | [], _, _, h => by simp at h
  | x :: a, b, 0, _ => rfl
  | x :: a, b, i + 1, h => gt_app_l d a b i (by simpa using h)
theorem gt_app_r {α : Type} (d : α) : ∀ (a b : List α) (i : Nat), gt d (a ++ b) (a.length + i) = gt d b i
  | [], _, _ => by simp
  | x :: a, b, i => by
    rw [List.length_cons, show a.length + 1 + i = (a.length + i) + 1 by omega]
    exact gt_app_r d a b i
theorem St.list_get (s : St) {i : Nat} (h : i < 5) : gt .any (s.list.map AC.u32) i = .u32 (s.list.getD i 0) := gt_u32_at _ _ h
theorem Sm.flat (s : Sm) : Flat s.cells := flat_append (flat_append (flat_u32 _) (flat_u8 _)) (exactFlat rfl)
theorem Sm.len (s : Sm) : s.cells.length = 6 + s.left.length := by
  unfold Sm.cells
  rw [List.length_append, List.length_append, List.length_map, List.length_map]
  show 5 + _ + 1 = _
  omega
theorem Sm.get_h (s : Sm) {i : Nat} (h : i < 5) : gt .any s.cells i = .u32 ((s.h.xr st0).list.getD i 0) := by
  unfold Sm.cells
  rw [gt_app_l _ _ _ _ (by rw [List.length_append]; show i < 5 + _; omega), gt_app_l _ _ _ _ (show i < 5 from h), St.list_get _ h]
theorem Sm.get_n (s : Sm) (hl : s.left.length = 64) : gt .any s.cells 69 = AC.u64 s.n := by
  unfold Sm.cells
  have := gt_app_r AC.any ((s.h.xr st0).list.map AC.u32 ++ s.left.map AC.u8) [.u64 s.n] 0
  rw [List.length_append, List.length_map, List.length_map, hl] at this
  exact this
theorem Sm.get_left (s : Sm) (hl : s.left.length = 64) : (s.cells.drop 5).take 64 = s.left.map AC.u8 := by
  unfold Sm.cells
  rw [List.append_assoc, List.drop_append_of_le_length (by show 5 ≤ 5; omega)]
  show (s.left.map AC.u8 ++ [AC.u64 s.n]).take 64 = _
  rw [List.take_append_of_le_length (by rw [List.length_map]; omega), List.take_of_length_le (by rw [List.length_map]; omega)]
theorem xrr (s t : St) : (s.xr t).xr t = s := by
  unfold St.xr
  simp only [BitVec.xor_assoc, BitVec.xor_self, BitVec.xor_zero]
theorem smOf_cells (s : Sm) (hl : s.left.length = 64) : smOf s.cells = s := by
  unfold smOf
  rw [s.get_h (i := 0) (by decide), s.get_h (i := 1) (by decide), s.get_h (i := 2) (by decide), s.get_h (i := 3) (by decide), s.get_h (i := 4) (by decide), s.get_n hl, s.get_left hl, map_as8]
  show Sm.mk ((s.h.xr st0).xr st0) s.left s.n = s
  rw [xrr]

def xorR (hs xs : List (BitVec 32)) : Nat → List (BitVec 32)
  | 0 => hs
  | n + 1 => (xorR hs xs n).set n ((xorR hs xs n).getD n 0 ^^^ xs.getD n 0)
theorem xorR_len (hs xs : List (BitVec 32)) : ∀ n, (xorR hs xs n).length = hs.length
  | 0 => rfl
  | n + 1 => by rw [xorR, List.length_set, xorR_len hs xs n]
theorem xorR_5 (s t : St) : xorR s.list t.list 5 = (s.xr t).list := rfl
theorem xr_comm (s t : St) : s.xr t = t.xr s := by
  unfold St.xr
  simp only [BitVec.xor_comm]

theorem l94 {X : Ctx} (hX : X.P = Try.prog) (s : Sm) (hl : s.left.length = 64) : ∀ (d i : Nat), i + d = 5 →
    KRun X 94 0 (Is (.agg (s.h.list.map AC.u32))) (kOf Try.f94 0) (mkS 20 [(1, .one (.ptr 0 0)), (2, .one (.ptr 1 0)), (3, .one (.ptr 2 0)), (6, .one (.i64 i))])
      [some s.cells, some [.u32 0, .u32 0, .u32 0, .u32 0, .u32 0], some ((xorR st0.list (s.h.xr st0).list i).map AC.u32)] := by
  intro d
  induction d with
  | zero =>
    intro i hi
    have hi : i = 5 := by omega
    subst hi
    refine vc94a hX _ _ _ _ ⟨fun h => absurd (of_decide_eq_true h) (by decide), fun _ => ?_⟩
    rw [xorR_5, xr_comm, xrr]
    exact ⟨Nat.le_refl 5, ⟨rfl, Nat.le_refl 5⟩, Nat.le_refl 5, exactFlat rfl, rfl⟩
  | succ d ih =>
    intro i hi
    have hl : (xorR st0.list (s.h.xr st0).list i).length = 5 := xorR_len _ _ i
    have hlen : ((xorR st0.list (s.h.xr st0).list i).map AC.u32).length = 5 := by simpa using hl
    have g0 := gt_u32_at (xorR st0.list (s.h.xr st0).list i) i (by omega)
    have g1 := s.get_h (i := i) (by omega)
    refine vc94a hX _ _ _ _ ⟨fun _ => ?_, fun h => absurd (of_decide_eq_false h) (by omega)⟩
    simp only [ixi, g0, g1, asU32, layS_u32, hlen]
    (repeat' apply And.intro) <;> first | trivial | (unfold in64; omega) | omega | exact flat_u32 _ | exact s.flat | exact exactFlat rfl | skip
    refine ⟨?_⟩
    exact ih (i + 1) (by omega)
theorem s94 (s : Sm) (hl : s.left.length = 64) : Spec Try.prog 94 [.agg s.cells] [] (Is (.agg (s.h.list.map AC.u32))) := by
  refine Spec.of_run ok94 fun X hX => vc94 hX _ ?_
  have := s.len
  (repeat' apply And.intro) <;> first | trivial | decide | omega | exact s.flat | exact exactFlat rfl | skip
  exact ⟨l94 hX s hl 5 0 rfl⟩

noncomputable def T3 : Tab := fun f xs => match f, xs with
  | 94, [.agg cs] => some ([cs = (smOf cs).cells ∧ cs.length = 70], .agg [.u32 (smOf cs).h.a, .u32 (smOf cs).h.b, .u32 (smOf cs).h.c, .u32 (smOf cs).h.d, .u32 (smOf cs).h.e])
  | f, xs => T2 f xs
theorem T3_ok : TabOk Try.prog T3 := by
  intro f xs cs r h hc
  unfold T3 at h
  split at h
  · obtain ⟨rfl, rfl⟩ := Prod.mk.inj (Option.some.inj h)
    obtain ⟨h1, h2⟩ := hc.1
    rename_i cs
    have hl : (smOf cs).left.length = 64 := by have := (smOf cs).len; rw [← h1] at this; omega
    have := s94 (smOf cs) hl
    rw [← h1] at this
    exact ⟨⟨_, _, ok94⟩, this, exactB_ok rfl⟩
  · exact T2_ok _ _ _ _ h hc
set_option maxRecDepth 100000 in
theorem vc41 {X : Ctx} {Q : AV → Mem → Prop} (hX : X.P = Try.prog) (cs row : List AC) (n : Nat) (h : 70 ≤ List.length cs ∧ Flat (List.take 70 (List.drop 0 cs)) ∧ (List.take 70 (List.drop 0 cs) = Sm.cells (smOf (List.take 70 (List.drop 0 cs))) ∧ List.length (List.take 70 (List.drop 0 cs)) = 70) ∧ (5 = 5 ∧ 5 ≤ 5) ∧ Flat cs ∧ Flat ([AC.u32 (0 : BitVec 32), AC.u32 (0 : BitVec 32), AC.u32 (0 : BitVec 32), AC.u32 (0 : BitVec 32), AC.u32 (0 : BitVec 32)] ++ (List.replicate 64 (AC.u8 (0 : BitVec 8)) ++ [AC.u64 (0 : BitVec 64)])) ∧ KR X 41 0 Q (kOf Try.f41 0) (mkS 53 [(1, AV.one (AC.xs row 0 n)), (2, AV.one (AC.ptr 0 0)), (4, AV.one (AC.ptr 1 0)), (5, AV.one (AC.ptr 2 0))]) [some cs, some ([AC.u32 (0 : BitVec 32), AC.u32 (0 : BitVec 32), AC.u32 (0 : BitVec 32), AC.u32 (0 : BitVec 32), AC.u32 (0 : BitVec 32)] ++ (List.replicate 64 (AC.u8 (0 : BitVec 8)) ++ [AC.u64 (0 : BitVec 64)])), some [AC.u32 (St.a (Sm.h (smOf (List.take 70 (List.drop 0 cs))))), AC.u32 (St.b (Sm.h (smOf (List.take 70 (List.drop 0 cs))))), AC.u32 (St.c (Sm.h (smOf (List.take 70 (List.drop 0 cs))))), AC.u32 (St.d (Sm.h (smOf (List.take 70 (List.drop 0 cs))))), AC.u32 (St.e (Sm.h (smOf (List.take 70 (List.drop 0 cs)))))]]) : KRun X 41 0 Q ([.code (bodyOf Try.f41)]) (slots [.agg cs, .one (.xs row 0 n)] Try.f41.ntmps) [] :=
  wpRun_ok (hX ▸ envH_ok T3 mf0 M0) (hX ▸ envH_call T3_ok M0_ok) (hX ▸ mixed) (hX ▸ ok41) LK_ok (cast (β := wpRun (envH T3 mf0 M0) [13, 33, 40] [(7, 4)] false (RS.mk Try.f41.results.toList 0 (CS.mk [] [] [0] [])) (LK X 41 0 Q true [(2, LS.mk [1, 2, 4, 5] (CS.mk [] [true, true, false] [] [])), (9, LS.mk [2, 4, 5, 38, 39] (CS.mk [] [] [] []))]) Q 2000 ([.code (bodyOf Try.f41)]) (slots [.agg cs, .one (.xs row 0 n)] Try.f41.ntmps) []) (by kernel_rfl) h)
set_option maxRecDepth 100000 in
theorem vc41a {X : Ctx} {Q : AV → Mem → Prop} (hX : X.P = Try.prog) (cs zs row : List AC) (h0 h1 h2 h3 h4 : BitVec 32) (o n : Nat) (h : (decide ((0 : Int) < (↑n : Int)) = true → gt AC.any cs 69 = AC.u64 (asU64 (gt AC.any cs 69)) ∧ BitVec.ofInt 64 (64 : Int) ≠ (0 : BitVec 64) ∧ ((0 : Int) ≤ (↑(BitVec.toNat (asU64 (gt AC.any cs 69) % BitVec.ofInt 64 (64 : Int))) : Int) ∧ (↑(BitVec.toNat (asU64 (gt AC.any cs 69) % BitVec.ofInt 64 (64 : Int))) : Int) ≤ (↑64 : Int) ∧ (↑64 : Int) ≤ (↑64 : Int)) ∧ o + n * 1 ≤ List.length row ∧ 5 + Int.toNat (↑(BitVec.toNat (asU64 (gt AC.any cs 69) % BitVec.ofInt 64 (64 : Int))) : Int) * 1 + (64 - Int.toNat (↑(BitVec.toNat (asU64 (gt AC.any cs 69) % BitVec.ofInt 64 (64 : Int))) : Int)) * 1 ≤ List.length cs ∧ ((0 : Int) ≤ (↑(min n (64 - Int.toNat (↑(BitVec.toNat (asU64 (gt AC.any cs 69) % BitVec.ofInt 64 (64 : Int))) : Int))) : Int) ∧ (↑(min n (64 - Int.toNat (↑(BitVec.toNat (asU64 (gt AC.any cs 69) % BitVec.ofInt 64 (64 : Int))) : Int))) : Int) ≤ (↑n : Int) ∧ (↑n : Int) ≤ (↑n : Int)) ∧ gt AC.any (lay cs (5 + Int.toNat (↑(BitVec.toNat (asU64 (gt AC.any cs 69) % BitVec.ofInt 64 (64 : Int))) : Int) * 1) (List.take (min n (64 - Int.toNat (↑(BitVec.toNat (asU64 (gt AC.any cs 69) % BitVec.ofInt 64 (64 : Int))) : Int)) * 1) (List.take (n * 1) (List.drop o row)))) 69 = AC.u64 (asU64 (gt AC.any (lay cs (5 + Int.toNat (↑(BitVec.toNat (asU64 (gt AC.any cs 69) % BitVec.ofInt 64 (64 : Int))) : Int) * 1) (List.take (min n (64 - Int.toNat (↑(BitVec.toNat (asU64 (gt AC.any cs 69) % BitVec.ofInt 64 (64 : Int))) : Int)) * 1) (List.take (n * 1) (List.drop o row)))) 69)) ∧ (1 = 1 ∧ 70 ≤ List.length (lay cs (5 + Int.toNat (↑(BitVec.toNat (asU64 (gt AC.any cs 69) % BitVec.ofInt 64 (64 : Int))) : Int) * 1) (List.take (min n (64 - Int.toNat (↑(BitVec.toNat (asU64 (gt AC.any cs 69) % BitVec.ofInt 64 (64 : Int))) : Int)) * 1) (List.take (n * 1) (List.drop o row))))) ∧ gt AC.any (layS (lay cs (5 + Int.toNat (↑(BitVec.toNat (asU64 (gt AC.any cs 69) % BitVec.ofInt 64 (64 : Int))) : Int) * 1) (List.take (min n (64 - Int.toNat (↑(BitVec.toNat (asU64 (gt AC.any cs 69) % BitVec.ofInt 64 (64 : Int))) : Int)) * 1) (List.take (n * 1) (List.drop o row)))) 69 [AC.u64 (asU64 (gt AC.any (lay cs (5 + Int.toNat (↑(BitVec.toNat (asU64 (gt AC.any cs 69) % BitVec.ofInt 64 (64 : Int))) : Int) * 1) (List.take (min n (64 - Int.toNat (↑(BitVec.toNat (asU64 (gt AC.any cs 69) % BitVec.ofInt 64 (64 : Int))) : Int)) * 1) (List.take (n * 1) (List.drop o row)))) 69) + BitVec.ofInt 64 (↑(min n (64 - Int.toNat (↑(BitVec.toNat (asU64 (gt AC.any cs 69) % BitVec.ofInt 64 (64 : Int))) : Int))) : Int))]) 69 = AC.u64 (asU64 (gt AC.any (layS (lay cs (5 + Int.toNat (↑(BitVec.toNat (asU64 (gt AC.any cs 69) % BitVec.ofInt 64 (64 : Int))) : Int) * 1) (List.take (min n (64 - Int.toNat (↑(BitVec.toNat (asU64 (gt AC.any cs 69) % BitVec.ofInt 64 (64 : Int))) : Int)) * 1) (List.take (n * 1) (List.drop o row)))) 69 [AC.u64 (asU64 (gt AC.any (lay cs (5 + Int.toNat (↑(BitVec.toNat (asU64 (gt AC.any cs 69) % BitVec.ofInt 64 (64 : Int))) : Int) * 1) (List.take (min n (64 - Int.toNat (↑(BitVec.toNat (asU64 (gt AC.any cs 69) % BitVec.ofInt 64 (64 : Int))) : Int)) * 1) (List.take (n * 1) (List.drop o row)))) 69) + BitVec.ofInt 64 (↑(min n (64 - Int.toNat (↑(BitVec.toNat (asU64 (gt AC.any cs 69) % BitVec.ofInt 64 (64 : Int))) : Int))) : Int))]) 69)) ∧ BitVec.ofInt 64 (64 : Int) ≠ (0 : BitVec 64) ∧ (decide (asU64 (gt AC.any (layS (lay cs (5 + Int.toNat (↑(BitVec.toNat (asU64 (gt AC.any cs 69) % BitVec.ofInt 64 (64 : Int))) : Int) * 1) (List.take (min n (64 - Int.toNat (↑(BitVec.toNat (asU64 (gt AC.any cs 69) % BitVec.ofInt 64 (64 : Int))) : Int)) * 1) (List.take (n * 1) (List.drop o row)))) 69 [AC.u64 (asU64 (gt AC.any (lay cs (5 + Int.toNat (↑(BitVec.toNat (asU64 (gt AC.any cs 69) % BitVec.ofInt 64 (64 : Int))) : Int) * 1) (List.take (min n (64 - Int.toNat (↑(BitVec.toNat (asU64 (gt AC.any cs 69) % BitVec.ofInt 64 (64 : Int))) : Int)) * 1) (List.take (n * 1) (List.drop o row)))) 69) + BitVec.ofInt 64 (↑(min n (64 - Int.toNat (↑(BitVec.toNat (asU64 (gt AC.any cs 69) % BitVec.ofInt 64 (64 : Int))) : Int))) : Int))]) 69) % BitVec.ofInt 64 (64 : Int) = BitVec.ofInt 64 (0 : Int)) = true → 5 ≤ 5 ∧ ((0 : Int) ≤ (↑0 : Int) ∧ (↑0 : Int) ≤ (↑64 : Int) ∧ (↑64 : Int) ≤ (↑64 : Int)) ∧ Flat (List.take 5 (List.drop 0 [AC.u32 h0, AC.u32 h1, AC.u32 h2, AC.u32 h3, AC.u32 h4])) ∧ 69 ≤ List.length (layS (lay cs (5 + Int.toNat (↑(BitVec.toNat (asU64 (gt AC.any cs 69) % BitVec.ofInt 64 (64 : Int))) : Int) * 1) (List.take (min n (64 - Int.toNat (↑(BitVec.toNat (asU64 (gt AC.any cs 69) % BitVec.ofInt 64 (64 : Int))) : Int)) * 1) (List.take (n * 1) (List.drop o row)))) 69 [AC.u64 (asU64 (gt AC.any (lay cs (5 + Int.toNat (↑(BitVec.toNat (asU64 (gt AC.any cs 69) % BitVec.ofInt 64 (64 : Int))) : Int) * 1) (List.take (min n (64 - Int.toNat (↑(BitVec.toNat (asU64 (gt AC.any cs 69) % BitVec.ofInt 64 (64 : Int))) : Int)) * 1) (List.take (n * 1) (List.drop o row)))) 69) + BitVec.ofInt 64 (↑(min n (64 - Int.toNat (↑(BitVec.toNat (asU64 (gt AC.any cs 69) % BitVec.ofInt 64 (64 : Int))) : Int))) : Int))]) ∧ Flat (List.take 64 (List.drop 5 (layS (lay cs (5 + Int.toNat (↑(BitVec.toNat (asU64 (gt AC.any cs 69) % BitVec.ofInt 64 (64 : Int))) : Int) * 1) (List.take (min n (64 - Int.toNat (↑(BitVec.toNat (asU64 (gt AC.any cs 69) % BitVec.ofInt 64 (64 : Int))) : Int)) * 1) (List.take (n * 1) (List.drop o row)))) 69 [AC.u64 (asU64 (gt AC.any (lay cs (5 + Int.toNat (↑(BitVec.toNat (asU64 (gt AC.any cs 69) % BitVec.ofInt 64 (64 : Int))) : Int) * 1) (List.take (min n (64 - Int.toNat (↑(BitVec.toNat (asU64 (gt AC.any cs 69) % BitVec.ofInt 64 (64 : Int))) : Int)) * 1) (List.take (n * 1) (List.drop o row)))) 69) + BitVec.ofInt 64 (↑(min n (64 - Int.toNat (↑(BitVec.toNat (asU64 (gt AC.any cs 69) % BitVec.ofInt 64 (64 : Int))) : Int))) : Int))]))) ∧ (allU8 (List.take 64 (List.drop 5 (layS (lay cs (5 + Int.toNat (↑(BitVec.toNat (asU64 (gt AC.any cs 69) % BitVec.ofInt 64 (64 : Int))) : Int) * 1) (List.take (min n (64 - Int.toNat (↑(BitVec.toNat (asU64 (gt AC.any cs 69) % BitVec.ofInt 64 (64 : Int))) : Int)) * 1) (List.take (n * 1) (List.drop o row)))) 69 [AC.u64 (asU64 (gt AC.any (lay cs (5 + Int.toNat (↑(BitVec.toNat (asU64 (gt AC.any cs 69) % BitVec.ofInt 64 (64 : Int))) : Int) * 1) (List.take (min n (64 - Int.toNat (↑(BitVec.toNat (asU64 (gt AC.any cs 69) % BitVec.ofInt 64 (64 : Int))) : Int)) * 1) (List.take (n * 1) (List.drop o row)))) 69) + BitVec.ofInt 64 (↑(min n (64 - Int.toNat (↑(BitVec.toNat (asU64 (gt AC.any cs 69) % BitVec.ofInt 64 (64 : Int))) : Int))) : Int))]))) ∧ List.length (List.take 64 (List.drop 5 (layS (lay cs (5 + Int.toNat (↑(BitVec.toNat (asU64 (gt AC.any cs 69) % BitVec.ofInt 64 (64 : Int))) : Int) * 1) (List.take (min n (64 - Int.toNat (↑(BitVec.toNat (asU64 (gt AC.any cs 69) % BitVec.ofInt 64 (64 : Int))) : Int)) * 1) (List.take (n * 1) (List.drop o row)))) 69 [AC.u64 (asU64 (gt AC.any (lay cs (5 + Int.toNat (↑(BitVec.toNat (asU64 (gt AC.any cs 69) % BitVec.ofInt 64 (64 : Int))) : Int) * 1) (List.take (min n (64 - Int.toNat (↑(BitVec.toNat (asU64 (gt AC.any cs 69) % BitVec.ofInt 64 (64 : Int))) : Int)) * 1) (List.take (n * 1) (List.drop o row)))) 69) + BitVec.ofInt 64 (↑(min n (64 - Int.toNat (↑(BitVec.toNat (asU64 (gt AC.any cs 69) % BitVec.ofInt 64 (64 : Int))) : Int))) : Int))]))) = 64 ∧ 64 = 64) ∧ (5 = 5 ∧ 5 ≤ 5) ∧ Flat (layS (lay cs (5 + Int.toNat (↑(BitVec.toNat (asU64 (gt AC.any cs 69) % BitVec.ofInt 64 (64 : Int))) : Int) * 1) (List.take (min n (64 - Int.toNat (↑(BitVec.toNat (asU64 (gt AC.any cs 69) % BitVec.ofInt 64 (64 : Int))) : Int)) * 1) (List.take (n * 1) (List.drop o row)))) 69 [AC.u64 (asU64 (gt AC.any (lay cs (5 + Int.toNat (↑(BitVec.toNat (asU64 (gt AC.any cs 69) % BitVec.ofInt 64 (64 : Int))) : Int) * 1) (List.take (min n (64 - Int.toNat (↑(BitVec.toNat (asU64 (gt AC.any cs 69) % BitVec.ofInt 64 (64 : Int))) : Int)) * 1) (List.take (n * 1) (List.drop o row)))) 69) + BitVec.ofInt 64 (↑(min n (64 - Int.toNat (↑(BitVec.toNat (asU64 (gt AC.any cs 69) % BitVec.ofInt 64 (64 : Int))) : Int))) : Int))]) ∧ Flat zs ∧ KR X 41 0 Q (kOf Try.f41 0) (mkS 53 [(1, AV.one (AC.xs row (o + Int.toNat (↑(min n (64 - Int.toNat (↑(BitVec.toNat (asU64 (gt AC.any cs 69) % BitVec.ofInt 64 (64 : Int))) : Int))) : Int) * 1) (Int.toNat (↑n : Int) - Int.toNat (↑(min n (64 - Int.toNat (↑(BitVec.toNat (asU64 (gt AC.any cs 69) % BitVec.ofInt 64 (64 : Int))) : Int))) : Int)))), (2, AV.one (AC.ptr 0 0)), (4, AV.one (AC.ptr 1 0)), (5, AV.one (AC.ptr 2 0))]) [some (layS (lay cs (5 + Int.toNat (↑(BitVec.toNat (asU64 (gt AC.any cs 69) % BitVec.ofInt 64 (64 : Int))) : Int) * 1) (List.take (min n (64 - Int.toNat (↑(BitVec.toNat (asU64 (gt AC.any cs 69) % BitVec.ofInt 64 (64 : Int))) : Int)) * 1) (List.take (n * 1) (List.drop o row)))) 69 [AC.u64 (asU64 (gt AC.any (lay cs (5 + Int.toNat (↑(BitVec.toNat (asU64 (gt AC.any cs 69) % BitVec.ofInt 64 (64 : Int))) : Int) * 1) (List.take (min n (64 - Int.toNat (↑(BitVec.toNat (asU64 (gt AC.any cs 69) % BitVec.ofInt 64 (64 : Int))) : Int)) * 1) (List.take (n * 1) (List.drop o row)))) 69) + BitVec.ofInt 64 (↑(min n (64 - Int.toNat (↑(BitVec.toNat (asU64 (gt AC.any cs 69) % BitVec.ofInt 64 (64 : Int))) : Int))) : Int))]), some zs, some [AC.u32 (St.a (blockF { a := h0, b := h1, c := h2, d := h3, e := h4 } (List.map asU8 (List.take 64 (List.drop 5 (layS (lay cs (5 + Int.toNat (↑(BitVec.toNat (asU64 (gt AC.any cs 69) % BitVec.ofInt 64 (64 : Int))) : Int) * 1) (List.take (min n (64 - Int.toNat (↑(BitVec.toNat (asU64 (gt AC.any cs 69) % BitVec.ofInt 64 (64 : Int))) : Int)) * 1) (List.take (n * 1) (List.drop o row)))) 69 [AC.u64 (asU64 (gt AC.any (lay cs (5 + Int.toNat (↑(BitVec.toNat (asU64 (gt AC.any cs 69) % BitVec.ofInt 64 (64 : Int))) : Int) * 1) (List.take (min n (64 - Int.toNat (↑(BitVec.toNat (asU64 (gt AC.any cs 69) % BitVec.ofInt 64 (64 : Int))) : Int)) * 1) (List.take (n * 1) (List.drop o row)))) 69) + BitVec.ofInt 64 (↑(min n (64 - Int.toNat (↑(BitVec.toNat (asU64 (gt AC.any cs 69) % BitVec.ofInt 64 (64 : Int))) : Int))) : Int))])))))), AC.u32 (St.b (blockF { a := h0, b := h1, c := h2, d := h3, e := h4 } (List.map asU8 (List.take 64 (List.drop 5 (layS (lay cs (5 + Int.toNat (↑(BitVec.toNat (asU64 (gt AC.any cs 69) % BitVec.ofInt 64 (64 : Int))) : Int) * 1) (List.take (min n (64 - Int.toNat (↑(BitVec.toNat (asU64 (gt AC.any cs 69) % BitVec.ofInt 64 (64 : Int))) : Int)) * 1) (List.take (n * 1) (List.drop o row)))) 69 [AC.u64 (asU64 (gt AC.any (lay cs (5 + Int.toNat (↑(BitVec.toNat (asU64 (gt AC.any cs 69) % BitVec.ofInt 64 (64 : Int))) : Int) * 1) (List.take (min n (64 - Int.toNat (↑(BitVec.toNat (asU64 (gt AC.any cs 69) % BitVec.ofInt 64 (64 : Int))) : Int)) * 1) (List.take (n * 1) (List.drop o row)))) 69) + BitVec.ofInt 64 (↑(min n (64 - Int.toNat (↑(BitVec.toNat (asU64 (gt AC.any cs 69) % BitVec.ofInt 64 (64 : Int))) : Int))) : Int))])))))), AC.u32 (St.c (blockF { a := h0, b := h1, c := h2, d := h3, e := h4 } (List.map asU8 (List.take 64 (List.drop 5 (layS (lay cs (5 + Int.toNat (↑(BitVec.toNat (asU64 (gt AC.any cs 69) % BitVec.ofInt 64 (64 : Int))) : Int) * 1) (List.take (min n (64 - Int.toNat (↑(BitVec.toNat (asU64 (gt AC.any cs 69) % BitVec.ofInt 64 (64 : Int))) : Int)) * 1) (List.take (n * 1) (List.drop o row)))) 69 [AC.u64 (asU64 (gt AC.any (lay cs (5 + Int.toNat (↑(BitVec.toNat (asU64 (gt AC.any cs 69) % BitVec.ofInt 64 (64 : Int))) : Int) * 1) (List.take (min n (64 - Int.toNat (↑(BitVec.toNat (asU64 (gt AC.any cs 69) % BitVec.ofInt 64 (64 : Int))) : Int)) * 1) (List.take (n * 1) (List.drop o row)))) 69) + BitVec.ofInt 64 (↑(min n (64 - Int.toNat (↑(BitVec.toNat (asU64 (gt AC.any cs 69) % BitVec.ofInt 64 (64 : Int))) : Int))) : Int))])))))), AC.u32 (St.d (blockF { a := h0, b := h1, c := h2, d := h3, e := h4 } (List.map asU8 (List.take 64 (List.drop 5 (layS (lay cs (5 + Int.toNat (↑(BitVec.toNat (asU64 (gt AC.any cs 69) % BitVec.ofInt 64 (64 : Int))) : Int) * 1) (List.take (min n (64 - Int.toNat (↑(BitVec.toNat (asU64 (gt AC.any cs 69) % BitVec.ofInt 64 (64 : Int))) : Int)) * 1) (List.take (n * 1) (List.drop o row)))) 69 [AC.u64 (asU64 (gt AC.any (lay cs (5 + Int.toNat (↑(BitVec.toNat (asU64 (gt AC.any cs 69) % BitVec.ofInt 64 (64 : Int))) : Int) * 1) (List.take (min n (64 - Int.toNat (↑(BitVec.toNat (asU64 (gt AC.any cs 69) % BitVec.ofInt 64 (64 : Int))) : Int)) * 1) (List.take (n * 1) (List.drop o row)))) 69) + BitVec.ofInt 64 (↑(min n (64 - Int.toNat (↑(BitVec.toNat (asU64 (gt AC.any cs 69) % BitVec.ofInt 64 (64 : Int))) : Int))) : Int))])))))), AC.u32 (St.e (blockF { a := h0, b := h1, c := h2, d := h3, e := h4 } (List.map asU8 (List.take 64 (List.drop 5 (layS (lay cs (5 + Int.toNat (↑(BitVec.toNat (asU64 (gt AC.any cs 69) % BitVec.ofInt 64 (64 : Int))) : Int) * 1) (List.take (min n (64 - Int.toNat (↑(BitVec.toNat (asU64 (gt AC.any cs 69) % BitVec.ofInt 64 (64 : Int))) : Int)) * 1) (List.take (n * 1) (List.drop o row)))) 69 [AC.u64 (asU64 (gt AC.any (lay cs (5 + Int.toNat (↑(BitVec.toNat (asU64 (gt AC.any cs 69) % BitVec.ofInt 64 (64 : Int))) : Int) * 1) (List.take (min n (64 - Int.toNat (↑(BitVec.toNat (asU64 (gt AC.any cs 69) % BitVec.ofInt 64 (64 : Int))) : Int)) * 1) (List.take (n * 1) (List.drop o row)))) 69) + BitVec.ofInt 64 (↑(min n (64 - Int.toNat (↑(BitVec.toNat (asU64 (gt AC.any cs 69) % BitVec.ofInt 64 (64 : Int))) : Int))) : Int))]))))))]]) ∧ (decide (asU64 (gt AC.any (layS (lay cs (5 + Int.toNat (↑(BitVec.toNat (asU64 (gt AC.any cs 69) % BitVec.ofInt 64 (64 : Int))) : Int) * 1) (List.take (min n (64 - Int.toNat (↑(BitVec.toNat (asU64 (gt AC.any cs 69) % BitVec.ofInt 64 (64 : Int))) : Int)) * 1) (List.take (n * 1) (List.drop o row)))) 69 [AC.u64 (asU64 (gt AC.any (lay cs (5 + Int.toNat (↑(BitVec.toNat (asU64 (gt AC.any cs 69) % BitVec.ofInt 64 (64 : Int))) : Int) * 1) (List.take (min n (64 - Int.toNat (↑(BitVec.toNat (asU64 (gt AC.any cs 69) % BitVec.ofInt 64 (64 : Int))) : Int)) * 1) (List.take (n * 1) (List.drop o row)))) 69) + BitVec.ofInt 64 (↑(min n (64 - Int.toNat (↑(BitVec.toNat (asU64 (gt AC.any cs 69) % BitVec.ofInt 64 (64 : Int))) : Int))) : Int))]) 69) % BitVec.ofInt 64 (64 : Int) = BitVec.ofInt 64 (0 : Int)) = false → Flat (layS (lay cs (5 + Int.toNat (↑(BitVec.toNat (asU64 (gt AC.any cs 69) % BitVec.ofInt 64 (64 : Int))) : Int) * 1) (List.take (min n (64 - Int.toNat (↑(BitVec.toNat (asU64 (gt AC.any cs 69) % BitVec.ofInt 64 (64 : Int))) : Int)) * 1) (List.take (n * 1) (List.drop o row)))) 69 [AC.u64 (asU64 (gt AC.any (lay cs (5 + Int.toNat (↑(BitVec.toNat (asU64 (gt AC.any cs 69) % BitVec.ofInt 64 (64 : Int))) : Int) * 1) (List.take (min n (64 - Int.toNat (↑(BitVec.toNat (asU64 (gt AC.any cs 69) % BitVec.ofInt 64 (64 : Int))) : Int)) * 1) (List.take (n * 1) (List.drop o row)))) 69) + BitVec.ofInt 64 (↑(min n (64 - Int.toNat (↑(BitVec.toNat (asU64 (gt AC.any cs 69) % BitVec.ofInt 64 (64 : Int))) : Int))) : Int))]) ∧ Flat zs ∧ KR X 41 0 Q (kOf Try.f41 0) (mkS 53 [(1, AV.one (AC.xs row (o + Int.toNat (↑(min n (64 - Int.toNat (↑(BitVec.toNat (asU64 (gt AC.any cs 69) % BitVec.ofInt 64 (64 : Int))) : Int))) : Int) * 1) (Int.toNat (↑n : Int) - Int.toNat (↑(min n (64 - Int.toNat (↑(BitVec.toNat (asU64 (gt AC.any cs 69) % BitVec.ofInt 64 (64 : Int))) : Int))) : Int)))), (2, AV.one (AC.ptr 0 0)), (4, AV.one (AC.ptr 1 0)), (5, AV.one (AC.ptr 2 0))]) [some (layS (lay cs (5 + Int.toNat (↑(BitVec.toNat (asU64 (gt AC.any cs 69) % BitVec.ofInt 64 (64 : Int))) : Int) * 1) (List.take (min n (64 - Int.toNat (↑(BitVec.toNat (asU64 (gt AC.any cs 69) % BitVec.ofInt 64 (64 : Int))) : Int)) * 1) (List.take (n * 1) (List.drop o row)))) 69 [AC.u64 (asU64 (gt AC.any (lay cs (5 + Int.toNat (↑(BitVec.toNat (asU64 (gt AC.any cs 69) % BitVec.ofInt 64 (64 : Int))) : Int) * 1) (List.take (min n (64 - Int.toNat (↑(BitVec.toNat (asU64 (gt AC.any cs 69) % BitVec.ofInt 64 (64 : Int))) : Int)) * 1) (List.take (n * 1) (List.drop o row)))) 69) + BitVec.ofInt 64 (↑(min n (64 - Int.toNat (↑(BitVec.toNat (asU64 (gt AC.any cs 69) % BitVec.ofInt 64 (64 : Int))) : Int))) : Int))]), some zs, some [AC.u32 h0, AC.u32 h1, AC.u32 h2, AC.u32 h3, AC.u32 h4]])) ∧ (decide ((0 : Int) < (↑n : Int)) = false → 5 ≤ 5 ∧ (5 = 5 ∧ 5 ≤ 5) ∧ (1 = 1 ∧ 1 ≤ 5) ∧ (1 = 1 ∧ 2 ≤ 5) ∧ (1 = 1 ∧ 3 ≤ 5) ∧ (1 = 1 ∧ 4 ≤ 5) ∧ (1 = 1 ∧ 5 ≤ 5) ∧ Flat cs ∧ Flat zs ∧ Flat [AC.u32 h0, AC.u32 h1, AC.u32 h2, AC.u32 h3, AC.u32 h4] ∧ KR X 41 0 Q (kOf Try.f41 1) (mkS 53 [(2, AV.one (AC.ptr 0 0)), (4, AV.one (AC.ptr 1 0)), (5, AV.one (AC.ptr 2 0)), (38, AV.agg [AC.u32 (BitVec.ofInt 32 (1732584193 : Int)), AC.u32 (BitVec.ofInt 32 (4023233417 : Int)), AC.u32 (BitVec.ofInt 32 (2562383102 : Int)), AC.u32 (BitVec.ofInt 32 (271733878 : Int)), AC.u32 (BitVec.ofInt 32 (3285377520 : Int))]), (39, AV.one (AC.i64 (0 : Int)))]) [some cs, some zs, some [AC.u32 h0, AC.u32 h1, AC.u32 h2, AC.u32 h3, AC.u32 h4]])) : KRun X 41 0 Q (kOf Try.f41 0) (mkS 53 [(1, .one (.xs row o n)), (2, .one (.ptr 0 0)), (4, .one (.ptr 1 0)), (5, .one (.ptr 2 0))]) [some cs, some zs, some [.u32 h0, .u32 h1, .u32 h2, .u32 h3, .u32 h4]] :=
  wpRun_ok (hX ▸ envH_ok T3 mf0 M0) (hX ▸ envH_call T3_ok M0_ok) (hX ▸ mixed) (hX ▸ ok41) LK_ok (cast (β := wpRun (envH T3 mf0 M0) [13, 33, 40] [(7, 4)] false (RS.mk Try.f41.results.toList 0 (CS.mk [] [] [0] [])) (LK X 41 0 Q true [(2, LS.mk [1, 2, 4, 5] (CS.mk [] [true, true, false] [] [])), (9, LS.mk [2, 4, 5, 38, 39] (CS.mk [] [] [] []))]) Q 2000 (kOf Try.f41 0) (mkS 53 [(1, .one (.xs row o n)), (2, .one (.ptr 0 0)), (4, .one (.ptr 1 0)), (5, .one (.ptr 2 0))]) [some cs, some zs, some [.u32 h0, .u32 h1, .u32 h2, .u32 h3, .u32 h4]]) (by kernel_rfl) h)
set_option maxRecDepth 100000 in
theorem vc41b {X : Ctx} {Q : AV → Mem → Prop} (hX : X.P = Try.prog) (cs zs hr : List AC) (i : Int) (g0 g1 g2 g3 g4 : BitVec 32) (h : (decide (i < (5 : Int)) = true → ((0 : Int) ≤ i ∧ i < (↑5 : Int)) ∧ gt AC.any [AC.u32 g0, AC.u32 g1, AC.u32 g2, AC.u32 g3, AC.u32 g4] (Int.toNat i * 1) = AC.u32 (asU32 (gt AC.any [AC.u32 g0, AC.u32 g1, AC.u32 g2, AC.u32 g3, AC.u32 g4] (Int.toNat i * 1))) ∧ ((0 : Int) ≤ i ∧ i < (↑5 : Int)) ∧ gt AC.any hr (0 + Int.toNat i * 1) = AC.u32 (asU32 (gt AC.any hr (0 + Int.toNat i * 1))) ∧ ((0 : Int) ≤ i ∧ i < (↑5 : Int)) ∧ (1 = 1 ∧ 0 + Int.toNat i * 1 + 1 ≤ List.length cs) ∧ in64 (i + (1 : Int)) ∧ Flat (layS cs (0 + Int.toNat i * 1) [AC.u32 (asU32 (gt AC.any hr (0 + Int.toNat i * 1)) ^^^ asU32 (gt AC.any [AC.u32 g0, AC.u32 g1, AC.u32 g2, AC.u32 g3, AC.u32 g4] (Int.toNat i * 1)))]) ∧ Flat zs ∧ Flat hr ∧ KR X 41 0 Q (kOf Try.f41 1) (mkS 53 [(2, AV.one (AC.ptr 0 0)), (4, AV.one (AC.ptr 1 0)), (5, AV.one (AC.ptr 2 0)), (38, AV.agg [AC.u32 g0, AC.u32 g1, AC.u32 g2, AC.u32 g3, AC.u32 g4]), (39, AV.one (AC.i64 (i + (1 : Int))))]) [some (layS cs (0 + Int.toNat i * 1) [AC.u32 (asU32 (gt AC.any hr (0 + Int.toNat i * 1)) ^^^ asU32 (gt AC.any [AC.u32 g0, AC.u32 g1, AC.u32 g2, AC.u32 g3, AC.u32 g4] (Int.toNat i * 1)))]), some zs, some hr]) ∧ (decide (i < (5 : Int)) = false → 70 ≤ List.length cs ∧ (List.length (List.take 70 (List.drop 0 cs)) = 70 ∧ 70 ≤ List.length zs) ∧ 70 ≤ List.length (layS zs 0 (List.take 70 (List.drop 0 cs))) ∧ flatAV (AV.agg (List.take 70 (List.drop 0 (layS zs 0 (List.take 70 (List.drop 0 cs)))))) ∧ Q (AV.agg (List.take 70 (List.drop 0 (layS zs 0 (List.take 70 (List.drop 0 cs)))))) [])) : KRun X 41 0 Q (kOf Try.f41 1) (mkS 53 [(2, .one (.ptr 0 0)), (4, .one (.ptr 1 0)), (5, .one (.ptr 2 0)), (38, .agg [.u32 g0, .u32 g1, .u32 g2, .u32 g3, .u32 g4]), (39, .one (.i64 i))]) [some cs, some zs, some hr] :=
  wpRun_ok (hX ▸ envH_ok T3 mf0 M0) (hX ▸ envH_call T3_ok M0_ok) (hX ▸ mixed) (hX ▸ ok41) LK_ok (cast (β := wpRun (envH T3 mf0 M0) [13, 33, 40] [(7, 4)] false (RS.mk Try.f41.results.toList 0 (CS.mk [] [] [0] [])) (LK X 41 0 Q true [(2, LS.mk [1, 2, 4, 5] (CS.mk [] [true, true, false] [] [])), (9, LS.mk [2, 4, 5, 38, 39] (CS.mk [] [] [] []))]) Q 2000 (kOf Try.f41 1) (mkS 53 [(2, .one (.ptr 0 0)), (4, .one (.ptr 1 0)), (5, .one (.ptr 2 0)), (38, .agg [.u32 g0, .u32 g1, .u32 g2, .u32 g3, .u32 g4]), (39, .one (.i64 i))]) [some cs, some zs, some hr]) (by kernel_rfl) h)

theorem lay_map {α β : Type} (f : α → β) (l p : List α) (o : Nat) : lay (l.map f) o (p.map f) = (lay l o p).map f := by
  unfold lay
  rw [List.map_append, List.map_append, List.map_take, List.map_drop, List.length_map]
theorem lay_nil {α : Type} (l : List α) (o : Nat) : lay l o [] = l := by
  unfold lay
  simp
theorem lay_one {α : Type} : ∀ (l : List α) (o : Nat) (x : α), o < l.length → lay l o [x] = l.set o x
  | [], _, _, h => by simp at h
  | y :: l, 0, x, _ => by simp [lay]
  | y :: l, o + 1, x, h => by
    have := lay_one l o x (by simpa using h)
    unfold lay at *
    simpa [Nat.add_right_comm] using this
theorem lay_cons {α : Type} (l : List α) (o : Nat) (x : α) (p : List α) (h : o + 1 + p.length ≤ l.length) : lay l o (x :: p) = lay (l.set o x) (o + 1) p := by
  unfold lay
  rw [List.drop_set_of_lt (by omega), List.length_cons, show o + (p.length + 1) = o + 1 + p.length by omega]
  congr 1
  rw [List.take_set, List.take_add_one]
  have : l[o]? = some l[o] := List.getElem?_eq_getElem (by omega)
  rw [this, List.set_append_right _ _ (by rw [List.length_take]; omega), List.length_take, show o - min o l.length = 0 by omega]
  simp
theorem lay_skip {α : Type} (l m p : List α) (o k : Nat) (h : l.length = k) (ho : k ≤ o) : lay (l ++ m) o p = l ++ lay m (o - k) p := by
  subst h
  unfold lay
  rw [List.take_append, List.take_of_length_le ho, List.drop_append, List.drop_of_length_le (by omega), List.nil_append, show o + p.length - l.length = o - l.length + p.length by omega]
  simp only [List.append_assoc]
theorem lay_in {α : Type} (l m p : List α) (o : Nat) (h : o + p.length ≤ l.length) : lay (l ++ m) o p = lay l o p ++ m := by
  unfold lay
  rw [List.take_append_of_le_length (by omega), List.drop_append_of_le_length h]
  simp only [List.append_assoc]
theorem lay_len' {α : Type} (l p : List α) (o : Nat) (h : o + p.length ≤ l.length) : (lay l o p).length = l.length := by
  unfold lay
  simp only [List.length_append, List.length_take, List.length_drop]
  omega

theorem Sm.lay_left (h : St) (l p : List (BitVec 8)) (n : BitVec 64) (a : Nat) (hp : a + p.length ≤ l.length) :
    lay (Sm.mk h l n).cells (5 + a) (p.map AC.u8) = (Sm.mk h (lay l a p) n).cells := by
  unfold Sm.cells
  dsimp only
  rw [lay_in _ _ _ _ (by rw [List.length_append, List.length_map, List.length_map, List.length_map]; show 5 + a + p.length ≤ 5 + l.length; omega),
    lay_skip _ _ _ _ 5 rfl (by omega), show 5 + a - 5 = a by omega, lay_map]
theorem Sm.set_n (h : St) (l : List (BitVec 8)) (n x : BitVec 64) (hl : l.length = 64) : layS (Sm.mk h l n).cells 69 [.u64 x] = (Sm.mk h l x).cells := by
  show List.set _ _ _ = _
  unfold Sm.cells
  dsimp only
  have e : ((h.xr st0).list.map AC.u32 ++ l.map AC.u8).length = 69 := by rw [List.length_append, List.length_map, List.length_map, hl]; rfl
  rw [List.set_append_right _ _ (by omega), e]
  rfl
theorem mod64 (x : BitVec 64) : (x % BitVec.ofInt 64 64 = BitVec.ofInt 64 0) ↔ x.toNat % 64 = 0 := by
  have e1 : (BitVec.ofInt 64 64).toNat = 64 := rfl
  have e0 : (BitVec.ofInt 64 0).toNat = 0 := rfl
  rw [← BitVec.toNat_inj, BitVec.toNat_umod, e1, e0]
theorem modN (x : BitVec 64) : (x % BitVec.ofInt 64 64).toNat = x.toNat % 64 := BitVec.toNat_umod

theorem addF_chunk : ∀ (p : List (BitVec 8)) (s : Sm), p ≠ [] → s.left.length = 64 → s.n.toNat % 64 + p.length ≤ 64 →
    addF s p = ⟨if (s.n + BitVec.ofInt 64 (p.length : Nat)).toNat % 64 = 0 then blockF s.h (lay s.left (s.n.toNat % 64) p) else s.h, lay s.left (s.n.toNat % 64) p, s.n + BitVec.ofInt 64 (p.length : Nat)⟩
  | [], _, h, _, _ => absurd rfl h
  | x :: [], s, _, hl, hp => by
    show step1 s x = _
    unfold step1
    rw [lay_one _ _ _ (by simp only [List.length_cons, List.length_nil] at hp; omega)]
    rfl
  | x :: y :: q, s, _, hl, hp => by
    show addF (step1 s x) (y :: q) = _
    have hp' : s.n.toNat % 64 + (q.length + 1 + 1) ≤ 64 := hp
    have e1 : (s.n + 1#64).toNat % 64 = s.n.toNat % 64 + 1 := by
      rw [BitVec.toNat_add]
      show (s.n.toNat + 1) % 18446744073709551616 % 64 = _
      omega
    have hs : step1 s x = ⟨s.h, s.left.set (s.n.toNat % 64) x, s.n + 1#64⟩ := by
      unfold step1
      rw [if_neg (by omega)]
    rw [hs, addF_chunk (y :: q) _ (by simp) (by rw [List.length_set]; exact hl) (by show (s.n + 1#64).toNat % 64 + (q.length + 1) ≤ 64; omega)]
    dsimp only
    have e2 : s.n + 1#64 + BitVec.ofInt 64 ((y :: q).length : Nat) = s.n + BitVec.ofInt 64 ((x :: y :: q).length : Nat) := by
      rw [BitVec.add_assoc]
      congr 1
      simp only [BitVec.ofInt_natCast, List.length_cons]
      apply BitVec.eq_of_toNat_eq
      simp only [BitVec.toNat_add, BitVec.toNat_ofNat]
      omega
    rw [e1, e2, lay_cons s.left _ x (y :: q) (by rw [List.length_cons]; omega)]

theorem asU64_u64 (x : BitVec 64) : asU64 (.u64 x) = x := rfl
theorem l41a {X : Ctx} (hX : X.P = Try.prog) {Q : AV → Mem → Prop} (h0 : St) (zs : List AC) (hz : Flat zs) (b : List (BitVec 8))
    (s : Sm) (hK : KRun X 41 0 Q (kOf Try.f41 1) (mkS 53 [(2, .one (.ptr 0 0)), (4, .one (.ptr 1 0)), (5, .one (.ptr 2 0)), (38, .agg (st0.list.map AC.u32)), (39, .one (.i64 0))])
      [some (Sm.mk h0 s.left s.n).cells, some zs, some (s.h.list.map AC.u32)]) :
    ∀ (m o n : Nat) (s1 : Sm), n ≤ m → o + n = b.length → s1.left.length = 64 → addF s1 (b.drop o) = s →
      KRun X 41 0 Q (kOf Try.f41 0) (mkS 53 [(1, .one (.xs (b.map AC.u8) o n)), (2, .one (.ptr 0 0)), (4, .one (.ptr 1 0)), (5, .one (.ptr 2 0))])
        [some (Sm.mk h0 s1.left s1.n).cells, some zs, some (s1.h.list.map AC.u32)] := by
  intro m
  induction m with
  | zero =>
    intro o n s1 hn ho hl hs
    have hn : n = 0 := by omega
    subst hn
    refine vc41a hX _ _ _ _ _ _ _ _ _ _ ⟨fun h => absurd (of_decide_eq_true h) (by decide), fun _ => ?_⟩
    (repeat' apply And.intro) <;> first | decide | exact Sm.flat _ | exact hz | exact exactFlat rfl | skip
    rw [List.drop_of_length_le (by omega)] at hs
    have hs : s1 = s := hs
    subst hs
    exact ⟨hK⟩
  | succ m ih =>
    intro o n s1 hn ho hl hs
    refine vc41a hX _ _ _ _ _ _ _ _ _ _ ⟨fun h => ?_, fun h => ?_⟩
    · have h0' := of_decide_eq_true h
      have hg := Sm.get_n (Sm.mk h0 s1.left s1.n) hl
      simp only [hg, asU64_u64, modN, Int.toNat_natCast, Nat.mul_one]
      have ep : List.take (min n (64 - s1.n.toNat % 64)) (List.take n (List.drop o (b.map AC.u8))) = (((b.drop o).take n).take (min n (64 - s1.n.toNat % 64))).map AC.u8 := by
        rw [List.map_take, List.map_take, List.map_drop]
      rw [ep]
      generalize hp : ((b.drop o).take n).take (min n (64 - s1.n.toNat % 64)) = p
      have hpl : p.length = min n (64 - s1.n.toNat % 64) := by rw [← hp, List.length_take, List.length_take, List.length_drop]; omega
      have hlp := lay_len' s1.left p (s1.n.toNat % 64) (by omega)
      have hl2 : (lay s1.left (s1.n.toNat % 64) p).length = 64 := by rw [hlp, hl]
      rw [← hpl]
      have hll := Sm.lay_left h0 s1.left p s1.n (s1.n.toNat % 64) (by omega)
      have hn1 := Sm.get_n (Sm.mk h0 (lay s1.left (s1.n.toNat % 64) p) s1.n) hl2
      have hs1 := Sm.set_n h0 (lay s1.left (s1.n.toNat % 64) p) s1.n (s1.n + BitVec.ofInt 64 (p.length : Nat)) hl2
      have hn2 := Sm.get_n (Sm.mk h0 (lay s1.left (s1.n.toNat % 64) p) (s1.n + BitVec.ofInt 64 (p.length : Nat))) hl2
      have hg2 := Sm.get_left (Sm.mk h0 (lay s1.left (s1.n.toNat % 64) p) (s1.n + BitVec.ofInt 64 (p.length : Nat))) hl2
      have hA := addF_chunk p s1 (by intro h; rw [h] at hpl; simp at hpl; omega) hl (by omega)
      have k1 := (Sm.mk h0 s1.left s1.n).len
      have k2 := (Sm.mk h0 (lay s1.left (s1.n.toNat % 64) p) s1.n).len
      have k3 := (Sm.mk h0 (lay s1.left (s1.n.toNat % 64) p) (s1.n + BitVec.ofInt 64 (p.length : Nat))).len
      dsimp only at k1 k2 k3 hn1 hn2 hg2
      rw [hl] at k1
      rw [hl2] at k2 k3
      have step : ∀ h' : St, h' = (addF s1 p).h → KRun X 41 0 Q (kOf Try.f41 0) (mkS 53 [(1, .one (.xs (b.map AC.u8) (o + p.length) (n - p.length))), (2, .one (.ptr 0 0)), (4, .one (.ptr 1 0)), (5, .one (.ptr 2 0))])
        [some (Sm.mk h0 (lay s1.left (s1.n.toNat % 64) p) (s1.n + BitVec.ofInt 64 (p.length : Nat))).cells, some zs, some (h'.list.map AC.u32)] := by
        intro h' e
        have hsp : b.drop o = p ++ b.drop (o + p.length) := by
          have e1 := List.take_append_drop p.length (b.drop o)
          rw [List.drop_drop] at e1
          have e2 : (b.drop o).take p.length = p := by rw [hpl]; conv => rhs; rw [← hp]
                                                       rw [List.take_take, show min (min n (64 - s1.n.toNat % 64)) n = min n (64 - s1.n.toNat % 64) by omega]
          rw [e2] at e1
          exact e1.symm
        have := ih (o + p.length) (n - p.length) (addF s1 p) (by omega) (by omega) (by rw [hA]; exact hl2) (by rw [← hs, hsp]; unfold addF; rw [List.foldl_append])
        rw [← e, hA] at this
        exact this
      rw [hA] at step
      dsimp only at step
      simp only [hll, hn1, hs1, hn2, hg2, asU64_u64, mod64, k1, k2, k3, map_as8, List.length_map]
      refine ⟨trivial, by decide, by omega, by omega, by omega, by omega, trivial, ⟨trivial, by omega⟩, trivial, by decide, fun h64 => ?_, fun h64 => ?_⟩
      · have h64 := of_decide_eq_true h64
        rw [if_pos h64] at step
        refine ⟨by decide, by decide, exactFlat rfl, by decide, flat_u8 _, ⟨allU8_map _, hl2, trivial⟩, ⟨trivial, Nat.le_refl _⟩, Sm.flat _, hz, ⟨?_⟩⟩
        exact step _ rfl
      · have h64 := of_decide_eq_false h64
        rw [if_neg h64] at step
        refine ⟨Sm.flat _, hz, ⟨?_⟩⟩
        exact step _ rfl
    · have h := of_decide_eq_false h
      have hn : n = 0 := by omega
      subst hn
      (repeat' apply And.intro) <;> first | decide | exact Sm.flat _ | exact hz | exact exactFlat rfl | skip
      rw [List.drop_of_length_le (by omega)] at hs
      have hs : s1 = s := hs
      subst hs
      exact ⟨hK⟩

def setR (hs xs : List (BitVec 32)) : Nat → List (BitVec 32)
  | 0 => hs
  | n + 1 => (setR hs xs n).set n (xs.getD n 0)
theorem setR_len (hs xs : List (BitVec 32)) : ∀ n, (setR hs xs n).length = hs.length
  | 0 => rfl
  | n + 1 => by rw [setR, List.length_set, setR_len hs xs n]
theorem setR_5 (s t : St) : setR s.list t.list 5 = t.list := rfl
theorem xr_get (s t : St) {i : Nat} (h : i < 5) : s.list.getD i 0 ^^^ t.list.getD i 0 = (s.xr t).list.getD i 0 := by
  match i, h with
  | 0, _ => rfl
  | 1, _ => rfl
  | 2, _ => rfl
  | 3, _ => rfl
  | 4, _ => rfl

theorem take_lay {l cs : List AC} {k : Nat} (h : l.length = k) (hc : cs.length = k) : List.take k (List.drop 0 (layS l 0 cs)) = cs := by
  subst hc
  rw [layS_eq (by omega)]
  unfold lay
  rw [List.take_zero, List.nil_append, List.drop_zero, Nat.zero_add, List.drop_of_length_le (by omega), List.append_nil, List.take_of_length_le (Nat.le_refl _)]
theorem layS_len {l cs : List AC} {o : Nat} (h : o + cs.length ≤ l.length) : (layS l o cs).length = l.length := by rw [layS_eq h, lay_len' _ _ _ h]

theorem l41b {X : Ctx} (hX : X.P = Try.prog) (s : Sm) (hl : s.left.length = 64) (h0 : St) (zs : List AC) (hz : Flat zs) (hzl : zs.length = 70) : ∀ (d i : Nat), i + d = 5 →
    KRun X 41 0 (Is (.agg s.cells)) (kOf Try.f41 1) (mkS 53 [(2, .one (.ptr 0 0)), (4, .one (.ptr 1 0)), (5, .one (.ptr 2 0)), (38, .agg (st0.list.map AC.u32)), (39, .one (.i64 i))])
      [some ((setR (h0.xr st0).list (s.h.xr st0).list i).map AC.u32 ++ (s.left.map AC.u8 ++ [.u64 s.n])), some zs, some (s.h.list.map AC.u32)] := by
  have hle : ∀ i, ((setR (h0.xr st0).list (s.h.xr st0).list i).map AC.u32).length = 5 := fun i => by rw [List.length_map, setR_len]; rfl
  have hle2 : ∀ i, ((setR (h0.xr st0).list (s.h.xr st0).list i).map AC.u32 ++ (s.left.map AC.u8 ++ [AC.u64 s.n])).length = 70 := fun i => by
    rw [List.length_append, hle, List.length_append, List.length_map, hl]; rfl
  intro d
  induction d with
  | zero =>
    intro i hi
    have hi : i = 5 := by omega
    subst hi
    refine vc41b hX _ _ _ _ _ _ _ _ _ ⟨fun h => absurd (of_decide_eq_true h) (by decide), fun _ => ?_⟩
    rw [setR_5, ← List.append_assoc]
    have hc : s.cells.length = 70 := by rw [s.len, hl]
    have hc2 : (List.take 70 (List.drop 0 s.cells)) = s.cells := by rw [List.drop_zero, List.take_of_length_le (by omega)]
    show 70 ≤ s.cells.length ∧ ((List.take 70 (List.drop 0 s.cells)).length = 70 ∧ 70 ≤ zs.length) ∧ 70 ≤ (layS zs 0 (List.take 70 (List.drop 0 s.cells))).length ∧ Flat (List.take 70 (List.drop 0 (layS zs 0 (List.take 70 (List.drop 0 s.cells))))) ∧ Is (AV.agg s.cells) (AV.agg (List.take 70 (List.drop 0 (layS zs 0 (List.take 70 (List.drop 0 s.cells)))))) []
    rw [hc2, take_lay hzl hc, layS_len (by omega)]
    exact ⟨by omega, ⟨hc, by omega⟩, by omega, s.flat, rfl⟩
  | succ d ih =>
    intro i hi
    have g0 := St.list_get s.h (i := i) (by omega)
    have g1 := St.list_get st0 (i := i) (by omega)
    have hf : ∀ i, Flat ((setR (h0.xr st0).list (s.h.xr st0).list i).map AC.u32 ++ (s.left.map AC.u8 ++ [AC.u64 s.n])) := fun i => flat_append (flat_u32 _) (flat_append (flat_u8 _) (exactFlat rfl))
    have he : layS ((setR (h0.xr st0).list (s.h.xr st0).list i).map AC.u32 ++ (s.left.map AC.u8 ++ [AC.u64 s.n])) i [.u32 ((s.h.xr st0).list.getD i 0)] = (setR (h0.xr st0).list (s.h.xr st0).list (i + 1)).map AC.u32 ++ (s.left.map AC.u8 ++ [AC.u64 s.n]) := by
      show List.set _ _ _ = _
      rw [List.set_append_left _ _ (by rw [hle]; omega), setR, List.map_set]
    refine vc41b hX _ _ _ _ _ _ _ _ _ ⟨fun _ => ?_, fun h => absurd (of_decide_eq_false h) (by omega)⟩
    have g1' : gt AC.any [AC.u32 st0.a, AC.u32 st0.b, AC.u32 st0.c, AC.u32 st0.d, AC.u32 st0.e] i = AC.u32 (st0.list.getD i 0) := g1
    have hi0 : Int.toNat (i : Int) * 1 = i := by omega
    simp only [hi0, Nat.zero_add, g0, g1', asU32, hle2, xr_get _ _ (show i < 5 by omega), he]
    refine ⟨by omega, trivial, by omega, trivial, by omega, ⟨trivial, by omega⟩, by unfold in64; omega, hf _, hz, flat_u32 _, ⟨?_⟩⟩
    exact ih (i + 1) (by omega)

theorem addF_left : ∀ (b : List (BitVec 8)) (s : Sm), (addF s b).left.length = s.left.length
  | [], _ => rfl
  | x :: b, s => by
    show (addF (step1 s x) b).left.length = _
    rw [addF_left b]
    exact List.length_set

theorem s41 (s : Sm) (hl : s.left.length = 64) (b : List (BitVec 8)) : Spec Try.prog 41 [.agg s.cells, .one (.xs (b.map AC.u8) 0 b.length)] [] (Is (.agg (addF s b).cells)) := by
  refine Spec.of_run ok41 fun X hX => vc41 hX _ _ _ ?_
  have hc : s.cells.length = 70 := by rw [s.len, hl]
  have hc2 : (List.take 70 (List.drop 0 s.cells)) = s.cells := by rw [List.drop_zero, List.take_of_length_le (by omega)]
  rw [hc2, smOf_cells s hl]
  refine ⟨by omega, s.flat, ⟨rfl, hc⟩, ⟨rfl, Nat.le_refl _⟩, s.flat, exactFlat rfl, ⟨?_⟩⟩
  have ht : (addF s b).left.length = 64 := by rw [addF_left, hl]
  refine l41a hX s.h _ (exactFlat rfl) b (addF s b) ?_ b.length 0 b.length s (Nat.le_refl _) (by omega) hl rfl
  generalize addF s b = t at ht ⊢
  have e : (Sm.mk s.h t.left t.n).cells = (setR (s.h.xr st0).list (t.h.xr st0).list 0).map AC.u32 ++ (t.left.map AC.u8 ++ [.u64 t.n]) := List.append_assoc _ _ _
  rw [e]
  refine l41b hX t ht s.h _ ?_ ?_ 5 0 rfl
  · exact exactFlat rfl
  · exact rfl
end DH
