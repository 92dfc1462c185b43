/- Walks of functions, each by evaluation: what each returns. -/
import Derived.Test.YtdnggeocdocomaaH8
import Derived.Test.YtdnggeocdocomaaJ0
set_option linter.unusedVariables false
set_option linter.unusedSimpArgs false
noncomputable section
namespace DH
open Go Go.Proofs
theorem ok9 : FnOk Try.prog 9 Try.f9 (bodyOf Try.f9) := .of Try.func9 (by kernel_rfl) (by kernel_rfl)
theorem ok10 : FnOk Try.prog 10 Try.f10 (bodyOf Try.f10) := .of Try.func10 (by kernel_rfl) (by kernel_rfl)
theorem ok11 : FnOk Try.prog 11 Try.f11 (bodyOf Try.f11) := .of Try.func11 (by kernel_rfl) (by kernel_rfl)
theorem ok12 : FnOk Try.prog 12 Try.f12 (bodyOf Try.f12) := .of Try.func12 (by kernel_rfl) (by kernel_rfl)
theorem ok13 : FnOk Try.prog 13 Try.f13 (bodyOf Try.f13) := .of Try.func13 (by kernel_rfl) (by kernel_rfl)
theorem ok44 : FnOk Try.prog 44 Try.f44 (bodyOf Try.f44) := .of Try.func44 (by kernel_rfl) (by kernel_rfl)
theorem ok45 : FnOk Try.prog 45 Try.f45 (bodyOf Try.f45) := .of Try.func45 (by kernel_rfl) (by kernel_rfl)
theorem ok46 : FnOk Try.prog 46 Try.f46 (bodyOf Try.f46) := .of Try.func46 (by kernel_rfl) (by kernel_rfl)
theorem ok47 : FnOk Try.prog 47 Try.f47 (bodyOf Try.f47) := .of Try.func47 (by kernel_rfl) (by kernel_rfl)
theorem ok48 : FnOk Try.prog 48 Try.f48 (bodyOf Try.f48) := .of Try.func48 (by kernel_rfl) (by kernel_rfl)
theorem ok49 : FnOk Try.prog 49 Try.f49 (bodyOf Try.f49) := .of Try.func49 (by kernel_rfl) (by kernel_rfl)
theorem ok50 : FnOk Try.prog 50 Try.f50 (bodyOf Try.f50) := .of Try.func50 (by kernel_rfl) (by kernel_rfl)
theorem ok51 : FnOk Try.prog 51 Try.f51 (bodyOf Try.f51) := .of Try.func51 (by kernel_rfl) (by kernel_rfl)
theorem ok52 : FnOk Try.prog 52 Try.f52 (bodyOf Try.f52) := .of Try.func52 (by kernel_rfl) (by kernel_rfl)
theorem ok53 : FnOk Try.prog 53 Try.f53 (bodyOf Try.f53) := .of Try.func53 (by kernel_rfl) (by kernel_rfl)
theorem ok54 : FnOk Try.prog 54 Try.f54 (bodyOf Try.f54) := .of Try.func54 (by kernel_rfl) (by kernel_rfl)
theorem ok55 : FnOk Try.prog 55 Try.f55 (bodyOf Try.f55) := .of Try.func55 (by kernel_rfl) (by kernel_rfl)
theorem ok102 : FnOk Try.prog 102 Try.f102 (bodyOf Try.f102) := .of Try.func102 (by kernel_rfl) (by kernel_rfl)
theorem ok103 : FnOk Try.prog 103 Try.f103 (bodyOf Try.f103) := .of Try.func103 (by kernel_rfl) (by kernel_rfl)
theorem ok104 : FnOk Try.prog 104 Try.f104 (bodyOf Try.f104) := .of Try.func104 (by kernel_rfl) (by kernel_rfl)
theorem ok105 : FnOk Try.prog 105 Try.f105 (bodyOf Try.f105) := .of Try.func105 (by kernel_rfl) (by kernel_rfl)
theorem ok106 : FnOk Try.prog 106 Try.f106 (bodyOf Try.f106) := .of Try.func106 (by kernel_rfl) (by kernel_rfl)
theorem ok107 : FnOk Try.prog 107 Try.f107 (bodyOf Try.f107) := .of Try.func107 (by kernel_rfl) (by kernel_rfl)
theorem ok108 : FnOk Try.prog 108 Try.f108 (bodyOf Try.f108) := .of Try.func108 (by kernel_rfl) (by kernel_rfl)
theorem ok109 : FnOk Try.prog 109 Try.f109 (bodyOf Try.f109) := .of Try.func109 (by kernel_rfl) (by kernel_rfl)
theorem ok110 : FnOk Try.prog 110 Try.f110 (bodyOf Try.f110) := .of Try.func110 (by kernel_rfl) (by kernel_rfl)

def symJ (t : TypeId) : Bool := match t with | 28 => true | 40 => true | 66 => true | 78 => true | t => symH t
noncomputable def baseJ (T : Tab) (mf : FuncId → Option MF) (M : TabM) : Env := ⟨tys, symJ, false, T, [], mf, M⟩
theorem baseJ_ok (T : Tab) (mf : FuncId → Option MF) (M : TabM) : EnvOk Try.prog (baseJ T mf M) := EnvOk.of tysOk
theorem baseJ_call {T : Tab} {mf : FuncId → Option MF} {M : TabM} (hT : TabOk Try.prog T) (hM : TabMOk Try.prog M) : CallOk Try.prog (baseJ T mf M) :=
  ⟨hT, fun f mf xs m0 cs r m1 _ h hc => hM f xs m0 cs r m1 h hc⟩

noncomputable def eqU8 : List AC → List (BitVec 8) → Bool
  | [], [] => true
  | .u8 x :: cs, y :: l => Nat.beq x.toNat y.toNat && eqU8 cs l
  | _, _ => false
theorem eqU8_ok : ∀ {cs : List AC} {l : List (BitVec 8)}, eqU8 cs l = true → cs = l.map AC.u8
  | [], [], _ => rfl
  | c :: cs, [], h => by cases c <;> cases h
  | [], _ :: _, h => by cases h
  | c :: cs, y :: l, h => by
    cases c <;> first | (cases h; done) | skip
    rename_i x
    simp only [eqU8, Bool.and_eq_true] at h
    rw [eqU8_ok h.2, List.map_cons, BitVec.eq_of_toNat_eq (Nat.eq_of_beq_eq_true h.1)]
noncomputable def saysU8 (l : List (BitVec 8)) : Option (List Prop × AV × Mem) → Bool
  | some ([], .agg cs, _) => eqU8 cs l
  | _ => false
/-- a run on numbers that are known gives these bytes -/
theorem Spec.litA {P : Program} {E : Env} (hE : EnvOk P E) (hC : CallOk P E) (hm : P.follows .mixedOrders = true) {f : FuncId} {fn : Func} {c : Code} (hf : FnOk P f fn c) {hs : List (Nat × Nat)} {n : Nat} {xs : List AV} {m0 : Mem} {l : List (BitVec 8)}
    (h : saysU8 l (evalFn E hs n fn.results.toList [.code c] (slots xs fn.ntmps) m0 []) = true) : Spec P f xs m0 (Is (.agg (l.map AC.u8))) := by
  unfold saysU8 at h
  split at h
  · rename_i cs m1 h1
    exact (Spec.evalM hE hC hm hf h1 trivial).mono fun _ _ h2 => by rw [← eqU8_ok h]; exact h2.1
  · cases h
noncomputable def inlJ : Inl := fun f => match f with
  | 51 => some (Try.f51, [])
  | 109 => some (Try.f109, [])
  | _ => none
theorem inlJ_ok : InlOk Try.prog inlJ := by
  intro f fn hs h
  unfold inlJ at h
  split at h <;> first | (cases h; done) | (obtain ⟨rfl, _⟩ := Prod.mk.inj (Option.some.inj h); first | exact ok51 | exact ok109)
noncomputable def baseL (T : Tab) (mf : FuncId → Option MF) (M : TabM) : Env := ⟨tys, fun _ => false, false, T, [], mf, M⟩
theorem baseL_ok (T : Tab) (mf : FuncId → Option MF) (M : TabM) : EnvOk Try.prog (baseL T mf M) := EnvOk.of tysOk
theorem baseL_call {T : Tab} {mf : FuncId → Option MF} {M : TabM} (hT : TabOk Try.prog T) (hM : TabMOk Try.prog M) : CallOk Try.prog (baseL T mf M) :=
  ⟨hT, fun f mf xs m0 cs r m1 _ h hc => hM f xs m0 cs r m1 h hc⟩
theorem s103 : Spec Try.prog 103 [] [] (Is (.agg (boxT.map AC.u8))) :=
  Spec.litA (litE_envOk (baseL_ok T0 mf0 M0) inlJ 1) (litE_ok (baseL_ok T0 mf0 M0) (baseL_call T0_ok M0_ok) mixed inlJ_ok 1) mixed ok103 (hs := []) (n := 1000) (by kernel_rfl)
set_option maxRecDepth 100000 in
theorem vc50 {X : Ctx} {Q : AV → Mem → Prop} (hX : X.P = Try.prog) (c : BitVec 8) (h : ((!decide (c &&& BitVec.ofInt 8 (128 : Int) = BitVec.ofInt 8 (0 : Int))) = true → Q (AV.one (AC.u8 (c <<< 1 ^^^ BitVec.ofInt 8 (27 : Int)))) []) ∧ ((!decide (c &&& BitVec.ofInt 8 (128 : Int) = BitVec.ofInt 8 (0 : Int))) = false → Q (AV.one (AC.u8 (c <<< 1))) [])) : KRun X 50 0 Q ([.code (bodyOf Try.f50)]) (slots [.one (.u8 c)] Try.f50.ntmps) [] :=
  wpRun_ok (hX ▸ baseJ_ok T0 mf0 M0) (hX ▸ baseJ_call T0_ok M0_ok) (hX ▸ mixed) (hX ▸ ok50) LK_ok (cast (β := wpRun (baseJ T0 mf0 M0) [5] [] false (RS.mk Try.f50.results.toList 0 (CS.mk [] [] [] [])) (LK X 50 0 Q true []) Q 2000 ([.code (bodyOf Try.f50)]) (slots [.one (.u8 c)] Try.f50.ntmps) []) (by kernel_rfl) h)
set_option maxRecDepth 100000 in
theorem vc109 {X : Ctx} {Q : AV → Mem → Prop} (hX : X.P = Try.prog) (x : BitVec 8) (h : (0 : Int) ≤ (1 : Int) ∧ in64 ((8 : Int) - (1 : Int)) ∧ (0 : Int) ≤ (8 : Int) - (1 : Int) ∧ in64 ((1 : Int) + (1 : Int)) ∧ (0 : Int) ≤ (1 : Int) + (1 : Int) ∧ in64 ((8 : Int) - ((1 : Int) + (1 : Int))) ∧ (0 : Int) ≤ (8 : Int) - ((1 : Int) + (1 : Int)) ∧ in64 ((1 : Int) + (1 : Int) + (1 : Int)) ∧ (0 : Int) ≤ (1 : Int) + (1 : Int) + (1 : Int) ∧ in64 ((8 : Int) - ((1 : Int) + (1 : Int) + (1 : Int))) ∧ (0 : Int) ≤ (8 : Int) - ((1 : Int) + (1 : Int) + (1 : Int)) ∧ in64 ((1 : Int) + (1 : Int) + (1 : Int) + (1 : Int)) ∧ (0 : Int) ≤ (1 : Int) + (1 : Int) + (1 : Int) + (1 : Int) ∧ in64 ((8 : Int) - ((1 : Int) + (1 : Int) + (1 : Int) + (1 : Int))) ∧ (0 : Int) ≤ (8 : Int) - ((1 : Int) + (1 : Int) + (1 : Int) + (1 : Int)) ∧ in64 ((1 : Int) + (1 : Int) + (1 : Int) + (1 : Int) + (1 : Int)) ∧ Q (AV.one (AC.u8 (x ^^^ BitVec.ofInt 8 (99 : Int) ^^^ (x <<< 1 ||| x >>> 7) ^^^ (x <<< 2 ||| x >>> 6) ^^^ (x <<< 3 ||| x >>> 5) ^^^ (x <<< 4 ||| x >>> 4)))) []) : KRun X 109 0 Q ([.code (bodyOf Try.f109)]) (slots [.one (.u8 x)] Try.f109.ntmps) [] :=
  wpRun_ok (hX ▸ baseJ_ok T0 mf0 M0) (hX ▸ baseJ_call T0_ok M0_ok) (hX ▸ mixed) (hX ▸ ok109) LK_ok (cast (β := wpRun (baseJ T0 mf0 M0) [] [] true (RS.mk Try.f109.results.toList 0 (CS.mk [] [] [] [])) (LK X 109 0 Q false [(3, LS.mk [0, 3, 4] (CS.mk [] [] [] []))]) Q 20000 ([.code (bodyOf Try.f109)]) (slots [.one (.u8 x)] Try.f109.ntmps) []) (by kernel_rfl) h)
set_option maxRecDepth 100000 in
theorem vc51 {X : Ctx} {Q : AV → Mem → Prop} (hX : X.P = Try.prog) (a b : BitVec 8) (h : KR X 51 0 Q (kOf Try.f51 0) (mkS 28 [(0, AV.one (AC.u8 a)), (1, AV.one (AC.u8 b)), (5, AV.one (AC.u8 (BitVec.ofInt 8 (0 : Int)))), (6, AV.one (AC.i64 (0 : Int)))]) []) : KRun X 51 0 Q ([.code (bodyOf Try.f51)]) (slots [.one (.u8 a), .one (.u8 b)] Try.f51.ntmps) [] :=
  wpRun_ok (hX ▸ baseJ_ok T0 mf0 M0) (hX ▸ baseJ_call T0_ok M0_ok) (hX ▸ mixed) (hX ▸ ok51) LK_ok (cast (β := wpRun (baseJ T0 mf0 M0) [9, 16, 21] [] false (RS.mk Try.f51.results.toList 0 (CS.mk [] [] [] [])) (LK X 51 0 Q true [(3, LS.mk [0, 1, 5, 6] (CS.mk [] [] [] []))]) Q 2000 ([.code (bodyOf Try.f51)]) (slots [.one (.u8 a), .one (.u8 b)] Try.f51.ntmps) []) (by kernel_rfl) h)
set_option maxRecDepth 100000 in
theorem vc51a {X : Ctx} {Q : AV → Mem → Prop} (hX : X.P = Try.prog) (a b n : BitVec 8) (i : Int) (h : (decide (i < (8 : Int)) = true → (0 : Int) ≤ i ∧ (decide (b >>> Int.toNat i &&& BitVec.ofInt 8 (1 : Int) = BitVec.ofInt 8 (1 : Int)) = true → (decide (BitVec.ofInt 8 (128 : Int) ≤ a) = true → in64 (i + (1 : Int)) ∧ KR X 51 0 Q (kOf Try.f51 0) (mkS 28 [(0, AV.one (AC.u8 (a <<< 1 ^^^ BitVec.ofInt 8 (27 : Int)))), (1, AV.one (AC.u8 b)), (5, AV.one (AC.u8 (n ^^^ a))), (6, AV.one (AC.i64 (i + (1 : Int))))]) []) ∧ (decide (BitVec.ofInt 8 (128 : Int) ≤ a) = false → in64 (i + (1 : Int)) ∧ KR X 51 0 Q (kOf Try.f51 0) (mkS 28 [(0, AV.one (AC.u8 (a <<< 1))), (1, AV.one (AC.u8 b)), (5, AV.one (AC.u8 (n ^^^ a))), (6, AV.one (AC.i64 (i + (1 : Int))))]) [])) ∧ (decide (b >>> Int.toNat i &&& BitVec.ofInt 8 (1 : Int) = BitVec.ofInt 8 (1 : Int)) = false → (decide (BitVec.ofInt 8 (128 : Int) ≤ a) = true → in64 (i + (1 : Int)) ∧ KR X 51 0 Q (kOf Try.f51 0) (mkS 28 [(0, AV.one (AC.u8 (a <<< 1 ^^^ BitVec.ofInt 8 (27 : Int)))), (1, AV.one (AC.u8 b)), (5, AV.one (AC.u8 n)), (6, AV.one (AC.i64 (i + (1 : Int))))]) []) ∧ (decide (BitVec.ofInt 8 (128 : Int) ≤ a) = false → in64 (i + (1 : Int)) ∧ KR X 51 0 Q (kOf Try.f51 0) (mkS 28 [(0, AV.one (AC.u8 (a <<< 1))), (1, AV.one (AC.u8 b)), (5, AV.one (AC.u8 n)), (6, AV.one (AC.i64 (i + (1 : Int))))]) []))) ∧ (decide (i < (8 : Int)) = false → Q (AV.one (AC.u8 n)) [])) : KRun X 51 0 Q (kOf Try.f51 0) (mkS 28 [(0, .one (.u8 a)), (1, .one (.u8 b)), (5, .one (.u8 n)), (6, .one (.i64 i))]) [] :=
  wpRun_ok (hX ▸ baseJ_ok T0 mf0 M0) (hX ▸ baseJ_call T0_ok M0_ok) (hX ▸ mixed) (hX ▸ ok51) LK_ok (cast (β := wpRun (baseJ T0 mf0 M0) [9, 16, 21] [] false (RS.mk Try.f51.results.toList 0 (CS.mk [] [] [] [])) (LK X 51 0 Q true [(3, LS.mk [0, 1, 5, 6] (CS.mk [] [] [] []))]) Q 2000 (kOf Try.f51 0) (mkS 28 [(0, .one (.u8 a)), (1, .one (.u8 b)), (5, .one (.u8 n)), (6, .one (.i64 i))]) []) (by kernel_rfl) h)
set_option maxRecDepth 100000 in
theorem vc105 {X : Ctx} {Q : AV → Mem → Prop} (hX : X.P = Try.prog) (bs row : List AC) (h : Flat bs ∧ Flat (List.replicate 16 (AC.u8 (0 : BitVec 8))) ∧ Flat (List.replicate 16 (AC.u8 (0 : BitVec 8))) ∧ KR X 105 0 Q (kOf Try.f105 0) (mkS 26 [(1, AV.one (AC.xp row 0)), (2, AV.one (AC.ptr 0 0)), (4, AV.one (AC.ptr 1 0)), (5, AV.one (AC.ptr 2 0)), (7, AV.one (AC.i64 (0 : Int)))]) [some bs, some (List.replicate 16 (AC.u8 (0 : BitVec 8))), some (List.replicate 16 (AC.u8 (0 : BitVec 8)))]) : KRun X 105 0 Q ([.code (bodyOf Try.f105)]) (slots [.agg bs, .one (.xp row 0)] Try.f105.ntmps) [] :=
  wpRun_ok (hX ▸ baseJ_ok T0 mf0 M0) (hX ▸ baseJ_call T0_ok M0_ok) (hX ▸ mixed) (hX ▸ ok105) LK_ok (cast (β := wpRun (baseJ T0 mf0 M0) [8] [(5, 14)] false (RS.mk Try.f105.results.toList 0 (CS.mk [] [] [0] [])) (LK X 105 0 Q true [(3, LS.mk [1, 2, 4, 5, 7] (CS.mk [] [true, true, true] [] []))]) Q 2000 ([.code (bodyOf Try.f105)]) (slots [.agg bs, .one (.xp row 0)] Try.f105.ntmps) []) (by kernel_rfl) h)
set_option maxRecDepth 100000 in
theorem vc105a {X : Ctx} {Q : AV → Mem → Prop} (hX : X.P = Try.prog) (bs zs xs row : List AC) (i : Int) (h : (decide (i < (16 : Int)) = true → in64 ((4 : Int) * bits64 BinOp.and i (3 : Int)) ∧ in64 (i + (4 : Int) * bits64 BinOp.and i (3 : Int)) ∧ ((0 : Int) ≤ bits64 BinOp.and (i + (4 : Int) * bits64 BinOp.and i (3 : Int)) (15 : Int) ∧ bits64 BinOp.and (i + (4 : Int) * bits64 BinOp.and i (3 : Int)) (15 : Int) < (↑16 : Int)) ∧ gt AC.any bs (0 + Int.toNat (bits64 BinOp.and (i + (4 : Int) * bits64 BinOp.and i (3 : Int)) (15 : Int)) * 1) = AC.u8 (asU8 (gt AC.any bs (0 + Int.toNat (bits64 BinOp.and (i + (4 : Int) * bits64 BinOp.and i (3 : Int)) (15 : Int)) * 1))) ∧ gt AC.any row (0 + Int.toNat (↑(BitVec.toNat (asU8 (gt AC.any bs (0 + Int.toNat (bits64 BinOp.and (i + (4 : Int) * bits64 BinOp.and i (3 : Int)) (15 : Int)) * 1)))) : Int) * 1) = AC.u8 (asU8 (gt AC.any row (0 + Int.toNat (↑(BitVec.toNat (asU8 (gt AC.any bs (0 + Int.toNat (bits64 BinOp.and (i + (4 : Int) * bits64 BinOp.and i (3 : Int)) (15 : Int)) * 1)))) : Int) * 1))) ∧ ((0 : Int) ≤ i ∧ i < (↑16 : Int)) ∧ (1 = 1 ∧ 0 + Int.toNat i * 1 + 1 ≤ List.length xs) ∧ in64 (i + (1 : Int)) ∧ Flat bs ∧ Flat zs ∧ Flat (layS xs (0 + Int.toNat i * 1) [AC.u8 (asU8 (gt AC.any row (0 + Int.toNat (↑(BitVec.toNat (asU8 (gt AC.any bs (0 + Int.toNat (bits64 BinOp.and (i + (4 : Int) * bits64 BinOp.and i (3 : Int)) (15 : Int)) * 1)))) : Int) * 1)))]) ∧ KR X 105 0 Q (kOf Try.f105 0) (mkS 26 [(1, AV.one (AC.xp row 0)), (2, AV.one (AC.ptr 0 0)), (4, AV.one (AC.ptr 1 0)), (5, AV.one (AC.ptr 2 0)), (7, AV.one (AC.i64 (i + (1 : Int))))]) [some bs, some zs, some (layS xs (0 + Int.toNat i * 1) [AC.u8 (asU8 (gt AC.any row (0 + Int.toNat (↑(BitVec.toNat (asU8 (gt AC.any bs (0 + Int.toNat (bits64 BinOp.and (i + (4 : Int) * bits64 BinOp.and i (3 : Int)) (15 : Int)) * 1)))) : Int) * 1)))])]) ∧ (decide (i < (16 : Int)) = false → 16 ≤ List.length xs ∧ (List.length (List.take 16 (List.drop 0 xs)) = 16 ∧ 16 ≤ List.length zs) ∧ 16 ≤ List.length (layS zs 0 (List.take 16 (List.drop 0 xs))) ∧ flatAV (AV.agg (List.take 16 (List.drop 0 (layS zs 0 (List.take 16 (List.drop 0 xs)))))) ∧ Q (AV.agg (List.take 16 (List.drop 0 (layS zs 0 (List.take 16 (List.drop 0 xs)))))) [])) : KRun X 105 0 Q (kOf Try.f105 0) (mkS 26 [(1, .one (.xp row 0)), (2, .one (.ptr 0 0)), (4, .one (.ptr 1 0)), (5, .one (.ptr 2 0)), (7, .one (.i64 i))]) [some bs, some zs, some xs] :=
  wpRun_ok (hX ▸ baseJ_ok T0 mf0 M0) (hX ▸ baseJ_call T0_ok M0_ok) (hX ▸ mixed) (hX ▸ ok105) LK_ok (cast (β := wpRun (baseJ T0 mf0 M0) [8] [(5, 14)] false (RS.mk Try.f105.results.toList 0 (CS.mk [] [] [0] [])) (LK X 105 0 Q true [(3, LS.mk [1, 2, 4, 5, 7] (CS.mk [] [true, true, true] [] []))]) Q 2000 (kOf Try.f105 0) (mkS 26 [(1, .one (.xp row 0)), (2, .one (.ptr 0 0)), (4, .one (.ptr 1 0)), (5, .one (.ptr 2 0)), (7, .one (.i64 i))]) [some bs, some zs, some xs]) (by kernel_rfl) h)
set_option maxRecDepth 100000 in
theorem vc107 {X : Ctx} {Q : AV → Mem → Prop} (hX : X.P = Try.prog) (cs bs : List AC) (h : Flat cs ∧ Flat bs ∧ KR X 107 1 Q (kOf Try.f107 0) (mkS 20 [(0, AV.one (AC.ptr 0 0)), (3, AV.one (AC.ptr 1 0)), (5, AV.one (AC.i64 (0 : Int)))]) [some cs, some bs]) : KRun X 107 1 Q ([.code (bodyOf Try.f107)]) (slots [.one (.ptr 0 0), .agg bs] Try.f107.ntmps) [some cs] :=
  wpRun_ok (hX ▸ baseJ_ok T0 mf0 M0) (hX ▸ baseJ_call T0_ok M0_ok) (hX ▸ mixed) (hX ▸ ok107) LK_ok (cast (β := wpRun (baseJ T0 mf0 M0) [6] [(4, 11)] false (RS.mk Try.f107.results.toList 1 (CS.mk [] [true] [] [])) (LK X 107 1 Q true [(2, LS.mk [0, 3, 5] (CS.mk [] [true, true] [] []))]) Q 2000 ([.code (bodyOf Try.f107)]) (slots [.one (.ptr 0 0), .agg bs] Try.f107.ntmps) [some cs]) (by kernel_rfl) h)
set_option maxRecDepth 100000 in
theorem vc107a {X : Ctx} {Q : AV → Mem → Prop} (hX : X.P = Try.prog) (cs bs : List AC) (i : Int) (h : (decide (i < (16 : Int)) = true → ((0 : Int) ≤ i ∧ i < (↑16 : Int)) ∧ gt AC.any cs (0 + Int.toNat i * 1) = AC.u8 (asU8 (gt AC.any cs (0 + Int.toNat i * 1))) ∧ ((0 : Int) ≤ i ∧ i < (↑16 : Int)) ∧ gt AC.any bs (0 + Int.toNat i * 1) = AC.u8 (asU8 (gt AC.any bs (0 + Int.toNat i * 1))) ∧ ((0 : Int) ≤ i ∧ i < (↑16 : Int)) ∧ (1 = 1 ∧ 0 + Int.toNat i * 1 + 1 ≤ List.length cs) ∧ in64 (i + (1 : Int)) ∧ Flat (layS cs (0 + Int.toNat i * 1) [AC.u8 (asU8 (gt AC.any cs (0 + Int.toNat i * 1)) ^^^ asU8 (gt AC.any bs (0 + Int.toNat i * 1)))]) ∧ Flat bs ∧ KR X 107 1 Q (kOf Try.f107 0) (mkS 20 [(0, AV.one (AC.ptr 0 0)), (3, AV.one (AC.ptr 1 0)), (5, AV.one (AC.i64 (i + (1 : Int))))]) [some (layS cs (0 + Int.toNat i * 1) [AC.u8 (asU8 (gt AC.any cs (0 + Int.toNat i * 1)) ^^^ asU8 (gt AC.any bs (0 + Int.toNat i * 1)))]), some bs]) ∧ (decide (i < (16 : Int)) = false → Flat cs ∧ Q (AV.tup []) [some cs])) : KRun X 107 1 Q (kOf Try.f107 0) (mkS 20 [(0, .one (.ptr 0 0)), (3, .one (.ptr 1 0)), (5, .one (.i64 i))]) [some cs, some bs] :=
  wpRun_ok (hX ▸ baseJ_ok T0 mf0 M0) (hX ▸ baseJ_call T0_ok M0_ok) (hX ▸ mixed) (hX ▸ ok107) LK_ok (cast (β := wpRun (baseJ T0 mf0 M0) [6] [(4, 11)] false (RS.mk Try.f107.results.toList 1 (CS.mk [] [true] [] [])) (LK X 107 1 Q true [(2, LS.mk [0, 3, 5] (CS.mk [] [true, true] [] []))]) Q 2000 (kOf Try.f107 0) (mkS 20 [(0, .one (.ptr 0 0)), (3, .one (.ptr 1 0)), (5, .one (.i64 i))]) [some cs, some bs]) (by kernel_rfl) h)
set_option maxRecDepth 100000 in
theorem vc108 {X : Ctx} {Q : AV → Mem → Prop} (hX : X.P = Try.prog) (cs bs : List AC) (h : Flat cs ∧ Flat bs ∧ Flat (List.replicate 16 (AC.u8 (0 : BitVec 8))) ∧ KR X 108 0 Q (kOf Try.f108 0) (mkS 19 [(2, AV.one (AC.ptr 0 0)), (3, AV.one (AC.ptr 1 0)), (4, AV.one (AC.ptr 2 0)), (5, AV.one (AC.i64 (0 : Int)))]) [some cs, some bs, some (List.replicate 16 (AC.u8 (0 : BitVec 8)))]) : KRun X 108 0 Q ([.code (bodyOf Try.f108)]) (slots [.agg cs, .agg bs] Try.f108.ntmps) [] :=
  wpRun_ok (hX ▸ baseJ_ok T0 mf0 M0) (hX ▸ baseJ_call T0_ok M0_ok) (hX ▸ mixed) (hX ▸ ok108) LK_ok (cast (β := wpRun (baseJ T0 mf0 M0) [7] [(4, 8)] false (RS.mk Try.f108.results.toList 0 (CS.mk [] [] [0] [])) (LK X 108 0 Q true [(2, LS.mk [2, 3, 4, 5] (CS.mk [] [true, true, true] [] []))]) Q 2000 ([.code (bodyOf Try.f108)]) (slots [.agg cs, .agg bs] Try.f108.ntmps) []) (by kernel_rfl) h)
set_option maxRecDepth 100000 in
theorem vc108a {X : Ctx} {Q : AV → Mem → Prop} (hX : X.P = Try.prog) (cs bs zs : List AC) (i : Int) (h : (decide (i < (16 : Int)) = true → ((0 : Int) ≤ i ∧ i < (↑16 : Int)) ∧ gt AC.any cs (0 + Int.toNat i * 1) = AC.u8 (asU8 (gt AC.any cs (0 + Int.toNat i * 1))) ∧ ((0 : Int) ≤ i ∧ i < (↑16 : Int)) ∧ gt AC.any bs (0 + Int.toNat i * 1) = AC.u8 (asU8 (gt AC.any bs (0 + Int.toNat i * 1))) ∧ ((0 : Int) ≤ i ∧ i < (↑16 : Int)) ∧ (1 = 1 ∧ 0 + Int.toNat i * 1 + 1 ≤ List.length cs) ∧ in64 (i + (1 : Int)) ∧ Flat (layS cs (0 + Int.toNat i * 1) [AC.u8 (asU8 (gt AC.any cs (0 + Int.toNat i * 1)) ^^^ asU8 (gt AC.any bs (0 + Int.toNat i * 1)))]) ∧ Flat bs ∧ Flat zs ∧ KR X 108 0 Q (kOf Try.f108 0) (mkS 19 [(2, AV.one (AC.ptr 0 0)), (3, AV.one (AC.ptr 1 0)), (4, AV.one (AC.ptr 2 0)), (5, AV.one (AC.i64 (i + (1 : Int))))]) [some (layS cs (0 + Int.toNat i * 1) [AC.u8 (asU8 (gt AC.any cs (0 + Int.toNat i * 1)) ^^^ asU8 (gt AC.any bs (0 + Int.toNat i * 1)))]), some bs, some zs]) ∧ (decide (i < (16 : Int)) = false → 16 ≤ List.length cs ∧ (List.length (List.take 16 (List.drop 0 cs)) = 16 ∧ 16 ≤ List.length zs) ∧ 16 ≤ List.length (layS zs 0 (List.take 16 (List.drop 0 cs))) ∧ flatAV (AV.agg (List.take 16 (List.drop 0 (layS zs 0 (List.take 16 (List.drop 0 cs)))))) ∧ Q (AV.agg (List.take 16 (List.drop 0 (layS zs 0 (List.take 16 (List.drop 0 cs)))))) [])) : KRun X 108 0 Q (kOf Try.f108 0) (mkS 19 [(2, .one (.ptr 0 0)), (3, .one (.ptr 1 0)), (4, .one (.ptr 2 0)), (5, .one (.i64 i))]) [some cs, some bs, some zs] :=
  wpRun_ok (hX ▸ baseJ_ok T0 mf0 M0) (hX ▸ baseJ_call T0_ok M0_ok) (hX ▸ mixed) (hX ▸ ok108) LK_ok (cast (β := wpRun (baseJ T0 mf0 M0) [7] [(4, 8)] false (RS.mk Try.f108.results.toList 0 (CS.mk [] [] [0] [])) (LK X 108 0 Q true [(2, LS.mk [2, 3, 4, 5] (CS.mk [] [true, true, true] [] []))]) Q 2000 (kOf Try.f108 0) (mkS 19 [(2, .one (.ptr 0 0)), (3, .one (.ptr 1 0)), (4, .one (.ptr 2 0)), (5, .one (.i64 i))]) [some cs, some bs, some zs]) (by kernel_rfl) h)

theorem s50 (c : BitVec 8) : Spec Try.prog 50 [.one (.u8 c)] [] (Is (.one (.u8 (xt c)))) := by
  refine Spec.of_run ok50 fun X hX => vc50 hX _ ?_
  rw [← dbl_eq]
  refine ⟨fun h => ?_, fun h => ?_⟩
  · have h : ¬ c &&& 128#8 = 0#8 := by
      intro e
      rw [show decide (c &&& BitVec.ofInt 8 128 = BitVec.ofInt 8 0) = true from decide_eq_true e] at h
      cases h
    unfold dbl
    rw [if_neg h]
    rfl
  · have h : c &&& 128#8 = 0#8 := by
      rw [Bool.not_eq_false'] at h
      exact of_decide_eq_true h
    unfold dbl
    rw [if_pos h]
    rfl
theorem s109 (x : BitVec 8) : Spec Try.prog 109 [.one (.u8 x)] [] (Is (.one (.u8 (turnB x)))) := by
  refine Spec.of_run ok109 fun X hX => vc109 hX _ ?_
  (repeat' (first | exact trivial | exact flat_u8 _ | exact flatA _ | exact allU8_map _ | exact Nat.le_refl _ | refine And.intro ?_ ?_)) <;> (first | omega | rfl | decide | assumption | (unfold in64; omega) | exact List.length_map _ | skip)
theorem l51 {X : Ctx} (hX : X.P = Try.prog) (b : BitVec 8) : ∀ (d i : Nat) (a n : BitVec 8), i + d = 8 →
    KRun X 51 0 (Is (.one (.u8 (tmGo b d i n a)))) (kOf Try.f51 0) (mkS 28 [(0, .one (.u8 a)), (1, .one (.u8 b)), (5, .one (.u8 n)), (6, .one (.i64 i))]) [] := by
  intro d
  induction d with
  | zero =>
    intro i a n hi
    exact vc51a hX _ _ _ _ ⟨fun h => absurd (of_decide_eq_true h) (by omega), fun _ => rfl⟩
  | succ d ih =>
    intro i a n hi
    have e : tmGo b (d + 1) i n a = tmGo b d (i + 1) (if (b >>> i) &&& 1#8 = 1#8 then n ^^^ a else n) (xt a) := rfl
    rw [e]
    refine vc51a hX _ _ _ _ ⟨fun _ => ⟨by omega, fun h1 => ⟨fun h2 => ?_, fun h2 => ?_⟩, fun h1 => ⟨fun h2 => ?_, fun h2 => ?_⟩⟩, fun h => absurd (of_decide_eq_false h) (by omega)⟩
    all_goals
      refine ⟨by unfold in64; omega, ⟨?_⟩⟩
      unfold xt
      first
        | (rw [if_pos (show (b >>> i) &&& 1#8 = 1#8 from of_decide_eq_true h1), if_pos (show 128#8 ≤ a from of_decide_eq_true h2)]; exact ih (i + 1) _ _ (by omega))
        | (rw [if_pos (show (b >>> i) &&& 1#8 = 1#8 from of_decide_eq_true h1), if_neg (show ¬ 128#8 ≤ a from of_decide_eq_false h2)]; exact ih (i + 1) _ _ (by omega))
        | (rw [if_neg (show ¬ (b >>> i) &&& 1#8 = 1#8 from of_decide_eq_false h1), if_pos (show 128#8 ≤ a from of_decide_eq_true h2)]; exact ih (i + 1) _ _ (by omega))
        | (rw [if_neg (show ¬ (b >>> i) &&& 1#8 = 1#8 from of_decide_eq_false h1), if_neg (show ¬ 128#8 ≤ a from of_decide_eq_false h2)]; exact ih (i + 1) _ _ (by omega))
theorem s51 (a b : BitVec 8) : Spec Try.prog 51 [.one (.u8 a), .one (.u8 b)] [] (Is (.one (.u8 (tmF a b)))) :=
  Spec.of_run ok51 fun X hX => vc51 hX _ _ ⟨l51 hX b 8 0 a 0#8 rfl⟩
theorem and3 (i : Nat) (h : i < 9223372036854775808) : bits64 .and (i : Int) 3 = ((i % 4 : Nat) : Int) := by
  unfold bits64
  dsimp only
  have e : BitVec.ofInt 64 (i : Int) &&& BitVec.ofInt 64 3 = BitVec.ofNat 64 (i % 4) := by
    apply BitVec.eq_of_toNat_eq
    rw [BitVec.toNat_and, BitVec.ofInt_natCast, BitVec.toNat_ofNat, BitVec.toNat_ofNat]
    have h1 : (BitVec.ofInt 64 3).toNat = 3 := rfl
    rw [h1, Nat.mod_eq_of_lt (show i < 2 ^ 64 by omega), Nat.mod_eq_of_lt (show i % 4 < 2 ^ 64 by omega)]
    exact Nat.and_two_pow_sub_one_eq_mod i 2
  rw [e, BitVec.toInt_eq_toNat_cond, BitVec.toNat_ofNat, Nat.mod_eq_of_lt (show i % 4 < 2 ^ 64 by omega), if_pos (by omega)]
theorem boxT_len : boxT.length = 256 := by unfold boxT; rw [List.length_map]; kernel_rfl
theorem gt_box (c : BitVec 8) : gt AC.any (boxT.map AC.u8) (0 + Int.toNat ((c.toNat : Nat) : Int) * 1) = .u8 (bx c) := by
  rw [ixn]
  exact gt_u8_at _ _ (by rw [boxT_len]; exact c.isLt)
theorem l105 {X : Ctx} (hX : X.P = Try.prog) (b : List (BitVec 8)) (hb : b.length = 16) : ∀ (d i : Nat), i + d = 16 →
    KRun X 105 0 (Is (.agg ((shL b).map AC.u8))) (kOf Try.f105 0) (mkS 26 [(1, .one (.xp (boxT.map AC.u8) 0)), (2, .one (.ptr 0 0)), (4, .one (.ptr 1 0)), (5, .one (.ptr 2 0)), (7, .one (.i64 i))]) [some (b.map AC.u8), some (List.replicate 16 (AC.u8 0)), some (((shL b).take i ++ (List.replicate 16 0).drop i).map AC.u8)] := by
  have hl : (shL b).length = (List.replicate 16 (0 : BitVec 8)).length := by rw [List.length_replicate]; exact tab16_len _
  have hl2 : (shL b).length = 16 := tab16_len _
  have z : Flat (List.replicate 16 (AC.u8 0)) := by rw [mrep]; exact flat_u8 _
  intro d
  induction d with
  | zero =>
    intro i hi
    have hi : i = 16 := by omega
    subst hi
    have e := endT _ _ hl
    rw [hl2] at e
    refine vc105a hX _ _ _ _ _ ⟨fun h => absurd (of_decide_eq_true h) (by omega), fun _ => ?_⟩
    rw [e]
    simp only [hide_eq, tkm, tk0, map_as8, layR, layC, layM, lay1, tkn, List.drop_zero, Nat.zero_add, Nat.mul_one, Nat.reduceAdd, Nat.le_refl, Nat.min_self, Nat.reduceLeDiff, same_self, Int.toNat_natCast, List.length_map, List.length_append, List.length_replicate, List.length_take, List.length_drop, tab16_len, hl2]
    (repeat' (first | exact trivial | exact flat_u8 _ | exact flatA _ | exact allU8_map _ | exact Nat.le_refl _ | refine And.intro ?_ ?_)) <;> (first | omega | rfl | decide | assumption | (unfold in64; omega) | exact List.length_map _ | skip)
  | succ d ih =>
    intro i hi
    have hL := lenT _ _ hl (i := i)
    have ei : (i : Int) + 4 * bits64 .and (i : Int) 3 = ((i + 4 * (i % 4) : Nat) : Int) := by rw [and3 i (by omega)]; omega
    have e15 := and15 (i + 4 * (i % 4)) (by omega)
    have hg := gt_u8_at b (shI i) (by rw [hb]; unfold shI; omega)
    have hset := setT (shL b) (List.replicate 16 0) 0 (i := i) (by omega) hl
    rw [show (shL b).getD i 0 = bx (b.getD (shI i) 0) from tab16_get _ (by omega)] at hset
    have ih := ih (i + 1) (by omega)
    have ix : 0 + Int.toNat (((i + 4 * (i % 4)) % 16 : Nat) : Int) * 1 = shI i := by unfold shI; omega
    have i4 : in64 (4 * bits64 .and (i : Int) 3) := by rw [and3 i (by omega)]; unfold in64; omega
    refine vc105a hX _ _ _ _ _ ⟨fun _ => ?_, fun h => absurd (of_decide_eq_false h) (by omega)⟩
    rw [ei, e15]
    simp only [ix, hg, asU8, gt_box]
    simp only [ixn, lay1, hset, hL, List.length_map, List.length_replicate]
    (repeat' (first | exact trivial | exact flat_u8 _ | exact flatA _ | exact allU8_map _ | exact Nat.le_refl _ | refine And.intro ?_ ?_)) <;> (first | omega | rfl | decide | assumption | (unfold in64; omega) | exact List.length_map _ | skip)
    exact ⟨ih⟩
theorem s105 (b : List (BitVec 8)) (hb : b.length = 16) : Spec Try.prog 105 [.agg (b.map AC.u8), .one (.xp (boxT.map AC.u8) 0)] [] (Is (.agg ((shL b).map AC.u8))) := by
  refine Spec.of_run ok105 fun X hX => vc105 hX _ _ ?_
  have K := l105 hX b hb 16 0 rfl
  rw [begT, ← mrep] at K
  have z : Flat (List.replicate 16 (AC.u8 0)) := by rw [mrep]; exact flat_u8 _
  (repeat' (first | exact trivial | exact flat_u8 _ | exact flatA _ | exact allU8_map _ | exact Nat.le_refl _ | refine And.intro ?_ ?_)) <;> (first | omega | rfl | decide | assumption | (unfold in64; omega) | exact List.length_map _ | skip)
  exact ⟨K⟩
theorem l107 {X : Ctx} (hX : X.P = Try.prog) (a b : List (BitVec 8)) (ha : a.length = 16) (hb : b.length = 16) : ∀ (d i : Nat), i + d = 16 →
    KRun X 107 1 (Are (.tup []) [some ((xorL a b).map AC.u8)]) (kOf Try.f107 0) (mkS 20 [(0, .one (.ptr 0 0)), (3, .one (.ptr 1 0)), (5, .one (.i64 i))]) [some (((xorL a b).take i ++ a.drop i).map AC.u8), some (b.map AC.u8)] := by
  have hl2 : (xorL a b).length = 16 := tab16_len _
  have hl : (xorL a b).length = a.length := by rw [hl2, ha]
  intro d
  induction d with
  | zero =>
    intro i hi
    have hi : i = 16 := by omega
    subst hi
    have e := endT _ _ hl
    rw [hl2] at e
    refine vc107a hX _ _ _ ⟨fun h => absurd (of_decide_eq_true h) (by omega), fun _ => ?_⟩
    rw [e]
    exact ⟨flat_u8 _, rfl, rfl⟩
  | succ d ih =>
    intro i hi
    have hL := lenT _ _ hl (i := i)
    have hg := gt_u8_at ((xorL a b).take i ++ a.drop i) i (by omega)
    rw [getT_src _ _ _ (by omega) (Nat.le_refl _)] at hg
    have hg2 := gt_u8_at b i (by omega)
    have hset := setT _ _ 0 (i := i) (by omega) hl
    rw [show (xorL a b).getD i 0 = a.getD i 0 ^^^ b.getD i 0 from tab16_get _ (by omega)] at hset
    have ih := ih (i + 1) (by omega)
    refine vc107a hX _ _ _ ⟨fun _ => ?_, fun h => absurd (of_decide_eq_false h) (by omega)⟩
    simp only [ixn, hg, hg2, asU8, lay1, hset, hL, List.length_map]
    (repeat' (first | exact trivial | exact flat_u8 _ | exact flatA _ | exact allU8_map _ | exact Nat.le_refl _ | refine And.intro ?_ ?_)) <;> (first | omega | rfl | decide | assumption | (unfold in64; omega) | exact List.length_map _ | skip)
    exact ⟨ih⟩
theorem s107 (a b : List (BitVec 8)) (ha : a.length = 16) (hb : b.length = 16) : Spec Try.prog 107 [.one (.ptr 0 0), .agg (b.map AC.u8)] [some (a.map AC.u8)] (Are (.tup []) [some ((xorL a b).map AC.u8)]) := by
  refine Spec.of_run ok107 fun X hX => vc107 hX _ _ ?_
  have K := l107 hX a b ha hb 16 0 rfl
  rw [begT] at K
  exact ⟨flat_u8 _, flat_u8 _, ⟨K⟩⟩
theorem l108 {X : Ctx} (hX : X.P = Try.prog) (a b : List (BitVec 8)) (ha : a.length = 16) (hb : b.length = 16) : ∀ (d i : Nat), i + d = 16 →
    KRun X 108 0 (Is (.agg ((xorL a b).map AC.u8))) (kOf Try.f108 0) (mkS 19 [(2, .one (.ptr 0 0)), (3, .one (.ptr 1 0)), (4, .one (.ptr 2 0)), (5, .one (.i64 i))]) [some (((xorL a b).take i ++ a.drop i).map AC.u8), some (b.map AC.u8), some (List.replicate 16 (AC.u8 0))] := by
  have hl2 : (xorL a b).length = 16 := tab16_len _
  have hl : (xorL a b).length = a.length := by rw [hl2, ha]
  have z : Flat (List.replicate 16 (AC.u8 0)) := by rw [mrep]; exact flat_u8 _
  intro d
  induction d with
  | zero =>
    intro i hi
    have hi : i = 16 := by omega
    subst hi
    have e := endT _ _ hl
    rw [hl2] at e
    refine vc108a hX _ _ _ _ ⟨fun h => absurd (of_decide_eq_true h) (by omega), fun _ => ?_⟩
    rw [e]
    simp only [hide_eq, tkm, tk0, map_as8, layR, layC, layM, lay1, tkn, List.drop_zero, Nat.zero_add, Nat.mul_one, Nat.reduceAdd, Nat.le_refl, Nat.min_self, Nat.reduceLeDiff, same_self, Int.toNat_natCast, List.length_map, List.length_append, List.length_replicate, List.length_take, List.length_drop, tab16_len, hl2]
    (repeat' (first | exact trivial | exact flat_u8 _ | exact flatA _ | exact allU8_map _ | exact Nat.le_refl _ | refine And.intro ?_ ?_)) <;> (first | omega | rfl | decide | assumption | (unfold in64; omega) | exact List.length_map _ | skip)
  | succ d ih =>
    intro i hi
    have hL := lenT _ _ hl (i := i)
    have hg := gt_u8_at ((xorL a b).take i ++ a.drop i) i (by omega)
    rw [getT_src _ _ _ (by omega) (Nat.le_refl _)] at hg
    have hg2 := gt_u8_at b i (by omega)
    have hset := setT _ _ 0 (i := i) (by omega) hl
    rw [show (xorL a b).getD i 0 = a.getD i 0 ^^^ b.getD i 0 from tab16_get _ (by omega)] at hset
    have ih := ih (i + 1) (by omega)
    refine vc108a hX _ _ _ _ ⟨fun _ => ?_, fun h => absurd (of_decide_eq_false h) (by omega)⟩
    simp only [ixn, hg, hg2, asU8, lay1, hset, hL, List.length_map]
    (repeat' (first | exact trivial | exact flat_u8 _ | exact flatA _ | exact allU8_map _ | exact Nat.le_refl _ | refine And.intro ?_ ?_)) <;> (first | omega | rfl | decide | assumption | (unfold in64; omega) | exact List.length_map _ | skip)
    exact ⟨ih⟩
theorem s108 (a b : List (BitVec 8)) (ha : a.length = 16) (hb : b.length = 16) : Spec Try.prog 108 [.agg (a.map AC.u8), .agg (b.map AC.u8)] [] (Is (.agg ((xorL a b).map AC.u8))) := by
  refine Spec.of_run ok108 fun X hX => vc108 hX _ _ ?_
  have K := l108 hX a b ha hb 16 0 rfl
  rw [begT] at K
  have z : Flat (List.replicate 16 (AC.u8 0)) := by rw [mrep]; exact flat_u8 _
  (repeat' (first | exact trivial | exact flat_u8 _ | exact flatA _ | exact allU8_map _ | exact Nat.le_refl _ | refine And.intro ?_ ?_)) <;> (first | omega | rfl | decide | assumption | (unfold in64; omega) | exact List.length_map _ | skip)
  exact ⟨K⟩
end DH
