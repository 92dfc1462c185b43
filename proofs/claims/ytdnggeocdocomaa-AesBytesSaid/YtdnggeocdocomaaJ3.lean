/- Walks of functions, each by evaluation: what each returns. -/
import Derived.Test.YtdnggeocdocomaaJ2
set_option linter.unusedVariables false
set_option linter.unusedSimpArgs false
noncomputable section
namespace DH
open Go Go.Proofs
def symK (t : TypeId) : Bool := match t with | 68 => true | 144 => true | t => symJ t
noncomputable def baseK (T : Tab) (mf : FuncId → Option MF) (M : TabM) : Env := ⟨tys, symK, false, T, [], mf, M⟩
theorem baseK_ok (T : Tab) (mf : FuncId → Option MF) (M : TabM) : EnvOk Try.prog (baseK T mf M) := EnvOk.of tysOk
theorem baseK_call {T : Tab} {mf : FuncId → Option MF} {M : TabM} (hT : TabOk Try.prog T) (hM : TabMOk Try.prog M) : CallOk Try.prog (baseK T mf M) :=
  ⟨hT, fun f mf xs m0 cs r m1 _ h hc => hM f xs m0 cs r m1 h hc⟩
noncomputable def T12 : Tab := fun f xs => match f, xs with
  | 48, [.one (.u8 c)] => some ([], .one (.u8 (bx c)))
  | 49, [.one (.u8 c)] => some ([], .one (.u8 (bx c)))
  | 54, [] => some ([], .agg (hide (boxT.map AC.u8)))
  | 102, [.agg cs] => some ([allU8 cs ∧ cs.length = 16], .agg (hide ((exL (cs.map asU8) 176).map AC.u8)))
  | 110, [.one (.u8 c)] => some ([], .one (.u8 (invF c)))
  | f, xs => T11 f xs
noncomputable def Tq : Tab := fun f xs => match f, xs with
  | 110, [.one (.u8 c)] => some ([], .one (.u8 (invF c)))
  | f, xs => T11 f xs
theorem Tq_ok : TabOk Try.prog Tq := by
  intro f xs cs r h hc
  unfold Tq at h
  split at h
  · obtain ⟨rfl, rfl⟩ := Prod.mk.inj (Option.some.inj h)
    exact ⟨⟨_, _, ok110⟩, s110 _, rfl⟩
  · exact T11_ok _ _ _ _ h hc
set_option maxRecDepth 100000 in
theorem vc49 {X : Ctx} {Q : AV → Mem → Prop} (hX : X.P = Try.prog) (c : BitVec 8) (h : Q (AV.one (AC.u8 (turnB (invF c)))) []) : KRun X 49 0 Q ([.code (bodyOf Try.f49)]) (slots [.one (.u8 c)] Try.f49.ntmps) [] :=
  wpRun_ok (hX ▸ baseK_ok Tq mf11 M11) (hX ▸ baseK_call Tq_ok M11_ok) (hX ▸ mixed) (hX ▸ ok49) LK_ok (cast (β := wpRun (baseK Tq mf11 M11) [] [] false (RS.mk Try.f49.results.toList 0 (CS.mk [] [] [] [])) (LK X 49 0 Q true []) Q 2000 ([.code (bodyOf Try.f49)]) (slots [.one (.u8 c)] Try.f49.ntmps) []) (by kernel_rfl) h)
theorem s49 (c : BitVec 8) : Spec Try.prog 49 [.one (.u8 c)] [] (Is (.one (.u8 (bx c)))) :=
  Spec.of_run ok49 fun X hX => vc49 hX _ (by rw [box_eq]; exact rfl)
theorem T12_ok : TabOk Try.prog T12 := by
  intro f xs cs r h hc
  unfold T12 at h
  split at h
  · obtain ⟨rfl, rfl⟩ := Prod.mk.inj (Option.some.inj h)
    exact ⟨⟨_, _, ok48⟩, s48 _, rfl⟩
  · obtain ⟨rfl, rfl⟩ := Prod.mk.inj (Option.some.inj h)
    exact ⟨⟨_, _, ok49⟩, s49 _, rfl⟩
  · obtain ⟨rfl, rfl⟩ := Prod.mk.inj (Option.some.inj h)
    rw [hide_eq]
    exact ⟨⟨_, _, ok54⟩, s54, exactL_map _ (fun _ => rfl) _⟩
  · obtain ⟨rfl, rfl⟩ := Prod.mk.inj (Option.some.inj h)
    obtain ⟨h1, h2⟩ := hc.1
    rename_i cs
    have := s102 (cs.map asU8) (by rw [List.length_map]; exact h2)
    rw [← h1] at this
    rw [hide_eq]
    exact ⟨⟨_, _, ok102⟩, this, exactL_map _ (fun _ => rfl) _⟩
  · obtain ⟨rfl, rfl⟩ := Prod.mk.inj (Option.some.inj h)
    exact ⟨⟨_, _, ok110⟩, s110 _, rfl⟩
  · exact T11_ok _ _ _ _ h hc
set_option maxRecDepth 100000 in
theorem vc104t {X : Ctx} {Q : AV → Mem → Prop} (hX : X.P = Try.prog) (ks : List AC) (h : (true = true → 177 ≤ List.length (AC.b true :: ks) ∧ (List.length (List.take 176 (List.drop 1 (AC.b true :: ks))) = 176 ∧ 176 ≤ 176) ∧ 176 ≤ List.length (layS (List.replicate 176 (AC.u8 (0 : BitVec 8))) 0 (List.take 176 (List.drop 1 (AC.b true :: ks)))) ∧ flatAV (AV.agg (List.take 176 (List.drop 0 (layS (List.replicate 176 (AC.u8 (0 : BitVec 8))) 0 (List.take 176 (List.drop 1 (AC.b true :: ks))))))) ∧ Q (AV.agg (List.take 176 (List.drop 0 (layS (List.replicate 176 (AC.u8 (0 : BitVec 8))) 0 (List.take 176 (List.drop 1 (AC.b true :: ks))))))) []) ∧ (true = false → Flat (List.replicate 16 (AC.u8 (0 : BitVec 8))) ∧ (allU8 (List.replicate 16 (AC.u8 (0 : BitVec 8))) ∧ 16 = 16) ∧ (List.length (hide (List.map AC.u8 (exL (List.map asU8 (List.replicate 16 (AC.u8 (0 : BitVec 8)))) 176))) = 176 ∧ 176 ≤ 176) ∧ 176 ≤ List.length (layS (List.replicate 176 (AC.u8 (0 : BitVec 8))) 0 (hide (List.map AC.u8 (exL (List.map asU8 (List.replicate 16 (AC.u8 (0 : BitVec 8)))) 176)))) ∧ flatAV (AV.agg (List.take 176 (List.drop 0 (layS (List.replicate 176 (AC.u8 (0 : BitVec 8))) 0 (hide (List.map AC.u8 (exL (List.map asU8 (List.replicate 16 (AC.u8 (0 : BitVec 8)))) 176))))))) ∧ Q (AV.agg (List.take 176 (List.drop 0 (layS (List.replicate 176 (AC.u8 (0 : BitVec 8))) 0 (hide (List.map AC.u8 (exL (List.map asU8 (List.replicate 16 (AC.u8 (0 : BitVec 8)))) 176))))))) [])) : KRun X 104 0 Q ([.code (bodyOf Try.f104)]) (slots [.agg (.b true :: ks)] Try.f104.ntmps) [] :=
  wpRun_ok (hX ▸ baseK_ok T12 mf11 M11) (hX ▸ baseK_call T12_ok M11_ok) (hX ▸ mixed) (hX ▸ ok104) LK_ok (cast (β := wpRun (baseK T12 mf11 M11) [4] [] false (RS.mk Try.f104.results.toList 0 (CS.mk [] [] [0] [])) (LK X 104 0 Q true []) Q 2000 ([.code (bodyOf Try.f104)]) (slots [.agg (.b true :: ks)] Try.f104.ntmps) []) (by kernel_rfl) h)
set_option maxRecDepth 100000 in
theorem vc104f {X : Ctx} {Q : AV → Mem → Prop} (hX : X.P = Try.prog) (ks : List AC) (h : (false = true → 177 ≤ List.length (AC.b false :: ks) ∧ (List.length (List.take 176 (List.drop 1 (AC.b false :: ks))) = 176 ∧ 176 ≤ 176) ∧ 176 ≤ List.length (layS (List.replicate 176 (AC.u8 (0 : BitVec 8))) 0 (List.take 176 (List.drop 1 (AC.b false :: ks)))) ∧ flatAV (AV.agg (List.take 176 (List.drop 0 (layS (List.replicate 176 (AC.u8 (0 : BitVec 8))) 0 (List.take 176 (List.drop 1 (AC.b false :: ks))))))) ∧ Q (AV.agg (List.take 176 (List.drop 0 (layS (List.replicate 176 (AC.u8 (0 : BitVec 8))) 0 (List.take 176 (List.drop 1 (AC.b false :: ks))))))) []) ∧ (false = false → Flat (List.replicate 16 (AC.u8 (0 : BitVec 8))) ∧ (allU8 (List.replicate 16 (AC.u8 (0 : BitVec 8))) ∧ 16 = 16) ∧ (List.length (hide (List.map AC.u8 (exL (List.map asU8 (List.replicate 16 (AC.u8 (0 : BitVec 8)))) 176))) = 176 ∧ 176 ≤ 176) ∧ 176 ≤ List.length (layS (List.replicate 176 (AC.u8 (0 : BitVec 8))) 0 (hide (List.map AC.u8 (exL (List.map asU8 (List.replicate 16 (AC.u8 (0 : BitVec 8)))) 176)))) ∧ flatAV (AV.agg (List.take 176 (List.drop 0 (layS (List.replicate 176 (AC.u8 (0 : BitVec 8))) 0 (hide (List.map AC.u8 (exL (List.map asU8 (List.replicate 16 (AC.u8 (0 : BitVec 8)))) 176))))))) ∧ Q (AV.agg (List.take 176 (List.drop 0 (layS (List.replicate 176 (AC.u8 (0 : BitVec 8))) 0 (hide (List.map AC.u8 (exL (List.map asU8 (List.replicate 16 (AC.u8 (0 : BitVec 8)))) 176))))))) [])) : KRun X 104 0 Q ([.code (bodyOf Try.f104)]) (slots [.agg (.b false :: ks)] Try.f104.ntmps) [] :=
  wpRun_ok (hX ▸ baseK_ok T12 mf11 M11) (hX ▸ baseK_call T12_ok M11_ok) (hX ▸ mixed) (hX ▸ ok104) LK_ok (cast (β := wpRun (baseK T12 mf11 M11) [4] [] false (RS.mk Try.f104.results.toList 0 (CS.mk [] [] [0] [])) (LK X 104 0 Q true []) Q 2000 ([.code (bodyOf Try.f104)]) (slots [.agg (.b false :: ks)] Try.f104.ntmps) []) (by kernel_rfl) h)
set_option maxRecDepth 100000 in
theorem vc44 {X : Ctx} {Q : AV → Mem → Prop} (hX : X.P = Try.prog) (ks : List AC) (h : 16 ≤ List.length ks ∧ Flat (List.take 16 (List.drop 0 ks)) ∧ (allU8 (List.take 16 (List.drop 0 ks)) ∧ List.length (List.take 16 (List.drop 0 ks)) = 16) ∧ (1 = 1 ∧ 1 ≤ 177) ∧ (List.length (hide (List.map AC.u8 (exL (List.map asU8 (List.take 16 (List.drop 0 ks))) 176))) = 176 ∧ 177 ≤ 177) ∧ (List.length (lay (lay ([AC.b false] ++ List.replicate 176 (AC.u8 (0 : BitVec 8))) 0 [cvC (Value.bool true)]) 1 (hide (List.map AC.u8 (exL (List.map asU8 (List.take 16 (List.drop 0 ks))) 176)))) = 177 ∧ 177 ≤ 177) ∧ 177 ≤ List.length (layS ([AC.b false] ++ List.replicate 176 (AC.u8 (0 : BitVec 8))) 0 (lay (lay ([AC.b false] ++ List.replicate 176 (AC.u8 (0 : BitVec 8))) 0 [cvC (Value.bool true)]) 1 (hide (List.map AC.u8 (exL (List.map asU8 (List.take 16 (List.drop 0 ks))) 176))))) ∧ flatAV (AV.agg (List.take 177 (List.drop 0 (layS ([AC.b false] ++ List.replicate 176 (AC.u8 (0 : BitVec 8))) 0 (lay (lay ([AC.b false] ++ List.replicate 176 (AC.u8 (0 : BitVec 8))) 0 [cvC (Value.bool true)]) 1 (hide (List.map AC.u8 (exL (List.map asU8 (List.take 16 (List.drop 0 ks))) 176)))))))) ∧ Q (AV.agg (List.take 177 (List.drop 0 (layS ([AC.b false] ++ List.replicate 176 (AC.u8 (0 : BitVec 8))) 0 (lay (lay ([AC.b false] ++ List.replicate 176 (AC.u8 (0 : BitVec 8))) 0 [cvC (Value.bool true)]) 1 (hide (List.map AC.u8 (exL (List.map asU8 (List.take 16 (List.drop 0 ks))) 176)))))))) []) : KRun X 44 0 Q ([.code (bodyOf Try.f44)]) (slots [.agg ks] Try.f44.ntmps) [] :=
  wpRun_ok (hX ▸ baseK_ok T12 mf11 M11) (hX ▸ baseK_call T12_ok M11_ok) (hX ▸ mixed) (hX ▸ ok44) LK_ok (cast (β := wpRun (baseK T12 mf11 M11) [] [] false (RS.mk Try.f44.results.toList 0 (CS.mk [] [] [0] [])) (LK X 44 0 Q true []) Q 2000 ([.code (bodyOf Try.f44)]) (slots [.agg ks] Try.f44.ntmps) []) (by kernel_rfl) h)
set_option maxRecDepth 100000 in
theorem vc106 {X : Ctx} {Q : AV → Mem → Prop} (hX : X.P = Try.prog) (bs : List AC) (h : Flat bs ∧ KR X 106 1 Q (kOf Try.f106 0) (mkS 55 [(0, AV.one (AC.ptr 0 0)), (2, AV.one (AC.i64 (0 : Int)))]) [some bs]) : KRun X 106 1 Q ([.code (bodyOf Try.f106)]) (slots [.one (.ptr 0 0)] Try.f106.ntmps) [some bs] :=
  wpRun_ok (hX ▸ baseK_ok T12 mf11 M11) (hX ▸ baseK_call T12_ok M11_ok) (hX ▸ mixed) (hX ▸ ok106) LK_ok (cast (β := wpRun (baseK T12 mf11 M11) [7, 30] [(8, 22)] false (RS.mk Try.f106.results.toList 1 (CS.mk [] [true] [] [])) (LK X 106 1 Q true [(1, LS.mk [0, 2] (CS.mk [] [true] [] [])), (6, LS.mk [0, 2, 3, 4, 29] (CS.mk [] [true, true] [] []))]) Q 2000 ([.code (bodyOf Try.f106)]) (slots [.one (.ptr 0 0)] Try.f106.ntmps) [some bs]) (by kernel_rfl) h)
set_option maxRecDepth 100000 in
theorem vc106a {X : Ctx} {Q : AV → Mem → Prop} (hX : X.P = Try.prog) (bs : List AC) (c : Int) (h : (decide (c < (16 : Int)) = true → in64 (c + (4 : Int)) ∧ ((0 : Int) ≤ c ∧ c ≤ c + (4 : Int) ∧ c + (4 : Int) ≤ (↑16 : Int)) ∧ 4 ≤ Int.toNat (c + (4 : Int)) - Int.toNat c ∧ 0 + Int.toNat c * 1 + 4 ≤ List.length bs ∧ (List.length (List.take 4 (List.drop (0 + Int.toNat c * 1) bs)) = 4 ∧ 4 ≤ 4) ∧ ((0 : Int) ≤ (0 : Int) ∧ (0 : Int) < (↑4 : Int)) ∧ gt AC.any (layS [AC.u8 (0 : BitVec 8), AC.u8 (0 : BitVec 8), AC.u8 (0 : BitVec 8), AC.u8 (0 : BitVec 8)] 0 (List.take 4 (List.drop (0 + Int.toNat c * 1) bs))) 0 = AC.u8 (asU8 (gt AC.any (layS [AC.u8 (0 : BitVec 8), AC.u8 (0 : BitVec 8), AC.u8 (0 : BitVec 8), AC.u8 (0 : BitVec 8)] 0 (List.take 4 (List.drop (0 + Int.toNat c * 1) bs))) 0)) ∧ ((0 : Int) ≤ (1 : Int) ∧ (1 : Int) < (↑4 : Int)) ∧ gt AC.any (layS [AC.u8 (0 : BitVec 8), AC.u8 (0 : BitVec 8), AC.u8 (0 : BitVec 8), AC.u8 (0 : BitVec 8)] 0 (List.take 4 (List.drop (0 + Int.toNat c * 1) bs))) 1 = AC.u8 (asU8 (gt AC.any (layS [AC.u8 (0 : BitVec 8), AC.u8 (0 : BitVec 8), AC.u8 (0 : BitVec 8), AC.u8 (0 : BitVec 8)] 0 (List.take 4 (List.drop (0 + Int.toNat c * 1) bs))) 1)) ∧ ((0 : Int) ≤ (2 : Int) ∧ (2 : Int) < (↑4 : Int)) ∧ gt AC.any (layS [AC.u8 (0 : BitVec 8), AC.u8 (0 : BitVec 8), AC.u8 (0 : BitVec 8), AC.u8 (0 : BitVec 8)] 0 (List.take 4 (List.drop (0 + Int.toNat c * 1) bs))) 2 = AC.u8 (asU8 (gt AC.any (layS [AC.u8 (0 : BitVec 8), AC.u8 (0 : BitVec 8), AC.u8 (0 : BitVec 8), AC.u8 (0 : BitVec 8)] 0 (List.take 4 (List.drop (0 + Int.toNat c * 1) bs))) 2)) ∧ ((0 : Int) ≤ (3 : Int) ∧ (3 : Int) < (↑4 : Int)) ∧ gt AC.any (layS [AC.u8 (0 : BitVec 8), AC.u8 (0 : BitVec 8), AC.u8 (0 : BitVec 8), AC.u8 (0 : BitVec 8)] 0 (List.take 4 (List.drop (0 + Int.toNat c * 1) bs))) 3 = AC.u8 (asU8 (gt AC.any (layS [AC.u8 (0 : BitVec 8), AC.u8 (0 : BitVec 8), AC.u8 (0 : BitVec 8), AC.u8 (0 : BitVec 8)] 0 (List.take 4 (List.drop (0 + Int.toNat c * 1) bs))) 3)) ∧ Flat bs ∧ Flat (layS [AC.u8 (0 : BitVec 8), AC.u8 (0 : BitVec 8), AC.u8 (0 : BitVec 8), AC.u8 (0 : BitVec 8)] 0 (List.take 4 (List.drop (0 + Int.toNat c * 1) bs))) ∧ KR X 106 1 Q (kOf Try.f106 1) (mkS 55 [(0, AV.one (AC.ptr 0 0)), (2, AV.one (AC.i64 c)), (3, AV.one (AC.ptr 1 0)), (4, AV.one (AC.u8 (asU8 (gt AC.any (layS [AC.u8 (0 : BitVec 8), AC.u8 (0 : BitVec 8), AC.u8 (0 : BitVec 8), AC.u8 (0 : BitVec 8)] 0 (List.take 4 (List.drop (0 + Int.toNat c * 1) bs))) 0) ^^^ asU8 (gt AC.any (layS [AC.u8 (0 : BitVec 8), AC.u8 (0 : BitVec 8), AC.u8 (0 : BitVec 8), AC.u8 (0 : BitVec 8)] 0 (List.take 4 (List.drop (0 + Int.toNat c * 1) bs))) 1) ^^^ asU8 (gt AC.any (layS [AC.u8 (0 : BitVec 8), AC.u8 (0 : BitVec 8), AC.u8 (0 : BitVec 8), AC.u8 (0 : BitVec 8)] 0 (List.take 4 (List.drop (0 + Int.toNat c * 1) bs))) 2) ^^^ asU8 (gt AC.any (layS [AC.u8 (0 : BitVec 8), AC.u8 (0 : BitVec 8), AC.u8 (0 : BitVec 8), AC.u8 (0 : BitVec 8)] 0 (List.take 4 (List.drop (0 + Int.toNat c * 1) bs))) 3)))), (29, AV.one (AC.i64 (0 : Int)))]) [some bs, some (layS [AC.u8 (0 : BitVec 8), AC.u8 (0 : BitVec 8), AC.u8 (0 : BitVec 8), AC.u8 (0 : BitVec 8)] 0 (List.take 4 (List.drop (0 + Int.toNat c * 1) bs)))]) ∧ (decide (c < (16 : Int)) = false → Flat bs ∧ Q (AV.tup []) [some bs])) : KRun X 106 1 Q (kOf Try.f106 0) (mkS 55 [(0, .one (.ptr 0 0)), (2, .one (.i64 c))]) [some bs] :=
  wpRun_ok (hX ▸ baseK_ok T12 mf11 M11) (hX ▸ baseK_call T12_ok M11_ok) (hX ▸ mixed) (hX ▸ ok106) LK_ok (cast (β := wpRun (baseK T12 mf11 M11) [7, 30] [(8, 22)] false (RS.mk Try.f106.results.toList 1 (CS.mk [] [true] [] [])) (LK X 106 1 Q true [(1, LS.mk [0, 2] (CS.mk [] [true] [] [])), (6, LS.mk [0, 2, 3, 4, 29] (CS.mk [] [true, true] [] []))]) Q 2000 (kOf Try.f106 0) (mkS 55 [(0, .one (.ptr 0 0)), (2, .one (.i64 c))]) [some bs]) (by kernel_rfl) h)
set_option maxRecDepth 100000 in
theorem vc106b {X : Ctx} {Q : AV → Mem → Prop} (hX : X.P = Try.prog) (bs cs : List AC) (a : BitVec 8) (c r : Int) (h : (decide (r < (4 : Int)) = true → in64 (c + r) ∧ ((0 : Int) ≤ c + r ∧ c + r < (↑16 : Int)) ∧ gt AC.any bs (0 + Int.toNat (c + r) * 1) = AC.u8 (asU8 (gt AC.any bs (0 + Int.toNat (c + r) * 1))) ∧ ((0 : Int) ≤ r ∧ r < (↑4 : Int)) ∧ gt AC.any cs (0 + Int.toNat r * 1) = AC.u8 (asU8 (gt AC.any cs (0 + Int.toNat r * 1))) ∧ in64 (r + (1 : Int)) ∧ ((0 : Int) ≤ bits64 BinOp.and (r + (1 : Int)) (3 : Int) ∧ bits64 BinOp.and (r + (1 : Int)) (3 : Int) < (↑4 : Int)) ∧ gt AC.any cs (0 + Int.toNat (bits64 BinOp.and (r + (1 : Int)) (3 : Int)) * 1) = AC.u8 (asU8 (gt AC.any cs (0 + Int.toNat (bits64 BinOp.and (r + (1 : Int)) (3 : Int)) * 1))) ∧ ((0 : Int) ≤ c + r ∧ c + r < (↑16 : Int)) ∧ (1 = 1 ∧ 0 + Int.toNat (c + r) * 1 + 1 ≤ List.length bs) ∧ in64 (r + (1 : Int)) ∧ Flat (layS bs (0 + Int.toNat (c + r) * 1) [AC.u8 (asU8 (gt AC.any bs (0 + Int.toNat (c + r) * 1)) ^^^ (a ^^^ xt (asU8 (gt AC.any cs (0 + Int.toNat r * 1)) ^^^ asU8 (gt AC.any cs (0 + Int.toNat (bits64 BinOp.and (r + (1 : Int)) (3 : Int)) * 1)))))]) ∧ Flat cs ∧ KR X 106 1 Q (kOf Try.f106 1) (mkS 55 [(0, AV.one (AC.ptr 0 0)), (2, AV.one (AC.i64 c)), (3, AV.one (AC.ptr 1 0)), (4, AV.one (AC.u8 a)), (29, AV.one (AC.i64 (r + (1 : Int))))]) [some (layS bs (0 + Int.toNat (c + r) * 1) [AC.u8 (asU8 (gt AC.any bs (0 + Int.toNat (c + r) * 1)) ^^^ (a ^^^ xt (asU8 (gt AC.any cs (0 + Int.toNat r * 1)) ^^^ asU8 (gt AC.any cs (0 + Int.toNat (bits64 BinOp.and (r + (1 : Int)) (3 : Int)) * 1)))))]), some cs]) ∧ (decide (r < (4 : Int)) = false → in64 (c + (4 : Int)) ∧ Flat bs ∧ KR X 106 1 Q (kOf Try.f106 0) (mkS 55 [(0, AV.one (AC.ptr 0 0)), (2, AV.one (AC.i64 (c + (4 : Int))))]) [some bs])) : KRun X 106 1 Q (kOf Try.f106 1) (mkS 55 [(0, .one (.ptr 0 0)), (2, .one (.i64 c)), (3, .one (.ptr 1 0)), (4, .one (.u8 a)), (29, .one (.i64 r))]) [some bs, some cs] :=
  wpRun_ok (hX ▸ baseK_ok T12 mf11 M11) (hX ▸ baseK_call T12_ok M11_ok) (hX ▸ mixed) (hX ▸ ok106) LK_ok (cast (β := wpRun (baseK T12 mf11 M11) [7, 30] [(8, 22)] false (RS.mk Try.f106.results.toList 1 (CS.mk [] [true] [] [])) (LK X 106 1 Q true [(1, LS.mk [0, 2] (CS.mk [] [true] [] [])), (6, LS.mk [0, 2, 3, 4, 29] (CS.mk [] [true, true] [] []))]) Q 2000 (kOf Try.f106 1) (mkS 55 [(0, .one (.ptr 0 0)), (2, .one (.i64 c)), (3, .one (.ptr 1 0)), (4, .one (.u8 a)), (29, .one (.i64 r))]) [some bs, some cs]) (by kernel_rfl) h)
set_option maxRecDepth 100000 in
theorem vc53 {X : Ctx} {Q : AV → Mem → Prop} (hX : X.P = Try.prog) (ks bs : List AC) (h : Flat ks ∧ Flat bs ∧ Flat (List.replicate 176 (AC.u8 (0 : BitVec 8))) ∧ Flat (List.replicate 176 (AC.u8 (0 : BitVec 8))) ∧ KR X 53 0 Q (kOf Try.f53 0) (mkS 113 [(2, AV.one (AC.ptr 0 0)), (3, AV.one (AC.ptr 1 0)), (4, AV.one (AC.ptr 2 0)), (5, AV.one (AC.ptr 3 0)), (6, AV.one (AC.u8 (BitVec.ofInt 8 (1 : Int)))), (7, AV.one (AC.i64 (0 : Int)))]) [some ks, some bs, some (List.replicate 176 (AC.u8 (0 : BitVec 8))), some (List.replicate 176 (AC.u8 (0 : BitVec 8)))]) : KRun X 53 0 Q ([.code (bodyOf Try.f53)]) (slots [.agg ks, .agg bs] Try.f53.ntmps) [] :=
  wpRun_ok (hX ▸ baseK_ok T12 mf11 M11) (hX ▸ baseK_call T12_ok M11_ok) (hX ▸ mixed) (hX ▸ ok53) LK_ok (cast (β := wpRun (baseK T12 mf11 M11) [13, 17, 21, 34, 74, 78, 91, 95] [(10, 10), (12, 21), (13, 17), (15, 8), (24, 14)] false (RS.mk Try.f53.results.toList 0 (CS.mk [] [] [0] [])) (LK X 53 0 Q true [(4, LS.mk [2, 3, 4, 5, 6, 7] (CS.mk [] [] [] [])), (7, LS.mk [2, 3, 4, 5, 6, 7, 8] (CS.mk [] [] [] [])), (19, LS.mk [4, 5, 9, 10] (CS.mk [] [] [] [])), (22, LS.mk [4, 5, 9, 10, 11] (CS.mk [] [] [] []))]) Q 2000 ([.code (bodyOf Try.f53)]) (slots [.agg ks, .agg bs] Try.f53.ntmps) []) (by kernel_rfl) h)

/-! the two kinds of keys -/
def kc (m : Bool) (ks : List (BitVec 8)) : List AC := .b m :: ks.map AC.u8
def zkey : List (BitVec 8) := List.replicate 16 0
theorem s104t (ks : List (BitVec 8)) (hk : ks.length = 176) : Spec Try.prog 104 [.agg (kc true ks)] [] (Is (.agg (ks.map AC.u8))) := by
  refine Spec.of_run ok104 fun X hX => vc104t hX _ ⟨fun _ => ?_, nofun⟩
  have e : List.take 176 (List.drop 1 (AC.b true :: ks.map AC.u8)) = ks.map AC.u8 := by
    show List.take 176 (ks.map AC.u8) = _
    rw [tk0, tkn _ _ (by omega)]
  have hl : (AC.b true :: ks.map AC.u8).length = 177 := by rw [List.length_cons, List.length_map, hk]
  rw [e, hl]
  simp only [hide_eq, tkm, tk0, map_as8, layR, layC, layM, lay1, tkn, List.drop_zero, Nat.zero_add, Nat.mul_one, Nat.reduceAdd, Nat.le_refl, Nat.min_self, Nat.reduceLeDiff, same_self, Int.toNat_natCast, List.length_map, List.length_append, List.length_replicate, List.length_take, List.length_drop, tab16_len, hk]
  (repeat' (first | exact trivial | exact flat_u8 _ | exact flatA _ | exact allU8_map _ | exact Nat.le_refl _ | refine And.intro ?_ ?_)) <;> (first | omega | exact z | (unfold in64; omega) | exact List.length_map _ | (show Is _ _ _; exact rfl) | skip)
theorem s104f (ks : List AC) : Spec Try.prog 104 [.agg (.b false :: ks)] [] (Is (.agg ((exL zkey 176).map AC.u8))) := by
  refine Spec.of_run ok104 fun X hX => vc104f hX _ ⟨nofun, fun _ => ?_⟩
  have e : List.map asU8 (List.replicate 16 (AC.u8 0)) = zkey := rfl
  have z : Flat (List.replicate 16 (AC.u8 0)) := by rw [mrep]; exact flat_u8 _
  have z8 : allU8 (List.replicate 16 (AC.u8 0)) := by rw [mrep]; exact allU8_map _
  have hl := exL_len zkey 176
  rw [e]
  simp only [hide_eq, tkm, tk0, map_as8, layR, layC, layM, lay1, tkn, List.drop_zero, Nat.zero_add, Nat.mul_one, Nat.reduceAdd, Nat.le_refl, Nat.min_self, Nat.reduceLeDiff, same_self, Int.toNat_natCast, List.length_map, List.length_append, List.length_replicate, List.length_take, List.length_drop, tab16_len, hl]
  refine ⟨z, ⟨z8, trivial⟩, ?_⟩
  (repeat' (first | exact trivial | exact flat_u8 _ | exact flatA _ | exact allU8_map _ | exact Nat.le_refl _ | refine And.intro ?_ ?_)) <;> (first | omega | exact z | (unfold in64; omega) | exact List.length_map _ | (show Is _ _ _; exact rfl) | skip)
theorem s44 (key : List (BitVec 8)) (hk : key.length = 16) : Spec Try.prog 44 [.agg (key.map AC.u8)] [] (Is (.agg (kc true (exL key 176)))) := by
  refine Spec.of_run ok44 fun X hX => vc44 hX _ ?_
  have hk2 : key.take 16 = key := List.take_of_length_le (by omega)
  have hl := exL_len key 176
  have e1 : lay ([AC.b false] ++ List.replicate 176 (AC.u8 0)) 0 [cvC (Value.bool true)] = AC.b true :: List.replicate 176 (AC.u8 0) := rfl
  have e2 : lay (AC.b true :: List.replicate 176 (AC.u8 0)) 1 ((exL key 176).map AC.u8) = kc true (exL key 176) := by
    unfold lay kc
    rw [show (AC.b true :: List.replicate 176 (AC.u8 0)).take 1 = [AC.b true] from rfl, show 1 + ((exL key 176).map AC.u8).length = 177 by rw [List.length_map, hl], List.drop_of_length_le (by rw [List.length_cons, List.length_replicate]; exact Nat.le_refl _), List.append_nil]
    rfl
  have hc : (kc true (exL key 176)).length = 177 := by unfold kc; rw [List.length_cons, List.length_map, hl]
  have z : Flat (kc true (exL key 176)) := fun c h => by
    unfold kc at h
    rcases List.mem_cons.1 h with rfl | h
    · rfl
    · exact flat_u8 _ c h
  have e3 : layS ([AC.b false] ++ List.replicate 176 (AC.u8 0)) 0 (kc true (exL key 176)) = kc true (exL key 176) := layS_all (by rw [hc]; rfl)
  have e4 : List.take 177 (List.drop 0 (kc true (exL key 176))) = kc true (exL key 176) := by rw [List.drop_zero, List.take_of_length_le (by rw [hc]; exact Nat.le_refl _)]
  simp only [hide_eq, tkm, tk0, List.drop_zero, hk2, map_as8, e1, e2, e3]
  simp only [List.drop_zero] at e4
  simp only [e4, hc, List.length_map, hk, hl]
  (repeat' (first | exact trivial | exact flat_u8 _ | exact allU8_map _ | exact z | exact Nat.le_refl _ | (show Is _ _ _; exact rfl) | refine And.intro ?_ ?_)) <;> omega

/-! mix -/
theorem mix_eq (p q r s : BitVec 8) : p ^^^ (p ^^^ q ^^^ r ^^^ s ^^^ xt (p ^^^ q)) = xt p ^^^ (xt q ^^^ q) ^^^ r ^^^ s := by
  rw [xt_xor]
  generalize xt p = P
  generalize xt q = Q
  ext i hi
  simp only [BitVec.getElem_xor]
  generalize p[i] = a
  generalize q[i] = b
  generalize r[i] = c
  generalize s[i] = d
  generalize P[i] = e
  generalize Q[i] = f
  revert a b c d e f
  decide
theorem mix_at (b : List (BitVec 8)) (q r : Nat) (hq : q < 4) (hr : r < 4) : b.getD (4 * q + r) 0 ^^^ (b.getD (4 * q) 0 ^^^ b.getD (4 * q + 1) 0 ^^^ b.getD (4 * q + 2) 0 ^^^ b.getD (4 * q + 3) 0 ^^^ xt (b.getD (4 * q + r) 0 ^^^ b.getD (4 * q + (r + 1) % 4) 0)) = (mixL b).getD (4 * q + r) 0 := by
  unfold mixL
  rw [tab16_get _ (by omega)]
  unfold col
  have h1 : (4 * q + r) / 4 * 4 = 4 * q := by omega
  have h2 : (4 * q + r) % 4 = r := by omega
  rw [h1, h2]
  have c : r = 0 ∨ r = 1 ∨ r = 2 ∨ r = 3 := by omega
  rcases c with rfl | rfl | rfl | rfl
  · exact mix_eq _ _ _ _
  all_goals
    simp only [Nat.reduceAdd, Nat.reduceMod, Nat.add_zero]
    rw [← mix_eq]
    congr 2
    ac_rfl
def MB (b : List (BitVec 8)) (m : Nat) : List (BitVec 8) := (mixL b).take m ++ b.drop m
theorem mixL_len (b : List (BitVec 8)) : (mixL b).length = 16 := tab16_len _
theorem MB_len {b : List (BitVec 8)} (hb : b.length = 16) (m : Nat) : (MB b m).length = 16 := by
  unfold MB
  rw [lenT _ _ (by rw [mixL_len, hb]), hb]
theorem MB_cut {b : List (BitVec 8)} (hb : b.length = 16) {m : Nat} (hm : m ≤ 16) : ((MB b m).drop m).take 4 = (b.drop m).take 4 := by
  unfold MB
  have h1 : ((mixL b).take m).length = m := by rw [List.length_take, mixL_len]; omega
  have := List.drop_left (l₁ := (mixL b).take m) (l₂ := b.drop m)
  rw [h1] at this
  rw [this]
theorem four_at {b : List (BitVec 8)} {m k : Nat} (hk : k < 4) (hm : m + 4 ≤ b.length) : gt AC.any (((b.drop m).take 4).map AC.u8) k = .u8 (b.getD (m + k) 0) := by
  rw [gt_u8_at _ _ (by rw [List.length_take, List.length_drop]; omega), List.getD_eq_getElem?_getD, List.getElem?_take_of_lt hk, List.getElem?_drop, List.getD_eq_getElem?_getD]
theorem l106b {X : Ctx} (hX : X.P = Try.prog) (b : List (BitVec 8)) (hb : b.length = 16) (q : Nat) (hq : q < 4)
    (K : KRun X 106 1 (Are (.tup []) [some ((mixL b).map AC.u8)]) (kOf Try.f106 0) (mkS 55 [(0, .one (.ptr 0 0)), (2, .one (.i64 (4 * (q + 1) : Nat)))]) [some ((MB b (4 * (q + 1))).map AC.u8)]) : ∀ (d r : Nat), r + d = 4 →
    KRun X 106 1 (Are (.tup []) [some ((mixL b).map AC.u8)]) (kOf Try.f106 1) (mkS 55 [(0, .one (.ptr 0 0)), (2, .one (.i64 (4 * q : Nat))), (3, .one (.ptr 1 0)), (4, .one (.u8 (b.getD (4 * q) 0 ^^^ b.getD (4 * q + 1) 0 ^^^ b.getD (4 * q + 2) 0 ^^^ b.getD (4 * q + 3) 0))), (29, .one (.i64 r))])
      [some ((MB b (4 * q + r)).map AC.u8), some (((b.drop (4 * q)).take 4).map AC.u8)] := by
  intro d
  induction d with
  | zero =>
    intro r hr
    have hr : r = 4 := by omega
    subst hr
    have e : ((4 * q : Nat) : Int) + 4 = ((4 * (q + 1) : Nat) : Int) := by omega
    refine vc106b hX _ _ _ _ _ ⟨fun h => absurd (of_decide_eq_true h) (by omega), fun _ => ?_⟩
    rw [e]
    exact ⟨by unfold in64; omega, flat_u8 _, ⟨K⟩⟩
  | succ d ih =>
    intro r hr
    have ih := ih (r + 1) (by omega)
    have hl := MB_len hb (4 * q + r)
    have ecr : ((4 * q : Nat) : Int) + (r : Int) = ((4 * q + r : Nat) : Int) := by omega
    have er : bits64 .and ((r : Int) + 1) 3 = (((r + 1) % 4 : Nat) : Int) := by rw [show (r : Int) + 1 = ((r + 1 : Nat) : Int) by omega, and3 _ (by omega)]
    have hg := gt_u8_at (MB b (4 * q + r)) (4 * q + r) (by omega)
    rw [show (MB b (4 * q + r)).getD (4 * q + r) 0 = b.getD (4 * q + r) 0 from getT_src _ _ _ (by rw [mixL_len]; omega) (Nat.le_refl _)] at hg
    have h1 := four_at (b := b) (m := 4 * q) (k := r) (by omega) (by omega)
    have h2 := four_at (b := b) (m := 4 * q) (k := (r + 1) % 4) (by omega) (by omega)
    have hs := setT (mixL b) b 0 (i := 4 * q + r) (by rw [mixL_len]; omega) (by rw [mixL_len, hb])
    rw [← mix_at b q r hq (by omega)] at hs
    have hs : (MB b (4 * q + r)).set (4 * q + r) (b.getD (4 * q + r) 0 ^^^ (b.getD (4 * q) 0 ^^^ b.getD (4 * q + 1) 0 ^^^ b.getD (4 * q + 2) 0 ^^^ b.getD (4 * q + 3) 0 ^^^ xt (b.getD (4 * q + r) 0 ^^^ b.getD (4 * q + (r + 1) % 4) 0))) = MB b (4 * q + (r + 1)) := hs
    refine vc106b hX _ _ _ _ _ ⟨fun _ => ?_, fun h => absurd (of_decide_eq_false h) (by omega)⟩
    rw [ecr, er]
    simp only [ixn, hg, h1, h2, asU8, lay1, hs, List.length_map, hl]
    (repeat' (first | exact trivial | exact flat_u8 _ | exact flatA _ | exact allU8_map _ | exact Nat.le_refl _ | refine And.intro ?_ ?_)) <;> (first | omega | exact z | (unfold in64; omega) | exact List.length_map _ | (show Is _ _ _; exact rfl) | skip)
    exact ⟨ih⟩
theorem l106a {X : Ctx} (hX : X.P = Try.prog) (b : List (BitVec 8)) (hb : b.length = 16) : ∀ (d q : Nat), q + d = 4 →
    KRun X 106 1 (Are (.tup []) [some ((mixL b).map AC.u8)]) (kOf Try.f106 0) (mkS 55 [(0, .one (.ptr 0 0)), (2, .one (.i64 (4 * q : Nat)))]) [some ((MB b (4 * q)).map AC.u8)] := by
  intro d
  induction d with
  | zero =>
    intro q hq
    have hq : q = 4 := by omega
    subst hq
    have e : MB b (4 * 4) = mixL b := by
      have := endT (mixL b) b (by rw [mixL_len, hb])
      rw [mixL_len] at this
      exact this
    refine vc106a hX _ _ ⟨fun h => absurd (of_decide_eq_true h) (by omega), fun _ => ?_⟩
    rw [e]
    exact ⟨flat_u8 _, rfl, rfl⟩
  | succ d ih =>
    intro q hq
    have K := l106b hX b hb q (by omega) (ih (q + 1) (by omega)) 4 0 rfl
    have ec := MB_cut hb (m := 4 * q) (by omega)
    have hl := MB_len hb (4 * q)
    have h4 : ((b.drop (4 * q)).take 4).length = 4 := by rw [List.length_take, List.length_drop]; omega
    have g0 := four_at (b := b) (m := 4 * q) (k := 0) (by omega) (by omega)
    have g1 := four_at (b := b) (m := 4 * q) (k := 1) (by omega) (by omega)
    have g2 := four_at (b := b) (m := 4 * q) (k := 2) (by omega) (by omega)
    have g3 := four_at (b := b) (m := 4 * q) (k := 3) (by omega) (by omega)
    have r4 : [AC.u8 0, AC.u8 0, AC.u8 0, AC.u8 0] = List.replicate 4 (AC.u8 0) := rfl
    refine vc106a hX _ _ ⟨fun _ => ?_, fun h => absurd (of_decide_eq_false h) (by omega)⟩
    simp only [ixn, tkm, ec, r4, layR _ _ h4, g0, g1, g2, g3, asU8, List.length_map, hl, h4, Nat.add_zero]
    (repeat' (first | exact trivial | exact flat_u8 _ | exact flatA _ | exact allU8_map _ | exact Nat.le_refl _ | refine And.intro ?_ ?_)) <;> (first | omega | exact z | (unfold in64; omega) | exact List.length_map _ | (show Is _ _ _; exact rfl) | skip)
    exact ⟨K⟩
theorem s106 (b : List (BitVec 8)) (hb : b.length = 16) : Spec Try.prog 106 [.one (.ptr 0 0)] [some (b.map AC.u8)] (Are (.tup []) [some ((mixL b).map AC.u8)]) := by
  refine Spec.of_run ok106 fun X hX => vc106 hX _ ?_
  have K := l106a hX b hb 4 0 rfl
  rw [show MB b (4 * 0) = b from begT _ _] at K
  exact ⟨flat_u8 _, ⟨K⟩⟩
end DH
