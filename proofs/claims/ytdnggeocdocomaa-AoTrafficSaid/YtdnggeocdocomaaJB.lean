/- Walks of functions, each by evaluation: what each returns; with the layer beneath. -/
import Derived.Test.YtdnggeocdocomaaHB
import Derived.Test.YtdnggeocdocomaaJA
set_option linter.unusedVariables false
set_option linter.unusedSimpArgs false
noncomputable section
namespace DH
set_option maxRecDepth 100000
open List (take drop replicate)
open AC renaming u8 → U8, u16 → Va, u32 → Fa, u64 → Nc, i64 → I64, b → Bb, xs → XS, gs → GS, sv → SV, ptr → PT, any → AY, ns → NS
open AV renaming one → O1, agg → AG, Ec → TU
open Go Go.Proofs
theorem ok44 : Ac Try.prog 44 Try.f44 (Na Try.f44) := .of Try.func44 (by kernel_rfl) (by kernel_rfl)
theorem ok45 : Ac Try.prog 45 Try.f45 (Na Try.f45) := .of Try.func45 (by kernel_rfl) (by kernel_rfl)
theorem ok46 : Ac Try.prog 46 Try.f46 (Na Try.f46) := .of Try.func46 (by kernel_rfl) (by kernel_rfl)
theorem ok50 : Ac Try.prog 50 Try.f50 (Na Try.f50) := .of Try.func50 (by kernel_rfl) (by kernel_rfl)
theorem ok51 : Ac Try.prog 51 Try.f51 (Na Try.f51) := .of Try.func51 (by kernel_rfl) (by kernel_rfl)
theorem ok53 : Ac Try.prog 53 Try.f53 (Na Try.f53) := .of Try.func53 (by kernel_rfl) (by kernel_rfl)
theorem ok54 : Ac Try.prog 54 Try.f54 (Na Try.f54) := .of Try.func54 (by kernel_rfl) (by kernel_rfl)
theorem ok102 : Ac Try.prog 102 Try.f102 (Na Try.f102) := .of Try.func102 (by kernel_rfl) (by kernel_rfl)
theorem ok103 : Ac Try.prog 103 Try.f103 (Na Try.f103) := .of Try.func103 (by kernel_rfl) (by kernel_rfl)
theorem ok104 : Ac Try.prog 104 Try.f104 (Na Try.f104) := .of Try.func104 (by kernel_rfl) (by kernel_rfl)
theorem ok105 : Ac Try.prog 105 Try.f105 (Na Try.f105) := .of Try.func105 (by kernel_rfl) (by kernel_rfl)
theorem ok106 : Ac Try.prog 106 Try.f106 (Na Try.f106) := .of Try.func106 (by kernel_rfl) (by kernel_rfl)
theorem ok107 : Ac Try.prog 107 Try.f107 (Na Try.f107) := .of Try.func107 (by kernel_rfl) (by kernel_rfl)
theorem ok108 : Ac Try.prog 108 Try.f108 (Na Try.f108) := .of Try.func108 (by kernel_rfl) (by kernel_rfl)
theorem ok109 : Ac Try.prog 109 Try.f109 (Na Try.f109) := .of Try.func109 (by kernel_rfl) (by kernel_rfl)
def symJ (t : TypeId) : Bool := match t with | 28 => true | 40 => true | 66 => true | 78 => true | t => symH t
noncomputable def baseJ (T : Tab) (mf : FuncId → Option MF) (M : Ad) : Env := ⟨tys, symJ, false, T, [], mf, M, fun _ => none⟩
theorem baseJ_ok (T : Tab) (mf : FuncId → Option MF) (M : Ad) : Eb Try.prog (baseJ T mf M) := Eb.of tysOk
theorem baseJ_call {T : Tab} {mf : FuncId → Option MF} {M : Ad} (hT : Oc Try.prog T) (hM : Xc Try.prog M) : Bc Try.prog (baseJ T mf M) :=
 ⟨hT, fun f mf xs m0 cs r m1 _ h hc => hM f xs m0 cs r m1 h hc, (by intro f k h; cases h)⟩
noncomputable def eqU8 : List AC → List (BitVec 8) → Bool
 | [], [] => true
 | .u8 x :: cs, y :: l => Nat.beq x.toNat y.toNat && eqU8 cs l
 | _, _ => false
theorem eqU8_ok : ∀ {cs : List AC} {l : List (BitVec 8)}, eqU8 cs l = true → cs = l.map U8
 | [], [], _ => rfl
 | c :: cs, [], h => by cases c <;> cases h
 | [], _ :: _, h => by cases h
 | c :: cs, y :: l, h => by
  cases c <;> first | (cases h; done) | skip
  rename_i x
  simp only [eqU8, Bool.and_eq_true] at h
  rw [eqU8_ok h.2, List.map_cons, BitVec.eq_of_toNat_eq (Nat.eq_of_beq_eq_true h.1)]
noncomputable def saysU8 (l : List (BitVec 8)) : Option (List Prop × AV × Mem) → Bool
 | some ([], .agg cs, _) => eqU8 cs l
 | _ => false
theorem Spec.litA {P : Program} {E : Env} (hE : Eb P E) (hC : Bc P E) (hm : P.follows .mixedOrders = true) {f : FuncId} {fn : Func} {c : Code} (hf : Ac P f fn c) {hs : List (Nat × Nat)} {n : Nat} {xs : List AV} {m0 : Mem} {l : List (BitVec 8)}
  (h : saysU8 l (evalFn E hs n fn.results.toList [.code c] (slots xs fn.ntmps) m0 []) = true) : Spec P f xs m0 (Is (.agg (l.map U8))) := by
 unfold saysU8 at h
 split at h
 ·rename_i cs m1 h1
  exact (Spec.evalM hE hC hm hf h1 trivial).mono fun _ _ h2 => by rw [← eqU8_ok h]; exact h2.1
 ·cases h
noncomputable def inlJ : Inl := fun f => match f with
 | 51 => some (Try.f51, [])
 | 109 => some (Try.f109, [])
 | _ => none
theorem inlJ_ok : InlOk Try.prog inlJ := by
 intro f fn hs h
 unfold inlJ at h
 split at h <;> first | (cases h; done) | (obtain ⟨rfl, _⟩ := Prod.mk.inj (Option.some.inj h); first | exact ok51 | exact ok109)
noncomputable def baseL (T : Tab) (mf : FuncId → Option MF) (M : Ad) : Env := ⟨tys, fun _ => false, false, T, [], mf, M, fun _ => none⟩
theorem baseL_ok (T : Tab) (mf : FuncId → Option MF) (M : Ad) : Eb Try.prog (baseL T mf M) := Eb.of tysOk
theorem baseL_call {T : Tab} {mf : FuncId → Option MF} {M : Ad} (hT : Oc Try.prog T) (hM : Xc Try.prog M) : Bc Try.prog (baseL T mf M) :=
 ⟨hT, fun f mf xs m0 cs r m1 _ h hc => hM f xs m0 cs r m1 h hc, (by intro f k h; cases h)⟩
theorem s103 : Spec Try.prog 103 [] [] (Is (.agg (Vd.map U8))) :=
 Spec.litA (litE_envOk (baseL_ok T0 mf0 M0) inlJ 1) (litE_ok (baseL_ok T0 mf0 M0) (baseL_call T0_ok M0_ok) mixed inlJ_ok 1) mixed ok103 (hs := []) (n := 1000) (by kernel_rfl)
def WJB0 : WC := ⟨baseJ T0 mf0 M0,baseJ_ok T0 mf0 M0,baseJ_call T0_ok M0_ok⟩
theorem vc50 {X} {Q : QT} (hX : PX X) (c:BitVec 8) (h : ((!decide (c&&&BitVec.ofInt 8 128=BitVec.ofInt 8 0))=true->Q (O1 (U8 (c<<<1^^^BitVec.ofInt 8 27))) [])/\((!decide (c&&&BitVec.ofInt 8 128=BitVec.ofInt 8 0))=false->Q (O1 (U8 (c<<<1))) [])) : Ia X 50 0 Q ([.code (Na Try.f50)]) (slots [.one (.u8 c)] Try.f50.ntmps) [] :=
 wR hX WJB0 ok50 [5] [] [] [] h (by kernel_rfl)
theorem vc109 {X} {Q : QT} (hX : PX X) (x:BitVec 8) (h : (fun D1 : Int=>(fun D0 : Int=>(0:Int)<=(1:Int)/\La ((8:Int) - (1:Int))/\(0:Int)<=(8:Int) - (1:Int)/\La ((1:Int)+(1:Int))/\(0:Int)<=(1:Int)+(1:Int)/\La ((8:Int) - ((1:Int)+(1:Int)))/\(0:Int)<=(8:Int) - ((1:Int)+(1:Int))/\La D1/\(0:Int)<=(1:Int)+(1:Int)+(1:Int)/\La ((8:Int) - D1)/\(0:Int)<=(8:Int) - D1/\La D0/\(0:Int)<=(1:Int)+(1:Int)+(1:Int)+(1:Int)/\La ((8:Int) - D0)/\(0:Int)<=(8:Int) - D0/\La ((1:Int)+(1:Int)+(1:Int)+(1:Int)+(1:Int))/\Q (O1 (U8 (x^^^BitVec.ofInt 8 99^^^(x<<<1|||x>>>7)^^^(x<<<2|||x>>>6)^^^(x<<<3|||x>>>5)^^^(x<<<4|||x>>>4)))) []) ((1:Int)+(1:Int)+(1:Int)+(1:Int))) ((1:Int)+(1:Int)+(1:Int))) : Ia X 109 0 Q ([.code (Na Try.f109)]) (slots [.one (.u8 x)] Try.f109.ntmps) [] :=
 wR' hX WJB0 ok109 [] [] true (CS.mk [] [] [] []) false [(3,LS.mk [0,3,4] (CS.mk [] [] [] []))] 20000 h (by kernel_rfl)
theorem vc51 {X} {Q : QT} (hX : PX X) (a b:BitVec 8) (h : KR X 51 0 Q (Fb Try.f51 0) (mkS 28 [(0,O1 (U8 a)),(1,O1 (U8 b)),(5,O1 (U8 (BitVec.ofInt 8 0))),(6,O1 (I64 (0:Int)))]) []) : Ia X 51 0 Q ([.code (Na Try.f51)]) (slots [.one (.u8 a),.one (.u8 b)] Try.f51.ntmps) [] :=
 wR hX WJB0 ok51 [9,16,21] [] [] [(3,[0,1,5,6],[])] h (by kernel_rfl)
theorem vc51a {X} {Q : QT} (hX : PX X) (a b n:BitVec 8) (i:Int) (h : (decide (i<(8:Int))=true->(0:Int)<=i/\(decide (b>>>Int.toNat i&&&BitVec.ofInt 8 1=BitVec.ofInt 8 1)=true->(decide (BitVec.ofInt 8 128<=a)=true->La (i+(1:Int))/\KR X 51 0 Q (Fb Try.f51 0) (mkS 28 [(0,O1 (U8 (a<<<1^^^BitVec.ofInt 8 27))),(1,O1 (U8 b)),(5,O1 (U8 (n^^^a))),(6,O1 (I64 (i+(1:Int))))]) [])/\(decide (BitVec.ofInt 8 128<=a)=false->La (i+(1:Int))/\KR X 51 0 Q (Fb Try.f51 0) (mkS 28 [(0,O1 (U8 (a<<<1))),(1,O1 (U8 b)),(5,O1 (U8 (n^^^a))),(6,O1 (I64 (i+(1:Int))))]) []))/\(decide (b>>>Int.toNat i&&&BitVec.ofInt 8 1=BitVec.ofInt 8 1)=false->(decide (BitVec.ofInt 8 128<=a)=true->La (i+(1:Int))/\KR X 51 0 Q (Fb Try.f51 0) (mkS 28 [(0,O1 (U8 (a<<<1^^^BitVec.ofInt 8 27))),(1,O1 (U8 b)),(5,O1 (U8 n)),(6,O1 (I64 (i+(1:Int))))]) [])/\(decide (BitVec.ofInt 8 128<=a)=false->La (i+(1:Int))/\KR X 51 0 Q (Fb Try.f51 0) (mkS 28 [(0,O1 (U8 (a<<<1))),(1,O1 (U8 b)),(5,O1 (U8 n)),(6,O1 (I64 (i+(1:Int))))]) [])))/\(decide (i<(8:Int))=false->Q (O1 (U8 n)) [])) : Ia X 51 0 Q (Fb Try.f51 0) (mkS 28 [(0,.one (.u8 a)),(1,.one (.u8 b)),(5,.one (.u8 n)),(6,.one (.i64 i))]) [] :=
 wR hX WJB0 ok51 [9,16,21] [] [] [(3,[0,1,5,6],[])] h (by kernel_rfl)
theorem vc105 {X} {Q : QT} (hX : PX X) (bs row : List AC) (h : Flat bs/\Flat (replicate 16 (U8 0))/\Flat (replicate 16 (U8 0))/\KR X 105 0 Q (Fb Try.f105 0) (mkS 26 [(1,O1 (AC.xp row 0)),(2,O1 (PT 0 0)),(4,O1 (PT 1 0)),(5,O1 (PT 2 0)),(7,O1 (I64 (0:Int)))]) [some bs,some (replicate 16 (U8 0)),some (replicate 16 (U8 0))]) : Ia X 105 0 Q ([.code (Na Try.f105)]) (slots [.agg bs,.one (.xp row 0)] Try.f105.ntmps) [] :=
 wR' hX WJB0 ok105 [8] [(5,14)] false (CS.mk [] [] [0] []) true [(3,LS.mk [1,2,4,5,7] (CS.mk [] [true,true,true] [] []))] 2000 h (by kernel_rfl)
theorem vc105a {X} {Q : QT} (hX : PX X) (bs zs xs row : List AC) (i:Int) (h : (fun D2 : List AC=>(fun D1 : Int=>(fun D0 : Nat=>(decide (i<(16:Int))=true->La ((4:Int)*Mc BinOp.and i (3:Int))/\La D1/\((0:Int)<=Mc BinOp.and D1 (15:Int)/\Mc BinOp.and D1 (15:Int)<(↑16:Int))/\gt AY bs (0+Int.toNat (Mc BinOp.and D1 (15:Int))*1)=U8 (Ea (gt AY bs (0+Int.toNat (Mc BinOp.and D1 (15:Int))*1)))/\gt AY row D0=U8 (Ea (gt AY row D0))/\((0:Int)<=i/\i<(↑16:Int))/\(1=1/\0+Int.toNat i*1+1<=List.length xs)/\La (i+(1:Int))/\Flat bs/\Flat zs/\Flat (Qa xs (0+Int.toNat i*1) [U8 (Ea (gt AY row D0))])/\KR X 105 0 Q (Fb Try.f105 0) (mkS 26 [(1,O1 (AC.xp row 0)),(2,O1 (PT 0 0)),(4,O1 (PT 1 0)),(5,O1 (PT 2 0)),(7,O1 (I64 (i+(1:Int))))]) [some bs,some zs,some (Qa xs (0+Int.toNat i*1) [U8 (Ea (gt AY row D0))])])/\(decide (i<(16:Int))=false->16<=List.length xs/\(List.length (take 16 (drop 0 xs))=16/\16<=List.length zs)/\16<=List.length D2/\Za (AG (take 16 (drop 0 D2)))/\Q (AG (take 16 (drop 0 D2))) [])) (0+Int.toNat (↑(BitVec.toNat (Ea (gt AY bs (0+Int.toNat (Mc BinOp.and D1 (15:Int))*1)))):Int)*1)) (i+(4:Int)*Mc BinOp.and i (3:Int))) (Qa zs 0 (take 16 (drop 0 xs)))) : Ia X 105 0 Q (Fb Try.f105 0) (mkS 26 [(1,.one (.xp row 0)),(2,.one (.ptr 0 0)),(4,.one (.ptr 1 0)),(5,.one (.ptr 2 0)),(7,.one (.i64 i))]) [some bs,some zs,some xs] :=
 wR' hX WJB0 ok105 [8] [(5,14)] false (CS.mk [] [] [0] []) true [(3,LS.mk [1,2,4,5,7] (CS.mk [] [true,true,true] [] []))] 2000 h (by kernel_rfl)
theorem vc107 {X} {Q : QT} (hX : PX X) (cs bs : List AC) (h : Flat cs/\Flat bs/\KR X 107 1 Q (Fb Try.f107 0) (mkS 20 [(0,O1 (PT 0 0)),(3,O1 (PT 1 0)),(5,O1 (I64 (0:Int)))]) [some cs,some bs]) : Ia X 107 1 Q ([.code (Na Try.f107)]) (slots [.one (.ptr 0 0),.agg bs] Try.f107.ntmps) [some cs] :=
 wR hX WJB0 ok107 [6] [(4,11)] [true] [(2,[0,3,5],[true,true])] h (by kernel_rfl)
theorem vc107a {X} {Q : QT} (hX : PX X) (cs bs : List AC) (i:Int) (h : (fun D0 : Nat=>(decide (i<(16:Int))=true->((0:Int)<=i/\i<(↑16:Int))/\gt AY cs D0=U8 (Ea (gt AY cs D0))/\((0:Int)<=i/\i<(↑16:Int))/\gt AY bs D0=U8 (Ea (gt AY bs D0))/\((0:Int)<=i/\i<(↑16:Int))/\(1=1/\0+Int.toNat i*1+1<=List.length cs)/\La (i+(1:Int))/\Flat (Qa cs D0 [U8 (Ea (gt AY cs D0)^^^Ea (gt AY bs D0))])/\Flat bs/\KR X 107 1 Q (Fb Try.f107 0) (mkS 20 [(0,O1 (PT 0 0)),(3,O1 (PT 1 0)),(5,O1 (I64 (i+(1:Int))))]) [some (Qa cs D0 [U8 (Ea (gt AY cs D0)^^^Ea (gt AY bs D0))]),some bs])/\(decide (i<(16:Int))=false->Flat cs/\Q (TU []) [some cs])) (0+Int.toNat i*1)) : Ia X 107 1 Q (Fb Try.f107 0) (mkS 20 [(0,.one (.ptr 0 0)),(3,.one (.ptr 1 0)),(5,.one (.i64 i))]) [some cs,some bs] :=
 wR hX WJB0 ok107 [6] [(4,11)] [true] [(2,[0,3,5],[true,true])] h (by kernel_rfl)
theorem vc108 {X} {Q : QT} (hX : PX X) (cs bs : List AC) (h : Flat cs/\Flat bs/\Flat (replicate 16 (U8 0))/\KR X 108 0 Q (Fb Try.f108 0) (mkS 19 [(2,O1 (PT 0 0)),(3,O1 (PT 1 0)),(4,O1 (PT 2 0)),(5,O1 (I64 (0:Int)))]) [some cs,some bs,some (replicate 16 (U8 0))]) : Ia X 108 0 Q ([.code (Na Try.f108)]) (slots [.agg cs,.agg bs] Try.f108.ntmps) [] :=
 wR' hX WJB0 ok108 [7] [(4,8)] false (CS.mk [] [] [0] []) true [(2,LS.mk [2,3,4,5] (CS.mk [] [true,true,true] [] []))] 2000 h (by kernel_rfl)
theorem vc108a {X} {Q : QT} (hX : PX X) (cs bs zs : List AC) (i:Int) (h : (fun D1 : List AC=>(fun D0 : Nat=>(decide (i<(16:Int))=true->((0:Int)<=i/\i<(↑16:Int))/\gt AY cs D0=U8 (Ea (gt AY cs D0))/\((0:Int)<=i/\i<(↑16:Int))/\gt AY bs D0=U8 (Ea (gt AY bs D0))/\((0:Int)<=i/\i<(↑16:Int))/\(1=1/\0+Int.toNat i*1+1<=List.length cs)/\La (i+(1:Int))/\Flat (Qa cs D0 [U8 (Ea (gt AY cs D0)^^^Ea (gt AY bs D0))])/\Flat bs/\Flat zs/\KR X 108 0 Q (Fb Try.f108 0) (mkS 19 [(2,O1 (PT 0 0)),(3,O1 (PT 1 0)),(4,O1 (PT 2 0)),(5,O1 (I64 (i+(1:Int))))]) [some (Qa cs D0 [U8 (Ea (gt AY cs D0)^^^Ea (gt AY bs D0))]),some bs,some zs])/\(decide (i<(16:Int))=false->16<=List.length cs/\(List.length (take 16 (drop 0 cs))=16/\16<=List.length zs)/\16<=List.length D1/\Za (AG (take 16 (drop 0 D1)))/\Q (AG (take 16 (drop 0 D1))) [])) (0+Int.toNat i*1)) (Qa zs 0 (take 16 (drop 0 cs)))) : Ia X 108 0 Q (Fb Try.f108 0) (mkS 19 [(2,.one (.ptr 0 0)),(3,.one (.ptr 1 0)),(4,.one (.ptr 2 0)),(5,.one (.i64 i))]) [some cs,some bs,some zs] :=
 wR' hX WJB0 ok108 [7] [(4,8)] false (CS.mk [] [] [0] []) true [(2,LS.mk [2,3,4,5] (CS.mk [] [true,true,true] [] []))] 2000 h (by kernel_rfl)
theorem s50 (c:BitVec 8) : Spec Try.prog 50 [.one (.u8 c)] [] (Is (.one (.u8 (xt c)))) := by
 refine Spec.of_run ok50 fun X hX => vc50 hX _ ?_
 rw [← dbl_eq]
 refine ⟨fun h => ?_, fun h => ?_⟩
 ·have h : ¬ c &&& 128#8 = 0#8 := by
   intro e
   rw [show decide (c &&& BitVec.ofInt 8 128 = BitVec.ofInt 8 0) = true from decide_eq_true e] at h
   cases h
  unfold dbl
  rw [if_neg h]
  rfl
 ·have h : c &&& 128#8 = 0#8 := by
   rw [Bool.not_eq_false'] at h
   exact of_decide_eq_true h
  unfold dbl
  rw [if_pos h]
  rfl
theorem s109 (x:BitVec 8) : Spec Try.prog 109 [.one (.u8 x)] [] (Is (.one (.u8 (turnB x)))) := by
 refine Spec.of_run ok109 fun X hX => vc109 hX _ ?_
 (repeat' (first | exact trivial | exact Aa _ | exact Ya _ | exact Ba _ | exact Nat.le_refl _ | refine And.intro ?_ ?_)) <;> (first | omega | rfl | decide | assumption | (unfold La; omega) | exact List.length_map _ | skip)
theorem l51 {X : Ctx} (hX : X.P = Try.prog) (b:BitVec 8) : ∀ (d i:Nat) (a n:BitVec 8), i + d = 8 →
  Ia X 51 0 (Is (.one (.u8 (tmGo b d i n a)))) (Fb Try.f51 0) (mkS 28 [(0, .one (.u8 a)), (1, .one (.u8 b)), (5, .one (.u8 n)), (6, .one (.i64 i))]) [] := by
 intro d
 induction d with
 | zero =>
  intro i a n hi
  exact vc51a hX _ _ _ _ ⟨fun h => absurd (of_decide_eq_true h) (by omega), fun _ => rfl⟩
 | succ d ih =>
  intro i a n hi
  have e : tmGo b (d + 1) i n a = tmGo b d (i + 1) (if (b >>> i) &&& 1#8 = 1#8 then n ^^^ a else n) (xt a) := rfl
  rw [e]
  refine vc51a hX _ _ _ _ ⟨fun _ => ⟨by omega, fun h1 => ⟨fun h2 => ?_, fun h2 => ?_⟩, fun h1 => ⟨fun h2 => ?_, fun h2 => ?_⟩⟩, fun h => absurd (of_decide_eq_false h) (by omega)⟩
  all_goals
   refine ⟨by unfold La; omega, ⟨?_⟩⟩
   unfold xt
   first
    | (rw [if_pos (show (b >>> i) &&& 1#8 = 1#8 from of_decide_eq_true h1), if_pos (show 128#8 ≤ a from of_decide_eq_true h2)]; exact ih (i + 1) _ _ (by omega))
    | (rw [if_pos (show (b >>> i) &&& 1#8 = 1#8 from of_decide_eq_true h1), if_neg (show ¬ 128#8 ≤ a from of_decide_eq_false h2)]; exact ih (i + 1) _ _ (by omega))
    | (rw [if_neg (show ¬ (b >>> i) &&& 1#8 = 1#8 from of_decide_eq_false h1), if_pos (show 128#8 ≤ a from of_decide_eq_true h2)]; exact ih (i + 1) _ _ (by omega))
    | (rw [if_neg (show ¬ (b >>> i) &&& 1#8 = 1#8 from of_decide_eq_false h1), if_neg (show ¬ 128#8 ≤ a from of_decide_eq_false h2)]; exact ih (i + 1) _ _ (by omega))
theorem s51 (a b:BitVec 8) : Spec Try.prog 51 [.one (.u8 a), .one (.u8 b)] [] (Is (.one (.u8 (tmF a b)))) :=
 Spec.of_run ok51 fun X hX => vc51 hX _ _ ⟨l51 hX b 8 0 a 0#8 rfl⟩
theorem and3 (i:Nat) (h : i < 9223372036854775808) : Mc .and (i:Int) 3 = ((i % 4:Nat):Int) := by
 unfold Mc
 dsimp only
 have e : BitVec.ofInt 64 (i:Int) &&& BitVec.ofInt 64 3 = BitVec.ofNat 64 (i % 4) := by
  apply BitVec.eq_of_toNat_eq
  rw [BitVec.toNat_and, BitVec.ofInt_natCast, BitVec.toNat_ofNat, BitVec.toNat_ofNat]
  have h1 : (BitVec.ofInt 64 3).toNat = 3 := rfl
  rw [h1, Nat.mod_eq_of_lt (show i < 2 ^ 64 by omega), Nat.mod_eq_of_lt (show i % 4 < 2 ^ 64 by omega)]
  exact Nat.and_two_pow_sub_one_eq_mod i 2
 rw [e, BitVec.toInt_eq_toNat_cond, BitVec.toNat_ofNat, Nat.mod_eq_of_lt (show i % 4 < 2 ^ 64 by omega), if_pos (by omega)]
theorem boxT_len : Vd.length = 256 := by unfold Vd; rw [List.length_map]; kernel_rfl
theorem gt_box (c:BitVec 8) : gt AY (Vd.map U8) (0 + Int.toNat ((c.toNat:Nat):Int) * 1) = .u8 (bx c) := by
 rw [ixn]
 exact Cb _ _ (by rw [boxT_len]; exact c.isLt)
theorem l105 {X : Ctx} (hX : X.P = Try.prog) (b : List (BitVec 8)) (hb : b.length = 16) : ∀ (d i:Nat), i + d = 16 →
  Ia X 105 0 (Is (.agg ((shL b).map U8))) (Fb Try.f105 0) (mkS 26 [(1, .one (.xp (Vd.map U8) 0)), (2, .one (.ptr 0 0)), (4, .one (.ptr 1 0)), (5, .one (.ptr 2 0)), (7, .one (.i64 i))]) [some (b.map U8), some (replicate 16 (U8 0)), some (((shL b).take i ++ (replicate 16 0).drop i).map U8)] := by
 have hl : (shL b).length = (replicate 16 (0:BitVec 8)).length := by rw [List.length_replicate]; exact Ob _
 have hl2 : (shL b).length = 16 := Ob _
 have z : Flat (replicate 16 (U8 0)) := by rw [Jd]; exact Aa _
 intro d
 induction d with
 | zero =>
  intro i hi
  have hi : i = 16 := by omega
  subst hi
  have e := endT _ _ hl
  rw [hl2] at e
  refine vc105a hX _ _ _ _ _ ⟨fun h => absurd (of_decide_eq_true h) (by omega), fun _ => ?_⟩
  try dsimp only
  rw [e]
  simp only [Ja, tkm, tk0, Ua, Ae, layC, layM, Xd, tkn, List.drop_zero, Nat.zero_add, Nat.mul_one, Nat.reduceAdd, Nat.le_refl, Nat.min_self, Nat.reduceLeDiff, Cc, Int.toNat_natCast, List.length_map, List.length_append, List.length_replicate, List.length_take, List.length_drop, Ob, hl2]
  (repeat' (first | exact trivial | exact Aa _ | exact Ya _ | exact Ba _ | exact Nat.le_refl _ | refine And.intro ?_ ?_)) <;> (first | omega | rfl | decide | assumption | (unfold La; omega) | exact List.length_map _ | skip)
 | succ d ih =>
  intro i hi
  have hL := lenT _ _ hl (i := i)
  have ei : (i:Int) + 4 * Mc .and (i:Int) 3 = ((i + 4 * (i % 4):Nat):Int) := by rw [and3 i (by omega)]; omega
  have e15 := and15 (i + 4 * (i % 4)) (by omega)
  have hg := Cb b (shI i) (by rw [hb]; unfold shI; omega)
  have hset := setT (shL b) (replicate 16 0) 0 (i := i) (by omega) hl
  rw [show (shL b).getD i 0 = bx (b.getD (shI i) 0) from Yc _ (by omega)] at hset
  have ih := ih (i + 1) (by omega)
  have ix : 0 + Int.toNat (((i + 4 * (i % 4)) % 16:Nat):Int) * 1 = shI i := by unfold shI; omega
  have i4 : La (4 * Mc .and (i:Int) 3) := by rw [and3 i (by omega)]; unfold La; omega
  refine vc105a hX _ _ _ _ _ ⟨fun _ => ?_, fun h => absurd (of_decide_eq_false h) (by omega)⟩
  try dsimp only
  rw [ei, e15]
  simp only [ix, hg, Ea, gt_box]
  simp only [ixn, Xd, hset, hL, List.length_map, List.length_replicate]
  (repeat' (first | exact trivial | exact Aa _ | exact Ya _ | exact Ba _ | exact Nat.le_refl _ | refine And.intro ?_ ?_)) <;> (first | omega | rfl | decide | assumption | (unfold La; omega) | exact List.length_map _ | skip)
  exact ⟨ih⟩
theorem s105 (b : List (BitVec 8)) (hb : b.length = 16) : Spec Try.prog 105 [.agg (b.map U8), .one (.xp (Vd.map U8) 0)] [] (Is (.agg ((shL b).map U8))) := by
 refine Spec.of_run ok105 fun X hX => vc105 hX _ _ ?_
 have K := l105 hX b hb 16 0 rfl
 rw [begT, ← Jd] at K
 have z : Flat (replicate 16 (U8 0)) := by rw [Jd]; exact Aa _
 (repeat' (first | exact trivial | exact Aa _ | exact Ya _ | exact Ba _ | exact Nat.le_refl _ | refine And.intro ?_ ?_)) <;> (first | omega | rfl | decide | assumption | (unfold La; omega) | exact List.length_map _ | skip)
 exact ⟨K⟩
theorem l107 {X : Ctx} (hX : X.P = Try.prog) (a b : List (BitVec 8)) (ha : a.length = 16) (hb : b.length = 16) : ∀ (d i:Nat), i + d = 16 →
  Ia X 107 1 (Are (.Ec []) [some ((Yb a b).map U8)]) (Fb Try.f107 0) (mkS 20 [(0, .one (.ptr 0 0)), (3, .one (.ptr 1 0)), (5, .one (.i64 i))]) [some (((Yb a b).take i ++ a.drop i).map U8), some (b.map U8)] := by
 have hl2 : (Yb a b).length = 16 := Ob _
 have hl : (Yb a b).length = a.length := by rw [hl2, ha]
 intro d
 induction d with
 | zero =>
  intro i hi
  have hi : i = 16 := by omega
  subst hi
  have e := endT _ _ hl
  rw [hl2] at e
  refine vc107a hX _ _ _ ⟨fun h => absurd (of_decide_eq_true h) (by omega), fun _ => ?_⟩
  try dsimp only
  rw [e]
  exact ⟨Aa _, rfl, rfl⟩
 | succ d ih =>
  intro i hi
  have hL := lenT _ _ hl (i := i)
  have hg := Cb ((Yb a b).take i ++ a.drop i) i (by omega)
  rw [getT_src _ _ _ (by omega) (Nat.le_refl _)] at hg
  have hg2 := Cb b i (by omega)
  have hset := setT _ _ 0 (i := i) (by omega) hl
  rw [show (Yb a b).getD i 0 = a.getD i 0 ^^^ b.getD i 0 from Yc _ (by omega)] at hset
  have ih := ih (i + 1) (by omega)
  refine vc107a hX _ _ _ ⟨fun _ => ?_, fun h => absurd (of_decide_eq_false h) (by omega)⟩
  simp only [ixn, hg, hg2, Ea, Xd, hset, hL, List.length_map]
  (repeat' (first | exact trivial | exact Aa _ | exact Ya _ | exact Ba _ | exact Nat.le_refl _ | refine And.intro ?_ ?_)) <;> (first | omega | rfl | decide | assumption | (unfold La; omega) | exact List.length_map _ | skip)
  exact ⟨ih⟩
theorem s107 (a b : List (BitVec 8)) (ha : a.length = 16) (hb : b.length = 16) : Spec Try.prog 107 [.one (.ptr 0 0), .agg (b.map U8)] [some (a.map U8)] (Are (.Ec []) [some ((Yb a b).map U8)]) := by
 refine Spec.of_run ok107 fun X hX => vc107 hX _ _ ?_
 have K := l107 hX a b ha hb 16 0 rfl
 rw [begT] at K
 exact ⟨Aa _, Aa _, ⟨K⟩⟩
theorem l108 {X : Ctx} (hX : X.P = Try.prog) (a b : List (BitVec 8)) (ha : a.length = 16) (hb : b.length = 16) : ∀ (d i:Nat), i + d = 16 →
  Ia X 108 0 (Is (.agg ((Yb a b).map U8))) (Fb Try.f108 0) (mkS 19 [(2, .one (.ptr 0 0)), (3, .one (.ptr 1 0)), (4, .one (.ptr 2 0)), (5, .one (.i64 i))]) [some (((Yb a b).take i ++ a.drop i).map U8), some (b.map U8), some (replicate 16 (U8 0))] := by
 have hl2 : (Yb a b).length = 16 := Ob _
 have hl : (Yb a b).length = a.length := by rw [hl2, ha]
 have z : Flat (replicate 16 (U8 0)) := by rw [Jd]; exact Aa _
 intro d
 induction d with
 | zero =>
  intro i hi
  have hi : i = 16 := by omega
  subst hi
  have e := endT _ _ hl
  rw [hl2] at e
  refine vc108a hX _ _ _ _ ⟨fun h => absurd (of_decide_eq_true h) (by omega), fun _ => ?_⟩
  try dsimp only
  rw [e]
  simp only [Ja, tkm, tk0, Ua, Ae, layC, layM, Xd, tkn, List.drop_zero, Nat.zero_add, Nat.mul_one, Nat.reduceAdd, Nat.le_refl, Nat.min_self, Nat.reduceLeDiff, Cc, Int.toNat_natCast, List.length_map, List.length_append, List.length_replicate, List.length_take, List.length_drop, Ob, hl2]
  (repeat' (first | exact trivial | exact Aa _ | exact Ya _ | exact Ba _ | exact Nat.le_refl _ | refine And.intro ?_ ?_)) <;> (first | omega | rfl | decide | assumption | (unfold La; omega) | exact List.length_map _ | skip)
 | succ d ih =>
  intro i hi
  have hL := lenT _ _ hl (i := i)
  have hg := Cb ((Yb a b).take i ++ a.drop i) i (by omega)
  rw [getT_src _ _ _ (by omega) (Nat.le_refl _)] at hg
  have hg2 := Cb b i (by omega)
  have hset := setT _ _ 0 (i := i) (by omega) hl
  rw [show (Yb a b).getD i 0 = a.getD i 0 ^^^ b.getD i 0 from Yc _ (by omega)] at hset
  have ih := ih (i + 1) (by omega)
  refine vc108a hX _ _ _ _ ⟨fun _ => ?_, fun h => absurd (of_decide_eq_false h) (by omega)⟩
  simp only [ixn, hg, hg2, Ea, Xd, hset, hL, List.length_map]
  (repeat' (first | exact trivial | exact Aa _ | exact Ya _ | exact Ba _ | exact Nat.le_refl _ | refine And.intro ?_ ?_)) <;> (first | omega | rfl | decide | assumption | (unfold La; omega) | exact List.length_map _ | skip)
  exact ⟨ih⟩
theorem s108 (a b : List (BitVec 8)) (ha : a.length = 16) (hb : b.length = 16) : Spec Try.prog 108 [.agg (a.map U8), .agg (b.map U8)] [] (Is (.agg ((Yb a b).map U8))) := by
 refine Spec.of_run ok108 fun X hX => vc108 hX _ _ ?_
 have K := l108 hX a b ha hb 16 0 rfl
 rw [begT] at K
 have z : Flat (replicate 16 (U8 0)) := by rw [Jd]; exact Aa _
 (repeat' (first | exact trivial | exact Aa _ | exact Ya _ | exact Ba _ | exact Nat.le_refl _ | refine And.intro ?_ ?_)) <;> (first | omega | rfl | decide | assumption | (unfold La; omega) | exact List.length_map _ | skip)
 exact ⟨K⟩
noncomputable def T11 : Tab := fun f xs => match f, xs with
 | 50, [.one (.u8 c)] => some ([], .one (.u8 (xt c)))
 | 51, [.one (.u8 a), .one (.u8 b)] => some ([], .one (.u8 (tmF a b)))
 | 103, [] => some ([], .agg (hide (Vd.map U8)))
 | 105, [.agg cs, .one (.xp row 0)] => some ([Oa cs ∧ cs.length = 16 ∧ row = Vd.map U8], .agg (hide ((shL (cs.map Ea)).map U8)))
 | 108, [.agg cs, .agg ds] => some ([Oa cs ∧ cs.length = 16 ∧ Oa ds ∧ ds.length = 16], .agg (hide ((Yb (cs.map Ea) (ds.map Ea)).map U8)))
 | 109, [.one (.u8 x)] => some ([], .one (.u8 (turnB x)))
 | f, xs => T7 f xs
theorem T11_ok : Oc Try.prog T11 := by
 intro f xs cs r h hc
 unfold T11 at h
 split at h
 ·obtain ⟨rfl, rfl⟩ := Prod.mk.inj (Option.some.inj h)
  exact ⟨⟨_, _, ok50⟩, s50 _, rfl⟩
 ·obtain ⟨rfl, rfl⟩ := Prod.mk.inj (Option.some.inj h)
  exact ⟨⟨_, _, ok51⟩, s51 _ _, rfl⟩
 ·obtain ⟨rfl, rfl⟩ := Prod.mk.inj (Option.some.inj h)
  rw [Ja]
  exact ⟨⟨_, _, ok103⟩, s103, Jb _ (fun _ => rfl) _⟩
 ·obtain ⟨rfl, rfl⟩ := Prod.mk.inj (Option.some.inj h)
  obtain ⟨h1, h2, rfl⟩ := hc.1
  rename_i cs
  have := s105 (cs.map Ea) (by rw [List.length_map]; exact h2)
  rw [← h1] at this
  rw [Ja]
  exact ⟨⟨_, _, ok105⟩, this, Jb _ (fun _ => rfl) _⟩
 ·obtain ⟨rfl, rfl⟩ := Prod.mk.inj (Option.some.inj h)
  obtain ⟨h1, h2, h3, h4⟩ := hc.1
  rename_i cs ds
  have := s108 (cs.map Ea) (ds.map Ea) (by rw [List.length_map]; exact h2) (by rw [List.length_map]; exact h4)
  rw [← h1, ← h3] at this
  rw [Ja]
  exact ⟨⟨_, _, ok108⟩, this, Jb _ (fun _ => rfl) _⟩
 ·obtain ⟨rfl, rfl⟩ := Prod.mk.inj (Option.some.inj h)
  exact ⟨⟨_, _, ok109⟩, s109 _, rfl⟩
 ·exact T7_ok _ _ _ _ h hc
noncomputable def M11 : Ad := fun f xs m => match f, xs, m with
 | 107, [.one (.ptr 0 0), .agg bs], [some as'] => some ([Oa as' ∧ as'.length = 16 ∧ Oa bs ∧ bs.length = 16], .Ec [], [some ((Yb (as'.map Ea) (bs.map Ea)).map U8)])
 | _, _, _ => none
noncomputable def mf11 : FuncId → Option MF := fun f => match f with
 | 107 => some { cs := { kinds := [], fl := [true], fv := [1] }, flo := [true] }
 | _ => none
theorem M11_ok : Xc Try.prog M11 := by
 intro f xs m cs r m1 h hc
 unfold M11 at h
 split at h
 ·simp only [Option.some.injEq, Prod.mk.injEq] at h
  obtain ⟨rfl, rfl, rfl⟩ := h
  obtain ⟨h1, h2, h3, h4⟩ := hc.1
  rename_i bs as'
  have := s107 (as'.map Ea) (bs.map Ea) (by rw [List.length_map]; exact h2) (by rw [List.length_map]; exact h4)
  rw [← h1, ← h3] at this
  exact ⟨⟨_, _, ok107⟩, this⟩
 ·cases h
def WJB1 : WC := ⟨baseJ T11 mf11 M11,baseJ_ok T11 mf11 M11,baseJ_call T11_ok M11_ok⟩
theorem vc54 {X} {Q : QT} (hX : PX X)  (h : ((0:Int)<=(0:Int)/\(0:Int)<(↑256:Int))/\(1=1/\1<=256)/\Flat (replicate 256 (U8 0))/\Flat (Qa (replicate 256 (U8 0)) 0 [Zc (Value.int IntKind.u8 1)])/\KR X 54 0 Q (Fb Try.f54 0) (mkS 33 [(0,O1 (PT 0 0)),(1,O1 (PT 1 0)),(2,O1 (I64 (1:Int)))]) [some (replicate 256 (U8 0)),some ([U8 (BitVec.ofInt 8 1)]++replicate 255 (U8 0))]) : Ia X 54 0 Q ([.code (Na Try.f54)]) (slots [] Try.f54.ntmps) [] :=
 wR' hX WJB1 ok54 [7,20] [(12,9)] false (CS.mk [] [] [0] []) true [(4,LS.mk [0,1,2] (CS.mk [] [true,true] [] [])),(10,LS.mk [0,1,3,4] (CS.mk [] [true,true,true] [] []))] 2000 h (by kernel_rfl)
theorem vc54a {X} {Q : QT} (hX : PX X) (zs ps : List AC) (i:Int) (h : (fun D1 : Nat=>(fun D0 : List AC=>(decide (i<(256:Int))=true->La (i - (1:Int))/\((0:Int)<=i - (1:Int)/\i - (1:Int)<(↑256:Int))/\gt AY ps D1=U8 (Ea (gt AY ps D1))/\((0:Int)<=i/\i<(↑256:Int))/\(1=1/\0+Int.toNat i*1+1<=List.length ps)/\La (i+(1:Int))/\Flat zs/\Flat D0/\KR X 54 0 Q (Fb Try.f54 0) (mkS 33 [(0,O1 (PT 0 0)),(1,O1 (PT 1 0)),(2,O1 (I64 (i+(1:Int))))]) [some zs,some D0])/\(decide (i<(256:Int))=false->((0:Int)<=(0:Int)/\(0:Int)<(↑256:Int))/\(1=1/\1<=256)/\Flat zs/\Flat ps/\Flat (Qa (replicate 256 (U8 0)) 0 [U8 (turnB (BitVec.ofInt 8 0))])/\KR X 54 0 Q (Fb Try.f54 1) (mkS 33 [(0,O1 (PT 0 0)),(1,O1 (PT 1 0)),(3,O1 (PT 2 0)),(4,O1 (I64 (0:Int)))]) [some zs,some ps,some ([U8 (turnB (BitVec.ofInt 8 0))]++replicate 255 (U8 0))])) (Qa ps (0+Int.toNat i*1) [U8 (tmF (Ea (gt AY ps D1)) (BitVec.ofInt 8 3))])) (0+Int.toNat (i - (1:Int))*1)) : Ia X 54 0 Q (Fb Try.f54 0) (mkS 33 [(0,.one (.ptr 0 0)),(1,.one (.ptr 1 0)),(2,.one (.i64 i))]) [some zs,some ps] :=
 wR' hX WJB1 ok54 [7,20] [(12,9)] false (CS.mk [] [] [0] []) true [(4,LS.mk [0,1,2] (CS.mk [] [true,true] [] [])),(10,LS.mk [0,1,3,4] (CS.mk [] [true,true,true] [] []))] 2000 h (by kernel_rfl)
theorem vc54b {X} {Q : QT} (hX : PX X) (zs ps os : List AC) (i:Int) (h : (fun D3 : Nat=>(fun D2 : BitVec 8=>(fun D1 : List AC=>(fun D0 : List AC=>(decide (i<(255:Int))=true->((0:Int)<=i/\i<(↑256:Int))/\gt AY ps (0+Int.toNat i*1)=U8 D2/\La ((255:Int) - i)/\((0:Int)<=(255:Int) - i/\(255:Int) - i<(↑256:Int))/\gt AY ps D3=U8 (Ea (gt AY ps D3))/\(1=1/\0+Int.toNat (↑(BitVec.toNat D2):Int)*1+1<=List.length os)/\La (i+(1:Int))/\Flat zs/\Flat ps/\Flat D0/\KR X 54 0 Q (Fb Try.f54 1) (mkS 33 [(0,O1 (PT 0 0)),(1,O1 (PT 1 0)),(3,O1 (PT 2 0)),(4,O1 (I64 (i+(1:Int))))]) [some zs,some ps,some D0])/\(decide (i<(255:Int))=false->256<=List.length os/\(List.length (take 256 (drop 0 os))=256/\256<=List.length zs)/\256<=List.length D1/\Za (AG (take 256 (drop 0 D1)))/\Q (AG (take 256 (drop 0 D1))) [])) (Qa os (0+Int.toNat (↑(BitVec.toNat D2):Int)*1) [U8 (turnB (Ea (gt AY ps D3)))])) (Qa zs 0 (take 256 (drop 0 os)))) (Ea (gt AY ps (0+Int.toNat i*1)))) (0+Int.toNat ((255:Int) - i)*1)) : Ia X 54 0 Q (Fb Try.f54 1) (mkS 33 [(0,.one (.ptr 0 0)),(1,.one (.ptr 1 0)),(3,.one (.ptr 2 0)),(4,.one (.i64 i))]) [some zs,some ps,some os] :=
 wR' hX WJB1 ok54 [7,20] [(12,9)] false (CS.mk [] [] [0] []) true [(4,LS.mk [0,1,2] (CS.mk [] [true,true] [] [])),(10,LS.mk [0,1,3,4] (CS.mk [] [true,true,true] [] []))] 2000 h (by kernel_rfl)
theorem vc102 {X} {Q : QT} (hX : PX X) (ks : List AC) (h : (fun D1 : List AC=>(fun D0 : List AC=>(List.length (hide (List.map U8 Vd))=256/\256<=256)/\16<=List.length ks/\((0:Int)<=(0:Int)/\(0:Int)<(↑11:Int))/\(List.length (take 16 (drop 0 ks))=16/\16<=176)/\Flat (replicate 176 (U8 0))/\Flat D1/\Flat D0/\KR X 102 0 Q (Fb Try.f102 0) (mkS 73 [(2,O1 (PT 0 0)),(3,O1 (PT 1 0)),(4,O1 (PT 2 0)),(5,O1 (U8 (BitVec.ofInt 8 1))),(6,O1 (I64 (1:Int)))]) [some (replicate 176 (U8 0)),some D1,some D0]) (Qa (replicate 176 (U8 0)) 0 (take 16 (drop 0 ks)))) (Qa (replicate 256 (U8 0)) 0 (hide (List.map U8 Vd)))) : Ia X 102 0 Q ([.code (Na Try.f102)]) (slots [.agg ks] Try.f102.ntmps) [] :=
 wR' hX WJB1 ok102 [15,25,55] [(13,16),(15,8),(20,14)] false (CS.mk [] [] [0] []) true [(6,LS.mk [2,3,4,5,6] (CS.mk [] [true,true,true,true] [] [])),(11,LS.mk [2,3,4,5,6,7,8,24] (CS.mk [] [true,true,true,true] [] [])),(18,LS.mk [2,3,4,5,6,7,8,10] (CS.mk [] [true,true,true,true] [] []))] 2000 h (by kernel_rfl)
theorem vc102a {X} {Q : QT} (hX : PX X) (zs bs os : List AC) (p:BitVec 8) (i:Int) (h : (fun D1 : List AC=>(fun D0 : List AC=>(decide (i<=(10:Int))=true->La (i - (1:Int))/\((0:Int)<=i - (1:Int)/\i - (1:Int)<(↑11:Int))/\0+Int.toNat (i - (1:Int))*16+16<=List.length os/\(List.length (take 16 (drop (0+Int.toNat (i - (1:Int))*16) os))=16/\16<=16)/\((0:Int)<=i/\i<(↑11:Int))/\Flat zs/\Flat bs/\Flat os/\Flat D0/\KR X 102 0 Q (Fb Try.f102 1) (mkS 73 [(2,O1 (PT 0 0)),(3,O1 (PT 1 0)),(4,O1 (PT 2 0)),(5,O1 (U8 p)),(6,O1 (I64 i)),(7,O1 (PT 3 0)),(8,O1 (PT 2 (0+Int.toNat i*16))),(24,O1 (I64 (0:Int)))]) [some zs,some bs,some os,some D0])/\(decide (i<=(10:Int))=false->176<=List.length os/\(List.length (take 176 (drop 0 os))=176/\176<=List.length zs)/\176<=List.length D1/\Za (AG (take 176 (drop 0 D1)))/\Q (AG (take 176 (drop 0 D1))) [])) (Qa (replicate 16 (U8 0)) 0 (take 16 (drop (0+Int.toNat (i - (1:Int))*16) os)))) (Qa zs 0 (take 176 (drop 0 os)))) : Ia X 102 0 Q (Fb Try.f102 0) (mkS 73 [(2,.one (.ptr 0 0)),(3,.one (.ptr 1 0)),(4,.one (.ptr 2 0)),(5,.one (.u8 p)),(6,.one (.i64 i))]) [some zs,some bs,some os] :=
 wR' hX WJB1 ok102 [15,25,55] [(13,16),(15,8),(20,14)] false (CS.mk [] [] [0] []) true [(6,LS.mk [2,3,4,5,6] (CS.mk [] [true,true,true,true] [] [])),(11,LS.mk [2,3,4,5,6,7,8,24] (CS.mk [] [true,true,true,true] [] [])),(18,LS.mk [2,3,4,5,6,7,8,10] (CS.mk [] [true,true,true,true] [] []))] 2000 h (by kernel_rfl)
theorem vc102b {X} {Q : QT} (hX : PX X) (zs bs os ws : List AC) (p:BitVec 8) (o:Nat) (i k:Int) (h : (fun D2 : List AC=>(fun D1 : Int=>(fun D0 : Nat=>(decide (k<(4:Int))=true->((0:Int)<=k/\k<(↑16:Int))/\gt AY ws (0+Int.toNat k*1)=U8 (Ea (gt AY ws (0+Int.toNat k*1)))/\La (k+(1:Int))/\La D1/\((0:Int)<=(12:Int)+Mc BinOp.and (k+(1:Int)) (3:Int)/\(12:Int)+Mc BinOp.and (k+(1:Int)) (3:Int)<(↑16:Int))/\gt AY ws (0+Int.toNat D1*1)=U8 (Ea (gt AY ws (0+Int.toNat D1*1)))/\gt AY bs D0=U8 (Ea (gt AY bs D0))/\((0:Int)<=k/\k<(↑16:Int))/\(1=1/\o+Int.toNat k*1+1<=List.length os)/\La (k+(1:Int))/\Flat zs/\Flat bs/\Flat (Qa os (o+Int.toNat k*1) [U8 (Ea (gt AY ws (0+Int.toNat k*1))^^^Ea (gt AY bs D0))])/\Flat ws/\KR X 102 0 Q (Fb Try.f102 1) (mkS 73 [(2,O1 (PT 0 0)),(3,O1 (PT 1 0)),(4,O1 (PT 2 0)),(5,O1 (U8 p)),(6,O1 (I64 i)),(7,O1 (PT 3 0)),(8,O1 (PT 2 o)),(24,O1 (I64 (k+(1:Int))))]) [some zs,some bs,some (Qa os (o+Int.toNat k*1) [U8 (Ea (gt AY ws (0+Int.toNat k*1))^^^Ea (gt AY bs D0))]),some ws])/\(decide (k<(4:Int))=false->((0:Int)<=(0:Int)/\(0:Int)<(↑16:Int))/\gt AY os (o+0)=U8 (Ea (gt AY os (o+0)))/\((0:Int)<=(0:Int)/\(0:Int)<(↑16:Int))/\(1=1/\o+0+1<=List.length os)/\Flat zs/\Flat bs/\Flat D2/\Flat ws/\KR X 102 0 Q (Fb Try.f102 2) (mkS 73 [(2,O1 (PT 0 0)),(3,O1 (PT 1 0)),(4,O1 (PT 2 0)),(5,O1 (U8 (xt p))),(6,O1 (I64 i)),(7,O1 (PT 3 0)),(8,O1 (PT 2 o)),(10,O1 (I64 (4:Int)))]) [some zs,some bs,some D2,some ws])) (0+Int.toNat (↑(BitVec.toNat (Ea (gt AY ws (0+Int.toNat D1*1)))):Int)*1)) ((12:Int)+Mc BinOp.and (k+(1:Int)) (3:Int))) (Qa os (o+0) [U8 (Ea (gt AY os (o+0))^^^p)])) : Ia X 102 0 Q (Fb Try.f102 1) (mkS 73 [(2,.one (.ptr 0 0)),(3,.one (.ptr 1 0)),(4,.one (.ptr 2 0)),(5,.one (.u8 p)),(6,.one (.i64 i)),(7,.one (.ptr 3 0)),(8,.one (.ptr 2 o)),(24,.one (.i64 k))]) [some zs,some bs,some os,some ws] :=
 wR' hX WJB1 ok102 [15,25,55] [(13,16),(15,8),(20,14)] false (CS.mk [] [] [0] []) true [(6,LS.mk [2,3,4,5,6] (CS.mk [] [true,true,true,true] [] [])),(11,LS.mk [2,3,4,5,6,7,8,24] (CS.mk [] [true,true,true,true] [] [])),(18,LS.mk [2,3,4,5,6,7,8,10] (CS.mk [] [true,true,true,true] [] []))] 2000 h (by kernel_rfl)
theorem vc102c {X} {Q : QT} (hX : PX X) (zs bs os ws : List AC) (p:BitVec 8) (o:Nat) (i k:Int) (h : (fun D1 : Nat=>(fun D0 : List AC=>(decide (k<(16:Int))=true->((0:Int)<=k/\k<(↑16:Int))/\gt AY ws (0+Int.toNat k*1)=U8 (Ea (gt AY ws (0+Int.toNat k*1)))/\La (k - (4:Int))/\((0:Int)<=k - (4:Int)/\k - (4:Int)<(↑16:Int))/\gt AY os D1=U8 (Ea (gt AY os D1))/\((0:Int)<=k/\k<(↑16:Int))/\(1=1/\o+Int.toNat k*1+1<=List.length os)/\La (k+(1:Int))/\Flat zs/\Flat bs/\Flat D0/\Flat ws/\KR X 102 0 Q (Fb Try.f102 2) (mkS 73 [(2,O1 (PT 0 0)),(3,O1 (PT 1 0)),(4,O1 (PT 2 0)),(5,O1 (U8 p)),(6,O1 (I64 i)),(7,O1 (PT 3 0)),(8,O1 (PT 2 o)),(10,O1 (I64 (k+(1:Int))))]) [some zs,some bs,some D0,some ws])/\(decide (k<(16:Int))=false->La (i+(1:Int))/\Flat zs/\Flat bs/\Flat os/\KR X 102 0 Q (Fb Try.f102 0) (mkS 73 [(2,O1 (PT 0 0)),(3,O1 (PT 1 0)),(4,O1 (PT 2 0)),(5,O1 (U8 p)),(6,O1 (I64 (i+(1:Int))))]) [some zs,some bs,some os])) (Qa os (o+Int.toNat k*1) [U8 (Ea (gt AY ws (0+Int.toNat k*1))^^^Ea (gt AY os D1))])) (o+Int.toNat (k - (4:Int))*1)) : Ia X 102 0 Q (Fb Try.f102 2) (mkS 73 [(2,.one (.ptr 0 0)),(3,.one (.ptr 1 0)),(4,.one (.ptr 2 0)),(5,.one (.u8 p)),(6,.one (.i64 i)),(7,.one (.ptr 3 0)),(8,.one (.ptr 2 o)),(10,.one (.i64 k))]) [some zs,some bs,some os,some ws] :=
 wR' hX WJB1 ok102 [15,25,55] [(13,16),(15,8),(20,14)] false (CS.mk [] [] [0] []) true [(6,LS.mk [2,3,4,5,6] (CS.mk [] [true,true,true,true] [] [])),(11,LS.mk [2,3,4,5,6,7,8,24] (CS.mk [] [true,true,true,true] [] [])),(18,LS.mk [2,3,4,5,6,7,8,10] (CS.mk [] [true,true,true,true] [] []))] 2000 h (by kernel_rfl)
theorem l54b {X : Ctx} (hX : X.P = Try.prog) : ∀ (d i:Nat), i + d = 255 →
  Ia X 54 0 (Is (.agg (Vd.map U8))) (Fb Try.f54 1) (mkS 33 [(0, .one (.ptr 0 0)), (1, .one (.ptr 1 0)), (3, .one (.ptr 2 0)), (4, .one (.i64 i))]) [some (replicate 256 (U8 0)), some (pwL.map U8), some ((oF i).map U8)] := by
 have z : Flat (replicate 256 (U8 0)) := by rw [Jd]; exact Aa _
 intro d
 induction d with
 | zero =>
  intro i hi
  have hi : i = 255 := by omega
  subst hi
  refine vc54b hX _ _ _ _ ⟨fun h => absurd (of_decide_eq_true h) (by omega), fun _ => ?_⟩
  try dsimp only
  rw [oF_end]
  simp only [Ja, tkm, tk0, Ua, Ae, layC, layM, Xd, tkn, List.drop_zero, Nat.zero_add, Nat.mul_one, Nat.reduceAdd, Nat.le_refl, Nat.min_self, Nat.reduceLeDiff, Cc, Int.toNat_natCast, List.length_map, List.length_append, List.length_replicate, List.length_take, List.length_drop, Ob, boxT_len]
  (repeat' (first | exact trivial | exact Aa _ | exact Ya _ | exact Ba _ | exact Nat.le_refl _ | refine And.intro ?_ ?_)) <;> (first | omega | exact z | (unfold La; omega) | exact List.length_map _ | (show Is _ _ _; exact rfl) | skip)
 | succ d ih =>
  intro i hi
  have hg := Cb pwL i (by rw [pwL_len]; omega)
  have hg2 := Cb pwL (255 - i) (by rw [pwL_len]; omega)
  rw [pwL_get (by omega)] at hg hg2
  have e5 : (255:Int) - (i:Int) = ((255 - i:Nat):Int) := by omega
  have ih := ih (i + 1) (by omega)
  have hl := oF_len i
  have hp := (p3 i).isLt
  refine vc54b hX _ _ _ _ ⟨fun _ => ?_, fun h => absurd (of_decide_eq_false h) (by omega)⟩
  try dsimp only
  rw [e5]
  simp only [ixn, hg, hg2, Ea, Xd, List.length_map, hl]
  rw [oF] at ih
  (repeat' (first | exact trivial | exact Aa _ | exact Ya _ | exact Ba _ | exact Nat.le_refl _ | refine And.intro ?_ ?_)) <;> (first | omega | exact z | (unfold La; omega) | exact List.length_map _ | (show Is _ _ _; exact rfl) | skip)
  exact ⟨ih⟩
theorem l54a {X : Ctx} (hX : X.P = Try.prog) : ∀ (d i:Nat), i + 1 + d = 256 →
  Ia X 54 0 (Is (.agg (Vd.map U8))) (Fb Try.f54 0) (mkS 33 [(0, .one (.ptr 0 0)), (1, .one (.ptr 1 0)), (2, .one (.i64 (i + 1:Nat)))]) [some (replicate 256 (U8 0)), some ((pwL.take (i + 1) ++ (replicate 256 0).drop (i + 1)).map U8)] := by
 have z : Flat (replicate 256 (U8 0)) := by rw [Jd]; exact Aa _
 have hl : pwL.length = (replicate 256 (0:BitVec 8)).length := by rw [pwL_len, List.length_replicate]
 intro d
 induction d with
 | zero =>
  intro i hi
  have hi : i = 255 := by omega
  subst hi
  have e := endT _ _ hl
  rw [pwL_len] at e
  refine vc54a hX _ _ _ ⟨fun h => absurd (of_decide_eq_true h) (by omega), fun _ => ?_⟩
  try dsimp only
  rw [e]
  have K := l54b hX 255 0 rfl
  have z1 : Flat (Qa (replicate 256 (U8 0)) 0 [U8 (turnB (BitVec.ofInt 8 0))]) := by rw [Jd, Xd]; exact Aa _
  have e0 : (oF 0).map U8 = [U8 (turnB (BitVec.ofInt 8 0))] ++ replicate 255 (U8 0) := by rw [oF, List.map_cons, List.map_replicate]; rfl
  rw [e0] at K
  (repeat' (first | exact trivial | exact Aa _ | exact Ya _ | exact Ba _ | exact Nat.le_refl _ | refine And.intro ?_ ?_)) <;> (first | omega | exact z | (unfold La; omega) | exact List.length_map _ | (show Is _ _ _; exact rfl) | skip)
  exact ⟨K⟩
 | succ d ih =>
  intro i hi
  have hL := lenT _ _ hl (i := i + 1)
  have hg := Cb (pwL.take (i + 1) ++ (replicate 256 0).drop (i + 1)) i (by rw [hL, List.length_replicate]; omega)
  rw [getT_new _ _ _ (by rw [pwL_len]; omega) (by omega), pwL_get (by omega)] at hg
  have hset := setT pwL (replicate 256 0) 0 (i := i + 1) (by rw [pwL_len]; omega) hl
  rw [pwL_get (by omega), ← p3_next (by omega)] at hset
  have ei : ((i + 1:Nat):Int) - 1 = (i:Int) := by omega
  have ih := ih (i + 1) (by omega)
  have o3 : BitVec.ofInt 8 3 = 3#8 := rfl
  refine vc54a hX _ _ _ ⟨fun _ => ?_, fun h => absurd (of_decide_eq_false h) (by omega)⟩
  try dsimp only
  rw [ei]
  simp only [ixn, hg, Ea, o3, Xd, hset, hL, List.length_map, List.length_replicate]
  (repeat' (first | exact trivial | exact Aa _ | exact Ya _ | exact Ba _ | exact Nat.le_refl _ | refine And.intro ?_ ?_)) <;> (first | omega | exact z | (unfold La; omega) | exact List.length_map _ | (show Is _ _ _; exact rfl) | skip)
  exact ⟨ih⟩
theorem s54 : Spec Try.prog 54 [] [] (Is (.agg (Vd.map U8))) := by
 refine Spec.of_run ok54 fun X hX => vc54 hX ?_
 have K := l54a hX 255 0 rfl
 have z : Flat (replicate 256 (U8 0)) := by rw [Jd]; exact Aa _
 have e : (pwL.take 1 ++ (replicate 256 0).drop 1).map U8 = [U8 (BitVec.ofInt 8 1)] ++ replicate 255 (U8 0) := by
  have : pwL.take 1 = [1#8] := by kernel_rfl
  rw [this, List.drop_replicate, List.map_append, List.map_replicate]; rfl
 rw [e] at K
 have z1 : Flat (Qa (replicate 256 (U8 0)) 0 [Zc (Value.int IntKind.u8 1)]) := by
  have : [Zc (Value.int IntKind.u8 1)] = [U8 1#8] := rfl
  rw [Jd, this, Xd]; exact Aa _
 (repeat' (first | exact trivial | exact Aa _ | exact Ya _ | exact Ba _ | exact Nat.le_refl _ | refine And.intro ?_ ?_)) <;> (first | omega | exact z | (unfold La; omega) | exact List.length_map _ | (show Is _ _ _; exact rfl) | skip)
 exact ⟨K⟩
theorem E_get (key : List (BitVec 8)) {j : Nat} (h : j < 176) : (Zd key 176).getD j 0 = eat key j := exL_get key j 176 h
theorem rkF_get (key : List (BitVec 8)) {n k : Nat} (hn : n ≤ 10) (hk : k < 16) : (rkF key n).getD k 0 = eat key (16 * n + k) := by
 unfold rkF
 rw [← E_get key (by omega), List.getD_eq_getElem?_getD, List.getD_eq_getElem?_getD, List.getElem?_take_of_lt hk, List.getElem?_drop]
theorem cutT {α : Type} (t l : List α) {a b m : Nat} (h : a + b ≤ m) (hm : m ≤ t.length) : ((t.take m ++ l.drop m).drop a).take b = (t.drop a).take b := by
 have h1 : (t.take m).length = m := by rw [List.length_take]; omega
 rw [List.drop_append_of_le_length (by omega), List.take_append_of_le_length (by rw [List.length_drop]; omega), List.drop_take, List.take_take, Nat.min_eq_left (by omega)]
theorem take_set_ge {α : Type} (t : List α) (x : α) {a m : Nat} (h : m ≤ a) : (t.set a x).take m = t.take m := by
 rw [List.take_set, List.set_eq_of_length_le (by rw [List.length_take]; omega)]
theorem set_back {α : Type} (t l : List α) (x d : α) {a m : Nat} (h : a < m) (hm : m ≤ t.length) : ((t.set a x).take m ++ l.drop m).set a (t.getD a d) = t.take m ++ l.drop m := by
 have h1 : ((t.set a x).take m).length = m := by rw [List.length_take, List.length_set]; omega
 rw [List.set_append, if_pos (by omega), List.take_set, List.set_set]
 congr 1
 rw [List.getD_eq_getElem?_getD, List.getElem?_eq_getElem (by omega)]
 show (t.take m).set a t[a] = _
 have : (t.take m)[a]'(by rw [List.length_take]; omega) = t[a] := List.getElem_take
 rw [← this, List.set_getElem_self]
theorem gt_box' (c:BitVec 8) : gt AY (Vd.map U8) c.toNat = .u8 (bx c) := Cb _ _ (by rw [boxT_len]; exact c.isLt)
theorem oix (i k:Nat) : 16 * i + Int.toNat (k:Int) * 1 = 16 * i + k := by omega
def SE (key : List (BitVec 8)) (m:Nat) : List (BitVec 8) := (Zd key 176).take m ++ (replicate 176 0).drop m
theorem SE_len (key : List (BitVec 8)) (m:Nat) : (SE key m).length = 176 := by
 unfold SE
 rw [lenT _ _ (by rw [Jc, List.length_replicate]), List.length_replicate]
theorem SE_get (key : List (BitVec 8)) {m j : Nat} (h : j < m) (hm : m ≤ 176) : (SE key m).getD j 0 = eat key j := by
 unfold SE
 rw [getT_new _ _ _ (by rw [Jc]; exact hm) h, E_get key (by omega)]
theorem SE_set (key : List (BitVec 8)) {m : Nat} (h : m < 176) : (SE key m).set m (eat key m) = SE key (m + 1) := by
 have := setT (Zd key 176) (replicate 176 0) 0 (i := m) (by rw [Jc]; exact h) (by rw [Jc, List.length_replicate])
 rw [E_get key h] at this
 exact this
theorem SE_cut (key : List (BitVec 8)) {n : Nat} (h : n ≤ 10) : ((SE key (16 * (n + 1))).drop (16 * n)).take 16 = rkF key n := by
 unfold SE rkF
 exact cutT _ _ (by omega) (by rw [Jc]; omega)
theorem SE_end (key : List (BitVec 8)) : SE key 176 = Zd key 176 := by
 unfold SE
 have := endT (Zd key 176) (replicate 176 0) (by rw [Jc, List.length_replicate])
 rw [Jc] at this
 exact this
def SX (key : List (BitVec 8)) (a:Nat) (x:BitVec 8) (m:Nat) : List (BitVec 8) := ((Zd key 176).set a x).take m ++ (replicate 176 0).drop m
theorem SX_len (key : List (BitVec 8)) (a:Nat) (x:BitVec 8) (m:Nat) : (SX key a x m).length = 176 := by
 unfold SX
 rw [lenT _ _ (by rw [List.length_set, Jc, List.length_replicate]), List.length_replicate]
theorem SX_set0 (key : List (BitVec 8)) {a : Nat} (x:BitVec 8) (h : a < 176) : (SE key a).set a x = SX key a x (a + 1) := by
 have := setT ((Zd key 176).set a x) (replicate 176 0) 0 (i := a) (by rw [List.length_set, Jc]; exact h) (by rw [List.length_set, Jc, List.length_replicate])
 rw [getD_set_eq _ _ _ _ (by rw [Jc]; exact h), take_set_ge _ _ (Nat.le_refl _)] at this
 exact this
theorem SX_set (key : List (BitVec 8)) {a m : Nat} (x:BitVec 8) (h : m < 176) (ha : a < m) : (SX key a x m).set m (eat key m) = SX key a x (m + 1) := by
 have := setT ((Zd key 176).set a x) (replicate 176 0) 0 (i := m) (by rw [List.length_set, Jc]; exact h) (by rw [List.length_set, Jc, List.length_replicate])
 rw [getD_set_ne _ _ _ _ _ (by omega), E_get key h] at this
 exact this
theorem SX_at (key : List (BitVec 8)) {a m : Nat} (x:BitVec 8) (ha : a < m) (h : m ≤ 176) : (SX key a x m).getD a 0 = x := by
 unfold SX
 rw [getT_new _ _ _ (by rw [List.length_set, Jc]; exact h) ha, getD_set_eq _ _ _ _ (by rw [Jc]; omega)]
theorem SX_back (key : List (BitVec 8)) {a m : Nat} (x:BitVec 8) (ha : a < m) (h : m ≤ 176) : (SX key a x m).set a (eat key a) = SE key m := by
 have := set_back (Zd key 176) (replicate 176 0) x 0 (a := a) (m := m) ha (by rw [Jc]; exact h)
 rw [E_get key (by omega)] at this
 exact this
theorem l102c {X : Ctx} (hX : X.P = Try.prog) (key : List (BitVec 8)) (n:Nat) (hn : n < 10)
  (K : Ia X 102 0 (Is (.agg ((Zd key 176).map U8))) (Fb Try.f102 0) (mkS 73 [(2, .one (.ptr 0 0)), (3, .one (.ptr 1 0)), (4, .one (.ptr 2 0)), (5, .one (.u8 (pwF (n + 1)))), (6, .one (.i64 (n + 1 + 1:Nat)))]) [some (replicate 176 (U8 0)), some (Vd.map U8), some ((SE key (16 * (n + 1) + 16)).map U8)]) : ∀ (d k:Nat), k + d = 16 → 4 ≤ k →
  Ia X 102 0 (Is (.agg ((Zd key 176).map U8))) (Fb Try.f102 2) (mkS 73 [(2, .one (.ptr 0 0)), (3, .one (.ptr 1 0)), (4, .one (.ptr 2 0)), (5, .one (.u8 (pwF (n + 1)))), (6, .one (.i64 (n + 1:Nat))), (7, .one (.ptr 3 0)), (8, .one (.ptr 2 (16 * (n + 1)))), (10, .one (.i64 k))])
   [some (replicate 176 (U8 0)), some (Vd.map U8), some ((SE key (16 * (n + 1) + k)).map U8), some ((rkF key n).map U8)] := by
 have z : Flat (replicate 176 (U8 0)) := by rw [Jd]; exact Aa _
 have hr := rkF_len key (n := n) (by omega)
 intro d
 induction d with
 | zero =>
  intro k hk h4
  have hk : k = 16 := by omega
  subst hk
  refine vc102c hX _ _ _ _ _ _ _ _ ⟨fun h => absurd (of_decide_eq_true h) (by omega), fun _ => ?_⟩
  (repeat' (first | exact trivial | exact Aa _ | exact Ya _ | exact Ba _ | exact Nat.le_refl _ | refine And.intro ?_ ?_)) <;> (first | omega | exact z | (unfold La; omega) | exact List.length_map _ | (show Is _ _ _; exact rfl) | skip)
  exact ⟨K⟩
 | succ d ih =>
  intro k hk h4
  have ih := ih (k + 1) (by omega) (by omega)
  have hg := Cb (rkF key n) k (by omega)
  rw [rkF_get key (by omega) (by omega)] at hg
  have hg2 := Cb (SE key (16 * (n + 1) + k)) (16 * (n + 1) + (k - 4)) (by rw [SE_len]; omega)
  rw [SE_get key (by omega) (by omega)] at hg2
  have e4 : (k:Int) - 4 = ((k - 4:Nat):Int) := by omega
  have ev := eat_hi key (n := n + 1) (k := k) h4 (by omega) (by omega)
  rw [Nat.add_sub_cancel] at ev
  have hs := SE_set key (m := 16 * (n + 1) + k) (by omega)
  have hl := SE_len key (16 * (n + 1) + k)
  refine vc102c hX _ _ _ _ _ _ _ _ ⟨fun _ => ?_, fun h => absurd (of_decide_eq_false h) (by omega)⟩
  try dsimp only
  rw [e4]
  simp only [ixn, oix, hg, hg2, Ea, ← ev, Xd, hs, List.length_map, hl]
  (repeat' (first | exact trivial | exact Aa _ | exact Ya _ | exact Ba _ | exact Nat.le_refl _ | refine And.intro ?_ ?_)) <;> (first | omega | exact z | (unfold La; omega) | exact List.length_map _ | (show Is _ _ _; exact rfl) | skip)
  exact ⟨ih⟩
theorem l102b {X : Ctx} (hX : X.P = Try.prog) (key : List (BitVec 8)) (n:Nat) (hn : n < 10)
  (K : Ia X 102 0 (Is (.agg ((Zd key 176).map U8))) (Fb Try.f102 0) (mkS 73 [(2, .one (.ptr 0 0)), (3, .one (.ptr 1 0)), (4, .one (.ptr 2 0)), (5, .one (.u8 (pwF (n + 1)))), (6, .one (.i64 (n + 1 + 1:Nat)))]) [some (replicate 176 (U8 0)), some (Vd.map U8), some ((SE key (16 * (n + 1) + 16)).map U8)]) : ∀ (d k:Nat), k + 1 + d = 4 →
  Ia X 102 0 (Is (.agg ((Zd key 176).map U8))) (Fb Try.f102 1) (mkS 73 [(2, .one (.ptr 0 0)), (3, .one (.ptr 1 0)), (4, .one (.ptr 2 0)), (5, .one (.u8 (pwF n))), (6, .one (.i64 (n + 1:Nat))), (7, .one (.ptr 3 0)), (8, .one (.ptr 2 (16 * (n + 1)))), (24, .one (.i64 (k + 1:Nat)))])
   [some (replicate 176 (U8 0)), some (Vd.map U8), some ((SX key (16 * (n + 1)) (eat key (16 * (n + 1)) ^^^ pwF n) (16 * (n + 1) + (k + 1))).map U8), some ((rkF key n).map U8)] := by
 have z : Flat (replicate 176 (U8 0)) := by rw [Jd]; exact Aa _
 have hr := rkF_len key (n := n) (by omega)
 intro d
 induction d with
 | zero =>
  intro k hk
  have hk : k = 3 := by omega
  subst hk
  have hg := Cb (SX key (16 * (n + 1)) (eat key (16 * (n + 1)) ^^^ pwF n) (16 * (n + 1) + (3 + 1))) (16 * (n + 1)) (by rw [SX_len]; omega)
  rw [SX_at key _ (by omega) (by omega)] at hg
  have hb := SX_back key (a := 16 * (n + 1)) (m := 16 * (n + 1) + (3 + 1)) (eat key (16 * (n + 1)) ^^^ pwF n) (by omega) (by omega)
  have hl := SX_len key (16 * (n + 1)) (eat key (16 * (n + 1)) ^^^ pwF n) (16 * (n + 1) + (3 + 1))
  have ex : eat key (16 * (n + 1)) ^^^ pwF n ^^^ pwF n = eat key (16 * (n + 1)) := by rw [BitVec.xor_assoc, BitVec.xor_self, BitVec.xor_zero]
  have K := l102c hX key n hn K 12 4 rfl (Nat.le_refl _)
  refine vc102b hX _ _ _ _ _ _ _ _ ⟨fun h => absurd (of_decide_eq_true h) (by omega), fun _ => ?_⟩
  simp only [Nat.add_zero, hg, Ea, ex, Xd, hb, List.length_map, hl]
  have ep : xt (pwF n) = pwF (n + 1) := rfl
  rw [ep]
  (repeat' (first | exact trivial | exact Aa _ | exact Ya _ | exact Ba _ | exact Nat.le_refl _ | refine And.intro ?_ ?_)) <;> (first | omega | exact z | (unfold La; omega) | exact List.length_map _ | (show Is _ _ _; exact rfl) | skip)
  exact ⟨K⟩
 | succ d ih =>
  intro k hk
  have ih := ih (k + 1) (by omega)
  have hg := Cb (rkF key n) (k + 1) (by omega)
  rw [rkF_get key (by omega) (by omega)] at hg
  have hg2 := Cb (rkF key n) (12 + (k + 1 + 1) % 4) (by omega)
  rw [rkF_get key (by omega) (by omega)] at hg2
  have ev := eat_box key (n := n + 1) (k := k + 1) (by omega) (by omega)
  rw [Nat.add_sub_cancel, if_neg (by omega), BitVec.xor_zero] at ev
  have hs := SX_set key (a := 16 * (n + 1)) (m := 16 * (n + 1) + (k + 1)) (eat key (16 * (n + 1)) ^^^ pwF n) (by omega) (by omega)
  have hl := SX_len key (16 * (n + 1)) (eat key (16 * (n + 1)) ^^^ pwF n) (16 * (n + 1) + (k + 1))
  have e3 : (12:Int) + Mc .and (((k + 1:Nat):Int) + 1) 3 = ((12 + (k + 1 + 1) % 4:Nat):Int) := by
   rw [show ((k + 1:Nat):Int) + 1 = ((k + 1 + 1:Nat):Int) by omega, and3 _ (by omega)]; omega
  refine vc102b hX _ _ _ _ _ _ _ _ ⟨fun _ => ?_, fun h => absurd (of_decide_eq_false h) (by omega)⟩
  try dsimp only
  rw [e3]
  simp only [ixn, oix, hg, hg2, Ea, gt_box, gt_box']
  simp only [← ev, Xd, hs, List.length_map, hl]
  (repeat' (first | exact trivial | exact Aa _ | exact Ya _ | exact Ba _ | exact Nat.le_refl _ | refine And.intro ?_ ?_)) <;> (first | omega | exact z | (unfold La; omega) | exact List.length_map _ | (show Is _ _ _; exact rfl) | skip)
  exact ⟨ih⟩
theorem l102b0 {X : Ctx} (hX : X.P = Try.prog) (key : List (BitVec 8)) (n:Nat) (hn : n < 10)
  (K : Ia X 102 0 (Is (.agg ((Zd key 176).map U8))) (Fb Try.f102 0) (mkS 73 [(2, .one (.ptr 0 0)), (3, .one (.ptr 1 0)), (4, .one (.ptr 2 0)), (5, .one (.u8 (pwF (n + 1)))), (6, .one (.i64 (n + 1 + 1:Nat)))]) [some (replicate 176 (U8 0)), some (Vd.map U8), some ((SE key (16 * (n + 1) + 16)).map U8)]) :
  Ia X 102 0 (Is (.agg ((Zd key 176).map U8))) (Fb Try.f102 1) (mkS 73 [(2, .one (.ptr 0 0)), (3, .one (.ptr 1 0)), (4, .one (.ptr 2 0)), (5, .one (.u8 (pwF n))), (6, .one (.i64 (n + 1:Nat))), (7, .one (.ptr 3 0)), (8, .one (.ptr 2 (16 * (n + 1)))), (24, .one (.i64 0))])
   [some (replicate 176 (U8 0)), some (Vd.map U8), some ((SE key (16 * (n + 1))).map U8), some ((rkF key n).map U8)] := by
 have z : Flat (replicate 176 (U8 0)) := by rw [Jd]; exact Aa _
 have hr := rkF_len key (n := n) (by omega)
 have K := l102b hX key n hn K 3 0 rfl
 have hg := Cb (rkF key n) 0 (by omega)
 rw [rkF_get key (by omega) (by omega)] at hg
 have hg2 := Cb (rkF key n) 13 (by omega)
 rw [rkF_get key (by omega) (by omega)] at hg2
 have ev := eat_box key (n := n + 1) (k := 0) (by omega) (by omega)
 rw [Nat.add_sub_cancel, if_pos rfl, Nat.add_zero] at ev
 have ev2 : eat key (16 * n + 0) ^^^ bx (eat key (16 * n + 13)) = eat key (16 * (n + 1)) ^^^ pwF n := by
  rw [ev, BitVec.xor_assoc _ (pwF n), BitVec.xor_self, BitVec.xor_zero]
 have hs := SX_set0 key (a := 16 * (n + 1)) (eat key (16 * (n + 1)) ^^^ pwF n) (by omega)
 have hl := SE_len key (16 * (n + 1))
 have e3 : (12:Int) + Mc .and ((0:Int) + 1) 3 = ((13:Nat):Int) := by decide
 have i0 : 0 + Int.toNat 0 * 1 = 0 := rfl
 have o0 : 16 * (n + 1) + Int.toNat 0 * 1 = 16 * (n + 1) := by omega
 refine vc102b hX _ _ _ _ _ _ _ _ ⟨fun _ => ?_, fun h => absurd (of_decide_eq_false h) (by decide)⟩
 try dsimp only
 rw [e3]
 simp only [ixn, i0, o0, hg, hg2, Ea, gt_box, gt_box']
 simp only [ev2, Xd, hs, List.length_map, hl]
 (repeat' (first | exact trivial | exact Aa _ | exact Ya _ | exact Ba _ | exact Nat.le_refl _ | refine And.intro ?_ ?_)) <;> (first | omega | exact z | (unfold La; omega) | exact List.length_map _ | (show Is _ _ _; exact rfl) | skip)
 exact ⟨K⟩
theorem l102a {X : Ctx} (hX : X.P = Try.prog) (key : List (BitVec 8)) : ∀ (d n:Nat), n + d = 10 →
  Ia X 102 0 (Is (.agg ((Zd key 176).map U8))) (Fb Try.f102 0) (mkS 73 [(2, .one (.ptr 0 0)), (3, .one (.ptr 1 0)), (4, .one (.ptr 2 0)), (5, .one (.u8 (pwF n))), (6, .one (.i64 (n + 1:Nat)))]) [some (replicate 176 (U8 0)), some (Vd.map U8), some ((SE key (16 * n + 16)).map U8)] := by
 have z : Flat (replicate 176 (U8 0)) := by rw [Jd]; exact Aa _
 intro d
 induction d with
 | zero =>
  intro n hn
  have hn : n = 10 := by omega
  subst hn
  have e : SE key (16 * 10 + 16) = Zd key 176 := SE_end key
  have hl := Jc key 176
  refine vc102a hX _ _ _ _ _ ⟨fun h => absurd (of_decide_eq_true h) (by omega), fun _ => ?_⟩
  try dsimp only
  rw [e]
  simp only [Ja, tkm, tk0, Ua, Ae, layC, layM, Xd, tkn, List.drop_zero, Nat.zero_add, Nat.mul_one, Nat.reduceAdd, Nat.le_refl, Nat.min_self, Nat.reduceLeDiff, Cc, Int.toNat_natCast, List.length_map, List.length_append, List.length_replicate, List.length_take, List.length_drop, Ob, hl]
  (repeat' (first | exact trivial | exact Aa _ | exact Ya _ | exact Ba _ | exact Nat.le_refl _ | refine And.intro ?_ ?_)) <;> (first | omega | exact z | (unfold La; omega) | exact List.length_map _ | (show Is _ _ _; exact rfl) | skip)
 | succ d ih =>
  intro n hn
  have K := l102b0 hX key n (by omega) (ih (n + 1) (by omega))
  have hl := SE_len key (16 * (n + 1))
  have ei : ((n + 1:Nat):Int) - 1 = (n:Int) := by omega
  have e16 : 0 + Int.toNat (n:Int) * 16 = 16 * n := by omega
  have e17 : 0 + Int.toNat ((n + 1:Nat):Int) * 16 = 16 * (n + 1) := by omega
  have ec := SE_cut key (n := n) (by omega)
  have hr := rkF_len key (n := n) (by omega)
  refine vc102a hX _ _ _ _ _ ⟨fun _ => ?_, fun h => absurd (of_decide_eq_false h) (by omega)⟩
  try dsimp only
  rw [ei, e16, e17, show 16 * n + 16 = 16 * (n + 1) by omega]
  simp only [tkm, ec, Ae _ _ hr, List.length_map, hl, hr]
  (repeat' (first | exact trivial | exact Aa _ | exact Ya _ | exact Ba _ | exact Nat.le_refl _ | refine And.intro ?_ ?_)) <;> (first | omega | exact z | (unfold La; omega) | exact List.length_map _ | (show Is _ _ _; exact rfl) | skip)
  exact ⟨K⟩
theorem s102 (key : List (BitVec 8)) (hk : key.length = 16) : Spec Try.prog 102 [.agg (key.map U8)] [] (Is (.agg ((Zd key 176).map U8))) := by
 refine Spec.of_run ok102 fun X hX => vc102 hX _ ?_
 have K := l102a hX key 10 0 rfl
 have z : Flat (replicate 176 (U8 0)) := by rw [Jd]; exact Aa _
 have hk2 : key.take 16 = key := List.take_of_length_le (by omega)
 have e : Qa (replicate 176 (U8 0)) 0 (key.map U8) = (SE key (16 * 0 + 16)).map U8 := by
  have : 0 + (key.map U8).length ≤ (replicate 176 (U8 0)).length := by rw [List.length_map, List.length_replicate]; omega
  have ek : (Zd key 176).take 16 = key := by
   apply List.ext_getElem (by rw [List.length_take, Jc, hk]; omega)
   intro j h1 h2
   have := eat_lo key (j := j) (by omega)
   rw [← E_get key (by omega), List.getD_eq_getElem?_getD, List.getD_eq_getElem?_getD, List.getElem?_eq_getElem h2, List.getElem?_eq_getElem (by rw [Jc]; omega)] at this
   rw [List.getElem_take]
   exact this
  have es : SE key (16 * 0 + 16) = key ++ replicate (176 - 16) 0 := by
   unfold SE
   rw [show 16 * 0 + 16 = 16 by omega, ek, List.drop_replicate]
  rw [layS_eq this, layC, es, hk]
 simp only [Ja, tkm, tk0, List.drop_zero, hk2, Ae _ _ boxT_len, e]
 simp only [List.length_map, hk, boxT_len]
 (repeat' (first | exact trivial | exact Aa _ | exact Ya _ | exact Ba _ | exact Nat.le_refl _ | refine And.intro ?_ ?_)) <;> (first | omega | exact z | (unfold La; omega) | exact List.length_map _ | (show Is _ _ _; exact rfl) | skip)
 exact ⟨K⟩
def symK (t : TypeId) : Bool := match t with | 68 => true | 144 => true | t => symJ t
noncomputable def baseK (T : Tab) (mf : FuncId → Option MF) (M : Ad) : Env := ⟨tys, symK, false, T, [], mf, M, fun _ => none⟩
theorem baseK_ok (T : Tab) (mf : FuncId → Option MF) (M : Ad) : Eb Try.prog (baseK T mf M) := Eb.of tysOk
theorem baseK_call {T : Tab} {mf : FuncId → Option MF} {M : Ad} (hT : Oc Try.prog T) (hM : Xc Try.prog M) : Bc Try.prog (baseK T mf M) :=
 ⟨hT, fun f mf xs m0 cs r m1 _ h hc => hM f xs m0 cs r m1 h hc, (by intro f k h; cases h)⟩
noncomputable def T12 : Tab := fun f xs => match f, xs with
 | 54, [] => some ([], .agg (hide (Vd.map U8)))
 | 102, [.agg cs] => some ([Oa cs ∧ cs.length = 16], .agg (hide ((Zd (cs.map Ea) 176).map U8)))
 | f, xs => T11 f xs
theorem T12_ok : Oc Try.prog T12 := by
 intro f xs cs r h hc
 unfold T12 at h
 split at h
 ·obtain ⟨rfl, rfl⟩ := Prod.mk.inj (Option.some.inj h)
  rw [Ja]
  exact ⟨⟨_, _, ok54⟩, s54, Jb _ (fun _ => rfl) _⟩
 ·obtain ⟨rfl, rfl⟩ := Prod.mk.inj (Option.some.inj h)
  obtain ⟨h1, h2⟩ := hc.1
  rename_i cs
  have := s102 (cs.map Ea) (by rw [List.length_map]; exact h2)
  rw [← h1] at this
  rw [Ja]
  exact ⟨⟨_, _, ok102⟩, this, Jb _ (fun _ => rfl) _⟩
 ·exact T11_ok _ _ _ _ h hc
def WJB2 : WC := ⟨baseK T12 mf11 M11,baseK_ok T12 mf11 M11,baseK_call T12_ok M11_ok⟩
theorem vc104t {X} {Q : QT} (hX : PX X) (ks : List AC) (h : (fun D2 : List (BitVec 8)=>(fun D1 : List AC=>(fun D0 : List AC=>(true=true->177<=List.length (Bb true::ks)/\(List.length (take 176 (drop 1 (Bb true::ks)))=176/\176<=176)/\176<=List.length D1/\Za (AG (take 176 (drop 0 D1)))/\Q (AG (take 176 (drop 0 D1))) [])/\(true=false->Flat (replicate 16 (U8 0))/\(Oa (replicate 16 (U8 0))/\16=16)/\(List.length (hide (List.map U8 (Zd D2 176)))=176/\176<=176)/\176<=List.length D0/\Za (AG (take 176 (drop 0 D0)))/\Q (AG (take 176 (drop 0 D0))) [])) (Qa (replicate 176 (U8 0)) 0 (hide (List.map U8 (Zd D2 176))))) (Qa (replicate 176 (U8 0)) 0 (take 176 (drop 1 (Bb true::ks))))) (List.map Ea (replicate 16 (U8 0)))) : Ia X 104 0 Q ([.code (Na Try.f104)]) (slots [.agg (.b true::ks)] Try.f104.ntmps) [] :=
 wR' hX WJB2 ok104 [4] [] false (CS.mk [] [] [0] []) true [] 2000 h (by kernel_rfl)
theorem vc104f {X} {Q : QT} (hX : PX X) (ks : List AC) (h : (fun D2 : List (BitVec 8)=>(fun D1 : List AC=>(fun D0 : List AC=>(false=true->177<=List.length (Bb false::ks)/\(List.length (take 176 (drop 1 (Bb false::ks)))=176/\176<=176)/\176<=List.length D1/\Za (AG (take 176 (drop 0 D1)))/\Q (AG (take 176 (drop 0 D1))) [])/\(false=false->Flat (replicate 16 (U8 0))/\(Oa (replicate 16 (U8 0))/\16=16)/\(List.length (hide (List.map U8 (Zd D2 176)))=176/\176<=176)/\176<=List.length D0/\Za (AG (take 176 (drop 0 D0)))/\Q (AG (take 176 (drop 0 D0))) [])) (Qa (replicate 176 (U8 0)) 0 (hide (List.map U8 (Zd D2 176))))) (Qa (replicate 176 (U8 0)) 0 (take 176 (drop 1 (Bb false::ks))))) (List.map Ea (replicate 16 (U8 0)))) : Ia X 104 0 Q ([.code (Na Try.f104)]) (slots [.agg (.b false::ks)] Try.f104.ntmps) [] :=
 wR' hX WJB2 ok104 [4] [] false (CS.mk [] [] [0] []) true [] 2000 h (by kernel_rfl)
theorem vc44 {X} {Q : QT} (hX : PX X) (ks : List AC) (h : (fun D0 : List AC=>16<=List.length ks/\Flat (take 16 (drop 0 ks))/\(Oa (take 16 (drop 0 ks))/\List.length (take 16 (drop 0 ks))=16)/\(1=1/\1<=177)/\(List.length (hide (List.map U8 (Zd (List.map Ea (take 16 (drop 0 ks))) 176)))=176/\177<=177)/\(List.length D0=177/\177<=177)/\177<=List.length (Qa ([Bb false]++replicate 176 (U8 0)) 0 D0)/\Za (AG (take 177 (drop 0 (Qa ([Bb false]++replicate 176 (U8 0)) 0 D0))))/\Q (AG (take 177 (drop 0 (Qa ([Bb false]++replicate 176 (U8 0)) 0 D0)))) []) (lay (lay ([Bb false]++replicate 176 (U8 0)) 0 [Zc (Value.bool true)]) 1 (hide (List.map U8 (Zd (List.map Ea (take 16 (drop 0 ks))) 176))))) : Ia X 44 0 Q ([.code (Na Try.f44)]) (slots [.agg ks] Try.f44.ntmps) [] :=
 wR' hX WJB2 ok44 [] [] false (CS.mk [] [] [0] []) true [] 2000 h (by kernel_rfl)
theorem vc106 {X} {Q : QT} (hX : PX X) (bs : List AC) (h : Flat bs/\KR X 106 1 Q (Fb Try.f106 0) (mkS 55 [(0,O1 (PT 0 0)),(2,O1 (I64 (0:Int)))]) [some bs]) : Ia X 106 1 Q ([.code (Na Try.f106)]) (slots [.one (.ptr 0 0)] Try.f106.ntmps) [some bs] :=
 wR hX WJB2 ok106 [7,30] [(8,22)] [true] [(1,[0,2],[true]),(6,[0,2,3,4,29],[true,true])] h (by kernel_rfl)
theorem vc106a {X} {Q : QT} (hX : PX X) (bs : List AC) (c:Int) (h : (fun D0 : List AC=>(decide (c<(16:Int))=true->La (c+(4:Int))/\((0:Int)<=c/\c<=c+(4:Int)/\c+(4:Int)<=(↑16:Int))/\4<=Int.toNat (c+(4:Int)) - Int.toNat c/\0+Int.toNat c*1+4<=List.length bs/\(List.length (take 4 (drop (0+Int.toNat c*1) bs))=4/\4<=4)/\((0:Int)<=(0:Int)/\(0:Int)<(↑4:Int))/\gt AY D0 0=U8 (Ea (gt AY D0 0))/\((0:Int)<=(1:Int)/\(1:Int)<(↑4:Int))/\gt AY D0 1=U8 (Ea (gt AY D0 1))/\((0:Int)<=(2:Int)/\(2:Int)<(↑4:Int))/\gt AY D0 2=U8 (Ea (gt AY D0 2))/\((0:Int)<=(3:Int)/\(3:Int)<(↑4:Int))/\gt AY D0 3=U8 (Ea (gt AY D0 3))/\Flat bs/\Flat D0/\KR X 106 1 Q (Fb Try.f106 1) (mkS 55 [(0,O1 (PT 0 0)),(2,O1 (I64 c)),(3,O1 (PT 1 0)),(4,O1 (U8 (Ea (gt AY D0 0)^^^Ea (gt AY D0 1)^^^Ea (gt AY D0 2)^^^Ea (gt AY D0 3)))),(29,O1 (I64 (0:Int)))]) [some bs,some D0])/\(decide (c<(16:Int))=false->Flat bs/\Q (TU []) [some bs])) (Qa [U8 0,U8 0,U8 0,U8 0] 0 (take 4 (drop (0+Int.toNat c*1) bs)))) : Ia X 106 1 Q (Fb Try.f106 0) (mkS 55 [(0,.one (.ptr 0 0)),(2,.one (.i64 c))]) [some bs] :=
 wR hX WJB2 ok106 [7,30] [(8,22)] [true] [(1,[0,2],[true]),(6,[0,2,3,4,29],[true,true])] h (by kernel_rfl)
theorem vc106b {X} {Q : QT} (hX : PX X) (bs cs : List AC) (a:BitVec 8) (c r:Int) (h : (fun D2 : Nat=>(fun D1 : Nat=>(fun D0 : List AC=>(decide (r<(4:Int))=true->La (c+r)/\((0:Int)<=c+r/\c+r<(↑16:Int))/\gt AY bs D2=U8 (Ea (gt AY bs D2))/\((0:Int)<=r/\r<(↑4:Int))/\gt AY cs (0+Int.toNat r*1)=U8 (Ea (gt AY cs (0+Int.toNat r*1)))/\La (r+(1:Int))/\((0:Int)<=Mc BinOp.and (r+(1:Int)) (3:Int)/\Mc BinOp.and (r+(1:Int)) (3:Int)<(↑4:Int))/\gt AY cs D1=U8 (Ea (gt AY cs D1))/\((0:Int)<=c+r/\c+r<(↑16:Int))/\(1=1/\0+Int.toNat (c+r)*1+1<=List.length bs)/\La (r+(1:Int))/\Flat D0/\Flat cs/\KR X 106 1 Q (Fb Try.f106 1) (mkS 55 [(0,O1 (PT 0 0)),(2,O1 (I64 c)),(3,O1 (PT 1 0)),(4,O1 (U8 a)),(29,O1 (I64 (r+(1:Int))))]) [some D0,some cs])/\(decide (r<(4:Int))=false->La (c+(4:Int))/\Flat bs/\KR X 106 1 Q (Fb Try.f106 0) (mkS 55 [(0,O1 (PT 0 0)),(2,O1 (I64 (c+(4:Int))))]) [some bs])) (Qa bs D2 [U8 (Ea (gt AY bs D2)^^^(a^^^xt (Ea (gt AY cs (0+Int.toNat r*1))^^^Ea (gt AY cs D1))))])) (0+Int.toNat (Mc BinOp.and (r+(1:Int)) (3:Int))*1)) (0+Int.toNat (c+r)*1)) : Ia X 106 1 Q (Fb Try.f106 1) (mkS 55 [(0,.one (.ptr 0 0)),(2,.one (.i64 c)),(3,.one (.ptr 1 0)),(4,.one (.u8 a)),(29,.one (.i64 r))]) [some bs,some cs] :=
 wR hX WJB2 ok106 [7,30] [(8,22)] [true] [(1,[0,2],[true]),(6,[0,2,3,4,29],[true,true])] h (by kernel_rfl)
def kc (m : Bool) (ks : List (BitVec 8)) : List AC := .b m :: ks.map U8
def zkey : List (BitVec 8) := replicate 16 0
theorem s104t (ks : List (BitVec 8)) (hk : ks.length = 176) : Spec Try.prog 104 [.agg (kc true ks)] [] (Is (.agg (ks.map U8))) := by
 refine Spec.of_run ok104 fun X hX => vc104t hX _ ⟨fun _ => ?_, nofun⟩
 have e : take 176 (drop 1 (Bb true :: ks.map U8)) = ks.map U8 := by
  show take 176 (ks.map U8) = _
  rw [tk0, tkn _ _ (by omega)]
 have hl : (Bb true :: ks.map U8).length = 177 := by rw [List.length_cons, List.length_map, hk]
 rw [e, hl]
 simp only [Ja, tkm, tk0, Ua, Ae, layC, layM, Xd, tkn, List.drop_zero, Nat.zero_add, Nat.mul_one, Nat.reduceAdd, Nat.le_refl, Nat.min_self, Nat.reduceLeDiff, Cc, Int.toNat_natCast, List.length_map, List.length_append, List.length_replicate, List.length_take, List.length_drop, Ob, hk]
 (repeat' (first | exact trivial | exact Aa _ | exact Ya _ | exact Ba _ | exact Nat.le_refl _ | refine And.intro ?_ ?_)) <;> (first | omega | exact z | (unfold La; omega) | exact List.length_map _ | (show Is _ _ _; exact rfl) | skip)
theorem s104f (ks : List AC) : Spec Try.prog 104 [.agg (.b false :: ks)] [] (Is (.agg ((Zd zkey 176).map U8))) := by
 refine Spec.of_run ok104 fun X hX => vc104f hX _ ⟨nofun, fun _ => ?_⟩
 have e : List.map Ea (replicate 16 (U8 0)) = zkey := rfl
 have z : Flat (replicate 16 (U8 0)) := by rw [Jd]; exact Aa _
 have z8 : Oa (replicate 16 (U8 0)) := by rw [Jd]; exact Ba _
 have hl := Jc zkey 176
 rw [e]
 simp only [Ja, tkm, tk0, Ua, Ae, layC, layM, Xd, tkn, List.drop_zero, Nat.zero_add, Nat.mul_one, Nat.reduceAdd, Nat.le_refl, Nat.min_self, Nat.reduceLeDiff, Cc, Int.toNat_natCast, List.length_map, List.length_append, List.length_replicate, List.length_take, List.length_drop, Ob, hl]
 refine ⟨z, ⟨z8, trivial⟩, ?_⟩
 (repeat' (first | exact trivial | exact Aa _ | exact Ya _ | exact Ba _ | exact Nat.le_refl _ | refine And.intro ?_ ?_)) <;> (first | omega | exact z | (unfold La; omega) | exact List.length_map _ | (show Is _ _ _; exact rfl) | skip)
theorem s44 (key : List (BitVec 8)) (hk : key.length = 16) : Spec Try.prog 44 [.agg (key.map U8)] [] (Is (.agg (kc true (Zd key 176)))) := by
 refine Spec.of_run ok44 fun X hX => vc44 hX _ ?_
 have hk2 : key.take 16 = key := List.take_of_length_le (by omega)
 have hl := Jc key 176
 have e1 : lay ([Bb false] ++ replicate 176 (U8 0)) 0 [Zc (Value.bool true)] = Bb true :: replicate 176 (U8 0) := rfl
 have e2 : lay (Bb true :: replicate 176 (U8 0)) 1 ((Zd key 176).map U8) = kc true (Zd key 176) := by
  unfold lay kc
  rw [show (Bb true :: replicate 176 (U8 0)).take 1 = [Bb true] from rfl, show 1 + ((Zd key 176).map U8).length = 177 by rw [List.length_map, hl], List.drop_of_length_le (by rw [List.length_cons, List.length_replicate]; exact Nat.le_refl _), List.append_nil]
  rfl
 have hc : (kc true (Zd key 176)).length = 177 := by unfold kc; rw [List.length_cons, List.length_map, hl]
 have z : Flat (kc true (Zd key 176)) := fun c h => by
  unfold kc at h
  rcases List.mem_cons.1 h with rfl | h
  ·rfl
  ·exact Aa _ c h
 have e3 : Qa ([Bb false] ++ replicate 176 (U8 0)) 0 (kc true (Zd key 176)) = kc true (Zd key 176) := layS_all (by rw [hc]; rfl)
 have e4 : take 177 (drop 0 (kc true (Zd key 176))) = kc true (Zd key 176) := by rw [List.drop_zero, List.take_of_length_le (by rw [hc]; exact Nat.le_refl _)]
 simp only [Ja, tkm, tk0, List.drop_zero, hk2, Ua, e1, e2, e3]
 simp only [List.drop_zero] at e4
 simp only [e4, hc, List.length_map, hk, hl]
 (repeat' (first | exact trivial | exact Aa _ | exact Ba _ | exact z | exact Nat.le_refl _ | (show Is _ _ _; exact rfl) | refine And.intro ?_ ?_)) <;> omega
theorem mix_eq (p q r s:BitVec 8) : p ^^^ (p ^^^ q ^^^ r ^^^ s ^^^ xt (p ^^^ q)) = xt p ^^^ (xt q ^^^ q) ^^^ r ^^^ s := by
 rw [xt_xor]
 generalize xt p = P
 generalize xt q = Q
 ext i hi
 simp only [BitVec.getElem_xor]
 generalize p[i] = a
 generalize q[i] = b
 generalize r[i] = c
 generalize s[i] = d
 generalize P[i] = e
 generalize Q[i] = f
 revert a b c d e f
 decide
theorem mix_at (b : List (BitVec 8)) (q r:Nat) (hq : q < 4) (hr : r < 4) : b.getD (4 * q + r) 0 ^^^ (b.getD (4 * q) 0 ^^^ b.getD (4 * q + 1) 0 ^^^ b.getD (4 * q + 2) 0 ^^^ b.getD (4 * q + 3) 0 ^^^ xt (b.getD (4 * q + r) 0 ^^^ b.getD (4 * q + (r + 1) % 4) 0)) = (mixL b).getD (4 * q + r) 0 := by
 unfold mixL
 rw [Yc _ (by omega)]
 unfold col
 have h1 : (4 * q + r) / 4 * 4 = 4 * q := by omega
 have h2 : (4 * q + r) % 4 = r := by omega
 rw [h1, h2]
 have c : r = 0 ∨ r = 1 ∨ r = 2 ∨ r = 3 := by omega
 rcases c with rfl | rfl | rfl | rfl
 ·exact mix_eq _ _ _ _
 all_goals
  simp only [Nat.reduceAdd, Nat.reduceMod, Nat.add_zero]
  rw [← mix_eq]
  congr 2
  ac_rfl
def MB (b : List (BitVec 8)) (m:Nat) : List (BitVec 8) := (mixL b).take m ++ b.drop m
theorem mixL_len (b : List (BitVec 8)) : (mixL b).length = 16 := Ob _
theorem MB_len {b : List (BitVec 8)} (hb : b.length = 16) (m:Nat) : (MB b m).length = 16 := by
 unfold MB
 rw [lenT _ _ (by rw [mixL_len, hb]), hb]
theorem MB_cut {b : List (BitVec 8)} (hb : b.length = 16) {m : Nat} (hm : m ≤ 16) : ((MB b m).drop m).take 4 = (b.drop m).take 4 := by
 unfold MB
 have h1 : ((mixL b).take m).length = m := by rw [List.length_take, mixL_len]; omega
 have := List.drop_left (l₁ := (mixL b).take m) (l₂ := b.drop m)
 rw [h1] at this
 rw [this]
theorem four_at {b : List (BitVec 8)} {m k : Nat} (hk : k < 4) (hm : m + 4 ≤ b.length) : gt AY (((b.drop m).take 4).map U8) k = .u8 (b.getD (m + k) 0) := by
 rw [Cb _ _ (by rw [List.length_take, List.length_drop]; omega), List.getD_eq_getElem?_getD, List.getElem?_take_of_lt hk, List.getElem?_drop, List.getD_eq_getElem?_getD]
theorem l106b {X : Ctx} (hX : X.P = Try.prog) (b : List (BitVec 8)) (hb : b.length = 16) (q:Nat) (hq : q < 4)
  (K : Ia X 106 1 (Are (.Ec []) [some ((mixL b).map U8)]) (Fb Try.f106 0) (mkS 55 [(0, .one (.ptr 0 0)), (2, .one (.i64 (4 * (q + 1):Nat)))]) [some ((MB b (4 * (q + 1))).map U8)]) : ∀ (d r:Nat), r + d = 4 →
  Ia X 106 1 (Are (.Ec []) [some ((mixL b).map U8)]) (Fb Try.f106 1) (mkS 55 [(0, .one (.ptr 0 0)), (2, .one (.i64 (4 * q:Nat))), (3, .one (.ptr 1 0)), (4, .one (.u8 (b.getD (4 * q) 0 ^^^ b.getD (4 * q + 1) 0 ^^^ b.getD (4 * q + 2) 0 ^^^ b.getD (4 * q + 3) 0))), (29, .one (.i64 r))])
   [some ((MB b (4 * q + r)).map U8), some (((b.drop (4 * q)).take 4).map U8)] := by
 intro d
 induction d with
 | zero =>
  intro r hr
  have hr : r = 4 := by omega
  subst hr
  have e : ((4 * q:Nat):Int) + 4 = ((4 * (q + 1):Nat):Int) := by omega
  refine vc106b hX _ _ _ _ _ ⟨fun h => absurd (of_decide_eq_true h) (by omega), fun _ => ?_⟩
  try dsimp only
  rw [e]
  exact ⟨by unfold La; omega, Aa _, ⟨K⟩⟩
 | succ d ih =>
  intro r hr
  have ih := ih (r + 1) (by omega)
  have hl := MB_len hb (4 * q + r)
  have ecr : ((4 * q:Nat):Int) + (r:Int) = ((4 * q + r:Nat):Int) := by omega
  have er : Mc .and ((r:Int) + 1) 3 = (((r + 1) % 4:Nat):Int) := by rw [show (r:Int) + 1 = ((r + 1:Nat):Int) by omega, and3 _ (by omega)]
  have hg := Cb (MB b (4 * q + r)) (4 * q + r) (by omega)
  rw [show (MB b (4 * q + r)).getD (4 * q + r) 0 = b.getD (4 * q + r) 0 from getT_src _ _ _ (by rw [mixL_len]; omega) (Nat.le_refl _)] at hg
  have h1 := four_at (b := b) (m := 4 * q) (k := r) (by omega) (by omega)
  have h2 := four_at (b := b) (m := 4 * q) (k := (r + 1) % 4) (by omega) (by omega)
  have hs := setT (mixL b) b 0 (i := 4 * q + r) (by rw [mixL_len]; omega) (by rw [mixL_len, hb])
  rw [← mix_at b q r hq (by omega)] at hs
  have hs : (MB b (4 * q + r)).set (4 * q + r) (b.getD (4 * q + r) 0 ^^^ (b.getD (4 * q) 0 ^^^ b.getD (4 * q + 1) 0 ^^^ b.getD (4 * q + 2) 0 ^^^ b.getD (4 * q + 3) 0 ^^^ xt (b.getD (4 * q + r) 0 ^^^ b.getD (4 * q + (r + 1) % 4) 0))) = MB b (4 * q + (r + 1)) := hs
  refine vc106b hX _ _ _ _ _ ⟨fun _ => ?_, fun h => absurd (of_decide_eq_false h) (by omega)⟩
  try dsimp only
  rw [ecr, er]
  simp only [ixn, hg, h1, h2, Ea, Xd, hs, List.length_map, hl]
  (repeat' (first | exact trivial | exact Aa _ | exact Ya _ | exact Ba _ | exact Nat.le_refl _ | refine And.intro ?_ ?_)) <;> (first | omega | exact z | (unfold La; omega) | exact List.length_map _ | (show Is _ _ _; exact rfl) | skip)
  exact ⟨ih⟩
theorem l106a {X : Ctx} (hX : X.P = Try.prog) (b : List (BitVec 8)) (hb : b.length = 16) : ∀ (d q:Nat), q + d = 4 →
  Ia X 106 1 (Are (.Ec []) [some ((mixL b).map U8)]) (Fb Try.f106 0) (mkS 55 [(0, .one (.ptr 0 0)), (2, .one (.i64 (4 * q:Nat)))]) [some ((MB b (4 * q)).map U8)] := by
 intro d
 induction d with
 | zero =>
  intro q hq
  have hq : q = 4 := by omega
  subst hq
  have e : MB b (4 * 4) = mixL b := by
   have := endT (mixL b) b (by rw [mixL_len, hb])
   rw [mixL_len] at this
   exact this
  refine vc106a hX _ _ ⟨fun h => absurd (of_decide_eq_true h) (by omega), fun _ => ?_⟩
  try dsimp only
  rw [e]
  exact ⟨Aa _, rfl, rfl⟩
 | succ d ih =>
  intro q hq
  have K := l106b hX b hb q (by omega) (ih (q + 1) (by omega)) 4 0 rfl
  have ec := MB_cut hb (m := 4 * q) (by omega)
  have hl := MB_len hb (4 * q)
  have h4 : ((b.drop (4 * q)).take 4).length = 4 := by rw [List.length_take, List.length_drop]; omega
  have g0 := four_at (b := b) (m := 4 * q) (k := 0) (by omega) (by omega)
  have g1 := four_at (b := b) (m := 4 * q) (k := 1) (by omega) (by omega)
  have g2 := four_at (b := b) (m := 4 * q) (k := 2) (by omega) (by omega)
  have g3 := four_at (b := b) (m := 4 * q) (k := 3) (by omega) (by omega)
  have r4 : [U8 0, U8 0, U8 0, U8 0] = replicate 4 (U8 0) := rfl
  refine vc106a hX _ _ ⟨fun _ => ?_, fun h => absurd (of_decide_eq_false h) (by omega)⟩
  simp only [ixn, tkm, ec, r4, Ae _ _ h4, g0, g1, g2, g3, Ea, List.length_map, hl, h4, Nat.add_zero]
  (repeat' (first | exact trivial | exact Aa _ | exact Ya _ | exact Ba _ | exact Nat.le_refl _ | refine And.intro ?_ ?_)) <;> (first | omega | exact z | (unfold La; omega) | exact List.length_map _ | (show Is _ _ _; exact rfl) | skip)
  exact ⟨K⟩
theorem s106 (b : List (BitVec 8)) (hb : b.length = 16) : Spec Try.prog 106 [.one (.ptr 0 0)] [some (b.map U8)] (Are (.Ec []) [some ((mixL b).map U8)]) := by
 refine Spec.of_run ok106 fun X hX => vc106 hX _ ?_
 have K := l106a hX b hb 4 0 rfl
 rw [show MB b (4 * 0) = b from begT _ _] at K
 exact ⟨Aa _, ⟨K⟩⟩
noncomputable def T13 : Tab := fun f xs => match f, xs with
 | 44, [.agg cs] => some ([Oa cs ∧ cs.length = 16], .agg (.b true :: hide ((Zd (cs.map Ea) 176).map U8)))
 | 104, [.agg (.b true :: cs)] => some ([Oa cs ∧ cs.length = 176], .agg (hide ((cs.map Ea).map U8)))
 | 104, [.agg (.b false :: _)] => some ([], .agg (hide ((Zd zkey 176).map U8)))
 | f, xs => T12 f xs
theorem T13_ok : Oc Try.prog T13 := by
 intro f xs cs r h hc
 unfold T13 at h
 split at h
 ·obtain ⟨rfl, rfl⟩ := Prod.mk.inj (Option.some.inj h)
  obtain ⟨h1, h2⟩ := hc.1
  rename_i cs
  have := s44 (cs.map Ea) (by rw [List.length_map]; exact h2)
  rw [← h1] at this
  rw [Ja]
  refine ⟨⟨_, _, ok44⟩, this, fun c h => ?_⟩
  rcases List.mem_cons.1 h with rfl | h
  ·rfl
  ·exact Jb U8 (fun _ => rfl) _ c h
 ·obtain ⟨rfl, rfl⟩ := Prod.mk.inj (Option.some.inj h)
  obtain ⟨h1, h2⟩ := hc.1
  rename_i cs
  have := s104t (cs.map Ea) (by rw [List.length_map]; exact h2)
  unfold kc at this
  rw [← h1] at this
  rw [Ja, ← h1]
  refine ⟨⟨_, _, ok104⟩, this, ?_⟩
  rw [h1]
  exact Jb _ (fun _ => rfl) _
 ·obtain ⟨rfl, rfl⟩ := Prod.mk.inj (Option.some.inj h)
  rw [Ja]
  exact ⟨⟨_, _, ok104⟩, s104f _, Jb _ (fun _ => rfl) _⟩
 ·exact T12_ok _ _ _ _ h hc
noncomputable def M13 : Ad := fun f xs m => match f, xs, m with
 | 106, [.one (.ptr 0 0)], [some bs] => some ([Oa bs ∧ bs.length = 16], .Ec [], [some (hide ((mixL (bs.map Ea)).map U8))])
 | 107, [.one (.ptr 0 0), .agg bs], [some as'] => some ([Oa as' ∧ as'.length = 16 ∧ Oa bs ∧ bs.length = 16], .Ec [], [some (hide ((Yb (as'.map Ea) (bs.map Ea)).map U8))])
 | _, _, _ => none
noncomputable def mf13 : FuncId → Option MF := fun f => match f with
 | 106 => some { cs := { kinds := [], fl := [true] }, flo := [true] }
 | 107 => some { cs := { kinds := [], fl := [true], fv := [1] }, flo := [true] }
 | _ => none
theorem M13_ok : Xc Try.prog M13 := by
 intro f xs m cs r m1 h hc
 unfold M13 at h
 split at h
 ·simp only [Option.some.injEq, Prod.mk.injEq] at h
  obtain ⟨rfl, rfl, rfl⟩ := h
  obtain ⟨h1, h2⟩ := hc.1
  rename_i bs
  have := s106 (bs.map Ea) (by rw [List.length_map]; exact h2)
  rw [← h1] at this
  rw [Ja]
  exact ⟨⟨_, _, ok106⟩, this⟩
 ·simp only [Option.some.injEq, Prod.mk.injEq] at h
  obtain ⟨rfl, rfl, rfl⟩ := h
  obtain ⟨h1, h2, h3, h4⟩ := hc.1
  rename_i bs as'
  have := s107 (as'.map Ea) (bs.map Ea) (by rw [List.length_map]; exact h2) (by rw [List.length_map]; exact h4)
  rw [← h1, ← h3] at this
  rw [Ja]
  exact ⟨⟨_, _, ok107⟩, this⟩
 ·cases h
def WJB3 : WC := ⟨baseK T13 mf13 M13,baseK_ok T13 mf13 M13,baseK_call T13_ok M13_ok⟩
theorem vc45t {X} {Q : QT} (hX : PX X) (ks bs : List AC) (h : (fun D0 : List AC=>(List.length (hide (List.map U8 Vd))=256/\256<=256)/\177<=List.length (Bb true::ks)/\Flat (take 177 (drop 0 (Bb true::ks)))/\(Oa (take 176 ks)/\List.length (take 176 ks)=176)/\Za (AG (hide (List.map U8 (List.map Ea (take 176 ks)))))/\Flat bs/\Flat (replicate 16 (U8 0))/\Flat D0/\KR X 45 0 Q (Fb Try.f45 0) (mkS 30 [(3,O1 (PT 0 0)),(4,O1 (PT 1 0)),(5,O1 (PT 2 0)),(10,AG (hide (List.map U8 (List.map Ea (take 176 ks))))),(11,O1 (I64 (0:Int)))]) [some bs,some (replicate 16 (U8 0)),some D0]) (Qa (replicate 256 (U8 0)) 0 (hide (List.map U8 Vd)))) : Ia X 45 0 Q ([.code (Na Try.f45)]) (slots [.agg (.b true::ks),.agg bs] Try.f45.ntmps) [] :=
 wR' hX WJB3 ok45 [12,16,20,23] [] false (CS.mk [] [] [0] []) true [(3,LS.mk [3,4,5,10,11] (CS.mk [] [true,true,true] [10] []))] 2000 h (by kernel_rfl)
theorem vc45f {X} {Q : QT} (hX : PX X) (ks bs : List AC) (h : (fun D0 : List AC=>(List.length (hide (List.map U8 Vd))=256/\256<=256)/\177<=List.length (Bb false::ks)/\Flat (take 177 (drop 0 (Bb false::ks)))/\Za (AG (hide (List.map U8 (Zd zkey 176))))/\Flat bs/\Flat (replicate 16 (U8 0))/\Flat D0/\KR X 45 0 Q (Fb Try.f45 0) (mkS 30 [(3,O1 (PT 0 0)),(4,O1 (PT 1 0)),(5,O1 (PT 2 0)),(10,AG (hide (List.map U8 (Zd zkey 176)))),(11,O1 (I64 (0:Int)))]) [some bs,some (replicate 16 (U8 0)),some D0]) (Qa (replicate 256 (U8 0)) 0 (hide (List.map U8 Vd)))) : Ia X 45 0 Q ([.code (Na Try.f45)]) (slots [.agg (.b false::ks),.agg bs] Try.f45.ntmps) [] :=
 wR' hX WJB3 ok45 [12,16,20,23] [] false (CS.mk [] [] [0] []) true [(3,LS.mk [3,4,5,10,11] (CS.mk [] [true,true,true] [10] []))] 2000 h (by kernel_rfl)
theorem vc45a {X} {Q : QT} (hX : PX X) (zs bs xs ks : List AC) (i:Int) (h : (fun D4 : List (BitVec 8)=>(fun D3 : List AC=>(fun D2 : List (BitVec 8)=>(fun D1 : List AC=>(fun D0 : List AC=>(fun L0 : Prop=>(fun L1 : Prop=>(fun L2 : Prop=>(decide (i<(11:Int))=true->((0:Int)<=i/\i<(↑11:Int))/\Int.toNat i*16+16<=List.length ks/\(List.length (take 16 (drop (Int.toNat i*16) ks))=16/\16<=16)/\(decide ((0:Int)<i)=true->16<=List.length bs/\Flat (take 16 (drop 0 bs))/\1<=List.length xs/\Flat xs/\(Oa (take 16 (drop 0 bs))/\List.length (take 16 (drop 0 bs))=16/\xs=List.map U8 Vd)/\(List.length (hide (List.map U8 D4))=16/\16<=List.length bs)/\(decide ((0:Int)<i)=true->(decide (i<(10:Int))=true->(Oa D1/\List.length D1=16)/\Flat D1/\Flat (hide (List.map U8 (mixL (List.map Ea D1))))/\16<=List.length D0/\(Oa (hide (List.map U8 (mixL (List.map Ea D1))))/\List.length (hide (List.map U8 (mixL (List.map Ea D1))))=16/\L2)/\Za (AG (take 16 (drop 0 D0)))/\Flat (hide (List.map U8 (mixL (List.map Ea D1))))/\Flat (hide (List.map U8 (Yb (List.map Ea (hide (List.map U8 (mixL (List.map Ea D1))))) (List.map Ea (take 16 (drop 0 D0))))))/\La (i+(1:Int))/\Za (AG ks)/\Flat (hide (List.map U8 (Yb (List.map Ea (hide (List.map U8 (mixL (List.map Ea D1))))) (List.map Ea (take 16 (drop 0 D0))))))/\Flat zs/\Flat xs/\KR X 45 0 Q (Fb Try.f45 0) (mkS 30 [(3,O1 (PT 0 0)),(4,O1 (PT 1 0)),(5,O1 (PT 2 0)),(10,AG ks),(11,O1 (I64 (i+(1:Int))))]) [some (hide (List.map U8 (Yb (List.map Ea (hide (List.map U8 (mixL (List.map Ea D1))))) (List.map Ea (take 16 (drop 0 D0)))))),some zs,some xs])/\(decide (i<(10:Int))=false->L0))/\(decide ((0:Int)<i)=false->L0))/\(decide ((0:Int)<i)=false->(decide ((0:Int)<i)=true->(decide (i<(10:Int))=true->(Oa bs/\List.length bs=16)/\Flat bs/\Flat (hide (List.map U8 (mixL D2)))/\16<=List.length D0/\(Oa (hide (List.map U8 (mixL D2)))/\List.length (hide (List.map U8 (mixL D2)))=16/\L2)/\Za (AG (take 16 (drop 0 D0)))/\Flat (hide (List.map U8 (mixL D2)))/\Flat (hide (List.map U8 (Yb (List.map Ea (hide (List.map U8 (mixL D2)))) (List.map Ea (take 16 (drop 0 D0))))))/\La (i+(1:Int))/\Za (AG ks)/\Flat (hide (List.map U8 (Yb (List.map Ea (hide (List.map U8 (mixL D2)))) (List.map Ea (take 16 (drop 0 D0))))))/\Flat zs/\Flat xs/\KR X 45 0 Q (Fb Try.f45 0) (mkS 30 [(3,O1 (PT 0 0)),(4,O1 (PT 1 0)),(5,O1 (PT 2 0)),(10,AG ks),(11,O1 (I64 (i+(1:Int))))]) [some (hide (List.map U8 (Yb (List.map Ea (hide (List.map U8 (mixL D2)))) (List.map Ea (take 16 (drop 0 D0)))))),some zs,some xs])/\(decide (i<(10:Int))=false->L1))/\(decide ((0:Int)<i)=false->L1)))/\(decide (i<(11:Int))=false->16<=List.length bs/\(List.length (take 16 (drop 0 bs))=16/\16<=List.length zs)/\16<=List.length D3/\Za (AG (take 16 (drop 0 D3)))/\Q (AG (take 16 (drop 0 D3))) [])) (Oa (take 16 (drop 0 D0))/\List.length (take 16 (drop 0 D0))=16)) (16<=List.length D0/\(Oa bs/\List.length bs=16/\Oa (take 16 (drop 0 D0))/\List.length (take 16 (drop 0 D0))=16)/\Za (AG (take 16 (drop 0 D0)))/\Flat bs/\Flat (hide (List.map U8 (Yb D2 (List.map Ea (take 16 (drop 0 D0))))))/\La (i+(1:Int))/\Za (AG ks)/\Flat (hide (List.map U8 (Yb D2 (List.map Ea (take 16 (drop 0 D0))))))/\Flat zs/\Flat xs/\KR X 45 0 Q (Fb Try.f45 0) (mkS 30 [(3,O1 (PT 0 0)),(4,O1 (PT 1 0)),(5,O1 (PT 2 0)),(10,AG ks),(11,O1 (I64 (i+(1:Int))))]) [some (hide (List.map U8 (Yb D2 (List.map Ea (take 16 (drop 0 D0)))))),some zs,some xs])) (16<=List.length D0/\(Oa D1/\List.length D1=16/\Oa (take 16 (drop 0 D0))/\List.length (take 16 (drop 0 D0))=16)/\Za (AG (take 16 (drop 0 D0)))/\Flat D1/\Flat (hide (List.map U8 (Yb (List.map Ea D1) (List.map Ea (take 16 (drop 0 D0))))))/\La (i+(1:Int))/\Za (AG ks)/\Flat (hide (List.map U8 (Yb (List.map Ea D1) (List.map Ea (take 16 (drop 0 D0))))))/\Flat zs/\Flat xs/\KR X 45 0 Q (Fb Try.f45 0) (mkS 30 [(3,O1 (PT 0 0)),(4,O1 (PT 1 0)),(5,O1 (PT 2 0)),(10,AG ks),(11,O1 (I64 (i+(1:Int))))]) [some (hide (List.map U8 (Yb (List.map Ea D1) (List.map Ea (take 16 (drop 0 D0)))))),some zs,some xs])) (Qa (replicate 16 (U8 0)) 0 (take 16 (drop (Int.toNat i*16) ks)))) (Qa bs 0 (hide (List.map U8 D4)))) (List.map Ea bs)) (Qa zs 0 (take 16 (drop 0 bs)))) (shL (List.map Ea (take 16 (drop 0 bs))))) : Ia X 45 0 Q (Fb Try.f45 0) (mkS 30 [(3,.one (.ptr 0 0)),(4,.one (.ptr 1 0)),(5,.one (.ptr 2 0)),(10,.agg ks),(11,.one (.i64 i))]) [some bs,some zs,some xs] :=
 wR' hX WJB3 ok45 [12,16,20,23] [] false (CS.mk [] [] [0] []) true [(3,LS.mk [3,4,5,10,11] (CS.mk [] [true,true,true] [10] []))] 2000 h (by kernel_rfl)
theorem xorL_len (a b : List (BitVec 8)) : (Yb a b).length = 16 := Ob _
theorem shL_len (b : List (BitVec 8)) : (shL b).length = 16 := Ob _
theorem encN_len (key b : List (BitVec 8)) : ∀ n, (encN key b n).length = 16
 | 0 => xorL_len _ _
 | _ + 1 => xorL_len _ _
theorem rk_eq (key : List (BitVec 8)) (n:Nat) : ((Zd key 176).drop (n * 16)).take 16 = rkF key n := by unfold rkF; rw [Nat.mul_comm]
def encP' (key b : List (BitVec 8)) : Nat → List (BitVec 8)
 | 0 => b
 | n + 1 => encN key b n
theorem l45 {X : Ctx} (hX : X.P = Try.prog) (key b : List (BitVec 8)) (hb : b.length = 16) : ∀ (d i:Nat), i + d = 11 →
  Ia X 45 0 (Is (.agg ((Yd key b).map U8))) (Fb Try.f45 0) (mkS 30 [(3, .one (.ptr 0 0)), (4, .one (.ptr 1 0)), (5, .one (.ptr 2 0)), (10, .agg ((Zd key 176).map U8)), (11, .one (.i64 i))]) [some ((encP' key b i).map U8), some (replicate 16 (U8 0)), some (Vd.map U8)] := by
 have z : Flat (replicate 16 (U8 0)) := by rw [Jd]; exact Aa _
 have hE := Jc key 176
 intro d
 induction d with
 | zero =>
  intro i hi
  have hi : i = 11 := by omega
  subst hi
  have e : encP' key b 11 = Yd key b := rfl
  have hl : (Yd key b).length = 16 := encN_len _ _ _
  refine vc45a hX _ _ _ _ _ ⟨fun h => absurd (of_decide_eq_true h) (by omega), fun _ => ?_⟩
  try dsimp only
  rw [e]
  simp only [Ja, tkm, tk0, Ua, Ae, layC, layM, Xd, tkn, List.drop_zero, Nat.zero_add, Nat.mul_one, Nat.reduceAdd, Nat.le_refl, Nat.min_self, Nat.reduceLeDiff, Cc, Int.toNat_natCast, List.length_map, List.length_append, List.length_replicate, List.length_take, List.length_drop, Ob, hl]
  (repeat' (first | exact trivial | exact Aa _ | exact Ya _ | exact Ba _ | exact Nat.le_refl _ | refine And.intro ?_ ?_)) <;> (first | omega | exact z | (unfold La; omega) | exact List.length_map _ | (show Is _ _ _; exact rfl) | skip)
 | succ d ih =>
  intro i hi
  have ih := ih (i + 1) (by omega)
  have hr := rkF_len key (n := i) (by omega)
  have hB := boxT_len
  refine vc45a hX _ _ _ _ _ ⟨fun _ => ?_, fun h => absurd (of_decide_eq_false h) (by omega)⟩
  rcases Nat.eq_zero_or_pos i with h0 | h0
  ·subst h0
   have d0 : decide ((0:Int) < ((0:Nat):Int)) = false := rfl
   have e0 : encP' key b 0 = b := rfl
   have e1 : encP' key b (0 + 1) = Yb b (rkF key 0) := rfl
   rw [e1] at ih
   have eb : b.take 16 = b := List.take_of_length_le (by omega)
   have e16 : (Zd key 176).take 16 = rkF key 0 := by unfold rkF; rw [Nat.mul_zero, List.drop_zero]
   have er : (rkF key 0).take 16 = rkF key 0 := List.take_of_length_le (by omega)
   simp only [d0, e0, decide_true, true_implies, forall_const, Bool.true_eq_false, Bool.false_eq_true, false_implies, and_true, true_and]
   simp only [Ja, tkm, tk0, Ua, Ae, layC, layM, Xd, tkn, List.drop_zero, Nat.zero_add, Nat.mul_one, Nat.reduceAdd, Nat.le_refl, Nat.min_self, Nat.reduceLeDiff, Cc, Int.toNat_natCast, rk_eq, List.length_map, List.length_append, List.length_replicate, List.length_take, List.length_drop, Ob, hE, hb, eb, hr, er, hB, xorL_len, shL_len, mixL_len, Int.toNat_zero, Nat.zero_mul, e16]
   clear hE hB hr er eb e0 e1 e16
   (repeat' (first | exact trivial | exact Aa _ | exact Ya _ | exact Ba _ | exact Nat.le_refl _ | refine And.intro ?_ ?_)) <;> (first | omega | exact z | (unfold La; omega) | exact List.length_map _ | (show Is _ _ _; exact rfl) | skip)
   exact ⟨ih⟩
  ·have d0 : decide ((0:Int) < (i:Int)) = true := decide_eq_true (by omega)
   obtain ⟨n, rfl⟩ : ∃ n, i = n + 1 := ⟨i - 1, by omega⟩
   have e0 : encP' key b (n + 1) = encN key b n := rfl
   have e1 : encP' key b (n + 1 + 1) = Yb (if n + 1 < 10 then mixL (shL (encN key b n)) else shL (encN key b n)) (rkF key (n + 1)) := rfl
   rw [e1] at ih
   have hn := encN_len key b n
   have eb : (encN key b n).take 16 = encN key b n := List.take_of_length_le (by omega)
   have er : (rkF key (n + 1)).take 16 = rkF key (n + 1) := List.take_of_length_le (by omega)
   have hk : (n + 1) * 16 + 16 ≤ 176 := by omega
   by_cases h10 : n + 1 < 10
   ·have d1 : decide (((n + 1:Nat):Int) < 10) = true := decide_eq_true (by omega)
    rw [if_pos h10] at ih
    simp only [d0, d1, e0, decide_true, true_implies, forall_const, Bool.true_eq_false, Bool.false_eq_true, false_implies, and_true, true_and]
    simp only [Ja, tkm, tk0, Ua, Ae, layC, layM, Xd, tkn, List.drop_zero, Nat.zero_add, Nat.mul_one, Nat.reduceAdd, Nat.le_refl, Nat.min_self, Nat.reduceLeDiff, Cc, Int.toNat_natCast, rk_eq, List.length_map, List.length_append, List.length_replicate, List.length_take, List.length_drop, Ob, hE, hn, eb, hr, er, hB, xorL_len, shL_len, mixL_len]
    clear hE hB hr er eb hn
    (repeat' (first | exact trivial | exact Aa _ | exact Ya _ | exact Ba _ | exact Nat.le_refl _ | refine And.intro ?_ ?_)) <;> (first | omega | exact z | (unfold La; omega) | exact List.length_map _ | (show Is _ _ _; exact rfl) | skip)
    exact ⟨ih⟩
   ·have d1 : decide (((n + 1:Nat):Int) < 10) = false := decide_eq_false (by omega)
    rw [if_neg h10] at ih
    simp only [d0, d1, e0, decide_true, true_implies, forall_const, Bool.true_eq_false, Bool.false_eq_true, false_implies, and_true, true_and]
    simp only [Ja, tkm, tk0, Ua, Ae, layC, layM, Xd, tkn, List.drop_zero, Nat.zero_add, Nat.mul_one, Nat.reduceAdd, Nat.le_refl, Nat.min_self, Nat.reduceLeDiff, Cc, Int.toNat_natCast, rk_eq, List.length_map, List.length_append, List.length_replicate, List.length_take, List.length_drop, Ob, hE, hn, eb, hr, er, hB, xorL_len, shL_len, mixL_len]
    clear hE hB hr er eb hn
    (repeat' (first | exact trivial | exact Aa _ | exact Ya _ | exact Ba _ | exact Nat.le_refl _ | refine And.intro ?_ ?_)) <;> (first | omega | exact z | (unfold La; omega) | exact List.length_map _ | (show Is _ _ _; exact rfl) | skip)
    exact ⟨ih⟩
theorem s45t (key b : List (BitVec 8)) (hb : b.length = 16) : Spec Try.prog 45 [.agg (kc true (Zd key 176)), .agg (b.map U8)] [] (Is (.agg ((Yd key b).map U8))) := by
 refine Spec.of_run ok45 fun X hX => vc45t hX _ _ ?_
 have K := l45 hX key b hb 11 0 rfl
 have e0 : encP' key b 0 = b := rfl
 rw [e0] at K
 have hE := Jc key 176
 have hB := boxT_len
 have z : Flat (replicate 16 (U8 0)) := by rw [Jd]; exact Aa _
 have hl : (Bb true :: (Zd key 176).map U8).length = 177 := by rw [List.length_cons, List.length_map, hE]
 have zk : Flat (take 177 (drop 0 (Bb true :: (Zd key 176).map U8))) := fun c h => by
  have h := List.mem_of_mem_drop (List.mem_of_mem_take h)
  rcases List.mem_cons.1 h with rfl | h
  ·rfl
  ·exact Aa _ c h
 have ek : (Zd key 176).take 176 = Zd key 176 := List.take_of_length_le (by omega)
 have el : Qa (replicate 256 (U8 0)) 0 (Vd.map U8) = Vd.map U8 := Ae _ _ hB
 refine ⟨?_, ?_, zk, ?_⟩
 ·rw [Ja, List.length_map, hB]; exact ⟨rfl, Nat.le_refl _⟩
 ·rw [hl]; exact Nat.le_refl _
 ·simp only [Ja, tk0, ek, Ua, el, List.length_map, hE]
  exact ⟨⟨Ba _, trivial⟩, Ya _, Aa _, z, Aa _, ⟨K⟩⟩
theorem s45f (ks : List (BitVec 8)) (hk : ks.length = 176) (b : List (BitVec 8)) (hb : b.length = 16) : Spec Try.prog 45 [.agg (kc false ks), .agg (b.map U8)] [] (Is (.agg ((Yd zkey b).map U8))) := by
 refine Spec.of_run ok45 fun X hX => vc45f hX _ _ ?_
 have K := l45 hX zkey b hb 11 0 rfl
 have e0 : encP' zkey b 0 = b := rfl
 rw [e0] at K
 have hB := boxT_len
 have z : Flat (replicate 16 (U8 0)) := by rw [Jd]; exact Aa _
 have hl : (Bb false :: ks.map U8).length = 177 := by rw [List.length_cons, List.length_map, hk]
 have zk : Flat (take 177 (drop 0 (Bb false :: ks.map U8))) := fun c h => by
  have h := List.mem_of_mem_drop (List.mem_of_mem_take h)
  rcases List.mem_cons.1 h with rfl | h
  ·rfl
  ·exact Aa _ c h
 have el : Qa (replicate 256 (U8 0)) 0 (Vd.map U8) = Vd.map U8 := Ae _ _ hB
 refine ⟨?_, ?_, zk, ?_⟩
 ·rw [Ja, List.length_map, hB]; exact ⟨rfl, Nat.le_refl _⟩
 ·rw [hl]; exact Nat.le_refl _
 ·simp only [Ja, el]
  exact ⟨Ya _, Aa _, z, Aa _, ⟨K⟩⟩
end DH
