/- Walks of functions, each by evaluation: what each returns; with the layer beneath. -/
import Derived.Test.YtdnggeocdocomaaHB
import Derived.Test.YtdnggeocdocomaaU1
set_option linter.unusedVariables false
set_option linter.unusedSimpArgs false
noncomputable section
namespace DH
set_option maxRecDepth 100000
open List (take drop replicate)
open AC renaming u8 → U8, u16 → Va, u32 → Fa, u64 → Nc, i64 → I64, b → Bb, xs → XS, gs → GS, sv → SV, ptr → PT, any → AY, ns → NS
open AV renaming one → O1, agg → AG, Ec → TU
open Go Go.Proofs
theorem ok56 : Ac Try.prog 56 Try.f56 (Na Try.f56) := .of Try.func56 (by kernel_rfl) (by kernel_rfl)
theorem ok58 : Ac Try.prog 58 Try.f58 (Na Try.f58) := .of Try.func58 (by kernel_rfl) (by kernel_rfl)
theorem ok59 : Ac Try.prog 59 Try.f59 (Na Try.f59) := .of Try.func59 (by kernel_rfl) (by kernel_rfl)
theorem ok60 : Ac Try.prog 60 Try.f60 (Na Try.f60) := .of Try.func60 (by kernel_rfl) (by kernel_rfl)
theorem ok61 : Ac Try.prog 61 Try.f61 (Na Try.f61) := .of Try.func61 (by kernel_rfl) (by kernel_rfl)
theorem ok63 : Ac Try.prog 63 Try.f63 (Na Try.f63) := .of Try.func63 (by kernel_rfl) (by kernel_rfl)
theorem ok111 : Ac Try.prog 111 Try.f111 (Na Try.f111) := .of Try.func111 (by kernel_rfl) (by kernel_rfl)
theorem ok112 : Ac Try.prog 112 Try.f112 (Na Try.f112) := .of Try.func112 (by kernel_rfl) (by kernel_rfl)
def blkK (key : List (BitVec 8)) : List (BitVec 8) := if 64 < key.length then ofF key ++ replicate 44 0 else key ++ replicate (64 - key.length) 0
def trn (key : List (BitVec 8)) (x:BitVec 8) : List (BitVec 8) := (blkK key).map (· ^^^ x)
def hmF (key msg : List (BitVec 8)) : List (BitVec 8) := ofF (trn key 92 ++ ofF (trn key 54 ++ msg))
theorem ofF_len' (m : List (BitVec 8)) : (ofF m).length = 20 := Nat.le_antisymm (Nat.le_refl _) (Nat.le_refl _)
theorem digF_len' (s : Sm) : (digF s).length = 20 := Nat.le_antisymm (Nat.le_refl _) (Nat.le_refl _)
theorem blkK_len (key : List (BitVec 8)) : (blkK key).length = 64 := by
 unfold blkK
 split
 ·rw [List.length_append, ofF_len', List.length_replicate]
 ·rw [List.length_append, List.length_replicate]; omega
theorem trn_len (key : List (BitVec 8)) (x:BitVec 8) : (trn key x).length = 64 := by unfold trn; rw [List.length_map, blkK_len]
theorem hmF_len (key msg : List (BitVec 8)) : (hmF key msg).length = 20 := Nat.le_antisymm (Nat.le_refl _) (Nat.le_refl _)
theorem e1 (x : List (BitVec 8)) : [x].foldl Lc nwS = Lc nwS x := rfl
theorem p1 (x : List (BitVec 8)) : List.map encP [x] = [XS (x.map U8) 0 x.length] := rfl
theorem nwS_left' : nwS.left.length = 64 := Nat.le_antisymm (Nat.le_refl _) (Nat.le_refl _)
def WIA0 : WC := ⟨envG T7 mf0 M0,envG_ok T7 mf0 M0,envG_call T7_ok M0_ok⟩
theorem vc58 {X} {Q : QT} (hX : PX X) (row : List AC) (n:Nat) (h : (fun D2 : List (BitVec 8)=>(fun D1 : List AC=>(fun D0 : List AC=>(decide ((64:Int)<(↑n:Int))=true->1<=1/\0+n*1<=List.length row/\([XS (take (n*1) (drop 0 row)) 0 n]=List.map encP (List.map asP [XS (take (n*1) (drop 0 row)) 0 n])/\1=1/\1<=1000000)/\(List.length (hide (List.map U8 D2))=20/\20<=20)/\((0:Int)<=(↑0:Int)/\(↑0:Int)<=(↑20:Int)/\(↑20:Int)<=(↑20:Int))/\((0:Int)<=(↑0:Int)/\(↑0:Int)<=(↑64:Int)/\(↑64:Int)<=(↑64:Int))/\20<=List.length (Qa (replicate 20 (U8 0)) 0 (hide (List.map U8 D2)))/\64<=64/\64<=List.length D0/\(List.length (take 64 (drop 0 D0))=64/\64<=64)/\64<=List.length (Qa (replicate 64 (U8 0)) 0 (take 64 (drop 0 D0)))/\Za (AG (take 64 (drop 0 (Qa (replicate 64 (U8 0)) 0 (take 64 (drop 0 D0))))))/\Q (AG (take 64 (drop 0 (Qa (replicate 64 (U8 0)) 0 (take 64 (drop 0 D0)))))) [])/\(decide ((64:Int)<(↑n:Int))=false->((0:Int)<=(↑0:Int)/\(↑0:Int)<=(↑64:Int)/\(↑64:Int)<=(↑64:Int))/\0+n*1<=List.length row/\64<=64/\64<=List.length D1/\(List.length (take 64 (drop 0 D1))=64/\64<=64)/\64<=List.length (Qa (replicate 64 (U8 0)) 0 (take 64 (drop 0 D1)))/\Za (AG (take 64 (drop 0 (Qa (replicate 64 (U8 0)) 0 (take 64 (drop 0 D1))))))/\Q (AG (take 64 (drop 0 (Qa (replicate 64 (U8 0)) 0 (take 64 (drop 0 D1)))))) [])) (lay (replicate 64 (U8 0)) 0 (take 20 (take 20 (drop 0 (Qa (replicate 20 (U8 0)) 0 (hide (List.map U8 D2)))))))) (lay (replicate 64 (U8 0)) 0 (take (min n 64*1) (take (n*1) (drop 0 row))))) (digF (List.foldl Lc nwS (List.map asP [XS (take (n*1) (drop 0 row)) 0 n])))) : Ia X 58 0 Q ([.code (Na Try.f58)]) (slots [.one (.xs row 0 n)] Try.f58.ntmps) [] :=
 wR' hX WIA0 ok58 [7] [] false (CS.mk [] [] [0] []) true [] 2000 h (by kernel_rfl)
theorem vc63 {X} {Q : QT} (hX : PX X) (row : List AC) (n:Nat) (h : (fun D1 : List (BitVec 8)=>(fun D0 : List AC=>(decide ((64:Int)<(↑n:Int))=true->0+n*1<=List.length row/\(Oa (take (n*1) (drop 0 row))/\List.length (take (n*1) (drop 0 row))=n/\n<=1000000)/\(List.length (hide (List.map U8 D1))=20/\20<=20)/\((0:Int)<=(↑0:Int)/\(↑0:Int)<=(↑20:Int)/\(↑20:Int)<=(↑20:Int))/\Flat D0/\Flat (replicate 64 (U8 0))/\Flat (replicate 64 (U8 0))/\KR X 63 0 Q (Fb Try.f63 0) (mkS 25 [(0,O1 (SV 0 0 20)),(2,O1 (PT 1 0)),(3,O1 (PT 2 0)),(5,O1 (I64 (0:Int)))]) [some D0,some (replicate 64 (U8 0)),some (replicate 64 (U8 0))])/\(decide ((64:Int)<(↑n:Int))=false->Flat (replicate 64 (U8 0))/\Flat (replicate 64 (U8 0))/\KR X 63 0 Q (Fb Try.f63 0) (mkS 25 [(0,O1 (XS row 0 n)),(2,O1 (PT 0 0)),(3,O1 (PT 1 0)),(5,O1 (I64 (0:Int)))]) [some (replicate 64 (U8 0)),some (replicate 64 (U8 0))])) (Qa (replicate 20 (U8 0)) 0 (hide (List.map U8 D1)))) (ofF (List.map Ea (take (n*1) (drop 0 row))))) : Ia X 63 0 Q ([.code (Na Try.f63)]) (slots [.one (.xs row 0 n)] Try.f63.ntmps) [] :=
 wR' hX WIA0 ok63 [8,15] [] false (CS.mk [] [] [0] []) true [(6,LS.mk [0,2,3,5] (CS.mk [] [true,true,true] [] []))] 2000 h (by kernel_rfl)
theorem vc63a {X} {Q : QT} (hX : PX X) (row zs bs : List AC) (n:Nat) (i:Int) (h : (fun D1 : BitVec 8=>(fun D0 : List AC=>(decide (i<(↑n:Int))=true->((0:Int)<=i/\i<(↑n:Int))/\gt AY row (0+Int.toNat i*1)=U8 D1/\((0:Int)<=i/\i<(↑64:Int))/\(1=1/\0+Int.toNat i*1+1<=List.length bs)/\La (i+(1:Int))/\Flat zs/\Flat (Qa bs (0+Int.toNat i*1) [U8 D1])/\KR X 63 0 Q (Fb Try.f63 0) (mkS 25 [(0,O1 (XS row 0 n)),(2,O1 (PT 0 0)),(3,O1 (PT 1 0)),(5,O1 (I64 (i+(1:Int))))]) [some zs,some (Qa bs (0+Int.toNat i*1) [U8 D1])])/\(decide (i<(↑n:Int))=false->64<=List.length bs/\(List.length (take 64 (drop 0 bs))=64/\64<=List.length zs)/\64<=List.length D0/\Za (AG (take 64 (drop 0 D0)))/\Q (AG (take 64 (drop 0 D0))) [])) (Qa zs 0 (take 64 (drop 0 bs)))) (Ea (gt AY row (0+Int.toNat i*1)))) : Ia X 63 0 Q (Fb Try.f63 0) (mkS 25 [(0,.one (.xs row 0 n)),(2,.one (.ptr 0 0)),(3,.one (.ptr 1 0)),(5,.one (.i64 i))]) [some zs,some bs] :=
 wR' hX WIA0 ok63 [8,15] [] false (CS.mk [] [] [0] []) true [(6,LS.mk [0,2,3,5] (CS.mk [] [true,true,true] [] []))] 2000 h (by kernel_rfl)
theorem vc63b {X} {Q : QT} (hX : PX X) (row zs bs : List AC) (i:Int) (h : (fun D1 : BitVec 8=>(fun D0 : List AC=>(decide (i<(↑20:Int))=true->((0:Int)<=i/\i<(↑20:Int))/\gt AY row (0+Int.toNat i*1)=U8 D1/\((0:Int)<=i/\i<(↑64:Int))/\(1=1/\0+Int.toNat i*1+1<=List.length bs)/\La (i+(1:Int))/\Flat row/\Flat zs/\Flat (Qa bs (0+Int.toNat i*1) [U8 D1])/\KR X 63 0 Q (Fb Try.f63 0) (mkS 25 [(0,O1 (SV 0 0 20)),(2,O1 (PT 1 0)),(3,O1 (PT 2 0)),(5,O1 (I64 (i+(1:Int))))]) [some row,some zs,some (Qa bs (0+Int.toNat i*1) [U8 D1])])/\(decide (i<(↑20:Int))=false->64<=List.length bs/\(List.length (take 64 (drop 0 bs))=64/\64<=List.length zs)/\64<=List.length D0/\Za (AG (take 64 (drop 0 D0)))/\Q (AG (take 64 (drop 0 D0))) [])) (Qa zs 0 (take 64 (drop 0 bs)))) (Ea (gt AY row (0+Int.toNat i*1)))) : Ia X 63 0 Q (Fb Try.f63 0) (mkS 25 [(0,.one (.sv 0 0 20)),(2,.one (.ptr 1 0)),(3,.one (.ptr 2 0)),(5,.one (.i64 i))]) [some row,some zs,some bs] :=
 wR' hX WIA0 ok63 [8,15] [] false (CS.mk [] [] [0] []) true [(6,LS.mk [0,2,3,5] (CS.mk [] [true,true,true] [] []))] 2000 h (by kernel_rfl)
theorem vc111 {X} {Q : QT} (hX : PX X) (bs : List AC) (x:BitVec 8) (h : Flat bs/\Flat ([Fa 0,Fa 0,Fa 0,Fa 0,Fa 0]++(replicate 64 (U8 0)++[Nc 0]))/\KR X 111 0 Q (Fb Try.f111 0) (mkS 19 [(1,O1 (U8 x)),(2,O1 (PT 0 0)),(4,O1 (PT 1 0)),(6,O1 (I64 (0:Int)))]) [some bs,some ([Fa 0,Fa 0,Fa 0,Fa 0,Fa 0]++(replicate 64 (U8 0)++[Nc 0]))]) : Ia X 111 0 Q ([.code (Na Try.f111)]) (slots [.agg bs,.one (.u8 x)] Try.f111.ntmps) [] :=
 wR' hX WIA0 ok111 [7] [(6,3)] false (CS.mk [] [] [0] []) true [(2,LS.mk [1,2,4,6] (CS.mk [] [true,true] [] []))] 2000 h (by kernel_rfl)
theorem vc111a {X} {Q : QT} (hX : PX X) (bs zs : List AC) (x:BitVec 8) (i:Int) (h : (fun D1 : List AC=>(fun D0 : Sm=>(decide (i<(64:Int))=true->((0:Int)<=i/\i<(↑64:Int))/\gt AY bs (0+Int.toNat i*1)=U8 (Ea (gt AY bs (0+Int.toNat i*1)))/\((0:Int)<=i/\i<(↑64:Int))/\(1=1/\0+Int.toNat i*1+1<=List.length bs)/\La (i+(1:Int))/\Flat D1/\Flat zs/\KR X 111 0 Q (Fb Try.f111 0) (mkS 19 [(1,O1 (U8 x)),(2,O1 (PT 0 0)),(4,O1 (PT 1 0)),(6,O1 (I64 (i+(1:Int))))]) [some D1,some zs])/\(decide (i<(64:Int))=false->((0:Int)<=(↑0:Int)/\(↑0:Int)<=(↑64:Int)/\(↑64:Int)<=(↑64:Int))/\Flat (hide (Sm.cells nwS))/\64<=List.length bs/\Flat (take 64 (drop 0 bs))/\(hide (Sm.cells nwS)=Sm.cells (smOf (hide (Sm.cells nwS)))/\List.length (hide (Sm.cells nwS))=70/\Oa (take 64 (drop 0 bs))/\List.length (take 64 (drop 0 bs))=64)/\(List.length (hide (Sm.cells D0))=70/\70<=List.length zs)/\70<=List.length (Qa zs 0 (hide (Sm.cells D0)))/\Za (AG (take 70 (drop 0 (Qa zs 0 (hide (Sm.cells D0))))))/\Q (AG (take 70 (drop 0 (Qa zs 0 (hide (Sm.cells D0)))))) [])) (Lc (smOf (hide (Sm.cells nwS))) (List.map Ea (take 64 (drop 0 bs))))) (Qa bs (0+Int.toNat i*1) [U8 (Ea (gt AY bs (0+Int.toNat i*1))^^^x)])) : Ia X 111 0 Q (Fb Try.f111 0) (mkS 19 [(1,.one (.u8 x)),(2,.one (.ptr 0 0)),(4,.one (.ptr 1 0)),(6,.one (.i64 i))]) [some bs,some zs] :=
 wR' hX WIA0 ok111 [7] [(6,3)] false (CS.mk [] [] [0] []) true [(2,LS.mk [1,2,4,6] (CS.mk [] [true,true] [] []))] 2000 h (by kernel_rfl)
theorem s58 (k : List (BitVec 8)) (hk : k.length ≤ 1000000) : Spec Try.prog 58 [.one (.xs (k.map U8) 0 k.length)] [] (Is (.agg ((blkK k).map U8))) := by
 refine Spec.of_run ok58 fun X hX => vc58 hX _ _ ⟨fun h => ?_, fun h => ?_⟩
 ·have h := of_decide_eq_true h
  have e : blkK k = ofF k ++ replicate (64 - 20) 0 := if_pos (by omega)
  simp only [Ja, tkm, tkP, Ua, map_asP, asP1, asP2, e1, p1, dig_of, smOf_nw, Tc, z70, layNw, lay70, tk70, Ae, layC, layM, Xd, tkn, List.drop_zero, Nat.zero_add, Nat.mul_one, Nat.reduceAdd, Nat.le_refl, Nat.min_self, Nat.reduceLeDiff, Cc, Int.toNat_natCast, ofF_len', digF_len', blkK_len, trn_len, hmF_len, List.length_map, List.length_append, List.length_replicate, List.length_take, List.length_drop, Sm.len, Bd, nwS_left', e]
  (repeat' (first | exact trivial | exact Aa _ | exact Sm.flat _ | exact Ya _ | exact Ba _ | exact Nat.le_refl _ | refine And.intro ?_ ?_)) <;> (first | omega | rfl | decide | assumption | (unfold La; omega) | exact List.length_map _ | skip)
 ·have h := of_decide_eq_false h
  have e : blkK k = k ++ replicate (64 - k.length) 0 := if_neg (by omega)
  have em : min k.length 64 = k.length := by omega
  have h64 : k.length ≤ 64 := by omega
  have h0 : k.length + (64 - k.length) = 64 := by omega
  simp only [Ja, tkm, tkP, Ua, map_asP, asP1, asP2, e1, p1, dig_of, smOf_nw, Tc, z70, layNw, lay70, tk70, Ae, layC, layM, Xd, tkn, List.drop_zero, Nat.zero_add, Nat.mul_one, Nat.reduceAdd, Nat.le_refl, Nat.min_self, Nat.reduceLeDiff, Cc, Int.toNat_natCast, ofF_len', digF_len', blkK_len, trn_len, hmF_len, List.length_map, List.length_append, List.length_replicate, List.length_take, List.length_drop, Sm.len, Bd, nwS_left', e, em]
  simp only [Ja, tkm, tkP, Ua, map_asP, asP1, asP2, e1, p1, dig_of, smOf_nw, Tc, z70, layNw, lay70, tk70, Ae, layC, layM, Xd, tkn, List.drop_zero, Nat.zero_add, Nat.mul_one, Nat.reduceAdd, Nat.le_refl, Nat.min_self, Nat.reduceLeDiff, Cc, Int.toNat_natCast, ofF_len', digF_len', blkK_len, trn_len, hmF_len, List.length_map, List.length_append, List.length_replicate, List.length_take, List.length_drop, Sm.len, Bd, nwS_left', h0]
  (repeat' (first | exact trivial | exact Aa _ | exact Sm.flat _ | exact Ya _ | exact Ba _ | exact Nat.le_refl _ | refine And.intro ?_ ?_)) <;> (first | omega | rfl | decide | assumption | (unfold La; omega) | exact List.length_map _ | skip)
theorem l63a {X : Ctx} (hX : X.P = Try.prog) (k t : List (BitVec 8)) (hk : k.length ≤ 64) (ht : t = k ++ replicate (64 - k.length) 0) : ∀ (d i:Nat), i + d = k.length →
  Ia X 63 0 (Is (.agg (t.map U8))) (Fb Try.f63 0) (mkS 25 [(0, .one (.xs (k.map U8) 0 k.length)), (2, .one (.ptr 0 0)), (3, .one (.ptr 1 0)), (5, .one (.i64 i))]) [some (replicate 64 (U8 0)), some ((t.take i ++ (replicate 64 0).drop i).map U8)] := by
 have hl : t.length = (replicate 64 (0:BitVec 8)).length := by rw [ht, List.length_append, List.length_replicate, List.length_replicate]; omega
 have hl2 : t.length = 64 := hl
 intro d
 induction d with
 | zero =>
  intro i hi
  have hi : i = k.length := by omega
  subst hi
  have e : t.take k.length ++ (replicate 64 0).drop k.length = t := by
   rw [ht, List.take_left, List.drop_replicate]
  refine vc63a hX _ _ _ _ _ ⟨fun h => absurd (of_decide_eq_true h) (by omega), fun _ => ?_⟩
  try dsimp only
  rw [e]
  simp only [Ja, tkm, tkP, Ua, map_asP, asP1, asP2, e1, p1, dig_of, smOf_nw, Tc, z70, layNw, lay70, tk70, Ae, layC, layM, Xd, tkn, List.drop_zero, Nat.zero_add, Nat.mul_one, Nat.reduceAdd, Nat.le_refl, Nat.min_self, Nat.reduceLeDiff, Cc, Int.toNat_natCast, ofF_len', digF_len', blkK_len, trn_len, hmF_len, List.length_map, List.length_append, List.length_replicate, List.length_take, List.length_drop, Sm.len, Bd, nwS_left', hl2]
  (repeat' (first | exact trivial | exact Aa _ | exact Sm.flat _ | exact Ya _ | exact Ba _ | exact Nat.le_refl _ | refine And.intro ?_ ?_)) <;> (first | omega | rfl | decide | assumption | (unfold La; omega) | exact List.length_map _ | skip)
 | succ d ih =>
  intro i hi
  have hL := lenT t (replicate 64 0) hl (i := i)
  have hg := Cb k i (by omega)
  have hs : t.getD i 0 = k.getD i 0 := by rw [ht, getD_app_lo _ _ _ (by omega)]
  have hset := setT t (replicate 64 0) 0 (i := i) (by omega) hl
  rw [hs] at hset
  have ih := ih (i + 1) (by omega)
  refine vc63a hX _ _ _ _ _ ⟨fun _ => ?_, fun h => absurd (of_decide_eq_false h) (by omega)⟩
  simp only [ixn, hg, Xd, Ea, hset, hL, List.length_map, Jd]
  rw [Jd] at ih
  simp only [List.length_replicate]
  (repeat' (first | exact trivial | exact Aa _ | exact Sm.flat _ | exact Ya _ | exact Ba _ | exact Nat.le_refl _ | refine And.intro ?_ ?_)) <;> (first | omega | rfl | decide | assumption | (unfold La; omega) | exact List.length_map _ | skip)
  exact ⟨ih⟩
theorem l63b {X : Ctx} (hX : X.P = Try.prog) (k t : List (BitVec 8)) (hk : k.length = 20) (ht : t = k ++ replicate (64 - k.length) 0) : ∀ (d i:Nat), i + d = k.length →
  Ia X 63 0 (Is (.agg (t.map U8))) (Fb Try.f63 0) (mkS 25 [(0, .one (.sv 0 0 20)), (2, .one (.ptr 1 0)), (3, .one (.ptr 2 0)), (5, .one (.i64 i))]) [some (k.map U8), some (replicate 64 (U8 0)), some ((t.take i ++ (replicate 64 0).drop i).map U8)] := by
 have hl : t.length = (replicate 64 (0:BitVec 8)).length := by rw [ht, List.length_append, List.length_replicate, List.length_replicate]; omega
 have hl2 : t.length = 64 := hl
 intro d
 induction d with
 | zero =>
  intro i hi
  have hi : i = k.length := by omega
  subst hi
  have e : t.take k.length ++ (replicate 64 0).drop k.length = t := by
   rw [ht, List.take_left, List.drop_replicate]
  refine vc63b hX _ _ _ _ ⟨fun h => absurd (of_decide_eq_true h) (by omega), fun _ => ?_⟩
  try dsimp only
  rw [e]
  simp only [Ja, tkm, tkP, Ua, map_asP, asP1, asP2, e1, p1, dig_of, smOf_nw, Tc, z70, layNw, lay70, tk70, Ae, layC, layM, Xd, tkn, List.drop_zero, Nat.zero_add, Nat.mul_one, Nat.reduceAdd, Nat.le_refl, Nat.min_self, Nat.reduceLeDiff, Cc, Int.toNat_natCast, ofF_len', digF_len', blkK_len, trn_len, hmF_len, List.length_map, List.length_append, List.length_replicate, List.length_take, List.length_drop, Sm.len, Bd, nwS_left', hl2]
  (repeat' (first | exact trivial | exact Aa _ | exact Sm.flat _ | exact Ya _ | exact Ba _ | exact Nat.le_refl _ | refine And.intro ?_ ?_)) <;> (first | omega | rfl | decide | assumption | (unfold La; omega) | exact List.length_map _ | skip)
 | succ d ih =>
  intro i hi
  have hL := lenT t (replicate 64 0) hl (i := i)
  have hg := Cb k i (by omega)
  have hs : t.getD i 0 = k.getD i 0 := by rw [ht, getD_app_lo _ _ _ (by omega)]
  have hset := setT t (replicate 64 0) 0 (i := i) (by omega) hl
  rw [hs] at hset
  have ih := ih (i + 1) (by omega)
  refine vc63b hX _ _ _ _ ⟨fun _ => ?_, fun h => absurd (of_decide_eq_false h) (by omega)⟩
  simp only [ixn, hg, Xd, Ea, hset, hL, List.length_map, Jd]
  rw [Jd] at ih
  simp only [List.length_replicate]
  (repeat' (first | exact trivial | exact Aa _ | exact Sm.flat _ | exact Ya _ | exact Ba _ | exact Nat.le_refl _ | refine And.intro ?_ ?_)) <;> (first | omega | rfl | decide | assumption | (unfold La; omega) | exact List.length_map _ | skip)
  exact ⟨ih⟩
theorem s63 (k : List (BitVec 8)) (hk : k.length ≤ 1000000) : Spec Try.prog 63 [.one (.xs (k.map U8) 0 k.length)] [] (Is (.agg ((blkK k).map U8))) := by
 refine Spec.of_run ok63 fun X hX => vc63 hX _ _ ⟨fun h => ?_, fun h => ?_⟩
 ·have h := of_decide_eq_true h
  have e : blkK k = ofF k ++ replicate (64 - (ofF k).length) 0 := if_pos (by omega)
  have z : Flat (replicate 64 (U8 0)) := by rw [Jd]; exact Aa _
  have K := l63b hX (ofF k) (blkK k) rfl e 20 0 rfl
  rw [begT, ← Jd] at K
  simp only [Ja, tkm, tkP, Ua, map_asP, asP1, asP2, e1, p1, dig_of, smOf_nw, Tc, z70, layNw, lay70, tk70, Ae, layC, layM, Xd, tkn, List.drop_zero, Nat.zero_add, Nat.mul_one, Nat.reduceAdd, Nat.le_refl, Nat.min_self, Nat.reduceLeDiff, Cc, Int.toNat_natCast, ofF_len', digF_len', blkK_len, trn_len, hmF_len, List.length_map, List.length_append, List.length_replicate, List.length_take, List.length_drop, Sm.len, Bd, nwS_left']
  (repeat' (first | exact trivial | exact Aa _ | exact Sm.flat _ | exact Ya _ | exact Ba _ | exact Nat.le_refl _ | refine And.intro ?_ ?_)) <;> (first | omega | rfl | decide | assumption | (unfold La; omega) | exact List.length_map _ | skip)
  exact ⟨K⟩
 ·have h := of_decide_eq_false h
  have e : blkK k = k ++ replicate (64 - k.length) 0 := if_neg (by omega)
  have K := l63a hX k (blkK k) (by omega) e k.length 0 (by omega)
  rw [begT, ← Jd] at K
  have z : Flat (replicate 64 (U8 0)) := by rw [Jd]; exact Aa _
  (repeat' (first | exact trivial | exact Aa _ | exact Sm.flat _ | exact Ya _ | exact Ba _ | exact Nat.le_refl _ | refine And.intro ?_ ?_)) <;> (first | omega | rfl | decide | assumption | (unfold La; omega) | exact List.length_map _ | skip)
  exact ⟨K⟩
theorem l111 {X : Ctx} (hX : X.P = Try.prog) (b : List (BitVec 8)) (x:BitVec 8) (hb : b.length = 64) : ∀ (d i:Nat), i + d = 64 →
  Ia X 111 0 (Is (.agg (Lc nwS (b.map (· ^^^ x))).cells)) (Fb Try.f111 0) (mkS 19 [(1, .one (.u8 x)), (2, .one (.ptr 0 0)), (4, .one (.ptr 1 0)), (6, .one (.i64 i))]) [some (((b.map (· ^^^ x)).take i ++ b.drop i).map U8), some nwS.cells] := by
 have hl : (b.map (· ^^^ x)).length = b.length := List.length_map _
 intro d
 induction d with
 | zero =>
  intro i hi
  have hi : i = 64 := by omega
  subst hi
  have e := endT _ _ hl
  rw [hl, hb] at e
  refine vc111a hX _ _ _ _ ⟨fun h => absurd (of_decide_eq_true h) (by omega), fun _ => ?_⟩
  try dsimp only
  rw [e]
  simp only [Ja, tkm, tkP, Ua, map_asP, asP1, asP2, e1, p1, dig_of, smOf_nw, Tc, z70, layNw, lay70, tk70, Ae, layC, layM, Xd, tkn, List.drop_zero, Nat.zero_add, Nat.mul_one, Nat.reduceAdd, Nat.le_refl, Nat.min_self, Nat.reduceLeDiff, Cc, Int.toNat_natCast, ofF_len', digF_len', blkK_len, trn_len, hmF_len, List.length_map, List.length_append, List.length_replicate, List.length_take, List.length_drop, Sm.len, Bd, nwS_left', hb]
  (repeat' (first | exact trivial | exact Aa _ | exact Sm.flat _ | exact Ya _ | exact Ba _ | exact Nat.le_refl _ | refine And.intro ?_ ?_)) <;> (first | omega | rfl | decide | assumption | (unfold La; omega) | exact List.length_map _ | skip)
 | succ d ih =>
  intro i hi
  have hL := lenT _ _ hl (i := i)
  have hg := Cb ((b.map (· ^^^ x)).take i ++ b.drop i) i (by omega)
  rw [getT_src _ _ _ (by omega) (Nat.le_refl _)] at hg
  have hset := setT _ _ 0 (i := i) (by omega) hl
  rw [getD_map (· ^^^ x) b 0 0 (by omega)] at hset
  have ih := ih (i + 1) (by omega)
  refine vc111a hX _ _ _ _ ⟨fun _ => ?_, fun h => absurd (of_decide_eq_false h) (by omega)⟩
  simp only [ixn, hg, Xd, Ea, hset, List.length_map, hL]
  (repeat' (first | exact trivial | exact Aa _ | exact Sm.flat _ | exact Ya _ | exact Ba _ | exact Nat.le_refl _ | refine And.intro ?_ ?_)) <;> (first | omega | rfl | decide | assumption | (unfold La; omega) | exact List.length_map _ | skip)
  exact ⟨ih⟩
theorem s111 (b : List (BitVec 8)) (x:BitVec 8) (hb : b.length = 64) : Spec Try.prog 111 [.agg (b.map U8), .one (.u8 x)] [] (Is (.agg (Lc nwS (b.map (· ^^^ x))).cells)) := by
 refine Spec.of_run ok111 fun X hX => vc111 hX _ _ ?_
 have K := l111 hX b x hb 64 0 rfl
 rw [begT] at K
 simp only [z70]
 (repeat' (first | exact trivial | exact Aa _ | exact Sm.flat _ | exact Ya _ | exact Ba _ | exact Nat.le_refl _ | refine And.intro ?_ ?_)) <;> (first | omega | rfl | decide | assumption | (unfold La; omega) | exact List.length_map _ | skip)
 exact ⟨K⟩
noncomputable def T8 : Tab := fun f xs => match f, xs with
 | 58, [.one (.xs row 0 n)] => some ([Oa row ∧ row.length = n ∧ n ≤ 1000000], .agg (hide ((blkK (row.map Ea)).map U8)))
 | 63, [.one (.xs row 0 n)] => some ([Oa row ∧ row.length = n ∧ n ≤ 1000000], .agg (hide ((blkK (row.map Ea)).map U8)))
 | 111, [.agg bs, .one (.u8 x)] => some ([Oa bs ∧ bs.length = 64], .agg (hide (Lc nwS ((bs.map Ea).map (· ^^^ x))).cells))
 | f, xs => T7 f xs
theorem T8_ok : Oc Try.prog T8 := by
 intro f xs cs r h hc
 unfold T8 at h
 split at h
 ·obtain ⟨rfl, rfl⟩ := Prod.mk.inj (Option.some.inj h)
  obtain ⟨h1, h2, h3⟩ := hc.1
  rename_i row n
  have := s58 (row.map Ea) (by rw [List.length_map]; omega)
  rw [← h1, List.length_map, h2] at this
  rw [Ja]
  exact ⟨⟨_, _, ok58⟩, this, Jb _ (fun _ => rfl) _⟩
 ·obtain ⟨rfl, rfl⟩ := Prod.mk.inj (Option.some.inj h)
  obtain ⟨h1, h2, h3⟩ := hc.1
  rename_i row n
  have := s63 (row.map Ea) (by rw [List.length_map]; omega)
  rw [← h1, List.length_map, h2] at this
  rw [Ja]
  exact ⟨⟨_, _, ok63⟩, this, Jb _ (fun _ => rfl) _⟩
 ·obtain ⟨rfl, rfl⟩ := Prod.mk.inj (Option.some.inj h)
  obtain ⟨h1, h2⟩ := hc.1
  rename_i row x
  have := s111 (row.map Ea) x (by rw [List.length_map]; omega)
  rw [← h1] at this
  rw [Ja]
  exact ⟨⟨_, _, ok111⟩, this, Sm.exact _⟩
 ·exact T7_ok _ _ _ _ h hc
def WIA1 : WC := ⟨envG T8 mf0 M0,envG_ok T8 mf0 M0,envG_call T8_ok M0_ok⟩
theorem vc112 {X} {Q : QT} (hX : PX X) (row : List AC) (n:Nat) (x:BitVec 8) (h : (fun D1 : List (BitVec 8)=>(fun D0 : List AC=>0+n*1<=List.length row/\(Oa (take (n*1) (drop 0 row))/\List.length (take (n*1) (drop 0 row))=n/\n<=1000000)/\(List.length (hide (List.map U8 D1))=64/\64<=64)/\Flat D0/\Flat []/\KR X 112 0 Q (Fb Try.f112 0) (mkS 23 [(1,O1 (U8 x)),(5,O1 (PT 0 0)),(6,O1 (GS 1 0 1)),(7,O1 (I64 (0:Int)))]) [some D0,some []]) (Qa (replicate 64 (U8 0)) 0 (hide (List.map U8 D1)))) (blkK (List.map Ea (take (n*1) (drop 0 row))))) : Ia X 112 0 Q ([.code (Na Try.f112)]) (slots [.one (.xs row 0 n),.one (.u8 x)] Try.f112.ntmps) [] :=
 wR' hX WIA1 ok112 [11] [] false (CS.mk [] [true] [] []) true [(4,LS.mk [1,5,6,7] (CS.mk [(6,2)] [true,true] [] []))] 2000 h (by kernel_rfl)
theorem vc112a {X} {Q : QT} (hX : PX X) (bs ar : List AC) (k:Nat) (x:BitVec 8) (i:Int) (h : (fun D0 : List AC=>(decide (i<(64:Int))=true->((0:Int)<=i/\i<(↑64:Int))/\gt AY bs (0+Int.toNat i*1)=U8 (Ea (gt AY bs (0+Int.toNat i*1)))/\1<=1/\((k+1)*1<=140737488355328/\k+1<=4611686018427387904)/\List.length ar=k*1/\La (i+(1:Int))/\Flat bs/\Flat D0/\KR X 112 0 Q (Fb Try.f112 0) (mkS 23 [(1,O1 (U8 x)),(5,O1 (PT 0 0)),(6,O1 (GS 1 (k+1) 1)),(7,O1 (I64 (i+(1:Int))))]) [some bs,some D0])/\(decide (i<(64:Int))=false->Flat ar/\Q (O1 (GS 0 k 1)) [some ar])) (ar++take 1 (drop 0 [U8 (Ea (gt AY bs (0+Int.toNat i*1))^^^x)]))) : Ia X 112 0 Q (Fb Try.f112 0) (mkS 23 [(1,.one (.u8 x)),(5,.one (.ptr 0 0)),(6,.one (.gs 1 k 1)),(7,.one (.i64 i))]) [some bs,some ar] :=
 wR' hX WIA1 ok112 [11] [] false (CS.mk [] [true] [] []) true [(4,LS.mk [1,5,6,7] (CS.mk [(6,2)] [true,true] [] []))] 2000 h (by kernel_rfl)
theorem l112 {X : Ctx} (hX : X.P = Try.prog) (b : List (BitVec 8)) (x:BitVec 8) (hb : b.length = 64) : ∀ (d i:Nat), i + d = 64 →
  Ia X 112 0 (Are (.one (.gs 0 64 1)) [some ((b.map (· ^^^ x)).map U8)]) (Fb Try.f112 0) (mkS 23 [(1, .one (.u8 x)), (5, .one (.ptr 0 0)), (6, .one (.gs 1 i 1)), (7, .one (.i64 i))]) [some (b.map U8), some (((b.map (· ^^^ x)).take i).map U8)] := by
 have hl : (b.map (· ^^^ x)).length = 64 := by rw [List.length_map, hb]
 intro d
 induction d with
 | zero =>
  intro i hi
  have hi : i = 64 := by omega
  subst hi
  refine vc112a hX _ _ _ _ _ ⟨fun h => absurd (of_decide_eq_true h) (by omega), fun _ => ?_⟩
  try dsimp only
  rw [tkn _ _ (by rw [hl]; exact Nat.le_refl _)]
  exact ⟨Aa _, rfl, rfl⟩
 | succ d ih =>
  intro i hi
  have hg := Cb b i (by omega)
  have hs := takeS (b.map (· ^^^ x)) 0 (i := i) (by omega)
  rw [getD_map (· ^^^ x) b 0 0 (by omega)] at hs
  have hap : ((b.map (· ^^^ x)).take i).map U8 ++ take 1 (drop 0 [U8 (b.getD i 0 ^^^ x)]) = ((b.map (· ^^^ x)).take (i + 1)).map U8 := by rw [← hs, List.map_append]; rfl
  have hlt : ((b.map (· ^^^ x)).take i).length = i := by rw [List.length_take, hl]; omega
  have ih := ih (i + 1) (by omega)
  refine vc112a hX _ _ _ _ _ ⟨fun _ => ?_, fun h => absurd (of_decide_eq_false h) (by omega)⟩
  simp only [ixn, hg, Ea, hap, List.length_map, hlt]
  (repeat' (first | exact trivial | exact Aa _ | exact Sm.flat _ | exact Ya _ | exact Ba _ | exact Nat.le_refl _ | refine And.intro ?_ ?_)) <;> (first | omega | rfl | decide | assumption | (unfold La; omega) | exact List.length_map _ | skip)
  exact ⟨ih⟩
theorem s112 (k : List (BitVec 8)) (x:BitVec 8) (hk : k.length ≤ 1000000) : Spec Try.prog 112 [.one (.xs (k.map U8) 0 k.length), .one (.u8 x)] [] (Are (.one (.gs 0 64 1)) [some ((trn k x).map U8)]) := by
 refine Spec.of_run ok112 fun X hX => vc112 hX _ _ _ ?_
 have K := l112 hX (blkK k) x (blkK_len k) 64 0 rfl
 rw [List.take_zero] at K
 have z : Flat [] := Zb rfl
 simp only [Ja, tkm, tkP, Ua, map_asP, asP1, asP2, e1, p1, dig_of, smOf_nw, Tc, z70, layNw, lay70, tk70, Ae, layC, layM, Xd, tkn, List.drop_zero, Nat.zero_add, Nat.mul_one, Nat.reduceAdd, Nat.le_refl, Nat.min_self, Nat.reduceLeDiff, Cc, Int.toNat_natCast, ofF_len', digF_len', blkK_len, trn_len, hmF_len, List.length_map, List.length_append, List.length_replicate, List.length_take, List.length_drop, Sm.len, Bd, nwS_left']
 (repeat' (first | exact trivial | exact Aa _ | exact Sm.flat _ | exact Ya _ | exact Ba _ | exact Nat.le_refl _ | refine And.intro ?_ ?_)) <;> (first | omega | rfl | decide | assumption | (unfold La; omega) | exact List.length_map _ | skip)
 exact ⟨K⟩
noncomputable def M8 : Ad := fun f xs m => match f, xs, m with
 | 112, [.one (.xs row 0 n), .one (.u8 x)], [] => some ([Oa row ∧ row.length = n ∧ n ≤ 1000000], .one (.gs 0 64 1), [some ((trn (row.map Ea) x).map U8)])
 | _, _, _ => none
noncomputable def mf8 : FuncId → Option MF := fun f => match f with
 | 112 => some { cs := { kinds := [], fl := [] }, flo := [true] }
 | _ => none
theorem M8_ok : Xc Try.prog M8 := by
 intro f xs m cs r m1 h hc
 unfold M8 at h
 split at h
 ·simp only [Option.some.injEq, Prod.mk.injEq] at h
  obtain ⟨rfl, rfl, rfl⟩ := h
  obtain ⟨h1, h2, h3⟩ := hc.1
  rename_i row n x
  have := s112 (row.map Ea) x (by rw [List.length_map]; omega)
  rw [← h1, List.length_map, h2] at this
  exact ⟨⟨_, _, ok112⟩, this⟩
 ·cases h
def WIA2 : WC := ⟨envG T8 mf8 M8,envG_ok T8 mf8 M8,envG_call T8_ok M8_ok⟩
theorem vc59 {X} {Q : QT} (hX : PX X) (row ps : List AC) (n k:Nat) (h : (fun D1 : List (BitVec 8)=>(fun D0 : List AC=>0+n*1<=List.length row/\(Oa (take (n*1) (drop 0 row))/\List.length (take (n*1) (drop 0 row))=n/\n<=1000000)/\(List.length (hide (List.map U8 D1))=64/\64<=64)/\64<=List.length D0/\Flat (take 64 (drop 0 D0))/\(Oa (take 64 (drop 0 D0))/\List.length (take 64 (drop 0 D0))=64)/\(List.length (hide (Sm.cells (Lc nwS (List.map (fun (x:BitVec 8) ↦ x^^^BitVec.ofInt 8 54) (List.map Ea (take 64 (drop 0 D0)))))))=70/\70<=70)/\Flat (replicate 20 (U8 0))/\Flat D0/\Flat (Qa ([Fa 0,Fa 0,Fa 0,Fa 0,Fa 0]++(replicate 64 (U8 0)++[Nc 0])) 0 (hide (Sm.cells (Lc nwS (List.map (fun (x:BitVec 8) ↦ x^^^BitVec.ofInt 8 54) (List.map Ea (take 64 (drop 0 D0))))))))/\KR X 59 0 Q (Fb Try.f59 0) (mkS 31 [(4,O1 (PT 0 0)),(5,O1 (PT 1 0)),(6,O1 (PT 2 0)),(14,O1 (XS ps 0 k)),(15,O1 (I64 (↑k:Int))),(16,O1 (I64 (0:Int)))]) [some (replicate 20 (U8 0)),some D0,some (Qa ([Fa 0,Fa 0,Fa 0,Fa 0,Fa 0]++(replicate 64 (U8 0)++[Nc 0])) 0 (hide (Sm.cells (Lc nwS (List.map (fun (x:BitVec 8) ↦ x^^^BitVec.ofInt 8 54) (List.map Ea (take 64 (drop 0 D0))))))))]) (Qa (replicate 64 (U8 0)) 0 (hide (List.map U8 D1)))) (blkK (List.map Ea (take (n*1) (drop 0 row))))) : Ia X 59 0 Q ([.code (Na Try.f59)]) (slots [.one (.xs row 0 n),.one (.xs ps 0 k)] Try.f59.ntmps) [] :=
 wR' hX WIA2 ok59 [17] [(9,5)] false (CS.mk [] [] [0] []) true [(4,LS.mk [4,5,6,14,15,16] (CS.mk [] [true,true,true] [] []))] 2000 h (by kernel_rfl)
theorem vc59a {X} {Q : QT} (hX : PX X) (zs bs ss ps : List AC) (k:Nat) (i:Int) (h : (fun D4 : Sm=>(fun D3 : Nat=>(fun D2 : Sm=>(fun D1 : List (BitVec 8)=>(fun D0 : List AC=>(decide (i<(↑k:Int))=true->((0:Int)<=i/\i<(↑k:Int))/\gt AY ps D3=XS (Td (gt AY ps D3)) (xsOff (gt AY ps D3)) (xsLen (gt AY ps D3))/\70<=List.length ss/\Flat (take 70 (drop 0 ss))/\xsOff (gt AY ps D3)+xsLen (gt AY ps D3)*1<=List.length (Td (gt AY ps D3))/\(take 70 (drop 0 ss)=Sm.cells D4/\List.length (take 70 (drop 0 ss))=70/\Oa (take (xsLen (gt AY ps D3)*1) (drop (xsOff (gt AY ps D3)) (Td (gt AY ps D3))))/\List.length (take (xsLen (gt AY ps D3)*1) (drop (xsOff (gt AY ps D3)) (Td (gt AY ps D3))))=xsLen (gt AY ps D3))/\(List.length (hide (Sm.cells D2))=70/\70<=List.length ss)/\La (i+(1:Int))/\Flat zs/\Flat bs/\Flat (Qa ss 0 (hide (Sm.cells D2)))/\KR X 59 0 Q (Fb Try.f59 0) (mkS 31 [(4,O1 (PT 0 0)),(5,O1 (PT 1 0)),(6,O1 (PT 2 0)),(14,O1 (XS ps 0 k)),(15,O1 (I64 (↑k:Int))),(16,O1 (I64 (i+(1:Int))))]) [some zs,some bs,some (Qa ss 0 (hide (Sm.cells D2)))])/\(decide (i<(↑k:Int))=false->70<=List.length ss/\Flat (take 70 (drop 0 ss))/\(take 70 (drop 0 ss)=Sm.cells D4/\List.length (take 70 (drop 0 ss))=70)/\(List.length (hide (List.map U8 (digF D4)))=20/\20<=20)/\64<=List.length bs/\Flat (take 64 (drop 0 bs))/\(Oa (take 64 (drop 0 bs))/\List.length (take 64 (drop 0 bs))=64)/\((0:Int)<=(↑0:Int)/\(↑0:Int)<=(↑20:Int)/\(↑20:Int)<=(↑20:Int))/\Flat (hide (Sm.cells (Lc nwS (List.map (fun (x:BitVec 8) ↦ x^^^BitVec.ofInt 8 92) D1))))/\20<=List.length D0/\Flat (take 20 (drop 0 D0))/\(hide (Sm.cells (Lc nwS (List.map (fun (x:BitVec 8) ↦ x^^^BitVec.ofInt 8 92) D1)))=Sm.cells (smOf (hide (Sm.cells (Lc nwS (List.map (fun (x:BitVec 8) ↦ x^^^BitVec.ofInt 8 92) D1)))))/\List.length (hide (Sm.cells (Lc nwS (List.map (fun (x:BitVec 8) ↦ x^^^BitVec.ofInt 8 92) D1))))=70/\Oa (take 20 (drop 0 D0))/\List.length (take 20 (drop 0 D0))=20)/\Flat (hide (Sm.cells (Lc (smOf (hide (Sm.cells (Lc nwS (List.map (fun (x:BitVec 8) ↦ x^^^BitVec.ofInt 8 92) D1))))) (List.map Ea (take 20 (drop 0 D0))))))/\(hide (Sm.cells (Lc (smOf (hide (Sm.cells (Lc nwS (List.map (fun (x:BitVec 8) ↦ x^^^BitVec.ofInt 8 92) D1))))) (List.map Ea (take 20 (drop 0 D0)))))=Sm.cells (smOf (hide (Sm.cells (Lc (smOf (hide (Sm.cells (Lc nwS (List.map (fun (x:BitVec 8) ↦ x^^^BitVec.ofInt 8 92) D1))))) (List.map Ea (take 20 (drop 0 D0)))))))/\List.length (hide (Sm.cells (Lc (smOf (hide (Sm.cells (Lc nwS (List.map (fun (x:BitVec 8) ↦ x^^^BitVec.ofInt 8 92) D1))))) (List.map Ea (take 20 (drop 0 D0))))))=70)/\(List.length (hide (List.map U8 (digF (smOf (hide (Sm.cells (Lc (smOf (hide (Sm.cells (Lc nwS (List.map (fun (x:BitVec 8) ↦ x^^^BitVec.ofInt 8 92) D1))))) (List.map Ea (take 20 (drop 0 D0))))))))))=20/\20<=List.length zs)/\20<=List.length (Qa zs 0 (hide (List.map U8 (digF (smOf (hide (Sm.cells (Lc (smOf (hide (Sm.cells (Lc nwS (List.map (fun (x:BitVec 8) ↦ x^^^BitVec.ofInt 8 92) D1))))) (List.map Ea (take 20 (drop 0 D0)))))))))))/\Za (AG (take 20 (drop 0 (Qa zs 0 (hide (List.map U8 (digF (smOf (hide (Sm.cells (Lc (smOf (hide (Sm.cells (Lc nwS (List.map (fun (x:BitVec 8) ↦ x^^^BitVec.ofInt 8 92) D1))))) (List.map Ea (take 20 (drop 0 D0))))))))))))))/\Q (AG (take 20 (drop 0 (Qa zs 0 (hide (List.map U8 (digF (smOf (hide (Sm.cells (Lc (smOf (hide (Sm.cells (Lc nwS (List.map (fun (x:BitVec 8) ↦ x^^^BitVec.ofInt 8 92) D1))))) (List.map Ea (take 20 (drop 0 D0)))))))))))))) [])) (Qa (replicate 20 (U8 0)) 0 (hide (List.map U8 (digF D4))))) (List.map Ea (take 64 (drop 0 bs)))) (Lc D4 (List.map Ea (take (xsLen (gt AY ps D3)*1) (drop (xsOff (gt AY ps D3)) (Td (gt AY ps D3))))))) (0+Int.toNat i*1)) (smOf (take 70 (drop 0 ss)))) : Ia X 59 0 Q (Fb Try.f59 0) (mkS 31 [(4,.one (.ptr 0 0)),(5,.one (.ptr 1 0)),(6,.one (.ptr 2 0)),(14,.one (.xs ps 0 k)),(15,.one (.i64 k)),(16,.one (.i64 i))]) [some zs,some bs,some ss] :=
 wR' hX WIA2 ok59 [17] [(9,5)] false (CS.mk [] [] [0] []) true [(4,LS.mk [4,5,6,14,15,16] (CS.mk [] [true,true,true] [] []))] 2000 h (by kernel_rfl)
theorem vc60 {X} {Q : QT} (hX : PX X) (row r2 : List AC) (n m:Nat) (h : (fun D2 : List (BitVec 8)=>(fun D1 : List (BitVec 8)=>(fun D0 : List AC=>(Oa row/\List.length row=n/\n<=1000000)/\Flat (List.map U8 D2)/\0+m*1<=List.length r2/\((64+m)*1<=140737488355328/\64+m<=4611686018427387904)/\List.length (List.map U8 D2)=64/\0+(64+m)*1<=List.length (List.map U8 D2++take (m*1) (drop 0 r2))/\Flat (take ((64+m)*1) (drop 0 (List.map U8 D2++take (m*1) (drop 0 r2))))/\(Oa (take ((64+m)*1) (drop 0 (List.map U8 D2++take (m*1) (drop 0 r2))))/\List.length (take ((64+m)*1) (drop 0 (List.map U8 D2++take (m*1) (drop 0 r2))))=64+m/\64+m<=1000000)/\(List.length (hide (List.map U8 (ofF (List.map Ea (take ((64+m)*1) (drop 0 (List.map U8 D2++take (m*1) (drop 0 r2))))))))=20/\20<=20)/\((0:Int)<=(↑0:Int)/\(↑0:Int)<=(↑20:Int)/\(↑20:Int)<=(↑20:Int))/\(Oa row/\List.length row=n/\n<=1000000)/\Flat (List.map U8 D1)/\20<=List.length D0/\(84<=140737488355328/\84<=4611686018427387904)/\List.length (List.map U8 D1)=64/\84<=List.length (List.map U8 D1++take 20 (drop 0 D0))/\Flat (take 84 (drop 0 (List.map U8 D1++take 20 (drop 0 D0))))/\(Oa (take 84 (drop 0 (List.map U8 D1++take 20 (drop 0 D0))))/\List.length (take 84 (drop 0 (List.map U8 D1++take 20 (drop 0 D0))))=84/\84<=1000000)/\(List.length (hide (List.map U8 (ofF (List.map Ea (take 84 (drop 0 (List.map U8 D1++take 20 (drop 0 D0))))))))=20/\20<=20)/\20<=List.length (Qa (replicate 20 (U8 0)) 0 (hide (List.map U8 (ofF (List.map Ea (take 84 (drop 0 (List.map U8 D1++take 20 (drop 0 D0)))))))))/\Za (AG (take 20 (drop 0 (Qa (replicate 20 (U8 0)) 0 (hide (List.map U8 (ofF (List.map Ea (take 84 (drop 0 (List.map U8 D1++take 20 (drop 0 D0))))))))))))/\Q (AG (take 20 (drop 0 (Qa (replicate 20 (U8 0)) 0 (hide (List.map U8 (ofF (List.map Ea (take 84 (drop 0 (List.map U8 D1++take 20 (drop 0 D0)))))))))))) []) (Qa (replicate 20 (U8 0)) 0 (hide (List.map U8 (ofF (List.map Ea (take ((64+m)*1) (drop 0 (List.map U8 D2++take (m*1) (drop 0 r2)))))))))) (trn (List.map Ea row) (BitVec.ofInt 8 92))) (trn (List.map Ea row) (BitVec.ofInt 8 54))) : Ia X 60 0 Q ([.code (Na Try.f60)]) (slots [.one (.xs row 0 n),.one (.xs r2 0 m)] Try.f60.ntmps) [] :=
 wR' hX WIA2 ok60 [] [(2,1)] false (CS.mk [] [] [0] []) true [] 2000 h (by kernel_rfl)
theorem apm (a b : List (BitVec 8)) : a.map U8 ++ b.map U8 = (a ++ b).map U8 := List.map_append.symm
theorem o54 : BitVec.ofInt 8 54 = 54#8 := rfl
theorem o92 : BitVec.ofInt 8 92 = 92#8 := rfl
theorem s60 (k m : List (BitVec 8)) (hk : k.length ≤ 1000000) (hm : m.length ≤ 900000) : Spec Try.prog 60 [.one (.xs (k.map U8) 0 k.length), .one (.xs (m.map U8) 0 m.length)] [] (Is (.agg ((hmF k m).map U8))) := by
 refine Spec.of_run ok60 fun X hX => vc60 hX _ _ _ _ ?_
 have h1 : (trn k 54 ++ m).length ≤ 64 + m.length := by simp only [ofF_len', digF_len', blkK_len, trn_len, hmF_len, List.length_map, List.length_append, List.length_replicate, List.length_take, List.length_drop, Sm.len, Bd, nwS_left']; omega
 have h2 : (trn k 92 ++ ofF (trn k 54 ++ m)).length ≤ 84 := by simp only [ofF_len', digF_len', blkK_len, trn_len, hmF_len, List.length_map, List.length_append, List.length_replicate, List.length_take, List.length_drop, Sm.len, Bd, nwS_left']; omega
 simp only [Ja, tkm, tkP, Ua, map_asP, asP1, asP2, e1, p1, dig_of, smOf_nw, Tc, z70, layNw, lay70, tk70, Ae, layC, layM, Xd, tkn, List.drop_zero, Nat.zero_add, Nat.mul_one, Nat.reduceAdd, Nat.le_refl, Nat.min_self, Nat.reduceLeDiff, Cc, Int.toNat_natCast, ofF_len', digF_len', blkK_len, trn_len, hmF_len, List.length_map, List.length_append, List.length_replicate, List.length_take, List.length_drop, Sm.len, Bd, nwS_left', o54, o92, apm, tkn _ _ h1, tkn _ _ h2]
 (repeat' (first | exact trivial | exact Aa _ | exact Sm.flat _ | exact Ya _ | exact Ba _ | exact Nat.le_refl _ | refine And.intro ?_ ?_)) <;> (first | omega | rfl | decide | assumption | (unfold La; omega) | exact List.length_map _ | skip)
theorem l59 {X : Ctx} (hX : X.P = Try.prog) (k : List (BitVec 8)) (ps : List (List (BitVec 8))) (hps : ps.length ≤ 1000000) : ∀ (d i:Nat), i + d = ps.length →
  Ia X 59 0 (Is (.agg ((hmF k ps.flatten).map U8))) (Fb Try.f59 0) (mkS 31 [(4, .one (.ptr 0 0)), (5, .one (.ptr 1 0)), (6, .one (.ptr 2 0)), (14, .one (.xs (ps.map encP) 0 ps.length)), (15, .one (.i64 ps.length)), (16, .one (.i64 i))])
   [some (replicate 20 (U8 0)), some ((blkK k).map U8), some (Lc (Lc nwS (trn k 54)) (ps.take i).flatten).cells] := by
 have z : Flat (replicate 20 (U8 0)) := by rw [Jd]; exact Aa _
 intro d
 induction d with
 | zero =>
  intro i hi
  have hi : i = ps.length := by omega
  subst hi
  have e92 : ∀ l : List (BitVec 8), List.map (fun x => x ^^^ 92#8) l = List.map (· ^^^ 92#8) l := fun _ => rfl
  have ed : digF (Lc (Lc nwS (trn k 92)) (digF (Lc (Lc nwS (trn k 54)) ps.flatten))) = hmF k ps.flatten := by
   rw [← addF_app nwS (trn k 54), dig_of, ← addF_app, dig_of]; rfl
  have et : List.map (fun x => x ^^^ 92#8) (blkK k) = trn k 92 := rfl
  refine vc59a hX _ _ _ _ _ _ ⟨fun h => absurd (of_decide_eq_true h) (by omega), fun _ => ?_⟩
  try dsimp only
  rw [List.take_length]
  simp only [Ja, tkm, tkP, Ua, map_asP, asP1, asP2, e1, p1, dig_of, smOf_nw, Tc, z70, layNw, lay70, tk70, Ae, layC, layM, Xd, tkn, List.drop_zero, Nat.zero_add, Nat.mul_one, Nat.reduceAdd, Nat.le_refl, Nat.min_self, Nat.reduceLeDiff, Cc, Int.toNat_natCast, ofF_len', digF_len', blkK_len, trn_len, hmF_len, List.length_map, List.length_append, List.length_replicate, List.length_take, List.length_drop, Sm.len, Bd, nwS_left', o92, et, ed]
  (repeat' (first | exact trivial | exact Aa _ | exact Sm.flat _ | exact Ya _ | exact Ba _ | exact Nat.le_refl _ | refine And.intro ?_ ?_)) <;> (first | omega | rfl | decide | assumption | (unfold La; omega) | exact List.length_map _ | skip)
 | succ d ih =>
  intro i hi
  have hg := gt_P_at ps i (by omega)
  have ih := ih (i + 1) (by omega)
  rw [flat_take ps i (by omega), addF_app] at ih
  refine vc59a hX _ _ _ _ _ _ ⟨fun _ => ?_, fun h => absurd (of_decide_eq_false h) (by omega)⟩
  simp only [ixn, hg, encP, Td, xsOff, xsLen, Ja, tkm, tkP, Ua, map_asP, asP1, asP2, e1, p1, dig_of, smOf_nw, Tc, z70, layNw, lay70, tk70, Ae, layC, layM, Xd, tkn, List.drop_zero, Nat.zero_add, Nat.mul_one, Nat.reduceAdd, Nat.le_refl, Nat.min_self, Nat.reduceLeDiff, Cc, Int.toNat_natCast, ofF_len', digF_len', blkK_len, trn_len, hmF_len, List.length_map, List.length_append, List.length_replicate, List.length_take, List.length_drop, Sm.len, Bd, nwS_left']
  (repeat' (first | exact trivial | exact Aa _ | exact Sm.flat _ | exact Ya _ | exact Ba _ | exact Nat.le_refl _ | refine And.intro ?_ ?_)) <;> (first | omega | rfl | decide | assumption | (unfold La; omega) | exact List.length_map _ | skip)
  exact ⟨ih⟩
theorem s59 (k : List (BitVec 8)) (ps : List (List (BitVec 8))) (hk : k.length ≤ 1000000) (hps : ps.length ≤ 1000000) : Spec Try.prog 59 [.one (.xs (k.map U8) 0 k.length), .one (.xs (ps.map encP) 0 ps.length)] [] (Is (.agg ((hmF k ps.flatten).map U8))) := by
 refine Spec.of_run ok59 fun X hX => vc59 hX _ _ _ _ ?_
 have et : List.map (fun x => x ^^^ 54#8) (blkK k) = trn k 54 := rfl
 have K := l59 hX k ps hps ps.length 0 (by omega)
 rw [List.take_zero] at K
 have z : Flat (replicate 20 (U8 0)) := by rw [Jd]; exact Aa _
 simp only [Ja, tkm, tkP, Ua, map_asP, asP1, asP2, e1, p1, dig_of, smOf_nw, Tc, z70, layNw, lay70, tk70, Ae, layC, layM, Xd, tkn, List.drop_zero, Nat.zero_add, Nat.mul_one, Nat.reduceAdd, Nat.le_refl, Nat.min_self, Nat.reduceLeDiff, Cc, Int.toNat_natCast, ofF_len', digF_len', blkK_len, trn_len, hmF_len, List.length_map, List.length_append, List.length_replicate, List.length_take, List.length_drop, Sm.len, Bd, nwS_left', o54, et]
 (repeat' (first | exact trivial | exact Aa _ | exact Sm.flat _ | exact Ya _ | exact Ba _ | exact Nat.le_refl _ | refine And.intro ?_ ?_)) <;> (first | omega | rfl | decide | assumption | (unfold La; omega) | exact List.length_map _ | skip)
 exact ⟨K⟩
noncomputable def T9 : Tab := fun f xs => match f, xs with
 | 59, [.one (.xs row 0 n), .one (.xs ps 0 k)] => some ([Oa row ∧ row.length = n ∧ n ≤ 1000000 ∧ ps = (ps.map asP).map encP ∧ ps.length = k ∧ k ≤ 1000000], .agg (hide ((hmF (row.map Ea) (ps.map asP).flatten).map U8)))
 | 60, [.one (.xs row 0 n), .one (.xs r2 0 m)] => some ([Oa row ∧ row.length = n ∧ n ≤ 1000000 ∧ Oa r2 ∧ r2.length = m ∧ m ≤ 900000], .agg (hide ((hmF (row.map Ea) (r2.map Ea)).map U8)))
 | f, xs => T8 f xs
theorem T9_ok : Oc Try.prog T9 := by
 intro f xs cs r h hc
 unfold T9 at h
 split at h
 ·obtain ⟨rfl, rfl⟩ := Prod.mk.inj (Option.some.inj h)
  obtain ⟨h1, h2, h3, h4, h5, h6⟩ := hc.1
  rename_i row n ps k
  have := s59 (row.map Ea) (ps.map asP) (by rw [List.length_map]; omega) (by rw [List.length_map]; omega)
  rw [← h1, ← h4, List.length_map, List.length_map, h2, h5] at this
  rw [Ja]
  exact ⟨⟨_, _, ok59⟩, this, Jb _ (fun _ => rfl) _⟩
 ·obtain ⟨rfl, rfl⟩ := Prod.mk.inj (Option.some.inj h)
  obtain ⟨h1, h2, h3, h4, h5, h6⟩ := hc.1
  rename_i row n r2 m
  have := s60 (row.map Ea) (r2.map Ea) (by rw [List.length_map]; omega) (by rw [List.length_map]; omega)
  rw [← h1, ← h4, List.length_map, List.length_map, h2, h5] at this
  rw [Ja]
  exact ⟨⟨_, _, ok60⟩, this, Jb _ (fun _ => rfl) _⟩
 ·exact T8_ok _ _ _ _ h hc
noncomputable def inlI : Inl := fun f => match f with
 | 36 => some (Try.f36, [])
 | 56 => some (Try.f56, [])
 | _ => none
theorem inlI_ok : InlOk Try.prog inlI := by
 intro f fn hs h
 unfold inlI at h
 split at h <;> first | (cases h; done) | (obtain ⟨rfl, _⟩ := Prod.mk.inj (Option.some.inj h); first | exact ok36 | exact ok56)
def symI (t : TypeId) : Bool := match t with | 28 => true | 40 => true | t => symH t
noncomputable def baseI (T : Tab) (mf : FuncId → Option MF) (M : Ad) : Env := ⟨tys, symI, false, T, [], mf, M, fun _ => none⟩
theorem baseI_ok (T : Tab) (mf : FuncId → Option MF) (M : Ad) : Eb Try.prog (baseI T mf M) := Eb.of tysOk
theorem baseI_call {T : Tab} {mf : FuncId → Option MF} {M : Ad} (hT : Oc Try.prog T) (hM : Xc Try.prog M) : Bc Try.prog (baseI T mf M) :=
 ⟨hT, fun f mf xs m0 cs r m1 _ h hc => hM f xs m0 cs r m1 h hc, (by intro f k h; cases h)⟩
noncomputable def envI (T : Tab) (mf : FuncId → Option MF) (M : Ad) : Env := inlE (baseI T mf M) inlI 2
theorem envI_ok (T : Tab) (mf : FuncId → Option MF) (M : Ad) : Eb Try.prog (envI T mf M) := inlE_envOk (baseI_ok T mf M) _ _
theorem envI_call {T : Tab} {mf : FuncId → Option MF} {M : Ad} (hT : Oc Try.prog T) (hM : Xc Try.prog M) : Bc Try.prog (envI T mf M) :=
 inlE_ok (baseI_ok T mf M) (baseI_call hT hM) mixed inlI_ok 2
def WIA3 : WC := ⟨envI T9 mf8 M8,envI_ok T9 mf8 M8,envI_call T9_ok M8_ok⟩
theorem vc61 {X} {Q : QT} (hX : PX X) (row ps : List AC) (n k:Nat) (h : (fun D1 : List (BitVec 8)=>(fun D0 : List AC=>0+n*1<=List.length row/\0+k*1<=List.length ps/\(Oa (take (n*1) (drop 0 row))/\List.length (take (n*1) (drop 0 row))=n/\n<=1000000/\take (k*1) (drop 0 ps)=List.map encP (List.map asP (take (k*1) (drop 0 ps)))/\List.length (take (k*1) (drop 0 ps))=k/\k<=1000000)/\(List.length (hide (List.map U8 D1))=20/\20<=20)/\((0:Int)<=(↑0:Int)/\(↑0:Int)<=(12:Int)/\(12:Int)<=(↑20:Int))/\12<=12/\12<=List.length D0/\(List.length (take 12 (drop 0 D0))=12/\12<=12)/\12<=List.length (Qa (replicate 12 (U8 0)) 0 (take 12 (drop 0 D0)))/\Za (AG (take 12 (drop 0 (Qa (replicate 12 (U8 0)) 0 (take 12 (drop 0 D0))))))/\Q (AG (take 12 (drop 0 (Qa (replicate 12 (U8 0)) 0 (take 12 (drop 0 D0)))))) []) (Qa (replicate 20 (U8 0)) 0 (hide (List.map U8 D1)))) (hmF (List.map Ea (take (n*1) (drop 0 row))) (List.flatten (List.map asP (take (k*1) (drop 0 ps)))))) : Ia X 61 0 Q ([.code (Na Try.f61)]) (slots [.one (.xs row 0 n),.one (.xs ps 0 k)] Try.f61.ntmps) [] :=
 wR' hX WIA3 ok61 [] [] false (CS.mk [] [] [0] []) true [] 2000 h (by kernel_rfl)
theorem m12 : min 12 20 = 12 := Nat.le_antisymm (by decide) (by decide)
def shF (k m : List (BitVec 8)) : List (BitVec 8) := (hmF k m).take 12
theorem shF_len (k m : List (BitVec 8)) : (shF k m).length = 12 := Nat.le_antisymm (Nat.le_refl _) (Nat.le_refl _)
theorem s61 (k : List (BitVec 8)) (ps : List (List (BitVec 8))) (hk : k.length ≤ 1000000) (hps : ps.length ≤ 1000000) : Spec Try.prog 61 [.one (.xs (k.map U8) 0 k.length), .one (.xs (ps.map encP) 0 ps.length)] [] (Is (.agg ((shF k ps.flatten).map U8))) := by
 refine Spec.of_run ok61 fun X hX => vc61 hX _ _ _ _ ?_
 have e : take 12 (hmF k ps.flatten) = shF k ps.flatten := rfl
 simp only [Ja, tkm, tk0, m12, tkP, Ua, map_asP, asP1, asP2, e1, p1, dig_of, smOf_nw, Tc, z70, layNw, lay70, tk70, Ae, layC, layM, Xd, tkn, List.drop_zero, Nat.zero_add, Nat.mul_one, Nat.reduceAdd, Nat.le_refl, Nat.min_self, Nat.reduceLeDiff, Cc, Int.toNat_natCast, ofF_len', digF_len', blkK_len, trn_len, hmF_len, shF_len, List.length_map, List.length_append, List.length_replicate, List.length_take, List.length_drop, Sm.len, Bd, nwS_left', e]
 (repeat' (first | exact trivial | exact Aa _ | exact Sm.flat _ | exact Ya _ | exact Ba _ | exact Nat.le_refl _ | exact fin | refine And.intro ?_ ?_)) <;> (first | omega | rfl | decide | assumption | (unfold La; omega) | exact List.length_map _ | skip)
noncomputable def T10 : Tab := fun f xs => match f, xs with
 | 61, [.one (.xs row 0 n), .one (.xs ps 0 k)] => some ([Oa row ∧ row.length = n ∧ n ≤ 1000000 ∧ ps = (ps.map asP).map encP ∧ ps.length = k ∧ k ≤ 1000000], .agg (hide ((shF (row.map Ea) (ps.map asP).flatten).map U8)))
 | f, xs => T9 f xs
theorem T10_ok : Oc Try.prog T10 := by
 intro f xs cs r h hc
 unfold T10 at h
 split at h
 ·obtain ⟨rfl, rfl⟩ := Prod.mk.inj (Option.some.inj h)
  obtain ⟨h1, h2, h3, h4, h5, h6⟩ := hc.1
  rename_i row n ps k
  have := s61 (row.map Ea) (ps.map asP) (by rw [List.length_map]; omega) (by rw [List.length_map]; omega)
  rw [← h1, ← h4, List.length_map, List.length_map, h2, h5] at this
  rw [Ja]
  exact ⟨⟨_, _, ok61⟩, this, Jb _ (fun _ => rfl) _⟩
 ·exact T9_ok _ _ _ _ h hc
end DH
