/- Walks of functions, each by evaluation: what each returns; with the layer beneath. -/
import Derived.Test.YtdnggeocdocomaaHB
import Derived.Test.YtdnggeocdocomaaU1
set_option linter.unusedVariables false
set_option linter.unusedSimpArgs false
noncomputable section
namespace DH
set_option maxRecDepth 100000
open List (take drop replicate)
open AC renaming u8 → U8, u16 → U16, u32 → U32, u64 → U64, i64 → I64, b → Bb, xs → XS, gs → GS, sv → SV, ptr → PT, any → AY, ns → NS
open AV renaming one → O1, agg → AG, tup → TU
open Go Go.Proofs
theorem ok56 : FnOk Try.prog 56 Try.f56 (bodyOf Try.f56) := .of Try.func56 (by kernel_rfl) (by kernel_rfl)
theorem ok58 : FnOk Try.prog 58 Try.f58 (bodyOf Try.f58) := .of Try.func58 (by kernel_rfl) (by kernel_rfl)
theorem ok59 : FnOk Try.prog 59 Try.f59 (bodyOf Try.f59) := .of Try.func59 (by kernel_rfl) (by kernel_rfl)
theorem ok61 : FnOk Try.prog 61 Try.f61 (bodyOf Try.f61) := .of Try.func61 (by kernel_rfl) (by kernel_rfl)
theorem ok111 : FnOk Try.prog 111 Try.f111 (bodyOf Try.f111) := .of Try.func111 (by kernel_rfl) (by kernel_rfl)
def blkK (key : List (BitVec 8)) : List (BitVec 8) := if 64 < key.length then ofF key ++ replicate 44 0 else key ++ replicate (64 - key.length) 0
def trn (key : List (BitVec 8)) (x:BitVec 8) : List (BitVec 8) := (blkK key).map (· ^^^ x)
def hmF (key msg : List (BitVec 8)) : List (BitVec 8) := ofF (trn key 92 ++ ofF (trn key 54 ++ msg))
theorem ofF_len' (m : List (BitVec 8)) : (ofF m).length = 20 := Nat.le_antisymm (Nat.le_refl _) (Nat.le_refl _)
theorem digF_len' (s : Sm) : (digF s).length = 20 := Nat.le_antisymm (Nat.le_refl _) (Nat.le_refl _)
theorem blkK_len (key : List (BitVec 8)) : (blkK key).length = 64 := by
 unfold blkK
 split
 ·rw [List.length_append, ofF_len', List.length_replicate]
 ·rw [List.length_append, List.length_replicate]; omega
theorem trn_len (key : List (BitVec 8)) (x:BitVec 8) : (trn key x).length = 64 := by unfold trn; rw [List.length_map, blkK_len]
theorem hmF_len (key msg : List (BitVec 8)) : (hmF key msg).length = 20 := Nat.le_antisymm (Nat.le_refl _) (Nat.le_refl _)
theorem e1 (x : List (BitVec 8)) : [x].foldl addF nwS = addF nwS x := rfl
theorem p1 (x : List (BitVec 8)) : List.map encP [x] = [XS (x.map U8) 0 x.length] := rfl
theorem nwS_left' : nwS.left.length = 64 := Nat.le_antisymm (Nat.le_refl _) (Nat.le_refl _)
theorem vc58 {X : Ctx} {Q : AV->Mem->Prop} (hX : X.P=Try.prog) (row : List AC) (n:Nat) (h : (decide ((64:Int)<(↑n:Int))=true->1<=1/\0+n*1<=List.length row/\([XS (take (n*1) (drop 0 row)) 0 n]=List.map encP (List.map asP [XS (take (n*1) (drop 0 row)) 0 n])/\1=1/\1<=1000000)/\(List.length (hide (List.map U8 (digF (List.foldl addF nwS (List.map asP [XS (take (n*1) (drop 0 row)) 0 n])))))=20/\20<=20)/\((0:Int)<=(↑0:Int)/\(↑0:Int)<=(↑20:Int)/\(↑20:Int)<=(↑20:Int))/\((0:Int)<=(↑0:Int)/\(↑0:Int)<=(↑64:Int)/\(↑64:Int)<=(↑64:Int))/\20<=List.length (layS (replicate 20 (U8 0)) 0 (hide (List.map U8 (digF (List.foldl addF nwS (List.map asP [XS (take (n*1) (drop 0 row)) 0 n]))))))/\64<=64/\64<=List.length (lay (replicate 64 (U8 0)) 0 (take 20 (take 20 (drop 0 (layS (replicate 20 (U8 0)) 0 (hide (List.map U8 (digF (List.foldl addF nwS (List.map asP [XS (take (n*1) (drop 0 row)) 0 n]))))))))))/\(List.length (take 64 (drop 0 (lay (replicate 64 (U8 0)) 0 (take 20 (take 20 (drop 0 (layS (replicate 20 (U8 0)) 0 (hide (List.map U8 (digF (List.foldl addF nwS (List.map asP [XS (take (n*1) (drop 0 row)) 0 n]))))))))))))=64/\64<=64)/\64<=List.length (layS (replicate 64 (U8 0)) 0 (take 64 (drop 0 (lay (replicate 64 (U8 0)) 0 (take 20 (take 20 (drop 0 (layS (replicate 20 (U8 0)) 0 (hide (List.map U8 (digF (List.foldl addF nwS (List.map asP [XS (take (n*1) (drop 0 row)) 0 n])))))))))))))/\flatAV (AG (take 64 (drop 0 (layS (replicate 64 (U8 0)) 0 (take 64 (drop 0 (lay (replicate 64 (U8 0)) 0 (take 20 (take 20 (drop 0 (layS (replicate 20 (U8 0)) 0 (hide (List.map U8 (digF (List.foldl addF nwS (List.map asP [XS (take (n*1) (drop 0 row)) 0 n]))))))))))))))))/\Q (AG (take 64 (drop 0 (layS (replicate 64 (U8 0)) 0 (take 64 (drop 0 (lay (replicate 64 (U8 0)) 0 (take 20 (take 20 (drop 0 (layS (replicate 20 (U8 0)) 0 (hide (List.map U8 (digF (List.foldl addF nwS (List.map asP [XS (take (n*1) (drop 0 row)) 0 n])))))))))))))))) [])/\(decide ((64:Int)<(↑n:Int))=false->((0:Int)<=(↑0:Int)/\(↑0:Int)<=(↑64:Int)/\(↑64:Int)<=(↑64:Int))/\0+n*1<=List.length row/\64<=64/\64<=List.length (lay (replicate 64 (U8 0)) 0 (take (min n 64*1) (take (n*1) (drop 0 row))))/\(List.length (take 64 (drop 0 (lay (replicate 64 (U8 0)) 0 (take (min n 64*1) (take (n*1) (drop 0 row))))))=64/\64<=64)/\64<=List.length (layS (replicate 64 (U8 0)) 0 (take 64 (drop 0 (lay (replicate 64 (U8 0)) 0 (take (min n 64*1) (take (n*1) (drop 0 row)))))))/\flatAV (AG (take 64 (drop 0 (layS (replicate 64 (U8 0)) 0 (take 64 (drop 0 (lay (replicate 64 (U8 0)) 0 (take (min n 64*1) (take (n*1) (drop 0 row))))))))))/\Q (AG (take 64 (drop 0 (layS (replicate 64 (U8 0)) 0 (take 64 (drop 0 (lay (replicate 64 (U8 0)) 0 (take (min n 64*1) (take (n*1) (drop 0 row)))))))))) [])) : KRun X 58 0 Q ([.code (bodyOf Try.f58)]) (slots [.one (.xs row 0 n)] Try.f58.ntmps) [] :=
 wpRun_ok (hX ▸ envG_ok T7 mf0 M0) (hX ▸ envG_call T7_ok M0_ok) (hX ▸ mixed) (hX ▸ ok58) LK_ok (cast (β := wpRun (envG T7 mf0 M0) [7] [] false (RS.mk Try.f58.results.toList 0 (CS.mk [] [] [0] [])) (LK X 58 0 Q true []) Q 2000 _ _ _) (by kernel_rfl) h)
theorem vc111 {X : Ctx} {Q : AV->Mem->Prop} (hX : X.P=Try.prog) (bs : List AC) (x:BitVec 8) (h : Flat bs/\Flat ([U32 0,U32 0,U32 0,U32 0,U32 0]++(replicate 64 (U8 0)++[U64 0]))/\KR X 111 0 Q (kOf Try.f111 0) (mkS 19 [(1,O1 (U8 x)),(2,O1 (PT 0 0)),(4,O1 (PT 1 0)),(6,O1 (I64 (0:Int)))]) [some bs,some ([U32 0,U32 0,U32 0,U32 0,U32 0]++(replicate 64 (U8 0)++[U64 0]))]) : KRun X 111 0 Q ([.code (bodyOf Try.f111)]) (slots [.agg bs, .one (.u8 x)] Try.f111.ntmps) [] :=
 wpRun_ok (hX ▸ envG_ok T7 mf0 M0) (hX ▸ envG_call T7_ok M0_ok) (hX ▸ mixed) (hX ▸ ok111) LK_ok (cast (β := wpRun (envG T7 mf0 M0) [7] [(6, 3)] false (RS.mk Try.f111.results.toList 0 (CS.mk [] [] [0] [])) (LK X 111 0 Q true [(2, LS.mk [1, 2, 4, 6] (CS.mk [] [true, true] [] []))]) Q 2000 _ _ _) (by kernel_rfl) h)
theorem vc111a {X : Ctx} {Q : AV->Mem->Prop} (hX : X.P=Try.prog) (bs zs : List AC) (x:BitVec 8) (i:Int) (h : (decide (i<(64:Int))=true->((0:Int)<=i/\i<(↑64:Int))/\gt AY bs (0+Int.toNat i*1)=U8 (asU8 (gt AY bs (0+Int.toNat i*1)))/\((0:Int)<=i/\i<(↑64:Int))/\(1=1/\0+Int.toNat i*1+1<=List.length bs)/\in64 (i+(1:Int))/\Flat (layS bs (0+Int.toNat i*1) [U8 (asU8 (gt AY bs (0+Int.toNat i*1))^^^x)])/\Flat zs/\KR X 111 0 Q (kOf Try.f111 0) (mkS 19 [(1,O1 (U8 x)),(2,O1 (PT 0 0)),(4,O1 (PT 1 0)),(6,O1 (I64 (i+(1:Int))))]) [some (layS bs (0+Int.toNat i*1) [U8 (asU8 (gt AY bs (0+Int.toNat i*1))^^^x)]),some zs])/\(decide (i<(64:Int))=false->((0:Int)<=(↑0:Int)/\(↑0:Int)<=(↑64:Int)/\(↑64:Int)<=(↑64:Int))/\Flat (hide (Sm.cells nwS))/\64<=List.length bs/\Flat (take 64 (drop 0 bs))/\(hide (Sm.cells nwS)=Sm.cells (smOf (hide (Sm.cells nwS)))/\List.length (hide (Sm.cells nwS))=70/\allU8 (take 64 (drop 0 bs))/\List.length (take 64 (drop 0 bs))=64)/\(List.length (hide (Sm.cells (addF (smOf (hide (Sm.cells nwS))) (List.map asU8 (take 64 (drop 0 bs))))))=70/\70<=List.length zs)/\70<=List.length (layS zs 0 (hide (Sm.cells (addF (smOf (hide (Sm.cells nwS))) (List.map asU8 (take 64 (drop 0 bs)))))))/\flatAV (AG (take 70 (drop 0 (layS zs 0 (hide (Sm.cells (addF (smOf (hide (Sm.cells nwS))) (List.map asU8 (take 64 (drop 0 bs))))))))))/\Q (AG (take 70 (drop 0 (layS zs 0 (hide (Sm.cells (addF (smOf (hide (Sm.cells nwS))) (List.map asU8 (take 64 (drop 0 bs)))))))))) [])) : KRun X 111 0 Q (kOf Try.f111 0) (mkS 19 [(1, .one (.u8 x)), (2, .one (.ptr 0 0)), (4, .one (.ptr 1 0)), (6, .one (.i64 i))]) [some bs, some zs] :=
 wpRun_ok (hX ▸ envG_ok T7 mf0 M0) (hX ▸ envG_call T7_ok M0_ok) (hX ▸ mixed) (hX ▸ ok111) LK_ok (cast (β := wpRun (envG T7 mf0 M0) [7] [(6, 3)] false (RS.mk Try.f111.results.toList 0 (CS.mk [] [] [0] [])) (LK X 111 0 Q true [(2, LS.mk [1, 2, 4, 6] (CS.mk [] [true, true] [] []))]) Q 2000 _ _ _) (by kernel_rfl) h)
theorem s58 (k : List (BitVec 8)) (hk : k.length ≤ 1000000) : Spec Try.prog 58 [.one (.xs (k.map U8) 0 k.length)] [] (Is (.agg ((blkK k).map U8))) := by
 refine Spec.of_run ok58 fun X hX => vc58 hX _ _ ⟨fun h => ?_, fun h => ?_⟩
 ·have h := of_decide_eq_true h
  have e : blkK k = ofF k ++ replicate (64 - 20) 0 := if_pos (by omega)
  simp only [hide_eq, tkm, tkP, map_as8, map_asP, asP1, asP2, e1, p1, dig_of, smOf_nw, smOf_cells, z70, layNw, lay70, tk70, layR, layC, layM, lay1, tkn, List.drop_zero, Nat.zero_add, Nat.mul_one, Nat.reduceAdd, Nat.le_refl, Nat.min_self, Nat.reduceLeDiff, same_self, Int.toNat_natCast, ofF_len', digF_len', blkK_len, trn_len, hmF_len, List.length_map, List.length_append, List.length_replicate, List.length_take, List.length_drop, Sm.len, addF_left, nwS_left', e]
  (repeat' (first | exact trivial | exact flat_u8 _ | exact Sm.flat _ | exact flatA _ | exact allU8_map _ | exact Nat.le_refl _ | refine And.intro ?_ ?_)) <;> (first | omega | rfl | decide | assumption | (unfold in64; omega) | exact List.length_map _ | skip)
 ·have h := of_decide_eq_false h
  have e : blkK k = k ++ replicate (64 - k.length) 0 := if_neg (by omega)
  have em : min k.length 64 = k.length := by omega
  have h64 : k.length ≤ 64 := by omega
  have h0 : k.length + (64 - k.length) = 64 := by omega
  simp only [hide_eq, tkm, tkP, map_as8, map_asP, asP1, asP2, e1, p1, dig_of, smOf_nw, smOf_cells, z70, layNw, lay70, tk70, layR, layC, layM, lay1, tkn, List.drop_zero, Nat.zero_add, Nat.mul_one, Nat.reduceAdd, Nat.le_refl, Nat.min_self, Nat.reduceLeDiff, same_self, Int.toNat_natCast, ofF_len', digF_len', blkK_len, trn_len, hmF_len, List.length_map, List.length_append, List.length_replicate, List.length_take, List.length_drop, Sm.len, addF_left, nwS_left', e, em]
  simp only [hide_eq, tkm, tkP, map_as8, map_asP, asP1, asP2, e1, p1, dig_of, smOf_nw, smOf_cells, z70, layNw, lay70, tk70, layR, layC, layM, lay1, tkn, List.drop_zero, Nat.zero_add, Nat.mul_one, Nat.reduceAdd, Nat.le_refl, Nat.min_self, Nat.reduceLeDiff, same_self, Int.toNat_natCast, ofF_len', digF_len', blkK_len, trn_len, hmF_len, List.length_map, List.length_append, List.length_replicate, List.length_take, List.length_drop, Sm.len, addF_left, nwS_left', h0]
  (repeat' (first | exact trivial | exact flat_u8 _ | exact Sm.flat _ | exact flatA _ | exact allU8_map _ | exact Nat.le_refl _ | refine And.intro ?_ ?_)) <;> (first | omega | rfl | decide | assumption | (unfold in64; omega) | exact List.length_map _ | skip)
theorem l111 {X : Ctx} (hX : X.P = Try.prog) (b : List (BitVec 8)) (x:BitVec 8) (hb : b.length = 64) : ∀ (d i:Nat), i + d = 64 →
  KRun X 111 0 (Is (.agg (addF nwS (b.map (· ^^^ x))).cells)) (kOf Try.f111 0) (mkS 19 [(1, .one (.u8 x)), (2, .one (.ptr 0 0)), (4, .one (.ptr 1 0)), (6, .one (.i64 i))]) [some (((b.map (· ^^^ x)).take i ++ b.drop i).map U8), some nwS.cells] := by
 have hl : (b.map (· ^^^ x)).length = b.length := List.length_map _
 intro d
 induction d with
 | zero =>
  intro i hi
  have hi : i = 64 := by omega
  subst hi
  have e := endT _ _ hl
  rw [hl, hb] at e
  refine vc111a hX _ _ _ _ ⟨fun h => absurd (of_decide_eq_true h) (by omega), fun _ => ?_⟩
  rw [e]
  simp only [hide_eq, tkm, tkP, map_as8, map_asP, asP1, asP2, e1, p1, dig_of, smOf_nw, smOf_cells, z70, layNw, lay70, tk70, layR, layC, layM, lay1, tkn, List.drop_zero, Nat.zero_add, Nat.mul_one, Nat.reduceAdd, Nat.le_refl, Nat.min_self, Nat.reduceLeDiff, same_self, Int.toNat_natCast, ofF_len', digF_len', blkK_len, trn_len, hmF_len, List.length_map, List.length_append, List.length_replicate, List.length_take, List.length_drop, Sm.len, addF_left, nwS_left', hb]
  (repeat' (first | exact trivial | exact flat_u8 _ | exact Sm.flat _ | exact flatA _ | exact allU8_map _ | exact Nat.le_refl _ | refine And.intro ?_ ?_)) <;> (first | omega | rfl | decide | assumption | (unfold in64; omega) | exact List.length_map _ | skip)
 | succ d ih =>
  intro i hi
  have hL := lenT _ _ hl (i := i)
  have hg := gt_u8_at ((b.map (· ^^^ x)).take i ++ b.drop i) i (by omega)
  rw [getT_src _ _ _ (by omega) (Nat.le_refl _)] at hg
  have hset := setT _ _ 0 (i := i) (by omega) hl
  rw [getD_map (· ^^^ x) b 0 0 (by omega)] at hset
  have ih := ih (i + 1) (by omega)
  refine vc111a hX _ _ _ _ ⟨fun _ => ?_, fun h => absurd (of_decide_eq_false h) (by omega)⟩
  simp only [ixn, hg, lay1, asU8, hset, List.length_map, hL]
  (repeat' (first | exact trivial | exact flat_u8 _ | exact Sm.flat _ | exact flatA _ | exact allU8_map _ | exact Nat.le_refl _ | refine And.intro ?_ ?_)) <;> (first | omega | rfl | decide | assumption | (unfold in64; omega) | exact List.length_map _ | skip)
  exact ⟨ih⟩
theorem s111 (b : List (BitVec 8)) (x:BitVec 8) (hb : b.length = 64) : Spec Try.prog 111 [.agg (b.map U8), .one (.u8 x)] [] (Is (.agg (addF nwS (b.map (· ^^^ x))).cells)) := by
 refine Spec.of_run ok111 fun X hX => vc111 hX _ _ ?_
 have K := l111 hX b x hb 64 0 rfl
 rw [begT] at K
 simp only [z70]
 (repeat' (first | exact trivial | exact flat_u8 _ | exact Sm.flat _ | exact flatA _ | exact allU8_map _ | exact Nat.le_refl _ | refine And.intro ?_ ?_)) <;> (first | omega | rfl | decide | assumption | (unfold in64; omega) | exact List.length_map _ | skip)
 exact ⟨K⟩
noncomputable def T8 : Tab := fun f xs => match f, xs with
 | 58, [.one (.xs row 0 n)] => some ([allU8 row ∧ row.length = n ∧ n ≤ 1000000], .agg (hide ((blkK (row.map asU8)).map U8)))
 | 111, [.agg bs, .one (.u8 x)] => some ([allU8 bs ∧ bs.length = 64], .agg (hide (addF nwS ((bs.map asU8).map (· ^^^ x))).cells))
 | f, xs => T7 f xs
theorem T8_ok : TabOk Try.prog T8 := by
 intro f xs cs r h hc
 unfold T8 at h
 split at h
 ·obtain ⟨rfl, rfl⟩ := Prod.mk.inj (Option.some.inj h)
  obtain ⟨h1, h2, h3⟩ := hc.1
  rename_i row n
  have := s58 (row.map asU8) (by rw [List.length_map]; omega)
  rw [← h1, List.length_map, h2] at this
  rw [hide_eq]
  exact ⟨⟨_, _, ok58⟩, this, exactL_map _ (fun _ => rfl) _⟩
 ·obtain ⟨rfl, rfl⟩ := Prod.mk.inj (Option.some.inj h)
  obtain ⟨h1, h2⟩ := hc.1
  rename_i row x
  have := s111 (row.map asU8) x (by rw [List.length_map]; omega)
  rw [← h1] at this
  rw [hide_eq]
  exact ⟨⟨_, _, ok111⟩, this, Sm.exact _⟩
 ·exact T7_ok _ _ _ _ h hc
noncomputable def M8 : TabM := fun _ _ _ => none
noncomputable def mf8 : FuncId → Option MF := fun f => match f with
 | 112 => some { cs := { kinds := [], fl := [] }, flo := [true] }
 | _ => none
theorem M8_ok : TabMOk Try.prog M8 := by
 intro f xs m cs r m1 h hc
 cases h
theorem vc59 {X : Ctx} {Q : AV->Mem->Prop} (hX : X.P=Try.prog) (row ps : List AC) (n k:Nat) (h : 0+n*1<=List.length row/\(allU8 (take (n*1) (drop 0 row))/\List.length (take (n*1) (drop 0 row))=n/\n<=1000000)/\(List.length (hide (List.map U8 (blkK (List.map asU8 (take (n*1) (drop 0 row))))))=64/\64<=64)/\64<=List.length (layS (replicate 64 (U8 0)) 0 (hide (List.map U8 (blkK (List.map asU8 (take (n*1) (drop 0 row)))))))/\Flat (take 64 (drop 0 (layS (replicate 64 (U8 0)) 0 (hide (List.map U8 (blkK (List.map asU8 (take (n*1) (drop 0 row)))))))))/\(allU8 (take 64 (drop 0 (layS (replicate 64 (U8 0)) 0 (hide (List.map U8 (blkK (List.map asU8 (take (n*1) (drop 0 row)))))))))/\List.length (take 64 (drop 0 (layS (replicate 64 (U8 0)) 0 (hide (List.map U8 (blkK (List.map asU8 (take (n*1) (drop 0 row)))))))))=64)/\(List.length (hide (Sm.cells (addF nwS (List.map (fun (x:BitVec 8) ↦ x^^^BitVec.ofInt 8 54) (List.map asU8 (take 64 (drop 0 (layS (replicate 64 (U8 0)) 0 (hide (List.map U8 (blkK (List.map asU8 (take (n*1) (drop 0 row))))))))))))))=70/\70<=70)/\Flat (replicate 20 (U8 0))/\Flat (layS (replicate 64 (U8 0)) 0 (hide (List.map U8 (blkK (List.map asU8 (take (n*1) (drop 0 row)))))))/\Flat (layS ([U32 0,U32 0,U32 0,U32 0,U32 0]++(replicate 64 (U8 0)++[U64 0])) 0 (hide (Sm.cells (addF nwS (List.map (fun (x:BitVec 8) ↦ x^^^BitVec.ofInt 8 54) (List.map asU8 (take 64 (drop 0 (layS (replicate 64 (U8 0)) 0 (hide (List.map U8 (blkK (List.map asU8 (take (n*1) (drop 0 row)))))))))))))))/\KR X 59 0 Q (kOf Try.f59 0) (mkS 31 [(4,O1 (PT 0 0)),(5,O1 (PT 1 0)),(6,O1 (PT 2 0)),(14,O1 (XS ps 0 k)),(15,O1 (I64 (↑k:Int))),(16,O1 (I64 (0:Int)))]) [some (replicate 20 (U8 0)),some (layS (replicate 64 (U8 0)) 0 (hide (List.map U8 (blkK (List.map asU8 (take (n*1) (drop 0 row))))))),some (layS ([U32 0,U32 0,U32 0,U32 0,U32 0]++(replicate 64 (U8 0)++[U64 0])) 0 (hide (Sm.cells (addF nwS (List.map (fun (x:BitVec 8) ↦ x^^^BitVec.ofInt 8 54) (List.map asU8 (take 64 (drop 0 (layS (replicate 64 (U8 0)) 0 (hide (List.map U8 (blkK (List.map asU8 (take (n*1) (drop 0 row)))))))))))))))]) : KRun X 59 0 Q ([.code (bodyOf Try.f59)]) (slots [.one (.xs row 0 n), .one (.xs ps 0 k)] Try.f59.ntmps) [] :=
 wpRun_ok (hX ▸ envG_ok T8 mf8 M8) (hX ▸ envG_call T8_ok M8_ok) (hX ▸ mixed) (hX ▸ ok59) LK_ok (cast (β := wpRun (envG T8 mf8 M8) [17] [(9, 5)] false (RS.mk Try.f59.results.toList 0 (CS.mk [] [] [0] [])) (LK X 59 0 Q true [(4, LS.mk [4, 5, 6, 14, 15, 16] (CS.mk [] [true, true, true] [] []))]) Q 2000 _ _ _) (by kernel_rfl) h)
theorem vc59a {X : Ctx} {Q : AV->Mem->Prop} (hX : X.P=Try.prog) (zs bs ss ps : List AC) (k:Nat) (i:Int) (h : (decide (i<(↑k:Int))=true->((0:Int)<=i/\i<(↑k:Int))/\gt AY ps (0+Int.toNat i*1)=XS (xsRow (gt AY ps (0+Int.toNat i*1))) (xsOff (gt AY ps (0+Int.toNat i*1))) (xsLen (gt AY ps (0+Int.toNat i*1)))/\70<=List.length ss/\Flat (take 70 (drop 0 ss))/\xsOff (gt AY ps (0+Int.toNat i*1))+xsLen (gt AY ps (0+Int.toNat i*1))*1<=List.length (xsRow (gt AY ps (0+Int.toNat i*1)))/\(take 70 (drop 0 ss)=Sm.cells (smOf (take 70 (drop 0 ss)))/\List.length (take 70 (drop 0 ss))=70/\allU8 (take (xsLen (gt AY ps (0+Int.toNat i*1))*1) (drop (xsOff (gt AY ps (0+Int.toNat i*1))) (xsRow (gt AY ps (0+Int.toNat i*1)))))/\List.length (take (xsLen (gt AY ps (0+Int.toNat i*1))*1) (drop (xsOff (gt AY ps (0+Int.toNat i*1))) (xsRow (gt AY ps (0+Int.toNat i*1)))))=xsLen (gt AY ps (0+Int.toNat i*1)))/\(List.length (hide (Sm.cells (addF (smOf (take 70 (drop 0 ss))) (List.map asU8 (take (xsLen (gt AY ps (0+Int.toNat i*1))*1) (drop (xsOff (gt AY ps (0+Int.toNat i*1))) (xsRow (gt AY ps (0+Int.toNat i*1)))))))))=70/\70<=List.length ss)/\in64 (i+(1:Int))/\Flat zs/\Flat bs/\Flat (layS ss 0 (hide (Sm.cells (addF (smOf (take 70 (drop 0 ss))) (List.map asU8 (take (xsLen (gt AY ps (0+Int.toNat i*1))*1) (drop (xsOff (gt AY ps (0+Int.toNat i*1))) (xsRow (gt AY ps (0+Int.toNat i*1))))))))))/\KR X 59 0 Q (kOf Try.f59 0) (mkS 31 [(4,O1 (PT 0 0)),(5,O1 (PT 1 0)),(6,O1 (PT 2 0)),(14,O1 (XS ps 0 k)),(15,O1 (I64 (↑k:Int))),(16,O1 (I64 (i+(1:Int))))]) [some zs,some bs,some (layS ss 0 (hide (Sm.cells (addF (smOf (take 70 (drop 0 ss))) (List.map asU8 (take (xsLen (gt AY ps (0+Int.toNat i*1))*1) (drop (xsOff (gt AY ps (0+Int.toNat i*1))) (xsRow (gt AY ps (0+Int.toNat i*1))))))))))])/\(decide (i<(↑k:Int))=false->70<=List.length ss/\Flat (take 70 (drop 0 ss))/\(take 70 (drop 0 ss)=Sm.cells (smOf (take 70 (drop 0 ss)))/\List.length (take 70 (drop 0 ss))=70)/\(List.length (hide (List.map U8 (digF (smOf (take 70 (drop 0 ss))))))=20/\20<=20)/\64<=List.length bs/\Flat (take 64 (drop 0 bs))/\(allU8 (take 64 (drop 0 bs))/\List.length (take 64 (drop 0 bs))=64)/\((0:Int)<=(↑0:Int)/\(↑0:Int)<=(↑20:Int)/\(↑20:Int)<=(↑20:Int))/\Flat (hide (Sm.cells (addF nwS (List.map (fun (x:BitVec 8) ↦ x^^^BitVec.ofInt 8 92) (List.map asU8 (take 64 (drop 0 bs)))))))/\20<=List.length (layS (replicate 20 (U8 0)) 0 (hide (List.map U8 (digF (smOf (take 70 (drop 0 ss)))))))/\Flat (take 20 (drop 0 (layS (replicate 20 (U8 0)) 0 (hide (List.map U8 (digF (smOf (take 70 (drop 0 ss)))))))))/\(hide (Sm.cells (addF nwS (List.map (fun (x:BitVec 8) ↦ x^^^BitVec.ofInt 8 92) (List.map asU8 (take 64 (drop 0 bs))))))=Sm.cells (smOf (hide (Sm.cells (addF nwS (List.map (fun (x:BitVec 8) ↦ x^^^BitVec.ofInt 8 92) (List.map asU8 (take 64 (drop 0 bs))))))))/\List.length (hide (Sm.cells (addF nwS (List.map (fun (x:BitVec 8) ↦ x^^^BitVec.ofInt 8 92) (List.map asU8 (take 64 (drop 0 bs)))))))=70/\allU8 (take 20 (drop 0 (layS (replicate 20 (U8 0)) 0 (hide (List.map U8 (digF (smOf (take 70 (drop 0 ss)))))))))/\List.length (take 20 (drop 0 (layS (replicate 20 (U8 0)) 0 (hide (List.map U8 (digF (smOf (take 70 (drop 0 ss)))))))))=20)/\Flat (hide (Sm.cells (addF (smOf (hide (Sm.cells (addF nwS (List.map (fun (x:BitVec 8) ↦ x^^^BitVec.ofInt 8 92) (List.map asU8 (take 64 (drop 0 bs)))))))) (List.map asU8 (take 20 (drop 0 (layS (replicate 20 (U8 0)) 0 (hide (List.map U8 (digF (smOf (take 70 (drop 0 ss)))))))))))))/\(hide (Sm.cells (addF (smOf (hide (Sm.cells (addF nwS (List.map (fun (x:BitVec 8) ↦ x^^^BitVec.ofInt 8 92) (List.map asU8 (take 64 (drop 0 bs)))))))) (List.map asU8 (take 20 (drop 0 (layS (replicate 20 (U8 0)) 0 (hide (List.map U8 (digF (smOf (take 70 (drop 0 ss))))))))))))=Sm.cells (smOf (hide (Sm.cells (addF (smOf (hide (Sm.cells (addF nwS (List.map (fun (x:BitVec 8) ↦ x^^^BitVec.ofInt 8 92) (List.map asU8 (take 64 (drop 0 bs)))))))) (List.map asU8 (take 20 (drop 0 (layS (replicate 20 (U8 0)) 0 (hide (List.map U8 (digF (smOf (take 70 (drop 0 ss))))))))))))))/\List.length (hide (Sm.cells (addF (smOf (hide (Sm.cells (addF nwS (List.map (fun (x:BitVec 8) ↦ x^^^BitVec.ofInt 8 92) (List.map asU8 (take 64 (drop 0 bs)))))))) (List.map asU8 (take 20 (drop 0 (layS (replicate 20 (U8 0)) 0 (hide (List.map U8 (digF (smOf (take 70 (drop 0 ss)))))))))))))=70)/\(List.length (hide (List.map U8 (digF (smOf (hide (Sm.cells (addF (smOf (hide (Sm.cells (addF nwS (List.map (fun (x:BitVec 8) ↦ x^^^BitVec.ofInt 8 92) (List.map asU8 (take 64 (drop 0 bs)))))))) (List.map asU8 (take 20 (drop 0 (layS (replicate 20 (U8 0)) 0 (hide (List.map U8 (digF (smOf (take 70 (drop 0 ss)))))))))))))))))=20/\20<=List.length zs)/\20<=List.length (layS zs 0 (hide (List.map U8 (digF (smOf (hide (Sm.cells (addF (smOf (hide (Sm.cells (addF nwS (List.map (fun (x:BitVec 8) ↦ x^^^BitVec.ofInt 8 92) (List.map asU8 (take 64 (drop 0 bs)))))))) (List.map asU8 (take 20 (drop 0 (layS (replicate 20 (U8 0)) 0 (hide (List.map U8 (digF (smOf (take 70 (drop 0 ss))))))))))))))))))/\flatAV (AG (take 20 (drop 0 (layS zs 0 (hide (List.map U8 (digF (smOf (hide (Sm.cells (addF (smOf (hide (Sm.cells (addF nwS (List.map (fun (x:BitVec 8) ↦ x^^^BitVec.ofInt 8 92) (List.map asU8 (take 64 (drop 0 bs)))))))) (List.map asU8 (take 20 (drop 0 (layS (replicate 20 (U8 0)) 0 (hide (List.map U8 (digF (smOf (take 70 (drop 0 ss)))))))))))))))))))))/\Q (AG (take 20 (drop 0 (layS zs 0 (hide (List.map U8 (digF (smOf (hide (Sm.cells (addF (smOf (hide (Sm.cells (addF nwS (List.map (fun (x:BitVec 8) ↦ x^^^BitVec.ofInt 8 92) (List.map asU8 (take 64 (drop 0 bs)))))))) (List.map asU8 (take 20 (drop 0 (layS (replicate 20 (U8 0)) 0 (hide (List.map U8 (digF (smOf (take 70 (drop 0 ss))))))))))))))))))))) [])) : KRun X 59 0 Q (kOf Try.f59 0) (mkS 31 [(4, .one (.ptr 0 0)), (5, .one (.ptr 1 0)), (6, .one (.ptr 2 0)), (14, .one (.xs ps 0 k)), (15, .one (.i64 k)), (16, .one (.i64 i))]) [some zs, some bs, some ss] :=
 wpRun_ok (hX ▸ envG_ok T8 mf8 M8) (hX ▸ envG_call T8_ok M8_ok) (hX ▸ mixed) (hX ▸ ok59) LK_ok (cast (β := wpRun (envG T8 mf8 M8) [17] [(9, 5)] false (RS.mk Try.f59.results.toList 0 (CS.mk [] [] [0] [])) (LK X 59 0 Q true [(4, LS.mk [4, 5, 6, 14, 15, 16] (CS.mk [] [true, true, true] [] []))]) Q 2000 _ _ _) (by kernel_rfl) h)
theorem o54 : BitVec.ofInt 8 54 = 54#8 := rfl
theorem o92 : BitVec.ofInt 8 92 = 92#8 := rfl
theorem l59 {X : Ctx} (hX : X.P = Try.prog) (k : List (BitVec 8)) (ps : List (List (BitVec 8))) (hps : ps.length ≤ 1000000) : ∀ (d i:Nat), i + d = ps.length →
  KRun X 59 0 (Is (.agg ((hmF k ps.flatten).map U8))) (kOf Try.f59 0) (mkS 31 [(4, .one (.ptr 0 0)), (5, .one (.ptr 1 0)), (6, .one (.ptr 2 0)), (14, .one (.xs (ps.map encP) 0 ps.length)), (15, .one (.i64 ps.length)), (16, .one (.i64 i))])
   [some (replicate 20 (U8 0)), some ((blkK k).map U8), some (addF (addF nwS (trn k 54)) (ps.take i).flatten).cells] := by
 have z : Flat (replicate 20 (U8 0)) := by rw [mrep]; exact flat_u8 _
 intro d
 induction d with
 | zero =>
  intro i hi
  have hi : i = ps.length := by omega
  subst hi
  have e92 : ∀ l : List (BitVec 8), List.map (fun x => x ^^^ 92#8) l = List.map (· ^^^ 92#8) l := fun _ => rfl
  have ed : digF (addF (addF nwS (trn k 92)) (digF (addF (addF nwS (trn k 54)) ps.flatten))) = hmF k ps.flatten := by
   rw [← addF_app nwS (trn k 54), dig_of, ← addF_app, dig_of]; rfl
  have et : List.map (fun x => x ^^^ 92#8) (blkK k) = trn k 92 := rfl
  refine vc59a hX _ _ _ _ _ _ ⟨fun h => absurd (of_decide_eq_true h) (by omega), fun _ => ?_⟩
  rw [List.take_length]
  simp only [hide_eq, tkm, tkP, map_as8, map_asP, asP1, asP2, e1, p1, dig_of, smOf_nw, smOf_cells, z70, layNw, lay70, tk70, layR, layC, layM, lay1, tkn, List.drop_zero, Nat.zero_add, Nat.mul_one, Nat.reduceAdd, Nat.le_refl, Nat.min_self, Nat.reduceLeDiff, same_self, Int.toNat_natCast, ofF_len', digF_len', blkK_len, trn_len, hmF_len, List.length_map, List.length_append, List.length_replicate, List.length_take, List.length_drop, Sm.len, addF_left, nwS_left', o92, et, ed]
  (repeat' (first | exact trivial | exact flat_u8 _ | exact Sm.flat _ | exact flatA _ | exact allU8_map _ | exact Nat.le_refl _ | refine And.intro ?_ ?_)) <;> (first | omega | rfl | decide | assumption | (unfold in64; omega) | exact List.length_map _ | skip)
 | succ d ih =>
  intro i hi
  have hg := gt_P_at ps i (by omega)
  have ih := ih (i + 1) (by omega)
  rw [flat_take ps i (by omega), addF_app] at ih
  refine vc59a hX _ _ _ _ _ _ ⟨fun _ => ?_, fun h => absurd (of_decide_eq_false h) (by omega)⟩
  simp only [ixn, hg, encP, xsRow, xsOff, xsLen, hide_eq, tkm, tkP, map_as8, map_asP, asP1, asP2, e1, p1, dig_of, smOf_nw, smOf_cells, z70, layNw, lay70, tk70, layR, layC, layM, lay1, tkn, List.drop_zero, Nat.zero_add, Nat.mul_one, Nat.reduceAdd, Nat.le_refl, Nat.min_self, Nat.reduceLeDiff, same_self, Int.toNat_natCast, ofF_len', digF_len', blkK_len, trn_len, hmF_len, List.length_map, List.length_append, List.length_replicate, List.length_take, List.length_drop, Sm.len, addF_left, nwS_left']
  (repeat' (first | exact trivial | exact flat_u8 _ | exact Sm.flat _ | exact flatA _ | exact allU8_map _ | exact Nat.le_refl _ | refine And.intro ?_ ?_)) <;> (first | omega | rfl | decide | assumption | (unfold in64; omega) | exact List.length_map _ | skip)
  exact ⟨ih⟩
theorem s59 (k : List (BitVec 8)) (ps : List (List (BitVec 8))) (hk : k.length ≤ 1000000) (hps : ps.length ≤ 1000000) : Spec Try.prog 59 [.one (.xs (k.map U8) 0 k.length), .one (.xs (ps.map encP) 0 ps.length)] [] (Is (.agg ((hmF k ps.flatten).map U8))) := by
 refine Spec.of_run ok59 fun X hX => vc59 hX _ _ _ _ ?_
 have et : List.map (fun x => x ^^^ 54#8) (blkK k) = trn k 54 := rfl
 have K := l59 hX k ps hps ps.length 0 (by omega)
 rw [List.take_zero] at K
 have z : Flat (replicate 20 (U8 0)) := by rw [mrep]; exact flat_u8 _
 simp only [hide_eq, tkm, tkP, map_as8, map_asP, asP1, asP2, e1, p1, dig_of, smOf_nw, smOf_cells, z70, layNw, lay70, tk70, layR, layC, layM, lay1, tkn, List.drop_zero, Nat.zero_add, Nat.mul_one, Nat.reduceAdd, Nat.le_refl, Nat.min_self, Nat.reduceLeDiff, same_self, Int.toNat_natCast, ofF_len', digF_len', blkK_len, trn_len, hmF_len, List.length_map, List.length_append, List.length_replicate, List.length_take, List.length_drop, Sm.len, addF_left, nwS_left', o54, et]
 (repeat' (first | exact trivial | exact flat_u8 _ | exact Sm.flat _ | exact flatA _ | exact allU8_map _ | exact Nat.le_refl _ | refine And.intro ?_ ?_)) <;> (first | omega | rfl | decide | assumption | (unfold in64; omega) | exact List.length_map _ | skip)
 exact ⟨K⟩
noncomputable def T9 : Tab := fun f xs => match f, xs with
 | 59, [.one (.xs row 0 n), .one (.xs ps 0 k)] => some ([allU8 row ∧ row.length = n ∧ n ≤ 1000000 ∧ ps = (ps.map asP).map encP ∧ ps.length = k ∧ k ≤ 1000000], .agg (hide ((hmF (row.map asU8) (ps.map asP).flatten).map U8)))
 | f, xs => T8 f xs
theorem T9_ok : TabOk Try.prog T9 := by
 intro f xs cs r h hc
 unfold T9 at h
 split at h
 ·obtain ⟨rfl, rfl⟩ := Prod.mk.inj (Option.some.inj h)
  obtain ⟨h1, h2, h3, h4, h5, h6⟩ := hc.1
  rename_i row n ps k
  have := s59 (row.map asU8) (ps.map asP) (by rw [List.length_map]; omega) (by rw [List.length_map]; omega)
  rw [← h1, ← h4, List.length_map, List.length_map, h2, h5] at this
  rw [hide_eq]
  exact ⟨⟨_, _, ok59⟩, this, exactL_map _ (fun _ => rfl) _⟩
 ·exact T8_ok _ _ _ _ h hc
end DH
noncomputable section
namespace DH
set_option maxRecDepth 100000
open List (take drop replicate)
open AC renaming u8 → U8, u16 → U16, u32 → U32, u64 → U64, i64 → I64, b → Bb, xs → XS, gs → GS, sv → SV, ptr → PT, any → AY, ns → NS
open AV renaming one → O1, agg → AG, tup → TU
open Go Go.Proofs
noncomputable def inlI : Inl := fun f => match f with
 | 36 => some (Try.f36, [])
 | 56 => some (Try.f56, [])
 | _ => none
theorem inlI_ok : InlOk Try.prog inlI := by
 intro f fn hs h
 unfold inlI at h
 split at h <;> first | (cases h; done) | (obtain ⟨rfl, _⟩ := Prod.mk.inj (Option.some.inj h); first | exact ok36 | exact ok56)
def symI (t : TypeId) : Bool := match t with | 28 => true | 40 => true | t => symH t
noncomputable def baseI (T : Tab) (mf : FuncId → Option MF) (M : TabM) : Env := ⟨tys, symI, false, T, [], mf, M, fun _ => none⟩
theorem baseI_ok (T : Tab) (mf : FuncId → Option MF) (M : TabM) : EnvOk Try.prog (baseI T mf M) := EnvOk.of tysOk
theorem baseI_call {T : Tab} {mf : FuncId → Option MF} {M : TabM} (hT : TabOk Try.prog T) (hM : TabMOk Try.prog M) : CallOk Try.prog (baseI T mf M) :=
 ⟨hT, fun f mf xs m0 cs r m1 _ h hc => hM f xs m0 cs r m1 h hc, (by intro f k h; cases h)⟩
noncomputable def envI (T : Tab) (mf : FuncId → Option MF) (M : TabM) : Env := inlE (baseI T mf M) inlI 2
theorem envI_ok (T : Tab) (mf : FuncId → Option MF) (M : TabM) : EnvOk Try.prog (envI T mf M) := inlE_envOk (baseI_ok T mf M) _ _
theorem envI_call {T : Tab} {mf : FuncId → Option MF} {M : TabM} (hT : TabOk Try.prog T) (hM : TabMOk Try.prog M) : CallOk Try.prog (envI T mf M) :=
 inlE_ok (baseI_ok T mf M) (baseI_call hT hM) mixed inlI_ok 2
theorem vc61 {X : Ctx} {Q : AV->Mem->Prop} (hX : X.P=Try.prog) (row ps : List AC) (n k:Nat) (h : 0+n*1<=List.length row/\0+k*1<=List.length ps/\(allU8 (take (n*1) (drop 0 row))/\List.length (take (n*1) (drop 0 row))=n/\n<=1000000/\take (k*1) (drop 0 ps)=List.map encP (List.map asP (take (k*1) (drop 0 ps)))/\List.length (take (k*1) (drop 0 ps))=k/\k<=1000000)/\(List.length (hide (List.map U8 (hmF (List.map asU8 (take (n*1) (drop 0 row))) (List.flatten (List.map asP (take (k*1) (drop 0 ps)))))))=20/\20<=20)/\((0:Int)<=(↑0:Int)/\(↑0:Int)<=(12:Int)/\(12:Int)<=(↑20:Int))/\12<=12/\12<=List.length (layS (replicate 20 (U8 0)) 0 (hide (List.map U8 (hmF (List.map asU8 (take (n*1) (drop 0 row))) (List.flatten (List.map asP (take (k*1) (drop 0 ps))))))))/\(List.length (take 12 (drop 0 (layS (replicate 20 (U8 0)) 0 (hide (List.map U8 (hmF (List.map asU8 (take (n*1) (drop 0 row))) (List.flatten (List.map asP (take (k*1) (drop 0 ps))))))))))=12/\12<=12)/\12<=List.length (layS (replicate 12 (U8 0)) 0 (take 12 (drop 0 (layS (replicate 20 (U8 0)) 0 (hide (List.map U8 (hmF (List.map asU8 (take (n*1) (drop 0 row))) (List.flatten (List.map asP (take (k*1) (drop 0 ps)))))))))))/\flatAV (AG (take 12 (drop 0 (layS (replicate 12 (U8 0)) 0 (take 12 (drop 0 (layS (replicate 20 (U8 0)) 0 (hide (List.map U8 (hmF (List.map asU8 (take (n*1) (drop 0 row))) (List.flatten (List.map asP (take (k*1) (drop 0 ps))))))))))))))/\Q (AG (take 12 (drop 0 (layS (replicate 12 (U8 0)) 0 (take 12 (drop 0 (layS (replicate 20 (U8 0)) 0 (hide (List.map U8 (hmF (List.map asU8 (take (n*1) (drop 0 row))) (List.flatten (List.map asP (take (k*1) (drop 0 ps)))))))))))))) []) : KRun X 61 0 Q ([.code (bodyOf Try.f61)]) (slots [.one (.xs row 0 n), .one (.xs ps 0 k)] Try.f61.ntmps) [] :=
 wpRun_ok (hX ▸ envI_ok T9 mf8 M8) (hX ▸ envI_call T9_ok M8_ok) (hX ▸ mixed) (hX ▸ ok61) LK_ok (cast (β := wpRun (envI T9 mf8 M8) [] [] false (RS.mk Try.f61.results.toList 0 (CS.mk [] [] [0] [])) (LK X 61 0 Q true []) Q 2000 _ _ _) (by kernel_rfl) h)
theorem m12 : min 12 20 = 12 := Nat.le_antisymm (by decide) (by decide)
def shF (k m : List (BitVec 8)) : List (BitVec 8) := (hmF k m).take 12
theorem shF_len (k m : List (BitVec 8)) : (shF k m).length = 12 := Nat.le_antisymm (Nat.le_refl _) (Nat.le_refl _)
theorem s61 (k : List (BitVec 8)) (ps : List (List (BitVec 8))) (hk : k.length ≤ 1000000) (hps : ps.length ≤ 1000000) : Spec Try.prog 61 [.one (.xs (k.map U8) 0 k.length), .one (.xs (ps.map encP) 0 ps.length)] [] (Is (.agg ((shF k ps.flatten).map U8))) := by
 refine Spec.of_run ok61 fun X hX => vc61 hX _ _ _ _ ?_
 have e : take 12 (hmF k ps.flatten) = shF k ps.flatten := rfl
 simp only [hide_eq, tkm, tk0, m12, tkP, map_as8, map_asP, asP1, asP2, e1, p1, dig_of, smOf_nw, smOf_cells, z70, layNw, lay70, tk70, layR, layC, layM, lay1, tkn, List.drop_zero, Nat.zero_add, Nat.mul_one, Nat.reduceAdd, Nat.le_refl, Nat.min_self, Nat.reduceLeDiff, same_self, Int.toNat_natCast, ofF_len', digF_len', blkK_len, trn_len, hmF_len, shF_len, List.length_map, List.length_append, List.length_replicate, List.length_take, List.length_drop, Sm.len, addF_left, nwS_left', e]
 (repeat' (first | exact trivial | exact flat_u8 _ | exact Sm.flat _ | exact flatA _ | exact allU8_map _ | exact Nat.le_refl _ | exact fin | refine And.intro ?_ ?_)) <;> (first | omega | rfl | decide | assumption | (unfold in64; omega) | exact List.length_map _ | skip)
noncomputable def T10 : Tab := fun f xs => match f, xs with
 | 61, [.one (.xs row 0 n), .one (.xs ps 0 k)] => some ([allU8 row ∧ row.length = n ∧ n ≤ 1000000 ∧ ps = (ps.map asP).map encP ∧ ps.length = k ∧ k ≤ 1000000], .agg (hide ((shF (row.map asU8) (ps.map asP).flatten).map U8)))
 | f, xs => T9 f xs
theorem T10_ok : TabOk Try.prog T10 := by
 intro f xs cs r h hc
 unfold T10 at h
 split at h
 ·obtain ⟨rfl, rfl⟩ := Prod.mk.inj (Option.some.inj h)
  obtain ⟨h1, h2, h3, h4, h5, h6⟩ := hc.1
  rename_i row n ps k
  have := s61 (row.map asU8) (ps.map asP) (by rw [List.length_map]; omega) (by rw [List.length_map]; omega)
  rw [← h1, ← h4, List.length_map, List.length_map, h2, h5] at this
  rw [hide_eq]
  exact ⟨⟨_, _, ok61⟩, this, exactL_map _ (fun _ => rfl) _⟩
 ·exact T9_ok _ _ _ _ h hc
end DH
noncomputable section
namespace DH
set_option maxRecDepth 100000
open List (take drop replicate)
open AC renaming u8 → U8, u16 → U16, u32 → U32, u64 → U64, i64 → I64, b → Bb, xs → XS, gs → GS, sv → SV, ptr → PT, any → AY, ns → NS
open AV renaming one → O1, agg → AG, tup → TU
open Go Go.Proofs
end DH
noncomputable section
namespace DH
set_option maxRecDepth 100000
open List (take drop replicate)
open AC renaming u8 → U8, u16 → U16, u32 → U32, u64 → U64, i64 → I64, b → Bb, xs → XS, gs → GS, sv → SV, ptr → PT, any → AY, ns → NS
open AV renaming one → O1, agg → AG, tup → TU
open Go Go.Proofs
end DH
