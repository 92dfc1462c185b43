/- Walks of functions, each by evaluation: what each returns; with the layer beneath. -/
import Derived.Test.YtdnggeocdocomaaHA
import Derived.Test.YtdnggeocdocomaaLC
set_option linter.unusedVariables false
set_option linter.unusedSimpArgs false
noncomputable section
namespace DH
set_option maxRecDepth 100000
open List (take drop replicate)
open AC renaming u8 → U8, u16 → Va, u32 → Fa, u64 → Nc, i64 → I64, b → Bb, xs → XS, gs → GS, sv → SV, ptr → PT, any → AY, ns → NS
open AV renaming one → O1, agg → AG, Ec → TU
open Go Go.Proofs
def symF (t : TypeId) : Bool := match t with | 22 => true | t => symH t
noncomputable def baseF (T : Tab) (mf : FuncId → Option MF) (M : Ad) : Env := ⟨tys, symF, false, T, [], mf, M, fun _ => none⟩
theorem baseF_ok (T : Tab) (mf : FuncId → Option MF) (M : Ad) : Eb Try.prog (baseF T mf M) := Eb.of tysOk
theorem baseF_call {T : Tab} {mf : FuncId → Option MF} {M : Ad} (hT : Oc Try.prog T) (hM : Xc Try.prog M) : Bc Try.prog (baseF T mf M) :=
 ⟨hT, fun f mf xs m0 cs r m1 _ h hc => hM f xs m0 cs r m1 h hc, (by intro f k h; cases h)⟩
noncomputable def envF (T : Tab) (mf : FuncId → Option MF) (M : Ad) : Env := inlE (baseF T mf M) inlH 2
theorem envF_ok (T : Tab) (mf : FuncId → Option MF) (M : Ad) : Eb Try.prog (envF T mf M) := inlE_envOk (baseF_ok T mf M) _ _
theorem envF_call {T : Tab} {mf : FuncId → Option MF} {M : Ad} (hT : Oc Try.prog T) (hM : Xc Try.prog M) : Bc Try.prog (envF T mf M) :=
 inlE_ok (baseF_ok T mf M) (baseF_call hT hM) mixed inlH_ok 2
noncomputable def T5 : Tab := fun f xs => match f, xs with
 | 42, [.agg cs] => some ([cs = (smOf cs).cells ∧ cs.length = 70], .agg (hide ((digF (smOf cs)).map U8)))
 | f, xs => T4 f xs
theorem T5_ok : Oc Try.prog T5 := by
 intro f xs cs r h hc
 unfold T5 at h
 split at h
 ·obtain ⟨rfl, rfl⟩ := Prod.mk.inj (Option.some.inj h)
  obtain ⟨h1, h2⟩ := hc.1
  rename_i cs
  have hl : (smOf cs).left.length = 64 := by have := (smOf cs).len; rw [← h1] at this; omega
  have := s42 (smOf cs) hl
  rw [← h1] at this
  rw [Ja]
  exact ⟨⟨_, _, ok42⟩, this, Jb _ (fun _ => rfl) _⟩
 ·exact T4_ok _ _ _ _ h hc
def WHB0 : WC := ⟨envF T5 mf0 M0,envF_ok T5 mf0 M0,envF_call T5_ok M0_ok⟩
theorem vc38 {X} {Q : QT} (hX : PX X) (row : List AC) (n:Nat) (h : 70<=70/\(70=70/\70<=70)/\(70=70/\70<=70)/\Flat (replicate 20 (U8 0))/\Flat (Qa ([Fa 0,Fa 0,Fa 0,Fa 0,Fa 0]++(replicate 64 (U8 0)++[Nc 0])) 0 (take 70 (drop 0 (Qa ([Fa 0,Fa 0,Fa 0,Fa 0,Fa 0]++(replicate 64 (U8 0)++[Nc 0])) 0 ([Fa 0,Fa 0,Fa 0,Fa 0,Fa 0]++(replicate 64 (U8 0)++[Nc 0]))))))/\KR X 38 0 Q (Fb Try.f38 0) (mkS 19 [(2,O1 (PT 0 0)),(3,O1 (PT 1 0)),(7,O1 (XS row 0 n)),(8,O1 (I64 (↑n:Int))),(9,O1 (I64 (0:Int)))]) [some (replicate 20 (U8 0)),some ([Fa 0,Fa 0,Fa 0,Fa 0,Fa 0]++(replicate 64 (U8 0)++[Nc 0]))]) : Ia X 38 0 Q ([.code (Na Try.f38)]) (slots [.one (.xs row 0 n)] Try.f38.ntmps) [] :=
 wR' hX WHB0 ok38 [10] [] false (CS.mk [] [] [0] []) true [(3,LS.mk [2,3,7,8,9] (CS.mk [] [] [] []))] 2000 h (by kernel_rfl)
theorem vc38a {X} {Q : QT} (hX : PX X) (cs zs row : List AC) (n:Nat) (i:Int) (h : (fun D2 : Sm=>(fun D1 : Nat=>(fun D0 : Sm=>(decide (i<(↑n:Int))=true->((0:Int)<=i/\i<(↑n:Int))/\gt AY row D1=XS (Td (gt AY row D1)) (xsOff (gt AY row D1)) (xsLen (gt AY row D1))/\70<=List.length cs/\Flat (take 70 (drop 0 cs))/\xsOff (gt AY row D1)+xsLen (gt AY row D1)*1<=List.length (Td (gt AY row D1))/\(take 70 (drop 0 cs)=Sm.cells D2/\List.length (take 70 (drop 0 cs))=70/\Oa (take (xsLen (gt AY row D1)*1) (drop (xsOff (gt AY row D1)) (Td (gt AY row D1))))/\List.length (take (xsLen (gt AY row D1)*1) (drop (xsOff (gt AY row D1)) (Td (gt AY row D1))))=xsLen (gt AY row D1))/\(List.length (hide (Sm.cells D0))=70/\70<=List.length cs)/\La (i+(1:Int))/\Flat zs/\Flat (Qa cs 0 (hide (Sm.cells D0)))/\KR X 38 0 Q (Fb Try.f38 0) (mkS 19 [(2,O1 (PT 0 0)),(3,O1 (PT 1 0)),(7,O1 (XS row 0 n)),(8,O1 (I64 (↑n:Int))),(9,O1 (I64 (i+(1:Int))))]) [some zs,some (Qa cs 0 (hide (Sm.cells D0)))])/\(decide (i<(↑n:Int))=false->70<=List.length cs/\Flat (take 70 (drop 0 cs))/\(take 70 (drop 0 cs)=Sm.cells D2/\List.length (take 70 (drop 0 cs))=70)/\(List.length (hide (List.map U8 (digF D2)))=20/\20<=List.length zs)/\20<=List.length (Qa zs 0 (hide (List.map U8 (digF D2))))/\Za (AG (take 20 (drop 0 (Qa zs 0 (hide (List.map U8 (digF D2)))))))/\Q (AG (take 20 (drop 0 (Qa zs 0 (hide (List.map U8 (digF D2))))))) [])) (Lc D2 (List.map Ea (take (xsLen (gt AY row D1)*1) (drop (xsOff (gt AY row D1)) (Td (gt AY row D1))))))) (0+Int.toNat i*1)) (smOf (take 70 (drop 0 cs)))) : Ia X 38 0 Q (Fb Try.f38 0) (mkS 19 [(2,.one (.ptr 0 0)),(3,.one (.ptr 1 0)),(7,.one (.xs row 0 n)),(8,.one (.i64 n)),(9,.one (.i64 i))]) [some zs,some cs] :=
 wR' hX WHB0 ok38 [10] [] false (CS.mk [] [] [0] []) true [(3,LS.mk [2,3,7,8,9] (CS.mk [] [] [] []))] 2000 h (by kernel_rfl)
theorem vc39 {X} {Q : QT} (hX : PX X) (row : List AC) (n:Nat) (h : 0+n*1<=List.length row/\(n*1<=140737488355328/\n<=4611686018427387904)/\1<=1/\((n+1)*1<=140737488355328/\n+1<=4611686018427387904)/\List.length (take (n*1) (drop 0 row))=n*1/\Flat (replicate 20 (U8 0))/\Flat (take (n*1) (drop 0 row)++take 1 (drop 0 [Zc (Value.int IntKind.u8 128)]))/\KR X 39 0 Q (Fb Try.f39 0) (mkS 69 [(0,O1 (XS row 0 n)),(2,O1 (PT 0 0)),(3,O1 (GS 1 (n+1) 1))]) [some (replicate 20 (U8 0)),some (take (n*1) (drop 0 row)++take 1 (drop 0 [Zc (Value.int IntKind.u8 128)]))]) : Ia X 39 0 Q ([.code (Na Try.f39)]) (slots [.one (.xs row 0 n)] Try.f39.ntmps) [] :=
 wR' hX WHB0 ok39 [17,26,42,53] [(13,7)] false (CS.mk [] [] [0] []) true [(2,LS.mk [0,2,3] (CS.mk [] [] [] [])),(6,LS.mk [2,3,4,5] (CS.mk [] [] [] [])),(11,LS.mk [2,3,6,7] (CS.mk [] [true,true,false] [] [])),(16,LS.mk [2,6,8,9] (CS.mk [] [] [] []))] 2000 h (by kernel_rfl)
theorem vc39a {X} {Q : QT} (hX : PX X) (row zs mr : List AC) (n k:Nat) (h : (fun D0 : List AC=>(64:Int) ≠ (0:Int)/\((!decide (Int.tmod (↑k:Int) (64:Int)=(56:Int)))=true->1<=1/\((k+1)*1<=140737488355328/\k+1<=4611686018427387904)/\List.length mr=k*1/\Flat zs/\Flat D0/\KR X 39 0 Q (Fb Try.f39 0) (mkS 69 [(0,O1 (XS row 0 n)),(2,O1 (PT 0 0)),(3,O1 (GS 1 (k+1) 1))]) [some zs,some D0])/\((!decide (Int.tmod (↑k:Int) (64:Int)=(56:Int)))=false->Flat zs/\Flat mr/\KR X 39 0 Q (Fb Try.f39 1) (mkS 69 [(2,O1 (PT 0 0)),(3,O1 (GS 1 k 1)),(4,O1 (Nc (BitVec.ofInt 64 (↑n:Int)*BitVec.ofInt 64 8))),(5,O1 (I64 (7:Int)))]) [some zs,some mr])) (mr++take 1 (drop 0 [Zc (Value.int IntKind.u8 0)]))) : Ia X 39 0 Q (Fb Try.f39 0) (mkS 69 [(0,.one (.xs row 0 n)),(2,.one (.ptr 0 0)),(3,.one (.gs 1 k 1))]) [some zs,some mr] :=
 wR' hX WHB0 ok39 [17,26,42,53] [(13,7)] false (CS.mk [] [] [0] []) true [(2,LS.mk [0,2,3] (CS.mk [] [] [] [])),(6,LS.mk [2,3,4,5] (CS.mk [] [] [] [])),(11,LS.mk [2,3,6,7] (CS.mk [] [true,true,false] [] [])),(16,LS.mk [2,6,8,9] (CS.mk [] [] [] []))] 2000 h (by kernel_rfl)
theorem vc39b {X} {Q : QT} (hX : PX X) (zs mr : List AC) (k:Nat) (x:BitVec 64) (i:Int) (h : (fun D0 : List AC=>(decide ((0:Int)<=i)=true->La ((8:Int)*i)/\(0:Int)<=(8:Int)*i/\1<=1/\((k+1)*1<=140737488355328/\k+1<=4611686018427387904)/\List.length mr=k*1/\La (i - (1:Int))/\Flat zs/\Flat D0/\KR X 39 0 Q (Fb Try.f39 1) (mkS 69 [(2,O1 (PT 0 0)),(3,O1 (GS 1 (k+1) 1)),(4,O1 (Nc x)),(5,O1 (I64 (i - (1:Int))))]) [some zs,some D0])/\(decide ((0:Int)<=i)=false->(1=1/\1<=5)/\(1=1/\2<=5)/\(1=1/\3<=5)/\(1=1/\4<=5)/\(1=1/\5<=5)/\(5=5/\5<=5)/\Flat zs/\Flat mr/\KR X 39 0 Q (Fb Try.f39 2) (mkS 69 [(2,O1 (PT 0 0)),(3,O1 (GS 1 k 1)),(6,O1 (PT 2 0)),(7,O1 (I64 (0:Int)))]) [some zs,some mr,some [Fa (BitVec.ofInt 32 1732584193),Fa (BitVec.ofInt 32 4023233417),Fa (BitVec.ofInt 32 2562383102),Fa (BitVec.ofInt 32 271733878),Fa (BitVec.ofInt 32 3285377520)]])) (mr++take 1 (drop 0 [U8 (BitVec.setWidth 8 (x>>>Int.toNat ((8:Int)*i)))]))) : Ia X 39 0 Q (Fb Try.f39 1) (mkS 69 [(2,.one (.ptr 0 0)),(3,.one (.gs 1 k 1)),(4,.one (.u64 x)),(5,.one (.i64 i))]) [some zs,some mr] :=
 wR' hX WHB0 ok39 [17,26,42,53] [(13,7)] false (CS.mk [] [] [0] []) true [(2,LS.mk [0,2,3] (CS.mk [] [] [] [])),(6,LS.mk [2,3,4,5] (CS.mk [] [] [] [])),(11,LS.mk [2,3,6,7] (CS.mk [] [true,true,false] [] [])),(16,LS.mk [2,6,8,9] (CS.mk [] [] [] []))] 2000 h (by kernel_rfl)
theorem vc39c {X} {Q : QT} (hX : PX X) (zs mr : List AC) (k:Nat) (h0 h1 h2 h3 h4:BitVec 32) (i:Int) (h : (fun D2 : Int=>(fun D1 : Nat=>(fun D0 : List (BitVec 8)=>La D2/\(decide (i+(64:Int)<=(↑k:Int))=true->5<=5/\La D2/\((0:Int)<=i/\i<=i+(64:Int)/\i+(64:Int)<=(↑k:Int))/\Flat (take 5 (drop 0 [Fa h0,Fa h1,Fa h2,Fa h3,Fa h4]))/\0+Int.toNat i*1+D1*1<=List.length mr/\Flat (take (D1*1) (drop (0+Int.toNat i*1) mr))/\(Oa (take (D1*1) (drop (0+Int.toNat i*1) mr))/\List.length (take (D1*1) (drop (0+Int.toNat i*1) mr))=64/\Int.toNat D2 - Int.toNat i=64)/\(5=5/\5<=5)/\La D2/\Flat zs/\Flat mr/\KR X 39 0 Q (Fb Try.f39 2) (mkS 69 [(2,O1 (PT 0 0)),(3,O1 (GS 1 k 1)),(6,O1 (PT 2 0)),(7,O1 (I64 D2))]) [some zs,some mr,some [Fa (St.a (Ce { a := h0,b := h1,c := h2,d := h3,e := h4 } D0)),Fa (St.b (Ce { a := h0,b := h1,c := h2,d := h3,e := h4 } D0)),Fa (St.c (Ce { a := h0,b := h1,c := h2,d := h3,e := h4 } D0)),Fa (St.d (Ce { a := h0,b := h1,c := h2,d := h3,e := h4 } D0)),Fa (St.e (Ce { a := h0,b := h1,c := h2,d := h3,e := h4 } D0))]])/\(decide (i+(64:Int)<=(↑k:Int))=false->Flat zs/\Flat [Fa h0,Fa h1,Fa h2,Fa h3,Fa h4]/\Flat (replicate 20 (U8 0))/\KR X 39 0 Q (Fb Try.f39 3) (mkS 69 [(2,O1 (PT 0 0)),(6,O1 (PT 1 0)),(8,O1 (PT 2 0)),(9,O1 (I64 (0:Int)))]) [some zs,some [Fa h0,Fa h1,Fa h2,Fa h3,Fa h4],some (replicate 20 (U8 0))])) (List.map Ea (take (D1*1) (drop (0+Int.toNat i*1) mr)))) (Int.toNat D2 - Int.toNat i)) (i+(64:Int))) : Ia X 39 0 Q (Fb Try.f39 2) (mkS 69 [(2,.one (.ptr 0 0)),(3,.one (.gs 1 k 1)),(6,.one (.ptr 2 0)),(7,.one (.i64 i))]) [some zs,some mr,some [.u32 h0,.u32 h1,.u32 h2,.u32 h3,.u32 h4]] :=
 wR' hX WHB0 ok39 [17,26,42,53] [(13,7)] false (CS.mk [] [] [0] []) true [(2,LS.mk [0,2,3] (CS.mk [] [] [] [])),(6,LS.mk [2,3,4,5] (CS.mk [] [] [] [])),(11,LS.mk [2,3,6,7] (CS.mk [] [true,true,false] [] [])),(16,LS.mk [2,6,8,9] (CS.mk [] [] [] []))] 2000 h (by kernel_rfl)
theorem vc39d {X} {Q : QT} (hX : PX X) (zs hr mr : List AC) (i:Int) (h : (fun D2 : Nat=>(fun D1 : List AC=>(fun D0 : List AC=>(decide (i<(20:Int))=true->((4:Int) ≠ (0:Int)/\La (Int.tdiv i (4:Int)))/\((0:Int)<=Int.tdiv i (4:Int)/\Int.tdiv i (4:Int)<(↑5:Int))/\gt AY hr D2=Fa (Xb (gt AY hr D2))/\(4:Int) ≠ (0:Int)/\La ((8:Int)*Int.tmod i (4:Int))/\La ((24:Int) - (8:Int)*Int.tmod i (4:Int))/\(0:Int)<=(24:Int) - (8:Int)*Int.tmod i (4:Int)/\((0:Int)<=i/\i<(↑20:Int))/\(1=1/\0+Int.toNat i*1+1<=List.length mr)/\La (i+(1:Int))/\Flat zs/\Flat hr/\Flat D0/\KR X 39 0 Q (Fb Try.f39 3) (mkS 69 [(2,O1 (PT 0 0)),(6,O1 (PT 1 0)),(8,O1 (PT 2 0)),(9,O1 (I64 (i+(1:Int))))]) [some zs,some hr,some D0])/\(decide (i<(20:Int))=false->20<=List.length mr/\(List.length (take 20 (drop 0 mr))=20/\20<=List.length zs)/\20<=List.length D1/\Za (AG (take 20 (drop 0 D1)))/\Q (AG (take 20 (drop 0 D1))) [])) (Qa mr (0+Int.toNat i*1) [U8 (BitVec.setWidth 8 (Xb (gt AY hr D2)>>>Int.toNat ((24:Int) - (8:Int)*Int.tmod i (4:Int))))])) (Qa zs 0 (take 20 (drop 0 mr)))) (0+Int.toNat (Int.tdiv i (4:Int))*1)) : Ia X 39 0 Q (Fb Try.f39 3) (mkS 69 [(2,.one (.ptr 0 0)),(6,.one (.ptr 1 0)),(8,.one (.ptr 2 0)),(9,.one (.i64 i))]) [some zs,some hr,some mr] :=
 wR' hX WHB0 ok39 [17,26,42,53] [(13,7)] false (CS.mk [] [] [0] []) true [(2,LS.mk [0,2,3] (CS.mk [] [] [] [])),(6,LS.mk [2,3,4,5] (CS.mk [] [] [] [])),(11,LS.mk [2,3,6,7] (CS.mk [] [true,true,false] [] [])),(16,LS.mk [2,6,8,9] (CS.mk [] [] [] []))] 2000 h (by kernel_rfl)
def encP (p : List (BitVec 8)) : AC := .xs (p.map U8) 0 p.length
def asP (c : AC) : List (BitVec 8) := (Td c).map Ea
theorem asP_enc (p : List (BitVec 8)) : asP (encP p) = p := Ua p
theorem map_asP (ps : List (List (BitVec 8))) : (ps.map encP).map asP = ps := by
 rw [List.map_map]
 exact (List.map_congr_left (fun p _ => asP_enc p)).trans (List.map_id ps)
theorem gt_P_at (ps : List (List (BitVec 8))) (i:Nat) (h : i < ps.length) : gt AY (ps.map encP) i = encP (ps.getD i []) := by
 rw [gt_eq]; simp [List.getD, h]
theorem foldl_left : ∀ (ps : List (List (BitVec 8))) (s : Sm), (ps.foldl Lc s).left.length = s.left.length
 | [], _ => rfl
 | p :: ps, s => by rw [List.foldl_cons, foldl_left ps, Bd]
theorem foldl_take (ps : List (List (BitVec 8))) (s : Sm) (i:Nat) (h : i < ps.length) : (ps.take (i + 1)).foldl Lc s = Lc ((ps.take i).foldl Lc s) (ps.getD i []) := by
 rw [List.take_add_one, List.getElem?_eq_getElem h, List.foldl_append, List.getD_eq_getElem?_getD, List.getElem?_eq_getElem h]
 rfl
theorem l38 {X : Ctx} (hX : X.P = Try.prog) (zs : List AC) (hz : Flat zs) (hzl : zs.length = 20) (ps : List (List (BitVec 8))) (hps : ps.length ≤ 1000000) : ∀ (d i:Nat), i + d = ps.length →
  Ia X 38 0 (Is (.agg ((digF (ps.foldl Lc nwS)).map U8))) (Fb Try.f38 0) (mkS 19 [(2, .one (.ptr 0 0)), (3, .one (.ptr 1 0)), (7, .one (.xs (ps.map encP) 0 ps.length)), (8, .one (.i64 ps.length)), (9, .one (.i64 i))]) [some zs, some ((ps.take i).foldl Lc nwS).cells] := by
 intro d
 have hl : ∀ i, ((ps.take i).foldl Lc nwS).left.length = 64 := fun i => foldl_left _ _
 have hc : ∀ i, ((ps.take i).foldl Lc nwS).cells.length = 70 := fun i => by rw [Sm.len, hl]
 have hc2 : ∀ i, (take 70 (drop 0 ((ps.take i).foldl Lc nwS).cells)) = ((ps.take i).foldl Lc nwS).cells := fun i => by rw [List.drop_zero, List.take_of_length_le (by rw [hc]; exact Nat.le_refl _)]
 induction d with
 | zero =>
  intro i hi
  have hi : i = ps.length := by omega
  subst hi
  refine vc38a hX _ _ _ _ _ ⟨fun h => absurd (of_decide_eq_true h) (by omega), fun _ => ?_⟩
  try dsimp only
  rw [hc2, Tc _ (hl _), Ja, hc, take_lay hzl (by rfl), layS_len (by rw [hzl]; exact Nat.le_refl _)]
  rw [List.take_length]
  refine ⟨by omega, Sm.flat _, ⟨rfl, rfl⟩, ⟨rfl, by omega⟩, by omega, Aa _, rfl⟩
 | succ d ih =>
  intro i hi
  have hg := gt_P_at ps i (by omega)
  have h70 : (Lc ((ps.take i).foldl Lc nwS) (ps.getD i [])).cells.length = 70 := by rw [← foldl_take ps nwS i (by omega), hc]
  have ht : ∀ p : List (BitVec 8), take (p.length * 1) (drop 0 (p.map U8)) = p.map U8 := fun p => by rw [List.drop_zero, List.take_of_length_le (by rw [List.length_map]; omega)]
  refine vc38a hX _ _ _ _ _ ⟨fun _ => ?_, fun h => absurd (of_decide_eq_false h) (by omega)⟩
  simp only [ixi, hg, encP, Td, xsOff, xsLen, hc2, Ja, Tc _ (hl i), ht, Ua, hc, List.length_map]
  have e70 := layS_len (l := ((ps.take i).foldl Lc nwS).cells) (cs := (Lc ((ps.take i).foldl Lc nwS) (ps.getD i [])).cells) (o := 0) (by rw [h70, hc]; exact Nat.le_refl _)
  have elay : Qa ((ps.take i).foldl Lc nwS).cells 0 (Lc ((ps.take i).foldl Lc nwS) (ps.getD i [])).cells = (Lc ((ps.take i).foldl Lc nwS) (ps.getD i [])).cells := by
   have := take_lay (hc i) h70
   rw [List.drop_zero, List.take_of_length_le (by rw [e70, hc]; exact Nat.le_refl _)] at this
   exact this
  rw [elay]
  refine ⟨by omega, trivial, by omega, Sm.flat _, by omega, ⟨trivial, trivial, Ba _, trivial⟩, ⟨h70, by omega⟩, by unfold La; omega, hz, Sm.flat _, ⟨?_⟩⟩
  have := ih (i + 1) (by omega)
  rw [foldl_take ps nwS i (by omega)] at this
  exact this
theorem s38 (ps : List (List (BitVec 8))) (hps : ps.length ≤ 1000000) : Spec Try.prog 38 [.one (.xs (ps.map encP) 0 ps.length)] [] (Is (.agg ((digF (ps.foldl Lc nwS)).map U8))) := by
 refine Spec.of_run ok38 fun X hX => vc38 hX _ _ ?_
 refine ⟨Nat.le_refl _, ⟨rfl, Nat.le_refl _⟩, ⟨rfl, Nat.le_refl _⟩, Zb rfl, Zb (by kernel_rfl), ⟨?_⟩⟩
 have e : ((ps.take 0).foldl Lc nwS).cells = replicate 5 (Fa 0) ++ (replicate 64 (U8 0) ++ [Nc 0]) := by kernel_rfl
 have k := l38 hX (replicate 20 (U8 0)) (Zb rfl) rfl ps hps ps.length 0 (by omega)
 rw [e] at k
 exact k
theorem l39d {X : Ctx} (hX : X.P = Try.prog) (s : St) (zs : List AC) (hz : Flat zs) (hzl : zs.length = 20) : ∀ (d i:Nat) (ws : List (BitVec 8)), i + d = 20 → ws.length = 20 → (∀ j, j < i → ws.getD j 0 = outB s j) →
  Ia X 39 0 (Is (.agg ((outF s).map U8))) (Fb Try.f39 3) (mkS 69 [(2, .one (.ptr 0 0)), (6, .one (.ptr 1 0)), (8, .one (.ptr 2 0)), (9, .one (.i64 i))]) [some zs, some (s.list.map Fa), some (ws.map U8)] := by
 intro d
 induction d with
 | zero =>
  intro i ws hi hl hw
  have hi : i = 20 := by omega
  subst hi
  have hlen : (ws.map U8).length = 20 := by simpa using hl
  refine vc39d hX _ _ _ _ ⟨fun h => absurd (of_decide_eq_true h) (by decide), fun _ => ?_⟩
  have hc2 : take 20 (drop 0 (ws.map U8)) = ws.map U8 := by rw [List.drop_zero, List.take_of_length_le (by omega)]
  rw [hc2, take_lay hzl hlen, layS_len (by omega), out_eq s ws hl hw]
  exact ⟨by rw [← out_eq s ws hl hw]; omega, ⟨rfl, by omega⟩, by omega, Aa _, rfl⟩
 | succ d ih =>
  intro i ws hi hl hw
  have hlen : (ws.map U8).length = 20 := by simpa using hl
  have e4 := tdiv_nat i 4
  have m4 := tmod_nat i 4
  have g0 := St.list_get s (i := i / 4) (by omega)
  have es : Int.toNat (24 - 8 * ((i % 4:Nat):Int)) = 24 - 8 * (i % 4) := by omega
  refine vc39d hX _ _ _ _ ⟨fun _ => ?_, fun h => absurd (of_decide_eq_false h) (by omega)⟩
  simp only [show Int.tdiv (i:Int) 4 = ((i / 4:Nat):Int) from e4, show Int.tmod (i:Int) 4 = ((i % 4:Nat):Int) from m4, ixi, g0, es, Xb, layS_u8, hlen]
  (repeat' apply And.intro) <;> first | trivial | decide | (unfold La; omega) | omega | exact hz | exact Aa _ | exact Qd _ | skip
  refine ⟨?_⟩
  exact ih (i + 1) (ws.set i (outB s i)) (by omega) (by rw [List.length_set]; exact hl) (fun j hj => by
    by_cases e : i = j
    ·subst e; rw [getD_set_eq _ _ _ _ (by omega)]
    ·rw [getD_set_ne _ _ _ _ _ e]; exact hw j (by omega))
theorem blkAt_row (b : List (BitVec 8)) (j:Nat) : take ((Int.toNat (((64 * j:Nat):Int) + 64) - Int.toNat ((64 * j:Nat):Int)) * 1) (drop (0 + Int.toNat ((64 * j:Nat):Int) * 1) (b.map U8)) = (blkAt b j).map U8 := by
 rw [show (Int.toNat (((64 * j:Nat):Int) + 64) - Int.toNat ((64 * j:Nat):Int)) * 1 = 64 by omega, show 0 + Int.toNat ((64 * j:Nat):Int) * 1 = 64 * j by omega]
 unfold blkAt
 rw [List.map_take, List.map_drop]
theorem l39c {X : Ctx} (hX : X.P = Try.prog) (zs : List AC) (hz : Flat zs) (hzl : zs.length = 20) (b : List (BitVec 8)) (hb : b.length ≤ 2000000) (hb2 : b.length % 64 = 0) : ∀ (d j:Nat), j + d = b.length / 64 →
  Ia X 39 0 (Is (.agg ((outF (blks b (b.length / 64))).map U8))) (Fb Try.f39 2) (mkS 69 [(2, .one (.ptr 0 0)), (3, .one (.gs 1 b.length 1)), (6, .one (.ptr 2 0)), (7, .one (.i64 (64 * j:Nat)))]) [some zs, some (b.map U8), some ((blks b j).list.map Fa)] := by
 intro d
 induction d with
 | zero =>
  intro j hj
  have hj : j = b.length / 64 := by omega
  subst hj
  refine vc39c hX _ _ _ _ _ _ _ _ _ ⟨by unfold La; omega, fun h => absurd (of_decide_eq_true h) (by omega), fun _ => ?_⟩
  refine ⟨hz, Zb rfl, Zb rfl, ⟨?_⟩⟩
  exact l39d hX (blks b (b.length / 64)) zs hz hzl 20 0 (replicate 20 0) (by omega) (by simp) (fun j hj => by omega)
 | succ d ih =>
  intro j hj
  refine vc39c hX _ _ _ _ _ _ _ _ _ ⟨by unfold La; omega, fun _ => ?_, fun h => absurd (of_decide_eq_false h) (by omega)⟩
  try dsimp only
  rw [blkAt_row, Ua]
  have hl : (blkAt b j).length = 64 := by unfold blkAt; rw [List.length_take, List.length_drop]; omega
  refine ⟨Nat.le_refl _, by unfold La; omega, by omega, Zb rfl, by rw [List.length_map]; omega, Aa _, ⟨Ba _, by rw [List.length_map, hl], by omega⟩, ⟨rfl, Nat.le_refl _⟩, by unfold La; omega, hz, Aa _, ⟨?_⟩⟩
  have := ih (j + 1) (by omega)
  rw [show ((64 * (j + 1):Nat):Int) = ((64 * j:Nat):Int) + 64 by omega] at this
  exact this
theorem l39b {X : Ctx} (hX : X.P = Try.prog) (zs : List AC) (hz : Flat zs) (hzl : zs.length = 20) (x:BitVec 64) (l : List (BitVec 8)) (hll : l.length ≤ 1500000) (hl2 : l.length % 64 = 56) : ∀ (d i:Nat), i + d = 8 →
  Ia X 39 0 (Is (.agg ((outF (blks (l ++ lenB x) ((l ++ lenB x).length / 64))).map U8))) (Fb Try.f39 1) (mkS 69 [(2, .one (.ptr 0 0)), (3, .one (.gs 1 (l.length + i) 1)), (4, .one (.u64 x)), (5, .one (.i64 (7 - (i:Int))))]) [some zs, some ((l ++ (lenB x).take i).map U8)] := by
 have h8 : (lenB x).length = 8 := rfl
 have hlen : ∀ i, i ≤ 8 → ((l ++ (lenB x).take i).map U8).length = l.length + i := fun i hi => by
  rw [List.length_map, List.length_append, List.length_take]
  omega
 intro d
 induction d with
 | zero =>
  intro i hi
  have hi : i = 8 := by omega
  subst hi
  refine vc39b hX _ _ _ _ _ ⟨fun h => absurd (of_decide_eq_true h) (by decide), fun _ => ?_⟩
  (repeat' apply And.intro) <;> first | decide | exact hz | exact Aa _ | skip
  refine ⟨?_⟩
  have e : (l ++ lenB x).length = l.length + 8 := by rw [List.length_append, h8]
  have := l39c hX zs hz hzl (l ++ lenB x) (by omega) (by omega) _ 0 (Nat.zero_add _)
  rw [e] at this ⊢
  exact this
 | succ d ih =>
  intro i hi
  have es : Int.toNat (8 * (7 - (i:Int))) = 56 - 8 * i := by omega
  refine vc39b hX _ _ _ _ _ ⟨fun _ => ?_, fun h => absurd (of_decide_eq_false h) (by omega)⟩
  simp only [es, app1, hlen i (by omega)]
  rw [List.append_assoc, ← lenB_take x (by omega)]
  (repeat' apply And.intro) <;> first | trivial | decide | (unfold La; omega) | omega | exact hz | exact Aa _ | skip
  refine ⟨?_⟩
  have := ih (i + 1) (by omega)
  rw [show (7:Int) - ((i + 1:Nat):Int) = 7 - (i:Int) - 1 by omega] at this
  exact this
theorem l39a {X : Ctx} (hX : X.P = Try.prog) (zs : List AC) (hz : Flat zs) (hzl : zs.length = 20) (m : List (BitVec 8)) (hm : m.length ≤ 1000000) : ∀ (d i:Nat), i + d = padZ m.length →
  Ia X 39 0 (Is (.agg ((ofF m).map U8))) (Fb Try.f39 0) (mkS 69 [(0, .one (.xs (m.map U8) 0 m.length)), (2, .one (.ptr 0 0)), (3, .one (.gs 1 (m.length + (i + 1)) 1))]) [some zs, some ((m ++ 128#8 :: replicate i 0#8).map U8)] := by
 have hpz : padZ m.length < 64 := Nat.mod_lt _ (by decide)
 have hlen : ∀ i, (m ++ 128#8 :: replicate i 0#8).length = m.length + (i + 1) := fun i => by rw [List.length_append, List.length_cons, List.length_replicate]
 intro d
 induction d with
 | zero =>
  intro i hi
  have hi : i = padZ m.length := by omega
  have hx : (m.length + (i + 1)) % 64 = 56 := by unfold padZ at hi; omega
  have hm' : Int.tmod ((m.length + (i + 1):Nat):Int) 64 = (((m.length + (i + 1)) % 64:Nat):Int) := tmod_nat (m.length + (i + 1)) 64
  refine vc39a hX _ _ _ _ _ ⟨by decide, fun h => ?_, fun h => ⟨hz, Aa _, ⟨?_⟩⟩⟩
  ·rw [show Int.tmod ((m.length + (i + 1):Nat):Int) 64 = 56 by rw [hm']; omega] at h
   cases h
  ·have := l39b hX zs hz hzl (BitVec.ofNat 64 m.length * 8#64) (m ++ 128#8 :: replicate i 0#8) (by rw [hlen]; omega) (by rw [hlen]; exact hx) 8 0 rfl
   have e : ofF m = outF (blks (m ++ 128#8 :: replicate i 0#8 ++ lenB (BitVec.ofNat 64 m.length * 8#64)) ((m ++ 128#8 :: replicate i 0#8 ++ lenB (BitVec.ofNat 64 m.length * 8#64)).length / 64)) := by
    unfold ofF tailF
    rw [BitVec.toNat_ofNat, Nat.mod_eq_of_lt (show m.length < 2 ^ 64 by omega), ← hi]
    simp only [List.append_assoc, List.cons_append]
   rw [e]
   rw [List.take_zero, List.append_nil, hlen] at this
   rw [BitVec.ofInt_natCast]
   exact this
 | succ d ih =>
  intro i hi
  have hx : ¬ (m.length + (i + 1)) % 64 = 56 := by unfold padZ at hi; omega
  have hm' : Int.tmod ((m.length + (i + 1):Nat):Int) 64 = (((m.length + (i + 1)) % 64:Nat):Int) := tmod_nat (m.length + (i + 1)) 64
  have ha : (m ++ 128#8 :: replicate i 0#8).map U8 ++ take 1 (drop 0 [Zc (.int .u8 0)]) = (m ++ 128#8 :: replicate (i + 1) 0#8).map U8 := by
   have := app1 (m ++ 128#8 :: replicate i 0#8) 0#8
   rw [List.append_assoc, List.cons_append, ← List.replicate_succ'] at this
   exact this
  refine vc39a hX _ _ _ _ _ ⟨by decide, fun h => ?_, fun h => ?_⟩
  ·rw [ha]
   refine ⟨by decide, by omega, by rw [List.length_map, hlen]; omega, hz, Aa _, ⟨?_⟩⟩
   exact ih (i + 1) (by omega)
  ·rw [decide_eq_false (show ¬ Int.tmod ((m.length + (i + 1):Nat):Int) 64 = 56 by rw [hm']; omega)] at h
   cases h
theorem s39 (m : List (BitVec 8)) (hm : m.length ≤ 1000000) : Spec Try.prog 39 [.one (.xs (m.map U8) 0 m.length)] [] (Is (.agg ((ofF m).map U8))) := by
 refine Spec.of_run ok39 fun X hX => vc39 hX _ _ ?_
 have ht : take (m.length * 1) (drop 0 (m.map U8)) = m.map U8 := by rw [List.drop_zero, List.take_of_length_le (by rw [List.length_map]; omega)]
 have ha := app1 m 128#8
 rw [ht, show take 1 (drop 0 [Zc (.int .u8 128)]) = take 1 (drop 0 [U8 128#8]) from rfl, ha, List.length_map]
 refine ⟨by omega, by omega, by decide, by omega, by omega, Zb rfl, Aa _, ⟨?_⟩⟩
 refine l39a hX _ ?_ ?_ m hm (padZ m.length) 0 (by omega)
 ·exact Zb rfl
 ·rfl
noncomputable def inlG : Inl := fun f => match f with
 | 36 => some (Try.f36, [])
 | _ => none
theorem inlG_ok : InlOk Try.prog inlG := by
 intro f fn hs h
 unfold inlG at h
 split at h <;> first | (cases h; done) | (obtain ⟨rfl, _⟩ := Prod.mk.inj (Option.some.inj h); first | exact ok36)
noncomputable def envG (T : Tab) (mf : FuncId → Option MF) (M : Ad) : Env := inlE (baseH T mf M) inlG 2
theorem envG_ok (T : Tab) (mf : FuncId → Option MF) (M : Ad) : Eb Try.prog (envG T mf M) := inlE_envOk (baseH_ok T mf M) _ _
theorem envG_call {T : Tab} {mf : FuncId → Option MF} {M : Ad} (hT : Oc Try.prog T) (hM : Xc Try.prog M) : Bc Try.prog (envG T mf M) :=
 inlE_ok (baseH_ok T mf M) (baseH_call hT hM) mixed inlG_ok 2
def WHB1 : WC := ⟨envG T5 mf0 M0,envG_ok T5 mf0 M0,envG_call T5_ok M0_ok⟩
theorem vc40 {X} {Q : QT} (hX : PX X)  (h : (70=70/\70<=70)/\70<=70/\Q (AG ([Fa 0,Fa 0,Fa 0,Fa 0,Fa 0]++(replicate 64 (U8 0)++[Nc 0]))) []) : Ia X 40 0 Q ([.code (Na Try.f40)]) (slots [] Try.f40.ntmps) [] :=
 wR hX WHB1 ok40 [] [] [] [] h (by kernel_rfl)
theorem s40 : Spec Try.prog 40 [] [] (Is (.agg nwS.cells)) := by
 have e : nwS.cells = replicate 5 (Fa 0) ++ (replicate 64 (U8 0) ++ [Nc 0]) := by kernel_rfl
 refine Spec.of_run ok40 fun X hX => vc40 hX ?_
 rw [e]
 exact ⟨⟨rfl, Nat.le_refl _⟩, Nat.le_refl _, rfl⟩
noncomputable def T6 : Tab := fun f xs => match f, xs with
 | 38, [.one (.xs row 0 n)] => some ([row = (row.map asP).map encP ∧ row.length = n ∧ n ≤ 1000000], .agg (hide ((digF ((row.map asP).foldl Lc nwS)).map U8)))
 | 39, [.one (.xs row 0 n)] => some ([Oa row ∧ row.length = n ∧ n ≤ 1000000], .agg (hide ((ofF (row.map Ea)).map U8)))
 | 40, [] => some ([], .agg (hide nwS.cells))
 | f, xs => T5 f xs
theorem T6_ok : Oc Try.prog T6 := by
 intro f xs cs r h hc
 unfold T6 at h
 split at h
 ·obtain ⟨rfl, rfl⟩ := Prod.mk.inj (Option.some.inj h)
  obtain ⟨h1, h2, h3⟩ := hc.1
  rename_i row n
  have := s38 (row.map asP) (by rw [List.length_map]; omega)
  rw [← h1, List.length_map, h2] at this
  rw [Ja]
  exact ⟨⟨_, _, ok38⟩, this, Jb _ (fun _ => rfl) _⟩
 ·obtain ⟨rfl, rfl⟩ := Prod.mk.inj (Option.some.inj h)
  obtain ⟨h1, h2, h3⟩ := hc.1
  rename_i row n
  have := s39 (row.map Ea) (by rw [List.length_map]; omega)
  rw [← h1, List.length_map, h2] at this
  rw [Ja]
  exact ⟨⟨_, _, ok39⟩, this, Jb _ (fun _ => rfl) _⟩
 ·obtain ⟨rfl, rfl⟩ := Prod.mk.inj (Option.some.inj h)
  rw [Ja]
  exact ⟨⟨_, _, ok40⟩, s40, Sm.exact _⟩
 ·exact T5_ok _ _ _ _ h hc
theorem fit_u8 : ∀ (l : List (BitVec 8)), fitCs (replicate l.length (U8 0)) (l.map U8)
 | [] => trivial
 | _ :: l => ⟨trivial, fit_u8 l⟩
noncomputable def T7 : Tab := T6
theorem T7_ok : Oc Try.prog T7 := T6_ok
theorem Cc (l : List AC) : Ld l l = true := by unfold Ld; simp
theorem tk (b : List (BitVec 8)) : take (b.length * 1) (drop 0 (b.map U8)) = b.map U8 := by rw [List.drop_zero, List.take_of_length_le (by rw [List.length_map]; omega)]
theorem tkP (b : List (List (BitVec 8))) : take (b.length * 1) (drop 0 (b.map encP)) = b.map encP := by rw [List.drop_zero, List.take_of_length_le (by rw [List.length_map]; omega)]
theorem asP1 (b : List (BitVec 8)) : List.map asP [XS (b.map U8) 0 b.length] = [b] := map_asP [b]
theorem asP2 (a b : List (BitVec 8)) : List.map asP [XS (a.map U8) 0 a.length, XS (b.map U8) 0 b.length] = [a, b] := map_asP [a, b]
theorem flat_take (ps : List (List (BitVec 8))) (i:Nat) (h : i < ps.length) : (ps.take (i + 1)).flatten = (ps.take i).flatten ++ ps.getD i [] := by
 rw [List.take_add_one, List.getElem?_eq_getElem h, List.flatten_append, List.getD_eq_getElem?_getD, List.getElem?_eq_getElem h]
 simp
theorem layS_all {l cs : List AC} (h : l.length = cs.length) : Qa l 0 cs = cs := by
 have := take_lay (l := l) (cs := cs) rfl h.symm
 rw [List.drop_zero, List.take_of_length_le (by rw [layS_len (by omega)]; exact Nat.le_refl _)] at this
 exact this
theorem tk70 (s : Sm) (h : s.left.length = 64) : take 70 (drop 0 s.cells) = s.cells := by
 rw [List.drop_zero, List.take_of_length_le (by rw [Sm.len, h]; exact Nat.le_refl _)]
theorem z70 : [Fa 0, Fa 0, Fa 0, Fa 0, Fa 0] ++ (replicate 64 (U8 0) ++ [Nc 0]) = nwS.cells := by kernel_rfl
theorem lay70 (s t : Sm) (hs : s.left.length = 64) (ht : t.left.length = 64) : Qa t.cells 0 s.cells = s.cells := layS_all (by rw [Sm.len, Sm.len, hs, ht])
theorem layNw (s : Sm) (hs : s.left.length = 64) : Qa nwS.cells 0 s.cells = s.cells := lay70 _ _ hs rfl
theorem smOf_nw : smOf nwS.cells = nwS := Tc nwS rfl
def Fin : AV → Mem → Prop := Is (.one (.b true))
theorem fin : Fin (.one (.b true)) [] := rfl
end DH
