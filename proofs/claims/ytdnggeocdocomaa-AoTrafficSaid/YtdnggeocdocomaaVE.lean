/- Walks of functions, each by evaluation: what each returns; with the layer beneath. -/
import Derived.Test.YtdnggeocdocomaaVD
import Derived.Test.YtdnggeocdocomaaHB
set_option linter.unusedVariables false
set_option linter.unusedSimpArgs false
noncomputable section
namespace DH
set_option maxRecDepth 100000
open List (take drop replicate)
open AC renaming u8 → U8, u16 → Va, u32 → Fa, u64 → Nc, i64 → I64, b → Bb, xs → XS, gs → GS, sv → SV, ptr → PT, any → AY, ns → NS
open AV renaming one → O1, agg → AG, Ec → TU
open Go Go.Proofs
theorem ok32 : Ac Try.prog 32 Try.f32 (Na Try.f32) := .of Try.func32 (by kernel_rfl) (by kernel_rfl)
noncomputable def MV8 : Ad := fun f xs m => match f, xs, m with
 | 33, [.agg [.i64 a, .xs r1 0 n1, .xs r2 0 n2, .b c], .agg (.b s :: xr), .agg (.b t :: yr), .agg cs, .one (.u32 sn)], [] => some ([Oa r1 ∧ r1.length = n1 ∧ n1 ≤ 9223372036854775807 ∧ Oa r2 ∧ r2.length = n2 ∧ Oa xr ∧ xr.length = 16 ∧ Oa yr ∧ yr.length = 16 ∧ IsSg cs], .Ec [.agg (hide (sgC (snG a (r1.map Ea) s t (xr.map Ea) (yr.map Ea) (sgOf (nrL cs)) sn c))), .one (.i64 (snE a (r1.map Ea) (sgOf (nrL cs))))], [])
 | 33, [.agg [.i64 a, .sv 0 0 n1, .sv 1 0 n2, .b c], .agg (.b s :: xr), .agg (.b t :: yr), .agg cs, .one (.u32 sn)], [some r1, some r2] => some ([Oa r1 ∧ r1.length = n1 ∧ n1 ≤ 9223372036854775807 ∧ Oa r2 ∧ r2.length = n2 ∧ Oa xr ∧ xr.length = 16 ∧ Oa yr ∧ yr.length = 16 ∧ IsSg cs], .Ec [.agg (hide (sgC (snG a (r1.map Ea) s t (xr.map Ea) (yr.map Ea) (sgOf (nrL cs)) sn c))), .one (.i64 (snE a (r1.map Ea) (sgOf (nrL cs))))], [some r1, some r2])
 | f, xs, m => MV7 f xs m
noncomputable def mfV8 : FuncId → Option MF := fun f => match f with
 | 33 => some { cs := { kinds := [], fl := [true, true], fv := [1, 2, 3, 4] }, flo := [true, true], rf := true }
 | f => mfV7 f
theorem MV8_ok : Xc Try.prog MV8 := by
 intro f xs m0 cs r m1 h hc
 unfold MV8 at h
 split at h
 ·simp only [Option.some.injEq, Prod.mk.injEq] at h; obtain ⟨rfl, rfl, rfl⟩ := h
  rename_i a r1 n1 r2 n2 c s xr t yr cs sn
  obtain ⟨h1, h2, h3, h4, h5, h6, h7, h8, h9, h10⟩ := hc.1
  have := s33 a (r1.map Ea) (r2.map Ea) c s t (xr.map Ea) (yr.map Ea) (by rw [List.length_map]; exact h7) (by rw [List.length_map]; exact h9) (sgOf (nrL cs)) h10.len sn (by rw [List.length_map]; omega)
  rw [← h10.eq, ← h1, ← h4, ← h6, ← h8, List.length_map, List.length_map, h2, h5] at this
  rw [Ja]
  refine ⟨⟨_, _, ok33⟩, Spec.nr ?_⟩
  rw [List.map_cons, List.map_cons, List.map_cons, bsh_nr s h6, bsh_nr t h8]
  exact this
 ·simp only [Option.some.injEq, Prod.mk.injEq] at h; obtain ⟨rfl, rfl, rfl⟩ := h
  rename_i a n1 n2 c s xr t yr cs sn r1 r2
  obtain ⟨h1, h2, h3, h4, h5, h6, h7, h8, h9, h10⟩ := hc.1
  have := s33s a (r1.map Ea) (r2.map Ea) c s t (xr.map Ea) (yr.map Ea) (by rw [List.length_map]; exact h7) (by rw [List.length_map]; exact h9) (sgOf (nrL cs)) h10.len sn (by rw [List.length_map]; omega)
  rw [← h10.eq, ← h1, ← h4, ← h6, ← h8, List.length_map, List.length_map, h2, h5] at this
  rw [Ja]
  refine ⟨⟨_, _, ok33⟩, Spec.nr ?_⟩
  rw [List.map_cons, List.map_cons, List.map_cons, bsh_nr s h6, bsh_nr t h8]
  exact this
 ·exact MV7_ok _ _ _ _ _ _ h hc
noncomputable def TV10 : Tab := fun f xs => match f, xs with
 | 90, [.agg [.i64 a, .xs r1 0 n1, .xs r2 0 n2, .b c], .agg (.b s :: xr), .agg (.b t :: yr), .agg cs, .one (.u32 sn)] => some ([Oa r1 ∧ r1.length = n1 ∧ Oa r2 ∧ r2.length = n2 ∧ n2 ≤ 9223372036854775807 ∧ Oa xr ∧ xr.length = 16 ∧ Oa yr ∧ yr.length = 16 ∧ IsSg cs], .one (.i64 (vfE a (r2.map Ea) s t (xr.map Ea) (yr.map Ea) (sgOf (nrL cs)) sn c)))
 | f, xs => TV9 f xs
theorem TV10_ok : Oc Try.prog TV10 := by
 intro f xs cs r h hc
 unfold TV10 at h
 split at h
 ·obtain ⟨rfl, rfl⟩ := Prod.mk.inj (Option.some.inj h)
  rename_i a r1 n1 r2 n2 c s xr t yr cs sn
  obtain ⟨h1, h2, h3, h4, h5, h6, h7, h8, h9, h10⟩ := hc.1
  have := s90 a (r1.map Ea) (r2.map Ea) c s t (xr.map Ea) (yr.map Ea) (by rw [List.length_map]; exact h7) (by rw [List.length_map]; exact h9) (sgOf (nrL cs)) h10.len sn (by rw [List.length_map]; omega)
  rw [← h10.eq, ← h1, ← h3, ← h6, ← h8, List.length_map, List.length_map, h2, h4] at this
  refine ⟨⟨_, _, ok90⟩, Spec.nr ?_, rfl⟩
  rw [List.map_cons, List.map_cons, List.map_cons, bsh_nr s h6, bsh_nr t h8]
  exact this
 ·exact TV9_ok _ _ _ _ h hc
def symV (t : TypeId) : Bool := match t with | 32 => true | t => symP t
noncomputable def envV (T : Tab) (mf : FuncId → Option MF) (M : Ad) : Env := ⟨tys, symV, false, T, [], mf, M, fun _ => none⟩
theorem envV_ok (T : Tab) (mf : FuncId → Option MF) (M : Ad) : Eb Try.prog (envV T mf M) := Eb.of tysOk
theorem envV_call {T : Tab} {mf : FuncId → Option MF} {M : Ad} (hT : Oc Try.prog T) (hM : Xc Try.prog M) : Bc Try.prog (envV T mf M) :=
 ⟨hT, fun f mf xs m0 cs r m1 _ h hc => hM f xs m0 cs r m1 h hc, (by intro f k h; cases h)⟩
def WVE0 : WC := ⟨envV TV10 mfV8 MV8,envV_ok TV10 mfV8 MV8,envV_call TV10_ok MV8_ok⟩
theorem vc32 {X} {Q : QT} (hX : PX X)  (h : (1=1/\18<=18)/\(1=1/\18<=18)/\(18=18/\18<=36)/\(18=18/\36<=36)/\(36=36/\36<=36)/\Flat (Qa ([Bb false]++(replicate 16 (U8 0)++([Va 0,Bb false]++(replicate 16 (U8 0)++[Va 0])))) 0 (lay (lay ([Bb false]++(replicate 16 (U8 0)++([Va 0,Bb false]++(replicate 16 (U8 0)++[Va 0])))) 0 (lay ([Bb false]++(replicate 16 (U8 0)++[Va 0])) 17 [Zc (Value.int IntKind.u16 1)])) 18 (lay ([Bb false]++(replicate 16 (U8 0)++[Va 0])) 17 [Zc (Value.int IntKind.u16 2)])))/\KR X 32 0 Q (Ub Try.f32 1) (mkS 63 [(1,O1 (PT 0 0))]) [some ([Bb false]++(replicate 16 (U8 0)++([Va (BitVec.ofInt 16 1),Bb false]++(replicate 16 (U8 0)++[Va (BitVec.ofInt 16 2)]))))]) : Ia X 32 0 Q ([.code (Na Try.f32)]) (slots [] Try.f32.ntmps) [] :=
 wR hX WVE0 ok32 [39,42,46,54] [(4,5),(100001,0),(100002,0),(100003,0),(100004,0),(200004,0)] [] [(2,[1],[true]),(3,[1,2,3],[true,false,true,true]),(4,[2,3,4,5],[false,false,true,true,true,true]),(5,[3,4,5,6,7],[false,true,true,true])] h (by kernel_rfl)
theorem vc32b {X} {Q : QT} (hX : PX X) (pr : List AC) (h : (fun D2 : BitVec 32=>(fun D1 : BitVec 32=>(fun D0 : List (BitVec 8)=>1<=1/\36<=List.length pr/\1<=1/\Flat (take 1 (drop 0 [Zc (Value.int IntKind.u8 107)]))/\Flat (take 36 (drop 0 pr))/\(Oa [U8 (BitVec.ofInt 8 107)]/\1=1/\IsE (take 18 (take 36 (drop 0 pr)))/\IsE (drop 18 (take 36 (drop 0 pr))))/\Qb (hide (List.map U8 (trO (2:Int) D0 (take 18 (take 36 (drop 0 pr))) (drop 18 (take 36 (drop 0 pr))) D1 D2)))/\Qb (hide (List.map U8 (trO (2:Int) D0 (drop 18 (take 36 (drop 0 pr))) (take 18 (take 36 (drop 0 pr))) D2 D1)))/\Flat pr/\Flat (hide (List.map U8 (trO (2:Int) D0 (take 18 (take 36 (drop 0 pr))) (drop 18 (take 36 (drop 0 pr))) D1 D2)))/\Flat (hide (List.map U8 (trO (2:Int) D0 (drop 18 (take 36 (drop 0 pr))) (take 18 (take 36 (drop 0 pr))) D2 D1)))/\KR X 32 0 Q (Ub Try.f32 2) (mkS 63 [(1,O1 (PT 0 0)),(2,O1 (PT 1 0)),(3,O1 (I64 (wayE (2:Int) D0 (take 18 (take 36 (drop 0 pr))) (drop 18 (take 36 (drop 0 pr))))))]) [some pr,some [I64 (trA (2:Int) D0 (take 18 (take 36 (drop 0 pr))) (drop 18 (take 36 (drop 0 pr)))),SV 2 0 (List.length (trO (2:Int) D0 (take 18 (take 36 (drop 0 pr))) (drop 18 (take 36 (drop 0 pr))) D1 D2)),SV 3 0 (List.length (trO (2:Int) D0 (drop 18 (take 36 (drop 0 pr))) (take 18 (take 36 (drop 0 pr))) D2 D1)),Bb (trC (2:Int) D0 (take 18 (take 36 (drop 0 pr))) (drop 18 (take 36 (drop 0 pr))) true)],some (hide (List.map U8 (trO (2:Int) D0 (take 18 (take 36 (drop 0 pr))) (drop 18 (take 36 (drop 0 pr))) D1 D2))),some (hide (List.map U8 (trO (2:Int) D0 (drop 18 (take 36 (drop 0 pr))) (take 18 (take 36 (drop 0 pr))) D2 D1)))]) (List.map Ea (take 1 (drop 0 [Zc (Value.int IntKind.u8 107)])))) (BitVec.ofInt 32 5)) (BitVec.ofInt 32 0)) : Ia X 32 0 Q (Ub Try.f32 1) (mkS 63 [(1,.one (.ptr 0 0))]) [some pr] :=
 wR hX WVE0 ok32 [39,42,46,54] [(4,5),(100001,0),(100002,0),(100003,0),(100004,0),(200004,0)] [] [(2,[1],[true]),(3,[1,2,3],[true,false,true,true]),(4,[2,3,4,5],[false,false,true,true,true,true]),(5,[3,4,5,6,7],[false,true,true,true])] h (by kernel_rfl)
theorem vc32c {X} {Q : QT} (hX : PX X) (pr r1 r2 : List AC) (n1 n2:Nat) (a e:Int) (c : Bool) (h : (fun D4 : BitVec 32=>(fun D3 : BitVec 32=>(fun D2 : List AC=>(fun D1 : List (BitVec 8)=>(fun D0 : List AC=>1<=1/\36<=List.length pr/\18<=List.length pr/\(List.length (take 18 (drop 18 pr))=18/\18<=36)/\(List.length (take 18 (drop 0 pr))=18/\36<=List.length D2)/\1<=1/\Flat (take 1 (drop 0 [Zc (Value.int IntKind.u8 107)]))/\Flat D0/\(Oa [U8 (BitVec.ofInt 8 107)]/\1=1/\IsE (take 18 D0)/\IsE (drop 18 D0))/\Qb (hide (List.map U8 (trO (2:Int) D1 (take 18 D0) (drop 18 D0) D4 D3)))/\Qb (hide (List.map U8 (trO (2:Int) D1 (drop 18 D0) (take 18 D0) D3 D4)))/\Flat r1/\Flat r2/\Flat (hide (List.map U8 (trO (2:Int) D1 (take 18 D0) (drop 18 D0) D4 D3)))/\Flat (hide (List.map U8 (trO (2:Int) D1 (drop 18 D0) (take 18 D0) D3 D4)))/\KR X 32 0 Q (Ub Try.f32 3) (mkS 63 [(2,O1 (PT 0 0)),(3,O1 (I64 e)),(4,O1 (PT 1 0)),(5,O1 (I64 (wayE (2:Int) D1 (take 18 D0) (drop 18 D0))))]) [some [I64 a,SV 2 0 n1,SV 3 0 n2,Bb c],some [I64 (trA (2:Int) D1 (take 18 D0) (drop 18 D0)),SV 4 0 (List.length (trO (2:Int) D1 (take 18 D0) (drop 18 D0) D4 D3)),SV 5 0 (List.length (trO (2:Int) D1 (drop 18 D0) (take 18 D0) D3 D4)),Bb (trC (2:Int) D1 (take 18 D0) (drop 18 D0) true)],some r1,some r2,some (hide (List.map U8 (trO (2:Int) D1 (take 18 D0) (drop 18 D0) D4 D3))),some (hide (List.map U8 (trO (2:Int) D1 (drop 18 D0) (take 18 D0) D3 D4)))]) (lay D2 18 (take 18 (drop 0 pr)))) (List.map Ea (take 1 (drop 0 [Zc (Value.int IntKind.u8 107)])))) (lay ([Bb false]++(replicate 16 (U8 0)++([Va 0,Bb false]++(replicate 16 (U8 0)++[Va 0])))) 0 (take 18 (drop 18 pr)))) (BitVec.ofInt 32 5)) (BitVec.ofInt 32 0)) : Ia X 32 0 Q (Ub Try.f32 2) (mkS 63 [(1,.one (.ptr 0 0)),(2,.one (.ptr 1 0)),(3,.one (.i64 e))]) [some pr,some [.i64 a,.sv 2 0 n1,.sv 3 0 n2,.b c],some r1,some r2] :=
 wR hX WVE0 ok32 [39,42,46,54] [(4,5),(100001,0),(100002,0),(100003,0),(100004,0),(200004,0)] [] [(2,[1],[true]),(3,[1,2,3],[true,false,true,true]),(4,[2,3,4,5],[false,false,true,true,true,true]),(5,[3,4,5,6,7],[false,true,true,true])] h (by kernel_rfl)
theorem vc32d {X} {Q : QT} (hX : PX X) (r1 r2 r3 r4 : List AC) (n1 n2 n3 n4:Nat) (a b e f:Int) (c d : Bool) (h : (fun D7 : BitVec 16=>(fun D6 : BitVec 16=>(fun D5 : BitVec 32=>(fun D4 : List (BitVec 8)=>(fun D3 : BitVec 32=>(fun D2 : BitVec 8=>(fun D1 : List (BitVec 8)=>(fun D0 : Sg=>(fun L0 : Prop=>(1=1/\1<=32)/\(1=1/\2<=32)/\(1=1/\3<=32)/\(1=1/\5<=32)/\Flat (lay (lay (lay (lay ([Va 0,Va 0,Fa 0,Fa 0,U8 0,Va 0,Va 0,Bb false,Va 0,Bb false,U8 0,Bb false,NS,Bb false,Fa 0,Fa 0,Bb false]++(replicate 14 (U8 0)++[NS])) 0 [Zc (Value.int IntKind.u16 1)]) 1 [Zc (Value.int IntKind.u16 2)]) 2 [Zc (Value.int IntKind.u32 5)]) 4 [Zc (Value.int IntKind.u8 2)])/\(L0)/\L0) ((Oa r1/\List.length r1=n1/\n1<=9223372036854775807/\Oa r2/\List.length r2=n2/\Oa (replicate 16 (U8 0))/\16=16/\Oa (replicate 16 (U8 0))/\16=16/\IsSg ([Va D7,Va D6,Fa D5,Fa 0,U8 (BitVec.ofInt 8 2),Va 0,Va 0,Bb false,Va 0,Bb false,U8 0,Bb false,NS,Bb false,Fa 0,Fa 0,Bb true,U8 D2,U8 D2]++(replicate 12 (U8 0)++[NS])))/\Za (AG ([Bb false]++replicate 16 (U8 0)))/\Za (AG ([Bb false]++replicate 16 (U8 0)))/\Za (AG ([Va D7,Va D6,Fa D5,Fa 0,U8 (BitVec.ofInt 8 2),Va 0,Va 0,Bb false,Va 0,Bb false,U8 0,Bb false,NS,Bb false,Fa 0,Fa 0,Bb true,U8 D2,U8 D2]++(replicate 12 (U8 0)++[NS])))/\Za (O1 (Fa D3))/\Flat r1/\Flat r2/\Flat r1/\Flat r2/\Za (AG (hide (sgC (snG a D4 false false D1 D1 D0 D3 c))))/\Za (O1 (I64 (snE a D4 D0)))/\(List.length (hide (sgC (snG a D4 false false D1 D1 D0 D3 c)))=32/\32<=32)/\Flat (Qa ([Va 0,Va 0,Fa 0,Fa 0,U8 0,Va 0,Va 0,Bb false,Va 0,Bb false,U8 0,Bb false,NS,Bb false,Fa 0,Fa 0,Bb false]++(replicate 14 (U8 0)++[NS])) 0 (hide (sgC (snG a D4 false false D1 D1 D0 D3 c))))/\Flat r3/\Flat r4/\KR X 32 0 Q (Ub Try.f32 4) (mkS 63 [(3,O1 (I64 e)),(4,O1 (PT 0 0)),(5,O1 (I64 f)),(6,O1 (PT 1 0)),(7,O1 (I64 (snE a D4 D0)))]) [some [I64 b,SV 2 0 n3,SV 3 0 n4,Bb d],some (Qa ([Va 0,Va 0,Fa 0,Fa 0,U8 0,Va 0,Va 0,Bb false,Va 0,Bb false,U8 0,Bb false,NS,Bb false,Fa 0,Fa 0,Bb false]++(replicate 14 (U8 0)++[NS])) 0 (hide (sgC (snG a D4 false false D1 D1 D0 D3 c)))),some r3,some r4])) (sgOf (nrL ([Va D7,Va D6,Fa D5,Fa 0,U8 (BitVec.ofInt 8 2),Va 0,Va 0,Bb false,Va 0,Bb false,U8 0,Bb false,NS,Bb false,Fa 0,Fa 0,Bb true,U8 D2,U8 D2]++(replicate 12 (U8 0)++[NS]))))) (List.map Ea (replicate 16 (U8 0)))) (BitVec.ofInt 8 1)) (BitVec.ofInt 32 0)) (List.map Ea r1)) (BitVec.ofInt 32 5)) (BitVec.ofInt 16 2)) (BitVec.ofInt 16 1)) : Ia X 32 0 Q (Ub Try.f32 3) (mkS 63 [(2,.one (.ptr 0 0)),(3,.one (.i64 e)),(4,.one (.ptr 1 0)),(5,.one (.i64 f))]) [some [.i64 a,.sv 2 0 n1,.sv 3 0 n2,.b c],some [.i64 b,.sv 4 0 n3,.sv 5 0 n4,.b d],some r1,some r2,some r3,some r4] :=
 wR hX WVE0 ok32 [39,42,46,54] [(4,5),(100001,0),(100002,0),(100003,0),(100004,0),(200004,0)] [] [(2,[1],[true]),(3,[1,2,3],[true,false,true,true]),(4,[2,3,4,5],[false,false,true,true,true,true]),(5,[3,4,5,6,7],[false,true,true,true])] h (by kernel_rfl)
theorem vc32e {X} {Q : QT} (hX : PX X) (r3 r4 sg : List AC) (n3 n4:Nat) (b e f q:Int) (d : Bool) (h : (fun D1 : List (BitVec 8)=>(fun D0 : List (BitVec 8)=>(decide (e=(0:Int))=true->(decide (f=(0:Int))=true->(decide (q=(0:Int))=true->32<=List.length sg/\0+n3*1<=List.length r3/\Flat (take (n3*1) (drop 0 r3))/\0+n4*1<=List.length r4/\Flat (take (n4*1) (drop 0 r4))/\Flat ([Bb false]++replicate 16 (U8 0))/\Flat ([Bb false]++replicate 16 (U8 0))/\Flat (take 32 (drop 0 sg))/\(Oa (take (n3*1) (drop 0 r3))/\List.length (take (n3*1) (drop 0 r3))=n3/\Oa (take (n4*1) (drop 0 r4))/\List.length (take (n4*1) (drop 0 r4))=n4/\n4<=9223372036854775807/\Oa (replicate 16 (U8 0))/\16=16/\Oa (replicate 16 (U8 0))/\16=16/\IsSg (take 32 (drop 0 sg)))/\(decide (vfE b D1 false false D0 D0 (sgOf (nrL (take 32 (drop 0 sg)))) (BitVec.ofInt 32 0) d=(0:Int))=true->31<=List.length sg/\(fitCs (replicate 12 (U8 0)) (take 12 (drop 19 sg))/\fitCs (replicate 12 (U8 0)) (replicate 12 (U8 0)))/\Q (O1 (Bb !Ld (take 12 (drop 19 sg)) (replicate 12 (U8 0)))) [])/\(decide (vfE b D1 false false D0 D0 (sgOf (nrL (take 32 (drop 0 sg)))) (BitVec.ofInt 32 0) d=(0:Int))=false->Q (O1 (Bb false)) []))/\(decide (q=(0:Int))=false->Q (O1 (Bb false)) []))/\(decide (f=(0:Int))=false->Q (O1 (Bb false)) []))/\(decide (e=(0:Int))=false->Q (O1 (Bb false)) [])) (List.map Ea (replicate 16 (U8 0)))) (List.map Ea (take (n4*1) (drop 0 r4)))) : Ia X 32 0 Q (Ub Try.f32 4) (mkS 63 [(3,.one (.i64 e)),(4,.one (.ptr 0 0)),(5,.one (.i64 f)),(6,.one (.ptr 1 0)),(7,.one (.i64 q))]) [some [.i64 b,.sv 2 0 n3,.sv 3 0 n4,.b d],some sg,some r3,some r4] :=
 wR hX WVE0 ok32 [39,42,46,54] [(4,5),(100001,0),(100002,0),(100003,0),(100004,0),(200004,0)] [] [(2,[1],[true]),(3,[1,2,3],[true,false,true,true]),(4,[2,3,4,5],[false,false,true,true,true,true]),(5,[3,4,5,6,7],[false,true,true,true])] h (by kernel_rfl)
theorem okSg_M (g : Sg) (m : BO) : okSg (sgM g m) = okSg g := by
 unfold okSg
 show (g.op.hasA && maySg (sgM g m)) = (g.op.hasA && maySg g)
 cases h : g.op.hasA with
 | false => rfl
 | true =>
  have : mayO { g.op with mac := m } = mayO g.op := by
   unfold mayO sizN rawN
   simp only [h, Bool.true_or]
  show (true && (mayO { g.op with mac := m } && decide (g.fl ≤ 63#8) && decide (g.data.length ≤ 16384))) = _
  rw [this]
  rfl
theorem sgX_M (g : Sg) (m : BO) (c : Bool) : sgX (sgM g m) c = sgX g c := by cases c <;> rfl
theorem bytB_M (s t : Bool) (a b : BO) (g : Sg) (m : BO) (sn:BitVec 32) (c : Bool) : bytB s t a b (sgM g m) sn c = bytB s t a b g sn c := by
 unfold bytB
 rw [okSg_M, sgX_M]
theorem bytE_M (g : Sg) (m : BO) : bytE (sgM g m) = bytE g := by
 unfold bytE
 rw [okSg_M]
def vK : List (BitVec 8) := lit8 [254, 156, 28, 91, 53, 54, 145, 129, 4, 221, 212, 153, 73, 29, 190, 104]
def vM : List (BitVec 8) := lit8 [248, 62, 116, 63, 149, 129, 52, 218, 210, 81, 43, 51]
def vL : List (BitVec 8) := lit8 [41, 54, 42, 27, 72, 245, 213, 164, 244, 180, 134, 110, 11, 124, 125, 164]
def vIn : List (BitVec 8) := lit8 [1, 84, 67, 80, 45, 65, 79, 0, 0, 0, 0, 0, 0, 0, 0, 0, 1, 0, 2, 0, 0, 0, 5, 0, 0, 0, 0, 0, 128]
def vB : List (BitVec 8) := lit8 [0, 0, 0, 0, 0, 0, 0, 0, 0, 0, 0, 0, 0, 6, 0, 36, 0, 1, 0, 2, 0, 0, 0, 5, 0, 0, 0, 0, 144, 2, 0, 0, 0, 0, 0, 0, 29, 16, 1, 1, 0, 0, 0, 0, 0, 0, 0, 0, 0, 0, 0, 0]
theorem v_b1 : beqL (cmS z16k (lit8 [107])) [41, 54, 42, 27, 72, 245, 213, 164, 244, 180, 134, 110, 11, 124, 125, 164] = true := by kernel_rfl
theorem v_b2 : beqL (cmS vL vIn) [254, 156, 28, 91, 53, 54, 145, 129, 4, 221, 212, 153, 73, 29, 190, 104] = true := by kernel_rfl
theorem v_b3 : beqL (cmS vK vB) [248, 62, 116, 63, 149, 129, 52, 218, 210, 81, 43, 51, 212, 35, 233, 232] = true := by kernel_rfl
def v1 : List AC := enE false z16k (BitVec.ofInt 16 1)
def v2 : List AC := enE false z16k (BitVec.ofInt 16 2)
def v0g : Sg := ⟨BitVec.ofInt 16 1, BitVec.ofInt 16 2, BitVec.ofInt 32 5, 0, BitVec.ofInt 8 2, 0, 0, ⟨false, 0, false, 0, false, false, 0, 0, true, BitVec.ofInt 8 1, BitVec.ofInt 8 1, zM, []⟩, []⟩
theorem v_in : inK 2 (ctC v1 v2 (BitVec.ofInt 32 5) (BitVec.ofInt 32 0)) = vIn := by kernel_rfl
theorem v_blk : blkA (lit8 [107]) = vL := by
 have h : blkA (lit8 [107]) = cmF z16k (lit8 [107]) := by unfold blkA; exact if_neg (by decide)
 rw [h, ← cmS_eq, beqL_ok v_b1]
 rfl
theorem v_wayE : wayE 2 (lit8 [107]) v1 v2 = 0 := by kernel_rfl
theorem v_key : trO 2 (lit8 [107]) v1 v2 (BitVec.ofInt 32 5) (BitVec.ofInt 32 0) = vK := by
 have h1 : trO 2 (lit8 [107]) v1 v2 (BitVec.ofInt 32 5) (BitVec.ofInt 32 0) = wayB 2 (lit8 [107]) v1 v2 (BitVec.ofInt 32 5) (BitVec.ofInt 32 0) := if_pos v_wayE
 have h2 : wayB 2 (lit8 [107]) v1 v2 (BitVec.ofInt 32 5) (BitVec.ofInt 32 0) = keyB 2 (lit8 [107]) (ctC v1 v2 (BitVec.ofInt 32 5) (BitVec.ofInt 32 0)) := if_pos (by kernel_rfl)
 have h3 : ∀ c, keyB 2 (lit8 [107]) c = cmF (blkA (lit8 [107])) (inK 2 c) := fun c => by
  unfold keyB
  rw [if_neg (by decide), if_neg (by decide), if_neg (by decide)]
 rw [h1, h2, h3, v_blk, v_in, ← cmS_eq, beqL_ok v_b2]
 rfl
theorem v_mac : macB 2 vK vB = vM := by
 have h : macB 2 vK vB = sh12 (cmF vK vB) := by
  unfold macB
  rw [if_neg (by decide), if_neg (by decide), if_neg (by decide)]
 rw [h, ← cmS_eq, beqL_ok v_b3]
 rfl
theorem v_byt : bytB false false z16k z16k v0g (BitVec.ofInt 32 0) true = vB := by kernel_rfl
theorem v_bytE : bytE v0g = 0 := by kernel_rfl
theorem v_macE : macE 2 vK = 0 := by kernel_rfl
theorem v_sn : snG 2 vK false false z16k z16k v0g (BitVec.ofInt 32 0) true = sgM v0g vM := by
 unfold snG snG'
 rw [v_bytE, v_byt, if_neg (by decide), v_macE, if_neg (by decide), v_mac]
theorem v_snE : snE 2 vK v0g = 0 := by
 unfold snE snE'
 rw [v_bytE, if_neg (by decide), v_macE]
theorem v_vf : vfE 2 vK false false z16k z16k (sgM v0g vM) (BitVec.ofInt 32 0) true = 0 := by
 unfold vfE vfE'
 rw [bytE_M, v_bytE, if_neg (by decide), v_macE, if_neg (by decide), bytB_M, v_byt, v_mac]
 exact if_pos rfl
def v0 : List (BitVec 8) := trO 2 (lit8 [107]) v2 v1 (BitVec.ofInt 32 0) (BitVec.ofInt 32 5)
theorem zk16 : z16k.length = 16 := List.length_replicate
theorem v1E : IsE v1 := isE_en false (a := z16k) zk16 (BitVec.ofInt 16 1)
theorem v2E : IsE v2 := isE_en false (a := z16k) zk16 (BitVec.ofInt 16 2)
theorem l32e {X : Ctx} (hX : X.P = Try.prog) (r3 : List (BitVec 8)) : Ia X 32 0 Fin (Ub Try.f32 4) (mkS 63 [(3, .one (.i64 0)), (4, .one (.ptr 0 0)), (5, .one (.i64 0)), (6, .one (.ptr 1 0)), (7, .one (.i64 0))]) [some [.i64 2, .sv 2 0 r3.length, .sv 3 0 vK.length, .b true], some (sgC (sgM v0g vM)), some (r3.map U8), some (vK.map U8)] := by
 have hM : (sgM v0g vM).op.mac.length = 12 := rfl
 have hI := isSg_C hM
 have hO := sgOf_C hM
 have hf := sg_flat hM
 have hl : (sgC (sgM v0g vM)).length = 32 := rfl
 have h32 : take 32 (drop 0 (sgC (sgM v0g vM))) = sgC (sgM v0g vM) := rfl
 have h12 : take 12 (drop 19 (sgC (sgM v0g vM))) = vM.map U8 := rfl
 have hz : List.map Ea (replicate 16 (U8 0)) = z16k := rfl
 have hs : Ld (vM.map U8) (replicate 12 (U8 0)) = false := by
  rw [same_mac]
  exact decide_eq_false (fun h => by have := congrArg (fun l : List (BitVec 8) => (l.headD 0).toNat) h; revert this; decide)
 have z1 : fitCs (replicate 12 (U8 0)) (vM.map U8) := fit12 rfl
 have z2 : fitCs (replicate 12 (U8 0)) (replicate 12 (U8 0)) := by
  have := fit12 (l := z12) List.length_replicate
  rwa [show z12.map U8 = replicate 12 (U8 0) from List.map_replicate] at this
 have vl : vK.length = 16 := rfl
 refine vc32e hX _ _ _ _ _ _ _ _ _ _ ⟨fun _ => ⟨fun _ => ⟨fun _ => ?_, fun h => absurd h (by decide)⟩, fun h => absurd h (by decide)⟩, fun h => absurd h (by decide)⟩
 try dsimp only
 rw [tk r3, tk vK, h32, h12, hs]
 simp only [Ua, hO, hz, List.length_map, hl, vl]
 have hv := v_vf
 have fA : Flat (replicate 16 (U8 0)) := Ib rfl
 have aA : Oa (replicate 16 (U8 0)) := rfl
 rw [hv]
 clear h32 h12 hs hO
 (repeat' (first | exact trivial | exact hf | exact hI | exact z1 | exact z2 | exact aA | exact Aa _ | exact Ba _ | exact Ib rfl | exact rfl | exact Nat.le_refl _ | refine And.intro ?_ ?_)) <;> first | omega | (intro h; first | (exact absurd h (by decide)) | exact ⟨by omega, ⟨z1, z2⟩, rfl⟩)
theorem l32d {X : Ctx} (hX : X.P = Try.prog) : Ia X 32 0 Fin (Ub Try.f32 3) (mkS 63 [(2, .one (.ptr 0 0)), (3, .one (.i64 0)), (4, .one (.ptr 1 0)), (5, .one (.i64 0))]) [some [.i64 2, .sv 2 0 vK.length, .sv 3 0 v0.length, .b true], some [.i64 2, .sv 4 0 v0.length, .sv 5 0 vK.length, .b true], some (vK.map U8), some (v0.map U8), some (v0.map U8), some (vK.map U8)] := by
 have K := l32e hX v0
 have hz : IsSg ([.u16 (BitVec.ofInt 16 1), .u16 (BitVec.ofInt 16 2), .u32 (BitVec.ofInt 32 5), .u32 0, .u8 (BitVec.ofInt 8 2), .u16 0, .u16 0, .b false, .u16 0, .b false, .u8 0, .b false, .ns, .b false, .u32 0, .u32 0, .b true, .u8 (BitVec.ofInt 8 1), .u8 (BitVec.ofInt 8 1)] ++ (replicate 12 (U8 0) ++ [.ns])) ∧ sgOf (nrL ([.u16 (BitVec.ofInt 16 1), .u16 (BitVec.ofInt 16 2), .u32 (BitVec.ofInt 32 5), .u32 0, .u8 (BitVec.ofInt 8 2), .u16 0, .u16 0, .b false, .u16 0, .b false, .u8 0, .b false, .ns, .b false, .u32 0, .u32 0, .b true, .u8 (BitVec.ofInt 8 1), .u8 (BitVec.ofInt 8 1)] ++ (replicate 12 (U8 0) ++ [.ns]))) = v0g := isSg_of rfl zM_len
 obtain ⟨z1, z2⟩ := hz
 have h0 : List.map Ea (replicate 16 (U8 0)) = z16k := rfl
 have vl : vK.length = 16 := rfl
 have h1 := v_sn
 have h2 := v_snE
 have hf := sg_flat (g := sgM v0g vM) rfl
 have hfL : Flat ([.u16 (BitVec.ofInt 16 1), .u16 (BitVec.ofInt 16 2), .u32 (BitVec.ofInt 32 5), .u32 0, .u8 (BitVec.ofInt 8 2), .u16 0, .u16 0, .b false, .u16 0, .b false, .u8 0, .b false, .ns, .b false, .u32 0, .u32 0, .b true, .u8 (BitVec.ofInt 8 1), .u8 (BitVec.ofInt 8 1)] ++ (replicate 12 (U8 0) ++ [.ns])) := Ib rfl
 have fA : Flat ([Bb false] ++ replicate 16 (U8 0)) := Ib rfl
 have hll : ∀ z : List AC, z.length = 32 → Qa z 0 (sgC (sgM v0g vM)) = sgC (sgM v0g vM) := fun z hz => layS_all (by rw [hz]; rfl)
 have hls : (sgC (sgM v0g vM)).length = 32 := rfl
 refine vc32d hX _ _ _ _ _ _ _ _ _ _ _ _ _ _ ?_
 try dsimp only
 rw [z2]
 simp only [Ua, h0, h1, h2, Ja, List.length_map]
 rw [hll _ rfl]
 generalize hG : sgC (sgM v0g vM) = G at *
 generalize v0 = W0 at *
 (repeat' (first | exact trivial | exact hf | exact z1 | exact fA | exact hfL | exact Aa _ | exact Ba _ | exact Ib rfl | exact rfl | exact Nat.le_refl _ | exact ⟨K⟩ | refine And.intro ?_ ?_)) <;> omega
theorem v_sym : wayE 2 (lit8 [107]) v2 v1 = 0 := (wayE_sym _ _ _ _).trans v_wayE
theorem v_trA : trA 2 (lit8 [107]) v1 v2 = 2 := if_pos v_wayE
theorem v_trA' : trA 2 (lit8 [107]) v2 v1 = 2 := if_pos v_sym
theorem v_trC : trC 2 (lit8 [107]) v1 v2 true = true := by unfold trC; rw [v_wayE]; rfl
theorem v_trC' : trC 2 (lit8 [107]) v2 v1 true = true := by unfold trC; rw [v_sym]; rfl
theorem l32c {X : Ctx} (hX : X.P = Try.prog) : Ia X 32 0 Fin (Ub Try.f32 2) (mkS 63 [(1, .one (.ptr 0 0)), (2, .one (.ptr 1 0)), (3, .one (.i64 0))]) [some (v1 ++ v2), some [.i64 2, .sv 2 0 vK.length, .sv 3 0 v0.length, .b true], some (vK.map U8), some (v0.map U8)] := by
 have K := l32d hX
 have hl : (v1 ++ v2).length = 36 := rfl
 have t1 : take 18 (drop 18 (v1 ++ v2)) = v2 := rfl
 have t2 : take 18 (drop 0 (v1 ++ v2)) = v1 := rfl
 have e1 : lay (lay ([.b false] ++ (replicate 16 (U8 0) ++ ([.u16 0, .b false] ++ (replicate 16 (U8 0) ++ [.u16 0])))) 0 v2) 18 v1 = v2 ++ v1 := rfl
 have e2 : (lay ([.b false] ++ (replicate 16 (U8 0) ++ ([.u16 0, .b false] ++ (replicate 16 (U8 0) ++ [.u16 0])))) 0 v2).length = 36 := rfl
 have t3 : take 18 (v2 ++ v1) = v2 := rfl
 have t4 : drop 18 (v2 ++ v1) = v1 := rfl
 have m1 : List.map Ea (take 1 (drop 0 [Zc (Value.int IntKind.u8 107)])) = lit8 [107] := rfl
 have l1 : v1.length = 18 := rfl
 have l2 : v2.length = 18 := rfl
 have hE1 := v1E
 have hE2 := v2E
 have f1 : Flat (v2 ++ v1) := Ib rfl
 have k1 := v_key
 have k2 : trO 2 (lit8 [107]) v2 v1 (BitVec.ofInt 32 0) (BitVec.ofInt 32 5) = v0 := rfl
 have hA := v_trA'
 have hC := v_trC'
 have hE := v_sym
 refine vc32c hX _ _ _ _ _ _ _ _ ?_
 try dsimp only
 rw [t1, t2]
 rw [e2, e1, t3, t4, m1, k1, k2, hA, hC, hE]
 simp only [Ja, List.length_map, hl, l1, l2]
 clear t1 t2 t3 t4 e1 e2 k1 k2 hA hC hE m1
 generalize v0 = W0 at *
 generalize v2 ++ v1 = P1 at *
 generalize v1 = A1 at *
 generalize v2 = A2 at *
 (repeat' (first | exact trivial | exact f1 | exact hE1 | exact hE2 | exact Aa _ | exact Ba _ | exact Ud _ | exact rfl | exact Nat.le_refl _ | exact ⟨K⟩ | refine And.intro ?_ ?_ | exact Ib rfl)) <;> omega
theorem l32b {X : Ctx} (hX : X.P = Try.prog) : Ia X 32 0 Fin (Ub Try.f32 1) (mkS 63 [(1, .one (.ptr 0 0))]) [some (v1 ++ v2)] := by
 have K := l32c hX
 have hl : (v1 ++ v2).length = 36 := rfl
 have t1 : take 36 (drop 0 (v1 ++ v2)) = v1 ++ v2 := rfl
 have t2 : take 18 (v1 ++ v2) = v1 := rfl
 have t3 : drop 18 (v1 ++ v2) = v2 := rfl
 have m1 : List.map Ea (take 1 (drop 0 [Zc (Value.int IntKind.u8 107)])) = lit8 [107] := rfl
 have hE1 := v1E
 have hE2 := v2E
 have f1 : Flat (v1 ++ v2) := Ib rfl
 have k1 := v_key
 have k2 : trO 2 (lit8 [107]) v2 v1 (BitVec.ofInt 32 0) (BitVec.ofInt 32 5) = v0 := rfl
 have hA := v_trA
 have hC := v_trC
 have hE := v_wayE
 refine vc32b hX _ ?_
 try dsimp only
 rw [t1, t2, t3, m1, k1, k2, hA, hC, hE]
 simp only [Ja, List.length_map, hl]
 clear t1 t2 t3 k1 k2 hA hC hE m1
 generalize v0 = W0 at *
 generalize v1 ++ v2 = P1 at *
 generalize v1 = A1 at *
 generalize v2 = A2 at *
 (repeat' (first | exact trivial | exact f1 | exact hE1 | exact hE2 | exact Aa _ | exact Ba _ | exact Ud _ | exact rfl | exact Nat.le_refl _ | exact ⟨K⟩ | refine And.intro ?_ ?_ | exact Ib rfl)) <;> omega
theorem s32 : Spec Try.prog 32 [] [] Fin := by
 refine Spec.of_run ok32 fun X hX => vc32 hX ?_
 have K := l32b hX
 (repeat' (first | exact trivial | exact Ib rfl | exact rfl | exact Nat.le_refl _ | exact ⟨K⟩ | refine And.intro ?_ ?_)) <;> omega
theorem ok86 : Ac Try.prog 86 Try.f86 (Na Try.f86) := .of Try.func86 (by kernel_rfl) (by kernel_rfl)
theorem ok87 : Ac Try.prog 87 Try.f87 (Na Try.f87) := .of Try.func87 (by kernel_rfl) (by kernel_rfl)
theorem ok88 : Ac Try.prog 88 Try.f88 (Na Try.f88) := .of Try.func88 (by kernel_rfl) (by kernel_rfl)
theorem ok29 : Ac Try.prog 29 Try.f29 (Na Try.f29) := .of Try.func29 (by kernel_rfl) (by kernel_rfl)
noncomputable def TV11 : Tab := fun f xs => match f, xs with
 | 32, [] => some ([], .one (.b true))
 | f, xs => TV10 f xs
theorem TV11_ok : Oc Try.prog TV11 := by
 intro f xs cs r h hc
 unfold TV11 at h
 split at h
 ·obtain ⟨rfl, rfl⟩ := Prod.mk.inj (Option.some.inj h)
  exact ⟨⟨_, _, ok32⟩, s32, rfl⟩
 ·exact TV10_ok _ _ _ _ h hc
def WVE1 : WC := ⟨envP TV11 mfV8 MV8,envP_ok TV11 mfV8 MV8,Ed TV11_ok MV8_ok⟩
theorem vc86 {X} {Q : QT} (hX : PX X) (a:Int) (mr pr : List AC) (n:Nat) (c : Bool) (x y:BitVec 32) (h : (fun D4 : Bool=>(fun D3 : Bool=>(fun D2 : List (BitVec 8)=>(fun D1 : List (BitVec 8)=>(fun D0 : List (BitVec 8)=>18<=List.length pr/\36<=List.length pr/\Flat (take 18 (drop 0 pr))/\Flat (take 18 (drop 18 pr))/\(IsE (take 18 (drop 0 pr))/\IsE (take 18 (drop 18 pr)))/\Qb (hide (List.map U8 D1))/\((!decide (ctE D4 D3=(0:Int)))=true->Q (TU [AG [I64 (0:Int),NS,NS,Bb false],O1 (I64 (ctE D4 D3))]) [])/\((!decide (ctE D4 D3=(0:Int)))=false->36<=List.length pr/\18<=List.length pr/\Flat (take 18 (drop 18 pr))/\Flat (take 18 (drop 0 pr))/\(IsE (take 18 (drop 18 pr))/\IsE (take 18 (drop 0 pr)))/\Qb (hide (List.map U8 D0))/\0+n*1<=List.length mr/\0+List.length D1*1<=List.length (hide (List.map U8 D1))/\Flat (take (List.length D1*1) (drop 0 (hide (List.map U8 D1))))/\(Oa (take (n*1) (drop 0 mr))/\List.length (take (n*1) (drop 0 mr))=n/\Oa (take (List.length D1*1) (drop 0 (hide (List.map U8 D1))))/\List.length (take (List.length D1*1) (drop 0 (hide (List.map U8 D1))))=List.length D1/\List.length D1<=1000)/\Qb (hide (List.map U8 (keyB a D2 (List.map Ea (take (List.length D1*1) (drop 0 (hide (List.map U8 D1))))))))/\((!decide (keyE a D2=(0:Int)))=true->Q (TU [AG [I64 (0:Int),NS,NS,Bb false],O1 (I64 (keyE a D2))]) [])/\((!decide (keyE a D2=(0:Int)))=false->0+n*1<=List.length mr/\0+List.length D0*1<=List.length (hide (List.map U8 D0))/\Flat (take (List.length D0*1) (drop 0 (hide (List.map U8 D0))))/\(Oa (take (n*1) (drop 0 mr))/\List.length (take (n*1) (drop 0 mr))=n/\Oa (take (List.length D0*1) (drop 0 (hide (List.map U8 D0))))/\List.length (take (List.length D0*1) (drop 0 (hide (List.map U8 D0))))=List.length D0/\List.length D0<=1000)/\Qb (hide (List.map U8 (keyB a D2 (List.map Ea (take (List.length D0*1) (drop 0 (hide (List.map U8 D0))))))))/\Flat (hide (List.map U8 (keyB a D2 (List.map Ea (take (List.length D1*1) (drop 0 (hide (List.map U8 D1))))))))/\Flat (hide (List.map U8 (keyB a D2 (List.map Ea (take (List.length D0*1) (drop 0 (hide (List.map U8 D0))))))))/\Q (TU [AG [I64 a,SV 0 0 (List.length (keyB a D2 (List.map Ea (take (List.length D1*1) (drop 0 (hide (List.map U8 D1))))))),SV 1 0 (List.length (keyB a D2 (List.map Ea (take (List.length D0*1) (drop 0 (hide (List.map U8 D0))))))),Bb c],O1 (I64 (0:Int))]) [some (hide (List.map U8 (keyB a D2 (List.map Ea (take (List.length D1*1) (drop 0 (hide (List.map U8 D1)))))))),some (hide (List.map U8 (keyB a D2 (List.map Ea (take (List.length D0*1) (drop 0 (hide (List.map U8 D0))))))))]))) (ctC (take 18 (drop 18 pr)) (take 18 (drop 0 pr)) y x)) (ctC (take 18 (drop 0 pr)) (take 18 (drop 18 pr)) x y)) (List.map Ea (take (n*1) (drop 0 mr)))) (sE (take 18 (drop 18 pr)))) (sE (take 18 (drop 0 pr)))) : Ia X 86 0 Q ([.code (Na Try.f86)]) (slots [.one (.i64 a),.one (.xs mr 0 n),.one (.b c),.agg pr,.one (.u32 x),.one (.u32 y)] Try.f86.ntmps) [] :=
 wR hX WVE1 ok86 [33,54] [] [true,true] [] h (by kernel_rfl)
theorem vc88 {X} {Q : QT} (hX : PX X) (a:Int) (r1 r2 : List AC) (n1 n2:Nat) (c : Bool) (h : I64 a=I64 a/\Flat r1/\Flat r2/\Q (AG [I64 a,SV 0 0 n1,SV 1 0 n2,Bb c]) [some r1,some r2]) : Ia X 88 2 Q ([.code (Na Try.f88)]) (slots [.agg [.i64 a,.sv 0 0 n1,.sv 1 0 n2,.b c]] Try.f88.ntmps) [some r1,some r2] :=
 wR hX WVE1 ok88 [] [] [true,true] [] h (by kernel_rfl)
theorem vc87 {X} {Q : QT} (hX : PX X) (a b:Int) (r1 r2 r3 r4 : List AC) (n1 n2 n3 n4:Nat) (c d : Bool) (h : I64 a=I64 a/\I64 b=I64 b/\(decide (a=b)=true->((c==d)=true->0+n1*1<=List.length r1/\Oa (take (n1*1) (drop 0 r1))/\0+n3*1<=List.length r3/\Oa (take (n3*1) (drop 0 r3))/\(decide (List.map Ea (take (n1*1) (drop 0 r1))=List.map Ea (take (n3*1) (drop 0 r3)))=true->0+n2*1<=List.length r2/\Oa (take (n2*1) (drop 0 r2))/\0+n4*1<=List.length r4/\Oa (take (n4*1) (drop 0 r4))/\Q (O1 (Bb (decide (List.map Ea (take (n2*1) (drop 0 r2))=List.map Ea (take (n4*1) (drop 0 r4)))))) [])/\(decide (List.map Ea (take (n1*1) (drop 0 r1))=List.map Ea (take (n3*1) (drop 0 r3)))=false->Q (O1 (Bb false)) []))/\((c==d)=false->Q (O1 (Bb false)) []))/\(decide (a=b)=false->Q (O1 (Bb false)) [])) : Ia X 87 0 Q ([.code (Na Try.f87)]) (slots [.agg [.i64 a,.xs r1 0 n1,.xs r2 0 n2,.b c],.agg [.i64 b,.xs r3 0 n3,.xs r4 0 n4,.b d]] Try.f87.ntmps) [] :=
 wR hX WVE1 ok87 [9,15,24] [] [] [] h (by kernel_rfl)
theorem s86 (a:Int) (m : List (BitVec 8)) (c : Bool) (cs ds : List AC) (x y:BitVec 32) (h1 : IsE cs) (h2 : IsE ds) : Spec Try.prog 86 [.one (.i64 a), .one (.xs (m.map U8) 0 m.length), .one (.b c), .agg (cs ++ ds), .one (.u32 x), .one (.u32 y)] [] (Are (.Ec [.agg [.i64 (trA a m cs ds), .sv 0 0 (trO a m cs ds x y).length, .sv 1 0 (trO a m ds cs y x).length, .b (trC a m cs ds c)], .one (.i64 (wayE a m cs ds))]) [some ((trO a m cs ds x y).map U8), some ((trO a m ds cs y x).map U8)]) := by
 have hl1 := h1.l18
 have hl2 := h2.l18
 have f1 := h1.fl
 have f2 := h2.fl
 have c1 := ctC_len h1 h2 x y
 have c2 := ctC_len h2 h1 y x
 have t1 : take 18 (drop 0 (cs ++ ds)) = cs := by rw [List.drop_zero, List.take_append_of_le_length (by omega), List.take_of_length_le (by omega)]
 have t2 : take 18 (drop 18 (cs ++ ds)) = ds := by rw [List.drop_append_of_le_length (by omega), List.drop_eq_nil_of_le (by omega), List.nil_append, List.take_of_length_le (by omega)]
 have hll : (cs ++ ds).length = 36 := by rw [List.length_append]; omega
 have hs := wayE_sym a m ds cs
 refine Spec.padK (Spec.of_run ok86 fun X hX => vc86 hX _ _ _ _ _ _ _ ?_)
 simp only [t1, t2, tk m, tk (ctC cs ds x y), tk (ctC ds cs y x), Ua, Ja, List.length_map, hll]
 have E0 : ∀ e : Int, e ≠ 0 → wayE a m cs ds = e → (TU [.agg [.i64 (trA a m cs ds), .sv 0 0 (trO a m cs ds x y).length, .sv 1 0 (trO a m ds cs y x).length, .b (trC a m cs ds c)], .one (.i64 (wayE a m cs ds))]) = TU [.agg [.i64 0, .sv 0 0 0, .sv 1 0 0, .b false], .one (.i64 e)] ∧ [some ((trO a m cs ds x y).map U8), some ((trO a m ds cs y x).map U8)] = [some [], some []] := fun e he hw => by
  have e1 : trO a m cs ds x y = [] := if_neg (by rw [hw]; exact he)
  have e2 : trO a m ds cs y x = [] := if_neg (by rw [hs, hw]; exact he)
  have e3 : trA a m cs ds = 0 := if_neg (by rw [hw]; exact he)
  have e4 : trC a m cs ds c = false := by unfold trC; rw [hw, decide_eq_false he]; rfl
  rw [e1, e2, e3, e4, hw]
  exact ⟨rfl, rfl⟩
 refine ⟨by omega, by omega, f1, f2, ⟨h1, h2⟩, Ud _, fun h => ?_, fun h => ?_⟩
 ·have h := of_decide_eq_false (bnt h)
  obtain ⟨g1, g2⟩ := E0 _ h (if_neg h)
  rw [g1, g2]
  exact .inr ⟨.i64 0, .b false, .i64 _, rfl, rfl, rfl, rfl, by trivial, rfl, rfl⟩
 ·have h := of_decide_eq_true (bnf h)
  have hw : wayE a m cs ds = keyE a m := if_pos h
  have w1 : wayB a m cs ds x y = keyB a m (ctC cs ds x y) := if_pos h
  have w2 : wayB a m ds cs y x = keyB a m (ctC ds cs y x) := if_pos ((ctE_sym _ _).trans h)
  refine ⟨by omega, by omega, f2, f1, ⟨h2, h1⟩, Ud _, by first | omega | trivial, by first | omega | trivial, Aa _, ⟨Ba _, by first | omega | trivial, Ba _, by first | omega | trivial, by omega⟩, Ud _, fun g => ?_, fun g => ?_⟩
  ·have g := of_decide_eq_false (bnt g)
   obtain ⟨g1, g2⟩ := E0 _ g hw
   rw [g1, g2]
   exact .inr ⟨.i64 0, .b false, .i64 _, rfl, rfl, rfl, rfl, by trivial, rfl, rfl⟩
  ·have g := of_decide_eq_true (bnf g)
   rw [g] at hw
   have e1 : trO a m cs ds x y = keyB a m (ctC cs ds x y) := (if_pos hw).trans w1
   have e2 : trO a m ds cs y x = keyB a m (ctC ds cs y x) := (if_pos (hs.trans hw)).trans w2
   have e3 : trA a m cs ds = a := if_pos hw
   have e4 : trC a m cs ds c = c := by unfold trC; rw [hw]; rfl
   rw [e1, e2, e3, e4, hw]
   refine ⟨by first | omega | trivial, by first | omega | trivial, Aa _, ⟨Ba _, by first | omega | trivial, Ba _, by first | omega | trivial, by omega⟩, Ud _, Aa _, Aa _, .inl ⟨rfl, rfl⟩⟩
theorem deq' {α : Type _} (a : α) (i : Decidable (a = a)) : @decide (a = a) i = true := by
 cases i with
 | isTrue h => rfl
 | isFalse h => exact absurd rfl h
theorem s88 (a:Int) (k1 k2 : BO) (c : Bool) : Spec Try.prog 88 [.agg [.i64 a, .sv 0 0 k1.length, .sv 1 0 k2.length, .b c]] [some (k1.map U8), some (k2.map U8)] (Are (.agg [.i64 a, .sv 0 0 k1.length, .sv 1 0 k2.length, .b c]) [some (k1.map U8), some (k2.map U8)]) :=
 Spec.of_run ok88 fun X hX => vc88 hX _ _ _ _ _ _ ⟨rfl, Aa _, Aa _, rfl, rfl⟩
theorem s87 (a:Int) (k1 k2 : BO) (c : Bool) : Spec Try.prog 87 [.agg [.i64 a, .xs (k1.map U8) 0 k1.length, .xs (k2.map U8) 0 k2.length, .b c], .agg [.i64 a, .xs (k1.map U8) 0 k1.length, .xs (k2.map U8) 0 k2.length, .b c]] [] Fin := by
 refine Spec.of_run ok87 fun X hX => vc87 hX _ _ _ _ _ _ _ _ _ _ _ _ ?_
 rw [tk k1, tk k2, Ua, Ua]
 refine ⟨rfl, rfl, fun _ => ⟨fun _ => ⟨by rw [List.length_map]; omega, Ba _, by rw [List.length_map]; omega, Ba _, fun _ => ⟨by rw [List.length_map]; omega, Ba _, by rw [List.length_map]; omega, Ba _, ?_⟩, fun h => absurd rfl (of_decide_eq_false h)⟩, fun h => ?_⟩, fun h => absurd rfl (of_decide_eq_false h)⟩
 ·rw [deq']; exact rfl
 ·rw [show (c == c) = true from by cases c <;> rfl] at h; cases h
noncomputable def TV12 : Tab := fun f xs => match f, xs with
 | 87, [.agg [.i64 a, .xs r1 0 n1, .xs r2 0 n2, .b c], .agg [.i64 b, .xs r3 0 n3, .xs r4 0 n4, .b d]] => some ([a = b ∧ c = d ∧ r1 = r3 ∧ n1 = n3 ∧ r2 = r4 ∧ n2 = n4 ∧ Oa r1 ∧ r1.length = n1 ∧ Oa r2 ∧ r2.length = n2], .one (.b true))
 | f, xs => TV11 f xs
theorem TV12_ok : Oc Try.prog TV12 := by
 intro f xs cs r h hc
 unfold TV12 at h
 split at h
 ·obtain ⟨rfl, rfl⟩ := Prod.mk.inj (Option.some.inj h)
  rename_i a r1 n1 r2 n2 c b r3 n3 r4 n4 d
  obtain ⟨rfl, rfl, rfl, rfl, rfl, rfl, h1, h2, h3, h4⟩ := hc.1
  have := s87 a (r1.map Ea) (r2.map Ea) c
  rw [← h1, ← h3, List.length_map, List.length_map, h2, h4] at this
  exact ⟨⟨_, _, ok87⟩, this, rfl⟩
 ·exact TV11_ok _ _ _ _ h hc
noncomputable def MV9 : Ad := fun f xs m => match f, xs, m with
 | 86, [.one (.i64 a), .one (.xs mr 0 n), .one (.b c), .agg pr, .one (.u32 x), .one (.u32 y)], [] => some ([Oa mr ∧ mr.length = n ∧ IsE (pr.take 18) ∧ IsE (pr.drop 18)], .Ec [.agg [.i64 (trA a (mr.map Ea) (pr.take 18) (pr.drop 18)), .sv 0 0 (trO a (mr.map Ea) (pr.take 18) (pr.drop 18) x y).length, .sv 1 0 (trO a (mr.map Ea) (pr.drop 18) (pr.take 18) y x).length, .b (trC a (mr.map Ea) (pr.take 18) (pr.drop 18) c)], .one (.i64 (wayE a (mr.map Ea) (pr.take 18) (pr.drop 18)))],
   [some (hide ((trO a (mr.map Ea) (pr.take 18) (pr.drop 18) x y).map U8)), some (hide ((trO a (mr.map Ea) (pr.drop 18) (pr.take 18) y x).map U8))])
 | 88, [.agg [.i64 a, .sv 0 0 n1, .sv 1 0 n2, .b c]], [some r1, some r2] => some ([Oa r1 ∧ r1.length = n1 ∧ Oa r2 ∧ r2.length = n2], .agg [.i64 a, .sv 0 0 n1, .sv 1 0 n2, .b c], [some r1, some r2])
 | f, xs, m => MV8 f xs m
noncomputable def mfV9 : FuncId → Option MF := fun f => match f with
 | 86 => some { cs := { kinds := [], fl := [] }, flo := [true, true], fresh := true }
 | 88 => some { cs := { kinds := [], fl := [true, true] }, flo := [true, true] }
 | f => mfV8 f
theorem MV9_ok : Xc Try.prog MV9 := by
 intro f xs m0 cs r m1 h hc
 unfold MV9 at h
 split at h
 ·simp only [Option.some.injEq, Prod.mk.injEq] at h; obtain ⟨rfl, rfl, rfl⟩ := h
  rename_i a mr n c pr x y
  obtain ⟨h1, h2, h3, h4⟩ := hc.1
  have := s86 a (mr.map Ea) c (pr.take 18) (pr.drop 18) x y h3 h4
  rw [← h1, List.length_map, h2, List.take_append_drop] at this
  rw [Ja, Ja]
  exact ⟨⟨_, _, ok86⟩, this⟩
 ·simp only [Option.some.injEq, Prod.mk.injEq] at h; obtain ⟨rfl, rfl, rfl⟩ := h
  rename_i a n1 n2 c r1 r2
  obtain ⟨h1, h2, h3, h4⟩ := hc.1
  have := s88 a (r1.map Ea) (r2.map Ea) c
  rw [← h1, ← h3, List.length_map, List.length_map, h2, h4] at this
  exact ⟨⟨_, _, ok88⟩, this⟩
 ·exact MV8_ok _ _ _ _ _ _ h hc
def WVE2 : WC := ⟨envP TV12 mfV9 MV9,envP_ok TV12 mfV9 MV9,Ed TV12_ok MV9_ok⟩
theorem vc29 {X} {Q : QT} (hX : PX X) (a:Int) (mr : List AC) (n:Nat) (c : Bool) (s : Bool) (u0 u1 u2 u3 u4 u5 u6 u7 u8 u9 ua ub uc ud ue uf:BitVec 8) (p:BitVec 16) (t : Bool) (w0 w1 w2 w3 w4 w5 w6 w7 w8 w9 wa wb wc wd we wf:BitVec 8) (q:BitVec 16) (x y:BitVec 32) (h : (fun D0 : List (BitVec 8)=>(decide ((200:Int)<(↑n:Int))=true->Q (O1 (Bb true)) [])/\(decide ((200:Int)<(↑n:Int))=false->I64 a=I64 a/\39<=41/\Fa x=Fa x/\Fa y=Fa y/\0+n*1<=List.length mr/\Flat (take 36 (drop 3 (let y := let y := let y := [U8 wd,U8 we,U8 wf,Va q,Fa x,Fa y]; U8 w8::U8 w9::U8 wa::U8 wb::U8 wc::y; let y := U8 w3::U8 w4::U8 w5::U8 w6::U8 w7::y; Va p::Bb t::U8 w0::U8 w1::U8 w2::y; let y := let y := U8 ub::U8 uc::U8 ud::U8 ue::U8 uf::y; U8 u6::U8 u7::U8 u8::U8 u9::U8 ua::y; let y := U8 u1::U8 u2::U8 u3::U8 u4::U8 u5::y; I64 a::XS mr 0 n::Bb c::Bb s::U8 u0::y)))/\(Oa (take (n*1) (drop 0 mr))/\List.length (take (n*1) (drop 0 mr))=n/\IsE (take 18 (take 36 (drop 3 (let y := let y := let y := [U8 wd,U8 we,U8 wf,Va q,Fa x,Fa y]; U8 w8::U8 w9::U8 wa::U8 wb::U8 wc::y; let y := U8 w3::U8 w4::U8 w5::U8 w6::U8 w7::y; Va p::Bb t::U8 w0::U8 w1::U8 w2::y; let y := let y := U8 ub::U8 uc::U8 ud::U8 ue::U8 uf::y; U8 u6::U8 u7::U8 u8::U8 u9::U8 ua::y; let y := U8 u1::U8 u2::U8 u3::U8 u4::U8 u5::y; I64 a::XS mr 0 n::Bb c::Bb s::U8 u0::y))))/\IsE (drop 18 (take 36 (drop 3 (let y := let y := let y := [U8 wd,U8 we,U8 wf,Va q,Fa x,Fa y]; U8 w8::U8 w9::U8 wa::U8 wb::U8 wc::y; let y := U8 w3::U8 w4::U8 w5::U8 w6::U8 w7::y; Va p::Bb t::U8 w0::U8 w1::U8 w2::y; let y := let y := U8 ub::U8 uc::U8 ud::U8 ue::U8 uf::y; U8 u6::U8 u7::U8 u8::U8 u9::U8 ua::y; let y := U8 u1::U8 u2::U8 u3::U8 u4::U8 u5::y; I64 a::XS mr 0 n::Bb c::Bb s::U8 u0::y)))))/\Qb (hide (List.map U8 (trO a D0 (take 18 (take 36 (drop 3 (let y := let y := let y := [U8 wd,U8 we,U8 wf,Va q,Fa x,Fa y]; U8 w8::U8 w9::U8 wa::U8 wb::U8 wc::y; let y := U8 w3::U8 w4::U8 w5::U8 w6::U8 w7::y; Va p::Bb t::U8 w0::U8 w1::U8 w2::y; let y := let y := U8 ub::U8 uc::U8 ud::U8 ue::U8 uf::y; U8 u6::U8 u7::U8 u8::U8 u9::U8 ua::y; let y := U8 u1::U8 u2::U8 u3::U8 u4::U8 u5::y; I64 a::XS mr 0 n::Bb c::Bb s::U8 u0::y)))) (drop 18 (take 36 (drop 3 (let y := let y := let y := [U8 wd,U8 we,U8 wf,Va q,Fa x,Fa y]; U8 w8::U8 w9::U8 wa::U8 wb::U8 wc::y; let y := U8 w3::U8 w4::U8 w5::U8 w6::U8 w7::y; Va p::Bb t::U8 w0::U8 w1::U8 w2::y; let y := let y := U8 ub::U8 uc::U8 ud::U8 ue::U8 uf::y; U8 u6::U8 u7::U8 u8::U8 u9::U8 ua::y; let y := U8 u1::U8 u2::U8 u3::U8 u4::U8 u5::y; I64 a::XS mr 0 n::Bb c::Bb s::U8 u0::y)))) x y)))/\Qb (hide (List.map U8 (trO a D0 (drop 18 (take 36 (drop 3 (let y := let y := let y := [U8 wd,U8 we,U8 wf,Va q,Fa x,Fa y]; U8 w8::U8 w9::U8 wa::U8 wb::U8 wc::y; let y := U8 w3::U8 w4::U8 w5::U8 w6::U8 w7::y; Va p::Bb t::U8 w0::U8 w1::U8 w2::y; let y := let y := U8 ub::U8 uc::U8 ud::U8 ue::U8 uf::y; U8 u6::U8 u7::U8 u8::U8 u9::U8 ua::y; let y := U8 u1::U8 u2::U8 u3::U8 u4::U8 u5::y; I64 a::XS mr 0 n::Bb c::Bb s::U8 u0::y)))) (take 18 (take 36 (drop 3 (let y := let y := let y := [U8 wd,U8 we,U8 wf,Va q,Fa x,Fa y]; U8 w8::U8 w9::U8 wa::U8 wb::U8 wc::y; let y := U8 w3::U8 w4::U8 w5::U8 w6::U8 w7::y; Va p::Bb t::U8 w0::U8 w1::U8 w2::y; let y := let y := U8 ub::U8 uc::U8 ud::U8 ue::U8 uf::y; U8 u6::U8 u7::U8 u8::U8 u9::U8 ua::y; let y := U8 u1::U8 u2::U8 u3::U8 u4::U8 u5::y; I64 a::XS mr 0 n::Bb c::Bb s::U8 u0::y)))) y x)))/\Flat (let y := let y := let y := [U8 wd,U8 we,U8 wf,Va q,Fa x,Fa y]; U8 w8::U8 w9::U8 wa::U8 wb::U8 wc::y; let y := U8 w3::U8 w4::U8 w5::U8 w6::U8 w7::y; Va p::Bb t::U8 w0::U8 w1::U8 w2::y; let y := let y := U8 ub::U8 uc::U8 ud::U8 ue::U8 uf::y; U8 u6::U8 u7::U8 u8::U8 u9::U8 ua::y; let y := U8 u1::U8 u2::U8 u3::U8 u4::U8 u5::y; I64 a::XS mr 0 n::Bb c::Bb s::U8 u0::y)/\Flat (hide (List.map U8 (trO a D0 (take 18 (take 36 (drop 3 (let y := let y := let y := [U8 wd,U8 we,U8 wf,Va q,Fa x,Fa y]; U8 w8::U8 w9::U8 wa::U8 wb::U8 wc::y; let y := U8 w3::U8 w4::U8 w5::U8 w6::U8 w7::y; Va p::Bb t::U8 w0::U8 w1::U8 w2::y; let y := let y := U8 ub::U8 uc::U8 ud::U8 ue::U8 uf::y; U8 u6::U8 u7::U8 u8::U8 u9::U8 ua::y; let y := U8 u1::U8 u2::U8 u3::U8 u4::U8 u5::y; I64 a::XS mr 0 n::Bb c::Bb s::U8 u0::y)))) (drop 18 (take 36 (drop 3 (let y := let y := let y := [U8 wd,U8 we,U8 wf,Va q,Fa x,Fa y]; U8 w8::U8 w9::U8 wa::U8 wb::U8 wc::y; let y := U8 w3::U8 w4::U8 w5::U8 w6::U8 w7::y; Va p::Bb t::U8 w0::U8 w1::U8 w2::y; let y := let y := U8 ub::U8 uc::U8 ud::U8 ue::U8 uf::y; U8 u6::U8 u7::U8 u8::U8 u9::U8 ua::y; let y := U8 u1::U8 u2::U8 u3::U8 u4::U8 u5::y; I64 a::XS mr 0 n::Bb c::Bb s::U8 u0::y)))) x y)))/\Flat (hide (List.map U8 (trO a D0 (drop 18 (take 36 (drop 3 (let y := let y := let y := [U8 wd,U8 we,U8 wf,Va q,Fa x,Fa y]; U8 w8::U8 w9::U8 wa::U8 wb::U8 wc::y; let y := U8 w3::U8 w4::U8 w5::U8 w6::U8 w7::y; Va p::Bb t::U8 w0::U8 w1::U8 w2::y; let y := let y := U8 ub::U8 uc::U8 ud::U8 ue::U8 uf::y; U8 u6::U8 u7::U8 u8::U8 u9::U8 ua::y; let y := U8 u1::U8 u2::U8 u3::U8 u4::U8 u5::y; I64 a::XS mr 0 n::Bb c::Bb s::U8 u0::y)))) (take 18 (take 36 (drop 3 (let y := let y := let y := [U8 wd,U8 we,U8 wf,Va q,Fa x,Fa y]; U8 w8::U8 w9::U8 wa::U8 wb::U8 wc::y; let y := U8 w3::U8 w4::U8 w5::U8 w6::U8 w7::y; Va p::Bb t::U8 w0::U8 w1::U8 w2::y; let y := let y := U8 ub::U8 uc::U8 ud::U8 ue::U8 uf::y; U8 u6::U8 u7::U8 u8::U8 u9::U8 ua::y; let y := U8 u1::U8 u2::U8 u3::U8 u4::U8 u5::y; I64 a::XS mr 0 n::Bb c::Bb s::U8 u0::y)))) y x)))/\KR X 29 0 Q (Ub Try.f29 3) (mkS 56 [(1,O1 (PT 0 0)),(3,O1 (PT 1 0)),(4,O1 (I64 (wayE a D0 (take 18 (take 36 (drop 3 (let y := let y := let y := [U8 wd,U8 we,U8 wf,Va q,Fa x,Fa y]; U8 w8::U8 w9::U8 wa::U8 wb::U8 wc::y; let y := U8 w3::U8 w4::U8 w5::U8 w6::U8 w7::y; Va p::Bb t::U8 w0::U8 w1::U8 w2::y; let y := let y := U8 ub::U8 uc::U8 ud::U8 ue::U8 uf::y; U8 u6::U8 u7::U8 u8::U8 u9::U8 ua::y; let y := U8 u1::U8 u2::U8 u3::U8 u4::U8 u5::y; I64 a::XS mr 0 n::Bb c::Bb s::U8 u0::y)))) (drop 18 (take 36 (drop 3 (let y := let y := let y := [U8 wd,U8 we,U8 wf,Va q,Fa x,Fa y]; U8 w8::U8 w9::U8 wa::U8 wb::U8 wc::y; let y := U8 w3::U8 w4::U8 w5::U8 w6::U8 w7::y; Va p::Bb t::U8 w0::U8 w1::U8 w2::y; let y := let y := U8 ub::U8 uc::U8 ud::U8 ue::U8 uf::y; U8 u6::U8 u7::U8 u8::U8 u9::U8 ua::y; let y := U8 u1::U8 u2::U8 u3::U8 u4::U8 u5::y; I64 a::XS mr 0 n::Bb c::Bb s::U8 u0::y)))))))]) [some [I64 a,XS mr 0 n,Bb c,Bb s,U8 u0,U8 u1,U8 u2,U8 u3,U8 u4,U8 u5,U8 u6,U8 u7,U8 u8,U8 u9,U8 ua,U8 ub,U8 uc,U8 ud,U8 ue,U8 uf,Va p,Bb t,U8 w0,U8 w1,U8 w2,U8 w3,U8 w4,U8 w5,U8 w6,U8 w7,U8 w8,U8 w9,U8 wa,U8 wb,U8 wc,U8 wd,U8 we,U8 wf,Va q,Fa x,Fa y],some [I64 (trA a D0 (take 18 (take 36 (drop 3 (let y := let y := let y := [U8 wd,U8 we,U8 wf,Va q,Fa x,Fa y]; U8 w8::U8 w9::U8 wa::U8 wb::U8 wc::y; let y := U8 w3::U8 w4::U8 w5::U8 w6::U8 w7::y; Va p::Bb t::U8 w0::U8 w1::U8 w2::y; let y := let y := U8 ub::U8 uc::U8 ud::U8 ue::U8 uf::y; U8 u6::U8 u7::U8 u8::U8 u9::U8 ua::y; let y := U8 u1::U8 u2::U8 u3::U8 u4::U8 u5::y; I64 a::XS mr 0 n::Bb c::Bb s::U8 u0::y)))) (drop 18 (take 36 (drop 3 (let y := let y := let y := [U8 wd,U8 we,U8 wf,Va q,Fa x,Fa y]; U8 w8::U8 w9::U8 wa::U8 wb::U8 wc::y; let y := U8 w3::U8 w4::U8 w5::U8 w6::U8 w7::y; Va p::Bb t::U8 w0::U8 w1::U8 w2::y; let y := let y := U8 ub::U8 uc::U8 ud::U8 ue::U8 uf::y; U8 u6::U8 u7::U8 u8::U8 u9::U8 ua::y; let y := U8 u1::U8 u2::U8 u3::U8 u4::U8 u5::y; I64 a::XS mr 0 n::Bb c::Bb s::U8 u0::y))))),SV 2 0 (List.length (trO a D0 (take 18 (take 36 (drop 3 (let y := let y := let y := [U8 wd,U8 we,U8 wf,Va q,Fa x,Fa y]; U8 w8::U8 w9::U8 wa::U8 wb::U8 wc::y; let y := U8 w3::U8 w4::U8 w5::U8 w6::U8 w7::y; Va p::Bb t::U8 w0::U8 w1::U8 w2::y; let y := let y := U8 ub::U8 uc::U8 ud::U8 ue::U8 uf::y; U8 u6::U8 u7::U8 u8::U8 u9::U8 ua::y; let y := U8 u1::U8 u2::U8 u3::U8 u4::U8 u5::y; I64 a::XS mr 0 n::Bb c::Bb s::U8 u0::y)))) (drop 18 (take 36 (drop 3 (let y := let y := let y := [U8 wd,U8 we,U8 wf,Va q,Fa x,Fa y]; U8 w8::U8 w9::U8 wa::U8 wb::U8 wc::y; let y := U8 w3::U8 w4::U8 w5::U8 w6::U8 w7::y; Va p::Bb t::U8 w0::U8 w1::U8 w2::y; let y := let y := U8 ub::U8 uc::U8 ud::U8 ue::U8 uf::y; U8 u6::U8 u7::U8 u8::U8 u9::U8 ua::y; let y := U8 u1::U8 u2::U8 u3::U8 u4::U8 u5::y; I64 a::XS mr 0 n::Bb c::Bb s::U8 u0::y)))) x y)),SV 3 0 (List.length (trO a D0 (drop 18 (take 36 (drop 3 (let y := let y := let y := [U8 wd,U8 we,U8 wf,Va q,Fa x,Fa y]; U8 w8::U8 w9::U8 wa::U8 wb::U8 wc::y; let y := U8 w3::U8 w4::U8 w5::U8 w6::U8 w7::y; Va p::Bb t::U8 w0::U8 w1::U8 w2::y; let y := let y := U8 ub::U8 uc::U8 ud::U8 ue::U8 uf::y; U8 u6::U8 u7::U8 u8::U8 u9::U8 ua::y; let y := U8 u1::U8 u2::U8 u3::U8 u4::U8 u5::y; I64 a::XS mr 0 n::Bb c::Bb s::U8 u0::y)))) (take 18 (take 36 (drop 3 (let y := let y := let y := [U8 wd,U8 we,U8 wf,Va q,Fa x,Fa y]; U8 w8::U8 w9::U8 wa::U8 wb::U8 wc::y; let y := U8 w3::U8 w4::U8 w5::U8 w6::U8 w7::y; Va p::Bb t::U8 w0::U8 w1::U8 w2::y; let y := let y := U8 ub::U8 uc::U8 ud::U8 ue::U8 uf::y; U8 u6::U8 u7::U8 u8::U8 u9::U8 ua::y; let y := U8 u1::U8 u2::U8 u3::U8 u4::U8 u5::y; I64 a::XS mr 0 n::Bb c::Bb s::U8 u0::y)))) y x)),Bb (trC a D0 (take 18 (take 36 (drop 3 (let y := let y := let y := [U8 wd,U8 we,U8 wf,Va q,Fa x,Fa y]; U8 w8::U8 w9::U8 wa::U8 wb::U8 wc::y; let y := U8 w3::U8 w4::U8 w5::U8 w6::U8 w7::y; Va p::Bb t::U8 w0::U8 w1::U8 w2::y; let y := let y := U8 ub::U8 uc::U8 ud::U8 ue::U8 uf::y; U8 u6::U8 u7::U8 u8::U8 u9::U8 ua::y; let y := U8 u1::U8 u2::U8 u3::U8 u4::U8 u5::y; I64 a::XS mr 0 n::Bb c::Bb s::U8 u0::y)))) (drop 18 (take 36 (drop 3 (let y := let y := let y := [U8 wd,U8 we,U8 wf,Va q,Fa x,Fa y]; U8 w8::U8 w9::U8 wa::U8 wb::U8 wc::y; let y := U8 w3::U8 w4::U8 w5::U8 w6::U8 w7::y; Va p::Bb t::U8 w0::U8 w1::U8 w2::y; let y := let y := U8 ub::U8 uc::U8 ud::U8 ue::U8 uf::y; U8 u6::U8 u7::U8 u8::U8 u9::U8 ua::y; let y := U8 u1::U8 u2::U8 u3::U8 u4::U8 u5::y; I64 a::XS mr 0 n::Bb c::Bb s::U8 u0::y)))) c)],some (hide (List.map U8 (trO a D0 (take 18 (take 36 (drop 3 (let y := let y := let y := [U8 wd,U8 we,U8 wf,Va q,Fa x,Fa y]; U8 w8::U8 w9::U8 wa::U8 wb::U8 wc::y; let y := U8 w3::U8 w4::U8 w5::U8 w6::U8 w7::y; Va p::Bb t::U8 w0::U8 w1::U8 w2::y; let y := let y := U8 ub::U8 uc::U8 ud::U8 ue::U8 uf::y; U8 u6::U8 u7::U8 u8::U8 u9::U8 ua::y; let y := U8 u1::U8 u2::U8 u3::U8 u4::U8 u5::y; I64 a::XS mr 0 n::Bb c::Bb s::U8 u0::y)))) (drop 18 (take 36 (drop 3 (let y := let y := let y := [U8 wd,U8 we,U8 wf,Va q,Fa x,Fa y]; U8 w8::U8 w9::U8 wa::U8 wb::U8 wc::y; let y := U8 w3::U8 w4::U8 w5::U8 w6::U8 w7::y; Va p::Bb t::U8 w0::U8 w1::U8 w2::y; let y := let y := U8 ub::U8 uc::U8 ud::U8 ue::U8 uf::y; U8 u6::U8 u7::U8 u8::U8 u9::U8 ua::y; let y := U8 u1::U8 u2::U8 u3::U8 u4::U8 u5::y; I64 a::XS mr 0 n::Bb c::Bb s::U8 u0::y)))) x y))),some (hide (List.map U8 (trO a D0 (drop 18 (take 36 (drop 3 (let y := let y := let y := [U8 wd,U8 we,U8 wf,Va q,Fa x,Fa y]; U8 w8::U8 w9::U8 wa::U8 wb::U8 wc::y; let y := U8 w3::U8 w4::U8 w5::U8 w6::U8 w7::y; Va p::Bb t::U8 w0::U8 w1::U8 w2::y; let y := let y := U8 ub::U8 uc::U8 ud::U8 ue::U8 uf::y; U8 u6::U8 u7::U8 u8::U8 u9::U8 ua::y; let y := U8 u1::U8 u2::U8 u3::U8 u4::U8 u5::y; I64 a::XS mr 0 n::Bb c::Bb s::U8 u0::y)))) (take 18 (take 36 (drop 3 (let y := let y := let y := [U8 wd,U8 we,U8 wf,Va q,Fa x,Fa y]; U8 w8::U8 w9::U8 wa::U8 wb::U8 wc::y; let y := U8 w3::U8 w4::U8 w5::U8 w6::U8 w7::y; Va p::Bb t::U8 w0::U8 w1::U8 w2::y; let y := let y := U8 ub::U8 uc::U8 ud::U8 ue::U8 uf::y; U8 u6::U8 u7::U8 u8::U8 u9::U8 ua::y; let y := U8 u1::U8 u2::U8 u3::U8 u4::U8 u5::y; I64 a::XS mr 0 n::Bb c::Bb s::U8 u0::y)))) y x)))])) (List.map Ea (take (n*1) (drop 0 mr)))) : Ia X 29 0 Q ([.code (Na Try.f29)]) (slots [.agg [.i64 a,.xs mr 0 n,.b c,.b s,.u8 u0,.u8 u1,.u8 u2,.u8 u3,.u8 u4,.u8 u5,.u8 u6,.u8 u7,.u8 u8,.u8 u9,.u8 ua,.u8 ub,.u8 uc,.u8 ud,.u8 ue,.u8 uf,.u16 p,.b t,.u8 w0,.u8 w1,.u8 w2,.u8 w3,.u8 w4,.u8 w5,.u8 w6,.u8 w7,.u8 w8,.u8 w9,.u8 wa,.u8 wb,.u8 wc,.u8 wd,.u8 we,.u8 wf,.u16 q,.u32 x,.u32 y]] Try.f29.ntmps) [] :=
 wR hX WVE2 ok29 [10,47,51] [(5,1),(100003,0),(100004,0),(200005,0)] [] [(4,[1,3,4],[true,false,true,true]),(5,[3,4,5,6],[false,false,true,true,true,true])] h (by kernel_rfl)
theorem vc29b {X} {Q : QT} (hX : PX X) (a:Int) (mr : List AC) (n:Nat) (c : Bool) (s : Bool) (u0 u1 u2 u3 u4 u5 u6 u7 u8 u9 ua ub uc ud ue uf:BitVec 8) (p:BitVec 16) (t : Bool) (w0 w1 w2 w3 w4 w5 w6 w7 w8 w9 wa wb wc wd we wf:BitVec 8) (q:BitVec 16) (x y:BitVec 32) (k1 k2 : List AC) (n1 n2:Nat) (b e:Int) (d : Bool) (h : (fun D0 : List (BitVec 8)=>I64 a=I64 a/\39<=41/\Fa x=Fa x/\Fa y=Fa y/\0+n*1<=List.length mr/\Flat (take 36 (drop 3 (let y := let y := let y := [U8 wd,U8 we,U8 wf,Va q,Fa x,Fa y]; U8 w8::U8 w9::U8 wa::U8 wb::U8 wc::y; let y := U8 w3::U8 w4::U8 w5::U8 w6::U8 w7::y; Va p::Bb t::U8 w0::U8 w1::U8 w2::y; let y := let y := U8 ub::U8 uc::U8 ud::U8 ue::U8 uf::y; U8 u6::U8 u7::U8 u8::U8 u9::U8 ua::y; let y := U8 u1::U8 u2::U8 u3::U8 u4::U8 u5::y; I64 a::XS mr 0 n::Bb c::Bb s::U8 u0::y)))/\(Oa (take (n*1) (drop 0 mr))/\List.length (take (n*1) (drop 0 mr))=n/\IsE (take 18 (take 36 (drop 3 (let y := let y := let y := [U8 wd,U8 we,U8 wf,Va q,Fa x,Fa y]; U8 w8::U8 w9::U8 wa::U8 wb::U8 wc::y; let y := U8 w3::U8 w4::U8 w5::U8 w6::U8 w7::y; Va p::Bb t::U8 w0::U8 w1::U8 w2::y; let y := let y := U8 ub::U8 uc::U8 ud::U8 ue::U8 uf::y; U8 u6::U8 u7::U8 u8::U8 u9::U8 ua::y; let y := U8 u1::U8 u2::U8 u3::U8 u4::U8 u5::y; I64 a::XS mr 0 n::Bb c::Bb s::U8 u0::y))))/\IsE (drop 18 (take 36 (drop 3 (let y := let y := let y := [U8 wd,U8 we,U8 wf,Va q,Fa x,Fa y]; U8 w8::U8 w9::U8 wa::U8 wb::U8 wc::y; let y := U8 w3::U8 w4::U8 w5::U8 w6::U8 w7::y; Va p::Bb t::U8 w0::U8 w1::U8 w2::y; let y := let y := U8 ub::U8 uc::U8 ud::U8 ue::U8 uf::y; U8 u6::U8 u7::U8 u8::U8 u9::U8 ua::y; let y := U8 u1::U8 u2::U8 u3::U8 u4::U8 u5::y; I64 a::XS mr 0 n::Bb c::Bb s::U8 u0::y)))))/\Qb (hide (List.map U8 (trO a D0 (take 18 (take 36 (drop 3 (let y := let y := let y := [U8 wd,U8 we,U8 wf,Va q,Fa x,Fa y]; U8 w8::U8 w9::U8 wa::U8 wb::U8 wc::y; let y := U8 w3::U8 w4::U8 w5::U8 w6::U8 w7::y; Va p::Bb t::U8 w0::U8 w1::U8 w2::y; let y := let y := U8 ub::U8 uc::U8 ud::U8 ue::U8 uf::y; U8 u6::U8 u7::U8 u8::U8 u9::U8 ua::y; let y := U8 u1::U8 u2::U8 u3::U8 u4::U8 u5::y; I64 a::XS mr 0 n::Bb c::Bb s::U8 u0::y)))) (drop 18 (take 36 (drop 3 (let y := let y := let y := [U8 wd,U8 we,U8 wf,Va q,Fa x,Fa y]; U8 w8::U8 w9::U8 wa::U8 wb::U8 wc::y; let y := U8 w3::U8 w4::U8 w5::U8 w6::U8 w7::y; Va p::Bb t::U8 w0::U8 w1::U8 w2::y; let y := let y := U8 ub::U8 uc::U8 ud::U8 ue::U8 uf::y; U8 u6::U8 u7::U8 u8::U8 u9::U8 ua::y; let y := U8 u1::U8 u2::U8 u3::U8 u4::U8 u5::y; I64 a::XS mr 0 n::Bb c::Bb s::U8 u0::y)))) x y)))/\Qb (hide (List.map U8 (trO a D0 (drop 18 (take 36 (drop 3 (let y := let y := let y := [U8 wd,U8 we,U8 wf,Va q,Fa x,Fa y]; U8 w8::U8 w9::U8 wa::U8 wb::U8 wc::y; let y := U8 w3::U8 w4::U8 w5::U8 w6::U8 w7::y; Va p::Bb t::U8 w0::U8 w1::U8 w2::y; let y := let y := U8 ub::U8 uc::U8 ud::U8 ue::U8 uf::y; U8 u6::U8 u7::U8 u8::U8 u9::U8 ua::y; let y := U8 u1::U8 u2::U8 u3::U8 u4::U8 u5::y; I64 a::XS mr 0 n::Bb c::Bb s::U8 u0::y)))) (take 18 (take 36 (drop 3 (let y := let y := let y := [U8 wd,U8 we,U8 wf,Va q,Fa x,Fa y]; U8 w8::U8 w9::U8 wa::U8 wb::U8 wc::y; let y := U8 w3::U8 w4::U8 w5::U8 w6::U8 w7::y; Va p::Bb t::U8 w0::U8 w1::U8 w2::y; let y := let y := U8 ub::U8 uc::U8 ud::U8 ue::U8 uf::y; U8 u6::U8 u7::U8 u8::U8 u9::U8 ua::y; let y := U8 u1::U8 u2::U8 u3::U8 u4::U8 u5::y; I64 a::XS mr 0 n::Bb c::Bb s::U8 u0::y)))) y x)))/\Flat k1/\Flat k2/\Flat (hide (List.map U8 (trO a D0 (take 18 (take 36 (drop 3 (let y := let y := let y := [U8 wd,U8 we,U8 wf,Va q,Fa x,Fa y]; U8 w8::U8 w9::U8 wa::U8 wb::U8 wc::y; let y := U8 w3::U8 w4::U8 w5::U8 w6::U8 w7::y; Va p::Bb t::U8 w0::U8 w1::U8 w2::y; let y := let y := U8 ub::U8 uc::U8 ud::U8 ue::U8 uf::y; U8 u6::U8 u7::U8 u8::U8 u9::U8 ua::y; let y := U8 u1::U8 u2::U8 u3::U8 u4::U8 u5::y; I64 a::XS mr 0 n::Bb c::Bb s::U8 u0::y)))) (drop 18 (take 36 (drop 3 (let y := let y := let y := [U8 wd,U8 we,U8 wf,Va q,Fa x,Fa y]; U8 w8::U8 w9::U8 wa::U8 wb::U8 wc::y; let y := U8 w3::U8 w4::U8 w5::U8 w6::U8 w7::y; Va p::Bb t::U8 w0::U8 w1::U8 w2::y; let y := let y := U8 ub::U8 uc::U8 ud::U8 ue::U8 uf::y; U8 u6::U8 u7::U8 u8::U8 u9::U8 ua::y; let y := U8 u1::U8 u2::U8 u3::U8 u4::U8 u5::y; I64 a::XS mr 0 n::Bb c::Bb s::U8 u0::y)))) x y)))/\Flat (hide (List.map U8 (trO a D0 (drop 18 (take 36 (drop 3 (let y := let y := let y := [U8 wd,U8 we,U8 wf,Va q,Fa x,Fa y]; U8 w8::U8 w9::U8 wa::U8 wb::U8 wc::y; let y := U8 w3::U8 w4::U8 w5::U8 w6::U8 w7::y; Va p::Bb t::U8 w0::U8 w1::U8 w2::y; let y := let y := U8 ub::U8 uc::U8 ud::U8 ue::U8 uf::y; U8 u6::U8 u7::U8 u8::U8 u9::U8 ua::y; let y := U8 u1::U8 u2::U8 u3::U8 u4::U8 u5::y; I64 a::XS mr 0 n::Bb c::Bb s::U8 u0::y)))) (take 18 (take 36 (drop 3 (let y := let y := let y := [U8 wd,U8 we,U8 wf,Va q,Fa x,Fa y]; U8 w8::U8 w9::U8 wa::U8 wb::U8 wc::y; let y := U8 w3::U8 w4::U8 w5::U8 w6::U8 w7::y; Va p::Bb t::U8 w0::U8 w1::U8 w2::y; let y := let y := U8 ub::U8 uc::U8 ud::U8 ue::U8 uf::y; U8 u6::U8 u7::U8 u8::U8 u9::U8 ua::y; let y := U8 u1::U8 u2::U8 u3::U8 u4::U8 u5::y; I64 a::XS mr 0 n::Bb c::Bb s::U8 u0::y)))) y x)))/\KR X 29 0 Q (Ub Try.f29 4) (mkS 56 [(3,O1 (PT 0 0)),(4,O1 (I64 e)),(5,O1 (PT 1 0)),(6,O1 (I64 (wayE a D0 (take 18 (take 36 (drop 3 (let y := let y := let y := [U8 wd,U8 we,U8 wf,Va q,Fa x,Fa y]; U8 w8::U8 w9::U8 wa::U8 wb::U8 wc::y; let y := U8 w3::U8 w4::U8 w5::U8 w6::U8 w7::y; Va p::Bb t::U8 w0::U8 w1::U8 w2::y; let y := let y := U8 ub::U8 uc::U8 ud::U8 ue::U8 uf::y; U8 u6::U8 u7::U8 u8::U8 u9::U8 ua::y; let y := U8 u1::U8 u2::U8 u3::U8 u4::U8 u5::y; I64 a::XS mr 0 n::Bb c::Bb s::U8 u0::y)))) (drop 18 (take 36 (drop 3 (let y := let y := let y := [U8 wd,U8 we,U8 wf,Va q,Fa x,Fa y]; U8 w8::U8 w9::U8 wa::U8 wb::U8 wc::y; let y := U8 w3::U8 w4::U8 w5::U8 w6::U8 w7::y; Va p::Bb t::U8 w0::U8 w1::U8 w2::y; let y := let y := U8 ub::U8 uc::U8 ud::U8 ue::U8 uf::y; U8 u6::U8 u7::U8 u8::U8 u9::U8 ua::y; let y := U8 u1::U8 u2::U8 u3::U8 u4::U8 u5::y; I64 a::XS mr 0 n::Bb c::Bb s::U8 u0::y)))))))]) [some [I64 b,SV 2 0 n1,SV 3 0 n2,Bb d],some [I64 (trA a D0 (take 18 (take 36 (drop 3 (let y := let y := let y := [U8 wd,U8 we,U8 wf,Va q,Fa x,Fa y]; U8 w8::U8 w9::U8 wa::U8 wb::U8 wc::y; let y := U8 w3::U8 w4::U8 w5::U8 w6::U8 w7::y; Va p::Bb t::U8 w0::U8 w1::U8 w2::y; let y := let y := U8 ub::U8 uc::U8 ud::U8 ue::U8 uf::y; U8 u6::U8 u7::U8 u8::U8 u9::U8 ua::y; let y := U8 u1::U8 u2::U8 u3::U8 u4::U8 u5::y; I64 a::XS mr 0 n::Bb c::Bb s::U8 u0::y)))) (drop 18 (take 36 (drop 3 (let y := let y := let y := [U8 wd,U8 we,U8 wf,Va q,Fa x,Fa y]; U8 w8::U8 w9::U8 wa::U8 wb::U8 wc::y; let y := U8 w3::U8 w4::U8 w5::U8 w6::U8 w7::y; Va p::Bb t::U8 w0::U8 w1::U8 w2::y; let y := let y := U8 ub::U8 uc::U8 ud::U8 ue::U8 uf::y; U8 u6::U8 u7::U8 u8::U8 u9::U8 ua::y; let y := U8 u1::U8 u2::U8 u3::U8 u4::U8 u5::y; I64 a::XS mr 0 n::Bb c::Bb s::U8 u0::y))))),SV 4 0 (List.length (trO a D0 (take 18 (take 36 (drop 3 (let y := let y := let y := [U8 wd,U8 we,U8 wf,Va q,Fa x,Fa y]; U8 w8::U8 w9::U8 wa::U8 wb::U8 wc::y; let y := U8 w3::U8 w4::U8 w5::U8 w6::U8 w7::y; Va p::Bb t::U8 w0::U8 w1::U8 w2::y; let y := let y := U8 ub::U8 uc::U8 ud::U8 ue::U8 uf::y; U8 u6::U8 u7::U8 u8::U8 u9::U8 ua::y; let y := U8 u1::U8 u2::U8 u3::U8 u4::U8 u5::y; I64 a::XS mr 0 n::Bb c::Bb s::U8 u0::y)))) (drop 18 (take 36 (drop 3 (let y := let y := let y := [U8 wd,U8 we,U8 wf,Va q,Fa x,Fa y]; U8 w8::U8 w9::U8 wa::U8 wb::U8 wc::y; let y := U8 w3::U8 w4::U8 w5::U8 w6::U8 w7::y; Va p::Bb t::U8 w0::U8 w1::U8 w2::y; let y := let y := U8 ub::U8 uc::U8 ud::U8 ue::U8 uf::y; U8 u6::U8 u7::U8 u8::U8 u9::U8 ua::y; let y := U8 u1::U8 u2::U8 u3::U8 u4::U8 u5::y; I64 a::XS mr 0 n::Bb c::Bb s::U8 u0::y)))) x y)),SV 5 0 (List.length (trO a D0 (drop 18 (take 36 (drop 3 (let y := let y := let y := [U8 wd,U8 we,U8 wf,Va q,Fa x,Fa y]; U8 w8::U8 w9::U8 wa::U8 wb::U8 wc::y; let y := U8 w3::U8 w4::U8 w5::U8 w6::U8 w7::y; Va p::Bb t::U8 w0::U8 w1::U8 w2::y; let y := let y := U8 ub::U8 uc::U8 ud::U8 ue::U8 uf::y; U8 u6::U8 u7::U8 u8::U8 u9::U8 ua::y; let y := U8 u1::U8 u2::U8 u3::U8 u4::U8 u5::y; I64 a::XS mr 0 n::Bb c::Bb s::U8 u0::y)))) (take 18 (take 36 (drop 3 (let y := let y := let y := [U8 wd,U8 we,U8 wf,Va q,Fa x,Fa y]; U8 w8::U8 w9::U8 wa::U8 wb::U8 wc::y; let y := U8 w3::U8 w4::U8 w5::U8 w6::U8 w7::y; Va p::Bb t::U8 w0::U8 w1::U8 w2::y; let y := let y := U8 ub::U8 uc::U8 ud::U8 ue::U8 uf::y; U8 u6::U8 u7::U8 u8::U8 u9::U8 ua::y; let y := U8 u1::U8 u2::U8 u3::U8 u4::U8 u5::y; I64 a::XS mr 0 n::Bb c::Bb s::U8 u0::y)))) y x)),Bb (trC a D0 (take 18 (take 36 (drop 3 (let y := let y := let y := [U8 wd,U8 we,U8 wf,Va q,Fa x,Fa y]; U8 w8::U8 w9::U8 wa::U8 wb::U8 wc::y; let y := U8 w3::U8 w4::U8 w5::U8 w6::U8 w7::y; Va p::Bb t::U8 w0::U8 w1::U8 w2::y; let y := let y := U8 ub::U8 uc::U8 ud::U8 ue::U8 uf::y; U8 u6::U8 u7::U8 u8::U8 u9::U8 ua::y; let y := U8 u1::U8 u2::U8 u3::U8 u4::U8 u5::y; I64 a::XS mr 0 n::Bb c::Bb s::U8 u0::y)))) (drop 18 (take 36 (drop 3 (let y := let y := let y := [U8 wd,U8 we,U8 wf,Va q,Fa x,Fa y]; U8 w8::U8 w9::U8 wa::U8 wb::U8 wc::y; let y := U8 w3::U8 w4::U8 w5::U8 w6::U8 w7::y; Va p::Bb t::U8 w0::U8 w1::U8 w2::y; let y := let y := U8 ub::U8 uc::U8 ud::U8 ue::U8 uf::y; U8 u6::U8 u7::U8 u8::U8 u9::U8 ua::y; let y := U8 u1::U8 u2::U8 u3::U8 u4::U8 u5::y; I64 a::XS mr 0 n::Bb c::Bb s::U8 u0::y)))) c)],some k1,some k2,some (hide (List.map U8 (trO a D0 (take 18 (take 36 (drop 3 (let y := let y := let y := [U8 wd,U8 we,U8 wf,Va q,Fa x,Fa y]; U8 w8::U8 w9::U8 wa::U8 wb::U8 wc::y; let y := U8 w3::U8 w4::U8 w5::U8 w6::U8 w7::y; Va p::Bb t::U8 w0::U8 w1::U8 w2::y; let y := let y := U8 ub::U8 uc::U8 ud::U8 ue::U8 uf::y; U8 u6::U8 u7::U8 u8::U8 u9::U8 ua::y; let y := U8 u1::U8 u2::U8 u3::U8 u4::U8 u5::y; I64 a::XS mr 0 n::Bb c::Bb s::U8 u0::y)))) (drop 18 (take 36 (drop 3 (let y := let y := let y := [U8 wd,U8 we,U8 wf,Va q,Fa x,Fa y]; U8 w8::U8 w9::U8 wa::U8 wb::U8 wc::y; let y := U8 w3::U8 w4::U8 w5::U8 w6::U8 w7::y; Va p::Bb t::U8 w0::U8 w1::U8 w2::y; let y := let y := U8 ub::U8 uc::U8 ud::U8 ue::U8 uf::y; U8 u6::U8 u7::U8 u8::U8 u9::U8 ua::y; let y := U8 u1::U8 u2::U8 u3::U8 u4::U8 u5::y; I64 a::XS mr 0 n::Bb c::Bb s::U8 u0::y)))) x y))),some (hide (List.map U8 (trO a D0 (drop 18 (take 36 (drop 3 (let y := let y := let y := [U8 wd,U8 we,U8 wf,Va q,Fa x,Fa y]; U8 w8::U8 w9::U8 wa::U8 wb::U8 wc::y; let y := U8 w3::U8 w4::U8 w5::U8 w6::U8 w7::y; Va p::Bb t::U8 w0::U8 w1::U8 w2::y; let y := let y := U8 ub::U8 uc::U8 ud::U8 ue::U8 uf::y; U8 u6::U8 u7::U8 u8::U8 u9::U8 ua::y; let y := U8 u1::U8 u2::U8 u3::U8 u4::U8 u5::y; I64 a::XS mr 0 n::Bb c::Bb s::U8 u0::y)))) (take 18 (take 36 (drop 3 (let y := let y := let y := [U8 wd,U8 we,U8 wf,Va q,Fa x,Fa y]; U8 w8::U8 w9::U8 wa::U8 wb::U8 wc::y; let y := U8 w3::U8 w4::U8 w5::U8 w6::U8 w7::y; Va p::Bb t::U8 w0::U8 w1::U8 w2::y; let y := let y := U8 ub::U8 uc::U8 ud::U8 ue::U8 uf::y; U8 u6::U8 u7::U8 u8::U8 u9::U8 ua::y; let y := U8 u1::U8 u2::U8 u3::U8 u4::U8 u5::y; I64 a::XS mr 0 n::Bb c::Bb s::U8 u0::y)))) y x)))]) (List.map Ea (take (n*1) (drop 0 mr)))) : Ia X 29 0 Q (Ub Try.f29 3) (mkS 56 [(1,.one (.ptr 0 0)),(3,.one (.ptr 1 0)),(4,.one (.i64 e))]) [some [.i64 a,.xs mr 0 n,.b c,.b s,.u8 u0,.u8 u1,.u8 u2,.u8 u3,.u8 u4,.u8 u5,.u8 u6,.u8 u7,.u8 u8,.u8 u9,.u8 ua,.u8 ub,.u8 uc,.u8 ud,.u8 ue,.u8 uf,.u16 p,.b t,.u8 w0,.u8 w1,.u8 w2,.u8 w3,.u8 w4,.u8 w5,.u8 w6,.u8 w7,.u8 w8,.u8 w9,.u8 wa,.u8 wb,.u8 wc,.u8 wd,.u8 we,.u8 wf,.u16 q,.u32 x,.u32 y],some [.i64 b,.sv 2 0 n1,.sv 3 0 n2,.b d],some k1,some k2] :=
 wR hX WVE2 ok29 [10,47,51] [(5,1),(100003,0),(100004,0),(200005,0)] [] [(4,[1,3,4],[true,false,true,true]),(5,[3,4,5,6],[false,false,true,true,true,true])] h (by kernel_rfl)
theorem vc29c {X} {Q : QT} (hX : PX X) (k1 k2 k3 k4 : List AC) (n1 n2 n3 n4:Nat) (a b e f:Int) (c d : Bool) (h : (fun L0 : Prop=>(L0)/\L0) ((Oa k1/\List.length k1=n1/\Oa k2/\List.length k2=n2)/\Flat k1/\Flat k2/\Flat k1/\Flat k2/\0+n1*1<=List.length k1/\Flat (take (n1*1) (drop 0 k1))/\0+n2*1<=List.length k2/\Flat (take (n2*1) (drop 0 k2))/\0+n3*1<=List.length k3/\Flat (take (n3*1) (drop 0 k3))/\0+n4*1<=List.length k4/\Flat (take (n4*1) (drop 0 k4))/\(a=b/\c=d/\take (n1*1) (drop 0 k1)=take (n3*1) (drop 0 k3)/\n1=n3/\take (n2*1) (drop 0 k2)=take (n4*1) (drop 0 k4)/\n2=n4/\Oa (take (n1*1) (drop 0 k1))/\List.length (take (n1*1) (drop 0 k1))=n1/\Oa (take (n2*1) (drop 0 k2))/\List.length (take (n2*1) (drop 0 k2))=n2)/\(true=true->(decide (e=f)=true->Q (O1 (Bb true)) [])/\(decide (e=f)=false->Q (O1 (Bb false)) []))/\(true=false->Q (O1 (Bb false)) []))) : Ia X 29 0 Q (Ub Try.f29 4) (mkS 56 [(3,.one (.ptr 0 0)),(4,.one (.i64 e)),(5,.one (.ptr 1 0)),(6,.one (.i64 f))]) [some [.i64 a,.sv 2 0 n1,.sv 3 0 n2,.b c],some [.i64 b,.sv 4 0 n3,.sv 5 0 n4,.b d],some k1,some k2,some k3,some k4] :=
 wR hX WVE2 ok29 [10,47,51] [(5,1),(100003,0),(100004,0),(200005,0)] [] [(4,[1,3,4],[true,false,true,true]),(5,[3,4,5,6],[false,false,true,true,true,true])] h (by kernel_rfl)
theorem sixL {l : List (BitVec 8)} (h : l.length = 16) : ∃ u0 u1 u2 u3 u4 u5 u6 u7 u8 u9 ua ub uc ud ue uf, l = [u0, u1, u2, u3, u4, u5, u6, u7, u8, u9, ua, ub, uc, ud, ue, uf] := by
 match l, h with
 | [u0, u1, u2, u3, u4, u5, u6, u7, u8, u9, ua, ub, uc, ud, ue, uf], _ => exact ⟨u0, u1, u2, u3, u4, u5, u6, u7, u8, u9, ua, ub, uc, ud, ue, uf, rfl⟩
theorem l29c {X : Ctx} (hX : X.P = Try.prog) (k1 k2 : BO) (a e:Int) (c : Bool) : Ia X 29 0 Fin (Ub Try.f29 4) (mkS 56 [(3, .one (.ptr 0 0)), (4, .one (.i64 e)), (5, .one (.ptr 1 0)), (6, .one (.i64 e))]) [some [.i64 a, .sv 2 0 k1.length, .sv 3 0 k2.length, .b c], some [.i64 a, .sv 4 0 k1.length, .sv 5 0 k2.length, .b c], some (k1.map U8), some (k2.map U8), some (k1.map U8), some (k2.map U8)] := by
 refine vc29c hX _ _ _ _ _ _ _ _ _ _ _ _ _ _ ?_
 try dsimp only
 rw [tk k1, tk k2, deq', List.length_map, List.length_map]
 (repeat' (first | exact trivial | exact Aa _ | exact Ba _ | exact rfl | exact Nat.le_refl _ | refine And.intro ?_ ?_)) <;> first | omega | (intro h; first | exact absurd h (by decide) | exact rfl | exact ⟨fun _ => rfl, fun h => absurd h (by decide)⟩)
theorem s29 (a:Int) (m : BO) (c s t : Bool) (ga gb : BO) (ha : ga.length = 16) (hb : gb.length = 16) (p q:BitVec 16) (x y:BitVec 32) :
  Spec Try.prog 29 [.agg ([.i64 a, .xs (m.map U8) 0 m.length, .b c] ++ ((enE s ga p ++ enE t gb q) ++ [.u32 x, .u32 y]))] [] Fin := by
 have h1 := isE_en s ha p
 have h2 := isE_en t hb q
 have hs := wayE_sym a m (enE t gb q) (enE s ga p)
 obtain ⟨u0, u1, u2, u3, u4, u5, u6, u7, u8, u9, ua, ub, uc, ud, ue, uf, rfl⟩ := sixL ha
 obtain ⟨w0, w1, w2, w3, w4, w5, w6, w7, w8, w9, wa, wb, wc, wd, we, wf, rfl⟩ := sixL hb
 refine Spec.of_run ok29 fun X hX => ?_
 change Ia X 29 0 Fin [.code (Na Try.f29)] (slots [.agg [.i64 a, .xs (m.map U8) 0 m.length, .b c, .b s, .u8 u0, .u8 u1, .u8 u2, .u8 u3, .u8 u4, .u8 u5, .u8 u6, .u8 u7, .u8 u8, .u8 u9, .u8 ua, .u8 ub, .u8 uc, .u8 ud, .u8 ue, .u8 uf, .u16 p, .b t, .u8 w0, .u8 w1, .u8 w2, .u8 w3, .u8 w4, .u8 w5, .u8 w6, .u8 w7, .u8 w8, .u8 w9, .u8 wa, .u8 wb, .u8 wc, .u8 wd, .u8 we, .u8 wf, .u16 q, .u32 x, .u32 y]] Try.f29.ntmps) []
 generalize hcs : enE s [u0, u1, u2, u3, u4, u5, u6, u7, u8, u9, ua, ub, uc, ud, ue, uf] p = cs at *
 generalize hds : enE t [w0, w1, w2, w3, w4, w5, w6, w7, w8, w9, wa, wb, wc, wd, we, wf] q = ds at *
 have hT : take 36 (drop 3 [.i64 a, .xs (m.map U8) 0 m.length, .b c, .b s, .u8 u0, .u8 u1, .u8 u2, .u8 u3, .u8 u4, .u8 u5, .u8 u6, .u8 u7, .u8 u8, .u8 u9, .u8 ua, .u8 ub, .u8 uc, .u8 ud, .u8 ue, .u8 uf, .u16 p, .b t, .u8 w0, .u8 w1, .u8 w2, .u8 w3, .u8 w4, .u8 w5, .u8 w6, .u8 w7, .u8 w8, .u8 w9, .u8 wa, .u8 wb, .u8 wc, .u8 wd, .u8 we, .u8 wf, .u16 q, .u32 x, .u32 y]) = cs ++ ds := by rw [← hcs, ← hds]; rfl
 have hl1 := h1.l18
 have hl2 := h2.l18
 have t1 : take 18 (cs ++ ds) = cs := by rw [List.take_append_of_le_length (by omega), List.take_of_length_le (by omega)]
 have t2 : drop 18 (cs ++ ds) = ds := by rw [List.drop_append_of_le_length (by omega), List.drop_eq_nil_of_le (by omega), List.nil_append]
 have fr : Flat [.i64 a, .xs (m.map U8) 0 m.length, .b c, .b s, .u8 u0, .u8 u1, .u8 u2, .u8 u3, .u8 u4, .u8 u5, .u8 u6, .u8 u7, .u8 u8, .u8 u9, .u8 ua, .u8 ub, .u8 uc, .u8 ud, .u8 ue, .u8 uf, .u16 p, .b t, .u8 w0, .u8 w1, .u8 w2, .u8 w3, .u8 w4, .u8 w5, .u8 w6, .u8 w7, .u8 w8, .u8 w9, .u8 wa, .u8 wb, .u8 wc, .u8 wd, .u8 we, .u8 wf, .u16 q, .u32 x, .u32 y] := Ib rfl
 have f2 : Flat (cs ++ ds) := fun z hz => by
  rcases List.mem_append.1 hz with hz | hz
  ·exact h1.fl z hz
  ·exact h2.fl z hz
 have KC := l29c hX (trO a m cs ds x y) (trO a m ds cs y x) (trA a m cs ds) (wayE a m cs ds) (trC a m cs ds c)
 dsimp only at hT fr
 have KB : Ia X 29 0 Fin (Ub Try.f29 3) (mkS 56 [(1, .one (.ptr 0 0)), (3, .one (.ptr 1 0)), (4, .one (.i64 (wayE a m cs ds)))]) [some [.i64 a, .xs (m.map U8) 0 m.length, .b c, .b s, .u8 u0, .u8 u1, .u8 u2, .u8 u3, .u8 u4, .u8 u5, .u8 u6, .u8 u7, .u8 u8, .u8 u9, .u8 ua, .u8 ub, .u8 uc, .u8 ud, .u8 ue, .u8 uf, .u16 p, .b t, .u8 w0, .u8 w1, .u8 w2, .u8 w3, .u8 w4, .u8 w5, .u8 w6, .u8 w7, .u8 w8, .u8 w9, .u8 wa, .u8 wb, .u8 wc, .u8 wd, .u8 we, .u8 wf, .u16 q, .u32 x, .u32 y], some [.i64 (trA a m cs ds), .sv 2 0 (trO a m cs ds x y).length, .sv 3 0 (trO a m ds cs y x).length, .b (trC a m cs ds c)], some ((trO a m cs ds x y).map U8), some ((trO a m ds cs y x).map U8)] := by
  refine vc29b hX _ _ _ _ _ _ _ _ _ _ _ _ _ _ _ _ _ _ _ _ _ _ _ _ _ _ _ _ _ _ _ _ _ _ _ _ _ _ _ _ _ _ _ _ _ _ _ _ _ ?_
  dsimp only
  rw [hT]
  simp only [t1, t2, tk m, Ua, Ja, List.length_map]
  generalize trO a m cs ds x y = T1 at *
  generalize trO a m ds cs y x = T2 at *
  (repeat' (first | exact trivial | exact h1 | exact h2 | exact f2 | exact fr | exact Aa _ | exact Ba _ | exact Ud _ | exact rfl | exact Nat.le_refl _ | exact ⟨KC⟩ | refine And.intro ?_ ?_)) <;> omega
 refine vc29 (Q := Fin) hX _ _ _ _ _ _ _ _ _ _ _ _ _ _ _ _ _ _ _ _ _ _ _ _ _ _ _ _ _ _ _ _ _ _ _ _ _ _ _ _ _ _ ⟨fun _ => rfl, fun _ => ?_⟩
 dsimp only
 rw [hT]
 simp only [t1, t2, tk m, Ua, Ja, List.length_map]
 dsimp only at KB
 generalize trO a m cs ds x y = T1 at *
 generalize trO a m ds cs y x = T2 at *
 (repeat' (first | exact trivial | exact h1 | exact h2 | exact f2 | exact fr | exact Aa _ | exact Ba _ | exact Ud _ | exact rfl | exact Nat.le_refl _ | exact ⟨KB⟩ | refine And.intro ?_ ?_)) <;> omega
def shEnd : Sh := .st (.cons (.st (.cons .bool (.cons (.ar 16 .u8) .nil))) (.cons .u16 .nil))
def shPair : Sh := .st (.cons shEnd (.cons shEnd .nil))
def shTup : Sh := .st (.cons .i64 (.cons (.sl .u8) (.cons .bool (.cons shPair (.cons .u32 (.cons .u32 .nil))))))
theorem encEnd' (s : Bool) (a : List (BitVec 8)) (p:BitVec 16) : [Bb s] ++ (List.flatMap (Sh.enc .u8) a ++ []) ++ ([Va p] ++ []) = enE s a p := by
 rw [fm_u8, List.append_nil, List.append_nil]
 rfl
theorem encEnd (y : shEnd.T) : shEnd.enc y = enE y.1.1 y.1.2.1 y.2.1 := encEnd' y.1.1 y.1.2.1 y.2.1
theorem wfEnd {y : shEnd.T} (h : shEnd.wf y) : List.length (α := BitVec 8) y.1.2.1 = 16 := by
 obtain ⟨⟨s, a, _⟩, p, _⟩ := y
 exact h.1.2.1.1
theorem encPair (y : shPair.T) : shPair.enc y = enE y.1.1.1 y.1.1.2.1 y.1.2.1 ++ enE y.2.1.1.1 y.2.1.1.2.1 y.2.1.2.1 := by
 obtain ⟨e, f, _⟩ := y
 show shEnd.enc e ++ (shEnd.enc f ++ []) = _
 rw [encEnd, encEnd, List.append_nil]
theorem wfPair {y : shPair.T} (h : shPair.wf y) : List.length (α := BitVec 8) y.1.1.2.1 = 16 ∧ List.length (α := BitVec 8) y.2.1.1.2.1 = 16 := by
 obtain ⟨e, f, _⟩ := y
 exact ⟨wfEnd h.1, wfEnd h.2.1⟩
theorem encTup' (a:Int) (m : List (BitVec 8)) (c : Bool) (P : List AC) (x z:BitVec 32) : [I64 a] ++ ([XS (List.flatMap (Sh.enc .u8) m) 0 m.length] ++ ([Bb c] ++ (P ++ ([Fa x] ++ ([Fa z] ++ []))))) = [.i64 a, .xs (m.map U8) 0 m.length, .b c] ++ (P ++ [.u32 x, .u32 z]) := by
 rw [fm_u8]
 rfl
theorem encTup (y : shTup.T) : shTup.enc y = [.i64 y.1, .xs (List.map U8 y.2.1) 0 (List.length (α := BitVec 8) y.2.1), .b y.2.2.1] ++ ((enE y.2.2.2.1.1.1.1 y.2.2.2.1.1.1.2.1 y.2.2.2.1.1.2.1 ++ enE y.2.2.2.1.2.1.1.1 y.2.2.2.1.2.1.1.2.1 y.2.2.2.1.2.1.2.1) ++ [.u32 y.2.2.2.2.1, .u32 y.2.2.2.2.2.1]) := by
 rw [← encPair]
 exact encTup' y.1 y.2.1 y.2.2.1 (shPair.enc y.2.2.2.1) y.2.2.2.2.1 y.2.2.2.2.2.1
theorem wfTup {y : shTup.T} (h : shTup.wf y) : shPair.wf y.2.2.2.1 := h.2.2.2.1
theorem s29w (y : shTup.T) (h : shTup.wf y) : Spec Try.prog 29 [.agg (shTup.enc y)] [] (Is (.one (.b true))) := by
 rw [encTup]
 have hw := wfPair (wfTup h)
 exact s29 _ _ _ _ _ _ _ hw.1 hw.2 _ _ _ _
end DH
