/- Walks of functions, each by evaluation: what each returns; with the layer beneath. -/
import Derived.Test.YtdnggeocdocomaaVD
import Derived.Test.YtdnggeocdocomaaHB
set_option linter.unusedVariables false
set_option linter.unusedSimpArgs false
noncomputable section
namespace DH
set_option maxRecDepth 100000
open List (take drop replicate)
open AC renaming u8 → U8, u16 → U16, u32 → U32, u64 → U64, i64 → I64, b → Bb, xs → XS, gs → GS, sv → SV, ptr → PT, any → AY, ns → NS
open AV renaming one → O1, agg → AG, tup → TU
open Go Go.Proofs
theorem ok32 : FnOk Try.prog 32 Try.f32 (bodyOf Try.f32) := .of Try.func32 (by kernel_rfl) (by kernel_rfl)
noncomputable def MV8 : TabM := fun f xs m => match f, xs, m with
 | 33, [.agg [.i64 a, .xs r1 0 n1, .xs r2 0 n2, .b c], .agg (.b s :: xr), .agg (.b t :: yr), .agg cs, .one (.u32 sn)], [] => some ([allU8 r1 ∧ r1.length = n1 ∧ n1 ≤ 9223372036854775807 ∧ allU8 r2 ∧ r2.length = n2 ∧ allU8 xr ∧ xr.length = 16 ∧ allU8 yr ∧ yr.length = 16 ∧ IsSg cs], .tup [.agg (hide (sgC (snG a (r1.map asU8) s t (xr.map asU8) (yr.map asU8) (sgOf (nrL cs)) sn c))), .one (.i64 (snE a (r1.map asU8) (sgOf (nrL cs))))], [])
 | 33, [.agg [.i64 a, .sv 0 0 n1, .sv 1 0 n2, .b c], .agg (.b s :: xr), .agg (.b t :: yr), .agg cs, .one (.u32 sn)], [some r1, some r2] => some ([allU8 r1 ∧ r1.length = n1 ∧ n1 ≤ 9223372036854775807 ∧ allU8 r2 ∧ r2.length = n2 ∧ allU8 xr ∧ xr.length = 16 ∧ allU8 yr ∧ yr.length = 16 ∧ IsSg cs], .tup [.agg (hide (sgC (snG a (r1.map asU8) s t (xr.map asU8) (yr.map asU8) (sgOf (nrL cs)) sn c))), .one (.i64 (snE a (r1.map asU8) (sgOf (nrL cs))))], [some r1, some r2])
 | f, xs, m => MV7 f xs m
noncomputable def mfV8 : FuncId → Option MF := fun f => match f with
 | 33 => some { cs := { kinds := [], fl := [true, true], fv := [1, 2, 3, 4] }, flo := [true, true], rf := true }
 | f => mfV7 f
theorem MV8_ok : TabMOk Try.prog MV8 := by
 intro f xs m0 cs r m1 h hc
 unfold MV8 at h
 split at h
 ·simp only [Option.some.injEq, Prod.mk.injEq] at h; obtain ⟨rfl, rfl, rfl⟩ := h
  rename_i a r1 n1 r2 n2 c s xr t yr cs sn
  obtain ⟨h1, h2, h3, h4, h5, h6, h7, h8, h9, h10⟩ := hc.1
  have := s33 a (r1.map asU8) (r2.map asU8) c s t (xr.map asU8) (yr.map asU8) (by rw [List.length_map]; exact h7) (by rw [List.length_map]; exact h9) (sgOf (nrL cs)) h10.len sn (by rw [List.length_map]; omega)
  rw [← h10.eq, ← h1, ← h4, ← h6, ← h8, List.length_map, List.length_map, h2, h5] at this
  rw [hide_eq]
  refine ⟨⟨_, _, ok33⟩, Spec.nr ?_⟩
  rw [List.map_cons, List.map_cons, List.map_cons, bsh_nr s h6, bsh_nr t h8]
  exact this
 ·simp only [Option.some.injEq, Prod.mk.injEq] at h; obtain ⟨rfl, rfl, rfl⟩ := h
  rename_i a n1 n2 c s xr t yr cs sn r1 r2
  obtain ⟨h1, h2, h3, h4, h5, h6, h7, h8, h9, h10⟩ := hc.1
  have := s33s a (r1.map asU8) (r2.map asU8) c s t (xr.map asU8) (yr.map asU8) (by rw [List.length_map]; exact h7) (by rw [List.length_map]; exact h9) (sgOf (nrL cs)) h10.len sn (by rw [List.length_map]; omega)
  rw [← h10.eq, ← h1, ← h4, ← h6, ← h8, List.length_map, List.length_map, h2, h5] at this
  rw [hide_eq]
  refine ⟨⟨_, _, ok33⟩, Spec.nr ?_⟩
  rw [List.map_cons, List.map_cons, List.map_cons, bsh_nr s h6, bsh_nr t h8]
  exact this
 ·exact MV7_ok _ _ _ _ _ _ h hc
noncomputable def TV10 : Tab := fun f xs => match f, xs with
 | 90, [.agg [.i64 a, .xs r1 0 n1, .xs r2 0 n2, .b c], .agg (.b s :: xr), .agg (.b t :: yr), .agg cs, .one (.u32 sn)] => some ([allU8 r1 ∧ r1.length = n1 ∧ allU8 r2 ∧ r2.length = n2 ∧ n2 ≤ 9223372036854775807 ∧ allU8 xr ∧ xr.length = 16 ∧ allU8 yr ∧ yr.length = 16 ∧ IsSg cs], .one (.i64 (vfE a (r2.map asU8) s t (xr.map asU8) (yr.map asU8) (sgOf (nrL cs)) sn c)))
 | f, xs => TV9 f xs
theorem TV10_ok : TabOk Try.prog TV10 := by
 intro f xs cs r h hc
 unfold TV10 at h
 split at h
 ·obtain ⟨rfl, rfl⟩ := Prod.mk.inj (Option.some.inj h)
  rename_i a r1 n1 r2 n2 c s xr t yr cs sn
  obtain ⟨h1, h2, h3, h4, h5, h6, h7, h8, h9, h10⟩ := hc.1
  have := s90 a (r1.map asU8) (r2.map asU8) c s t (xr.map asU8) (yr.map asU8) (by rw [List.length_map]; exact h7) (by rw [List.length_map]; exact h9) (sgOf (nrL cs)) h10.len sn (by rw [List.length_map]; omega)
  rw [← h10.eq, ← h1, ← h3, ← h6, ← h8, List.length_map, List.length_map, h2, h4] at this
  refine ⟨⟨_, _, ok90⟩, Spec.nr ?_, rfl⟩
  rw [List.map_cons, List.map_cons, List.map_cons, bsh_nr s h6, bsh_nr t h8]
  exact this
 ·exact TV9_ok _ _ _ _ h hc
def symV (t : TypeId) : Bool := match t with | 32 => true | t => symP t
noncomputable def envV (T : Tab) (mf : FuncId → Option MF) (M : TabM) : Env := ⟨tys, symV, false, T, [], mf, M, fun _ => none⟩
theorem envV_ok (T : Tab) (mf : FuncId → Option MF) (M : TabM) : EnvOk Try.prog (envV T mf M) := EnvOk.of tysOk
theorem envV_call {T : Tab} {mf : FuncId → Option MF} {M : TabM} (hT : TabOk Try.prog T) (hM : TabMOk Try.prog M) : CallOk Try.prog (envV T mf M) :=
 ⟨hT, fun f mf xs m0 cs r m1 _ h hc => hM f xs m0 cs r m1 h hc, (by intro f k h; cases h)⟩
theorem vc32 {X : Ctx} {Q : AV->Mem->Prop} (hX : X.P=Try.prog)  (h : (1=1/\18<=18)/\(1=1/\18<=18)/\(18=18/\18<=36)/\(18=18/\36<=36)/\(36=36/\36<=36)/\Flat (layS ([Bb false]++(replicate 16 (U8 0)++([U16 0,Bb false]++(replicate 16 (U8 0)++[U16 0])))) 0 (lay (lay ([Bb false]++(replicate 16 (U8 0)++([U16 0,Bb false]++(replicate 16 (U8 0)++[U16 0])))) 0 (lay ([Bb false]++(replicate 16 (U8 0)++[U16 0])) 17 [cvC (Value.int IntKind.u16 1)])) 18 (lay ([Bb false]++(replicate 16 (U8 0)++[U16 0])) 17 [cvC (Value.int IntKind.u16 2)])))/\KR X 32 0 Q (kCut Try.f32 1) (mkS 63 [(1,O1 (PT 0 0))]) [some ([Bb false]++(replicate 16 (U8 0)++([U16 (BitVec.ofInt 16 1),Bb false]++(replicate 16 (U8 0)++[U16 (BitVec.ofInt 16 2)]))))]) : KRun X 32 0 Q ([.code (bodyOf Try.f32)]) (slots [] Try.f32.ntmps) [] :=
 wpRun_ok (hX ▸ envV_ok TV10 mfV8 MV8) (hX ▸ envV_call TV10_ok MV8_ok) (hX ▸ mixed) (hX ▸ ok32) LK_ok (cast (β := wpRun (envV TV10 mfV8 MV8) [39, 42, 46, 54] [(4, 5), (100001, 0), (100002, 0), (100003, 0), (100004, 0), (200004, 0)] false (RS.mk Try.f32.results.toList 0 (CS.mk [] [] [] [])) (LK X 32 0 Q true [(2, LS.mk [1] (CS.mk [] [true] [] [])), (3, LS.mk [1, 2, 3] (CS.mk [] [true, false, true, true] [] [])), (4, LS.mk [2, 3, 4, 5] (CS.mk [] [false, false, true, true, true, true] [] [])), (5, LS.mk [3, 4, 5, 6, 7] (CS.mk [] [false, true, true, true] [] []))]) Q 2000 _ _ _) (by kernel_rfl) h)
theorem vc32b {X : Ctx} {Q : AV->Mem->Prop} (hX : X.P=Try.prog) (pr : List AC) (h : 1<=1/\36<=List.length pr/\1<=1/\Flat (take 1 (drop 0 [cvC (Value.int IntKind.u8 107)]))/\Flat (take 36 (drop 0 pr))/\(allU8 [U8 (BitVec.ofInt 8 107)]/\1=1/\IsE (take 18 (take 36 (drop 0 pr)))/\IsE (drop 18 (take 36 (drop 0 pr))))/\ExactL (hide (List.map U8 (trO (2:Int) (List.map asU8 (take 1 (drop 0 [cvC (Value.int IntKind.u8 107)]))) (take 18 (take 36 (drop 0 pr))) (drop 18 (take 36 (drop 0 pr))) (BitVec.ofInt 32 5) (BitVec.ofInt 32 0))))/\ExactL (hide (List.map U8 (trO (2:Int) (List.map asU8 (take 1 (drop 0 [cvC (Value.int IntKind.u8 107)]))) (drop 18 (take 36 (drop 0 pr))) (take 18 (take 36 (drop 0 pr))) (BitVec.ofInt 32 0) (BitVec.ofInt 32 5))))/\Flat pr/\Flat (hide (List.map U8 (trO (2:Int) (List.map asU8 (take 1 (drop 0 [cvC (Value.int IntKind.u8 107)]))) (take 18 (take 36 (drop 0 pr))) (drop 18 (take 36 (drop 0 pr))) (BitVec.ofInt 32 5) (BitVec.ofInt 32 0))))/\Flat (hide (List.map U8 (trO (2:Int) (List.map asU8 (take 1 (drop 0 [cvC (Value.int IntKind.u8 107)]))) (drop 18 (take 36 (drop 0 pr))) (take 18 (take 36 (drop 0 pr))) (BitVec.ofInt 32 0) (BitVec.ofInt 32 5))))/\KR X 32 0 Q (kCut Try.f32 2) (mkS 63 [(1,O1 (PT 0 0)),(2,O1 (PT 1 0)),(3,O1 (I64 (wayE (2:Int) (List.map asU8 (take 1 (drop 0 [cvC (Value.int IntKind.u8 107)]))) (take 18 (take 36 (drop 0 pr))) (drop 18 (take 36 (drop 0 pr))))))]) [some pr,some [I64 (trA (2:Int) (List.map asU8 (take 1 (drop 0 [cvC (Value.int IntKind.u8 107)]))) (take 18 (take 36 (drop 0 pr))) (drop 18 (take 36 (drop 0 pr)))),SV 2 0 (List.length (trO (2:Int) (List.map asU8 (take 1 (drop 0 [cvC (Value.int IntKind.u8 107)]))) (take 18 (take 36 (drop 0 pr))) (drop 18 (take 36 (drop 0 pr))) (BitVec.ofInt 32 5) (BitVec.ofInt 32 0))),SV 3 0 (List.length (trO (2:Int) (List.map asU8 (take 1 (drop 0 [cvC (Value.int IntKind.u8 107)]))) (drop 18 (take 36 (drop 0 pr))) (take 18 (take 36 (drop 0 pr))) (BitVec.ofInt 32 0) (BitVec.ofInt 32 5))),Bb (trC (2:Int) (List.map asU8 (take 1 (drop 0 [cvC (Value.int IntKind.u8 107)]))) (take 18 (take 36 (drop 0 pr))) (drop 18 (take 36 (drop 0 pr))) true)],some (hide (List.map U8 (trO (2:Int) (List.map asU8 (take 1 (drop 0 [cvC (Value.int IntKind.u8 107)]))) (take 18 (take 36 (drop 0 pr))) (drop 18 (take 36 (drop 0 pr))) (BitVec.ofInt 32 5) (BitVec.ofInt 32 0)))),some (hide (List.map U8 (trO (2:Int) (List.map asU8 (take 1 (drop 0 [cvC (Value.int IntKind.u8 107)]))) (drop 18 (take 36 (drop 0 pr))) (take 18 (take 36 (drop 0 pr))) (BitVec.ofInt 32 0) (BitVec.ofInt 32 5))))]) : KRun X 32 0 Q (kCut Try.f32 1) (mkS 63 [(1, .one (.ptr 0 0))]) [some pr] :=
 wpRun_ok (hX ▸ envV_ok TV10 mfV8 MV8) (hX ▸ envV_call TV10_ok MV8_ok) (hX ▸ mixed) (hX ▸ ok32) LK_ok (cast (β := wpRun (envV TV10 mfV8 MV8) [39, 42, 46, 54] [(4, 5), (100001, 0), (100002, 0), (100003, 0), (100004, 0), (200004, 0)] false (RS.mk Try.f32.results.toList 0 (CS.mk [] [] [] [])) (LK X 32 0 Q true [(2, LS.mk [1] (CS.mk [] [true] [] [])), (3, LS.mk [1, 2, 3] (CS.mk [] [true, false, true, true] [] [])), (4, LS.mk [2, 3, 4, 5] (CS.mk [] [false, false, true, true, true, true] [] [])), (5, LS.mk [3, 4, 5, 6, 7] (CS.mk [] [false, true, true, true] [] []))]) Q 2000 _ _ _) (by kernel_rfl) h)
theorem vc32c {X : Ctx} {Q : AV->Mem->Prop} (hX : X.P=Try.prog) (pr r1 r2 : List AC) (n1 n2:Nat) (a e:Int) (c : Bool) (h : 1<=1/\36<=List.length pr/\18<=List.length pr/\(List.length (take 18 (drop 18 pr))=18/\18<=36)/\(List.length (take 18 (drop 0 pr))=18/\36<=List.length (lay ([Bb false]++(replicate 16 (U8 0)++([U16 0,Bb false]++(replicate 16 (U8 0)++[U16 0])))) 0 (take 18 (drop 18 pr))))/\1<=1/\Flat (take 1 (drop 0 [cvC (Value.int IntKind.u8 107)]))/\Flat (lay (lay ([Bb false]++(replicate 16 (U8 0)++([U16 0,Bb false]++(replicate 16 (U8 0)++[U16 0])))) 0 (take 18 (drop 18 pr))) 18 (take 18 (drop 0 pr)))/\(allU8 [U8 (BitVec.ofInt 8 107)]/\1=1/\IsE (take 18 (lay (lay ([Bb false]++(replicate 16 (U8 0)++([U16 0,Bb false]++(replicate 16 (U8 0)++[U16 0])))) 0 (take 18 (drop 18 pr))) 18 (take 18 (drop 0 pr))))/\IsE (drop 18 (lay (lay ([Bb false]++(replicate 16 (U8 0)++([U16 0,Bb false]++(replicate 16 (U8 0)++[U16 0])))) 0 (take 18 (drop 18 pr))) 18 (take 18 (drop 0 pr)))))/\ExactL (hide (List.map U8 (trO (2:Int) (List.map asU8 (take 1 (drop 0 [cvC (Value.int IntKind.u8 107)]))) (take 18 (lay (lay ([Bb false]++(replicate 16 (U8 0)++([U16 0,Bb false]++(replicate 16 (U8 0)++[U16 0])))) 0 (take 18 (drop 18 pr))) 18 (take 18 (drop 0 pr)))) (drop 18 (lay (lay ([Bb false]++(replicate 16 (U8 0)++([U16 0,Bb false]++(replicate 16 (U8 0)++[U16 0])))) 0 (take 18 (drop 18 pr))) 18 (take 18 (drop 0 pr)))) (BitVec.ofInt 32 0) (BitVec.ofInt 32 5))))/\ExactL (hide (List.map U8 (trO (2:Int) (List.map asU8 (take 1 (drop 0 [cvC (Value.int IntKind.u8 107)]))) (drop 18 (lay (lay ([Bb false]++(replicate 16 (U8 0)++([U16 0,Bb false]++(replicate 16 (U8 0)++[U16 0])))) 0 (take 18 (drop 18 pr))) 18 (take 18 (drop 0 pr)))) (take 18 (lay (lay ([Bb false]++(replicate 16 (U8 0)++([U16 0,Bb false]++(replicate 16 (U8 0)++[U16 0])))) 0 (take 18 (drop 18 pr))) 18 (take 18 (drop 0 pr)))) (BitVec.ofInt 32 5) (BitVec.ofInt 32 0))))/\Flat r1/\Flat r2/\Flat (hide (List.map U8 (trO (2:Int) (List.map asU8 (take 1 (drop 0 [cvC (Value.int IntKind.u8 107)]))) (take 18 (lay (lay ([Bb false]++(replicate 16 (U8 0)++([U16 0,Bb false]++(replicate 16 (U8 0)++[U16 0])))) 0 (take 18 (drop 18 pr))) 18 (take 18 (drop 0 pr)))) (drop 18 (lay (lay ([Bb false]++(replicate 16 (U8 0)++([U16 0,Bb false]++(replicate 16 (U8 0)++[U16 0])))) 0 (take 18 (drop 18 pr))) 18 (take 18 (drop 0 pr)))) (BitVec.ofInt 32 0) (BitVec.ofInt 32 5))))/\Flat (hide (List.map U8 (trO (2:Int) (List.map asU8 (take 1 (drop 0 [cvC (Value.int IntKind.u8 107)]))) (drop 18 (lay (lay ([Bb false]++(replicate 16 (U8 0)++([U16 0,Bb false]++(replicate 16 (U8 0)++[U16 0])))) 0 (take 18 (drop 18 pr))) 18 (take 18 (drop 0 pr)))) (take 18 (lay (lay ([Bb false]++(replicate 16 (U8 0)++([U16 0,Bb false]++(replicate 16 (U8 0)++[U16 0])))) 0 (take 18 (drop 18 pr))) 18 (take 18 (drop 0 pr)))) (BitVec.ofInt 32 5) (BitVec.ofInt 32 0))))/\KR X 32 0 Q (kCut Try.f32 3) (mkS 63 [(2,O1 (PT 0 0)),(3,O1 (I64 e)),(4,O1 (PT 1 0)),(5,O1 (I64 (wayE (2:Int) (List.map asU8 (take 1 (drop 0 [cvC (Value.int IntKind.u8 107)]))) (take 18 (lay (lay ([Bb false]++(replicate 16 (U8 0)++([U16 0,Bb false]++(replicate 16 (U8 0)++[U16 0])))) 0 (take 18 (drop 18 pr))) 18 (take 18 (drop 0 pr)))) (drop 18 (lay (lay ([Bb false]++(replicate 16 (U8 0)++([U16 0,Bb false]++(replicate 16 (U8 0)++[U16 0])))) 0 (take 18 (drop 18 pr))) 18 (take 18 (drop 0 pr)))))))]) [some [I64 a,SV 2 0 n1,SV 3 0 n2,Bb c],some [I64 (trA (2:Int) (List.map asU8 (take 1 (drop 0 [cvC (Value.int IntKind.u8 107)]))) (take 18 (lay (lay ([Bb false]++(replicate 16 (U8 0)++([U16 0,Bb false]++(replicate 16 (U8 0)++[U16 0])))) 0 (take 18 (drop 18 pr))) 18 (take 18 (drop 0 pr)))) (drop 18 (lay (lay ([Bb false]++(replicate 16 (U8 0)++([U16 0,Bb false]++(replicate 16 (U8 0)++[U16 0])))) 0 (take 18 (drop 18 pr))) 18 (take 18 (drop 0 pr))))),SV 4 0 (List.length (trO (2:Int) (List.map asU8 (take 1 (drop 0 [cvC (Value.int IntKind.u8 107)]))) (take 18 (lay (lay ([Bb false]++(replicate 16 (U8 0)++([U16 0,Bb false]++(replicate 16 (U8 0)++[U16 0])))) 0 (take 18 (drop 18 pr))) 18 (take 18 (drop 0 pr)))) (drop 18 (lay (lay ([Bb false]++(replicate 16 (U8 0)++([U16 0,Bb false]++(replicate 16 (U8 0)++[U16 0])))) 0 (take 18 (drop 18 pr))) 18 (take 18 (drop 0 pr)))) (BitVec.ofInt 32 0) (BitVec.ofInt 32 5))),SV 5 0 (List.length (trO (2:Int) (List.map asU8 (take 1 (drop 0 [cvC (Value.int IntKind.u8 107)]))) (drop 18 (lay (lay ([Bb false]++(replicate 16 (U8 0)++([U16 0,Bb false]++(replicate 16 (U8 0)++[U16 0])))) 0 (take 18 (drop 18 pr))) 18 (take 18 (drop 0 pr)))) (take 18 (lay (lay ([Bb false]++(replicate 16 (U8 0)++([U16 0,Bb false]++(replicate 16 (U8 0)++[U16 0])))) 0 (take 18 (drop 18 pr))) 18 (take 18 (drop 0 pr)))) (BitVec.ofInt 32 5) (BitVec.ofInt 32 0))),Bb (trC (2:Int) (List.map asU8 (take 1 (drop 0 [cvC (Value.int IntKind.u8 107)]))) (take 18 (lay (lay ([Bb false]++(replicate 16 (U8 0)++([U16 0,Bb false]++(replicate 16 (U8 0)++[U16 0])))) 0 (take 18 (drop 18 pr))) 18 (take 18 (drop 0 pr)))) (drop 18 (lay (lay ([Bb false]++(replicate 16 (U8 0)++([U16 0,Bb false]++(replicate 16 (U8 0)++[U16 0])))) 0 (take 18 (drop 18 pr))) 18 (take 18 (drop 0 pr)))) true)],some r1,some r2,some (hide (List.map U8 (trO (2:Int) (List.map asU8 (take 1 (drop 0 [cvC (Value.int IntKind.u8 107)]))) (take 18 (lay (lay ([Bb false]++(replicate 16 (U8 0)++([U16 0,Bb false]++(replicate 16 (U8 0)++[U16 0])))) 0 (take 18 (drop 18 pr))) 18 (take 18 (drop 0 pr)))) (drop 18 (lay (lay ([Bb false]++(replicate 16 (U8 0)++([U16 0,Bb false]++(replicate 16 (U8 0)++[U16 0])))) 0 (take 18 (drop 18 pr))) 18 (take 18 (drop 0 pr)))) (BitVec.ofInt 32 0) (BitVec.ofInt 32 5)))),some (hide (List.map U8 (trO (2:Int) (List.map asU8 (take 1 (drop 0 [cvC (Value.int IntKind.u8 107)]))) (drop 18 (lay (lay ([Bb false]++(replicate 16 (U8 0)++([U16 0,Bb false]++(replicate 16 (U8 0)++[U16 0])))) 0 (take 18 (drop 18 pr))) 18 (take 18 (drop 0 pr)))) (take 18 (lay (lay ([Bb false]++(replicate 16 (U8 0)++([U16 0,Bb false]++(replicate 16 (U8 0)++[U16 0])))) 0 (take 18 (drop 18 pr))) 18 (take 18 (drop 0 pr)))) (BitVec.ofInt 32 5) (BitVec.ofInt 32 0))))]) : KRun X 32 0 Q (kCut Try.f32 2) (mkS 63 [(1, .one (.ptr 0 0)), (2, .one (.ptr 1 0)), (3, .one (.i64 e))]) [some pr, some [.i64 a, .sv 2 0 n1, .sv 3 0 n2, .b c], some r1, some r2] :=
 wpRun_ok (hX ▸ envV_ok TV10 mfV8 MV8) (hX ▸ envV_call TV10_ok MV8_ok) (hX ▸ mixed) (hX ▸ ok32) LK_ok (cast (β := wpRun (envV TV10 mfV8 MV8) [39, 42, 46, 54] [(4, 5), (100001, 0), (100002, 0), (100003, 0), (100004, 0), (200004, 0)] false (RS.mk Try.f32.results.toList 0 (CS.mk [] [] [] [])) (LK X 32 0 Q true [(2, LS.mk [1] (CS.mk [] [true] [] [])), (3, LS.mk [1, 2, 3] (CS.mk [] [true, false, true, true] [] [])), (4, LS.mk [2, 3, 4, 5] (CS.mk [] [false, false, true, true, true, true] [] [])), (5, LS.mk [3, 4, 5, 6, 7] (CS.mk [] [false, true, true, true] [] []))]) Q 2000 _ _ _) (by kernel_rfl) h)
theorem vc32d {X : Ctx} {Q : AV->Mem->Prop} (hX : X.P=Try.prog) (r1 r2 r3 r4 : List AC) (n1 n2 n3 n4:Nat) (a b e f:Int) (c d : Bool) (h : (fun L0 : Prop=>(1=1/\1<=32)/\(1=1/\2<=32)/\(1=1/\3<=32)/\(1=1/\5<=32)/\Flat (lay (lay (lay (lay ([U16 0,U16 0,U32 0,U32 0,U8 0,U16 0,U16 0,Bb false,U16 0,Bb false,U8 0,Bb false,NS,Bb false,U32 0,U32 0,Bb false]++(replicate 14 (U8 0)++[NS])) 0 [cvC (Value.int IntKind.u16 1)]) 1 [cvC (Value.int IntKind.u16 2)]) 2 [cvC (Value.int IntKind.u32 5)]) 4 [cvC (Value.int IntKind.u8 2)])/\(L0)/\L0) ((allU8 r1/\List.length r1=n1/\n1<=9223372036854775807/\allU8 r2/\List.length r2=n2/\allU8 (replicate 16 (U8 0))/\16=16/\allU8 (replicate 16 (U8 0))/\16=16/\IsSg ([U16 (BitVec.ofInt 16 1),U16 (BitVec.ofInt 16 2),U32 (BitVec.ofInt 32 5),U32 0,U8 (BitVec.ofInt 8 2),U16 0,U16 0,Bb false,U16 0,Bb false,U8 0,Bb false,NS,Bb false,U32 0,U32 0,Bb true,U8 (BitVec.ofInt 8 1),U8 (BitVec.ofInt 8 1)]++(replicate 12 (U8 0)++[NS])))/\flatAV (AG ([Bb false]++replicate 16 (U8 0)))/\flatAV (AG ([Bb false]++replicate 16 (U8 0)))/\flatAV (AG ([U16 (BitVec.ofInt 16 1),U16 (BitVec.ofInt 16 2),U32 (BitVec.ofInt 32 5),U32 0,U8 (BitVec.ofInt 8 2),U16 0,U16 0,Bb false,U16 0,Bb false,U8 0,Bb false,NS,Bb false,U32 0,U32 0,Bb true,U8 (BitVec.ofInt 8 1),U8 (BitVec.ofInt 8 1)]++(replicate 12 (U8 0)++[NS])))/\flatAV (O1 (U32 (BitVec.ofInt 32 0)))/\Flat r1/\Flat r2/\Flat r1/\Flat r2/\flatAV (AG (hide (sgC (snG a (List.map asU8 r1) false false (List.map asU8 (replicate 16 (U8 0))) (List.map asU8 (replicate 16 (U8 0))) (sgOf (nrL ([U16 (BitVec.ofInt 16 1),U16 (BitVec.ofInt 16 2),U32 (BitVec.ofInt 32 5),U32 0,U8 (BitVec.ofInt 8 2),U16 0,U16 0,Bb false,U16 0,Bb false,U8 0,Bb false,NS,Bb false,U32 0,U32 0,Bb true,U8 (BitVec.ofInt 8 1),U8 (BitVec.ofInt 8 1)]++(replicate 12 (U8 0)++[NS])))) (BitVec.ofInt 32 0) c))))/\flatAV (O1 (I64 (snE a (List.map asU8 r1) (sgOf (nrL ([U16 (BitVec.ofInt 16 1),U16 (BitVec.ofInt 16 2),U32 (BitVec.ofInt 32 5),U32 0,U8 (BitVec.ofInt 8 2),U16 0,U16 0,Bb false,U16 0,Bb false,U8 0,Bb false,NS,Bb false,U32 0,U32 0,Bb true,U8 (BitVec.ofInt 8 1),U8 (BitVec.ofInt 8 1)]++(replicate 12 (U8 0)++[NS])))))))/\(List.length (hide (sgC (snG a (List.map asU8 r1) false false (List.map asU8 (replicate 16 (U8 0))) (List.map asU8 (replicate 16 (U8 0))) (sgOf (nrL ([U16 (BitVec.ofInt 16 1),U16 (BitVec.ofInt 16 2),U32 (BitVec.ofInt 32 5),U32 0,U8 (BitVec.ofInt 8 2),U16 0,U16 0,Bb false,U16 0,Bb false,U8 0,Bb false,NS,Bb false,U32 0,U32 0,Bb true,U8 (BitVec.ofInt 8 1),U8 (BitVec.ofInt 8 1)]++(replicate 12 (U8 0)++[NS])))) (BitVec.ofInt 32 0) c)))=32/\32<=32)/\Flat (layS ([U16 0,U16 0,U32 0,U32 0,U8 0,U16 0,U16 0,Bb false,U16 0,Bb false,U8 0,Bb false,NS,Bb false,U32 0,U32 0,Bb false]++(replicate 14 (U8 0)++[NS])) 0 (hide (sgC (snG a (List.map asU8 r1) false false (List.map asU8 (replicate 16 (U8 0))) (List.map asU8 (replicate 16 (U8 0))) (sgOf (nrL ([U16 (BitVec.ofInt 16 1),U16 (BitVec.ofInt 16 2),U32 (BitVec.ofInt 32 5),U32 0,U8 (BitVec.ofInt 8 2),U16 0,U16 0,Bb false,U16 0,Bb false,U8 0,Bb false,NS,Bb false,U32 0,U32 0,Bb true,U8 (BitVec.ofInt 8 1),U8 (BitVec.ofInt 8 1)]++(replicate 12 (U8 0)++[NS])))) (BitVec.ofInt 32 0) c))))/\Flat r3/\Flat r4/\KR X 32 0 Q (kCut Try.f32 4) (mkS 63 [(3,O1 (I64 e)),(4,O1 (PT 0 0)),(5,O1 (I64 f)),(6,O1 (PT 1 0)),(7,O1 (I64 (snE a (List.map asU8 r1) (sgOf (nrL ([U16 (BitVec.ofInt 16 1),U16 (BitVec.ofInt 16 2),U32 (BitVec.ofInt 32 5),U32 0,U8 (BitVec.ofInt 8 2),U16 0,U16 0,Bb false,U16 0,Bb false,U8 0,Bb false,NS,Bb false,U32 0,U32 0,Bb true,U8 (BitVec.ofInt 8 1),U8 (BitVec.ofInt 8 1)]++(replicate 12 (U8 0)++[NS])))))))]) [some [I64 b,SV 2 0 n3,SV 3 0 n4,Bb d],some (layS ([U16 0,U16 0,U32 0,U32 0,U8 0,U16 0,U16 0,Bb false,U16 0,Bb false,U8 0,Bb false,NS,Bb false,U32 0,U32 0,Bb false]++(replicate 14 (U8 0)++[NS])) 0 (hide (sgC (snG a (List.map asU8 r1) false false (List.map asU8 (replicate 16 (U8 0))) (List.map asU8 (replicate 16 (U8 0))) (sgOf (nrL ([U16 (BitVec.ofInt 16 1),U16 (BitVec.ofInt 16 2),U32 (BitVec.ofInt 32 5),U32 0,U8 (BitVec.ofInt 8 2),U16 0,U16 0,Bb false,U16 0,Bb false,U8 0,Bb false,NS,Bb false,U32 0,U32 0,Bb true,U8 (BitVec.ofInt 8 1),U8 (BitVec.ofInt 8 1)]++(replicate 12 (U8 0)++[NS])))) (BitVec.ofInt 32 0) c)))),some r3,some r4])) : KRun X 32 0 Q (kCut Try.f32 3) (mkS 63 [(2, .one (.ptr 0 0)), (3, .one (.i64 e)), (4, .one (.ptr 1 0)), (5, .one (.i64 f))]) [some [.i64 a, .sv 2 0 n1, .sv 3 0 n2, .b c], some [.i64 b, .sv 4 0 n3, .sv 5 0 n4, .b d], some r1, some r2, some r3, some r4] :=
 wpRun_ok (hX ▸ envV_ok TV10 mfV8 MV8) (hX ▸ envV_call TV10_ok MV8_ok) (hX ▸ mixed) (hX ▸ ok32) LK_ok (cast (β := wpRun (envV TV10 mfV8 MV8) [39, 42, 46, 54] [(4, 5), (100001, 0), (100002, 0), (100003, 0), (100004, 0), (200004, 0)] false (RS.mk Try.f32.results.toList 0 (CS.mk [] [] [] [])) (LK X 32 0 Q true [(2, LS.mk [1] (CS.mk [] [true] [] [])), (3, LS.mk [1, 2, 3] (CS.mk [] [true, false, true, true] [] [])), (4, LS.mk [2, 3, 4, 5] (CS.mk [] [false, false, true, true, true, true] [] [])), (5, LS.mk [3, 4, 5, 6, 7] (CS.mk [] [false, true, true, true] [] []))]) Q 2000 _ _ _) (by kernel_rfl) h)
theorem vc32e {X : Ctx} {Q : AV->Mem->Prop} (hX : X.P=Try.prog) (r3 r4 sg : List AC) (n3 n4:Nat) (b e f q:Int) (d : Bool) (h : (decide (e=(0:Int))=true->(decide (f=(0:Int))=true->(decide (q=(0:Int))=true->32<=List.length sg/\0+n3*1<=List.length r3/\Flat (take (n3*1) (drop 0 r3))/\0+n4*1<=List.length r4/\Flat (take (n4*1) (drop 0 r4))/\Flat ([Bb false]++replicate 16 (U8 0))/\Flat ([Bb false]++replicate 16 (U8 0))/\Flat (take 32 (drop 0 sg))/\(allU8 (take (n3*1) (drop 0 r3))/\List.length (take (n3*1) (drop 0 r3))=n3/\allU8 (take (n4*1) (drop 0 r4))/\List.length (take (n4*1) (drop 0 r4))=n4/\n4<=9223372036854775807/\allU8 (replicate 16 (U8 0))/\16=16/\allU8 (replicate 16 (U8 0))/\16=16/\IsSg (take 32 (drop 0 sg)))/\(decide (vfE b (List.map asU8 (take (n4*1) (drop 0 r4))) false false (List.map asU8 (replicate 16 (U8 0))) (List.map asU8 (replicate 16 (U8 0))) (sgOf (nrL (take 32 (drop 0 sg)))) (BitVec.ofInt 32 0) d=(0:Int))=true->31<=List.length sg/\(fitCs (replicate 12 (U8 0)) (take 12 (drop 19 sg))/\fitCs (replicate 12 (U8 0)) (replicate 12 (U8 0)))/\Q (O1 (Bb !sameCells (take 12 (drop 19 sg)) (replicate 12 (U8 0)))) [])/\(decide (vfE b (List.map asU8 (take (n4*1) (drop 0 r4))) false false (List.map asU8 (replicate 16 (U8 0))) (List.map asU8 (replicate 16 (U8 0))) (sgOf (nrL (take 32 (drop 0 sg)))) (BitVec.ofInt 32 0) d=(0:Int))=false->Q (O1 (Bb false)) []))/\(decide (q=(0:Int))=false->Q (O1 (Bb false)) []))/\(decide (f=(0:Int))=false->Q (O1 (Bb false)) []))/\(decide (e=(0:Int))=false->Q (O1 (Bb false)) [])) : KRun X 32 0 Q (kCut Try.f32 4) (mkS 63 [(3, .one (.i64 e)), (4, .one (.ptr 0 0)), (5, .one (.i64 f)), (6, .one (.ptr 1 0)), (7, .one (.i64 q))]) [some [.i64 b, .sv 2 0 n3, .sv 3 0 n4, .b d], some sg, some r3, some r4] :=
 wpRun_ok (hX ▸ envV_ok TV10 mfV8 MV8) (hX ▸ envV_call TV10_ok MV8_ok) (hX ▸ mixed) (hX ▸ ok32) LK_ok (cast (β := wpRun (envV TV10 mfV8 MV8) [39, 42, 46, 54] [(4, 5), (100001, 0), (100002, 0), (100003, 0), (100004, 0), (200004, 0)] false (RS.mk Try.f32.results.toList 0 (CS.mk [] [] [] [])) (LK X 32 0 Q true [(2, LS.mk [1] (CS.mk [] [true] [] [])), (3, LS.mk [1, 2, 3] (CS.mk [] [true, false, true, true] [] [])), (4, LS.mk [2, 3, 4, 5] (CS.mk [] [false, false, true, true, true, true] [] [])), (5, LS.mk [3, 4, 5, 6, 7] (CS.mk [] [false, true, true, true] [] []))]) Q 2000 _ _ _) (by kernel_rfl) h)
theorem okSg_M (g : Sg) (m : BO) : okSg (sgM g m) = okSg g := by
 unfold okSg
 show (g.op.hasA && maySg (sgM g m)) = (g.op.hasA && maySg g)
 cases h : g.op.hasA with
 | false => rfl
 | true =>
  have : mayO { g.op with mac := m } = mayO g.op := by
   unfold mayO sizN rawN
   simp only [h, Bool.true_or]
  show (true && (mayO { g.op with mac := m } && decide (g.fl ≤ 63#8) && decide (g.data.length ≤ 16384))) = _
  rw [this]
  rfl
theorem sgX_M (g : Sg) (m : BO) (c : Bool) : sgX (sgM g m) c = sgX g c := by cases c <;> rfl
theorem bytB_M (s t : Bool) (a b : BO) (g : Sg) (m : BO) (sn:BitVec 32) (c : Bool) : bytB s t a b (sgM g m) sn c = bytB s t a b g sn c := by
 unfold bytB
 rw [okSg_M, sgX_M]
theorem bytE_M (g : Sg) (m : BO) : bytE (sgM g m) = bytE g := by
 unfold bytE
 rw [okSg_M]
def vK : List (BitVec 8) := lit8 [254, 156, 28, 91, 53, 54, 145, 129, 4, 221, 212, 153, 73, 29, 190, 104]
def vM : List (BitVec 8) := lit8 [248, 62, 116, 63, 149, 129, 52, 218, 210, 81, 43, 51]
def vL : List (BitVec 8) := lit8 [41, 54, 42, 27, 72, 245, 213, 164, 244, 180, 134, 110, 11, 124, 125, 164]
def vIn : List (BitVec 8) := lit8 [1, 84, 67, 80, 45, 65, 79, 0, 0, 0, 0, 0, 0, 0, 0, 0, 1, 0, 2, 0, 0, 0, 5, 0, 0, 0, 0, 0, 128]
def vB : List (BitVec 8) := lit8 [0, 0, 0, 0, 0, 0, 0, 0, 0, 0, 0, 0, 0, 6, 0, 36, 0, 1, 0, 2, 0, 0, 0, 5, 0, 0, 0, 0, 144, 2, 0, 0, 0, 0, 0, 0, 29, 16, 1, 1, 0, 0, 0, 0, 0, 0, 0, 0, 0, 0, 0, 0]
theorem v_b1 : beqL (cmS z16k (lit8 [107])) [41, 54, 42, 27, 72, 245, 213, 164, 244, 180, 134, 110, 11, 124, 125, 164] = true := by kernel_rfl
theorem v_b2 : beqL (cmS vL vIn) [254, 156, 28, 91, 53, 54, 145, 129, 4, 221, 212, 153, 73, 29, 190, 104] = true := by kernel_rfl
theorem v_b3 : beqL (cmS vK vB) [248, 62, 116, 63, 149, 129, 52, 218, 210, 81, 43, 51, 212, 35, 233, 232] = true := by kernel_rfl
def v1 : List AC := enE false z16k (BitVec.ofInt 16 1)
def v2 : List AC := enE false z16k (BitVec.ofInt 16 2)
def v0g : Sg := ⟨BitVec.ofInt 16 1, BitVec.ofInt 16 2, BitVec.ofInt 32 5, 0, BitVec.ofInt 8 2, 0, 0, ⟨false, 0, false, 0, false, false, 0, 0, true, BitVec.ofInt 8 1, BitVec.ofInt 8 1, zM, []⟩, []⟩
theorem v_in : inK 2 (ctC v1 v2 (BitVec.ofInt 32 5) (BitVec.ofInt 32 0)) = vIn := by kernel_rfl
theorem v_blk : blkA (lit8 [107]) = vL := by
 have h : blkA (lit8 [107]) = cmF z16k (lit8 [107]) := by unfold blkA; exact if_neg (by decide)
 rw [h, ← cmS_eq, beqL_ok v_b1]
 rfl
theorem v_wayE : wayE 2 (lit8 [107]) v1 v2 = 0 := by kernel_rfl
theorem v_key : trO 2 (lit8 [107]) v1 v2 (BitVec.ofInt 32 5) (BitVec.ofInt 32 0) = vK := by
 have h1 : trO 2 (lit8 [107]) v1 v2 (BitVec.ofInt 32 5) (BitVec.ofInt 32 0) = wayB 2 (lit8 [107]) v1 v2 (BitVec.ofInt 32 5) (BitVec.ofInt 32 0) := if_pos v_wayE
 have h2 : wayB 2 (lit8 [107]) v1 v2 (BitVec.ofInt 32 5) (BitVec.ofInt 32 0) = keyB 2 (lit8 [107]) (ctC v1 v2 (BitVec.ofInt 32 5) (BitVec.ofInt 32 0)) := if_pos (by kernel_rfl)
 have h3 : ∀ c, keyB 2 (lit8 [107]) c = cmF (blkA (lit8 [107])) (inK 2 c) := fun c => by
  unfold keyB
  rw [if_neg (by decide), if_neg (by decide), if_neg (by decide)]
 rw [h1, h2, h3, v_blk, v_in, ← cmS_eq, beqL_ok v_b2]
 rfl
theorem v_mac : macB 2 vK vB = vM := by
 have h : macB 2 vK vB = sh12 (cmF vK vB) := by
  unfold macB
  rw [if_neg (by decide), if_neg (by decide), if_neg (by decide)]
 rw [h, ← cmS_eq, beqL_ok v_b3]
 rfl
theorem v_byt : bytB false false z16k z16k v0g (BitVec.ofInt 32 0) true = vB := by kernel_rfl
theorem v_bytE : bytE v0g = 0 := by kernel_rfl
theorem v_macE : macE 2 vK = 0 := by kernel_rfl
theorem v_sn : snG 2 vK false false z16k z16k v0g (BitVec.ofInt 32 0) true = sgM v0g vM := by
 unfold snG snG'
 rw [v_bytE, v_byt, if_neg (by decide), v_macE, if_neg (by decide), v_mac]
theorem v_snE : snE 2 vK v0g = 0 := by
 unfold snE snE'
 rw [v_bytE, if_neg (by decide), v_macE]
theorem v_vf : vfE 2 vK false false z16k z16k (sgM v0g vM) (BitVec.ofInt 32 0) true = 0 := by
 unfold vfE vfE'
 rw [bytE_M, v_bytE, if_neg (by decide), v_macE, if_neg (by decide), bytB_M, v_byt, v_mac]
 exact if_pos rfl
def v0 : List (BitVec 8) := trO 2 (lit8 [107]) v2 v1 (BitVec.ofInt 32 0) (BitVec.ofInt 32 5)
theorem zk16 : z16k.length = 16 := List.length_replicate
theorem v1E : IsE v1 := isE_en false (a := z16k) zk16 (BitVec.ofInt 16 1)
theorem v2E : IsE v2 := isE_en false (a := z16k) zk16 (BitVec.ofInt 16 2)
theorem l32e {X : Ctx} (hX : X.P = Try.prog) (r3 : List (BitVec 8)) : KRun X 32 0 Fin (kCut Try.f32 4) (mkS 63 [(3, .one (.i64 0)), (4, .one (.ptr 0 0)), (5, .one (.i64 0)), (6, .one (.ptr 1 0)), (7, .one (.i64 0))]) [some [.i64 2, .sv 2 0 r3.length, .sv 3 0 vK.length, .b true], some (sgC (sgM v0g vM)), some (r3.map U8), some (vK.map U8)] := by
 have hM : (sgM v0g vM).op.mac.length = 12 := rfl
 have hI := isSg_C hM
 have hO := sgOf_C hM
 have hf := sg_flat hM
 have hl : (sgC (sgM v0g vM)).length = 32 := rfl
 have h32 : take 32 (drop 0 (sgC (sgM v0g vM))) = sgC (sgM v0g vM) := rfl
 have h12 : take 12 (drop 19 (sgC (sgM v0g vM))) = vM.map U8 := rfl
 have hz : List.map asU8 (replicate 16 (U8 0)) = z16k := rfl
 have hs : sameCells (vM.map U8) (replicate 12 (U8 0)) = false := by
  rw [same_mac]
  exact decide_eq_false (fun h => by have := congrArg (fun l : List (BitVec 8) => (l.headD 0).toNat) h; revert this; decide)
 have z1 : fitCs (replicate 12 (U8 0)) (vM.map U8) := fit12 rfl
 have z2 : fitCs (replicate 12 (U8 0)) (replicate 12 (U8 0)) := by
  have := fit12 (l := z12) List.length_replicate
  rwa [show z12.map U8 = replicate 12 (U8 0) from List.map_replicate] at this
 have vl : vK.length = 16 := rfl
 refine vc32e hX _ _ _ _ _ _ _ _ _ _ ⟨fun _ => ⟨fun _ => ⟨fun _ => ?_, fun h => absurd h (by decide)⟩, fun h => absurd h (by decide)⟩, fun h => absurd h (by decide)⟩
 rw [tk r3, tk vK, h32, h12, hs]
 simp only [map_as8, hO, hz, List.length_map, hl, vl]
 have hv := v_vf
 have fA : Flat (replicate 16 (U8 0)) := flatLB_ok rfl
 have aA : allU8 (replicate 16 (U8 0)) := rfl
 rw [hv]
 clear h32 h12 hs hO
 (repeat' (first | exact trivial | exact hf | exact hI | exact z1 | exact z2 | exact aA | exact flat_u8 _ | exact allU8_map _ | exact flatLB_ok rfl | exact rfl | exact Nat.le_refl _ | refine And.intro ?_ ?_)) <;> first | omega | (intro h; first | (exact absurd h (by decide)) | exact ⟨by omega, ⟨z1, z2⟩, rfl⟩)
theorem l32d {X : Ctx} (hX : X.P = Try.prog) : KRun X 32 0 Fin (kCut Try.f32 3) (mkS 63 [(2, .one (.ptr 0 0)), (3, .one (.i64 0)), (4, .one (.ptr 1 0)), (5, .one (.i64 0))]) [some [.i64 2, .sv 2 0 vK.length, .sv 3 0 v0.length, .b true], some [.i64 2, .sv 4 0 v0.length, .sv 5 0 vK.length, .b true], some (vK.map U8), some (v0.map U8), some (v0.map U8), some (vK.map U8)] := by
 have K := l32e hX v0
 have hz : IsSg ([.u16 (BitVec.ofInt 16 1), .u16 (BitVec.ofInt 16 2), .u32 (BitVec.ofInt 32 5), .u32 0, .u8 (BitVec.ofInt 8 2), .u16 0, .u16 0, .b false, .u16 0, .b false, .u8 0, .b false, .ns, .b false, .u32 0, .u32 0, .b true, .u8 (BitVec.ofInt 8 1), .u8 (BitVec.ofInt 8 1)] ++ (replicate 12 (U8 0) ++ [.ns])) ∧ sgOf (nrL ([.u16 (BitVec.ofInt 16 1), .u16 (BitVec.ofInt 16 2), .u32 (BitVec.ofInt 32 5), .u32 0, .u8 (BitVec.ofInt 8 2), .u16 0, .u16 0, .b false, .u16 0, .b false, .u8 0, .b false, .ns, .b false, .u32 0, .u32 0, .b true, .u8 (BitVec.ofInt 8 1), .u8 (BitVec.ofInt 8 1)] ++ (replicate 12 (U8 0) ++ [.ns]))) = v0g := isSg_of rfl zM_len
 obtain ⟨z1, z2⟩ := hz
 have h0 : List.map asU8 (replicate 16 (U8 0)) = z16k := rfl
 have vl : vK.length = 16 := rfl
 have h1 := v_sn
 have h2 := v_snE
 have hf := sg_flat (g := sgM v0g vM) rfl
 have hfL : Flat ([.u16 (BitVec.ofInt 16 1), .u16 (BitVec.ofInt 16 2), .u32 (BitVec.ofInt 32 5), .u32 0, .u8 (BitVec.ofInt 8 2), .u16 0, .u16 0, .b false, .u16 0, .b false, .u8 0, .b false, .ns, .b false, .u32 0, .u32 0, .b true, .u8 (BitVec.ofInt 8 1), .u8 (BitVec.ofInt 8 1)] ++ (replicate 12 (U8 0) ++ [.ns])) := flatLB_ok rfl
 have fA : Flat ([Bb false] ++ replicate 16 (U8 0)) := flatLB_ok rfl
 have hll : ∀ z : List AC, z.length = 32 → layS z 0 (sgC (sgM v0g vM)) = sgC (sgM v0g vM) := fun z hz => layS_all (by rw [hz]; rfl)
 have hls : (sgC (sgM v0g vM)).length = 32 := rfl
 refine vc32d hX _ _ _ _ _ _ _ _ _ _ _ _ _ _ ?_
 rw [z2]
 simp only [map_as8, h0, h1, h2, hide_eq, List.length_map]
 rw [hll _ rfl]
 generalize hG : sgC (sgM v0g vM) = G at *
 generalize v0 = W0 at *
 (repeat' (first | exact trivial | exact hf | exact z1 | exact fA | exact hfL | exact flat_u8 _ | exact allU8_map _ | exact flatLB_ok rfl | exact rfl | exact Nat.le_refl _ | exact ⟨K⟩ | refine And.intro ?_ ?_)) <;> omega
theorem v_sym : wayE 2 (lit8 [107]) v2 v1 = 0 := (wayE_sym _ _ _ _).trans v_wayE
theorem v_trA : trA 2 (lit8 [107]) v1 v2 = 2 := if_pos v_wayE
theorem v_trA' : trA 2 (lit8 [107]) v2 v1 = 2 := if_pos v_sym
theorem v_trC : trC 2 (lit8 [107]) v1 v2 true = true := by unfold trC; rw [v_wayE]; rfl
theorem v_trC' : trC 2 (lit8 [107]) v2 v1 true = true := by unfold trC; rw [v_sym]; rfl
theorem l32c {X : Ctx} (hX : X.P = Try.prog) : KRun X 32 0 Fin (kCut Try.f32 2) (mkS 63 [(1, .one (.ptr 0 0)), (2, .one (.ptr 1 0)), (3, .one (.i64 0))]) [some (v1 ++ v2), some [.i64 2, .sv 2 0 vK.length, .sv 3 0 v0.length, .b true], some (vK.map U8), some (v0.map U8)] := by
 have K := l32d hX
 have hl : (v1 ++ v2).length = 36 := rfl
 have t1 : take 18 (drop 18 (v1 ++ v2)) = v2 := rfl
 have t2 : take 18 (drop 0 (v1 ++ v2)) = v1 := rfl
 have e1 : lay (lay ([.b false] ++ (replicate 16 (U8 0) ++ ([.u16 0, .b false] ++ (replicate 16 (U8 0) ++ [.u16 0])))) 0 v2) 18 v1 = v2 ++ v1 := rfl
 have e2 : (lay ([.b false] ++ (replicate 16 (U8 0) ++ ([.u16 0, .b false] ++ (replicate 16 (U8 0) ++ [.u16 0])))) 0 v2).length = 36 := rfl
 have t3 : take 18 (v2 ++ v1) = v2 := rfl
 have t4 : drop 18 (v2 ++ v1) = v1 := rfl
 have m1 : List.map asU8 (take 1 (drop 0 [cvC (Value.int IntKind.u8 107)])) = lit8 [107] := rfl
 have l1 : v1.length = 18 := rfl
 have l2 : v2.length = 18 := rfl
 have hE1 := v1E
 have hE2 := v2E
 have f1 : Flat (v2 ++ v1) := flatLB_ok rfl
 have k1 := v_key
 have k2 : trO 2 (lit8 [107]) v2 v1 (BitVec.ofInt 32 0) (BitVec.ofInt 32 5) = v0 := rfl
 have hA := v_trA'
 have hC := v_trC'
 have hE := v_sym
 refine vc32c hX _ _ _ _ _ _ _ _ ?_
 rw [t1, t2]
 rw [e2, e1, t3, t4, m1, k1, k2, hA, hC, hE]
 simp only [hide_eq, List.length_map, hl, l1, l2]
 clear t1 t2 t3 t4 e1 e2 k1 k2 hA hC hE m1
 generalize v0 = W0 at *
 generalize v2 ++ v1 = P1 at *
 generalize v1 = A1 at *
 generalize v2 = A2 at *
 (repeat' (first | exact trivial | exact f1 | exact hE1 | exact hE2 | exact flat_u8 _ | exact allU8_map _ | exact exU8 _ | exact rfl | exact Nat.le_refl _ | exact ⟨K⟩ | refine And.intro ?_ ?_ | exact flatLB_ok rfl)) <;> omega
theorem l32b {X : Ctx} (hX : X.P = Try.prog) : KRun X 32 0 Fin (kCut Try.f32 1) (mkS 63 [(1, .one (.ptr 0 0))]) [some (v1 ++ v2)] := by
 have K := l32c hX
 have hl : (v1 ++ v2).length = 36 := rfl
 have t1 : take 36 (drop 0 (v1 ++ v2)) = v1 ++ v2 := rfl
 have t2 : take 18 (v1 ++ v2) = v1 := rfl
 have t3 : drop 18 (v1 ++ v2) = v2 := rfl
 have m1 : List.map asU8 (take 1 (drop 0 [cvC (Value.int IntKind.u8 107)])) = lit8 [107] := rfl
 have hE1 := v1E
 have hE2 := v2E
 have f1 : Flat (v1 ++ v2) := flatLB_ok rfl
 have k1 := v_key
 have k2 : trO 2 (lit8 [107]) v2 v1 (BitVec.ofInt 32 0) (BitVec.ofInt 32 5) = v0 := rfl
 have hA := v_trA
 have hC := v_trC
 have hE := v_wayE
 refine vc32b hX _ ?_
 rw [t1, t2, t3, m1, k1, k2, hA, hC, hE]
 simp only [hide_eq, List.length_map, hl]
 clear t1 t2 t3 k1 k2 hA hC hE m1
 generalize v0 = W0 at *
 generalize v1 ++ v2 = P1 at *
 generalize v1 = A1 at *
 generalize v2 = A2 at *
 (repeat' (first | exact trivial | exact f1 | exact hE1 | exact hE2 | exact flat_u8 _ | exact allU8_map _ | exact exU8 _ | exact rfl | exact Nat.le_refl _ | exact ⟨K⟩ | refine And.intro ?_ ?_ | exact flatLB_ok rfl)) <;> omega
theorem s32 : Spec Try.prog 32 [] [] Fin := by
 refine Spec.of_run ok32 fun X hX => vc32 hX ?_
 have K := l32b hX
 (repeat' (first | exact trivial | exact flatLB_ok rfl | exact rfl | exact Nat.le_refl _ | exact ⟨K⟩ | refine And.intro ?_ ?_)) <;> omega
end DH
noncomputable section
namespace DH
set_option maxRecDepth 100000
open List (take drop replicate)
open AC renaming u8 → U8, u16 → U16, u32 → U32, u64 → U64, i64 → I64, b → Bb, xs → XS, gs → GS, sv → SV, ptr → PT, any → AY, ns → NS
open AV renaming one → O1, agg → AG, tup → TU
open Go Go.Proofs
theorem ok92 : FnOk Try.prog 92 Try.f92 (bodyOf Try.f92) := .of Try.func92 (by kernel_rfl) (by kernel_rfl)
theorem ok35 : FnOk Try.prog 35 Try.f35 (bodyOf Try.f35) := .of Try.func35 (by kernel_rfl) (by kernel_rfl)
theorem ok31 : FnOk Try.prog 31 Try.f31 (bodyOf Try.f31) := .of Try.func31 (by kernel_rfl) (by kernel_rfl)
noncomputable def TV20 : Tab := fun f xs => match f, xs with
 | 32, [] => some ([], .one (.b true))
 | f, xs => TV10 f xs
theorem TV20_ok : TabOk Try.prog TV20 := by
 intro f xs cs r h hc
 unfold TV20 at h
 split at h
 ·obtain ⟨rfl, rfl⟩ := Prod.mk.inj (Option.some.inj h)
  exact ⟨⟨_, _, ok32⟩, s32, rfl⟩
 ·exact TV10_ok _ _ _ _ h hc
theorem vc31 {X : Ctx} {Q : AV->Mem->Prop} (hX : X.P=Try.prog) (e1 e2:BitVec 16) (e3 e4:BitVec 32) (e5:BitVec 8) (e6 e7:BitVec 16) (a1 : Bool) (a2:BitVec 16) (a3 : Bool) (a4:BitVec 8) (a5 : Bool) (kr : List AC) (kn:Nat) (a6 : Bool) (a7 a8:BitVec 32) (a9 : Bool) (b1 b2 c0 c1 c2 c3 c4 c5 c6 c7 c8 c9 d0 d1:BitVec 8) (dr : List AC) (dn:Nat) (h : (fun L0 : Prop=>(decide ((300:Int)<(↑dn:Int))=true->(decide ((↑dn:Int)<=(16384:Int))=true->Q (O1 (Bb true)) [])/\(decide ((↑dn:Int)<=(16384:Int))=false->L0))/\(decide ((300:Int)<(↑dn:Int))=false->L0)) ((decide ((500:Int)<(↑kn:Int))=true->Q (O1 (Bb true)) [])/\(decide ((500:Int)<(↑kn:Int))=false->Q (O1 (Bb (decide ((20000:Int)<(↑dn:Int))))) []))) : KRun X 31 0 Q ([.code (bodyOf Try.f31)]) (slots [.agg [.u16 e1, .u16 e2, .u32 e3, .u32 e4, .u8 e5, .u16 e6, .u16 e7, .b a1, .u16 a2, .b a3, .u8 a4, .b a5, .xs kr 0 kn, .b a6, .u32 a7, .u32 a8, .b a9, .u8 b1, .u8 b2, .u8 c0, .u8 c1, .u8 c2, .u8 c3, .u8 c4, .u8 c5, .u8 c6, .u8 c7, .u8 c8, .u8 c9, .u8 d0, .u8 d1, .xs dr 0 dn]] Try.f31.ntmps) [] :=
 wpRun_ok (hX ▸ envP_ok TV20 mfV8 MV8) (hX ▸ envP_call TV20_ok MV8_ok) (hX ▸ mixed) (hX ▸ ok31) LK_ok (cast (β := wpRun (envP TV20 mfV8 MV8) [6, 11, 18] [] false (RS.mk Try.f31.results.toList 0 (CS.mk [] [] [] [])) (LK X 31 0 Q true []) Q 2000 _ _ _) (by kernel_rfl) h)
theorem vc92 {X : Ctx} {Q : AV->Mem->Prop} (hX : X.P=Try.prog) (a1 : Bool) (a2:BitVec 16) (a3 : Bool) (a4:BitVec 8) (a5 : Bool) (kr : List AC) (kn:Nat) (a6 : Bool) (a7 a8:BitVec 32) (a9 : Bool) (b1 b2 c0 c1 c2 c3 c4 c5 c6 c7 c8 c9 d0 d1:BitVec 8) (f1 : Bool) (f2:BitVec 16) (f3 : Bool) (f4:BitVec 8) (f5 : Bool) (jr : List AC) (jn:Nat) (f6 : Bool) (f7 f8:BitVec 32) (f9 : Bool) (g1 g2 m0 m1 m2 m3 m4 m5 m6 m7 m8 m9 n0 n1:BitVec 8) (h : ((!decide ((↑kn:Int)=(↑jn:Int)))=true->Q (O1 (Bb false)) [])/\((!decide ((↑kn:Int)=(↑jn:Int)))=false->Flat [Bb a1,U16 a2,Bb a3,U8 a4,Bb a5,XS kr 0 kn,Bb a6,U32 a7,U32 a8,Bb a9,U8 b1,U8 b2,U8 c0,U8 c1,U8 c2,U8 c3,U8 c4,U8 c5,U8 c6,U8 c7,U8 c8,U8 c9,U8 d0,U8 d1]/\Flat [Bb f1,U16 f2,Bb f3,U8 f4,Bb f5,XS jr 0 jn,Bb f6,U32 f7,U32 f8,Bb f9,U8 g1,U8 g2,U8 m0,U8 m1,U8 m2,U8 m3,U8 m4,U8 m5,U8 m6,U8 m7,U8 m8,U8 m9,U8 n0,U8 n1]/\KR X 92 0 Q (kOf Try.f92 0) (mkS 113 [(2,O1 (PT 0 0)),(3,O1 (PT 1 0)),(5,O1 (I64 (0:Int)))]) [some [Bb a1,U16 a2,Bb a3,U8 a4,Bb a5,XS kr 0 kn,Bb a6,U32 a7,U32 a8,Bb a9,U8 b1,U8 b2,U8 c0,U8 c1,U8 c2,U8 c3,U8 c4,U8 c5,U8 c6,U8 c7,U8 c8,U8 c9,U8 d0,U8 d1],some [Bb f1,U16 f2,Bb f3,U8 f4,Bb f5,XS jr 0 jn,Bb f6,U32 f7,U32 f8,Bb f9,U8 g1,U8 g2,U8 m0,U8 m1,U8 m2,U8 m3,U8 m4,U8 m5,U8 m6,U8 m7,U8 m8,U8 m9,U8 n0,U8 n1]])) : KRun X 92 0 Q ([.code (bodyOf Try.f92)]) (slots [.agg [.b a1, .u16 a2, .b a3, .u8 a4, .b a5, .xs kr 0 kn, .b a6, .u32 a7, .u32 a8, .b a9, .u8 b1, .u8 b2, .u8 c0, .u8 c1, .u8 c2, .u8 c3, .u8 c4, .u8 c5, .u8 c6, .u8 c7, .u8 c8, .u8 c9, .u8 d0, .u8 d1], .agg [.b f1, .u16 f2, .b f3, .u8 f4, .b f5, .xs jr 0 jn, .b f6, .u32 f7, .u32 f8, .b f9, .u8 g1, .u8 g2, .u8 m0, .u8 m1, .u8 m2, .u8 m3, .u8 m4, .u8 m5, .u8 m6, .u8 m7, .u8 m8, .u8 m9, .u8 n0, .u8 n1]] Try.f92.ntmps) [] :=
 wpRun_ok (hX ▸ envP_ok TV20 mfV8 MV8) (hX ▸ envP_call TV20_ok MV8_ok) (hX ▸ mixed) (hX ▸ ok92) LK_ok (cast (β := wpRun (envP TV20 mfV8 MV8) [12, 17, 30, 35, 41, 48, 55, 62, 69, 76, 83, 90, 97, 104] [] false (RS.mk Try.f92.results.toList 0 (CS.mk [] [] [] [])) (LK X 92 0 Q true [(4, LS.mk [2, 3, 5] (CS.mk [] [true, true] [] []))]) Q 2000 _ _ _) (by kernel_rfl) h)
theorem vc92a {X : Ctx} {Q : AV->Mem->Prop} (hX : X.P=Try.prog) (a1 : Bool) (a2:BitVec 16) (a3 : Bool) (a4:BitVec 8) (a5 : Bool) (kr : List AC) (kn:Nat) (a6 : Bool) (a7 a8:BitVec 32) (a9 : Bool) (b1 b2 c0 c1 c2 c3 c4 c5 c6 c7 c8 c9 d0 d1:BitVec 8) (f1 : Bool) (f2:BitVec 16) (f3 : Bool) (f4:BitVec 8) (f5 : Bool) (jr : List AC) (jn:Nat) (f6 : Bool) (f7 f8:BitVec 32) (f9 : Bool) (g1 g2 m0 m1 m2 m3 m4 m5 m6 m7 m8 m9 n0 n1:BitVec 8) (i:Int) (h : (decide (i<(↑kn:Int))=true->((0:Int)<=i/\i<(↑kn:Int))/\gt AY kr (0+Int.toNat i*2)=U32 (asU32 (gt AY kr (0+Int.toNat i*2)))/\gt AY kr (0+Int.toNat i*2+1)=U32 (asU32 (gt AY kr (0+Int.toNat i*2+1)))/\((0:Int)<=i/\i<(↑jn:Int))/\gt AY jr (0+Int.toNat i*2)=U32 (asU32 (gt AY jr (0+Int.toNat i*2)))/\gt AY jr (0+Int.toNat i*2+1)=U32 (asU32 (gt AY jr (0+Int.toNat i*2+1)))/\(fitCs [U32 0,U32 0] [U32 (asU32 (gt AY kr (0+Int.toNat i*2))),U32 (asU32 (gt AY kr (0+Int.toNat i*2+1)))]/\fitCs [U32 0,U32 0] [U32 (asU32 (gt AY jr (0+Int.toNat i*2))),U32 (asU32 (gt AY jr (0+Int.toNat i*2+1)))])/\((!sameCells [U32 (asU32 (gt AY kr (0+Int.toNat i*2))),U32 (asU32 (gt AY kr (0+Int.toNat i*2+1)))] [U32 (asU32 (gt AY jr (0+Int.toNat i*2))),U32 (asU32 (gt AY jr (0+Int.toNat i*2+1)))])=true->Q (O1 (Bb false)) [])/\((!sameCells [U32 (asU32 (gt AY kr (0+Int.toNat i*2))),U32 (asU32 (gt AY kr (0+Int.toNat i*2+1)))] [U32 (asU32 (gt AY jr (0+Int.toNat i*2))),U32 (asU32 (gt AY jr (0+Int.toNat i*2+1)))])=false->in64 (i+(1:Int))/\Flat [Bb a1,U16 a2,Bb a3,U8 a4,Bb a5,XS kr 0 kn,Bb a6,U32 a7,U32 a8,Bb a9,U8 b1,U8 b2,U8 c0,U8 c1,U8 c2,U8 c3,U8 c4,U8 c5,U8 c6,U8 c7,U8 c8,U8 c9,U8 d0,U8 d1]/\Flat [Bb f1,U16 f2,Bb f3,U8 f4,Bb f5,XS jr 0 jn,Bb f6,U32 f7,U32 f8,Bb f9,U8 g1,U8 g2,U8 m0,U8 m1,U8 m2,U8 m3,U8 m4,U8 m5,U8 m6,U8 m7,U8 m8,U8 m9,U8 n0,U8 n1]/\KR X 92 0 Q (kOf Try.f92 0) (mkS 113 [(2,O1 (PT 0 0)),(3,O1 (PT 1 0)),(5,O1 (I64 (i+(1:Int))))]) [some [Bb a1,U16 a2,Bb a3,U8 a4,Bb a5,XS kr 0 kn,Bb a6,U32 a7,U32 a8,Bb a9,U8 b1,U8 b2,U8 c0,U8 c1,U8 c2,U8 c3,U8 c4,U8 c5,U8 c6,U8 c7,U8 c8,U8 c9,U8 d0,U8 d1],some [Bb f1,U16 f2,Bb f3,U8 f4,Bb f5,XS jr 0 jn,Bb f6,U32 f7,U32 f8,Bb f9,U8 g1,U8 g2,U8 m0,U8 m1,U8 m2,U8 m3,U8 m4,U8 m5,U8 m6,U8 m7,U8 m8,U8 m9,U8 n0,U8 n1]]))/\(decide (i<(↑kn:Int))=false->((a1==f1)=true->U16 a2=U16 a2/\U16 f2=U16 f2/\(decide (a2=f2)=true->((a3==f3)=true->U8 a4=U8 a4/\U8 f4=U8 f4/\(decide (a4=f4)=true->((a5==f5)=true->((a6==f6)=true->U32 a7=U32 a7/\U32 f7=U32 f7/\(decide (a7=f7)=true->U32 a8=U32 a8/\U32 f8=U32 f8/\(decide (a8=f8)=true->((a9==f9)=true->U8 b1=U8 b1/\U8 g1=U8 g1/\(decide (b1=g1)=true->U8 b2=U8 b2/\U8 g2=U8 g2/\(decide (b2=g2)=true->24<=24/\24<=24/\(fitCs (replicate 12 (U8 0)) (take 12 (drop 12 [Bb a1,U16 a2,Bb a3,U8 a4,Bb a5,XS kr 0 kn,Bb a6,U32 a7,U32 a8,Bb a9,U8 b1,U8 b2,U8 c0,U8 c1,U8 c2,U8 c3,U8 c4,U8 c5,U8 c6,U8 c7,U8 c8,U8 c9,U8 d0,U8 d1]))/\fitCs (replicate 12 (U8 0)) (take 12 (drop 12 [Bb f1,U16 f2,Bb f3,U8 f4,Bb f5,XS jr 0 jn,Bb f6,U32 f7,U32 f8,Bb f9,U8 g1,U8 g2,U8 m0,U8 m1,U8 m2,U8 m3,U8 m4,U8 m5,U8 m6,U8 m7,U8 m8,U8 m9,U8 n0,U8 n1])))/\Q (O1 (Bb (sameCells (take 12 (drop 12 [Bb a1,U16 a2,Bb a3,U8 a4,Bb a5,XS kr 0 kn,Bb a6,U32 a7,U32 a8,Bb a9,U8 b1,U8 b2,U8 c0,U8 c1,U8 c2,U8 c3,U8 c4,U8 c5,U8 c6,U8 c7,U8 c8,U8 c9,U8 d0,U8 d1])) (take 12 (drop 12 [Bb f1,U16 f2,Bb f3,U8 f4,Bb f5,XS jr 0 jn,Bb f6,U32 f7,U32 f8,Bb f9,U8 g1,U8 g2,U8 m0,U8 m1,U8 m2,U8 m3,U8 m4,U8 m5,U8 m6,U8 m7,U8 m8,U8 m9,U8 n0,U8 n1]))))) [])/\(decide (b2=g2)=false->Q (O1 (Bb false)) []))/\(decide (b1=g1)=false->Q (O1 (Bb false)) []))/\((a9==f9)=false->Q (O1 (Bb false)) []))/\(decide (a8=f8)=false->Q (O1 (Bb false)) []))/\(decide (a7=f7)=false->Q (O1 (Bb false)) []))/\((a6==f6)=false->Q (O1 (Bb false)) []))/\((a5==f5)=false->Q (O1 (Bb false)) []))/\(decide (a4=f4)=false->Q (O1 (Bb false)) []))/\((a3==f3)=false->Q (O1 (Bb false)) []))/\(decide (a2=f2)=false->Q (O1 (Bb false)) []))/\((a1==f1)=false->Q (O1 (Bb false)) []))) : KRun X 92 0 Q (kOf Try.f92 0) (mkS 113 [(2, .one (.ptr 0 0)), (3, .one (.ptr 1 0)), (5, .one (.i64 i))]) [some [.b a1, .u16 a2, .b a3, .u8 a4, .b a5, .xs kr 0 kn, .b a6, .u32 a7, .u32 a8, .b a9, .u8 b1, .u8 b2, .u8 c0, .u8 c1, .u8 c2, .u8 c3, .u8 c4, .u8 c5, .u8 c6, .u8 c7, .u8 c8, .u8 c9, .u8 d0, .u8 d1], some [.b f1, .u16 f2, .b f3, .u8 f4, .b f5, .xs jr 0 jn, .b f6, .u32 f7, .u32 f8, .b f9, .u8 g1, .u8 g2, .u8 m0, .u8 m1, .u8 m2, .u8 m3, .u8 m4, .u8 m5, .u8 m6, .u8 m7, .u8 m8, .u8 m9, .u8 n0, .u8 n1]] :=
 wpRun_ok (hX ▸ envP_ok TV20 mfV8 MV8) (hX ▸ envP_call TV20_ok MV8_ok) (hX ▸ mixed) (hX ▸ ok92) LK_ok (cast (β := wpRun (envP TV20 mfV8 MV8) [12, 17, 30, 35, 41, 48, 55, 62, 69, 76, 83, 90, 97, 104] [] false (RS.mk Try.f92.results.toList 0 (CS.mk [] [] [] [])) (LK X 92 0 Q true [(4, LS.mk [2, 3, 5] (CS.mk [] [true, true] [] []))]) Q 2000 _ _ _) (by kernel_rfl) h)
noncomputable def sameO (a b : Op) : Bool := @decide (a = b) (Classical.propDecidable _)
theorem bneB {a b : Bool} (h : (a == b) = false) : a ≠ b := fun e => by subst e; cases a <;> cases h
theorem beqB {a b : Bool} (h : (a == b) = true) : a = b := by cases a <;> cases b <;> first | rfl | cases h
theorem same2 (x y u v:BitVec 32) : sameCells [U32 x, U32 y] [U32 u, U32 v] = decide (x = u ∧ y = v) := by
 unfold sameCells
 exact decide_eq_decide.2 ⟨fun h => by injection h with h1 h2; injection h1 with h1; injection h2 with h2 _; injection h2 with h2; exact ⟨h1, h2⟩, fun ⟨h1, h2⟩ => by rw [h1, h2]⟩
theorem fit2 (x y:BitVec 32) : fitCs [U32 0, .u32 0] [.u32 x, .u32 y] := ⟨trivial, trivial, trivial⟩
theorem s92 (a b : Op) (hl : a.mac.length = 12) (hl' : b.mac.length = 12) (hk : a.sacks.length ≤ 1000000) : Spec Try.prog 92 [.agg (opC a), .agg (opC b)] [] (Is (.one (.b (sameO a b)))) := by
 have f1 : Flat (opC a) := by
  obtain ⟨a1, a2, a3, a4, a5, a6, a7, a8, a9, b1, b2, mc, sk⟩ := a
  obtain ⟨c0, c1, c2, c3, c4, c5, c6, c7, c8, c9, d0, d1, rfl⟩ := twelve hl
  exact flatLB_ok rfl
 have f2 : Flat (opC b) := by
  obtain ⟨a1, a2, a3, a4, a5, a6, a7, a8, a9, b1, b2, mc, sk⟩ := b
  obtain ⟨c0, c1, c2, c3, c4, c5, c6, c7, c8, c9, d0, d1, rfl⟩ := twelve hl'
  exact flatLB_ok rfl
 have z1 : fitCs (replicate 12 (U8 0)) (a.mac.map U8) := fit12 hl
 have z2 : fitCs (replicate 12 (U8 0)) (b.mac.map U8) := fit12 hl'
 have hsm : sameCells (a.mac.map U8) (b.mac.map U8) = decide (a.mac = b.mac) := same_u8 _ _
 have hR : sameO a b = true ↔ a = b := @decide_eq_true_iff _ (Classical.propDecidable _)
 generalize sameO a b = R at *
 obtain ⟨a1, a2, a3, a4, a5, a6, a7, a8, a9, b1, b2, mc, sk⟩ := a
 obtain ⟨f1', f2', f3, f4, f5, f6, f7, f8, f9, g1, g2, me, sj⟩ := b
 dsimp only at hl hl' hk z1 z2 hsm
 simp only [Op.mk.injEq] at hR
 have fz : R = false → Is (.one (.b R)) (.one (.b false)) [] := fun e => by rw [e]; exact rfl
 have nR : ¬ (a1 = f1' ∧ a2 = f2' ∧ a3 = f3 ∧ a4 = f4 ∧ a5 = f5 ∧ a6 = f6 ∧ a7 = f7 ∧ a8 = f8 ∧ a9 = f9 ∧ b1 = g1 ∧ b2 = g2 ∧ mc = me ∧ sk = sj) → R = false := fun h => by
  cases R with
  | false => rfl
  | true => exact absurd (hR.1 rfl) h
 generalize hd : decide (mc = me) = D at hsm
 obtain ⟨c0, c1, c2, c3, c4, c5, c6, c7, c8, c9, d0, d1, hmc⟩ := twelve hl
 obtain ⟨m0, m1, m2, m3, m4, m5, m6, m7, m8, m9, n0, n1, hme⟩ := twelve hl'
 subst hmc hme
 refine Spec.of_run ok92 fun X hX => ?_
 have KL : sk.length = sj.length → ∀ (d i:Nat), i + d = sk.length → sk.take i = sj.take i → KRun X 92 0 (Is (.one (.b R))) (kOf Try.f92 0) (mkS 113 [(2, .one (.ptr 0 0)), (3, .one (.ptr 1 0)), (5, .one (.i64 i))]) [some (opC ⟨a1, a2, a3, a4, a5, a6, a7, a8, a9, b1, b2, [c0, c1, c2, c3, c4, c5, c6, c7, c8, c9, d0, d1], sk⟩), some (opC ⟨f1', f2', f3, f4, f5, f6, f7, f8, f9, g1, g2, [m0, m1, m2, m3, m4, m5, m6, m7, m8, m9, n0, n1], sj⟩)] := by
  intro hll d
  induction d with
  | zero =>
   intro i hi ht
   rw [List.take_of_length_le (by omega), List.take_of_length_le (by omega)] at ht
   have h1 : take 12 (drop 12 (opC ⟨a1, a2, a3, a4, a5, a6, a7, a8, a9, b1, b2, [c0, c1, c2, c3, c4, c5, c6, c7, c8, c9, d0, d1], sk⟩)) = [c0, c1, c2, c3, c4, c5, c6, c7, c8, c9, d0, d1].map U8 := rfl
   have h2 : take 12 (drop 12 (opC ⟨f1', f2', f3, f4, f5, f6, f7, f8, f9, g1, g2, [m0, m1, m2, m3, m4, m5, m6, m7, m8, m9, n0, n1], sj⟩)) = [m0, m1, m2, m3, m4, m5, m6, m7, m8, m9, n0, n1].map U8 := rfl
   refine vc92a hX _ _ _ _ _ _ _ _ _ _ _ _ _ _ _ _ _ _ _ _ _ _ _ _ _ _ _ _ _ _ _ _ _ _ _ _ _ _ _ _ _ _ _ _ _ _ _ _ _ _ _ ⟨fun h => absurd (show (i:Int) < (sk.length:Int) from of_decide_eq_true h) (by omega), fun _ => ⟨fun e1 => ⟨rfl, rfl, fun e2 => ⟨fun e3 => ⟨rfl, rfl, fun e4 => ⟨fun e5 => ⟨fun e6 => ⟨rfl, rfl, fun e7 => ⟨rfl, rfl, fun e8 => ⟨fun e9 => ⟨rfl, rfl, fun e10 => ⟨rfl, rfl, fun e11 => ⟨Nat.le_refl _, Nat.le_refl _, ⟨z1, z2⟩, ?_⟩, fun k => fz (nR fun hc => of_decide_eq_false k hc.2.2.2.2.2.2.2.2.2.2.1)⟩, fun k => fz (nR fun hc => of_decide_eq_false k hc.2.2.2.2.2.2.2.2.2.1)⟩, fun k => fz (nR fun hc => bneB k hc.2.2.2.2.2.2.2.2.1)⟩, fun k => fz (nR fun hc => of_decide_eq_false k hc.2.2.2.2.2.2.2.1)⟩, fun k => fz (nR fun hc => of_decide_eq_false k hc.2.2.2.2.2.2.1)⟩, fun k => fz (nR fun hc => bneB k hc.2.2.2.2.2.1)⟩, fun k => fz (nR fun hc => bneB k hc.2.2.2.2.1)⟩, fun k => fz (nR fun hc => of_decide_eq_false k hc.2.2.2.1)⟩, fun k => fz (nR fun hc => bneB k hc.2.2.1)⟩, fun k => fz (nR fun hc => of_decide_eq_false k hc.2.1)⟩, fun k => fz (nR fun hc => bneB k hc.1)⟩⟩
   erw [h1, h2, hsm]
   cases D with
   | true =>
    have : R = true := hR.2 ⟨beqB e1, of_decide_eq_true e2, beqB e3, of_decide_eq_true e4, beqB e5, beqB e6, of_decide_eq_true e7, of_decide_eq_true e8, beqB e9, of_decide_eq_true e10, of_decide_eq_true e11, of_decide_eq_true hd, ht⟩
    rw [this]; exact rfl
   | false => exact fz (nR fun hc => of_decide_eq_false hd hc.2.2.2.2.2.2.2.2.2.2.2.1)
  | succ d ih =>
   intro i hi ht
   obtain ⟨p0, p1⟩ := sak_at (l := sk) (i := i) (by omega)
   obtain ⟨r0, r1⟩ := sak_at (l := sj) (i := i) (by omega)
   refine vc92a hX _ _ _ _ _ _ _ _ _ _ _ _ _ _ _ _ _ _ _ _ _ _ _ _ _ _ _ _ _ _ _ _ _ _ _ _ _ _ _ _ _ _ _ _ _ _ _ _ _ _ _ ⟨fun _ => ?_, fun h => absurd (show ¬ ((i:Int) < (sk.length:Int)) from of_decide_eq_false h) (by omega)⟩
   rw [p0, p1, r0, r1]
   simp only [asU32, same2]
   have q1 : (i:Int) < (sk.length:Int) := by omega
   have q2 : (i:Int) < (sj.length:Int) := by omega
   refine ⟨⟨by omega, q1⟩, trivial, trivial, ⟨by omega, q2⟩, trivial, trivial, ⟨fit2 _ _, fit2 _ _⟩, fun k => fz (nR fun hc => ?_), fun k => ⟨by unfold in64; omega, f1, f2, ⟨?_⟩⟩⟩
   ·have e : sk = sj := hc.2.2.2.2.2.2.2.2.2.2.2.2
    subst e
    simp at k
   ·rw [show ((i:Nat):Int) + 1 = ((i + 1:Nat):Int) by omega]
    refine ih (i + 1) (by omega) ?_
    have k := of_decide_eq_true (bnf k)
    have e : sk[i]'(by omega) = sj[i]'(by omega) := Prod.ext k.1 k.2
    rw [List.take_add_one, List.take_add_one, ht, List.getElem?_eq_getElem (by omega), List.getElem?_eq_getElem (by omega), e]
 refine vc92 hX _ _ _ _ _ _ _ _ _ _ _ _ _ _ _ _ _ _ _ _ _ _ _ _ _ _ _ _ _ _ _ _ _ _ _ _ _ _ _ _ _ _ _ _ _ _ _ _ _ _ ⟨fun h => fz (nR fun hc => ?_), fun h => ⟨f1, f2, ⟨KL ?_ sk.length 0 (by omega) rfl⟩⟩⟩
 ·have e : sk = sj := hc.2.2.2.2.2.2.2.2.2.2.2.2
  subst e
  simp at h
 ·have : (sk.length:Int) = (sj.length:Int) := of_decide_eq_true (bnf h)
  omega
def farB (g : Sg) : Bool := (decide (300 < g.data.length) && decide (g.data.length ≤ 16384)) || decide (500 < g.op.sacks.length) || decide (20000 < g.data.length)
theorem s31 (g : Sg) (hl : g.op.mac.length = 12) : Spec Try.prog 31 [.agg (sgC g)] [] (Is (.one (.b (farB g)))) := by
 generalize hR : farB g = R
 unfold farB at hR
 obtain ⟨e1, e2, e3, e4, e5, e6, e7, ⟨a1, a2, a3, a4, a5, a6, a7, a8, a9, b1, b2, mc, sk⟩, dt⟩ := g
 obtain ⟨c0, c1, c2, c3, c4, c5, c6, c7, c8, c9, d0, d1, rfl⟩ := twelve hl
 dsimp only at hR
 have T : R = true → Is (.one (.b R)) (.one (.b true)) [] := fun e => by rw [e]; exact rfl
 refine Spec.of_run ok31 fun X hX => vc31 hX _ _ _ _ _ _ _ _ _ _ _ _ _ _ _ _ _ _ _ _ _ _ _ _ _ _ _ _ _ _ _ _ _ _ ⟨fun h => ⟨fun h2 => T ?_, fun h2 => ⟨fun h3 => T ?_, fun h3 => ?_⟩⟩, fun h => ⟨fun h3 => T ?_, fun h3 => ?_⟩⟩
 ·have h : (300:Int) < (dt.length:Int) := of_decide_eq_true h
  have h2 : (dt.length:Int) ≤ 16384 := of_decide_eq_true h2
  rw [← hR, decide_eq_true (show 300 < dt.length by omega), decide_eq_true (show dt.length ≤ 16384 by omega)]; rfl
 ·have h3 : (500:Int) < (sk.length:Int) := of_decide_eq_true h3
  rw [← hR, decide_eq_true (show 500 < sk.length by omega), Bool.or_true, Bool.true_or]
 ·have h2 : ¬ (dt.length:Int) ≤ 16384 := of_decide_eq_false h2
  have h3 : ¬ (500:Int) < (sk.length:Int) := of_decide_eq_false h3
  rw [← hR, decide_eq_false (show ¬ dt.length ≤ 16384 by omega), decide_eq_false (show ¬ 500 < sk.length by omega), Bool.and_false, Bool.false_or, Bool.false_or]
  exact congrArg (fun z => O1 (Bb z)) (decide_eq_decide.2 (show (20000:Int) < (dt.length:Int) ↔ 20000 < dt.length by omega))
 ·have h3 : (500:Int) < (sk.length:Int) := of_decide_eq_true h3
  rw [← hR, decide_eq_true (show 500 < sk.length by omega), Bool.or_true, Bool.true_or]
 ·have h : ¬ (300:Int) < (dt.length:Int) := of_decide_eq_false h
  have h3 : ¬ (500:Int) < (sk.length:Int) := of_decide_eq_false h3
  rw [← hR, decide_eq_false (show ¬ 300 < dt.length by omega), decide_eq_false (show ¬ 500 < sk.length by omega), Bool.false_and, Bool.false_or, Bool.false_or]
  exact congrArg (fun z => O1 (Bb z)) (decide_eq_decide.2 (show (20000:Int) < (dt.length:Int) ↔ 20000 < dt.length by omega))
noncomputable def TV21 : Tab := fun f xs => match f, xs with
 | 31, [.agg cs] => some ([IsSg cs], .one (.b (farB (sgOf (nrL cs)))))
 | 92, [.agg cs, .agg ds] => some ([IsO cs ∧ IsO ds ∧ (oOf (nrL cs)).sacks.length ≤ 1000000], .one (.b (sameO (oOf (nrL cs)) (oOf (nrL ds)))))
 | f, xs => TV20 f xs
theorem TV21_ok : TabOk Try.prog TV21 := by
 intro f xs cs r h hc
 unfold TV21 at h
 split at h
 ·obtain ⟨rfl, rfl⟩ := Prod.mk.inj (Option.some.inj h)
  rename_i cs
  have := s31 (sgOf (nrL cs)) hc.1.len
  rw [← hc.1.eq] at this
  exact ⟨⟨_, _, ok31⟩, Spec.nr this, rfl⟩
 ·obtain ⟨rfl, rfl⟩ := Prod.mk.inj (Option.some.inj h)
  rename_i cs ds
  obtain ⟨h1, h2, h3⟩ := hc.1
  have := s92 (oOf (nrL cs)) (oOf (nrL ds)) h1.len h2.len h3
  rw [← h1.eq, ← h2.eq] at this
  exact ⟨⟨_, _, ok92⟩, Spec.nr this, rfl⟩
 ·exact TV20_ok _ _ _ _ h hc
theorem vc35 {X : Ctx} {Q : AV->Mem->Prop} (hX : X.P=Try.prog) (e1 e2:BitVec 16) (e3 e4:BitVec 32) (e5:BitVec 8) (e6 e7:BitVec 16) (a1 : Bool) (a2:BitVec 16) (a3 : Bool) (a4:BitVec 8) (a5 : Bool) (kr : List AC) (kn:Nat) (a6 : Bool) (a7 a8:BitVec 32) (a9 : Bool) (b1 b2 c0 c1 c2 c3 c4 c5 c6 c7 c8 c9 d0 d1:BitVec 8) (dr : List AC) (dn:Nat) (i1 i2:BitVec 16) (i3 i4:BitVec 32) (i5:BitVec 8) (i6 i7:BitVec 16) (f1 : Bool) (f2:BitVec 16) (f3 : Bool) (f4:BitVec 8) (f5 : Bool) (jr : List AC) (jn:Nat) (f6 : Bool) (f7 f8:BitVec 32) (f9 : Bool) (g1 g2 m0 m1 m2 m3 m4 m5 m6 m7 m8 m9 n0 n1:BitVec 8) (lr : List AC) (ln:Nat) (h : U16 e1=U16 e1/\U16 i1=U16 i1/\(decide (e1=i1)=true->U16 e2=U16 e2/\U16 i2=U16 i2/\(decide (e2=i2)=true->U32 e3=U32 e3/\U32 i3=U32 i3/\(decide (e3=i3)=true->U32 e4=U32 e4/\U32 i4=U32 i4/\(decide (e4=i4)=true->U8 e5=U8 e5/\U8 i5=U8 i5/\(decide (e5=i5)=true->U16 e6=U16 e6/\U16 i6=U16 i6/\(decide (e6=i6)=true->U16 e7=U16 e7/\U16 i7=U16 i7/\(decide (e7=i7)=true->(IsO [Bb a1,U16 a2,Bb a3,U8 a4,Bb a5,XS kr 0 kn,Bb a6,U32 a7,U32 a8,Bb a9,U8 b1,U8 b2,U8 c0,U8 c1,U8 c2,U8 c3,U8 c4,U8 c5,U8 c6,U8 c7,U8 c8,U8 c9,U8 d0,U8 d1]/\IsO [Bb f1,U16 f2,Bb f3,U8 f4,Bb f5,XS jr 0 jn,Bb f6,U32 f7,U32 f8,Bb f9,U8 g1,U8 g2,U8 m0,U8 m1,U8 m2,U8 m3,U8 m4,U8 m5,U8 m6,U8 m7,U8 m8,U8 m9,U8 n0,U8 n1]/\List.length (Op.sacks (oOf (nrL [Bb a1,U16 a2,Bb a3,U8 a4,Bb a5,XS kr 0 kn,Bb a6,U32 a7,U32 a8,Bb a9,U8 b1,U8 b2,U8 c0,U8 c1,U8 c2,U8 c3,U8 c4,U8 c5,U8 c6,U8 c7,U8 c8,U8 c9,U8 d0,U8 d1])))<=1000000)/\(sameO (oOf (nrL [Bb a1,U16 a2,Bb a3,U8 a4,Bb a5,XS kr 0 kn,Bb a6,U32 a7,U32 a8,Bb a9,U8 b1,U8 b2,U8 c0,U8 c1,U8 c2,U8 c3,U8 c4,U8 c5,U8 c6,U8 c7,U8 c8,U8 c9,U8 d0,U8 d1])) (oOf (nrL [Bb f1,U16 f2,Bb f3,U8 f4,Bb f5,XS jr 0 jn,Bb f6,U32 f7,U32 f8,Bb f9,U8 g1,U8 g2,U8 m0,U8 m1,U8 m2,U8 m3,U8 m4,U8 m5,U8 m6,U8 m7,U8 m8,U8 m9,U8 n0,U8 n1]))=true->0+dn*1<=List.length dr/\allU8 (take (dn*1) (drop 0 dr))/\0+ln*1<=List.length lr/\allU8 (take (ln*1) (drop 0 lr))/\Q (O1 (Bb (decide (List.map asU8 (take (dn*1) (drop 0 dr))=List.map asU8 (take (ln*1) (drop 0 lr)))))) [])/\(sameO (oOf (nrL [Bb a1,U16 a2,Bb a3,U8 a4,Bb a5,XS kr 0 kn,Bb a6,U32 a7,U32 a8,Bb a9,U8 b1,U8 b2,U8 c0,U8 c1,U8 c2,U8 c3,U8 c4,U8 c5,U8 c6,U8 c7,U8 c8,U8 c9,U8 d0,U8 d1])) (oOf (nrL [Bb f1,U16 f2,Bb f3,U8 f4,Bb f5,XS jr 0 jn,Bb f6,U32 f7,U32 f8,Bb f9,U8 g1,U8 g2,U8 m0,U8 m1,U8 m2,U8 m3,U8 m4,U8 m5,U8 m6,U8 m7,U8 m8,U8 m9,U8 n0,U8 n1]))=false->Q (O1 (Bb false)) []))/\(decide (e7=i7)=false->Q (O1 (Bb false)) []))/\(decide (e6=i6)=false->Q (O1 (Bb false)) []))/\(decide (e5=i5)=false->Q (O1 (Bb false)) []))/\(decide (e4=i4)=false->Q (O1 (Bb false)) []))/\(decide (e3=i3)=false->Q (O1 (Bb false)) []))/\(decide (e2=i2)=false->Q (O1 (Bb false)) []))/\(decide (e1=i1)=false->Q (O1 (Bb false)) [])) : KRun X 35 0 Q ([.code (bodyOf Try.f35)]) (slots [.agg [.u16 e1, .u16 e2, .u32 e3, .u32 e4, .u8 e5, .u16 e6, .u16 e7, .b a1, .u16 a2, .b a3, .u8 a4, .b a5, .xs kr 0 kn, .b a6, .u32 a7, .u32 a8, .b a9, .u8 b1, .u8 b2, .u8 c0, .u8 c1, .u8 c2, .u8 c3, .u8 c4, .u8 c5, .u8 c6, .u8 c7, .u8 c8, .u8 c9, .u8 d0, .u8 d1, .xs dr 0 dn], .agg [.u16 i1, .u16 i2, .u32 i3, .u32 i4, .u8 i5, .u16 i6, .u16 i7, .b f1, .u16 f2, .b f3, .u8 f4, .b f5, .xs jr 0 jn, .b f6, .u32 f7, .u32 f8, .b f9, .u8 g1, .u8 g2, .u8 m0, .u8 m1, .u8 m2, .u8 m3, .u8 m4, .u8 m5, .u8 m6, .u8 m7, .u8 m8, .u8 m9, .u8 n0, .u8 n1, .xs lr 0 ln]] Try.f35.ntmps) [] :=
 wpRun_ok (hX ▸ envP_ok TV21 mfV8 MV8) (hX ▸ envP_call TV21_ok MV8_ok) (hX ▸ mixed) (hX ▸ ok35) LK_ok (cast (β := wpRun (envP TV21 mfV8 MV8) [9, 15, 22, 29, 36, 43, 50, 57] [] false (RS.mk Try.f35.results.toList 0 (CS.mk [] [] [] [])) (LK X 35 0 Q true []) Q 2000 _ _ _) (by kernel_rfl) h)
noncomputable def sameS (a b : Sg) : Bool := @decide (a = b) (Classical.propDecidable _)
theorem s35 (a b : Sg) (hl : a.op.mac.length = 12) (hl' : b.op.mac.length = 12) (hk : a.op.sacks.length ≤ 1000000) : Spec Try.prog 35 [.agg (sgC a), .agg (sgC b)] [] (Is (.one (.b (sameS a b)))) := by
 have hI := isO_C hl
 have hI' := isO_C hl'
 have hO := oOf_C hl
 have hO' := oOf_C hl'
 have hR : sameS a b = true ↔ a = b := @decide_eq_true_iff _ (Classical.propDecidable _)
 have hP : sameO a.op b.op = true ↔ a.op = b.op := @decide_eq_true_iff _ (Classical.propDecidable _)
 generalize sameS a b = R at *
 generalize hS : sameO a.op b.op = S at *
 obtain ⟨e1, e2, e3, e4, e5, e6, e7, oa, da⟩ := a
 obtain ⟨i1, i2, i3, i4, i5, i6, i7, ob, db⟩ := b
 dsimp only at hl hl' hk hP hI hI' hO hO' hS
 simp only [Sg.mk.injEq] at hR
 have fz : R = false → Is (.one (.b R)) (.one (.b false)) [] := fun e => by rw [e]; exact rfl
 have nR : ¬ (e1 = i1 ∧ e2 = i2 ∧ e3 = i3 ∧ e4 = i4 ∧ e5 = i5 ∧ e6 = i6 ∧ e7 = i7 ∧ oa = ob ∧ da = db) → R = false := fun h => by
  cases R with
  | false => rfl
  | true => exact absurd (hR.1 rfl) h
 obtain ⟨a1, a2, a3, a4, a5, a6, a7, a8, a9, b1, b2, mc, sk⟩ := oa
 obtain ⟨f1, f2, f3, f4, f5, f6, f7, f8, f9, g1, g2, me, sj⟩ := ob
 obtain ⟨c0, c1, c2, c3, c4, c5, c6, c7, c8, c9, d0, d1, rfl⟩ := twelve hl
 obtain ⟨m0, m1, m2, m3, m4, m5, m6, m7, m8, m9, n0, n1, rfl⟩ := twelve hl'
 refine Spec.of_run ok35 fun X hX => vc35 hX _ _ _ _ _ _ _ _ _ _ _ _ _ _ _ _ _ _ _ _ _ _ _ _ _ _ _ _ _ _ _ _ _ _ _ _ _ _ _ _ _ _ _ _ _ _ _ _ _ _ _ _ _ _ _ _ _ _ _ _ _ _ _ _ _ _ _ _ ⟨rfl, rfl, fun q1 => ⟨rfl, rfl, fun q2 => ⟨rfl, rfl, fun q3 => ⟨rfl, rfl, fun q4 => ⟨rfl, rfl, fun q5 => ⟨rfl, rfl, fun q6 => ⟨rfl, rfl, fun q7 => ⟨⟨hI, hI', ?_⟩, fun q8 => ?_, fun q8 => ?_⟩, fun k => fz (nR fun hc => of_decide_eq_false k hc.2.2.2.2.2.2.1)⟩, fun k => fz (nR fun hc => of_decide_eq_false k hc.2.2.2.2.2.1)⟩, fun k => fz (nR fun hc => of_decide_eq_false k hc.2.2.2.2.1)⟩, fun k => fz (nR fun hc => of_decide_eq_false k hc.2.2.2.1)⟩, fun k => fz (nR fun hc => of_decide_eq_false k hc.2.2.1)⟩, fun k => fz (nR fun hc => of_decide_eq_false k hc.2.1)⟩, fun k => fz (nR fun hc => of_decide_eq_false k hc.1)⟩
 ·erw [hO]; exact hk
 ·erw [hO, hO', hS] at q8
  rw [tk da, tk db, map_as8, map_as8]
  refine ⟨by rw [List.length_map]; exact Nat.le_of_eq (by rw [Nat.zero_add, Nat.mul_one]), allU8_map _, by rw [List.length_map]; exact Nat.le_of_eq (by rw [Nat.zero_add, Nat.mul_one]), allU8_map _, ?_⟩
  by_cases hd : da = db
  ·rw [decide_eq_true hd]
   have : R = true := hR.2 ⟨of_decide_eq_true q1, of_decide_eq_true q2, of_decide_eq_true q3, of_decide_eq_true q4, of_decide_eq_true q5, of_decide_eq_true q6, of_decide_eq_true q7, hP.1 q8, hd⟩
   rw [this]; exact rfl
  ·rw [decide_eq_false hd]
   exact fz (nR fun hc => hd hc.2.2.2.2.2.2.2.2)
 ·erw [hO, hO', hS] at q8
  exact fz (nR fun hc => by rw [hP.2 hc.2.2.2.2.2.2.2.1] at q8; cases q8)
noncomputable def TV22 : Tab := fun f xs => match f, xs with
 | 35, [.agg cs, .agg ds] => some ([IsSg cs ∧ IsSg ds ∧ (sgOf (nrL cs)).op.sacks.length ≤ 1000000], .one (.b (sameS (sgOf (nrL cs)) (sgOf (nrL ds)))))
 | f, xs => TV21 f xs
theorem TV22_ok : TabOk Try.prog TV22 := by
 intro f xs cs r h hc
 unfold TV22 at h
 split at h
 ·obtain ⟨rfl, rfl⟩ := Prod.mk.inj (Option.some.inj h)
  rename_i cs ds
  obtain ⟨h1, h2, h3⟩ := hc.1
  have := s35 (sgOf (nrL cs)) (sgOf (nrL ds)) h1.len h2.len h3
  rw [← h1.eq, ← h2.eq] at this
  exact ⟨⟨_, _, ok35⟩, Spec.nr this, rfl⟩
 ·exact TV21_ok _ _ _ _ h hc
theorem zz16 : List.map asU8 (replicate 16 (U8 0)) = z16k := rfl
theorem far_sk {g : Sg} (h : farB g = false) : g.op.sacks.length ≤ 1000000 := by
 unfold farB at h
 simp only [Bool.or_eq_false_iff, decide_eq_false_iff_not] at h
 have := h.1.2
 omega
end DH
noncomputable section
namespace DH
set_option maxRecDepth 100000
open List (take drop replicate)
open AC renaming u8 → U8, u16 → U16, u32 → U32, u64 → U64, i64 → I64, b → Bb, xs → XS, gs → GS, sv → SV, ptr → PT, any → AY, ns → NS
open AV renaming one → O1, agg → AG, tup → TU
open Go Go.Proofs
def shBlk : Sh := .st (.cons .u32 (.cons .u32 .nil))
def shOpt : Sh := .st (.cons .bool (.cons .u16 (.cons .bool (.cons .u8 (.cons .bool (.cons (.sl shBlk) (.cons .bool (.cons .u32 (.cons .u32 (.cons .bool (.cons .u8 (.cons .u8 (.cons (.ar 12 .u8) .nil)))))))))))))
def shSeg : Sh := .st (.cons .u16 (.cons .u16 (.cons .u32 (.cons .u32 (.cons .u8 (.cons .u16 (.cons .u16 (.cons shOpt (.cons (.sl .u8) .nil)))))))))
abbrev Bl := BitVec 32 × BitVec 32 × Unit
def blP (l : List Bl) : List (BitVec 32 × BitVec 32) := l.map fun x => (x.1, x.2.1)
theorem encBlk : ∀ l : List Bl, List.flatMap (fun x : Bl => [U32 x.1] ++ ([U32 x.2.1] ++ [])) l = sakC (blP l)
 | [] => rfl
 | x :: l => by
  rw [List.flatMap_cons, encBlk l]
  rfl
theorem blP_len (l : List Bl) : (blP l).length = l.length := List.length_map _
def toOp (y : shOpt.T) : Op := ⟨y.1, y.2.1, y.2.2.1, y.2.2.2.1, y.2.2.2.2.1, y.2.2.2.2.2.2.1, y.2.2.2.2.2.2.2.1, y.2.2.2.2.2.2.2.2.1, y.2.2.2.2.2.2.2.2.2.1, y.2.2.2.2.2.2.2.2.2.2.1, y.2.2.2.2.2.2.2.2.2.2.2.1, y.2.2.2.2.2.2.2.2.2.2.2.2.1, blP y.2.2.2.2.2.1⟩
theorem encOpt' (a1 : Bool) (a2:BitVec 16) (a3 : Bool) (a4:BitVec 8) (a5 : Bool) (l : List Bl) (a6 : Bool) (a7 a8:BitVec 32) (a9 : Bool) (b1 b2:BitVec 8) (mc : List (BitVec 8)) :
  [Bb a1] ++ ([U16 a2] ++ ([Bb a3] ++ ([U8 a4] ++ ([Bb a5] ++ ([XS (List.flatMap (fun x : Bl => [U32 x.1] ++ ([U32 x.2.1] ++ [])) l) 0 l.length] ++ ([Bb a6] ++ ([U32 a7] ++ ([U32 a8] ++ ([Bb a9] ++ ([U8 b1] ++ ([U8 b2] ++ (List.flatMap (Sh.enc .u8) mc ++ [])))))))))))) = opC ⟨a1, a2, a3, a4, a5, a6, a7, a8, a9, b1, b2, mc, blP l⟩ := by
 rw [encBlk, fm_u8, List.append_nil, ← blP_len l]
 rfl
theorem encOpt (y : shOpt.T) : shOpt.enc y = opC (toOp y) := encOpt' y.1 y.2.1 y.2.2.1 y.2.2.2.1 y.2.2.2.2.1 y.2.2.2.2.2.1 y.2.2.2.2.2.2.1 y.2.2.2.2.2.2.2.1 y.2.2.2.2.2.2.2.2.1 y.2.2.2.2.2.2.2.2.2.1 y.2.2.2.2.2.2.2.2.2.2.1 y.2.2.2.2.2.2.2.2.2.2.2.1 y.2.2.2.2.2.2.2.2.2.2.2.2.1
theorem wfOpt {y : shOpt.T} (h : shOpt.wf y) : (toOp y).mac.length = 12 := by
 obtain ⟨a1, a2, a3, a4, a5, l, a6, a7, a8, a9, b1, b2, mc, _⟩ := y
 exact h.2.2.2.2.2.2.2.2.2.2.2.2.1.1
def toSg (y : shSeg.T) : Sg := ⟨y.1, y.2.1, y.2.2.1, y.2.2.2.1, y.2.2.2.2.1, y.2.2.2.2.2.1, y.2.2.2.2.2.2.1, toOp y.2.2.2.2.2.2.2.1, y.2.2.2.2.2.2.2.2.1⟩
theorem encSeg' (e1 e2:BitVec 16) (e3 e4:BitVec 32) (e5:BitVec 8) (e6 e7:BitVec 16) (o : Op) (d : List (BitVec 8)) :
  [U16 e1] ++ ([U16 e2] ++ ([U32 e3] ++ ([U32 e4] ++ ([U8 e5] ++ ([U16 e6] ++ ([U16 e7] ++ (opC o ++ ([XS (List.flatMap (Sh.enc .u8) d) 0 d.length] ++ [])))))))) = sgC ⟨e1, e2, e3, e4, e5, e6, e7, o, d⟩ := by
 rw [fm_u8]
 rfl
theorem encSeg (y : shSeg.T) : shSeg.enc y = sgC (toSg y) := by
 have := encSeg' y.1 y.2.1 y.2.2.1 y.2.2.2.1 y.2.2.2.2.1 y.2.2.2.2.2.1 y.2.2.2.2.2.2.1 (toOp y.2.2.2.2.2.2.2.1) y.2.2.2.2.2.2.2.2.1
 rw [← encOpt] at this
 exact this
theorem wfSeg {y : shSeg.T} (h : shSeg.wf y) : (toSg y).op.mac.length = 12 := by
 obtain ⟨e1, e2, e3, e4, e5, e6, e7, o, d, _⟩ := y
 exact wfOpt h.2.2.2.2.2.2.2.1
end DH
noncomputable section
namespace DH
set_option maxRecDepth 100000
open List (take drop replicate)
open AC renaming u8 → U8, u16 → U16, u32 → U32, u64 → U64, i64 → I64, b → Bb, xs → XS, gs → GS, sv → SV, ptr → PT, any → AY, ns → NS
open AV renaming one → O1, agg → AG, tup → TU
open Go Go.Proofs
theorem ok34 : FnOk Try.prog 34 Try.f34 (bodyOf Try.f34) := .of Try.func34 (by kernel_rfl) (by kernel_rfl)
theorem ok3 : FnOk Try.prog 3 Try.f3 (bodyOf Try.f3) := .of Try.func3 (by kernel_rfl) (by kernel_rfl)
theorem vc34 {X : Ctx} {Q : AV->Mem->Prop} (hX : X.P=Try.prog) (a:Int) (r1 r2 : List AC) (n1 n2:Nat) (c : Bool) (h : I64 a=I64 a/\flatAV (AG [I64 a,XS r1 0 n1,XS r2 0 n2,Bb c])/\Q (AG [I64 a,XS r1 0 n1,XS r2 0 n2,Bb c]) []) : KRun X 34 0 Q ([.code (bodyOf Try.f34)]) (slots [.agg [.i64 a, .xs r1 0 n1, .xs r2 0 n2, .b c]] Try.f34.ntmps) [] :=
 wpRun_ok (hX ▸ envP_ok TV22 mfV8 MV8) (hX ▸ envP_call TV22_ok MV8_ok) (hX ▸ mixed) (hX ▸ ok34) LK_ok (cast (β := wpRun (envP TV22 mfV8 MV8) [] [] false (RS.mk Try.f34.results.toList 0 (CS.mk [] [] [0] [])) (LK X 34 0 Q true []) Q 2000 _ _ _) (by kernel_rfl) h)
theorem s34 (a:Int) (r1 r2 : List AC) (n1 n2:Nat) (c : Bool) : Spec Try.prog 34 [.agg [.i64 a, .xs r1 0 n1, .xs r2 0 n2, .b c]] [] (Are (.agg [.i64 a, .xs r1 0 n1, .xs r2 0 n2, .b c]) []) := by
 refine Spec.of_run ok34 fun X hX => vc34 hX _ _ _ _ _ _ ?_
 (repeat' (first | exact trivial | exact flatLB_ok rfl | exact rfl | exact Nat.le_refl _ | refine And.intro ?_ ?_)) <;> omega
noncomputable def MV10 : TabM := fun f xs m => match f, xs, m with
 | 34, [.agg [.i64 a, .xs r1 0 n1, .xs r2 0 n2, .b c]], [] => some ([], .agg [.i64 a, .xs r1 0 n1, .xs r2 0 n2, .b c], [])
 | f, xs, m => MV8 f xs m
noncomputable def mfV10 : FuncId → Option MF := fun f => match f with
 | 34 => some { cs := { kinds := [], fl := [] }, flo := [], rf := true }
 | f => mfV8 f
theorem MV10_ok : TabMOk Try.prog MV10 := by
 intro f xs m0 cs r m1 h hc
 unfold MV10 at h
 split at h
 ·simp only [Option.some.injEq, Prod.mk.injEq] at h; obtain ⟨rfl, rfl, rfl⟩ := h
  exact ⟨⟨_, _, ok34⟩, s34 _ _ _ _ _ _⟩
 ·exact MV8_ok _ _ _ _ _ _ h hc
def symW (t : TypeId) : Bool := match t with | 4 => true | t => symV t
noncomputable def envW (T : Tab) (mf : FuncId → Option MF) (M : TabM) : Env := ⟨tys, symW, false, T, [], mf, M, fun _ => none⟩
theorem envW_ok (T : Tab) (mf : FuncId → Option MF) (M : TabM) : EnvOk Try.prog (envW T mf M) := EnvOk.of tysOk
theorem envW_call {T : Tab} {mf : FuncId → Option MF} {M : TabM} (hT : TabOk Try.prog T) (hM : TabMOk Try.prog M) : CallOk Try.prog (envW T mf M) :=
 ⟨hT, fun f mf xs m0 cs r m1 _ h hc => hM f xs m0 cs r m1 h hc, (by intro f k h; cases h)⟩
theorem vc3c {X : Ctx} {Q : AV->Mem->Prop} (hX : X.P=Try.prog) (a:Int) (r1 r2 : List AC) (n1 n2:Nat) (c : Bool) (sg xg yg og : List AC) (e:Int) (h : (fun L0 : Prop=>(fun L1 : Prop=>(fun L2 : Prop=>(fun L3 : Prop=>(fun L4 : Prop=>(fun L5 : Prop=>(fun L6 : Prop=>((!decide (e=(0:Int)))=true->Q (O1 (Bb false)) [])/\((!decide (e=(0:Int)))=false->32<=List.length xg/\32<=List.length yg/\Flat (take 32 (drop 0 xg))/\Flat (take 32 (drop 0 yg))/\(IsSg (take 32 (drop 0 xg))/\IsSg (take 32 (drop 0 yg))/\List.length (Op.sacks (Sg.op (sgOf (nrL (take 32 (drop 0 xg))))))<=1000000)/\(sameS (sgOf (nrL (take 32 (drop 0 xg)))) (sgOf (nrL (take 32 (drop 0 yg))))=true->(gt AY sg 17=U8 (asU8 (gt AY sg 17))/\(gt AY sg 18=U8 (asU8 (gt AY sg 18))/\(31<=List.length sg/\(1=1/\10<=List.length og)/\L2)/\(1=1/\10<=List.length og)/\L4)/\(31<=List.length sg/\(gt AY sg 18=U8 (asU8 (gt AY sg 18))/\(1=1/\10<=List.length og)/\L2)/\(1=1/\10<=List.length og)/\L3)/\(1=1/\10<=List.length og)/\L5)/\(gt AY sg 18=U8 (asU8 (gt AY sg 18))/\(gt AY sg 17=U8 (asU8 (gt AY sg 17))/\(31<=List.length sg/\(1=1/\10<=List.length og)/\L2)/\(1=1/\10<=List.length og)/\L4)/\(31<=List.length sg/\L6)/\(1=1/\10<=List.length og)/\gt AY sg 17=U8 (asU8 (gt AY sg 17))/\L4)/\(31<=List.length sg/\(gt AY sg 17=U8 (asU8 (gt AY sg 17))/\(gt AY sg 18=U8 (asU8 (gt AY sg 18))/\(1=1/\10<=List.length og)/\L2)/\(1=1/\10<=List.length og)/\L3)/\(gt AY sg 18=U8 (asU8 (gt AY sg 18))/\L6)/\(1=1/\10<=List.length og)/\gt AY sg 17=U8 (asU8 (gt AY sg 17))/\L3)/\(1=1/\10<=List.length og)/\gt AY sg 17=U8 (asU8 (gt AY sg 17))/\L5)/\(sameS (sgOf (nrL (take 32 (drop 0 xg)))) (sgOf (nrL (take 32 (drop 0 yg))))=false->Q (O1 (Bb false)) []))) ((gt AY sg 17=U8 (asU8 (gt AY sg 17))/\(1=1/\10<=List.length og)/\L2)/\(1=1/\10<=List.length og)/\gt AY sg 17=U8 (asU8 (gt AY sg 17))/\L2)) ((gt AY sg 18=U8 (asU8 (gt AY sg 18))/\L4)/\(31<=List.length sg/\L3)/\(1=1/\11<=List.length (layS og 9 [cvC (Value.bool true)]))/\gt AY sg 18=U8 (asU8 (gt AY sg 18))/\(31<=List.length sg/\(L1)/\L0)/\(L1)/\31<=List.length sg/\L0)) ((31<=List.length sg/\L2)/\(1=1/\11<=List.length (layS og 9 [cvC (Value.bool true)]))/\(31<=List.length sg/\(L1)/\L0)/\(L1)/\31<=List.length sg/\L0)) ((gt AY sg 18=U8 (asU8 (gt AY sg 18))/\L2)/\(1=1/\11<=List.length (layS og 9 [cvC (Value.bool true)]))/\gt AY sg 18=U8 (asU8 (gt AY sg 18))/\(L1)/\L0)) ((1=1/\11<=List.length (layS og 9 [cvC (Value.bool true)]))/\(L1)/\L0)) (1=1/\12<=List.length (layS (layS og 9 [cvC (Value.bool true)]) 10 [U8 (asU8 (gt AY sg 17))]))) ((List.length (take 12 (drop 19 sg))=12/\24<=List.length (layS (layS (layS og 9 [cvC (Value.bool true)]) 10 [U8 (asU8 (gt AY sg 17))]) 11 [U8 (asU8 (gt AY sg 18))]))/\Flat [I64 a,XS r1 0 n1,XS r2 0 n2,Bb c]/\Flat sg/\Flat (layS (layS (layS (layS og 9 [cvC (Value.bool true)]) 10 [U8 (asU8 (gt AY sg 17))]) 11 [U8 (asU8 (gt AY sg 18))]) 12 (take 12 (drop 19 sg)))/\Flat xg/\KR X 3 0 Q (kCut Try.f3 9) (mkS 105 [(3,O1 (PT 0 0)),(4,O1 (PT 1 0)),(5,O1 (PT 2 0)),(7,O1 (PT 3 0))]) [some [I64 a,XS r1 0 n1,XS r2 0 n2,Bb c],some sg,some (layS (layS (layS (layS og 9 [cvC (Value.bool true)]) 10 [U8 (asU8 (gt AY sg 17))]) 11 [U8 (asU8 (gt AY sg 18))]) 12 (take 12 (drop 19 sg))),some xg])) : KRun X 3 0 Q (kCut Try.f3 6) (mkS 105 [(3, .one (.ptr 0 0)), (4, .one (.ptr 1 0)), (5, .one (.ptr 2 0)), (7, .one (.ptr 3 0)), (9, .one (.ptr 4 0)), (10, .one (.i64 e))]) [some [.i64 a, .xs r1 0 n1, .xs r2 0 n2, .b c], some sg, some og, some xg, some yg] :=
 wpRun_ok (hX ▸ envW_ok TV22 mfV10 MV10) (hX ▸ envW_call TV22_ok MV10_ok) (hX ▸ mixed) (hX ▸ ok3) LK_ok (cast (β := wpRun (envW TV22 mfV10 MV10) [15, 24, 30, 43, 55, 59, 88, 91, 100] [(3, 1), (6, 1), (9, 10), (12, 1), (100003, 0), (100006, 0), (100009, 0), (100011, 0), (100012, 0), (200003, 0), (200006, 0), (200012, 0)] false (RS.mk Try.f3.results.toList 0 (CS.mk [] [] [] [])) (LK X 3 0 Q true [(4, LS.mk [3, 4, 5, 7, 8] (CS.mk [] [true, true, true, true] [] [])), (7, LS.mk [3, 4, 5, 7, 9, 10] (CS.mk [] [true, true, true, true, true] [] [])), (10, LS.mk [3, 4, 5, 7] (CS.mk [] [true, true, true, true] [] [])), (12, LS.mk [3, 7, 11] (CS.mk [] [true, true, true, true, true] [] [])), (13, LS.mk [3, 7, 12, 13] (CS.mk [] [true, true, true] [] []))]) Q 2000 _ _ _) (by kernel_rfl) h)
theorem vc3b {X : Ctx} {Q : AV->Mem->Prop} (hX : X.P=Try.prog) (a:Int) (r1 r2 : List AC) (n1 n2:Nat) (c : Bool) (sg xg og : List AC) (e:Int) (h : (fun L0 : Prop=>((!decide (e=(0:Int)))=true->Q (O1 (Bb true)) [])/\((!decide (e=(0:Int)))=false->(flatAV (AG [I64 a,XS r1 0 n1,XS r2 0 n2,Bb c])/\32<=List.length xg/\(L0)/\L0)/\(32<=List.length xg/\(flatAV (AG [I64 a,XS r1 0 n1,XS r2 0 n2,Bb c])/\(L0)/\L0)/\flatAV (AG [I64 a,XS r1 0 n1,XS r2 0 n2,Bb c])/\L0)/\(flatAV (AG [I64 a,XS r1 0 n1,XS r2 0 n2,Bb c])/\32<=List.length xg/\L0)/\32<=List.length xg/\flatAV (AG [I64 a,XS r1 0 n1,XS r2 0 n2,Bb c])/\L0)) ((allU8 r1/\List.length r1=n1/\n1<=9223372036854775807/\allU8 r2/\List.length r2=n2/\allU8 (replicate 16 (U8 0))/\16=16/\allU8 (replicate 16 (U8 0))/\16=16/\IsSg (take 32 (drop 0 xg)))/\flatAV (AG ([Bb false]++replicate 16 (U8 0)))/\flatAV (AG ([Bb false]++replicate 16 (U8 0)))/\flatAV (AG (take 32 (drop 0 xg)))/\flatAV (O1 (U32 (BitVec.ofInt 32 7)))/\flatAV (AG (hide (sgC (snG a (List.map asU8 r1) false false (List.map asU8 (replicate 16 (U8 0))) (List.map asU8 (replicate 16 (U8 0))) (sgOf (nrL (take 32 (drop 0 xg)))) (BitVec.ofInt 32 7) c))))/\flatAV (O1 (I64 (snE a (List.map asU8 r1) (sgOf (nrL (take 32 (drop 0 xg)))))))/\(List.length (hide (sgC (snG a (List.map asU8 r1) false false (List.map asU8 (replicate 16 (U8 0))) (List.map asU8 (replicate 16 (U8 0))) (sgOf (nrL (take 32 (drop 0 xg)))) (BitVec.ofInt 32 7) c)))=32/\32<=32)/\Flat [I64 a,XS r1 0 n1,XS r2 0 n2,Bb c]/\Flat sg/\Flat og/\Flat xg/\Flat (layS ([U16 0,U16 0,U32 0,U32 0,U8 0,U16 0,U16 0,Bb false,U16 0,Bb false,U8 0,Bb false,NS,Bb false,U32 0,U32 0,Bb false]++(replicate 14 (U8 0)++[NS])) 0 (hide (sgC (snG a (List.map asU8 r1) false false (List.map asU8 (replicate 16 (U8 0))) (List.map asU8 (replicate 16 (U8 0))) (sgOf (nrL (take 32 (drop 0 xg)))) (BitVec.ofInt 32 7) c))))/\KR X 3 0 Q (kCut Try.f3 6) (mkS 105 [(3,O1 (PT 0 0)),(4,O1 (PT 1 0)),(5,O1 (PT 2 0)),(7,O1 (PT 3 0)),(9,O1 (PT 4 0)),(10,O1 (I64 (snE a (List.map asU8 r1) (sgOf (nrL (take 32 (drop 0 xg)))))))]) [some [I64 a,XS r1 0 n1,XS r2 0 n2,Bb c],some sg,some og,some xg,some (layS ([U16 0,U16 0,U32 0,U32 0,U8 0,U16 0,U16 0,Bb false,U16 0,Bb false,U8 0,Bb false,NS,Bb false,U32 0,U32 0,Bb false]++(replicate 14 (U8 0)++[NS])) 0 (hide (sgC (snG a (List.map asU8 r1) false false (List.map asU8 (replicate 16 (U8 0))) (List.map asU8 (replicate 16 (U8 0))) (sgOf (nrL (take 32 (drop 0 xg)))) (BitVec.ofInt 32 7) c))))])) : KRun X 3 0 Q (kCut Try.f3 3) (mkS 105 [(3, .one (.ptr 0 0)), (4, .one (.ptr 1 0)), (5, .one (.ptr 2 0)), (7, .one (.ptr 3 0)), (8, .one (.i64 e))]) [some [.i64 a, .xs r1 0 n1, .xs r2 0 n2, .b c], some sg, some og, some xg] :=
 wpRun_ok (hX ▸ envV_ok TV22 mfV10 MV10) (hX ▸ envV_call TV22_ok MV10_ok) (hX ▸ mixed) (hX ▸ ok3) LK_ok (cast (β := wpRun (envV TV22 mfV10 MV10) [15, 24, 30, 43, 55, 59, 88, 91, 100] [(3, 1), (6, 1), (9, 10), (12, 1), (100003, 0), (100006, 0), (100009, 0), (100011, 0), (100012, 0), (200003, 0), (200006, 0), (200012, 0)] false (RS.mk Try.f3.results.toList 0 (CS.mk [] [] [] [])) (LK X 3 0 Q true [(4, LS.mk [3, 4, 5, 7, 8] (CS.mk [] [true, true, true, true] [] [])), (7, LS.mk [3, 4, 5, 7, 9, 10] (CS.mk [] [true, true, true, true, true] [] [])), (10, LS.mk [3, 4, 5, 7] (CS.mk [] [true, true, true, true] [] [])), (12, LS.mk [3, 7, 11] (CS.mk [] [true, true, true, true, true] [] [])), (13, LS.mk [3, 7, 12, 13] (CS.mk [] [true, true, true] [] []))]) Q 2000 _ _ _) (by kernel_rfl) h)
def symY (t : TypeId) : Bool := match t with | 30 => true | t => symV t
noncomputable def envY (T : Tab) (mf : FuncId → Option MF) (M : TabM) : Env := ⟨tys, symY, false, T, [], mf, M, fun _ => none⟩
theorem envY_ok (T : Tab) (mf : FuncId → Option MF) (M : TabM) : EnvOk Try.prog (envY T mf M) := EnvOk.of tysOk
theorem envY_call {T : Tab} {mf : FuncId → Option MF} {M : TabM} (hT : TabOk Try.prog T) (hM : TabMOk Try.prog M) : CallOk Try.prog (envY T mf M) :=
 ⟨hT, fun f mf xs m0 cs r m1 _ h hc => hM f xs m0 cs r m1 h hc, (by intro f k h; cases h)⟩
theorem vc3d {X : Ctx} {Q : AV->Mem->Prop} (hX : X.P=Try.prog) (a:Int) (r1 r2 : List AC) (n1 n2:Nat) (c : Bool) (sg xg og : List AC) (h : 32<=List.length sg/\(List.length (take 32 (drop 0 sg))=32/\32<=32)/\24<=List.length og/\(List.length (take 24 (drop 0 og))=24/\31<=List.length (layS ([U16 0,U16 0,U32 0,U32 0,U8 0,U16 0,U16 0,Bb false,U16 0,Bb false,U8 0,Bb false,NS,Bb false,U32 0,U32 0,Bb false]++(replicate 14 (U8 0)++[NS])) 0 (take 32 (drop 0 sg))))/\Flat [I64 a,XS r1 0 n1,XS r2 0 n2,Bb c]/\Flat xg/\Flat (layS (layS ([U16 0,U16 0,U32 0,U32 0,U8 0,U16 0,U16 0,Bb false,U16 0,Bb false,U8 0,Bb false,NS,Bb false,U32 0,U32 0,Bb false]++(replicate 14 (U8 0)++[NS])) 0 (take 32 (drop 0 sg))) 7 (take 24 (drop 0 og)))/\KR X 3 0 Q (kCut Try.f3 11) (mkS 105 [(3,O1 (PT 0 0)),(7,O1 (PT 1 0)),(11,O1 (PT 2 0))]) [some [I64 a,XS r1 0 n1,XS r2 0 n2,Bb c],some xg,some (layS (layS ([U16 0,U16 0,U32 0,U32 0,U8 0,U16 0,U16 0,Bb false,U16 0,Bb false,U8 0,Bb false,NS,Bb false,U32 0,U32 0,Bb false]++(replicate 14 (U8 0)++[NS])) 0 (take 32 (drop 0 sg))) 7 (take 24 (drop 0 og)))]) : KRun X 3 0 Q (kCut Try.f3 9) (mkS 105 [(3, .one (.ptr 0 0)), (4, .one (.ptr 1 0)), (5, .one (.ptr 2 0)), (7, .one (.ptr 3 0))]) [some [.i64 a, .xs r1 0 n1, .xs r2 0 n2, .b c], some sg, some og, some xg] :=
 wpRun_ok (hX ▸ envY_ok TV22 mfV10 MV10) (hX ▸ envY_call TV22_ok MV10_ok) (hX ▸ mixed) (hX ▸ ok3) LK_ok (cast (β := wpRun (envY TV22 mfV10 MV10) [15, 24, 30, 43, 55, 59, 88, 91, 100] [(3, 1), (6, 1), (9, 10), (12, 1), (100003, 0), (100006, 0), (100009, 0), (100011, 0), (100012, 0), (200003, 0), (200006, 0), (200012, 0)] false (RS.mk Try.f3.results.toList 0 (CS.mk [] [] [] [])) (LK X 3 0 Q true [(4, LS.mk [3, 4, 5, 7, 8] (CS.mk [] [true, true, true, true] [] [])), (7, LS.mk [3, 4, 5, 7, 9, 10] (CS.mk [] [true, true, true, true, true] [] [])), (10, LS.mk [3, 4, 5, 7] (CS.mk [] [true, true, true, true] [] [])), (12, LS.mk [3, 7, 11] (CS.mk [] [true, true, true, true, true] [] [])), (13, LS.mk [3, 7, 12, 13] (CS.mk [] [true, true, true] [] []))]) Q 2000 _ _ _) (by kernel_rfl) h)
theorem vc3e {X : Ctx} {Q : AV->Mem->Prop} (hX : X.P=Try.prog) (a:Int) (r1 r2 : List AC) (n1 n2:Nat) (c : Bool) (sg xg : List AC) (h : (fun L0 : Prop=>(flatAV (AG [I64 a,XS r1 0 n1,XS r2 0 n2,Bb c])/\32<=List.length sg/\(L0)/\L0)/\(32<=List.length sg/\(flatAV (AG [I64 a,XS r1 0 n1,XS r2 0 n2,Bb c])/\(L0)/\L0)/\flatAV (AG [I64 a,XS r1 0 n1,XS r2 0 n2,Bb c])/\L0)/\(flatAV (AG [I64 a,XS r1 0 n1,XS r2 0 n2,Bb c])/\32<=List.length sg/\L0)/\32<=List.length sg/\flatAV (AG [I64 a,XS r1 0 n1,XS r2 0 n2,Bb c])/\L0) ((allU8 r1/\List.length r1=n1/\n1<=9223372036854775807/\allU8 r2/\List.length r2=n2/\allU8 (replicate 16 (U8 0))/\16=16/\allU8 (replicate 16 (U8 0))/\16=16/\IsSg (take 32 (drop 0 sg)))/\flatAV (AG ([Bb false]++replicate 16 (U8 0)))/\flatAV (AG ([Bb false]++replicate 16 (U8 0)))/\flatAV (AG (take 32 (drop 0 sg)))/\flatAV (O1 (U32 (BitVec.ofInt 32 7)))/\flatAV (AG (hide (sgC (snG a (List.map asU8 r1) false false (List.map asU8 (replicate 16 (U8 0))) (List.map asU8 (replicate 16 (U8 0))) (sgOf (nrL (take 32 (drop 0 sg)))) (BitVec.ofInt 32 7) c))))/\flatAV (O1 (I64 (snE a (List.map asU8 r1) (sgOf (nrL (take 32 (drop 0 sg)))))))/\(List.length (hide (sgC (snG a (List.map asU8 r1) false false (List.map asU8 (replicate 16 (U8 0))) (List.map asU8 (replicate 16 (U8 0))) (sgOf (nrL (take 32 (drop 0 sg)))) (BitVec.ofInt 32 7) c)))=32/\32<=32)/\Flat [I64 a,XS r1 0 n1,XS r2 0 n2,Bb c]/\Flat xg/\Flat (layS ([U16 0,U16 0,U32 0,U32 0,U8 0,U16 0,U16 0,Bb false,U16 0,Bb false,U8 0,Bb false,NS,Bb false,U32 0,U32 0,Bb false]++(replicate 14 (U8 0)++[NS])) 0 (hide (sgC (snG a (List.map asU8 r1) false false (List.map asU8 (replicate 16 (U8 0))) (List.map asU8 (replicate 16 (U8 0))) (sgOf (nrL (take 32 (drop 0 sg)))) (BitVec.ofInt 32 7) c))))/\KR X 3 0 Q (kCut Try.f3 12) (mkS 105 [(3,O1 (PT 0 0)),(7,O1 (PT 1 0)),(12,O1 (PT 2 0)),(13,O1 (I64 (snE a (List.map asU8 r1) (sgOf (nrL (take 32 (drop 0 sg)))))))]) [some [I64 a,XS r1 0 n1,XS r2 0 n2,Bb c],some xg,some (layS ([U16 0,U16 0,U32 0,U32 0,U8 0,U16 0,U16 0,Bb false,U16 0,Bb false,U8 0,Bb false,NS,Bb false,U32 0,U32 0,Bb false]++(replicate 14 (U8 0)++[NS])) 0 (hide (sgC (snG a (List.map asU8 r1) false false (List.map asU8 (replicate 16 (U8 0))) (List.map asU8 (replicate 16 (U8 0))) (sgOf (nrL (take 32 (drop 0 sg)))) (BitVec.ofInt 32 7) c))))])) : KRun X 3 0 Q (kCut Try.f3 11) (mkS 105 [(3, .one (.ptr 0 0)), (7, .one (.ptr 1 0)), (11, .one (.ptr 2 0))]) [some [.i64 a, .xs r1 0 n1, .xs r2 0 n2, .b c], some xg, some sg] :=
 wpRun_ok (hX ▸ envV_ok TV22 mfV10 MV10) (hX ▸ envV_call TV22_ok MV10_ok) (hX ▸ mixed) (hX ▸ ok3) LK_ok (cast (β := wpRun (envV TV22 mfV10 MV10) [15, 24, 30, 43, 55, 59, 88, 91, 100] [(3, 1), (6, 1), (9, 10), (12, 1), (100003, 0), (100006, 0), (100009, 0), (100011, 0), (100012, 0), (200003, 0), (200006, 0), (200012, 0)] false (RS.mk Try.f3.results.toList 0 (CS.mk [] [] [] [])) (LK X 3 0 Q true [(4, LS.mk [3, 4, 5, 7, 8] (CS.mk [] [true, true, true, true] [] [])), (7, LS.mk [3, 4, 5, 7, 9, 10] (CS.mk [] [true, true, true, true, true] [] [])), (10, LS.mk [3, 4, 5, 7] (CS.mk [] [true, true, true, true] [] [])), (12, LS.mk [3, 7, 11] (CS.mk [] [true, true, true, true, true] [] [])), (13, LS.mk [3, 7, 12, 13] (CS.mk [] [true, true, true] [] []))]) Q 2000 _ _ _) (by kernel_rfl) h)
theorem vc3f {X : Ctx} {Q : AV->Mem->Prop} (hX : X.P=Try.prog) (a:Int) (r1 r2 : List AC) (n1 n2:Nat) (c : Bool) (xg zg : List AC) (e:Int) (h : (c=true->Q (O1 (Bb true)) [])/\(c=false->((!decide (e=(0:Int)))=true->Q (O1 (Bb true)) [])/\((!decide (e=(0:Int)))=false->31<=List.length zg/\31<=List.length xg/\(fitCs (replicate 12 (U8 0)) (take 12 (drop 19 zg))/\fitCs (replicate 12 (U8 0)) (take 12 (drop 19 xg)))/\(sameCells (take 12 (drop 19 zg)) (take 12 (drop 19 xg))=true->Q (O1 (Bb true)) [])/\(sameCells (take 12 (drop 19 zg)) (take 12 (drop 19 xg))=false->Q (O1 (Bb false)) [])))) : KRun X 3 0 Q (kCut Try.f3 12) (mkS 105 [(3, .one (.ptr 0 0)), (7, .one (.ptr 1 0)), (12, .one (.ptr 2 0)), (13, .one (.i64 e))]) [some [.i64 a, .xs r1 0 n1, .xs r2 0 n2, .b c], some xg, some zg] :=
 wpRun_ok (hX ▸ envV_ok TV22 mfV10 MV10) (hX ▸ envV_call TV22_ok MV10_ok) (hX ▸ mixed) (hX ▸ ok3) LK_ok (cast (β := wpRun (envV TV22 mfV10 MV10) [15, 24, 30, 43, 55, 59, 88, 91, 100] [(3, 1), (6, 1), (9, 10), (12, 1), (100003, 0), (100006, 0), (100009, 0), (100011, 0), (100012, 0), (200003, 0), (200006, 0), (200012, 0)] false (RS.mk Try.f3.results.toList 0 (CS.mk [] [] [] [])) (LK X 3 0 Q true [(4, LS.mk [3, 4, 5, 7, 8] (CS.mk [] [true, true, true, true] [] [])), (7, LS.mk [3, 4, 5, 7, 9, 10] (CS.mk [] [true, true, true, true, true] [] [])), (10, LS.mk [3, 4, 5, 7] (CS.mk [] [true, true, true, true] [] [])), (12, LS.mk [3, 7, 11] (CS.mk [] [true, true, true, true, true] [] [])), (13, LS.mk [3, 7, 12, 13] (CS.mk [] [true, true, true] [] []))]) Q 2000 _ _ _) (by kernel_rfl) h)
noncomputable def envX (T : Tab) (mf : FuncId → Option MF) (M : TabM) : Env := ⟨tys, symV, false, T, [(1000000, true)], mf, M, fun _ => none⟩
theorem envX_ok (T : Tab) (mf : FuncId → Option MF) (M : TabM) : EnvOk Try.prog (envX T mf M) := EnvOk.of tysOk
theorem envX_call {T : Tab} {mf : FuncId → Option MF} {M : TabM} (hT : TabOk Try.prog T) (hM : TabMOk Try.prog M) : CallOk Try.prog (envX T mf M) :=
 ⟨hT, fun f mf xs m0 cs r m1 _ h hc => hM f xs m0 cs r m1 h hc, (by intro f k h; cases h)⟩
theorem vc3 {X : Ctx} {Q : AV->Mem->Prop} (hX : X.P=Try.prog) (a:Int) (r1 r2 : List AC) (n1 n2:Nat) (c : Bool) (sg : List AC) (f1 : Bool) (f2:BitVec 16) (f3 : Bool) (f4:BitVec 8) (f5 : Bool) (jr : List AC) (jn:Nat) (f6 : Bool) (f7 f8:BitVec 32) (f9 : Bool) (g1 g2 m0 m1 m2 m3 m4 m5 m6 m7 m8 m9 o0 o1:BitVec 8) (h : (fun L0 : Prop=>32<=List.length sg/\Flat (take 32 (drop 0 sg))/\IsSg (take 32 (drop 0 sg))/\(farB (sgOf (nrL (take 32 (drop 0 sg))))=true->Q (O1 (Bb true)) [])/\(farB (sgOf (nrL (take 32 (drop 0 sg))))=false->(decide ((200:Int)<IntKind.wrap IntKind.i64 ((↑n2:Int)+(↑n1:Int)))=true->Q (O1 (Bb true)) [])/\(decide ((200:Int)<IntKind.wrap IntKind.i64 ((↑n2:Int)+(↑n1:Int)))=false->(decide ((4:Int)<(↑jn:Int))=true->Q (O1 (Bb true)) [])/\(decide ((4:Int)<(↑jn:Int))=false->(flatAV (AG [I64 a,XS r1 0 n1,XS r2 0 n2,Bb c])/\32<=List.length sg/\(L0)/\L0)/\(32<=List.length sg/\(flatAV (AG [I64 a,XS r1 0 n1,XS r2 0 n2,Bb c])/\(L0)/\L0)/\flatAV (AG [I64 a,XS r1 0 n1,XS r2 0 n2,Bb c])/\L0)/\(flatAV (AG [I64 a,XS r1 0 n1,XS r2 0 n2,Bb c])/\32<=List.length sg/\L0)/\32<=List.length sg/\flatAV (AG [I64 a,XS r1 0 n1,XS r2 0 n2,Bb c])/\L0)))) ((allU8 r1/\List.length r1=n1/\n1<=9223372036854775807/\allU8 r2/\List.length r2=n2/\allU8 (replicate 16 (U8 0))/\16=16/\allU8 (replicate 16 (U8 0))/\16=16/\IsSg (take 32 (drop 0 sg)))/\flatAV (AG ([Bb false]++replicate 16 (U8 0)))/\flatAV (AG ([Bb false]++replicate 16 (U8 0)))/\flatAV (AG (take 32 (drop 0 sg)))/\flatAV (O1 (U32 (BitVec.ofInt 32 7)))/\flatAV (AG (hide (sgC (snG a (List.map asU8 r1) false false (List.map asU8 (replicate 16 (U8 0))) (List.map asU8 (replicate 16 (U8 0))) (sgOf (nrL (take 32 (drop 0 sg)))) (BitVec.ofInt 32 7) c))))/\flatAV (O1 (I64 (snE a (List.map asU8 r1) (sgOf (nrL (take 32 (drop 0 sg)))))))/\(List.length (hide (sgC (snG a (List.map asU8 r1) false false (List.map asU8 (replicate 16 (U8 0))) (List.map asU8 (replicate 16 (U8 0))) (sgOf (nrL (take 32 (drop 0 sg)))) (BitVec.ofInt 32 7) c)))=32/\32<=32)/\Flat [I64 a,XS r1 0 n1,XS r2 0 n2,Bb c]/\Flat sg/\Flat [Bb f1,U16 f2,Bb f3,U8 f4,Bb f5,XS jr 0 jn,Bb f6,U32 f7,U32 f8,Bb f9,U8 g1,U8 g2,U8 m0,U8 m1,U8 m2,U8 m3,U8 m4,U8 m5,U8 m6,U8 m7,U8 m8,U8 m9,U8 o0,U8 o1]/\Flat (layS ([U16 0,U16 0,U32 0,U32 0,U8 0,U16 0,U16 0,Bb false,U16 0,Bb false,U8 0,Bb false,NS,Bb false,U32 0,U32 0,Bb false]++(replicate 14 (U8 0)++[NS])) 0 (hide (sgC (snG a (List.map asU8 r1) false false (List.map asU8 (replicate 16 (U8 0))) (List.map asU8 (replicate 16 (U8 0))) (sgOf (nrL (take 32 (drop 0 sg)))) (BitVec.ofInt 32 7) c))))/\KR X 3 0 Q (kCut Try.f3 3) (mkS 105 [(3,O1 (PT 0 0)),(4,O1 (PT 1 0)),(5,O1 (PT 2 0)),(7,O1 (PT 3 0)),(8,O1 (I64 (snE a (List.map asU8 r1) (sgOf (nrL (take 32 (drop 0 sg)))))))]) [some [I64 a,XS r1 0 n1,XS r2 0 n2,Bb c],some sg,some [Bb f1,U16 f2,Bb f3,U8 f4,Bb f5,XS jr 0 jn,Bb f6,U32 f7,U32 f8,Bb f9,U8 g1,U8 g2,U8 m0,U8 m1,U8 m2,U8 m3,U8 m4,U8 m5,U8 m6,U8 m7,U8 m8,U8 m9,U8 o0,U8 o1],some (layS ([U16 0,U16 0,U32 0,U32 0,U8 0,U16 0,U16 0,Bb false,U16 0,Bb false,U8 0,Bb false,NS,Bb false,U32 0,U32 0,Bb false]++(replicate 14 (U8 0)++[NS])) 0 (hide (sgC (snG a (List.map asU8 r1) false false (List.map asU8 (replicate 16 (U8 0))) (List.map asU8 (replicate 16 (U8 0))) (sgOf (nrL (take 32 (drop 0 sg)))) (BitVec.ofInt 32 7) c))))])) : KRun X 3 0 Q ([.code (bodyOf Try.f3)]) (slots [.agg [.i64 a, .xs r1 0 n1, .xs r2 0 n2, .b c], .agg sg, .agg [.b f1, .u16 f2, .b f3, .u8 f4, .b f5, .xs jr 0 jn, .b f6, .u32 f7, .u32 f8, .b f9, .u8 g1, .u8 g2, .u8 m0, .u8 m1, .u8 m2, .u8 m3, .u8 m4, .u8 m5, .u8 m6, .u8 m7, .u8 m8, .u8 m9, .u8 o0, .u8 o1]] Try.f3.ntmps) [] :=
 wpRun_ok (hX ▸ envX_ok TV22 mfV10 MV10) (hX ▸ envX_call TV22_ok MV10_ok) (hX ▸ mixed) (hX ▸ ok3) LK_ok (cast (β := wpRun (envX TV22 mfV10 MV10) [15, 24, 30, 43, 55, 59, 88, 91, 100] [(3, 1), (6, 1), (9, 10), (12, 1), (100003, 0), (100006, 0), (100009, 0), (100011, 0), (100012, 0), (200003, 0), (200006, 0), (200012, 0)] false (RS.mk Try.f3.results.toList 0 (CS.mk [] [] [] [])) (LK X 3 0 Q true [(4, LS.mk [3, 4, 5, 7, 8] (CS.mk [] [true, true, true, true] [] [])), (7, LS.mk [3, 4, 5, 7, 9, 10] (CS.mk [] [true, true, true, true, true] [] [])), (10, LS.mk [3, 4, 5, 7] (CS.mk [] [true, true, true, true] [] [])), (12, LS.mk [3, 7, 11] (CS.mk [] [true, true, true, true, true] [] [])), (13, LS.mk [3, 7, 12, 13] (CS.mk [] [true, true, true] [] []))]) Q 2000 _ _ _) (by kernel_rfl) h)
theorem sgC_len {g : Sg} (hl : g.op.mac.length = 12) : (sgC g).length = 32 := by
 unfold sgC opC
 simp only [List.length_append, List.length_cons, List.length_nil, List.length_map, hl]
theorem tk32 {l : List AC} (h : l.length = 32) : take 32 (drop 0 l) = l := by
 rw [List.drop_zero]
 exact List.take_of_length_le (by omega)
theorem mac12 {g : Sg} (hl : g.op.mac.length = 12) : take 12 (drop 19 (sgC g)) = g.op.mac.map U8 := by
 show take 12 (g.op.mac.map U8 ++ [.xs (g.data.map U8) 0 g.data.length]) = _
 have : (g.op.mac.map U8).length = 12 := by rw [List.length_map, hl]
 rw [← this, List.take_left]
theorem snG_mac (a:Int) (k : BO) (s t : Bool) (x y : BO) (g : Sg) (sn:BitVec 32) (c : Bool) : (snG a k s t x y g sn c).op.mac.length = 12 := by
 unfold snG snG'
 split
 ·exact zM_len
 ·split
  ·exact zM_len
  ·exact macB_len _ _ _
def setO (o p : Op) : Op := { o with hasA := true, kid := p.kid, nid := p.nid, mac := p.mac }
theorem setO_ok {o : Op} {g : Sg} (ho : o.mac.length = 12) (hl : g.op.mac.length = 12) : layS (layS (layS (layS (opC o) 9 [cvC (Value.bool true)]) 10 [.u8 (asU8 (gt .any (sgC g) 17))]) 11 [.u8 (asU8 (gt .any (sgC g) 18))]) 12 (take 12 (drop 19 (sgC g))) = opC (setO o g.op) := by
 rw [mac12 hl]
 obtain ⟨e1, e2, e3, e4, e5, e6, e7, ⟨a1, a2, a3, a4, a5, a6, a7, a8, a9, b1, b2, mc, sk⟩, dt⟩ := g
 obtain ⟨f1, f2, f3, f4, f5, f6, f7, f8, f9, g1, g2, me, sj⟩ := o
 obtain ⟨c0, c1, c2, c3, c4, c5, c6, c7, c8, c9, d0, d1, rfl⟩ := twelve hl
 obtain ⟨m0, m1, m2, m3, m4, m5, m6, m7, m8, m9, n0, n1, rfl⟩ := twelve ho
 rfl
theorem l3f {X : Ctx} (hX : X.P = Try.prog) (a:Int) (r1 r2 : List AC) (n1 n2:Nat) (c : Bool) (S Z : Sg) (hS : S.op.mac.length = 12) (hZ : Z.op.mac.length = 12) (e:Int) (h : c = false → e = 0 → Z.op.mac = S.op.mac) :
  KRun X 3 0 Fin (kCut Try.f3 12) (mkS 105 [(3, .one (.ptr 0 0)), (7, .one (.ptr 1 0)), (12, .one (.ptr 2 0)), (13, .one (.i64 e))]) [some [.i64 a, .xs r1 0 n1, .xs r2 0 n2, .b c], some (sgC S), some (sgC Z)] := by
 refine vc3f hX _ _ _ _ _ _ _ _ _ ⟨fun _ => rfl, fun hc => ⟨fun _ => rfl, fun he => ?_⟩⟩
 have he := of_decide_eq_true (bnf he)
 have hm := h hc he
 rw [mac12 hS, mac12 hZ, sgC_len hS, sgC_len hZ, hm]
 refine ⟨by omega, by omega, ⟨fit12 hS, fit12 hS⟩, fun _ => rfl, fun hs => ?_⟩
 rw [same_self] at hs
 cases hs
end DH
noncomputable section
namespace DH
set_option maxRecDepth 100000
open List (take drop replicate)
open AC renaming u8 → U8, u16 → U16, u32 → U32, u64 → U64, i64 → I64, b → Bb, xs → XS, gs → GS, sv → SV, ptr → PT, any → AY, ns → NS
open AV renaming one → O1, agg → AG, tup → TU
open Go Go.Proofs
theorem op_flat {o : Op} (hl : o.mac.length = 12) : Flat (opC o) := by
 obtain ⟨a1, a2, a3, a4, a5, a6, a7, a8, a9, b1, b2, mc, sk⟩ := o
 obtain ⟨c0, c1, c2, c3, c4, c5, c6, c7, c8, c9, d0, d1, rfl⟩ := twelve hl
 exact flatLB_ok rfl
theorem opC_len {o : Op} (hl : o.mac.length = 12) : (opC o).length = 24 := by
 unfold opC
 simp only [List.length_append, List.length_cons, List.length_nil, List.length_map, hl]
theorem tk24 {l : List AC} (h : l.length = 24) : take 24 (drop 0 l) = l := by
 rw [List.drop_zero]
 exact List.take_of_length_le (by omega)
theorem lay0 {row l : List AC} (h : row.length = 32) (k : l.length = 32) : layS row 0 l = l := by
 match l, k with
 | x :: y :: l, k =>
  show lay row 0 (x :: y :: l) = _
  unfold lay
  rw [List.take_zero, List.nil_append, Nat.zero_add, List.drop_eq_nil_of_le (by omega), List.append_nil]
theorem lay7 (g : Sg) {o : Op} (ho : o.mac.length = 12) (hl : g.op.mac.length = 12) : layS (sgC g) 7 (opC o) = sgC { g with op := o } := by
 obtain ⟨e1, e2, e3, e4, e5, e6, e7, ⟨a1, a2, a3, a4, a5, a6, a7, a8, a9, b1, b2, mc, sk⟩, dt⟩ := g
 obtain ⟨f1, f2, f3, f4, f5, f6, f7, f8, f9, g1, g2, me, sj⟩ := o
 obtain ⟨c0, c1, c2, c3, c4, c5, c6, c7, c8, c9, d0, d1, rfl⟩ := twelve hl
 obtain ⟨m0, m1, m2, m3, m4, m5, m6, m7, m8, m9, n0, n1, rfl⟩ := twelve ho
 rfl
theorem snE_ok {a : Int} {k : BO} {g : Sg} (h : snE a k g = 0) : okSg g = true ∧ bytE g = 0 ∧ macE a k = 0 := by
 unfold snE snE' at h
 by_cases h1 : bytE g = 0
 ·rw [if_neg (by simp [h1])] at h
  refine ⟨?_, h1, h⟩
  unfold bytE at h1
  cases h2 : okSg g with
  | true => rfl
  | false => rw [h2] at h1; cases h1
 ·rw [if_pos h1] at h
  exact absurd h h1
theorem snG_eq {a : Int} {k : BO} {g : Sg} (h : snE a k g = 0) (s t : Bool) (x y : BO) (sn:BitVec 32) (c : Bool) : snG a k s t x y g sn c = sgM g (macB a k (bytB s t x y g sn c)) := by
 obtain ⟨_, h1, h2⟩ := snE_ok h
 unfold snG snG'
 rw [if_neg (by simp [h1]), if_neg (by simp [h2])]
theorem may_mac (g : Sg) (M : BO) (ha : g.op.hasA = true) : maySg (sgM g M) = maySg g := by
 unfold maySg sgM mayO sizN rawN
 simp only [ha, Bool.true_or]
theorem ok_mac {g : Sg} (M : BO) (h : okSg g = true) : okSg (sgM g M) = true := by
 unfold okSg at *
 rw [Bool.and_eq_true] at h ⊢
 exact ⟨h.1, by rw [may_mac g M h.1]; exact h.2⟩
theorem sgX_mc (g : Sg) (M : BO) (c : Bool) : sgX (sgM g M) c = sgX g c := by
 cases c <;> rfl
theorem snE_again {a : Int} {k : BO} {g : Sg} (h : snE a k g = 0) (M : BO) : snE a k (sgM g M) = 0 := by
 obtain ⟨h0, _, h2⟩ := snE_ok h
 unfold snE snE' bytE
 rw [ok_mac M h0, if_pos rfl, if_neg (by simp)]
 exact h2
theorem bytB_mac {g : Sg} (h : okSg g = true) (M : BO) (s t : Bool) (x y : BO) (sn:BitVec 32) (c : Bool) : bytB s t x y (sgM g M) sn c = bytB s t x y g sn c := by
 unfold bytB
 rw [ok_mac M h, h, sgX_mc]
theorem snG_again {a : Int} {k : BO} {g : Sg} (h : snE a k g = 0) (s t : Bool) (x y : BO) (sn:BitVec 32) (c : Bool) : snG a k s t x y (snG a k s t x y g sn c) sn c = snG a k s t x y g sn c := by
 rw [snG_eq h, snG_eq (snE_again h _), bytB_mac (snE_ok h).1]
 rfl
theorem snG_other {a : Int} {k : BO} {g : Sg} (h : snE a k g = 0) {o : Op} (h2 : snE a k { g with op := setO o g.op } = 0) (s t : Bool) (x y : BO) (sn:BitVec 32) :
  (snG a k s t x y { g with op := setO o g.op } sn false).op.mac = (snG a k s t x y g sn false).op.mac := by
 have ha : g.op.hasA = true := by
  have := (snE_ok h).1
  unfold okSg at this
  rw [Bool.and_eq_true] at this
  exact this.1
 have e : sgX { g with op := setO o g.op } false = sgX g false := by
  have e1 : (setO o g.op).bare = g.op.bare := by
   unfold Op.bare setO
   rw [if_pos ha, if_pos rfl]
  show Sg.bare _ = Sg.bare _
  unfold Sg.bare
  rw [e1]
 have eb : bytB s t x y { g with op := setO o g.op } sn false = bytB s t x y g sn false := by
  unfold bytB
  rw [(snE_ok h).1, (snE_ok h2).1, e]
 rw [snG_eq h, snG_eq h2, eb]
 rfl
theorem kk_flat (a:Int) (k1 k2 : BO) (c : Bool) : Flat [.i64 a, .xs (k1.map U8) 0 k1.length, .xs (k2.map U8) 0 k2.length, .b c] := flatLB_ok rfl
theorem zz_flat : Flat ([Bb false] ++ replicate 16 (U8 0)) := flatLB_ok rfl
theorem l3e {X : Ctx} (hX : X.P = Try.prog) (a:Int) (k1 k2 : BO) (c : Bool) (S t : Sg) (hS : S.op.mac.length = 12) (ht : t.op.mac.length = 12) (hk : k1.length ≤ 9223372036854775807)
  (h : c = false → snE a k1 t = 0 → (snG a k1 false false z16k z16k t (BitVec.ofInt 32 7) c).op.mac = S.op.mac) :
  KRun X 3 0 Fin (kCut Try.f3 11) (mkS 105 [(3, .one (.ptr 0 0)), (7, .one (.ptr 1 0)), (11, .one (.ptr 2 0))]) [some [.i64 a, .xs (k1.map U8) 0 k1.length, .xs (k2.map U8) 0 k2.length, .b c], some (sgC S), some (sgC t)] := by
 have hm := snG_mac a k1 false false z16k z16k t (BitVec.ofInt 32 7) c
 have KL := l3f hX a (k1.map U8) (k2.map U8) k1.length k2.length c S _ hS hm (snE a k1 t) h
 refine vc3e (Q := Fin) hX _ _ _ _ _ _ _ _ ?_
 have l1 := sgC_len ht
 have l2 := sgC_len hm
 have f0 := kk_flat a k1 k2 c
 have f1 := sg_flat hS
 have f2 := sg_flat ht
 have f3 := sg_flat hm
 have f4 := isSg_C ht
 have f5 := zz_flat
 have f6 : allU8 (replicate 16 (U8 0)) := rfl
 simp only [tk32 l1, sgOf_C ht, map_as8, zz16, hide_eq]
 generalize snG a k1 false false z16k z16k t (BitVec.ofInt 32 7) c = Z at *
 generalize snE a k1 t = e at *
 have f7 : layS ([U16 0, U16 0, U32 0, U32 0, U8 0, U16 0, U16 0, Bb false, U16 0, Bb false, U8 0, Bb false, NS, Bb false, U32 0, U32 0, Bb false] ++ (replicate 14 (U8 0) ++ [NS])) 0 (sgC Z) = sgC Z := lay0 rfl l2
 simp only [f7, l1, l2, List.length_map]
 (repeat' (first | exact trivial | exact f0 | exact f1 | exact f2 | exact f3 | exact f4 | exact f5 | exact f6 | exact allU8_map _ | exact exU8 _ | exact rfl | exact Nat.le_refl _ | exact ⟨KL⟩ | exact hk | refine And.intro ?_ ?_))
theorem l3d {X : Ctx} (hX : X.P = Try.prog) (a:Int) (k1 k2 : BO) (c : Bool) (S g : Sg) (o : Op) (hS : S.op.mac.length = 12) (hg : g.op.mac.length = 12) (ho : o.mac.length = 12) (hk : k1.length ≤ 9223372036854775807)
  (h : c = false → snE a k1 { g with op := o } = 0 → (snG a k1 false false z16k z16k { g with op := o } (BitVec.ofInt 32 7) c).op.mac = S.op.mac) :
  KRun X 3 0 Fin (kCut Try.f3 9) (mkS 105 [(3, .one (.ptr 0 0)), (4, .one (.ptr 1 0)), (5, .one (.ptr 2 0)), (7, .one (.ptr 3 0))]) [some [.i64 a, .xs (k1.map U8) 0 k1.length, .xs (k2.map U8) 0 k2.length, .b c], some (sgC g), some (opC o), some (sgC S)] := by
 have ht : ({ g with op := o } : Sg).op.mac.length = 12 := ho
 have KL := l3e hX a k1 k2 c S { g with op := o } hS ht hk h
 have l1 := sgC_len hg
 have l2 := opC_len ho
 have e7 := lay7 g ho hg
 have f0 := kk_flat a k1 k2 c
 have f1 := sg_flat hS
 have f2 := sg_flat hg
 have f3 := sg_flat ht
 have f4 := op_flat ho
 refine vc3d (Q := Fin) hX _ _ _ _ _ _ _ _ _ ?_
 have f8 : layS ([U16 0, U16 0, U32 0, U32 0, U8 0, U16 0, U16 0, Bb false, U16 0, Bb false, U8 0, Bb false, NS, Bb false, U32 0, U32 0, Bb false] ++ (replicate 14 (U8 0) ++ [NS])) 0 (sgC g) = sgC g := lay0 rfl l1
 simp only [tk32 l1, tk24 l2, f8, e7, l1, l2]
 (repeat' (first | exact trivial | exact f0 | exact f1 | exact f2 | exact f3 | exact f4 | exact rfl | exact Nat.le_refl _ | exact ⟨KL⟩ | refine And.intro ?_ ?_)) <;> omega
theorem same_S (g : Sg) : sameS g g = true := by
 have hR : sameS g g = true ↔ g = g := @decide_eq_true_iff _ (Classical.propDecidable _)
 exact hR.2 rfl
theorem gt17 {g : Sg} (hl : g.op.mac.length = 12) : gt .any (sgC g) 17 = .u8 (asU8 (gt .any (sgC g) 17)) := rfl
theorem gt18 {g : Sg} (hl : g.op.mac.length = 12) : gt .any (sgC g) 18 = .u8 (asU8 (gt .any (sgC g) 18)) := rfl
theorem setO_mac (o p : Op) : (setO o p).mac = p.mac := rfl
theorem l3c {X : Ctx} (hX : X.P = Try.prog) (a:Int) (k1 k2 : BO) (c : Bool) (S g : Sg) (o : Op) (hS : S.op.mac.length = 12) (hg : g.op.mac.length = 12) (ho : o.mac.length = 12) (hk : k1.length ≤ 9223372036854775807)
  (hsk : S.op.sacks.length ≤ 1000000)
  (h : c = false → snE a k1 { g with op := setO o g.op } = 0 → (snG a k1 false false z16k z16k { g with op := setO o g.op } (BitVec.ofInt 32 7) c).op.mac = S.op.mac) :
  KRun X 3 0 Fin (kCut Try.f3 6) (mkS 105 [(3, .one (.ptr 0 0)), (4, .one (.ptr 1 0)), (5, .one (.ptr 2 0)), (7, .one (.ptr 3 0)), (9, .one (.ptr 4 0)), (10, .one (.i64 0))]) [some [.i64 a, .xs (k1.map U8) 0 k1.length, .xs (k2.map U8) 0 k2.length, .b c], some (sgC g), some (opC o), some (sgC S), some (sgC S)] := by
 have KL := l3d hX a k1 k2 c S g (setO o g.op) hS hg (by rw [setO_mac]; exact hg) hk h
 have e0 := setO_ok ho hg
 have l1 := sgC_len hg
 have l2 := opC_len ho
 have l3 := sgC_len hS
 have f0 := kk_flat a k1 k2 c
 have f1 := sg_flat hS
 have f2 := sg_flat hg
 have f3 := op_flat (o := setO o g.op) (by rw [setO_mac]; exact hg)
 have f4 := isSg_C hS
 have g1 := gt17 hg
 have g2 := gt18 hg
 have hO := sgOf_C hS
 have hs := same_S S
 have m0 : (take 12 (drop 19 (sgC g))).length = 12 := by rw [List.length_take, List.length_drop, l1]; rfl
 have n1 : ∀ (l : List AC) (i:Nat) (x : AC), (layS l i [x]).length = l.length := fun l i x => List.length_set
 refine vc3c (Q := Fin) hX _ _ _ _ _ _ _ _ _ _ _ ⟨fun h => absurd h (by decide), fun _ => ?_⟩
 simp only [tk32 l3, hO, hs, e0, l1, l2, l3, m0, n1]
 generalize layS (opC o) 9 [cvC (Value.bool true)] = L1 at *
 (repeat' (first | exact trivial | exact f0 | exact f1 | exact f2 | exact f3 | exact f4 | exact g1 | exact g2 | exact hsk | exact rfl | exact Nat.le_refl _ | exact ⟨KL⟩ | (intro h; first | exact absurd h (by decide) | skip) | refine And.intro ?_ ?_)) <;> omega
theorem l3b {X : Ctx} (hX : X.P = Try.prog) (a:Int) (k1 k2 : BO) (c : Bool) (g : Sg) (o : Op) (hg : g.op.mac.length = 12) (ho : o.mac.length = 12) (hk : k1.length ≤ 9223372036854775807) (hsk : g.op.sacks.length ≤ 1000000) :
  KRun X 3 0 Fin (kCut Try.f3 3) (mkS 105 [(3, .one (.ptr 0 0)), (4, .one (.ptr 1 0)), (5, .one (.ptr 2 0)), (7, .one (.ptr 3 0)), (8, .one (.i64 (snE a k1 g)))]) [some [.i64 a, .xs (k1.map U8) 0 k1.length, .xs (k2.map U8) 0 k2.length, .b c], some (sgC g), some (opC o), some (sgC (snG a k1 false false z16k z16k g (BitVec.ofInt 32 7) c))] := by
 have hS := snG_mac a k1 false false z16k z16k g (BitVec.ofInt 32 7) c
 refine vc3b (Q := Fin) hX _ _ _ _ _ _ _ _ _ _ ⟨fun _ => rfl, fun he => ?_⟩
 have he : snE a k1 g = 0 := of_decide_eq_true (bnf he)
 have e1 := snG_again he false false z16k z16k (BitVec.ofInt 32 7) c
 have e2 : snE a k1 (snG a k1 false false z16k z16k g (BitVec.ofInt 32 7) c) = 0 := by rw [snG_eq he]; exact snE_again he _
 have e3 : (snG a k1 false false z16k z16k g (BitVec.ofInt 32 7) c).op.sacks.length ≤ 1000000 := by rw [snG_eq he]; exact hsk
 have KL := l3c hX a k1 k2 c _ g o hS hg ho hk e3 (fun hc h2 => by rw [hc]; exact snG_other he h2 false false z16k z16k _)
 generalize snG a k1 false false z16k z16k g (BitVec.ofInt 32 7) c = S at *
 have l1 := sgC_len hg
 have l2 := opC_len ho
 have l3 := sgC_len hS
 have f0 := kk_flat a k1 k2 c
 have f1 := sg_flat hS
 have f2 := sg_flat hg
 have f3 := op_flat ho
 have f4 := isSg_C hS
 have f5 := zz_flat
 have f6 : allU8 (replicate 16 (U8 0)) := rfl
 have f7 : layS ([U16 0, U16 0, U32 0, U32 0, U8 0, U16 0, U16 0, Bb false, U16 0, Bb false, U8 0, Bb false, NS, Bb false, U32 0, U32 0, Bb false] ++ (replicate 14 (U8 0) ++ [NS])) 0 (sgC S) = sgC S := lay0 rfl l3
 have hO := sgOf_C hS
 simp only [tk32 l3, hO, map_as8, zz16, hide_eq, e1, e2, f7, l3, List.length_map]
 (repeat' (first | exact trivial | exact f0 | exact f1 | exact f2 | exact f3 | exact f4 | exact f5 | exact f6 | exact allU8_map _ | exact exU8 _ | exact rfl | exact Nat.le_refl _ | exact ⟨KL⟩ | exact hk | refine And.intro ?_ ?_))
theorem s3 (a:Int) (k1 k2 : BO) (c : Bool) (g : Sg) (o : Op) (hg : g.op.mac.length = 12) (ho : o.mac.length = 12) (hk : k1.length ≤ 9223372036854775807) : Spec Try.prog 3 [.agg [.i64 a, .xs (k1.map U8) 0 k1.length, .xs (k2.map U8) 0 k2.length, .b c], .agg (sgC g), .agg (opC o)] [] Fin := by
 obtain ⟨f1, f2, f3, f4, f5, f6, f7, f8, f9, g1, g2, me, sj⟩ := o
 obtain ⟨m0, m1, m2, m3, m4, m5, m6, m7, m8, m9, n0, n1, rfl⟩ := twelve ho
 refine Spec.of_run ok3 fun X hX => ?_
 have l1 := sgC_len hg
 have q0 := kk_flat a k1 k2 c
 have q1 := sg_flat hg
 have q2 := isSg_C hg
 have hO := sgOf_C hg
 refine vc3 (Q := Fin) hX _ _ _ _ _ _ _ _ _ _ _ _ _ _ _ _ _ _ _ _ _ _ _ _ _ _ _ _ _ _ _ _ ?_
 simp only [tk32 l1, hO, map_as8, zz16, hide_eq, l1, List.length_map]
 refine ⟨Nat.le_refl _, q1, q2, fun _ => rfl, fun hfar => ⟨fun _ => rfl, fun _ => ⟨fun _ => rfl, fun _ => ?_⟩⟩⟩
 have KL := l3b hX a k1 k2 c g ⟨f1, f2, f3, f4, f5, f6, f7, f8, f9, g1, g2, [m0, m1, m2, m3, m4, m5, m6, m7, m8, m9, n0, n1], sj⟩ hg rfl hk (far_sk hfar)
 have hS := snG_mac a k1 false false z16k z16k g (BitVec.ofInt 32 7) c
 generalize snG a k1 false false z16k z16k g (BitVec.ofInt 32 7) c = S at *
 generalize snE a k1 g = e at *
 have l3 := sgC_len hS
 have q3 := sg_flat hS
 have q4 := op_flat (o := ⟨f1, f2, f3, f4, f5, f6, f7, f8, f9, g1, g2, [m0, m1, m2, m3, m4, m5, m6, m7, m8, m9, n0, n1], sj⟩) rfl
 have q5 := zz_flat
 have q6 : allU8 (replicate 16 (U8 0)) := rfl
 have q7 : layS ([U16 0, U16 0, U32 0, U32 0, U8 0, U16 0, U16 0, Bb false, U16 0, Bb false, U8 0, Bb false, NS, Bb false, U32 0, U32 0, Bb false] ++ (replicate 14 (U8 0) ++ [NS])) 0 (sgC S) = sgC S := lay0 rfl l3
 simp only [q7, l3]
 (repeat' (first | exact trivial | exact q0 | exact q1 | exact q2 | exact q3 | exact q4 | exact q5 | exact q6 | exact allU8_map _ | exact exU8 _ | exact rfl | exact Nat.le_refl _ | exact ⟨KL⟩ | exact hk | refine And.intro ?_ ?_))
end DH
noncomputable section
namespace DH
set_option maxRecDepth 100000
open List (take drop replicate)
open AC renaming u8 → U8, u16 → U16, u32 → U32, u64 → U64, i64 → I64, b → Bb, xs → XS, gs → GS, sv → SV, ptr → PT, any → AY, ns → NS
open AV renaming one → O1, agg → AG, tup → TU
open Go Go.Proofs
def shKeys : Sh := .st (.cons .i64 (.cons (.sl .u8) (.cons (.sl .u8) (.cons .bool .nil))))
theorem encKeys' (a:Int) (m k : List (BitVec 8)) (c : Bool) : [I64 a] ++ ([XS (List.flatMap (Sh.enc .u8) m) 0 m.length] ++ ([XS (List.flatMap (Sh.enc .u8) k) 0 k.length] ++ ([Bb c] ++ []))) = [.i64 a, .xs (m.map U8) 0 m.length, .xs (k.map U8) 0 k.length, .b c] := by
 rw [fm_u8, fm_u8]
 rfl
theorem encKeys (y : shKeys.T) : shKeys.enc y = [.i64 y.1, .xs (List.map U8 y.2.1) 0 (List.length (α := BitVec 8) y.2.1), .xs (List.map U8 y.2.2.1) 0 (List.length (α := BitVec 8) y.2.2.1), .b y.2.2.2.1] := encKeys' y.1 y.2.1 y.2.2.1 y.2.2.2.1
theorem wfKeys {y : shKeys.T} (h : shKeys.wf y) : List.length (α := BitVec 8) y.2.1 ≤ 9223372036854775807 := Nat.le_trans h.2.1.1 (by decide)
theorem s3w (y : shKeys.T) (z : shSeg.T) (x : shOpt.T) (h : shKeys.wf y) (k : shSeg.wf z) (l : shOpt.wf x) : Spec Try.prog 3 [.agg (shKeys.enc y), .agg (shSeg.enc z), .agg (shOpt.enc x)] [] (Is (.one (.b true))) := by
 rw [encKeys, encSeg, encOpt]
 exact s3 _ _ _ _ _ _ (wfSeg k) (wfOpt l) (wfKeys h)
end DH
