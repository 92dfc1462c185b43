/- Walks of functions, each by evaluation: what each returns; with the layer beneath. -/
import Derived.Test.YtdnggeocdocomaaVB
set_option linter.unusedVariables false
set_option linter.unusedSimpArgs false
noncomputable section
namespace DH
set_option maxRecDepth 100000
open List (take drop replicate)
open AC renaming u8 → U8, u16 → Va, u32 → Fa, u64 → Nc, i64 → I64, b → Bb, xs → XS, gs → GS, sv → SV, ptr → PT, any → AY, ns → NS
open AV renaming one → O1, agg → AG, Ec → TU
open Go Go.Proofs
theorem ok97 : Ac Try.prog 97 Try.f97 (Na Try.f97) := .of Try.func97 (by kernel_rfl) (by kernel_rfl)
theorem ok98 : Ac Try.prog 98 Try.f98 (Na Try.f98) := .of Try.func98 (by kernel_rfl) (by kernel_rfl)
theorem ok99 : Ac Try.prog 99 Try.f99 (Na Try.f99) := .of Try.func99 (by kernel_rfl) (by kernel_rfl)
noncomputable def MV3 : Ad := fun f xs m => match f, xs, m with
 | 125, [.agg cs], [] => some ([IsO cs ∧ mayO (oOf (nrL cs)) = true], .Ec [.one (.gs 0 (layO (oOf (nrL cs))).length 1), .one (.i64 0)], [some (hide ((layO (oOf (nrL cs))).map U8))])
 | f, xs, m => MV2 f xs m
noncomputable def mfV3 : FuncId → Option MF := fun f => match f with
 | 125 => some { cs := { kinds := [], fl := [] }, flo := [true], fresh := true }
 | f => mfV2 f
theorem MV3_ok : Xc Try.prog MV3 := by
 intro f xs m0 cs r m1 h hc
 unfold MV3 at h
 split at h
 ·simp only [Option.some.injEq, Prod.mk.injEq] at h; obtain ⟨rfl, rfl, rfl⟩ := h
  rename_i cs
  obtain ⟨h1, h2⟩ := hc.1
  have := s125 (oOf (nrL cs)) h1.len h2
  rw [← h1.eq] at this
  rw [Ja]
  exact ⟨⟨_, _, ok125⟩, Spec.nr this⟩
 ·exact MV2_ok _ _ _ _ _ _ h hc
def WVC0 : WC := ⟨envP TV7 mfV3 MV3,envP_ok TV7 mfV3 MV3,Ed TV7_ok MV3_ok⟩
theorem vc97 {X} {Q : QT} (hX : PX X) (e1 e2:BitVec 16) (e3 e4:BitVec 32) (e5:BitVec 8) (e6 e7:BitVec 16) (a1 : Bool) (a2:BitVec 16) (a3 : Bool) (a4:BitVec 8) (a5 : Bool) (kr : List AC) (kn:Nat) (a6 : Bool) (a7 a8:BitVec 32) (a9 : Bool) (b1 b2 c0 c1 c2 c3 c4 c5 c6 c7 c8 c9 d0 d1:BitVec 8) (dr : List AC) (dn:Nat) (h : (fun D0 : Op=>IsO [Bb a1,Va a2,Bb a3,U8 a4,Bb a5,XS kr 0 kn,Bb a6,Fa a7,Fa a8,Bb a9,U8 b1,U8 b2,U8 c0,U8 c1,U8 c2,U8 c3,U8 c4,U8 c5,U8 c6,U8 c7,U8 c8,U8 c9,U8 d0,U8 d1]/\(mayO D0=true->U8 e5=U8 e5/\(decide (e5<=BitVec.ofInt 8 63)=true->Q (O1 (Bb (decide ((↑dn:Int)<=(16384:Int))))) [])/\(decide (e5<=BitVec.ofInt 8 63)=false->Q (O1 (Bb false)) []))/\(mayO D0=false->Q (O1 (Bb false)) [])) (oOf (nrL [Bb a1,Va a2,Bb a3,U8 a4,Bb a5,XS kr 0 kn,Bb a6,Fa a7,Fa a8,Bb a9,U8 b1,U8 b2,U8 c0,U8 c1,U8 c2,U8 c3,U8 c4,U8 c5,U8 c6,U8 c7,U8 c8,U8 c9,U8 d0,U8 d1]))) : Ia X 97 0 Q ([.code (Na Try.f97)]) (slots [.agg [.u16 e1,.u16 e2,.u32 e3,.u32 e4,.u8 e5,.u16 e6,.u16 e7,.b a1,.u16 a2,.b a3,.u8 a4,.b a5,.xs kr 0 kn,.b a6,.u32 a7,.u32 a8,.b a9,.u8 b1,.u8 b2,.u8 c0,.u8 c1,.u8 c2,.u8 c3,.u8 c4,.u8 c5,.u8 c6,.u8 c7,.u8 c8,.u8 c9,.u8 d0,.u8 d1,.xs dr 0 dn]] Try.f97.ntmps) [] :=
 wR hX WVC0 ok97 [5,9] [] [] [] h (by kernel_rfl)
theorem vc98 {X} {Q : QT} (hX : PX X) (a1 : Bool) (a2:BitVec 16) (a3 : Bool) (a4:BitVec 8) (a5 : Bool) (kr : List AC) (kn:Nat) (a6 : Bool) (a7 a8:BitVec 32) (a9 : Bool) (b1 b2 c0 c1 c2 c3 c4 c5 c6 c7 c8 c9 d0 d1:BitVec 8) (h : (a9=true->U8 b1=U8 b1/\U8 b2=U8 b2/\Q (AG ([Bb false,Va 0,Bb false,U8 0,Bb false,NS,Bb false,Fa 0,Fa 0,Bb true,U8 b1,U8 b2]++replicate 12 (U8 0))) [])/\(a9=false->Q (AG ([Bb false,Va 0,Bb false,U8 0,Bb false,NS,Bb false,Fa 0,Fa 0,Bb false]++replicate 14 (U8 0))) [])) : Ia X 98 0 Q ([.code (Na Try.f98)]) (slots [.agg [.b a1,.u16 a2,.b a3,.u8 a4,.b a5,.xs kr 0 kn,.b a6,.u32 a7,.u32 a8,.b a9,.u8 b1,.u8 b2,.u8 c0,.u8 c1,.u8 c2,.u8 c3,.u8 c4,.u8 c5,.u8 c6,.u8 c7,.u8 c8,.u8 c9,.u8 d0,.u8 d1]] Try.f98.ntmps) [] :=
 wR hX WVC0 ok98 [4] [] [] [] h (by kernel_rfl)
def sgC (s : Sg) : List AC := [.u16 s.src, .u16 s.dst, .u32 s.seq, .u32 s.ack, .u8 s.fl, .u16 s.win, .u16 s.urg] ++ (opC s.op ++ [.xs (s.data.map U8) 0 s.data.length])
def maySg (s : Sg) : Bool := mayO s.op && decide (s.fl ≤ 63#8) && decide (s.data.length ≤ 16384)
theorem s97 (s : Sg) (hl : s.op.mac.length = 12) : Spec Try.prog 97 [.agg (sgC s)] [] (Is (.one (.b (maySg s)))) := by
 obtain ⟨e1, e2, e3, e4, e5, e6, e7, o, dt⟩ := s
 have hI := isO_C hl
 have hO := oOf_C hl
 unfold maySg
 dsimp only at hl hI hO ⊢
 generalize hm : mayO o = M at *
 obtain ⟨a1, a2, a3, a4, a5, a6, a7, a8, a9, b1, b2, mc, sk⟩ := o
 obtain ⟨c0, c1, c2, c3, c4, c5, c6, c7, c8, c9, d0, d1, rfl⟩ := twelve hl
 refine Spec.of_run ok97 fun X hX => vc97 hX _ _ _ _ _ _ _ _ _ _ _ _ _ _ _ _ _ _ _ _ _ _ _ _ _ _ _ _ _ _ _ _ _ _ ⟨hI, fun h => ⟨rfl, fun g => ?_, fun g => ?_⟩, fun h => ?_⟩
 ·erw [hO, hm] at h
  subst h
  rw [show decide (e5 ≤ 63#8) = true from g, Bool.and_true, Bool.true_and, show decide ((dt.length:Int) ≤ 16384) = decide (dt.length ≤ 16384) from decide_eq_decide.2 (by omega)]
  exact rfl
 ·rw [show decide (e5 ≤ 63#8) = false from g, Bool.and_false, Bool.false_and]
  exact rfl
 ·erw [hO, hm] at h
  subst h
  rw [Bool.false_and, Bool.false_and]
  exact rfl
theorem s98 (o : Op) (hl : o.mac.length = 12) (ha : o.hasA = true) : Spec Try.prog 98 [.agg (opC o)] [] (Is (.agg ([.b false, .u16 0, .b false, .u8 0, .b false, .ns, .b false, .u32 0, .u32 0, .b true, .u8 o.kid, .u8 o.nid] ++ replicate 12 (U8 0)))) := by
 obtain ⟨a1, a2, a3, a4, a5, a6, a7, a8, a9, b1, b2, mc, sk⟩ := o
 obtain ⟨c0, c1, c2, c3, c4, c5, c6, c7, c8, c9, d0, d1, rfl⟩ := twelve hl
 refine Spec.of_run ok98 fun X hX => vc98 hX _ _ _ _ _ _ _ _ _ _ _ _ _ _ _ _ _ _ _ _ _ _ _ _ _ ⟨fun h => ⟨rfl, rfl, rfl⟩, fun h => ?_⟩
 have ha : a9 = true := ha
 have h : a9 = false := h
 rw [ha] at h; cases h
def sgOf (cs : List AC) : Sg := ⟨asU16 (gt AY cs 0), asU16 (gt AY cs 1), Xb (gt AY cs 2), Xb (gt AY cs 3), Ea (gt AY cs 4), asU16 (gt AY cs 5), asU16 (gt AY cs 6), oOf (take 24 (drop 7 cs)), (Td (gt AY cs 31)).map Ea⟩
structure IsSg (cs : List AC) : Prop where
 eq : nrL cs = sgC (sgOf (nrL cs))
 len : (sgOf (nrL cs)).op.mac.length = 12
theorem sgOf_C {s : Sg} (hl : s.op.mac.length = 12) : sgOf (nrL (sgC s)) = s := by
 obtain ⟨e1, e2, e3, e4, e5, e6, e7, o, dt⟩ := s
 obtain ⟨a1, a2, a3, a4, a5, a6, a7, a8, a9, b1, b2, mc, sk⟩ := o
 obtain ⟨c0, c1, c2, c3, c4, c5, c6, c7, c8, c9, d0, d1, rfl⟩ := twelve hl
 show (⟨e1, e2, e3, e4, e5, e6, e7, ⟨a1, a2, a3, a4, a5, a6, a7, a8, a9, b1, b2, [c0, c1, c2, c3, c4, c5, c6, c7, c8, c9, d0, d1], sakD (sakC sk)⟩, (dt.map U8).map Ea⟩ : Sg) = _
 rw [sakD_C, Ua]
theorem nr_S {s : Sg} (hl : s.op.mac.length = 12) : nrL (sgC s) = sgC s := by
 obtain ⟨e1, e2, e3, e4, e5, e6, e7, o, dt⟩ := s
 obtain ⟨a1, a2, a3, a4, a5, a6, a7, a8, a9, b1, b2, mc, sk⟩ := o
 obtain ⟨c0, c1, c2, c3, c4, c5, c6, c7, c8, c9, d0, d1, rfl⟩ := twelve hl
 rfl
theorem isSg_C {s : Sg} (hl : s.op.mac.length = 12) : IsSg (sgC s) := by
 refine ⟨?_, ?_⟩
 ·rw [sgOf_C hl, nr_S hl]
 ·rw [sgOf_C hl]; exact hl
noncomputable def TV8 : Tab := fun f xs => match f, xs with
 | 97, [.agg cs] => some ([IsSg cs], .one (.b (maySg (sgOf (nrL cs)))))
 | 98, [.agg cs] => some ([IsO cs ∧ (oOf (nrL cs)).hasA = true], .agg [.b false, .u16 0, .b false, .u8 0, .b false, .ns, .b false, .u32 0, .u32 0, .b true, .u8 (oOf (nrL cs)).kid, .u8 (oOf (nrL cs)).nid, .u8 0, .u8 0, .u8 0, .u8 0, .u8 0, .u8 0, .u8 0, .u8 0, .u8 0, .u8 0, .u8 0, .u8 0])
 | f, xs => TV7 f xs
theorem TV8_ok : Oc Try.prog TV8 := by
 intro f xs cs r h hc
 unfold TV8 at h
 split at h
 ·obtain ⟨rfl, rfl⟩ := Prod.mk.inj (Option.some.inj h)
  rename_i cs
  have := s97 (sgOf (nrL cs)) hc.1.len
  rw [← hc.1.eq] at this
  exact ⟨⟨_, _, ok97⟩, Spec.nr this, rfl⟩
 ·obtain ⟨rfl, rfl⟩ := Prod.mk.inj (Option.some.inj h)
  rename_i cs
  have := s98 (oOf (nrL cs)) hc.1.1.len hc.1.2
  rw [← hc.1.1.eq] at this
  exact ⟨⟨_, _, ok98⟩, Spec.nr this, exactL_ok rfl⟩
 ·exact TV7_ok _ _ _ _ h hc
def WVC1 : WC := ⟨envP TV8 mfV3 MV3,envP_ok TV8 mfV3 MV3,Ed TV8_ok MV3_ok⟩
theorem vc99 {X} {Q : QT} (hX : PX X) (s t : Bool) (as' bs : List AC) (e1 e2:BitVec 16) (e3 e4:BitVec 32) (e5:BitVec 8) (e6 e7:BitVec 16) (a1 : Bool) (a2:BitVec 16) (a3 : Bool) (a4:BitVec 8) (a5 : Bool) (kr : List AC) (kn:Nat) (a6 : Bool) (a7 a8:BitVec 32) (a9 : Bool) (b1 b2 c0 c1 c2 c3 c4 c5 c6 c7 c8 c9 d0 d1:BitVec 8) (dr : List AC) (dn:Nat) (h : (fun D6 : List (BitVec 64)=>(fun D5 : List (BitVec 64)=>(fun D4 : Sg=>(fun D3 : List (BitVec 64)=>(fun D2 : List (BitVec 8)=>(fun D1 : List (BitVec 8)=>(fun D0 : Op=>IsSg [Va e1,Va e2,Fa e3,Fa e4,U8 e5,Va e6,Va e7,Bb a1,Va a2,Bb a3,U8 a4,Bb a5,XS kr 0 kn,Bb a6,Fa a7,Fa a8,Bb a9,U8 b1,U8 b2,U8 c0,U8 c1,U8 c2,U8 c3,U8 c4,U8 c5,U8 c6,U8 c7,U8 c8,U8 c9,U8 d0,U8 d1,XS dr 0 dn]/\(maySg D4=true->(IsO [Bb a1,Va a2,Bb a3,U8 a4,Bb a5,XS kr 0 kn,Bb a6,Fa a7,Fa a8,Bb a9,U8 b1,U8 b2,U8 c0,U8 c1,U8 c2,U8 c3,U8 c4,U8 c5,U8 c6,U8 c7,U8 c8,U8 c9,U8 d0,U8 d1]/\mayO D0=true)/\Qb (hide (List.map U8 (layO D0)))/\((!decide ((0:Int)=(0:Int)))=true->Q (TU [O1 NS,O1 (I64 (0:Int))]) [])/\((!decide ((0:Int)=(0:Int)))=false->Va e1=Va e1/\Va e2=Va e2/\2<=2/\Flat (take 2 (drop 0 [Nc (BitVec.setWidth 64 e1),Nc (BitVec.setWidth 64 e2)]))/\(Oa []/\0=0/\0<=100000000/\take 2 (drop 0 [Nc (BitVec.setWidth 64 e1),Nc (BitVec.setWidth 64 e2)])=List.map Nc D6/\2=2/\2<=1000000)/\Qb (hide (List.map U8 D2))/\Fa e3=Fa e3/\Fa e4=Fa e4/\4<=List.length (hide (List.map U8 D2))/\Flat (take 4 (drop 0 (hide (List.map U8 D2))))/\2<=2/\Flat (take 2 (drop 0 [Nc (BitVec.setWidth 64 e3),Nc (BitVec.setWidth 64 e4)]))/\(Oa (take 4 (drop 0 (hide (List.map U8 D2))))/\List.length (take 4 (drop 0 (hide (List.map U8 D2))))=4/\4<=100000000/\take 2 (drop 0 [Nc (BitVec.setWidth 64 e3),Nc (BitVec.setWidth 64 e4)])=List.map Nc D5/\2=2/\2<=1000000)/\Qb (hide (List.map U8 D1))/\La ((20:Int)+(↑(List.length (layO D0)):Int))/\U8 e5=U8 e5/\2<=2/\(14<=140737488355328/\14<=4611686018427387904)/\List.length (hide (List.map U8 D1))=12/\Va e6=Va e6/\Va e7=Va e7/\14<=List.length (hide (List.map U8 D1)++take 2 (drop 0 [U8 (BitVec.ofInt 8 ((20:Int)+(↑(List.length (layO D0)):Int))<<<2),U8 e5]))/\Flat (take 14 (drop 0 (hide (List.map U8 D1)++take 2 (drop 0 [U8 (BitVec.ofInt 8 ((20:Int)+(↑(List.length (layO D0)):Int))<<<2),U8 e5]))))/\3<=3/\Flat (take 3 (drop 0 [Nc (BitVec.setWidth 64 e6),Zc (Value.int IntKind.u64 0),Nc (BitVec.setWidth 64 e7)]))/\(Oa (take 14 (drop 0 (hide (List.map U8 D1)++take 2 (drop 0 [U8 (BitVec.ofInt 8 ((20:Int)+(↑(List.length (layO D0)):Int))<<<2),U8 e5]))))/\List.length (take 14 (drop 0 (hide (List.map U8 D1)++take 2 (drop 0 [U8 (BitVec.ofInt 8 ((20:Int)+(↑(List.length (layO D0)):Int))<<<2),U8 e5]))))=14/\14<=100000000/\take 3 (drop 0 [Nc (BitVec.setWidth 64 e6),Zc (Value.int IntKind.u64 0),Nc (BitVec.setWidth 64 e7)])=List.map Nc D3/\3=3/\3<=1000000)/\Qb (hide (List.map U8 (ptB (List.map Ea (take 14 (drop 0 (hide (List.map U8 D1)++take 2 (drop 0 [U8 (BitVec.ofInt 8 ((20:Int)+(↑(List.length (layO D0)):Int))<<<2),U8 e5]))))) (2:Int) D3)))/\Flat (Bb s::as')/\Flat (Bb t::bs)/\Flat [Va e1,Va e2,Fa e3,Fa e4,U8 e5,Va e6,Va e7,Bb a1,Va a2,Bb a3,U8 a4,Bb a5,XS kr 0 kn,Bb a6,Fa a7,Fa a8,Bb a9,U8 b1,U8 b2,U8 c0,U8 c1,U8 c2,U8 c3,U8 c4,U8 c5,U8 c6,U8 c7,U8 c8,U8 c9,U8 d0,U8 d1,XS dr 0 dn]/\Flat (hide (List.map U8 (layO D0)))/\Flat (hide (List.map U8 (ptB (List.map Ea (take 14 (drop 0 (hide (List.map U8 D1)++take 2 (drop 0 [U8 (BitVec.ofInt 8 ((20:Int)+(↑(List.length (layO D0)):Int))<<<2),U8 e5]))))) (2:Int) D3)))/\KR X 99 0 Q (Ub Try.f99 9) (mkS 80 [(3,O1 (PT 0 0)),(4,O1 (PT 1 0)),(5,O1 (PT 2 0)),(8,O1 (GS 3 (List.length (layO D0)) 1)),(10,O1 (GS 4 20 1))]) [some (Bb s::as'),some (Bb t::bs),some [Va e1,Va e2,Fa e3,Fa e4,U8 e5,Va e6,Va e7,Bb a1,Va a2,Bb a3,U8 a4,Bb a5,XS kr 0 kn,Bb a6,Fa a7,Fa a8,Bb a9,U8 b1,U8 b2,U8 c0,U8 c1,U8 c2,U8 c3,U8 c4,U8 c5,U8 c6,U8 c7,U8 c8,U8 c9,U8 d0,U8 d1,XS dr 0 dn],some (hide (List.map U8 (layO D0))),some (hide (List.map U8 (ptB (List.map Ea (take 14 (drop 0 (hide (List.map U8 D1)++take 2 (drop 0 [U8 (BitVec.ofInt 8 ((20:Int)+(↑(List.length (layO D0)):Int))<<<2),U8 e5]))))) (2:Int) D3)))]))/\(maySg D4=false->Q (TU [O1 NS,O1 (I64 (1:Int))]) [])) (oOf (nrL [Bb a1,Va a2,Bb a3,U8 a4,Bb a5,XS kr 0 kn,Bb a6,Fa a7,Fa a8,Bb a9,U8 b1,U8 b2,U8 c0,U8 c1,U8 c2,U8 c3,U8 c4,U8 c5,U8 c6,U8 c7,U8 c8,U8 c9,U8 d0,U8 d1]))) (ptB (List.map Ea (take 4 (drop 0 (hide (List.map U8 D2))))) (4:Int) D5)) (ptB (List.map Ea []) (2:Int) D6)) (asN (take 3 (drop 0 [Nc (BitVec.setWidth 64 e6),Zc (Value.int IntKind.u64 0),Nc (BitVec.setWidth 64 e7)])))) (sgOf (nrL [Va e1,Va e2,Fa e3,Fa e4,U8 e5,Va e6,Va e7,Bb a1,Va a2,Bb a3,U8 a4,Bb a5,XS kr 0 kn,Bb a6,Fa a7,Fa a8,Bb a9,U8 b1,U8 b2,U8 c0,U8 c1,U8 c2,U8 c3,U8 c4,U8 c5,U8 c6,U8 c7,U8 c8,U8 c9,U8 d0,U8 d1,XS dr 0 dn]))) (asN (take 2 (drop 0 [Nc (BitVec.setWidth 64 e3),Nc (BitVec.setWidth 64 e4)])))) (asN (take 2 (drop 0 [Nc (BitVec.setWidth 64 e1),Nc (BitVec.setWidth 64 e2)])))) : Ia X 99 0 Q ([.code (Na Try.f99)]) (slots [.agg (.b s::as'),.agg (.b t::bs),.agg [.u16 e1,.u16 e2,.u32 e3,.u32 e4,.u8 e5,.u16 e6,.u16 e7,.b a1,.u16 a2,.b a3,.u8 a4,.b a5,.xs kr 0 kn,.b a6,.u32 a7,.u32 a8,.b a9,.u8 b1,.u8 b2,.u8 c0,.u8 c1,.u8 c2,.u8 c3,.u8 c4,.u8 c5,.u8 c6,.u8 c7,.u8 c8,.u8 c9,.u8 d0,.u8 d1,.xs dr 0 dn]] Try.f99.ntmps) [] :=
 wR hX WVC1 ok99 [13,22] [(10,2),(100009,0),(100010,0),(200010,0)] [true] [(10,[3,4,5,8,10],[true,true,true,true,true]),(11,[3,4,10],[true,true,true,true,true])] h (by kernel_rfl)
theorem vc99b {X} {Q : QT} (hX : PX X) (s t : Bool) (as' bs : List AC) (e1 e2:BitVec 16) (e3 e4:BitVec 32) (e5:BitVec 8) (e6 e7:BitVec 16) (a1 : Bool) (a2:BitVec 16) (a3 : Bool) (a4:BitVec 8) (a5 : Bool) (kr : List AC) (kn:Nat) (a6 : Bool) (a7 a8:BitVec 32) (a9 : Bool) (b1 b2 c0 c1 c2 c3 c4 c5 c6 c7 c8 c9 d0 d1:BitVec 8) (dr : List AC) (dn:Nat) (or hr : List AC) (m:Nat) (h : (fun D0 : List AC=>(fun L0 : Prop=>(L0)/\L0) (0+m*1<=List.length or/\((20+m)*1<=140737488355328/\20+m<=4611686018427387904)/\List.length hr=20/\0+dn*1<=List.length dr/\((20+m+dn)*1<=140737488355328/\20+m+dn<=4611686018427387904)/\List.length (hr++take (m*1) (drop 0 or))=(20+m)*1/\Flat (Bb s::as')/\Flat (Bb t::bs)/\Flat D0/\KR X 99 0 Q (Ub Try.f99 10) (mkS 80 [(3,O1 (PT 0 0)),(4,O1 (PT 1 0)),(10,O1 (GS 2 (20+m+dn) 1))]) [some (Bb s::as'),some (Bb t::bs),some D0])) (hr++take (m*1) (drop 0 or)++take (dn*1) (drop 0 dr))) : Ia X 99 0 Q (Ub Try.f99 9) (mkS 80 [(3,.one (.ptr 0 0)),(4,.one (.ptr 1 0)),(5,.one (.ptr 2 0)),(8,.one (.gs 3 m 1)),(10,.one (.gs 4 20 1))]) [some (.b s::as'),some (.b t::bs),some [.u16 e1,.u16 e2,.u32 e3,.u32 e4,.u8 e5,.u16 e6,.u16 e7,.b a1,.u16 a2,.b a3,.u8 a4,.b a5,.xs kr 0 kn,.b a6,.u32 a7,.u32 a8,.b a9,.u8 b1,.u8 b2,.u8 c0,.u8 c1,.u8 c2,.u8 c3,.u8 c4,.u8 c5,.u8 c6,.u8 c7,.u8 c8,.u8 c9,.u8 d0,.u8 d1,.xs dr 0 dn],some or,some hr] :=
 wR hX WVC1 ok99 [13,22] [(10,2),(100009,0),(100010,0),(200010,0)] [true] [(10,[3,4,5,8,10],[true,true,true,true,true]),(11,[3,4,10],[true,true,true,true,true])] h (by kernel_rfl)
theorem vc99c {X} {Q : QT} (hX : PX X) (s t : Bool) (as' bs hr : List AC) (m:Nat) (h : (fun D1 : BitVec 8=>(fun D0 : List AC=>17<=List.length (Bb s::as')/\17<=List.length (Bb t::bs)/\Flat (take 17 (drop 0 (Bb s::as')))/\Flat (take 17 (drop 0 (Bb t::bs)))/\0+m*1<=List.length hr/\Flat (take (m*1) (drop 0 hr))/\(Oa (take 16 as')/\List.length (take 16 as')=16/\Oa (take 16 bs)/\List.length (take 16 bs)=16/\Oa (take (m*1) (drop 0 hr))/\List.length (take (m*1) (drop 0 hr))=m/\m<=1000000)/\((0:Int)<=(16:Int)/\(16:Int)<(↑m:Int))/\(1=1/\17<=List.length hr)/\((0:Int)<=(17:Int)/\(17:Int)<(↑m:Int))/\(1=1/\18<=List.length D0)/\Flat (Qa D0 17 [U8 D1])/\Q (TU [O1 (GS 0 m 1),O1 (I64 (0:Int))]) [some (Qa D0 17 [U8 D1])]) (Qa hr 16 [U8 (BitVec.setWidth 8 (~~~foldF (sumP [psX s t (List.map Ea (take 16 as')) (List.map Ea (take 16 bs)) (BitVec.ofInt 8 6) (↑m:Int),List.map Ea (take (m*1) (drop 0 hr))] (0:BitVec 64))>>>8))])) (BitVec.setWidth 8 (~~~foldF (sumP [psX s t (List.map Ea (take 16 as')) (List.map Ea (take 16 bs)) (BitVec.ofInt 8 6) (↑m:Int),List.map Ea (take (m*1) (drop 0 hr))] (0:BitVec 64))))) : Ia X 99 0 Q (Ub Try.f99 10) (mkS 80 [(3,.one (.ptr 0 0)),(4,.one (.ptr 1 0)),(10,.one (.gs 2 m 1))]) [some (.b s::as'),some (.b t::bs),some hr] :=
 wR hX WVC1 ok99 [13,22] [(10,2),(100009,0),(100010,0),(200010,0)] [true] [(10,[3,4,5,8,10],[true,true,true,true,true]),(11,[3,4,10],[true,true,true,true,true])] h (by kernel_rfl)
theorem set_at {α : Type _} (x x' : α) (q : List α) : ∀ (p : List α) (k:Nat), p.length = k → (p ++ x :: q).set k x' = p ++ x' :: q
 | [], k, h => by subst h; rfl
 | a :: p, k, h => by
  cases k with
  | zero => simp at h
  | succ k =>
   show a :: (p ++ x :: q).set k x' = a :: (p ++ x' :: q)
   rw [set_at x x' q p k (by simpa using h)]
def p16 (s : Sg) : BO := b16 s.src ++ (b16 s.dst ++ (b32 s.seq ++ (b32 s.ack ++ ([offB (layO s.op).length, s.fl] ++ b16 s.win))))
def q16 (s : Sg) : BO := b16 s.urg ++ (layO s.op ++ s.data)
theorem segC_pq (s : Sg) (c : BO) : segC s c = p16 s ++ (c ++ q16 s) := by
 unfold segC hd20 p16 q16
 simp only [List.append_assoc]
theorem p16_len (s : Sg) : (p16 s).length = 16 := by
 unfold p16
 simp only [List.length_append, b16_len, b32_len, List.length_cons, List.length_nil]
theorem segC_set (s : Sg) (x y x' y':BitVec 8) : ((segC s [x, y]).set 16 x').set 17 y' = segC s [x', y'] := by
 rw [segC_pq, segC_pq]
 show ((p16 s ++ x :: (y :: q16 s)).set 16 x').set 17 y' = p16 s ++ x' :: (y' :: q16 s)
 rw [set_at x x' _ _ 16 (p16_len s), show p16 s ++ x' :: (y :: q16 s) = (p16 s ++ [x']) ++ y :: q16 s by simp only [List.append_assoc, List.cons_append, List.nil_append],
  set_at y y' _ _ 17 (by rw [List.length_append, p16_len]; rfl)]
 simp only [List.append_assoc, List.cons_append, List.nil_append]
theorem segC_len (s : Sg) {c : BO} (h : c.length = 2) : (segC s c).length = 20 + (layO s.op).length + s.data.length := by
 unfold segC
 rw [List.length_append, hd20_len _ _ h, List.length_append]
 omega
def ckV (s t : Bool) (a b : BO) (g : Sg) : BitVec 16 := ~~~foldF (sumP [psX s t a b 6 (segC g z2b).length, segC g z2b] 0)
def ckB (s t : Bool) (a b : BO) (g : Sg) : BO := [((ckV s t a b g) >>> 8).setWidth 8, (ckV s t a b g).setWidth 8]
theorem pt22 (x y:BitVec 16) : ptB [] 2 [x.setWidth 64, y.setWidth 64] = b16 x ++ b16 y := by
 unfold ptB putL b16
 rw [szN2, List.flatMap_cons, List.flatMap_cons, List.flatMap_nil, List.append_nil, List.nil_append]
theorem pt222 (w : BO) (x y:BitVec 16) : ptB w 2 [x.setWidth 64, 0, y.setWidth 64] = w ++ (b16 x ++ (z2b ++ b16 y)) := by
 unfold ptB putL b16
 rw [szN2, List.flatMap_cons, List.flatMap_cons, List.flatMap_cons, List.flatMap_nil, List.append_nil]
 rfl
theorem tk3u (u v:BitVec 64) : take 3 (drop 0 [Nc u, Zc (Value.int IntKind.u64 0), Nc v]) = [u, 0, v].map Nc := rfl
theorem bflat (s : Bool) (a : BO) : Flat (Bb s :: a.map U8) := fun c h => by
 rcases List.mem_cons.1 h with rfl | h
 ·rfl
 ·exact Aa _ c h
theorem l99c {X : Ctx} (hX : X.P = Try.prog) (s t : Bool) (a b : BO) (ha : a.length = 16) (hb : b.length = 16) (g : Sg) (hg : (segC g z2b).length ≤ 100000) :
  Ia X 99 0 (Are (.Ec [.one (.gs 0 (segC g (ckB s t a b g)).length 1), .one (.i64 0)]) [some ((segC g (ckB s t a b g)).map U8)]) (Ub Try.f99 10) (mkS 80 [(3, .one (.ptr 0 0)), (4, .one (.ptr 1 0)), (10, .one (.gs 2 (segC g z2b).length 1))]) [some (.b s :: a.map U8), some (.b t :: b.map U8), some ((segC g z2b).map U8)] := by
 refine vc99c hX _ _ _ _ _ _ ?_
 have ta : take 16 (a.map U8) = a.map U8 := List.take_of_length_le (by rw [List.length_map]; omega)
 have tb : take 16 (b.map U8) = b.map U8 := List.take_of_length_le (by rw [List.length_map]; omega)
 have sa : take 17 (Bb s :: a.map U8) = Bb s :: a.map U8 := List.take_of_length_le (by rw [List.length_cons, List.length_map]; omega)
 have sb : take 17 (Bb t :: b.map U8) = Bb t :: b.map U8 := List.take_of_length_le (by rw [List.length_cons, List.length_map]; omega)
 have la : (Bb s :: a.map U8).length = 17 := by rw [List.length_cons, List.length_map, ha]
 have lb : (Bb t :: b.map U8).length = 17 := by rw [List.length_cons, List.length_map, hb]
 have hL := segC_len g (c := z2b) rfl
 have hL2 := segC_len g (c := ckB s t a b g) rfl
 have hs := segC_set g 0 0 (((ckV s t a b g) >>> 8).setWidth 8) ((ckV s t a b g).setWidth 8)
 have hs : ((segC g z2b).set 16 (((ckV s t a b g) >>> 8).setWidth 8)).set 17 ((ckV s t a b g).setWidth 8) = segC g (ckB s t a b g) := hs
 have hv : ~~~foldF (sumP [psX s t a b (BitVec.ofInt 8 6) (segC g z2b).length, segC g z2b] 0) = ckV s t a b g := rfl
 simp only [List.drop_zero, ta, tb, sa, sb, tk0', Ua]
 simp only [hv, Xd, hs, List.length_map, List.length_set, la, lb, ha, hb]
 rw [← hL] at hL2
 rw [← hL2] at hg ⊢
 have fa := bflat s a
 have fb := bflat t b
 clear hs hv
 generalize segC g (ckB s t a b g) = W at *
 generalize segC g z2b = W0 at *
 (repeat' (first | exact trivial | exact fa | exact fb | exact Aa _ | exact Ba _ | exact Ud _ | exact rfl | exact Nat.le_refl _ | refine And.intro ?_ ?_)) <;> omega
theorem s99 (s t : Bool) (a b : BO) (ha : a.length = 16) (hb : b.length = 16) (g : Sg) (hl : g.op.mac.length = 12) (hm : maySg g = true) :
  Spec Try.prog 99 [.agg (.b s :: a.map U8), .agg (.b t :: b.map U8), .agg (sgC g)] [] ((Are (.Ec [.one (.gs 0 (segC g (ckB s t a b g)).length 1), .one (.i64 0)]) [some ((segC g (ckB s t a b g)).map U8)])) := by
 have hI := isSg_C hl
 have hO := sgOf_C hl
 have hI2 := isO_C hl
 have hO2 := oOf_C hl
 have hLo := layO_len hl
 have hz : mayO g.op = true ∧ g.data.length ≤ 16384 ∧ sizN g.op ≤ 40 := by
  unfold maySg at hm
  simp only [Bool.and_eq_true, decide_eq_true_eq] at hm
  refine ⟨hm.1.1, hm.2, ?_⟩
  have := hm.1.1
  unfold mayO at this
  simp only [Bool.and_eq_true, decide_eq_true_eq] at this
  exact this.2
 obtain ⟨hz1, hz2, hz3⟩ := hz
 have hL := segC_len g (c := z2b) rfl
 have hf : Flat (sgC g) := by
  obtain ⟨e1, e2, e3, e4, e5, e6, e7, ⟨a1, a2, a3, a4, a5, a6, a7, a8, a9, b1, b2, mc, sk⟩, dt⟩ := g
  obtain ⟨c0, c1, c2, c3, c4, c5, c6, c7, c8, c9, d0, d1, rfl⟩ := twelve hl
  exact Ib rfl
 refine Spec.of_run ok99 fun X hX => ?_
 have K10 := l99c hX s t a b ha hb g (by omega)
 have fa := bflat s a
 have fb := bflat t b
 have K9 : Ia X 99 0 ((Are (.Ec [.one (.gs 0 (segC g (ckB s t a b g)).length 1), .one (.i64 0)]) [some ((segC g (ckB s t a b g)).map U8)])) (Ub Try.f99 9) (mkS 80 [(3, .one (.ptr 0 0)), (4, .one (.ptr 1 0)), (5, .one (.ptr 2 0)), (8, .one (.gs 3 (layO g.op).length 1)), (10, .one (.gs 4 20 1))]) [some (.b s :: a.map U8), some (.b t :: b.map U8), some (sgC g), some ((layO g.op).map U8), some ((hd20 g (layO g.op).length z2b).map U8)] := by
  have hh := hd20_len g (layO g.op).length (c := z2b) rfl
  have e : (hd20 g (layO g.op).length z2b).map U8 ++ (layO g.op).map U8 ++ g.data.map U8 = (segC g z2b).map U8 := by
   unfold segC
   rw [List.map_append, List.map_append, List.append_assoc]
  clear hI hI2 hO hO2 hm
  revert K10
  generalize ((Are (.Ec [.one (.gs 0 (segC g (ckB s t a b g)).length 1), .one (.i64 0)]) [some ((segC g (ckB s t a b g)).map U8)])) = Q
  intro K10
  rw [hL] at K10
  obtain ⟨e1, e2, e3, e4, e5, e6, e7, o, dt⟩ := g
  dsimp only at *
  generalize layO o = lo at *
  obtain ⟨a1, a2, a3, a4, a5, a6, a7, a8, a9, b1, b2, mc, sk⟩ := o
  obtain ⟨c0, c1, c2, c3, c4, c5, c6, c7, c8, c9, d0, d1, rfl⟩ := twelve hl
  have G : ∀ P : Prop, P → P ∧ P := fun P h => ⟨h, h⟩
  refine vc99b hX _ _ _ _ _ _ _ _ _ _ _ _ _ _ _ _ _ _ _ _ _ _ _ _ _ _ _ _ _ _ _ _ _ _ _ _ _ _ _ _ _ (G _ ?_)
  try dsimp only
  rw [tk lo, tk dt, e]
  simp only [List.length_append, List.length_map, hh]
  (repeat' (first | exact trivial | exact fa | exact fb | exact Aa _ | exact rfl | exact Nat.le_refl _ | exact ⟨K10⟩ | refine And.intro ?_ ?_)) <;> omega
 have hk1 : ∀ l : BO, take 4 (drop 0 ((b16 g.src ++ b16 g.dst).map U8)) = (b16 g.src ++ b16 g.dst).map U8 := fun _ => tkL _ 4 (by rw [List.length_append, b16_len, b16_len])
 have e1l : (b16 g.src ++ b16 g.dst).length = 4 := by rw [List.length_append, b16_len, b16_len]
 have e2l : (b16 g.src ++ b16 g.dst ++ (b32 g.seq ++ b32 g.ack)).length = 12 := by rw [List.length_append, e1l, List.length_append, b32_len, b32_len]
 have e3' : (b16 g.src ++ b16 g.dst ++ (b32 g.seq ++ b32 g.ack)).map U8 ++ take 2 (drop 0 [U8 (BitVec.ofInt 8 (20 + ((layO g.op).length:Int)) <<< 2), U8 g.fl]) = (b16 g.src ++ b16 g.dst ++ (b32 g.seq ++ b32 g.ack) ++ [offB (layO g.op).length, g.fl]).map U8 := by
  refine lay_app _ _ _ _ ?_
  unfold offB
  rw [show (20 + ((layO g.op).length:Int)) = ((20 + (layO g.op).length:Nat):Int) by omega]
  rfl
 have e3l : (b16 g.src ++ b16 g.dst ++ (b32 g.seq ++ b32 g.ack) ++ [offB (layO g.op).length, g.fl]).length = 14 := by rw [List.length_append, e2l]; rfl
 have e4' : b16 g.src ++ b16 g.dst ++ (b32 g.seq ++ b32 g.ack) ++ [offB (layO g.op).length, g.fl] ++ (b16 g.win ++ (z2b ++ b16 g.urg)) = hd20 g (layO g.op).length z2b := by
  unfold hd20
  simp only [List.append_assoc]
 have e4l := hd20_len g (layO g.op).length (c := z2b) rfl
 have t1 := tkL _ 4 e1l
 have t3 := tkL _ 14 e3l
 simp only [Nat.mul_one] at t1 t3
 clear K10 hL
 revert K9
 generalize ((Are (.Ec [.one (.gs 0 (segC g (ckB s t a b g)).length 1), .one (.i64 0)]) [some ((segC g (ckB s t a b g)).map U8)])) = Q
 intro K9
 obtain ⟨e1, e2, e3, e4, e5, e6, e7, o, dt⟩ := g
 dsimp only at *
 obtain ⟨a1, a2, a3, a4, a5, a6, a7, a8, a9, b1, b2, mc, sk⟩ := o
 obtain ⟨c0, c1, c2, c3, c4, c5, c6, c7, c8, c9, d0, d1, rfl⟩ := twelve hl
 have hT : oOf (nrL [.b a1, .u16 a2, .b a3, .u8 a4, .b a5, .xs (sakC sk) 0 sk.length, .b a6, .u32 a7, .u32 a8, .b a9, .u8 b1, .u8 b2, .u8 c0, .u8 c1, .u8 c2, .u8 c3, .u8 c4, .u8 c5, .u8 c6, .u8 c7, .u8 c8, .u8 c9, .u8 d0, .u8 d1]) = ⟨a1, a2, a3, a4, a5, a6, a7, a8, a9, b1, b2, [c0, c1, c2, c3, c4, c5, c6, c7, c8, c9, d0, d1], sk⟩ := hO2
 refine vc99 hX _ _ _ _ _ _ _ _ _ _ _ _ _ _ _ _ _ _ _ _ _ _ _ _ _ _ _ _ _ _ _ _ _ _ _ _ _ _ ⟨hI, fun h => ?_, fun h => ?_⟩
 ·clear h hm hO hO2
  rw [hT]
  generalize hlo : layO (⟨a1, a2, a3, a4, a5, a6, a7, a8, a9, b1, b2, [c0, c1, c2, c3, c4, c5, c6, c7, c8, c9, d0, d1], sk⟩ : Op) = lo at *
  have G : ∀ P : Prop, P → ((!decide ((0:Int) = 0)) = true → Q (.Ec [.one .ns, .one (.i64 0)]) []) ∧ ((!decide ((0:Int) = 0)) = false → P) := fun P h => ⟨fun h => absurd h (by decide), fun _ => h⟩
  refine ⟨⟨hI2, hz1⟩, by rw [Ja]; exact Ud _, G _ ?_⟩
  simp only [List.map_nil, tk2u, asN_map, Ua, Ja, pt22, t1, pt44, e3', t3, tk3u, pt222, e4', List.length_map, e1l, e2l, e3l]
  have zA : Oa ([] : List AC) := rfl
  (repeat' (first | exact trivial | exact fa | exact fb | exact hf | exact zA | exact Aa _ | exact flat_u64 _ | exact Ba _ | exact Ud _ | exact rfl | exact Nat.le_refl _ | exact ⟨K9⟩ | refine And.intro ?_ ?_)) <;> first | omega | (unfold La; omega)
 ·erw [hO] at h
  rw [hm] at h; cases h
theorem ok43 : Ac Try.prog 43 Try.f43 (Na Try.f43) := .of Try.func43 (by kernel_rfl) (by kernel_rfl)
noncomputable def MV4 : Ad := fun f xs m => match f, xs, m with
 | 99, [.agg (.b s :: xr), .agg (.b t :: yr), .agg cs], [] => some ([Oa xr ∧ xr.length = 16 ∧ Oa yr ∧ yr.length = 16 ∧ IsSg cs ∧ maySg (sgOf (nrL cs)) = true], .Ec [.one (.gs 0 (segC (sgOf (nrL cs)) (ckB s t (xr.map Ea) (yr.map Ea) (sgOf (nrL cs)))).length 1), .one (.i64 0)], [some (hide ((segC (sgOf (nrL cs)) (ckB s t (xr.map Ea) (yr.map Ea) (sgOf (nrL cs)))).map U8))])
 | f, xs, m => MV3 f xs m
noncomputable def mfV4 : FuncId → Option MF := fun f => match f with
 | 99 => some { cs := { kinds := [], fl := [] }, flo := [true], fresh := true }
 | f => mfV3 f
theorem bsh_nr (s : Bool) {xr : List AC} (h : xr = (xr.map Ea).map U8) : nrV (.agg (.b s :: xr)) = .agg (.b s :: xr) := by
 show AG (Bb s :: xr.map nrC) = _
 rw [h, List.map_map]
 rfl
theorem MV4_ok : Xc Try.prog MV4 := by
 intro f xs m0 cs r m1 h hc
 unfold MV4 at h
 split at h
 ·simp only [Option.some.injEq, Prod.mk.injEq] at h; obtain ⟨rfl, rfl, rfl⟩ := h
  rename_i s xr t yr cs
  obtain ⟨h1, h2, h3, h4, h5, h6⟩ := hc.1
  have := s99 s t (xr.map Ea) (yr.map Ea) (by rw [List.length_map]; exact h2) (by rw [List.length_map]; exact h4) (sgOf (nrL cs)) h5.len h6
  rw [← h5.eq, ← h1, ← h3] at this
  rw [Ja]
  refine ⟨⟨_, _, ok99⟩, Spec.nr ?_⟩
  rw [List.map_cons, List.map_cons, bsh_nr s h1, bsh_nr t h3]
  exact this
 ·exact MV3_ok _ _ _ _ _ _ h hc
def WVC2 : WC := ⟨envP TV8 mfV4 MV4,envP_ok TV8 mfV4 MV4,Ed TV8_ok MV4_ok⟩
theorem vc43 {X} {Q : QT} (hX : PX X) (s t cov : Bool) (as' bs : List AC) (e1 e2:BitVec 16) (e3 e4:BitVec 32) (e5:BitVec 8) (e6 e7:BitVec 16) (a1 : Bool) (a2:BitVec 16) (a3 : Bool) (a4:BitVec 8) (a5 : Bool) (kr : List AC) (kn:Nat) (a6 : Bool) (a7 a8:BitVec 32) (a9 : Bool) (b1 b2 c0 c1 c2 c3 c4 c5 c6 c7 c8 c9 d0 d1:BitVec 8) (dr : List AC) (dn:Nat) (sn:BitVec 32) (h : (fun D6 : List (BitVec 8)=>(fun D5 : List (BitVec 8)=>(fun D4 : Sg=>(fun D3 : Sg=>(fun D2 : Op=>(fun D1 : BO=>(fun D0 : Sg=>(a9=true->IsSg [Va e1,Va e2,Fa e3,Fa e4,U8 e5,Va e6,Va e7,Bb a1,Va a2,Bb a3,U8 a4,Bb a5,XS kr 0 kn,Bb a6,Fa a7,Fa a8,Bb a9,U8 b1,U8 b2,U8 c0,U8 c1,U8 c2,U8 c3,U8 c4,U8 c5,U8 c6,U8 c7,U8 c8,U8 c9,U8 d0,U8 d1,XS dr 0 dn]/\(maySg D4=true->(12=12/\31<=32)/\(cov=true->17<=List.length (Bb s::as')/\17<=List.length (Bb t::bs)/\Flat (take 17 (drop 0 (Bb s::as')))/\Flat (take 17 (drop 0 (Bb t::bs)))/\(Oa (take 16 as')/\List.length (take 16 as')=16/\Oa (take 16 bs)/\List.length (take 16 bs)=16/\IsSg ([Va e1,Va e2,Fa e3,Fa e4,U8 e5,Va e6,Va e7,Bb a1,Va a2,Bb a3,U8 a4,Bb a5,XS kr 0 kn,Bb a6,Fa a7,Fa a8,Bb a9,U8 b1,U8 b2]++(replicate 12 (U8 0)++[XS dr 0 dn]))/\maySg D3=true)/\Qb (hide (List.map U8 D1))/\((!decide ((0:Int)=(0:Int)))=true->Q (TU [O1 NS,O1 (I64 (0:Int))]) [])/\((!decide ((0:Int)=(0:Int)))=false->((0:Int)<=(16:Int)/\(16:Int)<(↑(List.length D1):Int))/\(1=1/\17<=List.length (hide (List.map U8 D1)))/\((0:Int)<=(17:Int)/\(17:Int)<(↑(List.length D1):Int))/\(1=1/\18<=List.length (Qa (hide (List.map U8 D1)) 16 [Zc (Value.int IntKind.u8 0)]))/\Flat (Bb s::as')/\Flat (Bb t::bs)/\Flat (Qa (Qa (hide (List.map U8 D1)) 16 [Zc (Value.int IntKind.u8 0)]) 17 [Zc (Value.int IntKind.u8 0)])/\KR X 43 0 Q (Ub Try.f43 9) (mkS 61 [(3,O1 (Fa sn)),(5,O1 (PT 0 0)),(6,O1 (PT 1 0)),(12,O1 (GS 2 (List.length D1) 1))]) [some (Bb s::as'),some (Bb t::bs),some (Qa (Qa (hide (List.map U8 D1)) 16 [Zc (Value.int IntKind.u8 0)]) 17 [Zc (Value.int IntKind.u8 0)])]))/\(cov=false->(IsO ([Bb a1,Va a2,Bb a3,U8 a4,Bb a5,XS kr 0 kn,Bb a6,Fa a7,Fa a8,Bb a9,U8 b1,U8 b2]++replicate 12 (U8 0))/\Op.hasA D2=true)/\17<=List.length (Bb s::as')/\17<=List.length (Bb t::bs)/\Flat (take 17 (drop 0 (Bb s::as')))/\Flat (take 17 (drop 0 (Bb t::bs)))/\(Oa (take 16 as')/\List.length (take 16 as')=16/\Oa (take 16 bs)/\List.length (take 16 bs)=16/\IsSg ([Va e1,Va e2,Fa e3,Fa e4,U8 e5,Va e6,Va e7,Bb false,Va 0,Bb false,U8 0,Bb false,NS,Bb false,Fa 0,Fa 0,Bb true,U8 (Op.kid D2),U8 (Op.nid D2)]++(replicate 12 (U8 0)++[XS dr 0 dn]))/\maySg D0=true)/\Qb (hide (List.map U8 (segC D0 (ckB s t D5 D6 D0))))/\((!decide ((0:Int)=(0:Int)))=true->Q (TU [O1 NS,O1 (I64 (0:Int))]) [])/\((!decide ((0:Int)=(0:Int)))=false->((0:Int)<=(16:Int)/\(16:Int)<(↑(List.length (segC D0 (ckB s t D5 D6 D0))):Int))/\(1=1/\17<=List.length (hide (List.map U8 (segC D0 (ckB s t D5 D6 D0)))))/\((0:Int)<=(17:Int)/\(17:Int)<(↑(List.length (segC D0 (ckB s t D5 D6 D0))):Int))/\(1=1/\18<=List.length (Qa (hide (List.map U8 (segC D0 (ckB s t D5 D6 D0)))) 16 [Zc (Value.int IntKind.u8 0)]))/\Flat (Bb s::as')/\Flat (Bb t::bs)/\Flat (Qa (Qa (hide (List.map U8 (segC D0 (ckB s t D5 D6 D0)))) 16 [Zc (Value.int IntKind.u8 0)]) 17 [Zc (Value.int IntKind.u8 0)])/\KR X 43 0 Q (Ub Try.f43 9) (mkS 61 [(3,O1 (Fa sn)),(5,O1 (PT 0 0)),(6,O1 (PT 1 0)),(12,O1 (GS 2 (List.length (segC D0 (ckB s t D5 D6 D0))) 1))]) [some (Bb s::as'),some (Bb t::bs),some (Qa (Qa (hide (List.map U8 (segC D0 (ckB s t D5 D6 D0)))) 16 [Zc (Value.int IntKind.u8 0)]) 17 [Zc (Value.int IntKind.u8 0)])])))/\(maySg D4=false->Q (TU [O1 NS,O1 (I64 (1:Int))]) []))/\(a9=false->Q (TU [O1 NS,O1 (I64 (1:Int))]) [])) (sgOf (nrL ([Va e1,Va e2,Fa e3,Fa e4,U8 e5,Va e6,Va e7,Bb false,Va 0,Bb false,U8 0,Bb false,NS,Bb false,Fa 0,Fa 0,Bb true,U8 (Op.kid D2),U8 (Op.nid D2)]++(replicate 12 (U8 0)++[XS dr 0 dn]))))) (segC D3 (ckB s t D5 D6 D3))) (oOf (nrL ([Bb a1,Va a2,Bb a3,U8 a4,Bb a5,XS kr 0 kn,Bb a6,Fa a7,Fa a8,Bb a9,U8 b1,U8 b2]++replicate 12 (U8 0))))) (sgOf (nrL ([Va e1,Va e2,Fa e3,Fa e4,U8 e5,Va e6,Va e7,Bb a1,Va a2,Bb a3,U8 a4,Bb a5,XS kr 0 kn,Bb a6,Fa a7,Fa a8,Bb a9,U8 b1,U8 b2]++(replicate 12 (U8 0)++[XS dr 0 dn]))))) (sgOf (nrL [Va e1,Va e2,Fa e3,Fa e4,U8 e5,Va e6,Va e7,Bb a1,Va a2,Bb a3,U8 a4,Bb a5,XS kr 0 kn,Bb a6,Fa a7,Fa a8,Bb a9,U8 b1,U8 b2,U8 c0,U8 c1,U8 c2,U8 c3,U8 c4,U8 c5,U8 c6,U8 c7,U8 c8,U8 c9,U8 d0,U8 d1,XS dr 0 dn]))) (List.map Ea (take 16 as'))) (List.map Ea (take 16 bs))) : Ia X 43 0 Q ([.code (Na Try.f43)]) (slots [.agg (.b s::as'),.agg (.b t::bs),.agg [.u16 e1,.u16 e2,.u32 e3,.u32 e4,.u8 e5,.u16 e6,.u16 e7,.b a1,.u16 a2,.b a3,.u8 a4,.b a5,.xs kr 0 kn,.b a6,.u32 a7,.u32 a8,.b a9,.u8 b1,.u8 b2,.u8 c0,.u8 c1,.u8 c2,.u8 c3,.u8 c4,.u8 c5,.u8 c6,.u8 c7,.u8 c8,.u8 c9,.u8 d0,.u8 d1,.xs dr 0 dn],.one (.u32 sn),.one (.b cov)] Try.f43.ntmps) [] :=
 wR hX WVC2 ok43 [17,21,41,27] [(100009,0)] [true] [(10,[3,5,6,12],[true,true,true])] h (by kernel_rfl)
theorem vc43b {X} {Q : QT} (hX : PX X) (s t : Bool) (as' bs hr : List AC) (sn:BitVec 32) (m:Nat) (h : (fun D2 : List (BitVec 64)=>(fun D1 : List (BitVec 8)=>(fun D0 : List (BitVec 8)=>1<=1/\Flat (take 1 (drop 0 [Nc (BitVec.setWidth 64 sn)]))/\(Oa []/\0=0/\0<=100000000/\take 1 (drop 0 [Nc (BitVec.setWidth 64 sn)])=List.map Nc D2/\1=1/\1<=1000000)/\Qb (hide (List.map U8 D1))/\17<=List.length (Bb s::as')/\17<=List.length (Bb t::bs)/\Flat (take 17 (drop 0 (Bb s::as')))/\Flat (take 17 (drop 0 (Bb t::bs)))/\(Oa (take 16 as')/\List.length (take 16 as')=16/\Oa (take 16 bs)/\List.length (take 16 bs)=16/\(0:Int)<=(↑m:Int)/\(↑m:Int)<=(1000000:Int))/\Qb (hide (List.map U8 D0))/\0+List.length D0*1<=List.length (hide (List.map U8 D0))/\((4+List.length D0)*1<=140737488355328/\4+List.length D0<=4611686018427387904)/\List.length (hide (List.map U8 D1))=4/\0+m*1<=List.length hr/\((4+List.length D0+m)*1<=140737488355328/\4+List.length D0+m<=4611686018427387904)/\List.length (hide (List.map U8 D1)++take (List.length D0*1) (drop 0 (hide (List.map U8 D0))))=(4+List.length D0)*1/\Flat (hide (List.map U8 D1)++take (List.length D0*1) (drop 0 (hide (List.map U8 D0)))++take (m*1) (drop 0 hr))/\Q (TU [O1 (GS 0 (4+List.length D0+m) 1),O1 (I64 (0:Int))]) [some (hide (List.map U8 D1)++take (List.length D0*1) (drop 0 (hide (List.map U8 D0)))++take (m*1) (drop 0 hr))]) (psX s t (List.map Ea (take 16 as')) (List.map Ea (take 16 bs)) (BitVec.ofInt 8 6) (↑m:Int))) (ptB (List.map Ea []) (4:Int) D2)) (asN (take 1 (drop 0 [Nc (BitVec.setWidth 64 sn)])))) : Ia X 43 0 Q (Ub Try.f43 9) (mkS 61 [(3,.one (.u32 sn)),(5,.one (.ptr 0 0)),(6,.one (.ptr 1 0)),(12,.one (.gs 2 m 1))]) [some (.b s::as'),some (.b t::bs),some hr] :=
 wR hX WVC2 ok43 [17,21,41,27] [(100009,0)] [true] [(10,[3,5,6,12],[true,true,true])] h (by kernel_rfl)
def Sg.zero (g : Sg) : Sg := { g with op := g.op.zero }
def Sg.bare (g : Sg) : Sg := { g with op := g.op.bare }
def sgX (g : Sg) (cov : Bool) : Sg := if cov then g.zero else g.bare
def okSg (g : Sg) : Bool := g.op.hasA && maySg g
def bytB (s t : Bool) (a b : BO) (g : Sg) (sn:BitVec 32) (cov : Bool) : BO := if okSg g then signB (fun n => psX s t a b 6 n) sn (sgX g cov) else []
def bytE (g : Sg) : Int := if okSg g then 0 else 1
theorem may_zero {o : Op} (ha : o.hasA = true) : mayO o.zero = mayO o := by
 unfold mayO Op.zero sizN rawN
 simp only [ha, Bool.true_or]
theorem may_bare {o : Op} (ha : o.hasA = true) : mayO o.bare = true := by
 unfold Op.bare
 rw [if_pos ha]
 simp [mayO, sizN, rawN]
theorem isSg_of {cs : List AC} {g : Sg} (h : nrL cs = sgC g) (hl : g.op.mac.length = 12) : IsSg cs ∧ sgOf (nrL cs) = g := by
 have e : sgOf (nrL cs) = g := by
  have := sgOf_C hl
  rw [nr_S hl] at this
  rw [h, this]
 refine ⟨⟨?_, ?_⟩, e⟩
 ·rw [e, h]
 ·rw [e]; exact hl
theorem zM_len : zM.length = 12 := List.length_replicate
theorem bare_mac {o : Op} : o.bare.mac.length = 12 := by
 unfold Op.bare
 split <;> exact zM_len
theorem sgX_mac (g : Sg) (cov : Bool) : (sgX g cov).op.mac.length = 12 := by
 cases cov
 ·exact bare_mac
 ·exact zM_len
theorem sgX_may {g : Sg} (h : okSg g = true) (cov : Bool) : maySg (sgX g cov) = true := by
 unfold okSg maySg at h
 simp only [Bool.and_eq_true] at h
 obtain ⟨ha, ⟨h1, h2⟩, h3⟩ := h
 cases cov
 ·show (mayO g.op.bare && decide (g.fl ≤ 63#8) && decide (g.data.length ≤ 16384)) = true
  rw [may_bare ha, h2, h3]; rfl
 ·show (mayO g.op.zero && decide (g.fl ≤ 63#8) && decide (g.data.length ≤ 16384)) = true
  rw [may_zero ha, h1, h2, h3]; rfl
theorem segX_len {g : Sg} (h : okSg g = true) (cov : Bool) {c : BO} (hc : c.length = 2) : (segC (sgX g cov) c).length ≤ 17000 := by
 have hm := sgX_may h cov
 unfold maySg at hm
 simp only [Bool.and_eq_true, decide_eq_true_eq] at hm
 obtain ⟨⟨h1, _⟩, h2⟩ := hm
 unfold mayO at h1
 simp only [Bool.and_eq_true, decide_eq_true_eq] at h1
 rw [segC_len _ hc, layO_len (sgX_mac g cov)]
 have := h1.2
 omega
theorem pt1 (x:BitVec 32) : ptB [] 4 [x.setWidth 64] = b32 x := by
 unfold ptB putL b32
 rw [szN4, List.flatMap_cons, List.flatMap_nil, List.append_nil, List.nil_append]
theorem l43b {X : Ctx} (hX : X.P = Try.prog) (s t : Bool) (a b : BO) (ha : a.length = 16) (hb : b.length = 16) (g : Sg) (sn:BitVec 32) (hg : (segC g z2b).length ≤ 100000) :
  Ia X 43 0 (Are (.Ec [.one (.gs 0 (signB (fun n => psX s t a b 6 n) sn g).length 1), .one (.i64 0)]) [some ((signB (fun n => psX s t a b 6 n) sn g).map U8)]) (Ub Try.f43 9) (mkS 61 [(3, .one (.u32 sn)), (5, .one (.ptr 0 0)), (6, .one (.ptr 1 0)), (12, .one (.gs 2 (segC g z2b).length 1))]) [some (.b s :: a.map U8), some (.b t :: b.map U8), some ((segC g z2b).map U8)] := by
 have ta : take 16 (a.map U8) = a.map U8 := List.take_of_length_le (by rw [List.length_map]; omega)
 have tb : take 16 (b.map U8) = b.map U8 := List.take_of_length_le (by rw [List.length_map]; omega)
 have sa : take 17 (Bb s :: a.map U8) = Bb s :: a.map U8 := List.take_of_length_le (by rw [List.length_cons, List.length_map]; omega)
 have sb : take 17 (Bb t :: b.map U8) = Bb t :: b.map U8 := List.take_of_length_le (by rw [List.length_cons, List.length_map]; omega)
 have la : (Bb s :: a.map U8).length = 17 := by rw [List.length_cons, List.length_map, ha]
 have lb : (Bb t :: b.map U8).length = 17 := by rw [List.length_cons, List.length_map, hb]
 have hp := psX_len ha hb s t 6 (segC g z2b).length
 have hp : (psX s t a b (BitVec.ofInt 8 6) (segC g z2b).length).length ≤ 40 := by
  show (psX s t a b 6 (segC g z2b).length).length ≤ 40
  rw [hp]; split <;> omega
 have e : b32 sn ++ psX s t a b (BitVec.ofInt 8 6) (segC g z2b).length ++ segC g z2b = signB (fun n => psX s t a b 6 n) sn g := by
  unfold signB
  rw [List.append_assoc]
  rfl
 have el := congrArg List.length e
 rw [List.length_append, List.length_append, b32_len] at el
 refine vc43b hX _ _ _ _ _ _ _ ?_
 simp only [List.drop_zero, List.map_nil, ta, tb, sa, sb, tk0', Ua, Ja]
 have k1 : take 1 [Nc (sn.setWidth 64)] = [sn.setWidth 64].map Nc := rfl
 simp only [k1, asN_map, pt1, ← List.map_append, e]
 have fa := bflat s a
 have fb := bflat t b
 have zA : Oa ([] : List AC) := rfl
 simp only [List.length_map, List.length_append, la, lb, ha, hb, b32_len, el]
 generalize signB (fun n => psX s t a b 6 n) sn g = B at *
 generalize psX s t a b (BitVec.ofInt 8 6) (segC g z2b).length = E at *
 (repeat' (first | exact trivial | exact fa | exact fb | exact zA | exact Aa _ | exact flat_u64 _ | exact Ba _ | exact Ud _ | exact rfl | exact Nat.le_refl _ | refine And.intro ?_ ?_)) <;> omega
theorem s43 (s t : Bool) (a b : BO) (ha : a.length = 16) (hb : b.length = 16) (g : Sg) (hl : g.op.mac.length = 12) (sn:BitVec 32) (cov : Bool) :
  Spec Try.prog 43 [.agg (.b s :: a.map U8), .agg (.b t :: b.map U8), .agg (sgC g), .one (.u32 sn), .one (.b cov)] [] (Are (.Ec [.one (.gs 0 (bytB s t a b g sn cov).length 1), .one (.i64 (bytE g))]) [some ((bytB s t a b g sn cov).map U8)]) := by
 have hI := isSg_C hl
 have hO := sgOf_C hl
 by_cases hk : okSg g = true
 ·have hB : bytB s t a b g sn cov = signB (fun n => psX s t a b 6 n) sn (sgX g cov) := if_pos hk
  have hE : bytE g = 0 := if_pos hk
  rw [hB, hE]
  have hlen := segX_len hk cov (c := z2b) rfl
  have hmay := sgX_may hk cov
  have hxl := sgX_mac g cov
  refine Spec.of_run ok43 fun X hX => ?_
  have K := l43b hX s t a b ha hb (sgX g cov) sn (by omega)
  have hlen2 := segX_len hk cov (c := ckB s t a b (sgX g cov)) rfl
  have hlq : (segC (sgX g cov) (ckB s t a b (sgX g cov))).length = (segC (sgX g cov) z2b).length := by rw [segC_len _ rfl, segC_len _ rfl]
  have hset : ((segC (sgX g cov) (ckB s t a b (sgX g cov))).set 16 0).set 17 0 = segC (sgX g cov) z2b := segC_set (sgX g cov) _ _ 0 0
  have hl20 : 20 ≤ (segC (sgX g cov) z2b).length := by rw [segC_len _ rfl]; omega
  have hc0 : Zc (Value.int IntKind.u8 0) = U8 0 := rfl
  have ta : take 16 (a.map U8) = a.map U8 := List.take_of_length_le (by rw [List.length_map]; omega)
  have tb : take 16 (b.map U8) = b.map U8 := List.take_of_length_le (by rw [List.length_map]; omega)
  have sa : take 17 (Bb s :: a.map U8) = Bb s :: a.map U8 := List.take_of_length_le (by rw [List.length_cons, List.length_map]; omega)
  have sb : take 17 (Bb t :: b.map U8) = Bb t :: b.map U8 := List.take_of_length_le (by rw [List.length_cons, List.length_map]; omega)
  have la : (Bb s :: a.map U8).length = 17 := by rw [List.length_cons, List.length_map, ha]
  have lb : (Bb t :: b.map U8).length = 17 := by rw [List.length_cons, List.length_map, hb]
  have fa := bflat s a
  have fb := bflat t b
  generalize hx : sgX g cov = x at *
  revert K
  generalize (Are (.Ec [.one (.gs 0 (signB (fun n => psX s t a b 6 n) sn x).length 1), .one (.i64 0)]) [some ((signB (fun n => psX s t a b 6 n) sn x).map U8)]) = Q
  intro K
  have hmg : maySg g = true := by unfold okSg at hk; rw [Bool.and_eq_true] at hk; exact hk.2
  have hag : g.op.hasA = true := by unfold okSg at hk; rw [Bool.and_eq_true] at hk; exact hk.1
  have G : ∀ P : Prop, P → ((!decide ((0:Int) = 0)) = true → Q (.Ec [.one .ns, .one (.i64 0)]) []) ∧ ((!decide ((0:Int) = 0)) = false → P) := fun P h => ⟨fun h => absurd h (by decide), fun _ => h⟩
  obtain ⟨e1, e2, e3, e4, e5, e6, e7, ⟨a1, a2, a3, a4, a5, a6, a7, a8, a9, b1, b2, mc, sk⟩, dt⟩ := g
  obtain ⟨c0, c1, c2, c3, c4, c5, c6, c7, c8, c9, d0, d1, rfl⟩ := twelve hl
  obtain rfl : a9 = true := hag
  refine vc43 hX _ _ _ _ _ _ _ _ _ _ _ _ _ _ _ _ _ _ _ _ _ _ _ _ _ _ _ _ _ _ _ _ _ _ _ _ _ _ _ _ ⟨fun h => ⟨hI, fun h2 => ⟨⟨rfl, by omega⟩, fun hcov => ?_, fun hcov => ?_⟩, fun h2 => ?_⟩, fun h => by cases h⟩
  ·subst hcov
   have hz : IsSg ([.u16 e1, .u16 e2, .u32 e3, .u32 e4, .u8 e5, .u16 e6, .u16 e7, .b a1, .u16 a2, .b a3, .u8 a4, .b a5, .xs (sakC sk) 0 sk.length, .b a6, .u32 a7, .u32 a8, .b true, .u8 b1, .u8 b2] ++ (replicate 12 (U8 0) ++ [.xs (dt.map U8) 0 dt.length])) ∧ sgOf (nrL ([.u16 e1, .u16 e2, .u32 e3, .u32 e4, .u8 e5, .u16 e6, .u16 e7, .b a1, .u16 a2, .b a3, .u8 a4, .b a5, .xs (sakC sk) 0 sk.length, .b a6, .u32 a7, .u32 a8, .b true, .u8 b1, .u8 b2] ++ (replicate 12 (U8 0) ++ [.xs (dt.map U8) 0 dt.length]))) = x := isSg_of (by rw [← hx]; rfl) hxl
   obtain ⟨z1, z2⟩ := hz
   rw [z2]
   simp only [List.drop_zero, ta, tb, sa, sb, Ua, Ja, hc0, Xd, hset, List.length_map, List.length_set, la, lb, ha, hb]
   rw [hlq]
   clear h h2 hI hO hset
   refine ⟨Nat.le_refl _, Nat.le_refl _, fa, fb, ⟨Ba _, trivial, Ba _, trivial, z1, hmay⟩, Ud _, G _ ?_⟩
   (repeat' (first | exact trivial | exact fa | exact fb | exact z1 | exact hmay | exact Aa _ | exact Ba _ | exact Ud _ | exact rfl | exact Nat.le_refl _ | exact ⟨K⟩ | refine And.intro ?_ ?_)) <;> omega
  ·subst hcov
   have hlo : IsO ([.b a1, .u16 a2, .b a3, .u8 a4, .b a5, .xs (sakC sk) 0 sk.length, .b a6, .u32 a7, .u32 a8, .b true, .u8 b1, .u8 b2] ++ replicate 12 (U8 0)) := isO_C (o := ⟨a1, a2, a3, a4, a5, a6, a7, a8, true, b1, b2, zM, sk⟩) zM_len
   have hlo2 : oOf (nrL ([.b a1, .u16 a2, .b a3, .u8 a4, .b a5, .xs (sakC sk) 0 sk.length, .b a6, .u32 a7, .u32 a8, .b true, .u8 b1, .u8 b2] ++ replicate 12 (U8 0))) = ⟨a1, a2, a3, a4, a5, a6, a7, a8, true, b1, b2, zM, sk⟩ := oOf_C (o := ⟨a1, a2, a3, a4, a5, a6, a7, a8, true, b1, b2, zM, sk⟩) zM_len
   have hz : IsSg ([.u16 e1, .u16 e2, .u32 e3, .u32 e4, .u8 e5, .u16 e6, .u16 e7, .b false, .u16 0, .b false, .u8 0, .b false, .ns, .b false, .u32 0, .u32 0, .b true, .u8 b1, .u8 b2] ++ (replicate 12 (U8 0) ++ [.xs (dt.map U8) 0 dt.length])) ∧ sgOf (nrL ([.u16 e1, .u16 e2, .u32 e3, .u32 e4, .u8 e5, .u16 e6, .u16 e7, .b false, .u16 0, .b false, .u8 0, .b false, .ns, .b false, .u32 0, .u32 0, .b true, .u8 b1, .u8 b2] ++ (replicate 12 (U8 0) ++ [.xs (dt.map U8) 0 dt.length]))) = x := isSg_of (by rw [← hx]; rfl) hxl
   obtain ⟨z1, z2⟩ := hz
   rw [hlo2]
   dsimp only
   rw [z2]
   simp only [List.drop_zero, ta, tb, sa, sb, Ua, Ja, hc0, Xd, hset, List.length_map, List.length_set, la, lb, ha, hb]
   rw [hlq]
   clear h h2 hI hO hset
   refine ⟨⟨hlo, trivial⟩, Nat.le_refl _, Nat.le_refl _, fa, fb, ⟨Ba _, trivial, Ba _, trivial, z1, hmay⟩, Ud _, G _ ?_⟩
   (repeat' (first | exact trivial | exact fa | exact fb | exact z1 | exact hmay | exact Aa _ | exact Ba _ | exact Ud _ | exact rfl | exact Nat.le_refl _ | exact ⟨K⟩ | refine And.intro ?_ ?_)) <;> omega
  ·erw [hO, hmg] at h2
   cases h2
 ·have hk : okSg g = false := by cases h : okSg g; rfl; exact absurd h hk
  have hB : bytB s t a b g sn cov = [] := if_neg (by rw [hk]; decide)
  have hE : bytE g = 1 := if_neg (by rw [hk]; decide)
  rw [hB, hE]
  have R : ∀ Q : AV → Mem → Prop, Q (.Ec [.one .ns, .one (.i64 1)]) [] → ∀ X : Ctx, X.P = Try.prog → Ia X 43 0 Q [.code (Na Try.f43)] (slots [.agg (.b s :: a.map U8), .agg (.b t :: b.map U8), .agg (sgC g), .one (.u32 sn), .one (.b cov)] Try.f43.ntmps) [] := by
   intro Q hQ X hX
   unfold okSg at hk
   generalize hM : maySg g = M at *
   obtain ⟨e1, e2, e3, e4, e5, e6, e7, ⟨a1, a2, a3, a4, a5, a6, a7, a8, a9, b1, b2, mc, sk⟩, dt⟩ := g
   obtain ⟨c0, c1, c2, c3, c4, c5, c6, c7, c8, c9, d0, d1, rfl⟩ := twelve hl
   refine vc43 hX _ _ _ _ _ _ _ _ _ _ _ _ _ _ _ _ _ _ _ _ _ _ _ _ _ _ _ _ _ _ _ _ _ _ _ _ _ _ _ _ ⟨fun h => ⟨hI, fun h2 => ?_, fun _ => hQ⟩, fun _ => hQ⟩
   erw [hO, hM] at h2
   have h : a9 = true := h
   rw [h2] at hk
   have hk : (a9 && true) = false := hk
   rw [h] at hk; cases hk
  exact Spec.pad2 (Spec.of_run ok43 (R _ (.inr ⟨.i64 1, rfl, rfl, rfl, rfl, rfl⟩)))
end DH
