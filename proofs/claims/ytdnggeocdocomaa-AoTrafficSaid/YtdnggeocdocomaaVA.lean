/- Walks of functions, each by evaluation: what each returns; with the layer beneath. -/
import Derived.Test.YtdnggeocdocomaaPB
set_option linter.unusedVariables false
set_option linter.unusedSimpArgs false
noncomputable section
namespace DH
set_option maxRecDepth 100000
open List (take drop replicate)
open AC renaming u8 → U8, u16 → Va, u32 → Fa, u64 → Nc, i64 → I64, b → Bb, xs → XS, gs → GS, sv → SV, ptr → PT, any → AY, ns → NS
open AV renaming one → O1, agg → AG, Ec → TU
open Go Go.Proofs
theorem ok133 : Ac Try.prog 133 Try.f133 (Na Try.f133) := .of Try.func133 (by kernel_rfl) (by kernel_rfl)
theorem ok132 : Ac Try.prog 132 Try.f132 (Na Try.f132) := .of Try.func132 (by kernel_rfl) (by kernel_rfl)
theorem ok130 : Ac Try.prog 130 Try.f130 (Na Try.f130) := .of Try.func130 (by kernel_rfl) (by kernel_rfl)
theorem ok124 : Ac Try.prog 124 Try.f124 (Na Try.f124) := .of Try.func124 (by kernel_rfl) (by kernel_rfl)
def szK (k:BitVec 8) : Int := if k = BitVec.ofInt 8 2 then 4 else if k = BitVec.ofInt 8 3 then 3 else if k = BitVec.ofInt 8 4 then 2 else if k = BitVec.ofInt 8 8 then 10 else if k = BitVec.ofInt 8 29 then 16 else if k = BitVec.ofInt 8 5 then 0 else -1
def WVA0 : WC := ⟨envP T25 mf20 M20,envP_ok T25 mf20 M20,Ed T25_ok M20_ok⟩
theorem vc133 {X} {Q : QT} (hX : PX X) (k:BitVec 8) (h : (decide (k=BitVec.ofInt 8 2)=true->Q (O1 (I64 (4:Int))) [])/\(decide (k=BitVec.ofInt 8 2)=false->(decide (k=BitVec.ofInt 8 3)=true->Q (O1 (I64 (3:Int))) [])/\(decide (k=BitVec.ofInt 8 3)=false->(decide (k=BitVec.ofInt 8 4)=true->Q (O1 (I64 (2:Int))) [])/\(decide (k=BitVec.ofInt 8 4)=false->(decide (k=BitVec.ofInt 8 8)=true->Q (O1 (I64 (10:Int))) [])/\(decide (k=BitVec.ofInt 8 8)=false->(decide (k=BitVec.ofInt 8 29)=true->Q (O1 (I64 (16:Int))) [])/\(decide (k=BitVec.ofInt 8 29)=false->(decide (k=BitVec.ofInt 8 5)=true->Q (O1 (I64 (0:Int))) [])/\(decide (k=BitVec.ofInt 8 5)=false->Q (O1 (I64 (-1:Int))) []))))))) : Ia X 133 0 Q ([.code (Na Try.f133)]) (slots [.one (.u8 k)] Try.f133.ntmps) [] :=
 wR hX WVA0 ok133 [5,7,9,11,13,15] [] [] [] h (by kernel_rfl)
theorem s133 (k:BitVec 8) : Spec Try.prog 133 [.one (.u8 k)] [] (Is (.one (.i64 (szK k)))) := by
 refine Spec.of_run ok133 fun X hX => vc133 hX _ ?_
 unfold szK
 have e : ∀ (m:BitVec 8), (decide (k = m) = true ↔ k = m) ∧ (decide (k = m) = false ↔ ¬ k = m) := fun m => ⟨decide_eq_true_iff, decide_eq_false_iff_not⟩
 simp only [(e _).1, (e _).2]
 refine ⟨fun h => ?_, fun h1 => ⟨fun h => ?_, fun h2 => ⟨fun h => ?_, fun h3 => ⟨fun h => ?_, fun h4 => ⟨fun h => ?_, fun h5 => ⟨fun h => ?_, fun h6 => ?_⟩⟩⟩⟩⟩⟩
 ·rw [if_pos h]; exact rfl
 ·rw [if_neg h1, if_pos h]; exact rfl
 ·rw [if_neg h1, if_neg h2, if_pos h]; exact rfl
 ·rw [if_neg h1, if_neg h2, if_neg h3, if_pos h]; exact rfl
 ·rw [if_neg h1, if_neg h2, if_neg h3, if_neg h4, if_pos h]; exact rfl
 ·rw [if_neg h1, if_neg h2, if_neg h3, if_neg h4, if_neg h5, if_pos h]; exact rfl
 ·rw [if_neg h1, if_neg h2, if_neg h3, if_neg h4, if_neg h5, if_neg h6]; exact rfl
noncomputable def TV1 : Tab := fun f xs => match f, xs with
 | 133, [.one (.u8 k)] => some ([], .one (.i64 (szK k)))
 | f, xs => T25 f xs
theorem TV1_ok : Oc Try.prog TV1 := by
 intro f xs cs r h hc
 unfold TV1 at h
 split at h
 ·obtain ⟨rfl, rfl⟩ := Prod.mk.inj (Option.some.inj h)
  exact ⟨⟨_, _, ok133⟩, s133 _, rfl⟩
 ·exact T25_ok _ _ _ _ h hc
def WVA1 : WC := ⟨envP TV1 mf20 M20,envP_ok TV1 mf20 M20,Ed TV1_ok M20_ok⟩
theorem vc132 {X} {Q : QT} (hX : PX X) (hb : Bool) (k:BitVec 8) (n:Int) (h : (hb=true->I64 n=I64 n/\La (n+szK k)/\(1=1/\1<=1)/\Flat (Qa [I64 n] 0 [I64 (n+szK k)])/\Q (TU []) [some [I64 (n+szK k)]])/\(hb=false->Flat [I64 n]/\Q (TU []) [some [I64 n]])) : Ia X 132 1 Q ([.code (Na Try.f132)]) (slots [.one (.b hb),.one (.u8 k),.one (.ptr 0 0)] Try.f132.ntmps) [some [.i64 n]] :=
 wR hX WVA1 ok132 [5] [(1,4)] [true] [] h (by kernel_rfl)
def szB (h : Bool) (k:BitVec 8) : Int := if h then szK k else 0
theorem szK_b (k:BitVec 8) : -1 ≤ szK k ∧ szK k ≤ 16 := by
 unfold szK
 repeat' split
 all_goals omega
theorem s132 (h : Bool) (k:BitVec 8) (n:Int) (h1 : 0 ≤ n) (h2 : n ≤ 1000000000) : Spec Try.prog 132 [.one (.b h), .one (.u8 k), .one (.ptr 0 0)] [some [.i64 n]] (Are (.Ec []) [some [.i64 (n + szB h k)]]) := by
 refine Spec.of_run ok132 fun X hX => vc132 hX _ _ _ ?_
 have hk := szK_b k
 refine ⟨fun e => ⟨rfl, by unfold La; omega, ⟨rfl, Nat.le_refl _⟩, Ib rfl, ?_⟩, fun e => ⟨Ib rfl, ?_⟩⟩
 ·rw [show szB h k = szK k from if_pos e]; exact ⟨rfl, rfl⟩
 ·rw [show szB h k = 0 from if_neg (by rw [e]; decide), Int.add_zero]; exact ⟨rfl, rfl⟩
noncomputable def MV1 : Ad := fun f xs m => match f, xs, m with
 | 132, [.one (.b h), .one (.u8 k), .one (.ptr 0 0)], [some [.i64 n]] => some ([0 ≤ n ∧ n ≤ 1000000000], .Ec [], [some [.i64 (n + szB h k)]])
 | f, xs, m => M20 f xs m
noncomputable def mfV1 : FuncId → Option MF := fun f => match f with
 | 132 => some { cs := { kinds := [], fl := [true] }, flo := [true] }
 | f => mf20 f
theorem MV1_ok : Xc Try.prog MV1 := by
 intro f xs m0 cs r m1 h hc
 unfold MV1 at h
 split at h
 ·simp only [Option.some.injEq, Prod.mk.injEq] at h; obtain ⟨rfl, rfl, rfl⟩ := h
  exact ⟨⟨_, _, ok132⟩, s132 _ _ _ hc.1.1 hc.1.2⟩
 ·exact M20_ok _ _ _ _ _ _ h hc
def WVA2 : WC := ⟨envP TV1 mfV1 MV1,envP_ok TV1 mfV1 MV1,Ed TV1_ok MV1_ok⟩
theorem vc130 {X} {Q : QT} (hX : PX X) (a1 : Bool) (a2:BitVec 16) (a3 : Bool) (a4:BitVec 8) (a5 : Bool) (kr : List AC) (kn:Nat) (a6 : Bool) (a7 a8:BitVec 32) (a9 : Bool) (b1 b2 c0 c1 c2 c3 c4 c5 c6 c7 c8 c9 d0 d1:BitVec 8) (h : (fun D6 : Int=>(fun D5 : Int=>(fun D4 : BitVec 8=>(fun D3 : BitVec 8=>(fun D2 : BitVec 8=>(fun D1 : BitVec 8=>(fun D0 : BitVec 8=>(1=1/\1<=1)/\((0:Int)<=(0:Int)/\(0:Int)<=D6)/\Flat (Qa [I64 (0:Int)] 0 [Zc (Value.int IntKind.i64 0)])/\Flat [I64 ((0:Int)+szB a1 D0)]/\((0:Int)<=(0:Int)+szB a1 D0/\(0:Int)+szB a1 D0<=D6)/\Flat [I64 ((0:Int)+szB a1 D0)]/\Flat [I64 ((0:Int)+szB a1 D0+szB a3 D1)]/\((0:Int)<=(0:Int)+szB a1 D0+szB a3 D1/\(0:Int)+szB a1 D0+szB a3 D1<=D6)/\Flat [I64 ((0:Int)+szB a1 D0+szB a3 D1)]/\Flat [I64 ((0:Int)+szB a1 D0+szB a3 D1+szB a5 D2)]/\((0:Int)<=(0:Int)+szB a1 D0+szB a3 D1+szB a5 D2/\(0:Int)+szB a1 D0+szB a3 D1+szB a5 D2<=D6)/\Flat [I64 ((0:Int)+szB a1 D0+szB a3 D1+szB a5 D2)]/\Flat [I64 ((0:Int)+szB a1 D0+szB a3 D1+szB a5 D2+szB a6 D3)]/\((0:Int)<=(0:Int)+szB a1 D0+szB a3 D1+szB a5 D2+szB a6 D3/\(0:Int)+szB a1 D0+szB a3 D1+szB a5 D2+szB a6 D3<=D6)/\Flat [I64 ((0:Int)+szB a1 D0+szB a3 D1+szB a5 D2+szB a6 D3)]/\Flat [I64 ((0:Int)+szB a1 D0+szB a3 D1+szB a5 D2+szB a6 D3+szB a9 D4)]/\(decide ((0:Int)<(↑kn:Int))=true->I64 ((0:Int)+szB a1 D0+szB a3 D1+szB a5 D2+szB a6 D3+szB a9 D4)=I64 ((0:Int)+szB a1 D0+szB a3 D1+szB a5 D2+szB a6 D3+szB a9 D4)/\La ((8:Int)*(↑kn:Int))/\La D5/\La ((0:Int)+szB a1 D0+szB a3 D1+szB a5 D2+szB a6 D3+szB a9 D4+D5)/\(1=1/\1<=1)/\I64 ((0:Int)+szB a1 D0+szB a3 D1+szB a5 D2+szB a6 D3+szB a9 D4+D5)=I64 ((0:Int)+szB a1 D0+szB a3 D1+szB a5 D2+szB a6 D3+szB a9 D4+D5)/\La ((0:Int)+szB a1 D0+szB a3 D1+szB a5 D2+szB a6 D3+szB a9 D4+D5+(3:Int))/\((4:Int) ≠ (0:Int)/\La (Int.tdiv ((0:Int)+szB a1 D0+szB a3 D1+szB a5 D2+szB a6 D3+szB a9 D4+D5+(3:Int)) (4:Int)))/\La (Int.tdiv ((0:Int)+szB a1 D0+szB a3 D1+szB a5 D2+szB a6 D3+szB a9 D4+D5+(3:Int)) (4:Int)*(4:Int))/\Q (O1 (I64 (Int.tdiv ((0:Int)+szB a1 D0+szB a3 D1+szB a5 D2+szB a6 D3+szB a9 D4+D5+(3:Int)) (4:Int)*(4:Int)))) [])/\(decide ((0:Int)<(↑kn:Int))=false->I64 ((0:Int)+szB a1 D0+szB a3 D1+szB a5 D2+szB a6 D3+szB a9 D4)=I64 ((0:Int)+szB a1 D0+szB a3 D1+szB a5 D2+szB a6 D3+szB a9 D4)/\La ((0:Int)+szB a1 D0+szB a3 D1+szB a5 D2+szB a6 D3+szB a9 D4+(3:Int))/\((4:Int) ≠ (0:Int)/\La (Int.tdiv ((0:Int)+szB a1 D0+szB a3 D1+szB a5 D2+szB a6 D3+szB a9 D4+(3:Int)) (4:Int)))/\La (Int.tdiv ((0:Int)+szB a1 D0+szB a3 D1+szB a5 D2+szB a6 D3+szB a9 D4+(3:Int)) (4:Int)*(4:Int))/\Q (O1 (I64 (Int.tdiv ((0:Int)+szB a1 D0+szB a3 D1+szB a5 D2+szB a6 D3+szB a9 D4+(3:Int)) (4:Int)*(4:Int)))) [])) (BitVec.ofInt 8 2)) (BitVec.ofInt 8 3)) (BitVec.ofInt 8 4)) (BitVec.ofInt 8 8)) (BitVec.ofInt 8 29)) ((2:Int)+(8:Int)*(↑kn:Int))) (1000000000:Int)) : Ia X 130 0 Q ([.code (Na Try.f130)]) (slots [.agg [.b a1,.u16 a2,.b a3,.u8 a4,.b a5,.xs kr 0 kn,.b a6,.u32 a7,.u32 a8,.b a9,.u8 b1,.u8 b2,.u8 c0,.u8 c1,.u8 c2,.u8 c3,.u8 c4,.u8 c5,.u8 c6,.u8 c7,.u8 c8,.u8 c9,.u8 d0,.u8 d1]] Try.f130.ntmps) [] :=
 wR hX WVA2 ok130 [29] [] [] [] h (by kernel_rfl)
def sakC (l : List (BitVec 32 × BitVec 32)) : List AC := l.flatMap fun x => [.u32 x.1, .u32 x.2]
def opC (o : Op) : List AC := [.b o.hasM, .u16 o.mss, .b o.hasS, .u8 o.sc, .b o.sok, .xs (sakC o.sacks) 0 o.sacks.length, .b o.hasT, .u32 o.val, .u32 o.echo, .b o.hasA, .u8 o.kid, .u8 o.nid] ++ o.mac.map U8
theorem twelve {l : List (BitVec 8)} (h : l.length = 12) : ∃ c0 c1 c2 c3 c4 c5 c6 c7 c8 c9 d0 d1, l = [c0, c1, c2, c3, c4, c5, c6, c7, c8, c9, d0, d1] := by
 match l, h with
 | [c0, c1, c2, c3, c4, c5, c6, c7, c8, c9, d0, d1], _ => exact ⟨c0, c1, c2, c3, c4, c5, c6, c7, c8, c9, d0, d1, rfl⟩
theorem szB_2 (a : Bool) : szB a (BitVec.ofInt 8 2) = ((if a then 4 else 0:Nat):Int) := by cases a <;> rfl
theorem szB_3 (a : Bool) : szB a (BitVec.ofInt 8 3) = ((if a then 3 else 0:Nat):Int) := by cases a <;> rfl
theorem szB_4 (a : Bool) : szB a (BitVec.ofInt 8 4) = ((if a then 2 else 0:Nat):Int) := by cases a <;> rfl
theorem szB_8 (a : Bool) : szB a (BitVec.ofInt 8 8) = ((if a then 10 else 0:Nat):Int) := by cases a <;> rfl
theorem szB_29 (a : Bool) : szB a (BitVec.ofInt 8 29) = ((if a then 16 else 0:Nat):Int) := by cases a <;> rfl
theorem iteB {a : Bool} {n : Nat} : (if a then n else 0) ≤ n := by cases a <;> simp
theorem s130 (o : Op) (hl : o.mac.length = 12) (hk : o.sacks.length ≤ 1000000) : Spec Try.prog 130 [.agg (opC o)] [] (Is (.one (.i64 (sizN o)))) := by
 obtain ⟨a1, a2, a3, a4, a5, a6, a7, a8, a9, b1, b2, mc, sk⟩ := o
 obtain ⟨c0, c1, c2, c3, c4, c5, c6, c7, c8, c9, d0, d1, rfl⟩ := twelve hl
 have hk : sk.length ≤ 1000000 := hk
 refine Spec.of_run ok130 fun X hX => vc130 hX a1 a2 a3 a4 a5 (sakC sk) sk.length a6 a7 a8 a9 b1 b2 c0 c1 c2 c3 c4 c5 c6 c7 c8 c9 d0 d1 ?_
 unfold sizN rawN
 dsimp only
 simp only [szB_2, szB_3, szB_4, szB_8, szB_29]
 have i1 := @iteB a1 4
 have i2 := @iteB a3 3
 have i3 := @iteB a5 2
 have i4 := @iteB a6 10
 have i5 := @iteB a9 16
 generalize (if a1 then 4 else 0:Nat) = n1 at *
 generalize (if a3 then 3 else 0:Nat) = n2 at *
 generalize (if a5 then 2 else 0:Nat) = n3 at *
 generalize (if a6 then 10 else 0:Nat) = n4 at *
 generalize (if a9 then 16 else 0:Nat) = n5 at *
 have f : ∀ n : Int, Flat [I64 n] := fun n => Ib rfl
 have td : ∀ x : Nat, Int.tdiv (x:Int) 4 = ((x / 4:Nat):Int) := fun x => rfl
 (repeat' (first | exact trivial | exact f _ | exact Ib rfl | refine And.intro ?_ ?_)) <;> (first | omega | intro h)
 ·have h := of_decide_eq_true h
  rw [show (0 + (n1:Int) + n2 + n3 + n4 + n5 + (2 + 8 * (sk.length:Int)) + 3) = ((n1 + n2 + n3 + n4 + n5 + (2 + 8 * sk.length) + 3:Nat):Int) by omega, td, if_neg (by omega)]
  unfold La
  (repeat' (first | exact trivial | exact rfl | refine And.intro ?_ ?_)) <;> omega
 ·have h := of_decide_eq_false h
  rw [show (0 + (n1:Int) + n2 + n3 + n4 + n5 + 3) = ((n1 + n2 + n3 + n4 + n5 + 0 + 3:Nat):Int) by omega, td, if_pos (by omega)]
  unfold La
  (repeat' (first | exact trivial | exact rfl | refine And.intro ?_ ?_)) <;> omega
def sakD : List AC → List (BitVec 32 × BitVec 32)
 | a :: b :: l => (Xb a, Xb b) :: sakD l
 | _ => []
theorem sakD_C : ∀ l, sakD (sakC l) = l
 | [] => rfl
 | x :: l => by
  show (x.1, x.2) :: sakD (sakC l) = x :: l
  rw [sakD_C l]
def oOf (cs : List AC) : Op := ⟨asB (gt AY cs 0), asU16 (gt AY cs 1), asB (gt AY cs 2), Ea (gt AY cs 3), asB (gt AY cs 4), asB (gt AY cs 6), Xb (gt AY cs 7), Xb (gt AY cs 8), asB (gt AY cs 9), Ea (gt AY cs 10), Ea (gt AY cs 11), (take 12 (drop 12 cs)).map Ea, sakD (Td (gt AY cs 5))⟩
def nrC (c : AC) : AC := match c with | .ns => .xs [] 0 0 | c => c
def nrL (l : List AC) : List AC := l.map nrC
structure IsO (cs : List AC) : Prop where
 eq : nrL cs = opC (oOf (nrL cs))
 len : (oOf (nrL cs)).mac.length = 12
theorem VR.nr {X : Ctx} {N : Nat} {p : Pl} {c : AC} {v : Value} (h : VR X N p c v) : VR X N p (nrC c) v := by
 cases h with
 | ns => exact .xsn [] 0
 | any v h => exact .any v h
 | u8 x => exact .u8 x
 | u16 x => exact .u16 x
 | u32 x => exact .u32 x
 | u64 x => exact .u64 x
 | i64 n => exact .i64 n
 | i32 n => exact .i32 n
 | b x => exact .b x
 | s x s h => exact .s x s h
 | f n => exact .f n
 | np => exact .np
 | nf => exact .nf
 | ptr i o h => exact .ptr i o h
 | sv i o n c b o' hc h => exact .sv i o n c b o' hc h
 | svn i o => exact .svn i o
 | sc i o n b o' h => exact .sc i o n b o' h
 | scn i o => exact .scn i o
 | gs i n e c h hc hz => exact .gs i n e c h hc hz
 | gsn i e => exact .gsn i e
 | xp row o b k g p0 hb hr hv => exact .xp row o b k g p0 hb hr hv
 | xs row o n c b k b' o' g p0 hb hr hv hc => exact .xs row o n c b k b' o' g p0 hb hr hv hc
 | xsn row o => exact .xsn row o
 | xs0 row o c a => exact .xs0 row o c a
 | fn f cap g hv => exact .fn f cap g hv
theorem VL.nr {X : Ctx} {N : Nat} {p : Pl} {cs : List AC} {l : List Value} (h : VL X N p cs l) : VL X N p (nrL cs) l := by
 refine ⟨by unfold nrL; rw [List.length_map]; exact h.1, fun j c u h1 h2 => ?_⟩
 unfold nrL at h1
 rw [List.getElem?_map] at h1
 cases hc : cs[j]? with
 | none => rw [hc] at h1; cases h1
 | some d =>
  rw [hc] at h1
  simp only [Option.map_some, Option.some.injEq] at h1
  subst h1
  exact (h.2 j d u hc h2).nr
def nrV : AV → AV
 | .agg cs => .agg (nrL cs)
 | .one c => .one (nrC c)
 | v => v
theorem VA.nr {X : Ctx} {N : Nat} {p : Pl} {a : AV} {v : Value} (h : VA X N p a v) : VA X N p (nrV a) v := by
 cases h with
 | any v => exact .any v
 | one c v h => exact .one _ _ h.nr
 | agg cs l h => exact .agg _ _ h.nr
 | Ec vs l hl h => exact .Ec vs l hl h
theorem Spec.nr {P : Program} {f : FuncId} {ys : List AV} {m0 : Mem} {R : AV → Mem → Prop} (h : Spec P f (ys.map nrV) m0 R) : Spec P f ys m0 R := by
 intro X p vs hP hm ha
 refine h X p vs hP hm ⟨by rw [List.length_map]; exact ha.1, fun j a u h1 h2 => ?_⟩
 rw [List.getElem?_map] at h1
 cases hc : ys[j]? with
 | none => rw [hc] at h1; cases h1
 | some d =>
  rw [hc] at h1
  simp only [Option.map_some, Option.some.injEq] at h1
  subst h1
  exact (ha.2 j d u hc h2).nr
noncomputable def TV2 : Tab := fun f xs => match f, xs with
 | 130, [.agg cs] => some ([IsO cs ∧ (oOf (nrL cs)).sacks.length ≤ 1000000], .one (.i64 (sizN (oOf (nrL cs)))))
 | f, xs => TV1 f xs
theorem TV2_ok : Oc Try.prog TV2 := by
 intro f xs cs r h hc
 unfold TV2 at h
 split at h
 ·obtain ⟨rfl, rfl⟩ := Prod.mk.inj (Option.some.inj h)
  rename_i cs
  have := s130 (oOf (nrL cs)) hc.1.1.len hc.1.2
  rw [← hc.1.1.eq] at this
  exact ⟨⟨_, _, ok130⟩, Spec.nr this, rfl⟩
 ·exact TV1_ok _ _ _ _ h hc
def WVA3 : WC := ⟨envP TV2 mfV1 MV1,envP_ok TV2 mfV1 MV1,Ed TV2_ok MV1_ok⟩
theorem vc124 {X} {Q : QT} (hX : PX X) (a1 : Bool) (a2:BitVec 16) (a3 : Bool) (a4:BitVec 8) (a5 : Bool) (kr : List AC) (kn:Nat) (a6 : Bool) (a7 a8:BitVec 32) (a9 : Bool) (b1 b2 c0 c1 c2 c3 c4 c5 c6 c7 c8 c9 d0 d1:BitVec 8) (h : (fun L0 : Prop=>(fun L1 : Prop=>(fun L2 : Prop=>(a1=true->L2)/\(a1=false->Va a2=Va a2/\((!decide (a2=BitVec.ofInt 16 0))=true->L1)/\((!decide (a2=BitVec.ofInt 16 0))=false->L2))) ((a3=true->L0)/\(a3=false->U8 a4=U8 a4/\((!decide (a4=BitVec.ofInt 8 0))=true->L1)/\((!decide (a4=BitVec.ofInt 8 0))=false->L0)))) (Flat [Bb a1,Va a2,Bb a3,U8 a4,Bb a5,XS kr 0 kn,Bb a6,Fa a7,Fa a8,Bb a9,U8 b1,U8 b2,U8 c0,U8 c1,U8 c2,U8 c3,U8 c4,U8 c5,U8 c6,U8 c7,U8 c8,U8 c9,U8 d0,U8 d1]/\KR X 124 0 Q (Ub Try.f124 1) (mkS 70 [(1,O1 (PT 0 0)),(3,O1 (Bb true))]) [some [Bb a1,Va a2,Bb a3,U8 a4,Bb a5,XS kr 0 kn,Bb a6,Fa a7,Fa a8,Bb a9,U8 b1,U8 b2,U8 c0,U8 c1,U8 c2,U8 c3,U8 c4,U8 c5,U8 c6,U8 c7,U8 c8,U8 c9,U8 d0,U8 d1]])) (U8 a4=U8 a4/\(decide (BitVec.ofInt 8 14<a4)=true->Flat [Bb a1,Va a2,Bb a3,U8 a4,Bb a5,XS kr 0 kn,Bb a6,Fa a7,Fa a8,Bb a9,U8 b1,U8 b2,U8 c0,U8 c1,U8 c2,U8 c3,U8 c4,U8 c5,U8 c6,U8 c7,U8 c8,U8 c9,U8 d0,U8 d1]/\KR X 124 0 Q (Ub Try.f124 1) (mkS 70 [(1,O1 (PT 0 0)),(3,O1 (Bb true))]) [some [Bb a1,Va a2,Bb a3,U8 a4,Bb a5,XS kr 0 kn,Bb a6,Fa a7,Fa a8,Bb a9,U8 b1,U8 b2,U8 c0,U8 c1,U8 c2,U8 c3,U8 c4,U8 c5,U8 c6,U8 c7,U8 c8,U8 c9,U8 d0,U8 d1]])/\(decide (BitVec.ofInt 8 14<a4)=false->Flat [Bb a1,Va a2,Bb a3,U8 a4,Bb a5,XS kr 0 kn,Bb a6,Fa a7,Fa a8,Bb a9,U8 b1,U8 b2,U8 c0,U8 c1,U8 c2,U8 c3,U8 c4,U8 c5,U8 c6,U8 c7,U8 c8,U8 c9,U8 d0,U8 d1]/\KR X 124 0 Q (Ub Try.f124 1) (mkS 70 [(1,O1 (PT 0 0)),(3,O1 (Bb false))]) [some [Bb a1,Va a2,Bb a3,U8 a4,Bb a5,XS kr 0 kn,Bb a6,Fa a7,Fa a8,Bb a9,U8 b1,U8 b2,U8 c0,U8 c1,U8 c2,U8 c3,U8 c4,U8 c5,U8 c6,U8 c7,U8 c8,U8 c9,U8 d0,U8 d1]]))) : Ia X 124 0 Q ([.code (Na Try.f124)]) (slots [.agg [.b a1,.u16 a2,.b a3,.u8 a4,.b a5,.xs kr 0 kn,.b a6,.u32 a7,.u32 a8,.b a9,.u8 b1,.u8 b2,.u8 c0,.u8 c1,.u8 c2,.u8 c3,.u8 c4,.u8 c5,.u8 c6,.u8 c7,.u8 c8,.u8 c9,.u8 d0,.u8 d1]] Try.f124.ntmps) [] :=
 wR hX WVA3 ok124 [5,10,14,19,25,29,34,38,43,48,52,58,64] [(100001,0),(100003,0),(100005,0)] [] [(0,[1,3,27,41],[true])] h (by kernel_rfl)
theorem vc124t {X} {Q : QT} (hX : PX X) (a1 : Bool) (a2:BitVec 16) (a3 : Bool) (a4:BitVec 8) (a5 : Bool) (kr : List AC) (kn:Nat) (a6 : Bool) (a7 a8:BitVec 32) (a9 : Bool) (b1 b2 c0 c1 c2 c3 c4 c5 c6 c7 c8 c9 d0 d1:BitVec 8) (h : Q (O1 (Bb false)) []) : Ia X 124 0 Q (Ub Try.f124 1) (mkS 70 [(1,.one (.ptr 0 0)),(3,.one (.b true))]) [some [.b a1,.u16 a2,.b a3,.u8 a4,.b a5,.xs kr 0 kn,.b a6,.u32 a7,.u32 a8,.b a9,.u8 b1,.u8 b2,.u8 c0,.u8 c1,.u8 c2,.u8 c3,.u8 c4,.u8 c5,.u8 c6,.u8 c7,.u8 c8,.u8 c9,.u8 d0,.u8 d1]] :=
 wR hX WVA3 ok124 [5,10,14,19,25,29,34,38,43,48,52,58,64] [(100001,0),(100003,0),(100005,0)] [] [(0,[1,3,27,41],[true])] h (by kernel_rfl)
theorem vc124b {X} {Q : QT} (hX : PX X) (a1 : Bool) (a2:BitVec 16) (a3 : Bool) (a4:BitVec 8) (a5 : Bool) (kr : List AC) (kn:Nat) (a6 : Bool) (a7 a8:BitVec 32) (a9 : Bool) (b1 b2 c0 c1 c2 c3 c4 c5 c6 c7 c8 c9 d0 d1:BitVec 8) (h : (fun L0 : Prop=>(fun L1 : Prop=>(a6=true->L0)/\(a6=false->Fa a7=Fa a7/\((!decide (a7=BitVec.ofInt 32 0))=true->L1)/\((!decide (a7=BitVec.ofInt 32 0))=false->Fa a8=Fa a8/\((!decide (a8=BitVec.ofInt 32 0))=true->L1)/\((!decide (a8=BitVec.ofInt 32 0))=false->L0)))) (Flat [Bb a1,Va a2,Bb a3,U8 a4,Bb a5,XS kr 0 kn,Bb a6,Fa a7,Fa a8,Bb a9,U8 b1,U8 b2,U8 c0,U8 c1,U8 c2,U8 c3,U8 c4,U8 c5,U8 c6,U8 c7,U8 c8,U8 c9,U8 d0,U8 d1]/\KR X 124 0 Q (Ub Try.f124 3) (mkS 70 [(1,O1 (PT 0 0)),(3,O1 (Bb false)),(27,O1 (Bb true))]) [some [Bb a1,Va a2,Bb a3,U8 a4,Bb a5,XS kr 0 kn,Bb a6,Fa a7,Fa a8,Bb a9,U8 b1,U8 b2,U8 c0,U8 c1,U8 c2,U8 c3,U8 c4,U8 c5,U8 c6,U8 c7,U8 c8,U8 c9,U8 d0,U8 d1]])) (Flat [Bb a1,Va a2,Bb a3,U8 a4,Bb a5,XS kr 0 kn,Bb a6,Fa a7,Fa a8,Bb a9,U8 b1,U8 b2,U8 c0,U8 c1,U8 c2,U8 c3,U8 c4,U8 c5,U8 c6,U8 c7,U8 c8,U8 c9,U8 d0,U8 d1]/\KR X 124 0 Q (Ub Try.f124 3) (mkS 70 [(1,O1 (PT 0 0)),(3,O1 (Bb false)),(27,O1 (Bb false))]) [some [Bb a1,Va a2,Bb a3,U8 a4,Bb a5,XS kr 0 kn,Bb a6,Fa a7,Fa a8,Bb a9,U8 b1,U8 b2,U8 c0,U8 c1,U8 c2,U8 c3,U8 c4,U8 c5,U8 c6,U8 c7,U8 c8,U8 c9,U8 d0,U8 d1]])) : Ia X 124 0 Q (Ub Try.f124 1) (mkS 70 [(1,.one (.ptr 0 0)),(3,.one (.b false))]) [some [.b a1,.u16 a2,.b a3,.u8 a4,.b a5,.xs kr 0 kn,.b a6,.u32 a7,.u32 a8,.b a9,.u8 b1,.u8 b2,.u8 c0,.u8 c1,.u8 c2,.u8 c3,.u8 c4,.u8 c5,.u8 c6,.u8 c7,.u8 c8,.u8 c9,.u8 d0,.u8 d1]] :=
 wR hX WVA3 ok124 [5,10,14,19,25,29,34,38,43,48,52,58,64] [(100001,0),(100003,0),(100005,0)] [] [(0,[1,3,27,41],[true])] h (by kernel_rfl)
theorem vc124u {X} {Q : QT} (hX : PX X) (a1 : Bool) (a2:BitVec 16) (a3 : Bool) (a4:BitVec 8) (a5 : Bool) (kr : List AC) (kn:Nat) (a6 : Bool) (a7 a8:BitVec 32) (a9 : Bool) (b1 b2 c0 c1 c2 c3 c4 c5 c6 c7 c8 c9 d0 d1:BitVec 8) (h : Q (O1 (Bb false)) []) : Ia X 124 0 Q (Ub Try.f124 3) (mkS 70 [(1,.one (.ptr 0 0)),(3,.one (.b false)),(27,.one (.b true))]) [some [.b a1,.u16 a2,.b a3,.u8 a4,.b a5,.xs kr 0 kn,.b a6,.u32 a7,.u32 a8,.b a9,.u8 b1,.u8 b2,.u8 c0,.u8 c1,.u8 c2,.u8 c3,.u8 c4,.u8 c5,.u8 c6,.u8 c7,.u8 c8,.u8 c9,.u8 d0,.u8 d1]] :=
 wR hX WVA3 ok124 [5,10,14,19,25,29,34,38,43,48,52,58,64] [(100001,0),(100003,0),(100005,0)] [] [(0,[1,3,27,41],[true])] h (by kernel_rfl)
theorem vc124c {X} {Q : QT} (hX : PX X) (a1 : Bool) (a2:BitVec 16) (a3 : Bool) (a4:BitVec 8) (a5 : Bool) (kr : List AC) (kn:Nat) (a6 : Bool) (a7 a8:BitVec 32) (a9 : Bool) (b1 b2 c0 c1 c2 c3 c4 c5 c6 c7 c8 c9 d0 d1:BitVec 8) (h : (fun L0 : Prop=>(fun L1 : Prop=>(a9=true->L1)/\(a9=false->U8 b1=U8 b1/\((!decide (b1=BitVec.ofInt 8 0))=true->L0)/\((!decide (b1=BitVec.ofInt 8 0))=false->U8 b2=U8 b2/\((!decide (b2=BitVec.ofInt 8 0))=true->L0)/\((!decide (b2=BitVec.ofInt 8 0))=false->24<=24/\(fitCs (replicate 12 (U8 0)) (take 12 (drop 12 [Bb a1,Va a2,Bb a3,U8 a4,Bb a5,XS kr 0 kn,Bb a6,Fa a7,Fa a8,Bb a9,U8 b1,U8 b2,U8 c0,U8 c1,U8 c2,U8 c3,U8 c4,U8 c5,U8 c6,U8 c7,U8 c8,U8 c9,U8 d0,U8 d1]))/\fitCs (replicate 12 (U8 0)) (replicate 12 (U8 0)))/\((!Ld (take 12 (drop 12 [Bb a1,Va a2,Bb a3,U8 a4,Bb a5,XS kr 0 kn,Bb a6,Fa a7,Fa a8,Bb a9,U8 b1,U8 b2,U8 c0,U8 c1,U8 c2,U8 c3,U8 c4,U8 c5,U8 c6,U8 c7,U8 c8,U8 c9,U8 d0,U8 d1])) (replicate 12 (U8 0)))=true->L0)/\((!Ld (take 12 (drop 12 [Bb a1,Va a2,Bb a3,U8 a4,Bb a5,XS kr 0 kn,Bb a6,Fa a7,Fa a8,Bb a9,U8 b1,U8 b2,U8 c0,U8 c1,U8 c2,U8 c3,U8 c4,U8 c5,U8 c6,U8 c7,U8 c8,U8 c9,U8 d0,U8 d1])) (replicate 12 (U8 0)))=false->L1))))) (Flat [Bb a1,Va a2,Bb a3,U8 a4,Bb a5,XS kr 0 kn,Bb a6,Fa a7,Fa a8,Bb a9,U8 b1,U8 b2,U8 c0,U8 c1,U8 c2,U8 c3,U8 c4,U8 c5,U8 c6,U8 c7,U8 c8,U8 c9,U8 d0,U8 d1]/\KR X 124 0 Q (Ub Try.f124 5) (mkS 70 [(1,O1 (PT 0 0)),(3,O1 (Bb false)),(27,O1 (Bb false)),(41,O1 (Bb false))]) [some [Bb a1,Va a2,Bb a3,U8 a4,Bb a5,XS kr 0 kn,Bb a6,Fa a7,Fa a8,Bb a9,U8 b1,U8 b2,U8 c0,U8 c1,U8 c2,U8 c3,U8 c4,U8 c5,U8 c6,U8 c7,U8 c8,U8 c9,U8 d0,U8 d1]])) (Flat [Bb a1,Va a2,Bb a3,U8 a4,Bb a5,XS kr 0 kn,Bb a6,Fa a7,Fa a8,Bb a9,U8 b1,U8 b2,U8 c0,U8 c1,U8 c2,U8 c3,U8 c4,U8 c5,U8 c6,U8 c7,U8 c8,U8 c9,U8 d0,U8 d1]/\KR X 124 0 Q (Ub Try.f124 5) (mkS 70 [(1,O1 (PT 0 0)),(3,O1 (Bb false)),(27,O1 (Bb false)),(41,O1 (Bb true))]) [some [Bb a1,Va a2,Bb a3,U8 a4,Bb a5,XS kr 0 kn,Bb a6,Fa a7,Fa a8,Bb a9,U8 b1,U8 b2,U8 c0,U8 c1,U8 c2,U8 c3,U8 c4,U8 c5,U8 c6,U8 c7,U8 c8,U8 c9,U8 d0,U8 d1]])) : Ia X 124 0 Q (Ub Try.f124 3) (mkS 70 [(1,.one (.ptr 0 0)),(3,.one (.b false)),(27,.one (.b false))]) [some [.b a1,.u16 a2,.b a3,.u8 a4,.b a5,.xs kr 0 kn,.b a6,.u32 a7,.u32 a8,.b a9,.u8 b1,.u8 b2,.u8 c0,.u8 c1,.u8 c2,.u8 c3,.u8 c4,.u8 c5,.u8 c6,.u8 c7,.u8 c8,.u8 c9,.u8 d0,.u8 d1]] :=
 wR hX WVA3 ok124 [5,10,14,19,25,29,34,38,43,48,52,58,64] [(100001,0),(100003,0),(100005,0)] [] [(0,[1,3,27,41],[true])] h (by kernel_rfl)
theorem vc124v {X} {Q : QT} (hX : PX X) (a1 : Bool) (a2:BitVec 16) (a3 : Bool) (a4:BitVec 8) (a5 : Bool) (kr : List AC) (kn:Nat) (a6 : Bool) (a7 a8:BitVec 32) (a9 : Bool) (b1 b2 c0 c1 c2 c3 c4 c5 c6 c7 c8 c9 d0 d1:BitVec 8) (h : Q (O1 (Bb false)) []) : Ia X 124 0 Q (Ub Try.f124 5) (mkS 70 [(1,.one (.ptr 0 0)),(3,.one (.b false)),(27,.one (.b false)),(41,.one (.b true))]) [some [.b a1,.u16 a2,.b a3,.u8 a4,.b a5,.xs kr 0 kn,.b a6,.u32 a7,.u32 a8,.b a9,.u8 b1,.u8 b2,.u8 c0,.u8 c1,.u8 c2,.u8 c3,.u8 c4,.u8 c5,.u8 c6,.u8 c7,.u8 c8,.u8 c9,.u8 d0,.u8 d1]] :=
 wR hX WVA3 ok124 [5,10,14,19,25,29,34,38,43,48,52,58,64] [(100001,0),(100003,0),(100005,0)] [] [(0,[1,3,27,41],[true])] h (by kernel_rfl)
theorem vc124d {X} {Q : QT} (hX : PX X) (a1 : Bool) (a2:BitVec 16) (a3 : Bool) (a4:BitVec 8) (a5 : Bool) (kr : List AC) (kn:Nat) (a6 : Bool) (a7 a8:BitVec 32) (a9 : Bool) (b1 b2 c0 c1 c2 c3 c4 c5 c6 c7 c8 c9 d0 d1:BitVec 8) (h : (fun D0 : Op=>(decide ((↑kn:Int)<=(4:Int))=true->(IsO [Bb a1,Va a2,Bb a3,U8 a4,Bb a5,XS kr 0 kn,Bb a6,Fa a7,Fa a8,Bb a9,U8 b1,U8 b2,U8 c0,U8 c1,U8 c2,U8 c3,U8 c4,U8 c5,U8 c6,U8 c7,U8 c8,U8 c9,U8 d0,U8 d1]/\List.length (Op.sacks D0)<=1000000)/\Q (O1 (Bb (decide ((↑(sizN D0):Int)<=(40:Int))))) [])/\(decide ((↑kn:Int)<=(4:Int))=false->Q (O1 (Bb false)) [])) (oOf (nrL [Bb a1,Va a2,Bb a3,U8 a4,Bb a5,XS kr 0 kn,Bb a6,Fa a7,Fa a8,Bb a9,U8 b1,U8 b2,U8 c0,U8 c1,U8 c2,U8 c3,U8 c4,U8 c5,U8 c6,U8 c7,U8 c8,U8 c9,U8 d0,U8 d1]))) : Ia X 124 0 Q (Ub Try.f124 5) (mkS 70 [(1,.one (.ptr 0 0)),(3,.one (.b false)),(27,.one (.b false)),(41,.one (.b false))]) [some [.b a1,.u16 a2,.b a3,.u8 a4,.b a5,.xs kr 0 kn,.b a6,.u32 a7,.u32 a8,.b a9,.u8 b1,.u8 b2,.u8 c0,.u8 c1,.u8 c2,.u8 c3,.u8 c4,.u8 c5,.u8 c6,.u8 c7,.u8 c8,.u8 c9,.u8 d0,.u8 d1]] :=
 wR hX WVA3 ok124 [5,10,14,19,25,29,34,38,43,48,52,58,64] [(100001,0),(100003,0),(100005,0)] [] [(0,[1,3,27,41],[true])] h (by kernel_rfl)
def mayO (o : Op) : Bool := (o.hasM || decide (o.mss = 0)) && (o.hasS || decide (o.sc = 0)) && !decide (14#8 < o.sc) && (o.hasT || (decide (o.val = 0) && decide (o.echo = 0))) && (o.hasA || (decide (o.kid = 0) && decide (o.nid = 0) && decide (o.mac = zM))) && decide (o.sacks.length ≤ 4) && decide (sizN o ≤ 40)
theorem oOf_C {o : Op} (hl : o.mac.length = 12) : oOf (nrL (opC o)) = o := by
 obtain ⟨a1, a2, a3, a4, a5, a6, a7, a8, a9, b1, b2, mc, sk⟩ := o
 obtain ⟨c0, c1, c2, c3, c4, c5, c6, c7, c8, c9, d0, d1, rfl⟩ := twelve hl
 show (⟨a1, a2, a3, a4, a5, a6, a7, a8, a9, b1, b2, [c0, c1, c2, c3, c4, c5, c6, c7, c8, c9, d0, d1], sakD (sakC sk)⟩ : Op) = _
 rw [sakD_C]
theorem nr_C {o : Op} (hl : o.mac.length = 12) : nrL (opC o) = opC o := by
 obtain ⟨a1, a2, a3, a4, a5, a6, a7, a8, a9, b1, b2, mc, sk⟩ := o
 obtain ⟨c0, c1, c2, c3, c4, c5, c6, c7, c8, c9, d0, d1, rfl⟩ := twelve hl
 rfl
theorem isO_C {o : Op} (hl : o.mac.length = 12) : IsO (opC o) := by
 refine ⟨?_, ?_⟩
 ·rw [oOf_C hl, nr_C hl]
 ·rw [oOf_C hl]; exact hl
theorem zM_map : zM.map U8 = replicate 12 (U8 0) := List.map_replicate
theorem same_mac {l : List (BitVec 8)} : Ld (l.map U8) (replicate 12 (U8 0)) = decide (l = zM) := by
 rw [← zM_map, same_u8]
theorem bnt {b : Bool} (h : (!b) = true) : b = false := by cases b; rfl; cases h
theorem bnf {b : Bool} (h : (!b) = false) : b = true := by cases b; cases h; rfl
theorem s124 (o : Op) (hl : o.mac.length = 12) : Spec Try.prog 124 [.agg (opC o)] [] (Is (.one (.b (mayO o)))) := by
 have hI := isO_C hl
 have hO := oOf_C hl
 generalize hm : mayO o = r
 have hf : Flat (opC o) := by
  obtain ⟨a1, a2, a3, a4, a5, a6, a7, a8, a9, b1, b2, mc, sk⟩ := o
  obtain ⟨c0, c1, c2, c3, c4, c5, c6, c7, c8, c9, d0, d1, rfl⟩ := twelve hl
  exact Ib rfl
 obtain ⟨a1, a2, a3, a4, a5, a6, a7, a8, a9, b1, b2, mc, sk⟩ := o
 unfold mayO at hm
 dsimp only at hm hl
 have hM := same_mac (l := mc)
 have hT : take 12 (mc.map U8) = mc.map U8 := List.take_of_length_le (by rw [List.length_map]; omega)
 have hZ : fitCs (replicate 12 (U8 0)) (mc.map U8) := fit12 hl
 have hZ2 : fitCs (replicate 12 (U8 0)) (replicate 12 (U8 0)) := by
  have := fit12 (l := z12) List.length_replicate
  rwa [show z12.map U8 = replicate 12 (U8 0) from List.map_replicate] at this
 have fz : r = false → Is (.one (.b r)) (.one (.b false)) [] := fun e => by rw [e]; exact rfl
 generalize hmm : decide (mc = zM) = mz at hm hM
 obtain ⟨c0, c1, c2, c3, c4, c5, c6, c7, c8, c9, d0, d1, rfl⟩ := twelve hl
 refine Spec.of_run ok124 fun X hX => ?_
 have K7 : ∀ (h1 : (a1 || decide (a2 = 0)) = true) (h2 : (a3 || decide (a4 = 0)) = true) (h3 : decide (14#8 < a4) = false) (h4 : (a6 || (decide (a7 = 0) && decide (a8 = 0))) = true) (h5 : (a9 || (decide (b1 = 0) && decide (b2 = 0) && mz)) = true),
   Ia X 124 0 (Is (.one (.b r))) (Ub Try.f124 5) (mkS 70 [(1, .one (.ptr 0 0)), (3, .one (.b false)), (27, .one (.b false)), (41, .one (.b false))]) [some (opC ⟨a1, a2, a3, a4, a5, a6, a7, a8, a9, b1, b2, [c0, c1, c2, c3, c4, c5, c6, c7, c8, c9, d0, d1], sk⟩)] := by
  intro h1 h2 h3 h4 h5
  rw [h1, h2, h3, h4, h5] at hm
  simp only [Bool.not_false, Bool.and_true, Bool.true_and] at hm
  refine vc124d hX _ _ _ _ _ _ _ _ _ _ _ _ _ _ _ _ _ _ _ _ _ _ _ _ _ ⟨fun h => ?_, fun h => ?_⟩
  ·have h : (sk.length:Int) ≤ 4 := of_decide_eq_true h
   refine ⟨⟨hI, ?_⟩, ?_⟩
   ·erw [hO]
    show sk.length ≤ 1000000
    omega
   ·erw [hO]
    rw [show decide (sk.length ≤ 4) = true from decide_eq_true (by omega), Bool.true_and] at hm
    rw [← hm]
    generalize sizN _ = z
    rw [show decide ((z:Int) ≤ 40) = decide (z ≤ 40) from decide_eq_decide.2 (by omega)]
    exact rfl
  ·have h : ¬ (sk.length:Int) ≤ 4 := of_decide_eq_false h
   rw [show decide (sk.length ≤ 4) = false from decide_eq_false (by omega), Bool.false_and] at hm
   exact fz hm.symm
 have K5 : ∀ (h1 : (a1 || decide (a2 = 0)) = true) (h2 : (a3 || decide (a4 = 0)) = true) (h3 : decide (14#8 < a4) = false) (h4 : (a6 || (decide (a7 = 0) && decide (a8 = 0))) = true),
   Ia X 124 0 (Is (.one (.b r))) (Ub Try.f124 3) (mkS 70 [(1, .one (.ptr 0 0)), (3, .one (.b false)), (27, .one (.b false))]) [some (opC ⟨a1, a2, a3, a4, a5, a6, a7, a8, a9, b1, b2, [c0, c1, c2, c3, c4, c5, c6, c7, c8, c9, d0, d1], sk⟩)] := by
  intro h1 h2 h3 h4
  have K7 := K7 h1 h2 h3 h4
  have Kt : ∀ (h5 : (a9 || (decide (b1 = 0) && decide (b2 = 0) && mz)) = false), Ia X 124 0 (Is (.one (.b r))) (Ub Try.f124 5) (mkS 70 [(1, .one (.ptr 0 0)), (3, .one (.b false)), (27, .one (.b false)), (41, .one (.b true))]) [some (opC ⟨a1, a2, a3, a4, a5, a6, a7, a8, a9, b1, b2, [c0, c1, c2, c3, c4, c5, c6, c7, c8, c9, d0, d1], sk⟩)] := by
   intro h5
   rw [h5] at hm
   refine vc124v hX _ _ _ _ _ _ _ _ _ _ _ _ _ _ _ _ _ _ _ _ _ _ _ _ _ (fz ?_)
   try dsimp only
   rw [← hm]
   simp only [Bool.and_false, Bool.false_and]
  refine vc124c hX _ _ _ _ _ _ _ _ _ _ _ _ _ _ _ _ _ _ _ _ _ _ _ _ _ ⟨fun h => ⟨hf, ⟨K7 ?_⟩⟩, fun h => ⟨rfl, fun g1 => ⟨hf, ⟨Kt ?_⟩⟩, fun g1 => ⟨rfl, fun g2 => ⟨hf, ⟨Kt ?_⟩⟩, fun g2 => ⟨Nat.le_refl _, ⟨hZ, hZ2⟩, fun g3 => ⟨hf, ⟨Kt ?_⟩⟩, fun g3 => ⟨hf, ⟨K7 ?_⟩⟩⟩⟩⟩⟩
  ·have h : a9 = true := h
   rw [h]; rfl
  ·have h : a9 = false := h
   have e1 : decide (b1 = 0) = false := bnt g1
   rw [h, e1]; rfl
  ·have h : a9 = false := h
   have e1 : decide (b1 = 0) = true := bnf g1
   have e2 : decide (b2 = 0) = false := bnt g2
   rw [h, e1, e2]; rfl
  ·have h : a9 = false := h
   have e1 : decide (b1 = 0) = true := bnf g1
   have e2 : decide (b2 = 0) = true := bnf g2
   have e3 : mz = false := hM.symm.trans (bnt g3)
   rw [h, e1, e2, e3]; rfl
  ·have h : a9 = false := h
   have e1 : decide (b1 = 0) = true := bnf g1
   have e2 : decide (b2 = 0) = true := bnf g2
   have e3 : mz = true := hM.symm.trans (bnf g3)
   rw [h, e1, e2, e3]; rfl
 have K3 : ∀ (h1 : (a1 || decide (a2 = 0)) = true) (h2 : (a3 || decide (a4 = 0)) = true) (h3 : decide (14#8 < a4) = false),
   Ia X 124 0 (Is (.one (.b r))) (Ub Try.f124 1) (mkS 70 [(1, .one (.ptr 0 0)), (3, .one (.b false))]) [some (opC ⟨a1, a2, a3, a4, a5, a6, a7, a8, a9, b1, b2, [c0, c1, c2, c3, c4, c5, c6, c7, c8, c9, d0, d1], sk⟩)] := by
  intro h1 h2 h3
  have K5 := K5 h1 h2 h3
  have Kt : ∀ (h4 : (a6 || (decide (a7 = 0) && decide (a8 = 0))) = false), Ia X 124 0 (Is (.one (.b r))) (Ub Try.f124 3) (mkS 70 [(1, .one (.ptr 0 0)), (3, .one (.b false)), (27, .one (.b true))]) [some (opC ⟨a1, a2, a3, a4, a5, a6, a7, a8, a9, b1, b2, [c0, c1, c2, c3, c4, c5, c6, c7, c8, c9, d0, d1], sk⟩)] := by
   intro h4
   rw [h4] at hm
   refine vc124u hX _ _ _ _ _ _ _ _ _ _ _ _ _ _ _ _ _ _ _ _ _ _ _ _ _ (fz ?_)
   try dsimp only
   rw [← hm]
   simp only [Bool.and_false, Bool.false_and]
  refine vc124b hX _ _ _ _ _ _ _ _ _ _ _ _ _ _ _ _ _ _ _ _ _ _ _ _ _ ⟨fun h => ⟨hf, ⟨K5 ?_⟩⟩, fun h => ⟨rfl, fun g1 => ⟨hf, ⟨Kt ?_⟩⟩, fun g1 => ⟨rfl, fun g2 => ⟨hf, ⟨Kt ?_⟩⟩, fun g2 => ⟨hf, ⟨K5 ?_⟩⟩⟩⟩⟩
  ·have h : a6 = true := h
   rw [h]; rfl
  ·have h : a6 = false := h
   have e1 : decide (a7 = 0) = false := bnt g1
   rw [h, e1]; rfl
  ·have h : a6 = false := h
   have e1 : decide (a7 = 0) = true := bnf g1
   have e2 : decide (a8 = 0) = false := bnt g2
   rw [h, e1, e2]; rfl
  ·have h : a6 = false := h
   have e1 : decide (a7 = 0) = true := bnf g1
   have e2 : decide (a8 = 0) = true := bnf g2
   rw [h, e1, e2]; rfl
 have Kt : ∀ (h4 : ((a1 || decide (a2 = 0)) && (a3 || decide (a4 = 0)) && !decide (14#8 < a4)) = false), Ia X 124 0 (Is (.one (.b r))) (Ub Try.f124 1) (mkS 70 [(1, .one (.ptr 0 0)), (3, .one (.b true))]) [some (opC ⟨a1, a2, a3, a4, a5, a6, a7, a8, a9, b1, b2, [c0, c1, c2, c3, c4, c5, c6, c7, c8, c9, d0, d1], sk⟩)] := by
  intro h4
  rw [h4] at hm
  refine vc124t hX _ _ _ _ _ _ _ _ _ _ _ _ _ _ _ _ _ _ _ _ _ _ _ _ _ (fz ?_)
  try dsimp only
  rw [← hm]
  simp only [Bool.and_false, Bool.false_and]
 have P3 : ∀ (h1 : (a1 || decide (a2 = 0)) = true), (a3 = true →
   (decide (14#8 < a4) = true → KR X 124 0 (Is (.one (.b r))) (Ub Try.f124 1) (mkS 70 [(1, .one (.ptr 0 0)), (3, .one (.b true))]) [some (opC ⟨a1, a2, a3, a4, a5, a6, a7, a8, a9, b1, b2, [c0, c1, c2, c3, c4, c5, c6, c7, c8, c9, d0, d1], sk⟩)]) ∧
   (decide (14#8 < a4) = false → KR X 124 0 (Is (.one (.b r))) (Ub Try.f124 1) (mkS 70 [(1, .one (.ptr 0 0)), (3, .one (.b false))]) [some (opC ⟨a1, a2, a3, a4, a5, a6, a7, a8, a9, b1, b2, [c0, c1, c2, c3, c4, c5, c6, c7, c8, c9, d0, d1], sk⟩)])) ∧
   (a3 = false → (decide (a4 = 0) = false → KR X 124 0 (Is (.one (.b r))) (Ub Try.f124 1) (mkS 70 [(1, .one (.ptr 0 0)), (3, .one (.b true))]) [some (opC ⟨a1, a2, a3, a4, a5, a6, a7, a8, a9, b1, b2, [c0, c1, c2, c3, c4, c5, c6, c7, c8, c9, d0, d1], sk⟩)]) ∧
   (decide (a4 = 0) = true → (decide (14#8 < a4) = true → KR X 124 0 (Is (.one (.b r))) (Ub Try.f124 1) (mkS 70 [(1, .one (.ptr 0 0)), (3, .one (.b true))]) [some (opC ⟨a1, a2, a3, a4, a5, a6, a7, a8, a9, b1, b2, [c0, c1, c2, c3, c4, c5, c6, c7, c8, c9, d0, d1], sk⟩)]) ∧
   (decide (14#8 < a4) = false → KR X 124 0 (Is (.one (.b r))) (Ub Try.f124 1) (mkS 70 [(1, .one (.ptr 0 0)), (3, .one (.b false))]) [some (opC ⟨a1, a2, a3, a4, a5, a6, a7, a8, a9, b1, b2, [c0, c1, c2, c3, c4, c5, c6, c7, c8, c9, d0, d1], sk⟩)]))) := by
  intro h1
  refine ⟨fun h => ⟨fun g => ⟨Kt ?_⟩, fun g => ⟨K3 h1 ?_ g⟩⟩, fun h => ⟨fun g => ⟨Kt ?_⟩, fun g => ⟨fun g2 => ⟨Kt ?_⟩, fun g2 => ⟨K3 h1 ?_ g2⟩⟩⟩⟩
  ·rw [g]; simp only [Bool.not_true, Bool.and_false]
  ·rw [h]; rfl
  ·rw [h, g]; simp only [Bool.or_false, Bool.and_false, Bool.false_and]
  ·rw [g2]; simp only [Bool.not_true, Bool.and_false]
  ·rw [h, g]; rfl
 refine vc124 hX _ _ _ _ _ _ _ _ _ _ _ _ _ _ _ _ _ _ _ _ _ _ _ _ _ ⟨fun h => ?_, fun h => ⟨rfl, fun g => ⟨hf, ⟨Kt ?_⟩⟩, fun g => ?_⟩⟩
 ·have h : a1 = true := h
  obtain ⟨q1, q2⟩ := P3 (by rw [h]; rfl)
  exact ⟨fun k => ⟨rfl, fun g => ⟨hf, (q1 k).1 g⟩, fun g => ⟨hf, (q1 k).2 g⟩⟩, fun k => ⟨rfl, fun g => ⟨hf, (q2 k).1 (bnt g)⟩, fun g => ⟨rfl, fun g2 => ⟨hf, ((q2 k).2 (bnf g)).1 g2⟩, fun g2 => ⟨hf, ((q2 k).2 (bnf g)).2 g2⟩⟩⟩⟩
 ·have h : a1 = false := h
  have e1 : decide (a2 = 0) = false := bnt g
  rw [h, e1]; rfl
 ·have h : a1 = false := h
  have e1 : decide (a2 = 0) = true := bnf g
  obtain ⟨q1, q2⟩ := P3 (by rw [h, e1]; rfl)
  exact ⟨fun k => ⟨rfl, fun g => ⟨hf, (q1 k).1 g⟩, fun g => ⟨hf, (q1 k).2 g⟩⟩, fun k => ⟨rfl, fun g => ⟨hf, (q2 k).1 (bnt g)⟩, fun g => ⟨rfl, fun g2 => ⟨hf, ((q2 k).2 (bnf g)).1 g2⟩, fun g2 => ⟨hf, ((q2 k).2 (bnf g)).2 g2⟩⟩⟩⟩
theorem ok135 : Ac Try.prog 135 Try.f135 (Na Try.f135) := .of Try.func135 (by kernel_rfl) (by kernel_rfl)
theorem ok134 : Ac Try.prog 134 Try.f134 (Na Try.f134) := .of Try.func134 (by kernel_rfl) (by kernel_rfl)
theorem ok131 : Ac Try.prog 131 Try.f131 (Na Try.f131) := .of Try.func131 (by kernel_rfl) (by kernel_rfl)
theorem ok126 : Ac Try.prog 126 Try.f126 (Na Try.f126) := .of Try.func126 (by kernel_rfl) (by kernel_rfl)
theorem ok101 : Ac Try.prog 101 Try.f101 (Na Try.f101) := .of Try.func101 (by kernel_rfl) (by kernel_rfl)
noncomputable def TV3 : Tab := fun f xs => match f, xs with
 | 124, [.agg cs] => some ([IsO cs], .one (.b (mayO (oOf (nrL cs)))))
 | f, xs => TV2 f xs
theorem TV3_ok : Oc Try.prog TV3 := by
 intro f xs cs r h hc
 unfold TV3 at h
 split at h
 ·obtain ⟨rfl, rfl⟩ := Prod.mk.inj (Option.some.inj h)
  rename_i cs
  have := s124 (oOf (nrL cs)) hc.1.len
  rw [← hc.1.eq] at this
  exact ⟨⟨_, _, ok124⟩, Spec.nr this, rfl⟩
 ·exact TV2_ok _ _ _ _ h hc
def WVA4 : WC := ⟨envP TV3 mfV1 MV1,envP_ok TV3 mfV1 MV1,Ed TV3_ok MV1_ok⟩
theorem vc135 {X} {Q : QT} (hX : PX X) (x:BitVec 64) (h : KR X 135 0 Q (Fb Try.f135 0) (mkS 12 [(0,O1 (Nc x))]) []) : Ia X 135 0 Q ([.code (Na Try.f135)]) (slots [.one (.u64 x)] Try.f135.ntmps) [] :=
 wR hX WVA4 ok135 [4] [] [] [(1,[0],[])] h (by kernel_rfl)
theorem vc135a {X} {Q : QT} (hX : PX X) (x:BitVec 64) (h : (decide (BitVec.ofInt 64 65535<x)=true->KR X 135 0 Q (Fb Try.f135 0) (mkS 12 [(0,O1 (Nc ((x&&&BitVec.ofInt 64 65535)+x>>>16)))]) [])/\(decide (BitVec.ofInt 64 65535<x)=false->Q (O1 (Va (BitVec.setWidth 16 x))) [])) : Ia X 135 0 Q (Fb Try.f135 0) (mkS 12 [(0,.one (.u64 x))]) [] :=
 wR hX WVA4 ok135 [4] [] [] [(1,[0],[])] h (by kernel_rfl)
def foldN : Nat → BitVec 64 → BitVec 64
 | 0, x => x
 | k + 1, x => if 65535#64 < x then foldN k ((x &&& 65535#64) + (x >>> 16)) else x
theorem foldN_lt {x : BitVec 64} (h : 65535 < x.toNat) : ((x &&& 65535#64) + (x >>> 16)).toNat < x.toNat := by
 rw [BitVec.toNat_add, BitVec.toNat_and, BitVec.toNat_ushiftRight, Nat.shiftRight_eq_div_pow, show (65535#64).toNat = 2 ^ 16 - 1 from rfl, Nat.and_two_pow_sub_one_eq_mod]
 have := x.isLt
 have := Nat.mod_le (x.toNat % 2 ^ 16 + x.toNat / 2 ^ 16) (2 ^ 64)
 omega
theorem l135 {X : Ctx} (hX : X.P = Try.prog) : ∀ (k:Nat) (x:BitVec 64), x.toNat ≤ k →
  Ia X 135 0 (Is (.one (.u16 ((foldN k x).setWidth 16)))) (Fb Try.f135 0) (mkS 12 [(0, .one (.u64 x))]) [] := by
 intro k
 induction k with
 | zero =>
  intro x hx
  refine vc135a hX _ ⟨fun h => ?_, fun _ => rfl⟩
  have h : 65535#64 < x := of_decide_eq_true h
  have h : (65535#64).toNat < x.toNat := h
  exact absurd (show 65535 < x.toNat from h) (by omega)
 | succ k ih =>
  intro x hx
  refine vc135a hX _ ⟨fun h => ?_, fun h => ?_⟩
  ·have h : 65535#64 < x := of_decide_eq_true h
   have h2 : (65535#64).toNat < x.toNat := h
   have h2 : 65535 < x.toNat := h2
   have e : foldN (k + 1) x = foldN k ((x &&& 65535#64) + (x >>> 16)) := if_pos h
   rw [e]
   have := foldN_lt h2
   exact ⟨ih _ (by omega)⟩
  ·have h : ¬ 65535#64 < x := of_decide_eq_false h
   have e : foldN (k + 1) x = x := if_neg h
   rw [e]
   exact rfl
def foldF (x:BitVec 64) : BitVec 16 := (foldN x.toNat x).setWidth 16
theorem s135 (x:BitVec 64) : Spec Try.prog 135 [.one (.u64 x)] [] (Is (.one (.u16 (foldF x)))) :=
 Spec.of_run ok135 fun X hX => vc135 hX _ ⟨l135 hX x.toNat x (Nat.le_refl _)⟩
noncomputable def TV4 : Tab := fun f xs => match f, xs with
 | 135, [.one (.u64 x)] => some ([], .one (.u16 (foldF x)))
 | f, xs => TV3 f xs
theorem TV4_ok : Oc Try.prog TV4 := by
 intro f xs cs r h hc
 unfold TV4 at h
 split at h
 ·obtain ⟨rfl, rfl⟩ := Prod.mk.inj (Option.some.inj h)
  exact ⟨⟨_, _, ok135⟩, s135 _, rfl⟩
 ·exact TV3_ok _ _ _ _ h hc
def WVA5 : WC := ⟨envP TV4 mfV1 MV1,envP_ok TV4 mfV1 MV1,Ed TV4_ok MV1_ok⟩
theorem vc134 {X} {Q : QT} (hX : PX X) (ps : List AC) (k:Nat) (h : KR X 134 0 Q (Fb Try.f134 0) (mkS 42 [(3,O1 (Nc (BitVec.ofInt 64 0))),(6,O1 (XS ps 0 k)),(7,O1 (I64 (↑k:Int))),(8,O1 (I64 (0:Int)))]) []) : Ia X 134 0 Q ([.code (Na Try.f134)]) (slots [.one (.xs ps 0 k)] Try.f134.ntmps) [] :=
 wR hX WVA5 ok134 [9,14,31] [] [] [(3,[3,6,7,8],[]),(5,[3,5,6,7,8],[])] h (by kernel_rfl)
theorem vc134a {X} {Q : QT} (hX : PX X) (ps : List AC) (k:Nat) (n:BitVec 64) (i:Int) (h : (fun D0 : Nat=>(decide (i<(↑k:Int))=true->((0:Int)<=i/\i<(↑k:Int))/\gt AY ps D0=XS (Td (gt AY ps D0)) (xsOff (gt AY ps D0)) (xsLen (gt AY ps D0))/\KR X 134 0 Q (Fb Try.f134 1) (mkS 42 [(3,O1 (Nc n)),(5,O1 (XS (Td (gt AY ps D0)) (xsOff (gt AY ps D0)) (xsLen (gt AY ps D0)))),(6,O1 (XS ps 0 k)),(7,O1 (I64 (↑k:Int))),(8,O1 (I64 i))]) [])/\(decide (i<(↑k:Int))=false->Q (O1 (Va (foldF n))) [])) (0+Int.toNat i*1)) : Ia X 134 0 Q (Fb Try.f134 0) (mkS 42 [(3,.one (.u64 n)),(6,.one (.xs ps 0 k)),(7,.one (.i64 k)),(8,.one (.i64 i))]) [] :=
 wR hX WVA5 ok134 [9,14,31] [] [] [(3,[3,6,7,8],[]),(5,[3,5,6,7,8],[])] h (by kernel_rfl)
theorem vc134b {X} {Q : QT} (hX : PX X) (ps row : List AC) (k o m:Nat) (n:BitVec 64) (i:Int) (h : (fun D0 : BitVec 8=>(decide ((1:Int)<(↑m:Int))=true->((0:Int)<=(0:Int)/\(0:Int)<(↑m:Int))/\gt AY row (o+0)=U8 D0/\((0:Int)<=(1:Int)/\(1:Int)<(↑m:Int))/\gt AY row (o+1)=U8 (Ea (gt AY row (o+1)))/\((0:Int)<=(2:Int)/\(2:Int)<=(↑m:Int)/\(↑m:Int)<=(↑m:Int))/\KR X 134 0 Q (Fb Try.f134 1) (mkS 42 [(3,O1 (Nc (n+(BitVec.setWidth 64 D0<<<8|||BitVec.setWidth 64 (Ea (gt AY row (o+1))))))),(5,O1 (XS row (o+2) (Int.toNat (↑m:Int) - 2))),(6,O1 (XS ps 0 k)),(7,O1 (I64 (↑k:Int))),(8,O1 (I64 i))]) [])/\(decide ((1:Int)<(↑m:Int))=false->(decide ((↑m:Int)=(1:Int))=true->((0:Int)<=(0:Int)/\(0:Int)<(↑m:Int))/\gt AY row (o+0)=U8 D0/\La (i+(1:Int))/\KR X 134 0 Q (Fb Try.f134 0) (mkS 42 [(3,O1 (Nc (n+BitVec.setWidth 64 D0<<<8))),(6,O1 (XS ps 0 k)),(7,O1 (I64 (↑k:Int))),(8,O1 (I64 (i+(1:Int))))]) [])/\(decide ((↑m:Int)=(1:Int))=false->La (i+(1:Int))/\KR X 134 0 Q (Fb Try.f134 0) (mkS 42 [(3,O1 (Nc n)),(6,O1 (XS ps 0 k)),(7,O1 (I64 (↑k:Int))),(8,O1 (I64 (i+(1:Int))))]) []))) (Ea (gt AY row (o+0)))) : Ia X 134 0 Q (Fb Try.f134 1) (mkS 42 [(3,.one (.u64 n)),(5,.one (.xs row o m)),(6,.one (.xs ps 0 k)),(7,.one (.i64 k)),(8,.one (.i64 i))]) [] :=
 wR hX WVA5 ok134 [9,14,31] [] [] [(3,[3,6,7,8],[]),(5,[3,5,6,7,8],[])] h (by kernel_rfl)
theorem gD {α : Type _} {l : List α} {i : Nat} {d : α} (h : i < l.length) : l.getD i d = l[i] := by simp [List.getD, h]
def sumB : List (BitVec 8) → BitVec 64 → BitVec 64
 | a :: b :: l, n => sumB l (n + (a.setWidth 64 <<< 8 ||| b.setWidth 64))
 | [a], n => n + a.setWidth 64 <<< 8
 | [], n => n
def sumP : List (List (BitVec 8)) → BitVec 64 → BitVec 64
 | p :: ps, n => sumP ps (sumB p n)
 | [], n => n
theorem l134b {X : Ctx} (hX : X.P = Try.prog) {Q : AV → Mem → Prop} (l : List (BitVec 8)) (ps : List AC) (k i:Nat) (hi : i ≤ 1000000) : ∀ (m o:Nat) (n:BitVec 64), o + m = l.length →
  Ia X 134 0 Q (Fb Try.f134 0) (mkS 42 [(3, .one (.u64 (sumB (l.drop o) n))), (6, .one (.xs ps 0 k)), (7, .one (.i64 k)), (8, .one (.i64 (i + 1:Nat)))]) [] →
  Ia X 134 0 Q (Fb Try.f134 1) (mkS 42 [(3, .one (.u64 n)), (5, .one (.xs (l.map U8) o m)), (6, .one (.xs ps 0 k)), (7, .one (.i64 k)), (8, .one (.i64 i))]) [] := by
 intro m
 induction m using Nat.strongRecOn with
 | _ m ih =>
  intro o n hm K
  match m, hm, ih with
  | 0, hm, _ =>
   rw [List.drop_eq_nil_of_le (by omega)] at K
   exact vc134b hX _ _ _ _ _ _ _ ⟨fun h => absurd (of_decide_eq_true h) (by omega), fun _ => ⟨fun h => absurd (of_decide_eq_true h) (by omega), fun _ => ⟨by unfold La; omega, ⟨K⟩⟩⟩⟩
  | 1, hm, _ =>
   have e : l.drop o = [l.getD o 0] := by
    rw [List.drop_eq_getElem_cons (by omega), List.drop_eq_nil_of_le (by omega), gD (by omega)]
   rw [e] at K
   have g : gt AY (l.map U8) (o + 0) = .u8 (l.getD o 0) := Cb l o (by omega)
   refine vc134b hX _ _ _ _ _ _ _ ⟨fun h => absurd (of_decide_eq_true h) (by omega), fun _ => ⟨fun _ => ?_, fun h => absurd (of_decide_eq_false h) (by omega)⟩⟩
   try dsimp only
   rw [g]
   exact ⟨⟨by omega, by omega⟩, rfl, by unfold La; omega, ⟨K⟩⟩
  | m + 2, hm, ih =>
   have e : l.drop o = l.getD o 0 :: l.getD (o + 1) 0 :: l.drop (o + 2) := by
    rw [List.drop_eq_getElem_cons (by omega), List.drop_eq_getElem_cons (i := o + 1) (by omega), gD (by omega), gD (by omega)]
   rw [e] at K
   have g : gt AY (l.map U8) (o + 0) = .u8 (l.getD o 0) := Cb l o (by omega)
   have g1 : gt AY (l.map U8) (o + 1) = .u8 (l.getD (o + 1) 0) := Cb l (o + 1) (by omega)
   have K2 := ih m (by omega) (o + 2) (n + ((l.getD o 0).setWidth 64 <<< 8 ||| (l.getD (o + 1) 0).setWidth 64)) (by omega) K
   refine vc134b hX _ _ _ _ _ _ _ ⟨fun _ => ?_, fun h => absurd (of_decide_eq_false h) (by omega)⟩
   try dsimp only
   rw [g, g1, show Int.toNat ((m + 2:Nat):Int) - 2 = m by omega]
   exact ⟨⟨by omega, by omega⟩, rfl, ⟨by omega, by omega⟩, rfl, ⟨by omega, by omega, by omega⟩, ⟨K2⟩⟩
theorem sumP_drop {ps : List (List (BitVec 8))} {i : Nat} (h : i < ps.length) (n:BitVec 64) : sumP (ps.drop i) n = sumP (ps.drop (i + 1)) (sumB (ps.getD i []) n) := by
 rw [List.drop_eq_getElem_cons h, gD h]
 rfl
theorem l134a {X : Ctx} (hX : X.P = Try.prog) (ps : List (List (BitVec 8))) (hps : ps.length ≤ 1000000) : ∀ (d i:Nat) (n:BitVec 64), i + d = ps.length →
  Ia X 134 0 (Is (.one (.u16 (foldF (sumP (ps.drop i) n))))) (Fb Try.f134 0) (mkS 42 [(3, .one (.u64 n)), (6, .one (.xs (ps.map encP) 0 ps.length)), (7, .one (.i64 ps.length)), (8, .one (.i64 i))]) [] := by
 intro d
 induction d with
 | zero =>
  intro i n hi
  rw [List.drop_eq_nil_of_le (by omega)]
  exact vc134a hX _ _ _ _ ⟨fun h => absurd (of_decide_eq_true h) (by omega), fun _ => rfl⟩
 | succ d ih =>
  intro i n hi
  have g := gt_P_at ps i (by omega)
  rw [sumP_drop (by omega)]
  have K := ih (i + 1) (sumB (ps.getD i []) n) (by omega)
  have K2 := l134b hX (ps.getD i []) (ps.map encP) ps.length i (by omega) (ps.getD i []).length 0 n (by omega) K
  refine vc134a hX _ _ _ _ ⟨fun _ => ?_, fun h => absurd (of_decide_eq_false h) (by omega)⟩
  try dsimp only
  rw [ixn, g]
  exact ⟨⟨by omega, by omega⟩, rfl, ⟨K2⟩⟩
theorem s134 (ps : List (List (BitVec 8))) (hps : ps.length ≤ 1000000) : Spec Try.prog 134 [.one (.xs (ps.map encP) 0 ps.length)] [] (Is (.one (.u16 (foldF (sumP ps 0))))) :=
 Spec.of_run ok134 fun X hX => vc134 hX _ _ ⟨l134a hX ps hps ps.length 0 0 (by omega)⟩
noncomputable def TV5 : Tab := fun f xs => match f, xs with
 | 134, [.one (.xs ps 0 k)] => some ([ps = (ps.map asP).map encP ∧ ps.length = k ∧ k ≤ 1000000], .one (.u16 (foldF (sumP (ps.map asP) 0))))
 | f, xs => TV4 f xs
theorem TV5_ok : Oc Try.prog TV5 := by
 intro f xs cs r h hc
 unfold TV5 at h
 split at h
 ·obtain ⟨rfl, rfl⟩ := Prod.mk.inj (Option.some.inj h)
  rename_i ps k
  obtain ⟨h1, h2, h3⟩ := hc.1
  have := s134 (ps.map asP) (by rw [List.length_map]; omega)
  rw [← h1, List.length_map, h2] at this
  exact ⟨⟨_, _, ok134⟩, this, rfl⟩
 ·exact TV4_ok _ _ _ _ h hc
def WVA6 : WC := ⟨envP TV5 mfV1 MV1,envP_ok TV5 mfV1 MV1,Ed TV5_ok MV1_ok⟩
theorem vc131 {X} {Q : QT} (hX : PX X) (ps : List AC) (k:Nat) (h : 0+k*1<=List.length ps/\(take (k*1) (drop 0 ps)=List.map encP (List.map asP (take (k*1) (drop 0 ps)))/\List.length (take (k*1) (drop 0 ps))=k/\k<=1000000)/\Q (O1 (Va (~~~foldF (sumP (List.map asP (take (k*1) (drop 0 ps))) (0:BitVec 64))))) []) : Ia X 131 0 Q ([.code (Na Try.f131)]) (slots [.one (.xs ps 0 k)] Try.f131.ntmps) [] :=
 wR hX WVA6 ok131 [] [] [] [] h (by kernel_rfl)
theorem vc101 {X} {Q : QT} (hX : PX X) (s t : Bool) (as' bs : List AC) (p:BitVec 8) (n:Int) (h : (fun D1 : BitVec 8=>(fun D0 : BitVec 8=>(fun L0 : Prop=>(s=true->L0)/\(s=false->(t=true->L0)/\(t=false->((0:Int)<=(↑0:Int)/\(↑0:Int)<=(4:Int)/\(4:Int)<=(↑16:Int)/\(4:Int)=(4:Int))/\((0:Int)<=(↑0:Int)/\(↑0:Int)<=(4:Int)/\(4:Int)<=(↑16:Int))/\5<=List.length (Bb t::bs)/\5<=List.length (Bb s::as')/\(8<=140737488355328/\8<=4611686018427387904)/\1<=4/\4<=4/\(12<=140737488355328/\12<=4611686018427387904)/\List.length (take 4 (drop 1 (Bb s::as'))++take 4 (drop 1 (Bb t::bs)))=8/\Flat (take 4 (drop 1 (Bb s::as'))++take 4 (drop 1 (Bb t::bs))++take 4 (drop 0 [Zc (Value.int IntKind.u8 0),U8 p,U8 D0,U8 D1]))/\Q (O1 (GS 0 12 1)) [some (take 4 (drop 1 (Bb s::as'))++take 4 (drop 1 (Bb t::bs))++take 4 (drop 0 [Zc (Value.int IntKind.u8 0),U8 p,U8 D0,U8 D1]))]))) (((0:Int)<=(↑0:Int)/\(↑0:Int)<=(16:Int)/\(16:Int)<=(↑16:Int)/\(16:Int)=(16:Int))/\((0:Int)<=(↑0:Int)/\(↑0:Int)<=(↑16:Int)/\(↑16:Int)<=(↑16:Int))/\17<=List.length (Bb t::bs)/\17<=List.length (Bb s::as')/\(32<=140737488355328/\32<=4611686018427387904)/\1<=16/\8<=8/\(40<=140737488355328/\40<=4611686018427387904)/\List.length (take 16 (drop 1 (Bb s::as'))++take 16 (drop 1 (Bb t::bs)))=32/\Flat (take 16 (drop 1 (Bb s::as'))++take 16 (drop 1 (Bb t::bs))++take 8 (drop 0 [U8 (BitVec.ofInt 8 (n / (2:Int) ^ min 24 64)),U8 (BitVec.ofInt 8 (n / (2:Int) ^ min 16 64)),U8 D0,U8 D1,Zc (Value.int IntKind.u8 0),Zc (Value.int IntKind.u8 0),Zc (Value.int IntKind.u8 0),U8 p]))/\Q (O1 (GS 0 40 1)) [some (take 16 (drop 1 (Bb s::as'))++take 16 (drop 1 (Bb t::bs))++take 8 (drop 0 [U8 (BitVec.ofInt 8 (n / (2:Int) ^ min 24 64)),U8 (BitVec.ofInt 8 (n / (2:Int) ^ min 16 64)),U8 D0,U8 D1,Zc (Value.int IntKind.u8 0),Zc (Value.int IntKind.u8 0),Zc (Value.int IntKind.u8 0),U8 p]))])) (BitVec.ofInt 8 (n / (2:Int) ^ min 8 64))) (BitVec.ofInt 8 n)) : Ia X 101 0 Q ([.code (Na Try.f101)]) (slots [.agg (.b s::as'),.agg (.b t::bs),.one (.u8 p),.one (.i64 n)] Try.f101.ntmps) [] :=
 wR hX WVA6 ok101 [12,16] [(2,4),(4,4)] [true] [] h (by kernel_rfl)
def psX (s t : Bool) (a b : List (BitVec 8)) (p:BitVec 8) (n:Int) : List (BitVec 8) :=
 if s || t then a ++ b ++ [BitVec.ofInt 8 (n / 2 ^ 24), BitVec.ofInt 8 (n / 2 ^ 16), BitVec.ofInt 8 (n / 2 ^ 8), BitVec.ofInt 8 n, 0, 0, 0, p]
 else a.take 4 ++ b.take 4 ++ [0, p, BitVec.ofInt 8 (n / 2 ^ 8), BitVec.ofInt 8 n]
theorem psX_len {a b : List (BitVec 8)} (ha : a.length = 16) (hb : b.length = 16) (s t : Bool) (p:BitVec 8) (n:Int) : (psX s t a b p n).length = if s || t then 40 else 12 := by
 unfold psX
 split <;> simp [ha, hb]
theorem s101 (s t : Bool) (a b : List (BitVec 8)) (p:BitVec 8) (n:Int) (ha : a.length = 16) (hb : b.length = 16) (h0 : 0 ≤ n) (h1 : n ≤ 1000000) :
  Spec Try.prog 101 [.agg (.b s :: a.map U8), .agg (.b t :: b.map U8), .one (.u8 p), .one (.i64 n)] [] (Are (.one (.gs 0 (psX s t a b p n).length 1)) [some ((psX s t a b p n).map U8)]) := by
 refine Spec.of_run ok101 fun X hX => vc101 hX _ _ _ _ _ _ ?_
 have ta : take 16 (drop 1 (Bb s :: a.map U8)) = a.map U8 := by rw [d1, List.take_of_length_le (by rw [List.length_map]; omega)]
 have tb : take 16 (drop 1 (Bb t :: b.map U8)) = b.map U8 := by rw [d1, List.take_of_length_le (by rw [List.length_map]; omega)]
 have ta4 : take 4 (drop 1 (Bb s :: a.map U8)) = (a.take 4).map U8 := by rw [d1, List.map_take]
 have tb4 : take 4 (drop 1 (Bb t :: b.map U8)) = (b.take 4).map U8 := by rw [d1, List.map_take]
 have la : (Bb s :: a.map U8).length = 17 := by rw [List.length_cons, List.length_map, ha]
 have lb : (Bb t :: b.map U8).length = 17 := by rw [List.length_cons, List.length_map, hb]
 have l4 : ((a.take 4).map U8 ++ (b.take 4).map U8).length = 8 := by rw [List.length_append, List.length_map, List.length_map, List.length_take, List.length_take]; omega
 have l16 : (a.map U8 ++ b.map U8).length = 32 := by rw [List.length_append, List.length_map, List.length_map]; omega
 have hL := psX_len ha hb s t p n
 have c40 : ∀ (h : (s || t) = true), psX s t a b p n = a ++ b ++ [BitVec.ofInt 8 (n / 2 ^ 24), BitVec.ofInt 8 (n / 2 ^ 16), BitVec.ofInt 8 (n / 2 ^ 8), BitVec.ofInt 8 n, 0, 0, 0, p] := fun h => if_pos h
 have c12 : ∀ (h : (s || t) = false), psX s t a b p n = a.take 4 ++ b.take 4 ++ [0, p, BitVec.ofInt 8 (n / 2 ^ 8), BitVec.ofInt 8 n] := fun h => if_neg (by rw [h]; decide)
 rw [ta, tb, ta4, tb4]
 have F : ∀ (l : List (BitVec 8)), Flat (l.map U8) := Aa
 refine ⟨fun h => ?_, fun h => ⟨fun g => ?_, fun g => ?_⟩⟩
 ·have e := c40 (by rw [h]; rfl)
  rw [if_pos (by rw [h]; rfl)] at hL
  have eM : a.map U8 ++ b.map U8 ++ take 8 (drop 0 [.u8 (BitVec.ofInt 8 (n / 2 ^ min 24 64)), .u8 (BitVec.ofInt 8 (n / 2 ^ min 16 64)), .u8 (BitVec.ofInt 8 (n / 2 ^ min 8 64)), .u8 (BitVec.ofInt 8 n), Zc (Value.int IntKind.u8 0), Zc (Value.int IntKind.u8 0), Zc (Value.int IntKind.u8 0), .u8 p]) = (psX s t a b p n).map U8 := by
   rw [e, List.map_append, List.map_append]; rfl
  rw [eM, hL, la, lb, l16]
  have := F (psX s t a b p n)
  (repeat' (first | exact this | exact trivial | omega | refine And.intro ?_ ?_)) <;> first | exact rfl | exact ⟨rfl, rfl⟩
 ·have e := c40 (by rw [h, g]; rfl)
  rw [if_pos (by rw [h, g]; rfl)] at hL
  have eM : a.map U8 ++ b.map U8 ++ take 8 (drop 0 [.u8 (BitVec.ofInt 8 (n / 2 ^ min 24 64)), .u8 (BitVec.ofInt 8 (n / 2 ^ min 16 64)), .u8 (BitVec.ofInt 8 (n / 2 ^ min 8 64)), .u8 (BitVec.ofInt 8 n), Zc (Value.int IntKind.u8 0), Zc (Value.int IntKind.u8 0), Zc (Value.int IntKind.u8 0), .u8 p]) = (psX s t a b p n).map U8 := by
   rw [e, List.map_append, List.map_append]; rfl
  rw [eM, hL, la, lb, l16]
  have := F (psX s t a b p n)
  (repeat' (first | exact this | exact trivial | omega | refine And.intro ?_ ?_)) <;> first | exact rfl | exact ⟨rfl, rfl⟩
 ·have e := c12 (by rw [h, g]; rfl)
  rw [if_neg (by rw [h, g]; decide)] at hL
  have eM : (a.take 4).map U8 ++ (b.take 4).map U8 ++ take 4 (drop 0 [Zc (Value.int IntKind.u8 0), .u8 p, .u8 (BitVec.ofInt 8 (n / 2 ^ min 8 64)), .u8 (BitVec.ofInt 8 n)]) = (psX s t a b p n).map U8 := by
   rw [e, List.map_append, List.map_append]; rfl
  rw [eM, hL, la, lb, l4]
  have := F (psX s t a b p n)
  (repeat' (first | exact this | exact trivial | omega | refine And.intro ?_ ?_)) <;> first | exact rfl | exact ⟨rfl, rfl⟩
theorem s131 (ps : List (List (BitVec 8))) (hps : ps.length ≤ 1000000) : Spec Try.prog 131 [.one (.xs (ps.map encP) 0 ps.length)] [] (Is (.one (.u16 (~~~foldF (sumP ps 0))))) := by
 refine Spec.of_run ok131 fun X hX => vc131 hX _ _ ?_
 rw [tkP ps, map_asP, List.length_map]
 exact ⟨by omega, ⟨rfl, rfl, hps⟩, rfl⟩
noncomputable def TV6 : Tab := fun f xs => match f, xs with
 | 131, [.one (.xs ps 0 k)] => some ([ps = (ps.map asP).map encP ∧ ps.length = k ∧ k ≤ 1000000], .one (.u16 (~~~foldF (sumP (ps.map asP) 0))))
 | f, xs => TV5 f xs
theorem TV6_ok : Oc Try.prog TV6 := by
 intro f xs cs r h hc
 unfold TV6 at h
 split at h
 ·obtain ⟨rfl, rfl⟩ := Prod.mk.inj (Option.some.inj h)
  rename_i ps k
  obtain ⟨h1, h2, h3⟩ := hc.1
  have := s131 (ps.map asP) (by rw [List.length_map]; omega)
  rw [← h1, List.length_map, h2] at this
  exact ⟨⟨_, _, ok131⟩, this, rfl⟩
 ·exact TV5_ok _ _ _ _ h hc
noncomputable def MV2 : Ad := fun f xs m => match f, xs, m with
 | 101, [.agg (.b s :: xr), .agg (.b t :: yr), .one (.u8 p), .one (.i64 n)], [] => some ([Oa xr ∧ xr.length = 16 ∧ Oa yr ∧ yr.length = 16 ∧ 0 ≤ n ∧ n ≤ 1000000], .one (.gs 0 (psX s t (xr.map Ea) (yr.map Ea) p n).length 1), [some (hide ((psX s t (xr.map Ea) (yr.map Ea) p n).map U8))])
 | f, xs, m => MV1 f xs m
noncomputable def mfV2 : FuncId → Option MF := fun f => match f with
 | 101 => some { cs := { kinds := [], fl := [] }, flo := [true], fresh := true }
 | f => mfV1 f
theorem MV2_ok : Xc Try.prog MV2 := by
 intro f xs m0 cs r m1 h hc
 unfold MV2 at h
 split at h
 ·simp only [Option.some.injEq, Prod.mk.injEq] at h; obtain ⟨rfl, rfl, rfl⟩ := h
  rename_i s xr t yr p n
  obtain ⟨h1, h2, h3, h4, h5, h6⟩ := hc.1
  have := s101 s t (xr.map Ea) (yr.map Ea) p n (by rw [List.length_map]; exact h2) (by rw [List.length_map]; exact h4) h5 h6
  rw [← h1, ← h3] at this
  rw [Ja]
  exact ⟨⟨_, _, ok101⟩, this⟩
 ·exact MV1_ok _ _ _ _ _ _ h hc
def WVA7 : WC := ⟨envP TV6 mfV2 MV2,envP_ok TV6 mfV2 MV2,Ed TV6_ok MV2_ok⟩
theorem vc126 {X} {Q : QT} (hX : PX X) (s t : Bool) (as' bs row : List AC) (p:BitVec 8) (n:Nat) (h : (fun D0 : List (BitVec 8)=>17<=List.length (Bb s::as')/\17<=List.length (Bb t::bs)/\Flat (take 17 (drop 0 (Bb s::as')))/\Flat (take 17 (drop 0 (Bb t::bs)))/\(Oa (take 16 as')/\List.length (take 16 as')=16/\Oa (take 16 bs)/\List.length (take 16 bs)=16/\(0:Int)<=(↑n:Int)/\(↑n:Int)<=(1000000:Int))/\Qb (hide (List.map U8 D0))/\2<=2/\0+List.length D0*1<=List.length (hide (List.map U8 D0))/\Flat (take (List.length D0*1) (drop 0 (hide (List.map U8 D0))))/\0+n*1<=List.length row/\([XS (take (List.length D0*1) (drop 0 (hide (List.map U8 D0)))) 0 (List.length D0),XS (take (n*1) (drop 0 row)) 0 n]=List.map encP (List.map asP [XS (take (List.length D0*1) (drop 0 (hide (List.map U8 D0)))) 0 (List.length D0),XS (take (n*1) (drop 0 row)) 0 n])/\2=2/\2<=1000000)/\Q (O1 (Va (~~~foldF (sumP (List.map asP [XS (take (List.length D0*1) (drop 0 (hide (List.map U8 D0)))) 0 (List.length D0),XS (take (n*1) (drop 0 row)) 0 n]) (0:BitVec 64))))) []) (psX s t (List.map Ea (take 16 as')) (List.map Ea (take 16 bs)) p (↑n:Int))) : Ia X 126 0 Q ([.code (Na Try.f126)]) (slots [.agg (.b s::as'),.agg (.b t::bs),.one (.u8 p),.one (.xs row 0 n)] Try.f126.ntmps) [] :=
 wR hX WVA7 ok126 [] [] [] [] h (by kernel_rfl)
theorem tk0' (l : List (BitVec 8)) : take (l.length * 1) (l.map U8) = l.map U8 := List.take_of_length_le (by rw [List.length_map]; omega)
theorem s126 (s t : Bool) (a b m : List (BitVec 8)) (p:BitVec 8) (ha : a.length = 16) (hb : b.length = 16) (hm : m.length ≤ 1000000) :
  Spec Try.prog 126 [.agg (.b s :: a.map U8), .agg (.b t :: b.map U8), .one (.u8 p), .one (.xs (m.map U8) 0 m.length)] [] (Is (.one (.u16 (~~~foldF (sumP [psX s t a b p m.length, m] 0))))) := by
 refine Spec.of_run ok126 fun X hX => vc126 hX _ _ _ _ _ _ _ ?_
 have ta : take 16 (a.map U8) = a.map U8 := List.take_of_length_le (by rw [List.length_map]; omega)
 have tb : take 16 (b.map U8) = b.map U8 := List.take_of_length_le (by rw [List.length_map]; omega)
 have sa : take 17 (Bb s :: a.map U8) = Bb s :: a.map U8 := List.take_of_length_le (by rw [List.length_cons, List.length_map]; omega)
 have sb : take 17 (Bb t :: b.map U8) = Bb t :: b.map U8 := List.take_of_length_le (by rw [List.length_cons, List.length_map]; omega)
 have la : (Bb s :: a.map U8).length = 17 := by rw [List.length_cons, List.length_map, ha]
 have lb : (Bb t :: b.map U8).length = 17 := by rw [List.length_cons, List.length_map, hb]
 have hL := psX_len ha hb s t p m.length
 have fa : Flat (Bb s :: a.map U8) := fun c h => by
  rcases List.mem_cons.1 h with rfl | h
  ·rfl
  ·exact Aa _ c h
 have fb : Flat (Bb t :: b.map U8) := fun c h => by
  rcases List.mem_cons.1 h with rfl | h
  ·rfl
  ·exact Aa _ c h
 simp only [List.drop_zero, ta, tb, sa, sb, Ja, Ua]
 simp only [tk0' (psX s t a b p m.length), tk0' m]
 have e1 : List.map asP [XS ((psX s t a b p m.length).map U8) 0 (psX s t a b p m.length).length, XS (m.map U8) 0 m.length] = [psX s t a b p m.length, m] := by
  simp only [List.map_cons, List.map_nil, asP, Td, Ua]
 have e2 : List.map encP [psX s t a b p m.length, m] = [XS ((psX s t a b p m.length).map U8) 0 (psX s t a b p m.length).length, XS (m.map U8) 0 m.length] := rfl
 rw [e1, e2]
 simp only [List.length_map, la, lb, ha, hb]
 clear hL e1 e2
 generalize psX s t a b p m.length = E
 (repeat' (first | exact trivial | exact fa | exact fb | exact Aa _ | exact Ba _ | exact Ud _ | exact rfl | exact Nat.le_refl _ | refine And.intro ?_ ?_)) <;> first | omega | (rw [List.length_cons, List.length_map]; omega)
noncomputable def TV7 : Tab := fun f xs => match f, xs with
 | 126, [.agg (.b s :: xr), .agg (.b t :: yr), .one (.u8 p), .one (.xs row 0 n)] => some ([Oa xr ∧ xr.length = 16 ∧ Oa yr ∧ yr.length = 16 ∧ Oa row ∧ row.length = n ∧ n ≤ 1000000], .one (.u16 (~~~foldF (sumP [psX s t (xr.map Ea) (yr.map Ea) p n, row.map Ea] 0))))
 | f, xs => TV6 f xs
theorem TV7_ok : Oc Try.prog TV7 := by
 intro f xs cs r h hc
 unfold TV7 at h
 split at h
 ·obtain ⟨rfl, rfl⟩ := Prod.mk.inj (Option.some.inj h)
  rename_i s xr t yr p row n
  obtain ⟨h1, h2, h3, h4, h5, h6, h7⟩ := hc.1
  have := s126 s t (xr.map Ea) (yr.map Ea) (row.map Ea) p (by rw [List.length_map]; exact h2) (by rw [List.length_map]; exact h4) (by rw [List.length_map]; omega)
  rw [← h1, ← h3, ← h5, List.length_map, h6] at this
  exact ⟨⟨_, _, ok126⟩, this, rfl⟩
 ·exact TV6_ok _ _ _ _ h hc
end DH
