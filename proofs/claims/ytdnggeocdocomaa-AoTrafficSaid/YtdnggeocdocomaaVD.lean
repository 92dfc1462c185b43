/- Walks of functions, each by evaluation: what each returns; with the layer beneath. -/
import Derived.Test.YtdnggeocdocomaaVC
set_option linter.unusedVariables false
set_option linter.unusedSimpArgs false
noncomputable section
namespace DH
set_option maxRecDepth 100000
open List (take drop replicate)
open AC renaming u8 → U8, u16 → Va, u32 → Fa, u64 → Nc, i64 → I64, b → Bb, xs → XS, gs → GS, sv → SV, ptr → PT, any → AY, ns → NS
open AV renaming one → O1, agg → AG, Ec → TU
open Go Go.Proofs
theorem ok91 : Ac Try.prog 91 Try.f91 (Na Try.f91) := .of Try.func91 (by kernel_rfl) (by kernel_rfl)
theorem ok119 : Ac Try.prog 119 Try.f119 (Na Try.f119) := .of Try.func119 (by kernel_rfl) (by kernel_rfl)
theorem ok85 : Ac Try.prog 85 Try.f85 (Na Try.f85) := .of Try.func85 (by kernel_rfl) (by kernel_rfl)
theorem ok33 : Ac Try.prog 33 Try.f33 (Na Try.f33) := .of Try.func33 (by kernel_rfl) (by kernel_rfl)
theorem ok90 : Ac Try.prog 90 Try.f90 (Na Try.f90) := .of Try.func90 (by kernel_rfl) (by kernel_rfl)
noncomputable def MV5 : Ad := fun f xs m => match f, xs, m with
 | 43, [.agg (.b s :: xr), .agg (.b t :: yr), .agg cs, .one (.u32 sn), .one (.b cov)], [] => some ([Oa xr ∧ xr.length = 16 ∧ Oa yr ∧ yr.length = 16 ∧ IsSg cs], .Ec [.one (.gs 0 (bytB s t (xr.map Ea) (yr.map Ea) (sgOf (nrL cs)) sn cov).length 1), .one (.i64 (bytE (sgOf (nrL cs))))], [some (hide ((bytB s t (xr.map Ea) (yr.map Ea) (sgOf (nrL cs)) sn cov).map U8))])
 | f, xs, m => MV4 f xs m
noncomputable def mfV5 : FuncId → Option MF := fun f => match f with
 | 43 => some { cs := { kinds := [], fl := [] }, flo := [true], fresh := true }
 | f => mfV4 f
theorem MV5_ok : Xc Try.prog MV5 := by
 intro f xs m0 cs r m1 h hc
 unfold MV5 at h
 split at h
 ·simp only [Option.some.injEq, Prod.mk.injEq] at h; obtain ⟨rfl, rfl, rfl⟩ := h
  rename_i s xr t yr cs sn cov
  obtain ⟨h1, h2, h3, h4, h5⟩ := hc.1
  have := s43 s t (xr.map Ea) (yr.map Ea) (by rw [List.length_map]; exact h2) (by rw [List.length_map]; exact h4) (sgOf (nrL cs)) h5.len sn cov
  rw [← h5.eq, ← h1, ← h3] at this
  rw [Ja]
  refine ⟨⟨_, _, ok43⟩, Spec.nr ?_⟩
  rw [List.map_cons, List.map_cons, bsh_nr s h1, bsh_nr t h3]
  exact this
 ·exact MV4_ok _ _ _ _ _ _ h hc
def mX (a:Int) (row ps : List AC) (i:Nat) : BitVec 8 := (macB a (row.map Ea) (ps.map asP).flatten).getD i 0
theorem mac_lit {M : List (BitVec 8)} (h : M.length = 12) : M.map U8 = [.u8 (M.getD 0 0), .u8 (M.getD 1 0), .u8 (M.getD 2 0), .u8 (M.getD 3 0), .u8 (M.getD 4 0), .u8 (M.getD 5 0), .u8 (M.getD 6 0), .u8 (M.getD 7 0), .u8 (M.getD 8 0), .u8 (M.getD 9 0), .u8 (M.getD 10 0), .u8 (M.getD 11 0)] := by
 obtain ⟨c0, c1, c2, c3, c4, c5, c6, c7, c8, c9, d0, d1, rfl⟩ := twelve h
 rfl
def WVD0 : WC := ⟨envP TV8 mfV5 MV5,envP_ok TV8 mfV5 MV5,Ed TV8_ok MV5_ok⟩
theorem vc91 {X} {Q : QT} (hX : PX X) (e1 e2:BitVec 16) (e3 e4:BitVec 32) (e5:BitVec 8) (e6 e7:BitVec 16) (a1 : Bool) (a2:BitVec 16) (a3 : Bool) (a4:BitVec 8) (a5 : Bool) (a6 : Bool) (a7 a8:BitVec 32) (a9 : Bool) (b1 b2 c0 c1 c2 c3 c4 c5 c6 c7 c8 c9 d0 d1 x y:BitVec 8) (h : (1=1/\18<=32)/\(1=1/\19<=32)/\(12=12/\31<=32)/\Q (AG ([Va e1,Va e2,Fa e3,Fa e4,U8 e5,Va e6,Va e7,Bb a1,Va a2,Bb a3,U8 a4,Bb a5,NS,Bb a6,Fa a7,Fa a8,Bb true,U8 x,U8 y]++(replicate 12 (U8 0)++[NS]))) []) : Ia X 91 0 Q ([.code (Na Try.f91)]) (slots [.agg [.u16 e1,.u16 e2,.u32 e3,.u32 e4,.u8 e5,.u16 e6,.u16 e7,.b a1,.u16 a2,.b a3,.u8 a4,.b a5,.ns,.b a6,.u32 a7,.u32 a8,.b a9,.u8 b1,.u8 b2,.u8 c0,.u8 c1,.u8 c2,.u8 c3,.u8 c4,.u8 c5,.u8 c6,.u8 c7,.u8 c8,.u8 c9,.u8 d0,.u8 d1,.ns],.one (.u8 x),.one (.u8 y)] Try.f91.ntmps) [] :=
 wR hX WVD0 ok91 [] [] [] [] h (by kernel_rfl)
theorem s91 (e1 e2:BitVec 16) (e3 e4:BitVec 32) (e5:BitVec 8) (e6 e7:BitVec 16) (a1 : Bool) (a2:BitVec 16) (a3 : Bool) (a4:BitVec 8) (a5 : Bool) (a6 : Bool) (a7 a8:BitVec 32) (a9 : Bool) (b1 b2 c0 c1 c2 c3 c4 c5 c6 c7 c8 c9 d0 d1 x y:BitVec 8) :
  Spec Try.prog 91 [.agg [.u16 e1, .u16 e2, .u32 e3, .u32 e4, .u8 e5, .u16 e6, .u16 e7, .b a1, .u16 a2, .b a3, .u8 a4, .b a5, .ns, .b a6, .u32 a7, .u32 a8, .b a9, .u8 b1, .u8 b2, .u8 c0, .u8 c1, .u8 c2, .u8 c3, .u8 c4, .u8 c5, .u8 c6, .u8 c7, .u8 c8, .u8 c9, .u8 d0, .u8 d1, .ns], .one (.u8 x), .one (.u8 y)] []
   (Is (.agg [.u16 e1, .u16 e2, .u32 e3, .u32 e4, .u8 e5, .u16 e6, .u16 e7, .b a1, .u16 a2, .b a3, .u8 a4, .b a5, .ns, .b a6, .u32 a7, .u32 a8, .b true, .u8 x, .u8 y, .u8 0, .u8 0, .u8 0, .u8 0, .u8 0, .u8 0, .u8 0, .u8 0, .u8 0, .u8 0, .u8 0, .u8 0, .ns])) := by
 refine Spec.of_run ok91 fun X hX => vc91 hX _ _ _ _ _ _ _ _ _ _ _ _ _ _ _ _ _ _ _ _ _ _ _ _ _ _ _ _ _ _ _ _ ?_
 (repeat' (first | exact trivial | exact Ib rfl | exact rfl | exact Nat.le_refl _ | refine And.intro ?_ ?_)) <;> omega
theorem vc119 {X} {Q : QT} (hX : PX X) (a:Int) (mr cs ds : List AC) (n:Nat) (x y:BitVec 32) (h : (fun D3 : Bool=>(fun D2 : Bool=>(fun D1 : List (BitVec 8)=>(fun D0 : List (BitVec 8)=>18<=List.length cs/\18<=List.length ds/\Flat (take 18 (drop 0 cs))/\Flat (take 18 (drop 0 ds))/\(IsE (take 18 (drop 0 cs))/\IsE (take 18 (drop 0 ds)))/\Qb (hide (List.map U8 D0))/\((!decide (ctE D3 D2=(0:Int)))=true->Q (TU [O1 NS,O1 (I64 (ctE D3 D2))]) [])/\((!decide (ctE D3 D2=(0:Int)))=false->0+n*1<=List.length mr/\0+List.length D0*1<=List.length (hide (List.map U8 D0))/\Flat (take (List.length D0*1) (drop 0 (hide (List.map U8 D0))))/\(Oa (take (n*1) (drop 0 mr))/\List.length (take (n*1) (drop 0 mr))=n/\Oa (take (List.length D0*1) (drop 0 (hide (List.map U8 D0))))/\List.length (take (List.length D0*1) (drop 0 (hide (List.map U8 D0))))=List.length D0/\List.length D0<=1000)/\Qb (hide (List.map U8 (keyB a D1 (List.map Ea (take (List.length D0*1) (drop 0 (hide (List.map U8 D0))))))))/\Flat (hide (List.map U8 (keyB a D1 (List.map Ea (take (List.length D0*1) (drop 0 (hide (List.map U8 D0))))))))/\Q (TU [O1 (SV 0 0 (List.length (keyB a D1 (List.map Ea (take (List.length D0*1) (drop 0 (hide (List.map U8 D0)))))))),O1 (I64 (keyE a D1))]) [some (hide (List.map U8 (keyB a D1 (List.map Ea (take (List.length D0*1) (drop 0 (hide (List.map U8 D0))))))))])) (ctC (take 18 (drop 0 cs)) (take 18 (drop 0 ds)) x y)) (List.map Ea (take (n*1) (drop 0 mr)))) (sE (take 18 (drop 0 ds)))) (sE (take 18 (drop 0 cs)))) : Ia X 119 0 Q ([.code (Na Try.f119)]) (slots [.one (.i64 a),.one (.xs mr 0 n),.agg cs,.agg ds,.one (.u32 x),.one (.u32 y)] Try.f119.ntmps) [] :=
 wR hX WVD0 ok119 [25] [] [true] [] h (by kernel_rfl)
theorem enE_len' (s : Bool) {a : List (BitVec 8)} (ha : a.length = 16) (p:BitVec 16) : (enE s a p).length = 18 := by
 unfold enE
 rw [List.length_cons, List.length_append, List.length_map, ha]
 rfl
theorem IsE.l18 {cs : List AC} (h : IsE cs) : cs.length = 18 := by rw [h.eq]; exact enE_len' _ h.len _
theorem IsE.fl {cs : List AC} (h : IsE cs) : Flat cs := by rw [h.eq]; exact enE_flat _ _ _
theorem ctC_len {cs ds : List AC} (h1 : IsE cs) (h2 : IsE ds) (x y:BitVec 32) : (ctC cs ds x y).length ≤ 44 := by
 unfold ctC ctX
 split
 ·rw [ctL_len h1.len h2.len]
  have := adN_le (sE cs)
  have := adN_le (sE ds)
  omega
 ·exact Nat.zero_le _
def wayB (a:Int) (m : List (BitVec 8)) (cs ds : List AC) (x y:BitVec 32) : List (BitVec 8) := if ctE (sE cs) (sE ds) = 0 then keyB a m (ctC cs ds x y) else []
def wayE (a:Int) (m : List (BitVec 8)) (cs ds : List AC) : Int := if ctE (sE cs) (sE ds) = 0 then keyE a m else ctE (sE cs) (sE ds)
theorem s119 (a:Int) (m : List (BitVec 8)) (cs ds : List AC) (x y:BitVec 32) (h1 : IsE cs) (h2 : IsE ds) : Spec Try.prog 119 [.one (.i64 a), .one (.xs (m.map U8) 0 m.length), .agg cs, .agg ds, .one (.u32 x), .one (.u32 y)] [] (Are (.Ec [.one (.sv 0 0 (wayB a m cs ds x y).length), .one (.i64 (wayE a m cs ds))]) [some ((wayB a m cs ds x y).map U8)]) := by
 have hl1 := h1.l18
 have hl2 := h2.l18
 have f1 := h1.fl
 have f2 := h2.fl
 have hc := ctC_len h1 h2 x y
 have t1 : take 18 (drop 0 cs) = cs := List.take_of_length_le (by rw [List.drop_zero]; omega)
 have t2 : take 18 (drop 0 ds) = ds := List.take_of_length_le (by rw [List.drop_zero]; omega)
 refine Spec.pad3 (Spec.of_run ok119 fun X hX => vc119 hX _ _ _ _ _ _ _ ?_)
 simp only [t1, t2, tk m, tk (ctC cs ds x y), Ua, Ja, List.length_map]
 refine ⟨by omega, by omega, f1, f2, ⟨h1, h2⟩, Ud _, fun h => ?_, fun h => ?_⟩
 ·have h := of_decide_eq_false (bnt h)
  have e1 : wayB a m cs ds x y = [] := if_neg h
  have e2 : wayE a m cs ds = ctE (sE cs) (sE ds) := if_neg h
  rw [e1, e2]
  exact .inr (.inl ⟨.i64 _, rfl, rfl, by trivial, rfl, rfl⟩)
 ·have h := of_decide_eq_true (bnf h)
  have e1 : wayB a m cs ds x y = keyB a m (ctC cs ds x y) := if_pos h
  have e2 : wayE a m cs ds = keyE a m := if_pos h
  rw [e1, e2]
  generalize keyB a m (ctC cs ds x y) = K
  (repeat' (first | exact trivial | exact Aa _ | exact Ba _ | exact Ud _ | exact Nat.le_refl _ | exact .inl ⟨rfl, rfl⟩ | refine And.intro ?_ ?_)) <;> omega
noncomputable def MV6 : Ad := fun f xs m => match f, xs, m with
 | 119, [.one (.i64 a), .one (.xs mr 0 n), .agg cs, .agg ds, .one (.u32 x), .one (.u32 y)], [] => some ([Oa mr ∧ mr.length = n ∧ IsE cs ∧ IsE ds], .Ec [.one (.sv 0 0 (wayB a (mr.map Ea) cs ds x y).length), .one (.i64 (wayE a (mr.map Ea) cs ds))], [some (hide ((wayB a (mr.map Ea) cs ds x y).map U8))])
 | f, xs, m => MV5 f xs m
noncomputable def mfV6 : FuncId → Option MF := fun f => match f with
 | 119 => some { cs := { kinds := [], fl := [] }, flo := [true], fresh := true }
 | f => mfV5 f
theorem MV6_ok : Xc Try.prog MV6 := by
 intro f xs m0 cs r m1 h hc
 unfold MV6 at h
 split at h
 ·simp only [Option.some.injEq, Prod.mk.injEq] at h; obtain ⟨rfl, rfl, rfl⟩ := h
  rename_i a mr n cs ds x y
  obtain ⟨h1, h2, h3, h4⟩ := hc.1
  have := s119 a (mr.map Ea) cs ds x y h3 h4
  rw [← h1, List.length_map, h2] at this
  rw [Ja]
  exact ⟨⟨_, _, ok119⟩, this⟩
 ·exact MV5_ok _ _ _ _ _ _ h hc
def WVD1 : WC := ⟨envP TV8 mfV6 MV6,envP_ok TV8 mfV6 MV6,Ed TV8_ok MV6_ok⟩
theorem vc85 {X} {Q : QT} (hX : PX X) (a:Int) (mr pr : List AC) (n:Nat) (c : Bool) (x y:BitVec 32) (h : (fun D0 : List (BitVec 8)=>18<=List.length pr/\36<=List.length pr/\0+n*1<=List.length mr/\Flat (take 18 (drop 0 pr))/\Flat (take 18 (drop 18 pr))/\(Oa (take (n*1) (drop 0 mr))/\List.length (take (n*1) (drop 0 mr))=n/\IsE (take 18 (drop 0 pr))/\IsE (take 18 (drop 18 pr)))/\Qb (hide (List.map U8 (wayB a D0 (take 18 (drop 0 pr)) (take 18 (drop 18 pr)) x y)))/\((!decide (wayE a D0 (take 18 (drop 0 pr)) (take 18 (drop 18 pr))=(0:Int)))=true->Q (TU [AG [I64 (0:Int),NS,NS,Bb false],O1 (I64 (wayE a D0 (take 18 (drop 0 pr)) (take 18 (drop 18 pr))))]) [])/\((!decide (wayE a D0 (take 18 (drop 0 pr)) (take 18 (drop 18 pr))=(0:Int)))=false->36<=List.length pr/\18<=List.length pr/\0+n*1<=List.length mr/\Flat (take 18 (drop 18 pr))/\Flat (take 18 (drop 0 pr))/\(Oa (take (n*1) (drop 0 mr))/\List.length (take (n*1) (drop 0 mr))=n/\IsE (take 18 (drop 18 pr))/\IsE (take 18 (drop 0 pr)))/\Qb (hide (List.map U8 (wayB a D0 (take 18 (drop 18 pr)) (take 18 (drop 0 pr)) y x)))/\((!decide (wayE a D0 (take 18 (drop 18 pr)) (take 18 (drop 0 pr))=(0:Int)))=true->Q (TU [AG [I64 (0:Int),NS,NS,Bb false],O1 (I64 (wayE a D0 (take 18 (drop 18 pr)) (take 18 (drop 0 pr))))]) [])/\((!decide (wayE a D0 (take 18 (drop 18 pr)) (take 18 (drop 0 pr))=(0:Int)))=false->Flat (hide (List.map U8 (wayB a D0 (take 18 (drop 0 pr)) (take 18 (drop 18 pr)) x y)))/\Flat (hide (List.map U8 (wayB a D0 (take 18 (drop 18 pr)) (take 18 (drop 0 pr)) y x)))/\Q (TU [AG [I64 a,SV 0 0 (List.length (wayB a D0 (take 18 (drop 0 pr)) (take 18 (drop 18 pr)) x y)),SV 1 0 (List.length (wayB a D0 (take 18 (drop 18 pr)) (take 18 (drop 0 pr)) y x)),Bb c],O1 (I64 (0:Int))]) [some (hide (List.map U8 (wayB a D0 (take 18 (drop 0 pr)) (take 18 (drop 18 pr)) x y))),some (hide (List.map U8 (wayB a D0 (take 18 (drop 18 pr)) (take 18 (drop 0 pr)) y x)))]))) (List.map Ea (take (n*1) (drop 0 mr)))) : Ia X 85 0 Q ([.code (Na Try.f85)]) (slots [.one (.i64 a),.one (.xs mr 0 n),.one (.b c),.agg pr,.one (.u32 x),.one (.u32 y)] Try.f85.ntmps) [] :=
 wR hX WVD1 ok85 [30,46] [] [true,true] [] h (by kernel_rfl)
theorem Spec.padK {P : Program} {f : FuncId} {xs : List AV} {R : AV → Mem → Prop} (h : Spec P f xs [] (fun r m => R r m ∨ (∃ a b c : AC, a.exact = true ∧ b.exact = true ∧ c.exact = true ∧ r = .Ec [.agg [a, .ns, .ns, b], .one c] ∧ m = [] ∧ R (.Ec [.agg [a, .sv 0 0 0, .sv 1 0 0, b], .one c]) [some [], some []]))) : Spec P f xs [] R := by
 intro X p vs hP hm ha
 refine (h X p vs hP hm ha).mono ?_
 rintro e w' ⟨v, r, m', p', rfl, k1, k2, k3, k4, k5⟩
 rcases k5 with k5 | ⟨a, b, c, ea, eb, ec, rfl, rfl, k5⟩
 ·exact ⟨v, r, m', p', rfl, k1, k2, k3, k4, k5⟩
 ·have k4' : MR X ⟨fun _ => 0, fun _ => 0⟩ [some [], some []] w' := by
   refine ⟨k4.os, k4.tape, k4.output, k4.size, k4.keep, fun i row hi => ?_, fun i row hi hz => absurd rfl hz, fun i j r s hi hj hz => absurd rfl hz⟩
   match i, hi with
   | 0, hi => simp only [List.getElem?_cons_zero, Option.some.injEq] at hi; subst hi; exact .inl ⟨rfl, rfl⟩
   | 1, hi => simp only [List.getElem?_cons_succ, List.getElem?_cons_zero, Option.some.injEq] at hi; subst hi; exact .inl ⟨rfl, rfl⟩
   | i + 2, hi => simp at hi
  refine ⟨v, _, _, _, rfl, fun i hi => absurd hi (Nat.not_lt_zero _), Nat.zero_le _, ?_, k4', k5⟩
  cases k3 with
  | Ec vs l hl k3 =>
   refine .Ec _ l hl fun j d hj => ?_
   match j, hj with
   | 0, hj =>
    simp only [List.getElem?_cons_zero, Option.some.injEq] at hj
    subst hj
    have := k3 0 (.agg [a, .ns, .ns, b]) rfl
    generalize l.getD 0 undef = u at this ⊢
    cases this with
    | agg _ l' h3 =>
     refine .agg _ _ ⟨h3.1, fun i c u h1 h2 => ?_⟩
     match i, h1 with
     | 0, h1 => simp only [List.getElem?_cons_zero, Option.some.injEq] at h1; subst h1; exact (h3.2 0 _ u rfl h2).exact_any ea _ _ _
     | 1, h1 =>
      simp only [List.getElem?_cons_succ, List.getElem?_cons_zero, Option.some.injEq] at h1; subst h1
      have := h3.2 1 _ u rfl h2
      cases this; exact .svn 0 0
     | 2, h1 =>
      simp only [List.getElem?_cons_succ, List.getElem?_cons_zero, Option.some.injEq] at h1; subst h1
      have := h3.2 2 _ u rfl h2
      cases this; exact .svn 1 0
     | 3, h1 => simp only [List.getElem?_cons_succ, List.getElem?_cons_zero, Option.some.injEq] at h1; subst h1; exact (h3.2 3 _ u rfl h2).exact_any eb _ _ _
     | i + 4, h1 => simp at h1
   | 1, hj =>
    simp only [List.getElem?_cons_succ, List.getElem?_cons_zero, Option.some.injEq] at hj
    subst hj
    have := k3 1 (.one c) rfl
    generalize l.getD 1 undef = u at this ⊢
    cases this with
    | one _ _ h3 => exact .one _ _ (h3.exact_any ec _ _ _)
   | j + 2, hj => simp at hj
theorem ctE_sym (s t : Bool) : ctE s t = ctE t s := by cases s <;> cases t <;> rfl
theorem wayE_sym (a:Int) (m : List (BitVec 8)) (cs ds : List AC) : wayE a m cs ds = wayE a m ds cs := by
 unfold wayE
 rw [ctE_sym]
def trO (a:Int) (m : List (BitVec 8)) (cs ds : List AC) (x y:BitVec 32) : List (BitVec 8) := if wayE a m cs ds = 0 then wayB a m cs ds x y else []
def trA (a:Int) (m : List (BitVec 8)) (cs ds : List AC) : Int := if wayE a m cs ds = 0 then a else 0
def trC (a:Int) (m : List (BitVec 8)) (cs ds : List AC) (c : Bool) : Bool := decide (wayE a m cs ds = 0) && c
theorem s85 (a:Int) (m : List (BitVec 8)) (c : Bool) (cs ds : List AC) (x y:BitVec 32) (h1 : IsE cs) (h2 : IsE ds) : Spec Try.prog 85 [.one (.i64 a), .one (.xs (m.map U8) 0 m.length), .one (.b c), .agg (cs ++ ds), .one (.u32 x), .one (.u32 y)] [] (Are (.Ec [.agg [.i64 (trA a m cs ds), .sv 0 0 (trO a m cs ds x y).length, .sv 1 0 (trO a m ds cs y x).length, .b (trC a m cs ds c)], .one (.i64 (wayE a m cs ds))]) [some ((trO a m cs ds x y).map U8), some ((trO a m ds cs y x).map U8)]) := by
 have hl1 := h1.l18
 have hl2 := h2.l18
 have f1 := h1.fl
 have f2 := h2.fl
 have t1 : take 18 (drop 0 (cs ++ ds)) = cs := by rw [List.drop_zero, List.take_append_of_le_length (by omega), List.take_of_length_le (by omega)]
 have t2 : take 18 (drop 18 (cs ++ ds)) = ds := by rw [List.drop_append_of_le_length (by omega), List.drop_eq_nil_of_le (by omega), List.nil_append, List.take_of_length_le (by omega)]
 have hs := wayE_sym a m ds cs
 refine Spec.padK (Spec.of_run ok85 fun X hX => vc85 hX _ _ _ _ _ _ _ ?_)
 simp only [t1, t2, tk m, Ua, Ja, List.length_map, hs]
 by_cases hw : wayE a m cs ds = 0
 ·have e1 : trO a m cs ds x y = wayB a m cs ds x y := if_pos hw
  have e2 : trO a m ds cs y x = wayB a m ds cs y x := if_pos (hs.trans hw)
  have e3 : trA a m cs ds = a := if_pos hw
  have e4 : trC a m cs ds c = c := by unfold trC; rw [hw]; rfl
  rw [e1, e2, e3, e4, hw]
  have G : ∀ P R : Prop, P → ((!decide ((0:Int) = 0)) = true → R) ∧ ((!decide ((0:Int) = 0)) = false → P) := fun P R h => ⟨fun h => absurd h (by decide), fun _ => h⟩
  generalize wayB a m cs ds x y = B1
  generalize wayB a m ds cs y x = B2
  have hll : (cs ++ ds).length = 36 := by rw [List.length_append]; omega
  refine ⟨by omega, by omega, by first | omega | trivial, f1, f2, ⟨Ba _, by first | omega | trivial, h1, h2⟩, Ud _, G _ _ ⟨by omega, by omega, by first | omega | trivial, f2, f1, ⟨Ba _, by first | omega | trivial, h2, h1⟩, Ud _, G _ _ ⟨Aa _, Aa _, .inl ⟨rfl, rfl⟩⟩⟩⟩
 ·have e1 : trO a m cs ds x y = [] := if_neg hw
  have e2 : trO a m ds cs y x = [] := if_neg (by rw [hs]; exact hw)
  have e3 : trA a m cs ds = 0 := if_neg hw
  have e4 : trC a m cs ds c = false := by unfold trC; rw [decide_eq_false hw]; rfl
  rw [e1, e2, e3, e4]
  have hll : (cs ++ ds).length = 36 := by rw [List.length_append]; omega
  refine ⟨by omega, by omega, by first | omega | trivial, f1, f2, ⟨Ba _, by first | omega | trivial, h1, h2⟩, Ud _, fun _ => .inr ⟨.i64 0, .b false, .i64 _, rfl, rfl, rfl, rfl, by trivial, rfl, rfl⟩, fun h => absurd (of_decide_eq_true (bnf h)) hw⟩
noncomputable def MV7 : Ad := fun f xs m => match f, xs, m with
 | 85, [.one (.i64 a), .one (.xs mr 0 n), .one (.b c), .agg pr, .one (.u32 x), .one (.u32 y)], [] => some ([Oa mr ∧ mr.length = n ∧ IsE (pr.take 18) ∧ IsE (pr.drop 18)], .Ec [.agg [.i64 (trA a (mr.map Ea) (pr.take 18) (pr.drop 18)), .sv 0 0 (trO a (mr.map Ea) (pr.take 18) (pr.drop 18) x y).length, .sv 1 0 (trO a (mr.map Ea) (pr.drop 18) (pr.take 18) y x).length, .b (trC a (mr.map Ea) (pr.take 18) (pr.drop 18) c)], .one (.i64 (wayE a (mr.map Ea) (pr.take 18) (pr.drop 18)))],
   [some (hide ((trO a (mr.map Ea) (pr.take 18) (pr.drop 18) x y).map U8)), some (hide ((trO a (mr.map Ea) (pr.drop 18) (pr.take 18) y x).map U8))])
 | f, xs, m => MV6 f xs m
noncomputable def mfV7 : FuncId → Option MF := fun f => match f with
 | 85 => some { cs := { kinds := [], fl := [] }, flo := [true, true], fresh := true }
 | f => mfV6 f
theorem MV7_ok : Xc Try.prog MV7 := by
 intro f xs m0 cs r m1 h hc
 unfold MV7 at h
 split at h
 ·simp only [Option.some.injEq, Prod.mk.injEq] at h; obtain ⟨rfl, rfl, rfl⟩ := h
  rename_i a mr n c pr x y
  obtain ⟨h1, h2, h3, h4⟩ := hc.1
  have := s85 a (mr.map Ea) c (pr.take 18) (pr.drop 18) x y h3 h4
  rw [← h1, List.length_map, h2, List.take_append_drop] at this
  rw [Ja, Ja]
  exact ⟨⟨_, _, ok85⟩, this⟩
 ·exact MV6_ok _ _ _ _ _ _ h hc
noncomputable def TV9 : Tab := fun f xs => match f, xs with
 | 80, [.one (.i64 a), .one (.xs row 0 n), .one (.xs ps 0 k)] => some ([Oa row ∧ row.length = n ∧ n ≤ 9223372036854775807 ∧ ps = (ps.map asP).map encP ∧ ps.length = k ∧ k ≤ 1000000], .Ec [.agg [.u8 (mX a row ps 0), .u8 (mX a row ps 1), .u8 (mX a row ps 2), .u8 (mX a row ps 3), .u8 (mX a row ps 4), .u8 (mX a row ps 5), .u8 (mX a row ps 6), .u8 (mX a row ps 7), .u8 (mX a row ps 8), .u8 (mX a row ps 9), .u8 (mX a row ps 10), .u8 (mX a row ps 11)], .one (.i64 (macE a (row.map Ea)))])
 | 91, [.agg [.u16 e1, .u16 e2, .u32 e3, .u32 e4, .u8 e5, .u16 e6, .u16 e7, .b a1, .u16 a2, .b a3, .u8 a4, .b a5, .ns, .b a6, .u32 a7, .u32 a8, .b _, .u8 _, .u8 _, .u8 _, .u8 _, .u8 _, .u8 _, .u8 _, .u8 _, .u8 _, .u8 _, .u8 _, .u8 _, .u8 _, .u8 _, .ns], .one (.u8 x), .one (.u8 y)] => some ([], .agg [.u16 e1, .u16 e2, .u32 e3, .u32 e4, .u8 e5, .u16 e6, .u16 e7, .b a1, .u16 a2, .b a3, .u8 a4, .b a5, .ns, .b a6, .u32 a7, .u32 a8, .b true, .u8 x, .u8 y, .u8 0, .u8 0, .u8 0, .u8 0, .u8 0, .u8 0, .u8 0, .u8 0, .u8 0, .u8 0, .u8 0, .u8 0, .ns])
 | f, xs => TV8 f xs
theorem TV9_ok : Oc Try.prog TV9 := by
 intro f xs cs r h hc
 unfold TV9 at h
 split at h
 ·obtain ⟨rfl, rfl⟩ := Prod.mk.inj (Option.some.inj h)
  obtain ⟨h1, h2, h3, h4, h5, h6⟩ := hc.1
  rename_i a row n ps k
  have := s80 a (row.map Ea) (ps.map asP) (by rw [List.length_map]; omega) (by rw [List.length_map]; omega)
  rw [← h1, ← h4, List.length_map, List.length_map, h2, h5, mac_lit (macB_len _ _ _)] at this
  exact ⟨⟨_, _, ok80⟩, this, exactB_ok rfl⟩
 ·obtain ⟨rfl, rfl⟩ := Prod.mk.inj (Option.some.inj h)
  exact ⟨⟨_, _, ok91⟩, s91 _ _ _ _ _ _ _ _ _ _ _ _ _ _ _ _ _ _ _ _ _ _ _ _ _ _ _ _ _ _ _ _, exactL_ok rfl⟩
 ·exact TV8_ok _ _ _ _ h hc
def WVD2 : WC := ⟨envP TV9 mfV7 MV7,envP_ok TV9 mfV7 MV7,Ed TV9_ok MV7_ok⟩
theorem vc33 {X} {Q : QT} (hX : PX X) (a:Int) (r1 r2 : List AC) (n1 n2:Nat) (c s t : Bool) (as' bs : List AC) (e1 e2:BitVec 16) (e3 e4:BitVec 32) (e5:BitVec 8) (e6 e7:BitVec 16) (a1 : Bool) (a2:BitVec 16) (a3 : Bool) (a4:BitVec 8) (a5 : Bool) (kr : List AC) (kn:Nat) (a6 : Bool) (a7 a8:BitVec 32) (a9 : Bool) (b1 b2 c0 c1 c2 c3 c4 c5 c6 c7 c8 c9 d0 d1:BitVec 8) (dr : List AC) (dn:Nat) (sn:BitVec 32) (h : (fun D2 : List (BitVec 8)=>(fun D1 : List (BitVec 8)=>(fun D0 : Sg=>17<=List.length (Bb s::as')/\17<=List.length (Bb t::bs)/\Flat (take 17 (drop 0 (Bb s::as')))/\Flat (take 17 (drop 0 (Bb t::bs)))/\(Oa (take 16 as')/\List.length (take 16 as')=16/\Oa (take 16 bs)/\List.length (take 16 bs)=16/\IsSg [Va e1,Va e2,Fa e3,Fa e4,U8 e5,Va e6,Va e7,Bb a1,Va a2,Bb a3,U8 a4,Bb a5,XS kr 0 kn,Bb a6,Fa a7,Fa a8,Bb a9,U8 b1,U8 b2,U8 c0,U8 c1,U8 c2,U8 c3,U8 c4,U8 c5,U8 c6,U8 c7,U8 c8,U8 c9,U8 d0,U8 d1,XS dr 0 dn])/\Qb (hide (List.map U8 (bytB s t D1 D2 D0 sn c)))/\Flat [I64 a,XS r1 0 n1,XS r2 0 n2,Bb c]/\Flat [Va e1,Va e2,Fa e3,Fa e4,U8 e5,Va e6,Va e7,Bb a1,Va a2,Bb a3,U8 a4,Bb a5,XS kr 0 kn,Bb a6,Fa a7,Fa a8,Bb a9,U8 b1,U8 b2,U8 c0,U8 c1,U8 c2,U8 c3,U8 c4,U8 c5,U8 c6,U8 c7,U8 c8,U8 c9,U8 d0,U8 d1,XS dr 0 dn]/\Flat ([Va 0,Va 0,Fa 0,Fa 0,U8 0,Va 0,Va 0,Bb false,Va 0,Bb false,U8 0,Bb false,NS,Bb false,Fa 0,Fa 0,Bb false]++(replicate 14 (U8 0)++[NS]))/\Flat (hide (List.map U8 (bytB s t D1 D2 D0 sn c)))/\KR X 33 0 Q (Ub Try.f33 1) (mkS 47 [(5,O1 (PT 0 0)),(8,O1 (PT 1 0)),(10,O1 (PT 2 0)),(12,O1 (GS 3 (List.length (bytB s t D1 D2 D0 sn c)) 1)),(13,O1 (I64 (bytE D0)))]) [some [I64 a,XS r1 0 n1,XS r2 0 n2,Bb c],some [Va e1,Va e2,Fa e3,Fa e4,U8 e5,Va e6,Va e7,Bb a1,Va a2,Bb a3,U8 a4,Bb a5,XS kr 0 kn,Bb a6,Fa a7,Fa a8,Bb a9,U8 b1,U8 b2,U8 c0,U8 c1,U8 c2,U8 c3,U8 c4,U8 c5,U8 c6,U8 c7,U8 c8,U8 c9,U8 d0,U8 d1,XS dr 0 dn],some ([Va 0,Va 0,Fa 0,Fa 0,U8 0,Va 0,Va 0,Bb false,Va 0,Bb false,U8 0,Bb false,NS,Bb false,Fa 0,Fa 0,Bb false]++(replicate 14 (U8 0)++[NS])),some (hide (List.map U8 (bytB s t D1 D2 D0 sn c)))]) (sgOf (nrL [Va e1,Va e2,Fa e3,Fa e4,U8 e5,Va e6,Va e7,Bb a1,Va a2,Bb a3,U8 a4,Bb a5,XS kr 0 kn,Bb a6,Fa a7,Fa a8,Bb a9,U8 b1,U8 b2,U8 c0,U8 c1,U8 c2,U8 c3,U8 c4,U8 c5,U8 c6,U8 c7,U8 c8,U8 c9,U8 d0,U8 d1,XS dr 0 dn]))) (List.map Ea (take 16 as'))) (List.map Ea (take 16 bs))) : Ia X 33 0 Q ([.code (Na Try.f33)]) (slots [.agg [.i64 a,.xs r1 0 n1,.xs r2 0 n2,.b c],.agg (.b s::as'),.agg (.b t::bs),.agg [.u16 e1,.u16 e2,.u32 e3,.u32 e4,.u8 e5,.u16 e6,.u16 e7,.b a1,.u16 a2,.b a3,.u8 a4,.b a5,.xs kr 0 kn,.b a6,.u32 a7,.u32 a8,.b a9,.u8 b1,.u8 b2,.u8 c0,.u8 c1,.u8 c2,.u8 c3,.u8 c4,.u8 c5,.u8 c6,.u8 c7,.u8 c8,.u8 c9,.u8 d0,.u8 d1,.xs dr 0 dn],.one (.u32 sn)] Try.f33.ntmps) [] :=
 wR' hX WVD2 ok33 [26,40] [(100001,0)] false (CS.mk [] [] [0,1] []) true [(2,LS.mk [5,8,10,12,13] (CS.mk [] [true,true,true,true] [] []))] 2000 h (by kernel_rfl)
theorem vc33b {X} {Q : QT} (hX : PX X) (a:Int) (r1 r2 br : List AC) (n1 n2 n:Nat) (c : Bool) (e1 e2:BitVec 16) (e3 e4:BitVec 32) (e5:BitVec 8) (e6 e7:BitVec 16) (a1 : Bool) (a2:BitVec 16) (a3 : Bool) (a4:BitVec 8) (a5 : Bool) (kr : List AC) (kn:Nat) (a6 : Bool) (a7 a8:BitVec 32) (a9 : Bool) (b1 b2 c0 c1 c2 c3 c4 c5 c6 c7 c8 c9 d0 d1:BitVec 8) (dr : List AC) (dn:Nat) (e:Int) (h : (fun D12 : BitVec 8=>(fun D11 : BitVec 8=>(fun D10 : BitVec 8=>(fun D9 : BitVec 8=>(fun D8 : BitVec 8=>(fun D7 : BitVec 8=>(fun D6 : BitVec 8=>(fun D5 : BitVec 8=>(fun D4 : BitVec 8=>(fun D3 : BitVec 8=>(fun D2 : BitVec 8=>(fun D1 : BitVec 8=>(fun D0 : List (BitVec 8)=>((!decide (e=(0:Int)))=true->Za (AG ([Va 0,Va 0,Fa 0,Fa 0,U8 0,Va 0,Va 0,Bb false,Va 0,Bb false,U8 0,Bb false,NS,Bb false,Fa 0,Fa 0,Bb false]++(replicate 14 (U8 0)++[NS])))/\Za (O1 (I64 e))/\Q (TU [AG ([Va 0,Va 0,Fa 0,Fa 0,U8 0,Va 0,Va 0,Bb false,Va 0,Bb false,U8 0,Bb false,NS,Bb false,Fa 0,Fa 0,Bb false]++(replicate 14 (U8 0)++[NS])),O1 (I64 e)]) [])/\((!decide (e=(0:Int)))=false->I64 a=I64 a/\0+n1*1<=List.length r1/\1<=1/\0+n*1<=List.length br/\Flat (take (n*1) (drop 0 br))/\(Oa (take (n1*1) (drop 0 r1))/\List.length (take (n1*1) (drop 0 r1))=n1/\n1<=9223372036854775807/\[XS (take (n*1) (drop 0 br)) 0 n]=List.map encP (List.map asP [XS (take (n*1) (drop 0 br)) 0 n])/\1=1/\1<=1000000)/\(12=12/\12<=12)/\((!decide (macE a D0=(0:Int)))=true->Za (AG ([Va 0,Va 0,Fa 0,Fa 0,U8 0,Va 0,Va 0,Bb false,Va 0,Bb false,U8 0,Bb false,NS,Bb false,Fa 0,Fa 0,Bb false]++(replicate 14 (U8 0)++[NS])))/\Za (O1 (I64 (macE a D0)))/\Q (TU [AG ([Va 0,Va 0,Fa 0,Fa 0,U8 0,Va 0,Va 0,Bb false,Va 0,Bb false,U8 0,Bb false,NS,Bb false,Fa 0,Fa 0,Bb false]++(replicate 14 (U8 0)++[NS])),O1 (I64 (macE a D0))]) [])/\((!decide (macE a D0=(0:Int)))=false->12<=12/\(12=12/\31<=32)/\Za (AG [Va e1,Va e2,Fa e3,Fa e4,U8 e5,Va e6,Va e7,Bb a1,Va a2,Bb a3,U8 a4,Bb a5,XS kr 0 kn,Bb a6,Fa a7,Fa a8,Bb a9,U8 b1,U8 b2,U8 D12,U8 D11,U8 D10,U8 D9,U8 D8,U8 D7,U8 D6,U8 D5,U8 D4,U8 D3,U8 D2,U8 D1,XS dr 0 dn])/\Za (O1 (I64 (0:Int)))/\Q (TU [AG [Va e1,Va e2,Fa e3,Fa e4,U8 e5,Va e6,Va e7,Bb a1,Va a2,Bb a3,U8 a4,Bb a5,XS kr 0 kn,Bb a6,Fa a7,Fa a8,Bb a9,U8 b1,U8 b2,U8 D12,U8 D11,U8 D10,U8 D9,U8 D8,U8 D7,U8 D6,U8 D5,U8 D4,U8 D3,U8 D2,U8 D1,XS dr 0 dn],O1 (I64 (0:Int))]) []))) (List.map Ea (take (n1*1) (drop 0 r1)))) (mX a (take (n1*1) (drop 0 r1)) [XS (take (n*1) (drop 0 br)) 0 n] 11)) (mX a (take (n1*1) (drop 0 r1)) [XS (take (n*1) (drop 0 br)) 0 n] 10)) (mX a (take (n1*1) (drop 0 r1)) [XS (take (n*1) (drop 0 br)) 0 n] 9)) (mX a (take (n1*1) (drop 0 r1)) [XS (take (n*1) (drop 0 br)) 0 n] 8)) (mX a (take (n1*1) (drop 0 r1)) [XS (take (n*1) (drop 0 br)) 0 n] 7)) (mX a (take (n1*1) (drop 0 r1)) [XS (take (n*1) (drop 0 br)) 0 n] 6)) (mX a (take (n1*1) (drop 0 r1)) [XS (take (n*1) (drop 0 br)) 0 n] 5)) (mX a (take (n1*1) (drop 0 r1)) [XS (take (n*1) (drop 0 br)) 0 n] 4)) (mX a (take (n1*1) (drop 0 r1)) [XS (take (n*1) (drop 0 br)) 0 n] 3)) (mX a (take (n1*1) (drop 0 r1)) [XS (take (n*1) (drop 0 br)) 0 n] 2)) (mX a (take (n1*1) (drop 0 r1)) [XS (take (n*1) (drop 0 br)) 0 n] 1)) (mX a (take (n1*1) (drop 0 r1)) [XS (take (n*1) (drop 0 br)) 0 n] 0)) : Ia X 33 0 Q (Ub Try.f33 1) (mkS 47 [(5,.one (.ptr 0 0)),(8,.one (.ptr 1 0)),(10,.one (.ptr 2 0)),(12,.one (.gs 3 n 1)),(13,.one (.i64 e))]) [some [.i64 a,.xs r1 0 n1,.xs r2 0 n2,.b c],some [.u16 e1,.u16 e2,.u32 e3,.u32 e4,.u8 e5,.u16 e6,.u16 e7,.b a1,.u16 a2,.b a3,.u8 a4,.b a5,.xs kr 0 kn,.b a6,.u32 a7,.u32 a8,.b a9,.u8 b1,.u8 b2,.u8 c0,.u8 c1,.u8 c2,.u8 c3,.u8 c4,.u8 c5,.u8 c6,.u8 c7,.u8 c8,.u8 c9,.u8 d0,.u8 d1,.xs dr 0 dn],some [.u16 0,.u16 0,.u32 0,.u32 0,.u8 0,.u16 0,.u16 0,.b false,.u16 0,.b false,.u8 0,.b false,.ns,.b false,.u32 0,.u32 0,.b false,.u8 0,.u8 0,.u8 0,.u8 0,.u8 0,.u8 0,.u8 0,.u8 0,.u8 0,.u8 0,.u8 0,.u8 0,.u8 0,.u8 0,.ns],some br] :=
 wR' hX WVD2 ok33 [26,40] [(100001,0)] false (CS.mk [] [] [0,1] []) true [(2,LS.mk [5,8,10,12,13] (CS.mk [] [true,true,true,true] [] []))] 2000 h (by kernel_rfl)
theorem vc33s {X} {Q : QT} (hX : PX X) (a:Int) (r1 r2 : List AC) (n1 n2:Nat) (c s t : Bool) (as' bs : List AC) (e1 e2:BitVec 16) (e3 e4:BitVec 32) (e5:BitVec 8) (e6 e7:BitVec 16) (a1 : Bool) (a2:BitVec 16) (a3 : Bool) (a4:BitVec 8) (a5 : Bool) (kr : List AC) (kn:Nat) (a6 : Bool) (a7 a8:BitVec 32) (a9 : Bool) (b1 b2 c0 c1 c2 c3 c4 c5 c6 c7 c8 c9 d0 d1:BitVec 8) (dr : List AC) (dn:Nat) (sn:BitVec 32) (h : (fun D2 : List (BitVec 8)=>(fun D1 : List (BitVec 8)=>(fun D0 : Sg=>17<=List.length (Bb s::as')/\17<=List.length (Bb t::bs)/\Flat (take 17 (drop 0 (Bb s::as')))/\Flat (take 17 (drop 0 (Bb t::bs)))/\(Oa (take 16 as')/\List.length (take 16 as')=16/\Oa (take 16 bs)/\List.length (take 16 bs)=16/\IsSg [Va e1,Va e2,Fa e3,Fa e4,U8 e5,Va e6,Va e7,Bb a1,Va a2,Bb a3,U8 a4,Bb a5,XS kr 0 kn,Bb a6,Fa a7,Fa a8,Bb a9,U8 b1,U8 b2,U8 c0,U8 c1,U8 c2,U8 c3,U8 c4,U8 c5,U8 c6,U8 c7,U8 c8,U8 c9,U8 d0,U8 d1,XS dr 0 dn])/\Qb (hide (List.map U8 (bytB s t D1 D2 D0 sn c)))/\Flat r1/\Flat r2/\Flat [Va e1,Va e2,Fa e3,Fa e4,U8 e5,Va e6,Va e7,Bb a1,Va a2,Bb a3,U8 a4,Bb a5,XS kr 0 kn,Bb a6,Fa a7,Fa a8,Bb a9,U8 b1,U8 b2,U8 c0,U8 c1,U8 c2,U8 c3,U8 c4,U8 c5,U8 c6,U8 c7,U8 c8,U8 c9,U8 d0,U8 d1,XS dr 0 dn]/\Flat ([Va 0,Va 0,Fa 0,Fa 0,U8 0,Va 0,Va 0,Bb false,Va 0,Bb false,U8 0,Bb false,NS,Bb false,Fa 0,Fa 0,Bb false]++(replicate 14 (U8 0)++[NS]))/\Flat (hide (List.map U8 (bytB s t D1 D2 D0 sn c)))/\KR X 33 2 Q (Ub Try.f33 1) (mkS 47 [(5,O1 (PT 2 0)),(8,O1 (PT 3 0)),(10,O1 (PT 4 0)),(12,O1 (GS 5 (List.length (bytB s t D1 D2 D0 sn c)) 1)),(13,O1 (I64 (bytE D0)))]) [some r1,some r2,some [I64 a,SV 0 0 n1,SV 1 0 n2,Bb c],some [Va e1,Va e2,Fa e3,Fa e4,U8 e5,Va e6,Va e7,Bb a1,Va a2,Bb a3,U8 a4,Bb a5,XS kr 0 kn,Bb a6,Fa a7,Fa a8,Bb a9,U8 b1,U8 b2,U8 c0,U8 c1,U8 c2,U8 c3,U8 c4,U8 c5,U8 c6,U8 c7,U8 c8,U8 c9,U8 d0,U8 d1,XS dr 0 dn],some ([Va 0,Va 0,Fa 0,Fa 0,U8 0,Va 0,Va 0,Bb false,Va 0,Bb false,U8 0,Bb false,NS,Bb false,Fa 0,Fa 0,Bb false]++(replicate 14 (U8 0)++[NS])),some (hide (List.map U8 (bytB s t D1 D2 D0 sn c)))]) (sgOf (nrL [Va e1,Va e2,Fa e3,Fa e4,U8 e5,Va e6,Va e7,Bb a1,Va a2,Bb a3,U8 a4,Bb a5,XS kr 0 kn,Bb a6,Fa a7,Fa a8,Bb a9,U8 b1,U8 b2,U8 c0,U8 c1,U8 c2,U8 c3,U8 c4,U8 c5,U8 c6,U8 c7,U8 c8,U8 c9,U8 d0,U8 d1,XS dr 0 dn]))) (List.map Ea (take 16 as'))) (List.map Ea (take 16 bs))) : Ia X 33 2 Q ([.code (Na Try.f33)]) (slots [.agg [.i64 a,.sv 0 0 n1,.sv 1 0 n2,.b c],.agg (.b s::as'),.agg (.b t::bs),.agg [.u16 e1,.u16 e2,.u32 e3,.u32 e4,.u8 e5,.u16 e6,.u16 e7,.b a1,.u16 a2,.b a3,.u8 a4,.b a5,.xs kr 0 kn,.b a6,.u32 a7,.u32 a8,.b a9,.u8 b1,.u8 b2,.u8 c0,.u8 c1,.u8 c2,.u8 c3,.u8 c4,.u8 c5,.u8 c6,.u8 c7,.u8 c8,.u8 c9,.u8 d0,.u8 d1,.xs dr 0 dn],.one (.u32 sn)] Try.f33.ntmps) [some r1,some r2] :=
 wR' hX WVD2 ok33 [26,40] [(100001,0),(100001,0)] false (CS.mk [] [true,true] [0,1] []) true [(2,LS.mk [5,8,10,12,13] (CS.mk [] [true,true,false,true,true,true] [] []))] 2000 h (by kernel_rfl)
theorem vc33t {X} {Q : QT} (hX : PX X) (a:Int) (r1 r2 br : List AC) (n1 n2 n:Nat) (c : Bool) (e1 e2:BitVec 16) (e3 e4:BitVec 32) (e5:BitVec 8) (e6 e7:BitVec 16) (a1 : Bool) (a2:BitVec 16) (a3 : Bool) (a4:BitVec 8) (a5 : Bool) (kr : List AC) (kn:Nat) (a6 : Bool) (a7 a8:BitVec 32) (a9 : Bool) (b1 b2 c0 c1 c2 c3 c4 c5 c6 c7 c8 c9 d0 d1:BitVec 8) (dr : List AC) (dn:Nat) (e:Int) (h : (fun D12 : BitVec 8=>(fun D11 : BitVec 8=>(fun D10 : BitVec 8=>(fun D9 : BitVec 8=>(fun D8 : BitVec 8=>(fun D7 : BitVec 8=>(fun D6 : BitVec 8=>(fun D5 : BitVec 8=>(fun D4 : BitVec 8=>(fun D3 : BitVec 8=>(fun D2 : BitVec 8=>(fun D1 : BitVec 8=>(fun D0 : List (BitVec 8)=>((!decide (e=(0:Int)))=true->Za (AG ([Va 0,Va 0,Fa 0,Fa 0,U8 0,Va 0,Va 0,Bb false,Va 0,Bb false,U8 0,Bb false,NS,Bb false,Fa 0,Fa 0,Bb false]++(replicate 14 (U8 0)++[NS])))/\Za (O1 (I64 e))/\Flat r1/\Flat r2/\Q (TU [AG ([Va 0,Va 0,Fa 0,Fa 0,U8 0,Va 0,Va 0,Bb false,Va 0,Bb false,U8 0,Bb false,NS,Bb false,Fa 0,Fa 0,Bb false]++(replicate 14 (U8 0)++[NS])),O1 (I64 e)]) [some r1,some r2])/\((!decide (e=(0:Int)))=false->I64 a=I64 a/\0+n1*1<=List.length r1/\Flat (take (n1*1) (drop 0 r1))/\1<=1/\0+n*1<=List.length br/\Flat (take (n*1) (drop 0 br))/\(Oa (take (n1*1) (drop 0 r1))/\List.length (take (n1*1) (drop 0 r1))=n1/\n1<=9223372036854775807/\[XS (take (n*1) (drop 0 br)) 0 n]=List.map encP (List.map asP [XS (take (n*1) (drop 0 br)) 0 n])/\1=1/\1<=1000000)/\(12=12/\12<=12)/\((!decide (macE a D0=(0:Int)))=true->Za (AG ([Va 0,Va 0,Fa 0,Fa 0,U8 0,Va 0,Va 0,Bb false,Va 0,Bb false,U8 0,Bb false,NS,Bb false,Fa 0,Fa 0,Bb false]++(replicate 14 (U8 0)++[NS])))/\Za (O1 (I64 (macE a D0)))/\Flat r1/\Flat r2/\Q (TU [AG ([Va 0,Va 0,Fa 0,Fa 0,U8 0,Va 0,Va 0,Bb false,Va 0,Bb false,U8 0,Bb false,NS,Bb false,Fa 0,Fa 0,Bb false]++(replicate 14 (U8 0)++[NS])),O1 (I64 (macE a D0))]) [some r1,some r2])/\((!decide (macE a D0=(0:Int)))=false->12<=12/\(12=12/\31<=32)/\Za (AG [Va e1,Va e2,Fa e3,Fa e4,U8 e5,Va e6,Va e7,Bb a1,Va a2,Bb a3,U8 a4,Bb a5,XS kr 0 kn,Bb a6,Fa a7,Fa a8,Bb a9,U8 b1,U8 b2,U8 D12,U8 D11,U8 D10,U8 D9,U8 D8,U8 D7,U8 D6,U8 D5,U8 D4,U8 D3,U8 D2,U8 D1,XS dr 0 dn])/\Za (O1 (I64 (0:Int)))/\Flat r1/\Flat r2/\Q (TU [AG [Va e1,Va e2,Fa e3,Fa e4,U8 e5,Va e6,Va e7,Bb a1,Va a2,Bb a3,U8 a4,Bb a5,XS kr 0 kn,Bb a6,Fa a7,Fa a8,Bb a9,U8 b1,U8 b2,U8 D12,U8 D11,U8 D10,U8 D9,U8 D8,U8 D7,U8 D6,U8 D5,U8 D4,U8 D3,U8 D2,U8 D1,XS dr 0 dn],O1 (I64 (0:Int))]) [some r1,some r2]))) (List.map Ea (take (n1*1) (drop 0 r1)))) (mX a (take (n1*1) (drop 0 r1)) [XS (take (n*1) (drop 0 br)) 0 n] 11)) (mX a (take (n1*1) (drop 0 r1)) [XS (take (n*1) (drop 0 br)) 0 n] 10)) (mX a (take (n1*1) (drop 0 r1)) [XS (take (n*1) (drop 0 br)) 0 n] 9)) (mX a (take (n1*1) (drop 0 r1)) [XS (take (n*1) (drop 0 br)) 0 n] 8)) (mX a (take (n1*1) (drop 0 r1)) [XS (take (n*1) (drop 0 br)) 0 n] 7)) (mX a (take (n1*1) (drop 0 r1)) [XS (take (n*1) (drop 0 br)) 0 n] 6)) (mX a (take (n1*1) (drop 0 r1)) [XS (take (n*1) (drop 0 br)) 0 n] 5)) (mX a (take (n1*1) (drop 0 r1)) [XS (take (n*1) (drop 0 br)) 0 n] 4)) (mX a (take (n1*1) (drop 0 r1)) [XS (take (n*1) (drop 0 br)) 0 n] 3)) (mX a (take (n1*1) (drop 0 r1)) [XS (take (n*1) (drop 0 br)) 0 n] 2)) (mX a (take (n1*1) (drop 0 r1)) [XS (take (n*1) (drop 0 br)) 0 n] 1)) (mX a (take (n1*1) (drop 0 r1)) [XS (take (n*1) (drop 0 br)) 0 n] 0)) : Ia X 33 2 Q (Ub Try.f33 1) (mkS 47 [(5,.one (.ptr 2 0)),(8,.one (.ptr 3 0)),(10,.one (.ptr 4 0)),(12,.one (.gs 5 n 1)),(13,.one (.i64 e))]) [some r1,some r2,some [.i64 a,.sv 0 0 n1,.sv 1 0 n2,.b c],some [.u16 e1,.u16 e2,.u32 e3,.u32 e4,.u8 e5,.u16 e6,.u16 e7,.b a1,.u16 a2,.b a3,.u8 a4,.b a5,.xs kr 0 kn,.b a6,.u32 a7,.u32 a8,.b a9,.u8 b1,.u8 b2,.u8 c0,.u8 c1,.u8 c2,.u8 c3,.u8 c4,.u8 c5,.u8 c6,.u8 c7,.u8 c8,.u8 c9,.u8 d0,.u8 d1,.xs dr 0 dn],some [.u16 0,.u16 0,.u32 0,.u32 0,.u8 0,.u16 0,.u16 0,.b false,.u16 0,.b false,.u8 0,.b false,.ns,.b false,.u32 0,.u32 0,.b false,.u8 0,.u8 0,.u8 0,.u8 0,.u8 0,.u8 0,.u8 0,.u8 0,.u8 0,.u8 0,.u8 0,.u8 0,.u8 0,.u8 0,.ns],some br] :=
 wR' hX WVD2 ok33 [26,40] [(100001,0),(100001,0)] false (CS.mk [] [true,true] [0,1] []) true [(2,LS.mk [5,8,10,12,13] (CS.mk [] [true,true,false,true,true,true] [] []))] 2000 h (by kernel_rfl)
theorem vc90 {X} {Q : QT} (hX : PX X) (a:Int) (r1 r2 : List AC) (n1 n2:Nat) (c s t : Bool) (as' bs : List AC) (e1 e2:BitVec 16) (e3 e4:BitVec 32) (e5:BitVec 8) (e6 e7:BitVec 16) (a1 : Bool) (a2:BitVec 16) (a3 : Bool) (a4:BitVec 8) (a5 : Bool) (kr : List AC) (kn:Nat) (a6 : Bool) (a7 a8:BitVec 32) (a9 : Bool) (b1 b2 c0 c1 c2 c3 c4 c5 c6 c7 c8 c9 d0 d1:BitVec 8) (dr : List AC) (dn:Nat) (sn:BitVec 32) (h : (fun D2 : List (BitVec 8)=>(fun D1 : List (BitVec 8)=>(fun D0 : Sg=>17<=List.length (Bb s::as')/\17<=List.length (Bb t::bs)/\Flat (take 17 (drop 0 (Bb s::as')))/\Flat (take 17 (drop 0 (Bb t::bs)))/\(Oa (take 16 as')/\List.length (take 16 as')=16/\Oa (take 16 bs)/\List.length (take 16 bs)=16/\IsSg [Va e1,Va e2,Fa e3,Fa e4,U8 e5,Va e6,Va e7,Bb a1,Va a2,Bb a3,U8 a4,Bb a5,XS kr 0 kn,Bb a6,Fa a7,Fa a8,Bb a9,U8 b1,U8 b2,U8 c0,U8 c1,U8 c2,U8 c3,U8 c4,U8 c5,U8 c6,U8 c7,U8 c8,U8 c9,U8 d0,U8 d1,XS dr 0 dn])/\Qb (hide (List.map U8 (bytB s t D1 D2 D0 sn c)))/\Flat [I64 a,XS r1 0 n1,XS r2 0 n2,Bb c]/\Flat [Va e1,Va e2,Fa e3,Fa e4,U8 e5,Va e6,Va e7,Bb a1,Va a2,Bb a3,U8 a4,Bb a5,XS kr 0 kn,Bb a6,Fa a7,Fa a8,Bb a9,U8 b1,U8 b2,U8 c0,U8 c1,U8 c2,U8 c3,U8 c4,U8 c5,U8 c6,U8 c7,U8 c8,U8 c9,U8 d0,U8 d1,XS dr 0 dn]/\Flat (hide (List.map U8 (bytB s t D1 D2 D0 sn c)))/\KR X 90 0 Q (Ub Try.f90 1) (mkS 47 [(5,O1 (PT 0 0)),(8,O1 (PT 1 0)),(11,O1 (GS 2 (List.length (bytB s t D1 D2 D0 sn c)) 1)),(12,O1 (I64 (bytE D0)))]) [some [I64 a,XS r1 0 n1,XS r2 0 n2,Bb c],some [Va e1,Va e2,Fa e3,Fa e4,U8 e5,Va e6,Va e7,Bb a1,Va a2,Bb a3,U8 a4,Bb a5,XS kr 0 kn,Bb a6,Fa a7,Fa a8,Bb a9,U8 b1,U8 b2,U8 c0,U8 c1,U8 c2,U8 c3,U8 c4,U8 c5,U8 c6,U8 c7,U8 c8,U8 c9,U8 d0,U8 d1,XS dr 0 dn],some (hide (List.map U8 (bytB s t D1 D2 D0 sn c)))]) (sgOf (nrL [Va e1,Va e2,Fa e3,Fa e4,U8 e5,Va e6,Va e7,Bb a1,Va a2,Bb a3,U8 a4,Bb a5,XS kr 0 kn,Bb a6,Fa a7,Fa a8,Bb a9,U8 b1,U8 b2,U8 c0,U8 c1,U8 c2,U8 c3,U8 c4,U8 c5,U8 c6,U8 c7,U8 c8,U8 c9,U8 d0,U8 d1,XS dr 0 dn]))) (List.map Ea (take 16 as'))) (List.map Ea (take 16 bs))) : Ia X 90 0 Q ([.code (Na Try.f90)]) (slots [.agg [.i64 a,.xs r1 0 n1,.xs r2 0 n2,.b c],.agg (.b s::as'),.agg (.b t::bs),.agg [.u16 e1,.u16 e2,.u32 e3,.u32 e4,.u8 e5,.u16 e6,.u16 e7,.b a1,.u16 a2,.b a3,.u8 a4,.b a5,.xs kr 0 kn,.b a6,.u32 a7,.u32 a8,.b a9,.u8 b1,.u8 b2,.u8 c0,.u8 c1,.u8 c2,.u8 c3,.u8 c4,.u8 c5,.u8 c6,.u8 c7,.u8 c8,.u8 c9,.u8 d0,.u8 d1,.xs dr 0 dn],.one (.u32 sn)] Try.f90.ntmps) [] :=
 wR' hX WVD2 ok90 [25,39,46] [(100001,0)] false (CS.mk [] [] [0] []) true [(2,LS.mk [5,8,11,12] (CS.mk [] [true,true,true] [] []))] 2000 h (by kernel_rfl)
theorem vc90b {X} {Q : QT} (hX : PX X) (a:Int) (r1 r2 br : List AC) (n1 n2 n:Nat) (c : Bool) (e1 e2:BitVec 16) (e3 e4:BitVec 32) (e5:BitVec 8) (e6 e7:BitVec 16) (a1 : Bool) (a2:BitVec 16) (a3 : Bool) (a4:BitVec 8) (a5 : Bool) (kr : List AC) (kn:Nat) (a6 : Bool) (a7 a8:BitVec 32) (a9 : Bool) (b1 b2 c0 c1 c2 c3 c4 c5 c6 c7 c8 c9 d0 d1:BitVec 8) (dr : List AC) (dn:Nat) (e:Int) (h : (fun D1 : List (BitVec 8)=>(fun D0 : List AC=>((!decide (e=(0:Int)))=true->Za (O1 (I64 e))/\Q (O1 (I64 e)) [])/\((!decide (e=(0:Int)))=false->I64 a=I64 a/\0+n2*1<=List.length r2/\1<=1/\0+n*1<=List.length br/\Flat (take (n*1) (drop 0 br))/\(Oa (take (n2*1) (drop 0 r2))/\List.length (take (n2*1) (drop 0 r2))=n2/\n2<=9223372036854775807/\[XS (take (n*1) (drop 0 br)) 0 n]=List.map encP (List.map asP [XS (take (n*1) (drop 0 br)) 0 n])/\1=1/\1<=1000000)/\(12=12/\12<=12)/\((!decide (macE a D1=(0:Int)))=true->Za (O1 (I64 (macE a D1)))/\Q (O1 (I64 (macE a D1))) [])/\((!decide (macE a D1=(0:Int)))=false->12<=12/\31<=32/\(fitCs (replicate 12 (U8 0)) (take 12 (drop 0 D0))/\fitCs (replicate 12 (U8 0)) (take 12 (drop 19 [Va e1,Va e2,Fa e3,Fa e4,U8 e5,Va e6,Va e7,Bb a1,Va a2,Bb a3,U8 a4,Bb a5,XS kr 0 kn,Bb a6,Fa a7,Fa a8,Bb a9,U8 b1,U8 b2,U8 c0,U8 c1,U8 c2,U8 c3,U8 c4,U8 c5,U8 c6,U8 c7,U8 c8,U8 c9,U8 d0,U8 d1,XS dr 0 dn])))/\((!Ld (take 12 (drop 0 D0)) (take 12 (drop 19 [Va e1,Va e2,Fa e3,Fa e4,U8 e5,Va e6,Va e7,Bb a1,Va a2,Bb a3,U8 a4,Bb a5,XS kr 0 kn,Bb a6,Fa a7,Fa a8,Bb a9,U8 b1,U8 b2,U8 c0,U8 c1,U8 c2,U8 c3,U8 c4,U8 c5,U8 c6,U8 c7,U8 c8,U8 c9,U8 d0,U8 d1,XS dr 0 dn])))=true->Za (O1 (I64 (13:Int)))/\Q (O1 (I64 (13:Int))) [])/\((!Ld (take 12 (drop 0 D0)) (take 12 (drop 19 [Va e1,Va e2,Fa e3,Fa e4,U8 e5,Va e6,Va e7,Bb a1,Va a2,Bb a3,U8 a4,Bb a5,XS kr 0 kn,Bb a6,Fa a7,Fa a8,Bb a9,U8 b1,U8 b2,U8 c0,U8 c1,U8 c2,U8 c3,U8 c4,U8 c5,U8 c6,U8 c7,U8 c8,U8 c9,U8 d0,U8 d1,XS dr 0 dn])))=false->Za (O1 (I64 (0:Int)))/\Q (O1 (I64 (0:Int))) [])))) (Qa (replicate 12 (U8 0)) 0 [U8 (mX a (take (n2*1) (drop 0 r2)) [XS (take (n*1) (drop 0 br)) 0 n] 0),U8 (mX a (take (n2*1) (drop 0 r2)) [XS (take (n*1) (drop 0 br)) 0 n] 1),U8 (mX a (take (n2*1) (drop 0 r2)) [XS (take (n*1) (drop 0 br)) 0 n] 2),U8 (mX a (take (n2*1) (drop 0 r2)) [XS (take (n*1) (drop 0 br)) 0 n] 3),U8 (mX a (take (n2*1) (drop 0 r2)) [XS (take (n*1) (drop 0 br)) 0 n] 4),U8 (mX a (take (n2*1) (drop 0 r2)) [XS (take (n*1) (drop 0 br)) 0 n] 5),U8 (mX a (take (n2*1) (drop 0 r2)) [XS (take (n*1) (drop 0 br)) 0 n] 6),U8 (mX a (take (n2*1) (drop 0 r2)) [XS (take (n*1) (drop 0 br)) 0 n] 7),U8 (mX a (take (n2*1) (drop 0 r2)) [XS (take (n*1) (drop 0 br)) 0 n] 8),U8 (mX a (take (n2*1) (drop 0 r2)) [XS (take (n*1) (drop 0 br)) 0 n] 9),U8 (mX a (take (n2*1) (drop 0 r2)) [XS (take (n*1) (drop 0 br)) 0 n] 10),U8 (mX a (take (n2*1) (drop 0 r2)) [XS (take (n*1) (drop 0 br)) 0 n] 11)])) (List.map Ea (take (n2*1) (drop 0 r2)))) : Ia X 90 0 Q (Ub Try.f90 1) (mkS 47 [(5,.one (.ptr 0 0)),(8,.one (.ptr 1 0)),(11,.one (.gs 2 n 1)),(12,.one (.i64 e))]) [some [.i64 a,.xs r1 0 n1,.xs r2 0 n2,.b c],some [.u16 e1,.u16 e2,.u32 e3,.u32 e4,.u8 e5,.u16 e6,.u16 e7,.b a1,.u16 a2,.b a3,.u8 a4,.b a5,.xs kr 0 kn,.b a6,.u32 a7,.u32 a8,.b a9,.u8 b1,.u8 b2,.u8 c0,.u8 c1,.u8 c2,.u8 c3,.u8 c4,.u8 c5,.u8 c6,.u8 c7,.u8 c8,.u8 c9,.u8 d0,.u8 d1,.xs dr 0 dn],some br] :=
 wR' hX WVD2 ok90 [25,39,46] [(100001,0)] false (CS.mk [] [] [0] []) true [(2,LS.mk [5,8,11,12] (CS.mk [] [true,true,true] [] []))] 2000 h (by kernel_rfl)
def nrT : AV → AV
 | .Ec vs => .Ec (vs.map nrV)
 | v => v
theorem Spec.out {P : Program} {f : FuncId} {ys : List AV} {m0 : Mem} {R : AV → Mem → Prop} (h : Spec P f ys m0 (fun r m => R (nrT r) m)) : Spec P f ys m0 R := by
 intro X p vs hP hm ha
 refine (h X p vs hP hm ha).mono ?_
 rintro e w' ⟨v, r, m', p', rfl, k1, k2, k3, k4, k5⟩
 refine ⟨v, nrT r, m', p', rfl, k1, k2, ?_, k4, k5⟩
 cases k3 with
 | any v => exact .any v
 | one c v h => exact .one c v h
 | agg cs l h => exact .agg cs l h
 | Ec vs l hl k3 =>
  refine .Ec _ l (by rw [List.length_map]; exact hl) fun j d hj => ?_
  rw [List.getElem?_map] at hj
  cases hc : vs[j]? with
  | none => rw [hc] at hj; cases hj
  | some u =>
   rw [hc] at hj
   simp only [Option.map_some, Option.some.injEq] at hj
   subst hj
   exact (k3 j u hc).nr
def sgM (g : Sg) (m : BO) : Sg := { g with op := { g.op with mac := m } }
def sgNil : Sg := ⟨0, 0, 0, 0, 0, 0, 0, ⟨false, 0, false, 0, false, false, 0, 0, false, 0, 0, zM, []⟩, []⟩
def snG' (a:Int) (k1 B : BO) (e:Int) (g : Sg) : Sg := if e ≠ 0 then sgNil else if macE a k1 ≠ 0 then sgNil else sgM g (macB a k1 B)
def snE' (a:Int) (k1 : BO) (e:Int) : Int := if e ≠ 0 then e else macE a k1
theorem l33b {X : Ctx} (hX : X.P = Try.prog) (a:Int) (k1 k2 B : BO) (c : Bool) (g : Sg) (hl : g.op.mac.length = 12) (hk : k1.length ≤ 9223372036854775807) (hB : B.length ≤ 1000000) (e:Int) :
  Ia X 33 0 (fun r m => Are (.Ec [.agg (sgC (snG' a k1 B e g)), .one (.i64 (snE' a k1 e))]) [] (nrT r) m) (Ub Try.f33 1) (mkS 47 [(5, .one (.ptr 0 0)), (8, .one (.ptr 1 0)), (10, .one (.ptr 2 0)), (12, .one (.gs 3 B.length 1)), (13, .one (.i64 e))]) [some [.i64 a, .xs (k1.map U8) 0 k1.length, .xs (k2.map U8) 0 k2.length, .b c], some (sgC g), some [.u16 0, .u16 0, .u32 0, .u32 0, .u8 0, .u16 0, .u16 0, .b false, .u16 0, .b false, .u8 0, .b false, .ns, .b false, .u32 0, .u32 0, .b false, .u8 0, .u8 0, .u8 0, .u8 0, .u8 0, .u8 0, .u8 0, .u8 0, .u8 0, .u8 0, .u8 0, .u8 0, .u8 0, .u8 0, .ns], some (B.map U8)] := by
 have hm := macB_len a k1 B
 have hml := mac_lit hm
 have hp : List.map asP [XS (B.map U8) 0 B.length] = [B] := by simp only [List.map_cons, List.map_nil, asP, Td, Ua]
 have hp2 : List.map encP [B] = [XS (B.map U8) 0 B.length] := rfl
 have hmx : ∀ i, mX a (k1.map U8) [.xs (B.map U8) 0 B.length] i = (macB a k1 B).getD i 0 := fun i => by
  unfold mX
  rw [Ua, hp, fl1]
 unfold snG' snE'
 obtain ⟨e1, e2, e3, e4, e5, e6, e7, ⟨a1, a2, a3, a4, a5, a6, a7, a8, a9, b1, b2, mc, sk⟩, dt⟩ := g
 obtain ⟨c0, c1, c2, c3, c4, c5, c6, c7, c8, c9, d0, d1, rfl⟩ := twelve hl
 refine vc33b hX _ _ _ _ _ _ _ _ _ _ _ _ _ _ _ _ _ _ _ _ _ _ _ _ _ _ _ _ _ _ _ _ _ _ _ _ _ _ _ _ _ _ _ ⟨fun h => ?_, fun h => ?_⟩
 ·have h := of_decide_eq_false (bnt h)
  rw [if_pos h, if_pos h]
  (repeat' (first | exact trivial | exact Aa _ | exact Ib rfl | exact rfl | exact Nat.le_refl _ | omega | refine And.intro ?_ ?_))
 ·have h := of_decide_eq_true (bnf h)
  subst h
  rw [if_neg (show ¬ ((0:Int) ≠ 0) from fun h => h rfl), if_neg (show ¬ ((0:Int) ≠ 0) from fun h => h rfl), tk k1, tk B, Ua, hp, hp2]
  (repeat' (first | exact trivial | exact Aa _ | exact Ba _ | exact rfl | exact Nat.le_refl _ | refine And.intro ?_ ?_)) <;> first | omega | (rw [List.length_map]; omega) | exact List.length_map _ | intro h
  ·have h := of_decide_eq_false (bnt h)
   rw [if_pos h]
   (repeat' (first | exact trivial | exact Aa _ | exact Ib rfl | exact rfl | exact Nat.le_refl _ | omega | refine And.intro ?_ ?_))
  ·have h := of_decide_eq_true (bnf h)
   rw [if_neg (fun g => g h)]
   simp only [hmx]
   have hg : sgC (sgM ⟨e1, e2, e3, e4, e5, e6, e7, ⟨a1, a2, a3, a4, a5, a6, a7, a8, a9, b1, b2, [c0, c1, c2, c3, c4, c5, c6, c7, c8, c9, d0, d1], sk⟩, dt⟩ (macB a k1 B)) =
     [.u16 e1, .u16 e2, .u32 e3, .u32 e4, .u8 e5, .u16 e6, .u16 e7] ++ (([.b a1, .u16 a2, .b a3, .u8 a4, .b a5, .xs (sakC sk) 0 sk.length, .b a6, .u32 a7, .u32 a8, .b a9, .u8 b1, .u8 b2] ++ (macB a k1 B).map U8) ++ [.xs (dt.map U8) 0 dt.length]) := rfl
   rw [hg, hml, h]
   (repeat' (first | exact trivial | exact Aa _ | exact Ib rfl | exact rfl | exact Nat.le_refl _ | omega | refine And.intro ?_ ?_))
theorem l33t {X : Ctx} (hX : X.P = Try.prog) (a:Int) (k1 k2 B : BO) (c : Bool) (g : Sg) (hl : g.op.mac.length = 12) (hk : k1.length ≤ 9223372036854775807) (hB : B.length ≤ 1000000) (e:Int) :
  Ia X 33 2 (fun r m => Are (.Ec [.agg (sgC (snG' a k1 B e g)), .one (.i64 (snE' a k1 e))]) [some (k1.map U8), some (k2.map U8)] (nrT r) m) (Ub Try.f33 1) (mkS 47 [(5, .one (.ptr 2 0)), (8, .one (.ptr 3 0)), (10, .one (.ptr 4 0)), (12, .one (.gs 5 B.length 1)), (13, .one (.i64 e))]) [some (k1.map U8), some (k2.map U8), some [.i64 a, .sv 0 0 k1.length, .sv 1 0 k2.length, .b c], some (sgC g), some [.u16 0, .u16 0, .u32 0, .u32 0, .u8 0, .u16 0, .u16 0, .b false, .u16 0, .b false, .u8 0, .b false, .ns, .b false, .u32 0, .u32 0, .b false, .u8 0, .u8 0, .u8 0, .u8 0, .u8 0, .u8 0, .u8 0, .u8 0, .u8 0, .u8 0, .u8 0, .u8 0, .u8 0, .u8 0, .ns], some (B.map U8)] := by
 have hm := macB_len a k1 B
 have hml := mac_lit hm
 have hp : List.map asP [XS (B.map U8) 0 B.length] = [B] := by simp only [List.map_cons, List.map_nil, asP, Td, Ua]
 have hp2 : List.map encP [B] = [XS (B.map U8) 0 B.length] := rfl
 have hmx : ∀ i, mX a (k1.map U8) [.xs (B.map U8) 0 B.length] i = (macB a k1 B).getD i 0 := fun i => by
  unfold mX
  rw [Ua, hp, fl1]
 unfold snG' snE'
 obtain ⟨e1, e2, e3, e4, e5, e6, e7, ⟨a1, a2, a3, a4, a5, a6, a7, a8, a9, b1, b2, mc, sk⟩, dt⟩ := g
 obtain ⟨c0, c1, c2, c3, c4, c5, c6, c7, c8, c9, d0, d1, rfl⟩ := twelve hl
 refine vc33t hX _ _ _ _ _ _ _ _ _ _ _ _ _ _ _ _ _ _ _ _ _ _ _ _ _ _ _ _ _ _ _ _ _ _ _ _ _ _ _ _ _ _ _ ⟨fun h => ?_, fun h => ?_⟩
 ·have h := of_decide_eq_false (bnt h)
  rw [if_pos h, if_pos h]
  (repeat' (first | exact trivial | exact Aa _ | exact Ib rfl | exact rfl | exact Nat.le_refl _ | omega | refine And.intro ?_ ?_))
 ·have h := of_decide_eq_true (bnf h)
  subst h
  rw [if_neg (show ¬ ((0:Int) ≠ 0) from fun h => h rfl), if_neg (show ¬ ((0:Int) ≠ 0) from fun h => h rfl), tk k1, tk B, Ua, hp, hp2]
  (repeat' (first | exact trivial | exact Aa _ | exact Ba _ | exact rfl | exact Nat.le_refl _ | refine And.intro ?_ ?_)) <;> first | omega | (rw [List.length_map]; omega) | exact List.length_map _ | intro h
  ·have h := of_decide_eq_false (bnt h)
   rw [if_pos h]
   (repeat' (first | exact trivial | exact Aa _ | exact Ib rfl | exact rfl | exact Nat.le_refl _ | omega | refine And.intro ?_ ?_))
  ·have h := of_decide_eq_true (bnf h)
   rw [if_neg (fun g => g h)]
   simp only [hmx]
   have hg : sgC (sgM ⟨e1, e2, e3, e4, e5, e6, e7, ⟨a1, a2, a3, a4, a5, a6, a7, a8, a9, b1, b2, [c0, c1, c2, c3, c4, c5, c6, c7, c8, c9, d0, d1], sk⟩, dt⟩ (macB a k1 B)) =
     [.u16 e1, .u16 e2, .u32 e3, .u32 e4, .u8 e5, .u16 e6, .u16 e7] ++ (([.b a1, .u16 a2, .b a3, .u8 a4, .b a5, .xs (sakC sk) 0 sk.length, .b a6, .u32 a7, .u32 a8, .b a9, .u8 b1, .u8 b2] ++ (macB a k1 B).map U8) ++ [.xs (dt.map U8) 0 dt.length]) := rfl
   rw [hg, hml, h]
   (repeat' (first | exact trivial | exact Aa _ | exact Ib rfl | exact rfl | exact Nat.le_refl _ | omega | refine And.intro ?_ ?_))
theorem sg_flat {g : Sg} (hl : g.op.mac.length = 12) : Flat (sgC g) := by
 obtain ⟨e1, e2, e3, e4, e5, e6, e7, ⟨a1, a2, a3, a4, a5, a6, a7, a8, a9, b1, b2, mc, sk⟩, dt⟩ := g
 obtain ⟨c0, c1, c2, c3, c4, c5, c6, c7, c8, c9, d0, d1, rfl⟩ := twelve hl
 exact Ib rfl
def snG (a:Int) (k1 : BO) (s t : Bool) (x y : BO) (g : Sg) (sn:BitVec 32) (c : Bool) : Sg := snG' a k1 (bytB s t x y g sn c) (bytE g) g
def snE (a:Int) (k1 : BO) (g : Sg) : Int := snE' a k1 (bytE g)
theorem bytB_len (s t : Bool) {x y : BO} (hx : x.length = 16) (hy : y.length = 16) (g : Sg) (sn:BitVec 32) (c : Bool) : (bytB s t x y g sn c).length ≤ 1000000 := by
 unfold bytB
 split
 ·rename_i h
  unfold signB
  have h1 := segX_len h c (c := z2b) rfl
  have h2 := psX_len hx hy s t 6 (segC (sgX g c) z2b).length
  rw [List.length_append, List.length_append, b32_len, h2]
  split <;> omega
 ·exact Nat.zero_le _
theorem s33 (a:Int) (k1 k2 : BO) (c s t : Bool) (x y : BO) (hx : x.length = 16) (hy : y.length = 16) (g : Sg) (hl : g.op.mac.length = 12) (sn:BitVec 32) (hk : k1.length ≤ 9223372036854775807) :
  Spec Try.prog 33 [.agg [.i64 a, .xs (k1.map U8) 0 k1.length, .xs (k2.map U8) 0 k2.length, .b c], .agg (.b s :: x.map U8), .agg (.b t :: y.map U8), .agg (sgC g), .one (.u32 sn)] [] (Are (.Ec [.agg (sgC (snG a k1 s t x y g sn c)), .one (.i64 (snE a k1 g))]) []) := by
 refine Spec.out (Spec.of_run ok33 fun X hX => ?_)
 have hI := isSg_C hl
 have hO := sgOf_C hl
 have hf := sg_flat hl
 have hB := bytB_len s t hx hy g sn c
 have K := l33b hX a k1 k2 (bytB s t x y g sn c) c g hl hk hB (bytE g)
 have ta : take 16 (x.map U8) = x.map U8 := List.take_of_length_le (by rw [List.length_map]; omega)
 have tb : take 16 (y.map U8) = y.map U8 := List.take_of_length_le (by rw [List.length_map]; omega)
 have sa : take 17 (Bb s :: x.map U8) = Bb s :: x.map U8 := List.take_of_length_le (by rw [List.length_cons, List.length_map]; omega)
 have sb : take 17 (Bb t :: y.map U8) = Bb t :: y.map U8 := List.take_of_length_le (by rw [List.length_cons, List.length_map]; omega)
 have la : (Bb s :: x.map U8).length = 17 := by rw [List.length_cons, List.length_map, hx]
 have lb : (Bb t :: y.map U8).length = 17 := by rw [List.length_cons, List.length_map, hy]
 have fa := bflat s x
 have fb := bflat t y
 show Ia X 33 0 (fun r m => Are (.Ec [.agg (sgC (snG' a k1 (bytB s t x y g sn c) (bytE g) g)), .one (.i64 (snE' a k1 (bytE g)))]) [] (nrT r) m) _ _ _
 revert K
 generalize (fun r m => Are (.Ec [.agg (sgC (snG' a k1 (bytB s t x y g sn c) (bytE g) g)), .one (.i64 (snE' a k1 (bytE g)))]) [] (nrT r) m) = Q
 intro K
 generalize hb : bytE g = e at *
 generalize hgg : bytB s t x y g sn c = B at *
 obtain ⟨e1, e2, e3, e4, e5, e6, e7, ⟨a1, a2, a3, a4, a5, a6, a7, a8, a9, b1, b2, mc, sk⟩, dt⟩ := g
 obtain ⟨c0, c1, c2, c3, c4, c5, c6, c7, c8, c9, d0, d1, rfl⟩ := twelve hl
 have hI : IsSg [.u16 e1, .u16 e2, .u32 e3, .u32 e4, .u8 e5, .u16 e6, .u16 e7, .b a1, .u16 a2, .b a3, .u8 a4, .b a5, .xs (sakC sk) 0 sk.length, .b a6, .u32 a7, .u32 a8, .b a9, .u8 b1, .u8 b2, .u8 c0, .u8 c1, .u8 c2, .u8 c3, .u8 c4, .u8 c5, .u8 c6, .u8 c7, .u8 c8, .u8 c9, .u8 d0, .u8 d1, .xs (dt.map U8) 0 dt.length] := hI
 have hT : sgOf (nrL [.u16 e1, .u16 e2, .u32 e3, .u32 e4, .u8 e5, .u16 e6, .u16 e7, .b a1, .u16 a2, .b a3, .u8 a4, .b a5, .xs (sakC sk) 0 sk.length, .b a6, .u32 a7, .u32 a8, .b a9, .u8 b1, .u8 b2, .u8 c0, .u8 c1, .u8 c2, .u8 c3, .u8 c4, .u8 c5, .u8 c6, .u8 c7, .u8 c8, .u8 c9, .u8 d0, .u8 d1, .xs (dt.map U8) 0 dt.length]) = ⟨e1, e2, e3, e4, e5, e6, e7, ⟨a1, a2, a3, a4, a5, a6, a7, a8, a9, b1, b2, [c0, c1, c2, c3, c4, c5, c6, c7, c8, c9, d0, d1], sk⟩, dt⟩ := hO
 refine vc33 hX _ _ _ _ _ _ _ _ _ _ _ _ _ _ _ _ _ _ _ _ _ _ _ _ _ _ _ _ _ _ _ _ _ _ _ _ _ _ _ _ _ _ _ _ _ ?_
 simp only [List.drop_zero, ta, tb, sa, sb, Ua, Ja, hT, hgg, hb, List.length_map, la, lb, hx, hy]
 have fz : Flat [.u16 0, .u16 0, .u32 0, .u32 0, .u8 0, .u16 0, .u16 0, .b false, .u16 0, .b false, .u8 0, .b false, .ns, .b false, .u32 0, .u32 0, .b false, .u8 0, .u8 0, .u8 0, .u8 0, .u8 0, .u8 0, .u8 0, .u8 0, .u8 0, .u8 0, .u8 0, .u8 0, .u8 0, .u8 0, .ns] := Ib rfl
 (repeat' (first | exact trivial | exact fa | exact fb | exact hf | exact hI | exact fz | exact Aa _ | exact Ba _ | exact Ud _ | exact rfl | exact Nat.le_refl _ | exact ⟨K⟩ | refine And.intro ?_ ?_ | exact Ib rfl)) <;> omega
theorem s33s (a:Int) (k1 k2 : BO) (c s t : Bool) (x y : BO) (hx : x.length = 16) (hy : y.length = 16) (g : Sg) (hl : g.op.mac.length = 12) (sn:BitVec 32) (hk : k1.length ≤ 9223372036854775807) :
  Spec Try.prog 33 [.agg [.i64 a, .sv 0 0 k1.length, .sv 1 0 k2.length, .b c], .agg (.b s :: x.map U8), .agg (.b t :: y.map U8), .agg (sgC g), .one (.u32 sn)] [some (k1.map U8), some (k2.map U8)] (Are (.Ec [.agg (sgC (snG a k1 s t x y g sn c)), .one (.i64 (snE a k1 g))]) [some (k1.map U8), some (k2.map U8)]) := by
 refine Spec.out (Spec.of_run ok33 fun X hX => ?_)
 have hI := isSg_C hl
 have hO := sgOf_C hl
 have hf := sg_flat hl
 have hB := bytB_len s t hx hy g sn c
 have K := l33t hX a k1 k2 (bytB s t x y g sn c) c g hl hk hB (bytE g)
 have ta : take 16 (x.map U8) = x.map U8 := List.take_of_length_le (by rw [List.length_map]; omega)
 have tb : take 16 (y.map U8) = y.map U8 := List.take_of_length_le (by rw [List.length_map]; omega)
 have sa : take 17 (Bb s :: x.map U8) = Bb s :: x.map U8 := List.take_of_length_le (by rw [List.length_cons, List.length_map]; omega)
 have sb : take 17 (Bb t :: y.map U8) = Bb t :: y.map U8 := List.take_of_length_le (by rw [List.length_cons, List.length_map]; omega)
 have la : (Bb s :: x.map U8).length = 17 := by rw [List.length_cons, List.length_map, hx]
 have lb : (Bb t :: y.map U8).length = 17 := by rw [List.length_cons, List.length_map, hy]
 have fa := bflat s x
 have fb := bflat t y
 show Ia X 33 2 (fun r m => Are (.Ec [.agg (sgC (snG' a k1 (bytB s t x y g sn c) (bytE g) g)), .one (.i64 (snE' a k1 (bytE g)))]) [some (k1.map U8), some (k2.map U8)] (nrT r) m) _ _ _
 revert K
 generalize (fun r m => Are (.Ec [.agg (sgC (snG' a k1 (bytB s t x y g sn c) (bytE g) g)), .one (.i64 (snE' a k1 (bytE g)))]) [some (k1.map U8), some (k2.map U8)] (nrT r) m) = Q
 intro K
 generalize hb : bytE g = e at *
 generalize hgg : bytB s t x y g sn c = B at *
 obtain ⟨e1, e2, e3, e4, e5, e6, e7, ⟨a1, a2, a3, a4, a5, a6, a7, a8, a9, b1, b2, mc, sk⟩, dt⟩ := g
 obtain ⟨c0, c1, c2, c3, c4, c5, c6, c7, c8, c9, d0, d1, rfl⟩ := twelve hl
 have hI : IsSg [.u16 e1, .u16 e2, .u32 e3, .u32 e4, .u8 e5, .u16 e6, .u16 e7, .b a1, .u16 a2, .b a3, .u8 a4, .b a5, .xs (sakC sk) 0 sk.length, .b a6, .u32 a7, .u32 a8, .b a9, .u8 b1, .u8 b2, .u8 c0, .u8 c1, .u8 c2, .u8 c3, .u8 c4, .u8 c5, .u8 c6, .u8 c7, .u8 c8, .u8 c9, .u8 d0, .u8 d1, .xs (dt.map U8) 0 dt.length] := hI
 have hT : sgOf (nrL [.u16 e1, .u16 e2, .u32 e3, .u32 e4, .u8 e5, .u16 e6, .u16 e7, .b a1, .u16 a2, .b a3, .u8 a4, .b a5, .xs (sakC sk) 0 sk.length, .b a6, .u32 a7, .u32 a8, .b a9, .u8 b1, .u8 b2, .u8 c0, .u8 c1, .u8 c2, .u8 c3, .u8 c4, .u8 c5, .u8 c6, .u8 c7, .u8 c8, .u8 c9, .u8 d0, .u8 d1, .xs (dt.map U8) 0 dt.length]) = ⟨e1, e2, e3, e4, e5, e6, e7, ⟨a1, a2, a3, a4, a5, a6, a7, a8, a9, b1, b2, [c0, c1, c2, c3, c4, c5, c6, c7, c8, c9, d0, d1], sk⟩, dt⟩ := hO
 refine vc33s hX _ _ _ _ _ _ _ _ _ _ _ _ _ _ _ _ _ _ _ _ _ _ _ _ _ _ _ _ _ _ _ _ _ _ _ _ _ _ _ _ _ _ _ _ _ ?_
 simp only [List.drop_zero, ta, tb, sa, sb, Ua, Ja, hT, hgg, hb, List.length_map, la, lb, hx, hy]
 have fz : Flat [.u16 0, .u16 0, .u32 0, .u32 0, .u8 0, .u16 0, .u16 0, .b false, .u16 0, .b false, .u8 0, .b false, .ns, .b false, .u32 0, .u32 0, .b false, .u8 0, .u8 0, .u8 0, .u8 0, .u8 0, .u8 0, .u8 0, .u8 0, .u8 0, .u8 0, .u8 0, .u8 0, .u8 0, .u8 0, .ns] := Ib rfl
 (repeat' (first | exact trivial | exact fa | exact fb | exact hf | exact hI | exact fz | exact Aa _ | exact Ba _ | exact Ud _ | exact rfl | exact Nat.le_refl _ | exact ⟨K⟩ | refine And.intro ?_ ?_ | exact Ib rfl)) <;> omega
def vfE' (a:Int) (k2 B : BO) (e:Int) (g : Sg) : Int := if e ≠ 0 then e else if macE a k2 ≠ 0 then macE a k2 else if macB a k2 B = g.op.mac then 0 else 13
def vfE (a:Int) (k2 : BO) (s t : Bool) (x y : BO) (g : Sg) (sn:BitVec 32) (c : Bool) : Int := vfE' a k2 (bytB s t x y g sn c) (bytE g) g
theorem l90b {X : Ctx} (hX : X.P = Try.prog) (a:Int) (k1 k2 B : BO) (c : Bool) (g : Sg) (hl : g.op.mac.length = 12) (hk : k2.length ≤ 9223372036854775807) (hB : B.length ≤ 1000000) (e:Int) :
  Ia X 90 0 (Is (.one (.i64 (vfE' a k2 B e g)))) (Ub Try.f90 1) (mkS 47 [(5, .one (.ptr 0 0)), (8, .one (.ptr 1 0)), (11, .one (.gs 2 B.length 1)), (12, .one (.i64 e))]) [some [.i64 a, .xs (k1.map U8) 0 k1.length, .xs (k2.map U8) 0 k2.length, .b c], some (sgC g), some (B.map U8)] := by
 have hm := macB_len a k2 B
 have hml := mac_lit hm
 have hp : List.map asP [XS (B.map U8) 0 B.length] = [B] := by simp only [List.map_cons, List.map_nil, asP, Td, Ua]
 have hp2 : List.map encP [B] = [XS (B.map U8) 0 B.length] := rfl
 have hmx : ∀ i, mX a (k2.map U8) [.xs (B.map U8) 0 B.length] i = (macB a k2 B).getD i 0 := fun i => by
  unfold mX
  rw [Ua, hp, fl1]
 unfold vfE'
 have z1 : fitCs (replicate 12 (U8 0)) (g.op.mac.map U8) := fit12 hl
 have z2 : fitCs (replicate 12 (U8 0)) ((macB a k2 B).map U8) := fit12 hm
 have hsm : Ld ((macB a k2 B).map U8) (g.op.mac.map U8) = decide (macB a k2 B = g.op.mac) := same_u8 _ _
 have hlr : Qa (replicate 12 (U8 0)) 0 ((macB a k2 B).map U8) = (macB a k2 B).map U8 := Ae _ _ hm
 have htk : take 12 (drop 0 ((macB a k2 B).map U8)) = (macB a k2 B).map U8 := List.take_of_length_le (by rw [List.drop_zero, List.length_map]; omega)
 obtain ⟨e1, e2, e3, e4, e5, e6, e7, ⟨a1, a2, a3, a4, a5, a6, a7, a8, a9, b1, b2, mc, sk⟩, dt⟩ := g
 dsimp only at hl z1 hsm ⊢
 generalize hd : decide (macB a k2 B = mc) = D at hsm
 obtain ⟨c0, c1, c2, c3, c4, c5, c6, c7, c8, c9, d0, d1, rfl⟩ := twelve hl
 refine vc90b hX _ _ _ _ _ _ _ _ _ _ _ _ _ _ _ _ _ _ _ _ _ _ _ _ _ _ _ _ _ _ _ _ _ _ _ _ _ _ _ _ _ _ _ ⟨fun h => ?_, fun h => ?_⟩
 ·have h := of_decide_eq_false (bnt h)
  rw [if_pos h]
  exact ⟨rfl, rfl⟩
 ·have h := of_decide_eq_true (bnf h)
  subst h
  rw [if_neg (show ¬ ((0:Int) ≠ 0) from fun h => h rfl), tk k2, tk B, Ua, hp, hp2]
  simp only [hmx]
  rw [← hml, hlr, htk]
  have hmc : take 12 (drop 19 [.u16 e1, .u16 e2, .u32 e3, .u32 e4, .u8 e5, .u16 e6, .u16 e7, .b a1, .u16 a2, .b a3, .u8 a4, .b a5, .xs (sakC sk) 0 sk.length, .b a6, .u32 a7, .u32 a8, .b a9, .u8 b1, .u8 b2, .u8 c0, .u8 c1, .u8 c2, .u8 c3, .u8 c4, .u8 c5, .u8 c6, .u8 c7, .u8 c8, .u8 c9, .u8 d0, .u8 d1, .xs (dt.map U8) 0 dt.length]) = [c0, c1, c2, c3, c4, c5, c6, c7, c8, c9, d0, d1].map U8 := rfl
  rw [hmc, hsm]
  clear hml hlr htk hmx
  (repeat' (first | exact trivial | exact z1 | exact z2 | exact Aa _ | exact Ba _ | exact rfl | exact Nat.le_refl _ | refine And.intro ?_ ?_)) <;> first | omega | exact List.length_map _ | (rw [List.length_map]; omega) | intro h
  ·have h := of_decide_eq_false (bnt h)
   rw [if_pos h]
   exact ⟨rfl, rfl⟩
  ·have h := of_decide_eq_true (bnf h)
   rw [if_neg (fun g => g h)]
   cases D with
   | true =>
    rw [if_pos (of_decide_eq_true hd)]
    (repeat' (first | exact trivial | exact z1 | exact z2 | exact rfl | exact Nat.le_refl _ | refine And.intro ?_ ?_)) <;> first | omega | (intro h; first | (cases h; done) | exact ⟨rfl, rfl⟩ | exact rfl)
   | false =>
    rw [if_neg (of_decide_eq_false hd)]
    (repeat' (first | exact trivial | exact z1 | exact z2 | exact rfl | exact Nat.le_refl _ | refine And.intro ?_ ?_)) <;> first | omega | (intro h; first | (cases h; done) | exact ⟨rfl, rfl⟩ | exact rfl)
theorem s90 (a:Int) (k1 k2 : BO) (c s t : Bool) (x y : BO) (hx : x.length = 16) (hy : y.length = 16) (g : Sg) (hl : g.op.mac.length = 12) (sn:BitVec 32) (hk : k2.length ≤ 9223372036854775807) :
  Spec Try.prog 90 [.agg [.i64 a, .xs (k1.map U8) 0 k1.length, .xs (k2.map U8) 0 k2.length, .b c], .agg (.b s :: x.map U8), .agg (.b t :: y.map U8), .agg (sgC g), .one (.u32 sn)] [] (Is (.one (.i64 (vfE a k2 s t x y g sn c)))) := by
 refine (Spec.of_run ok90 fun X hX => ?_)
 have hI := isSg_C hl
 have hO := sgOf_C hl
 have hf := sg_flat hl
 have hB := bytB_len s t hx hy g sn c
 have K := l90b hX a k1 k2 (bytB s t x y g sn c) c g hl hk hB (bytE g)
 have ta : take 16 (x.map U8) = x.map U8 := List.take_of_length_le (by rw [List.length_map]; omega)
 have tb : take 16 (y.map U8) = y.map U8 := List.take_of_length_le (by rw [List.length_map]; omega)
 have sa : take 17 (Bb s :: x.map U8) = Bb s :: x.map U8 := List.take_of_length_le (by rw [List.length_cons, List.length_map]; omega)
 have sb : take 17 (Bb t :: y.map U8) = Bb t :: y.map U8 := List.take_of_length_le (by rw [List.length_cons, List.length_map]; omega)
 have la : (Bb s :: x.map U8).length = 17 := by rw [List.length_cons, List.length_map, hx]
 have lb : (Bb t :: y.map U8).length = 17 := by rw [List.length_cons, List.length_map, hy]
 have fa := bflat s x
 have fb := bflat t y
 show Ia X 90 0 (Is (.one (.i64 (vfE' a k2 (bytB s t x y g sn c) (bytE g) g)))) _ _ _
 revert K
 generalize (Is (.one (.i64 (vfE' a k2 (bytB s t x y g sn c) (bytE g) g)))) = Q
 intro K
 generalize hb : bytE g = e at *
 generalize hgg : bytB s t x y g sn c = B at *
 obtain ⟨e1, e2, e3, e4, e5, e6, e7, ⟨a1, a2, a3, a4, a5, a6, a7, a8, a9, b1, b2, mc, sk⟩, dt⟩ := g
 obtain ⟨c0, c1, c2, c3, c4, c5, c6, c7, c8, c9, d0, d1, rfl⟩ := twelve hl
 have hI : IsSg [.u16 e1, .u16 e2, .u32 e3, .u32 e4, .u8 e5, .u16 e6, .u16 e7, .b a1, .u16 a2, .b a3, .u8 a4, .b a5, .xs (sakC sk) 0 sk.length, .b a6, .u32 a7, .u32 a8, .b a9, .u8 b1, .u8 b2, .u8 c0, .u8 c1, .u8 c2, .u8 c3, .u8 c4, .u8 c5, .u8 c6, .u8 c7, .u8 c8, .u8 c9, .u8 d0, .u8 d1, .xs (dt.map U8) 0 dt.length] := hI
 have hT : sgOf (nrL [.u16 e1, .u16 e2, .u32 e3, .u32 e4, .u8 e5, .u16 e6, .u16 e7, .b a1, .u16 a2, .b a3, .u8 a4, .b a5, .xs (sakC sk) 0 sk.length, .b a6, .u32 a7, .u32 a8, .b a9, .u8 b1, .u8 b2, .u8 c0, .u8 c1, .u8 c2, .u8 c3, .u8 c4, .u8 c5, .u8 c6, .u8 c7, .u8 c8, .u8 c9, .u8 d0, .u8 d1, .xs (dt.map U8) 0 dt.length]) = ⟨e1, e2, e3, e4, e5, e6, e7, ⟨a1, a2, a3, a4, a5, a6, a7, a8, a9, b1, b2, [c0, c1, c2, c3, c4, c5, c6, c7, c8, c9, d0, d1], sk⟩, dt⟩ := hO
 refine vc90 hX _ _ _ _ _ _ _ _ _ _ _ _ _ _ _ _ _ _ _ _ _ _ _ _ _ _ _ _ _ _ _ _ _ _ _ _ _ _ _ _ _ _ _ _ _ ?_
 simp only [List.drop_zero, ta, tb, sa, sb, Ua, Ja, hT, hgg, hb, List.length_map, la, lb, hx, hy]
 have fz : Flat [.u16 0, .u16 0, .u32 0, .u32 0, .u8 0, .u16 0, .u16 0, .b false, .u16 0, .b false, .u8 0, .b false, .ns, .b false, .u32 0, .u32 0, .b false, .u8 0, .u8 0, .u8 0, .u8 0, .u8 0, .u8 0, .u8 0, .u8 0, .u8 0, .u8 0, .u8 0, .u8 0, .u8 0, .u8 0, .ns] := Ib rfl
 (repeat' (first | exact trivial | exact fa | exact fb | exact hf | exact hI | exact fz | exact Aa _ | exact Ba _ | exact Ud _ | exact rfl | exact Nat.le_refl _ | exact ⟨K⟩ | refine And.intro ?_ ?_ | exact Ib rfl)) <;> omega
end DH
