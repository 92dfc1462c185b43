/- Walks of functions, each by evaluation: what each returns; with the layer beneath. -/
import Derived.Test.YtdnggeocdocomaaJB
import Derived.Test.YtdnggeocdocomaaLC
import Derived.Test.YtdnggeocdocomaaJA
set_option linter.unusedVariables false
set_option linter.unusedSimpArgs false
noncomputable section
namespace DH
set_option maxRecDepth 100000
open List (take drop replicate)
open AC renaming u8 → U8, u16 → Va, u32 → Fa, u64 → Nc, i64 → I64, b → Bb, xs → XS, gs → GS, sv → SV, ptr → PT, any → AY, ns → NS
open AV renaming one → O1, agg → AG, Ec → TU
open Go Go.Proofs
def WJC0 : WC := ⟨baseK T13 mf13 M13,baseK_ok T13 mf13 M13,baseK_call T13_ok M13_ok⟩
theorem vc53e {X} {Q : QT} (hX : PX X) (ks bs : List AC) (h : Flat ks/\Flat bs/\Flat (replicate 176 (U8 0))/\Flat (replicate 176 (U8 0))/\KR X 53 0 Q (Fb Try.f53 0) (mkS 113 [(2,O1 (PT 0 0)),(3,O1 (PT 1 0)),(4,O1 (PT 2 0)),(5,O1 (PT 3 0)),(6,O1 (U8 (BitVec.ofInt 8 1))),(7,O1 (I64 (0:Int)))]) [some ks,some bs,some (replicate 176 (U8 0)),some (replicate 176 (U8 0))]) : Ia X 53 0 Q ([.code (Na Try.f53)]) (slots [.agg ks,.agg bs] Try.f53.ntmps) [] :=
 wR' hX WJC0 ok53 [13,17,21,34,74,78,91,95] [(10,10),(12,21),(13,17),(15,8),(24,14)] false (CS.mk [] [] [0] []) true [(4,LS.mk [2,3,4,5,6,7] (CS.mk [] [true,true,true,true] [] [])),(7,LS.mk [2,3,4,5,6,7,8] (CS.mk [] [true,true,true,true] [] [])),(19,LS.mk [4,5,9,10] (CS.mk [] [true,true,true] [] [])),(22,LS.mk [4,5,9,10,11] (CS.mk [] [true,true,true] [] []))] 2000 h (by kernel_rfl)
theorem vc53a {X} {Q : QT} (hX : PX X) (ks bs zs ws : List AC) (p:BitVec 8) (i:Int) (h : (decide (i<(44:Int))=true->Flat ks/\Flat bs/\Flat zs/\Flat ws/\KR X 53 0 Q (Fb Try.f53 1) (mkS 113 [(2,O1 (PT 0 0)),(3,O1 (PT 1 0)),(4,O1 (PT 2 0)),(5,O1 (PT 3 0)),(6,O1 (U8 p)),(7,O1 (I64 i)),(8,O1 (I64 (0:Int)))]) [some ks,some bs,some zs,some ws])/\(decide (i<(44:Int))=false->Flat zs/\Flat ws/\Flat (replicate 176 (U8 0))/\KR X 53 0 Q (Fb Try.f53 2) (mkS 113 [(4,O1 (PT 0 0)),(5,O1 (PT 1 0)),(9,O1 (PT 2 0)),(10,O1 (I64 (0:Int)))]) [some zs,some ws,some (replicate 176 (U8 0))])) : Ia X 53 0 Q (Fb Try.f53 0) (mkS 113 [(2,.one (.ptr 0 0)),(3,.one (.ptr 1 0)),(4,.one (.ptr 2 0)),(5,.one (.ptr 3 0)),(6,.one (.u8 p)),(7,.one (.i64 i))]) [some ks,some bs,some zs,some ws] :=
 wR' hX WJC0 ok53 [13,17,21,34,74,78,91,95] [(10,10),(12,21),(13,17),(15,8),(24,14)] false (CS.mk [] [] [0] []) true [(4,LS.mk [2,3,4,5,6,7] (CS.mk [] [true,true,true,true] [] [])),(7,LS.mk [2,3,4,5,6,7,8] (CS.mk [] [true,true,true,true] [] [])),(19,LS.mk [4,5,9,10] (CS.mk [] [true,true,true] [] [])),(22,LS.mk [4,5,9,10,11] (CS.mk [] [true,true,true] [] []))] 2000 h (by kernel_rfl)
theorem vc53b {X} {Q : QT} (hX : PX X) (ks bs zs ws : List AC) (p:BitVec 8) (i k:Int) (h : (fun D6 : Nat=>(fun D5 : BitVec 8=>(fun D4 : Nat=>(fun D3 : Nat=>(fun D2 : Nat=>(fun D1 : Nat=>(fun D0 : Nat=>(fun L0 : Prop=>(decide (k<(4:Int))=true->(decide (i<(4:Int))=true->La ((4:Int)*i)/\La ((4:Int)*i+k)/\((0:Int)<=(4:Int)*i+k/\(4:Int)*i+k<(↑16:Int))/\gt AY ks (0+Int.toNat ((4:Int)*i+k)*1)=U8 D5/\((0:Int)<=i/\i<(↑44:Int))/\((0:Int)<=k/\k<(↑4:Int))/\(1=1/\0+Int.toNat i*4+Int.toNat k*1+1<=List.length ws)/\La (k+(1:Int))/\Flat ks/\Flat bs/\Flat zs/\Flat (Qa ws D2 [U8 D5])/\KR X 53 0 Q (Fb Try.f53 1) (mkS 113 [(2,O1 (PT 0 0)),(3,O1 (PT 1 0)),(4,O1 (PT 2 0)),(5,O1 (PT 3 0)),(6,O1 (U8 p)),(7,O1 (I64 i)),(8,O1 (I64 (k+(1:Int))))]) [some ks,some bs,some zs,some (Qa ws D2 [U8 D5])])/\(decide (i<(4:Int))=false->(4:Int) ≠ (0:Int)/\(decide (Int.tmod i (4:Int)=(0:Int))=true->La (i - (4:Int))/\((0:Int)<=i - (4:Int)/\i - (4:Int)<(↑44:Int))/\((0:Int)<=k/\k<(↑4:Int))/\gt AY ws D1=U8 (Ea (gt AY ws D1))/\La (i - (1:Int))/\La (k+(1:Int))/\(4:Int) ≠ (0:Int)/\((0:Int)<=i - (1:Int)/\i - (1:Int)<(↑44:Int))/\((0:Int)<=Int.tmod (k+(1:Int)) (4:Int)/\Int.tmod (k+(1:Int)) (4:Int)<(↑4:Int))/\gt AY ws D3=U8 (Ea (gt AY ws D3))/\gt AY bs D0=U8 (Ea (gt AY bs D0))/\((0:Int)<=i/\i<(↑44:Int))/\((0:Int)<=k/\k<(↑4:Int))/\(1=1/\0+Int.toNat i*4+Int.toNat k*1+1<=List.length ws)/\La (k+(1:Int))/\Flat ks/\Flat bs/\Flat zs/\Flat (Qa ws D2 [U8 (Ea (gt AY ws D1)^^^Ea (gt AY bs D0))])/\KR X 53 0 Q (Fb Try.f53 1) (mkS 113 [(2,O1 (PT 0 0)),(3,O1 (PT 1 0)),(4,O1 (PT 2 0)),(5,O1 (PT 3 0)),(6,O1 (U8 p)),(7,O1 (I64 i)),(8,O1 (I64 (k+(1:Int))))]) [some ks,some bs,some zs,some (Qa ws D2 [U8 (Ea (gt AY ws D1)^^^Ea (gt AY bs D0))])])/\(decide (Int.tmod i (4:Int)=(0:Int))=false->La (i - (4:Int))/\((0:Int)<=i - (4:Int)/\i - (4:Int)<(↑44:Int))/\((0:Int)<=k/\k<(↑4:Int))/\gt AY ws D1=U8 (Ea (gt AY ws D1))/\La (i - (1:Int))/\((0:Int)<=i - (1:Int)/\i - (1:Int)<(↑44:Int))/\((0:Int)<=k/\k<(↑4:Int))/\gt AY ws D4=U8 (Ea (gt AY ws D4))/\((0:Int)<=i/\i<(↑44:Int))/\((0:Int)<=k/\k<(↑4:Int))/\(1=1/\0+Int.toNat i*4+Int.toNat k*1+1<=List.length ws)/\La (k+(1:Int))/\Flat ks/\Flat bs/\Flat zs/\Flat (Qa ws D2 [U8 (Ea (gt AY ws D1)^^^Ea (gt AY ws D4))])/\KR X 53 0 Q (Fb Try.f53 1) (mkS 113 [(2,O1 (PT 0 0)),(3,O1 (PT 1 0)),(4,O1 (PT 2 0)),(5,O1 (PT 3 0)),(6,O1 (U8 p)),(7,O1 (I64 i)),(8,O1 (I64 (k+(1:Int))))]) [some ks,some bs,some zs,some (Qa ws D2 [U8 (Ea (gt AY ws D1)^^^Ea (gt AY ws D4))])])))/\(decide (k<(4:Int))=false->(decide ((4:Int)<=i)=true->(4:Int) ≠ (0:Int)/\(decide (Int.tmod i (4:Int)=(0:Int))=true->((0:Int)<=i/\i<(↑44:Int))/\((0:Int)<=(0:Int)/\(0:Int)<(↑4:Int))/\gt AY ws D6=U8 (Ea (gt AY ws D6))/\((0:Int)<=i/\i<(↑44:Int))/\((0:Int)<=(0:Int)/\(0:Int)<(↑4:Int))/\(1=1/\0+Int.toNat i*4+0+1<=List.length ws)/\La (i+(1:Int))/\Flat ks/\Flat bs/\Flat zs/\Flat (Qa ws D6 [U8 (Ea (gt AY ws D6)^^^p)])/\KR X 53 0 Q (Fb Try.f53 0) (mkS 113 [(2,O1 (PT 0 0)),(3,O1 (PT 1 0)),(4,O1 (PT 2 0)),(5,O1 (PT 3 0)),(6,O1 (U8 (tmF p (BitVec.ofInt 8 2)))),(7,O1 (I64 (i+(1:Int))))]) [some ks,some bs,some zs,some (Qa ws D6 [U8 (Ea (gt AY ws D6)^^^p)])])/\(decide (Int.tmod i (4:Int)=(0:Int))=false->L0))/\(decide ((4:Int)<=i)=false->L0))) (La (i+(1:Int))/\Flat ks/\Flat bs/\Flat zs/\Flat ws/\KR X 53 0 Q (Fb Try.f53 0) (mkS 113 [(2,O1 (PT 0 0)),(3,O1 (PT 1 0)),(4,O1 (PT 2 0)),(5,O1 (PT 3 0)),(6,O1 (U8 p)),(7,O1 (I64 (i+(1:Int))))]) [some ks,some bs,some zs,some ws])) (0+Int.toNat (↑(BitVec.toNat (Ea (gt AY ws D3))):Int)*1)) (0+Int.toNat (i - (4:Int))*4+Int.toNat k*1)) (0+Int.toNat i*4+Int.toNat k*1)) (0+Int.toNat (i - (1:Int))*4+Int.toNat (Int.tmod (k+(1:Int)) (4:Int))*1)) (0+Int.toNat (i - (1:Int))*4+Int.toNat k*1)) (Ea (gt AY ks (0+Int.toNat ((4:Int)*i+k)*1)))) (0+Int.toNat i*4+0)) : Ia X 53 0 Q (Fb Try.f53 1) (mkS 113 [(2,.one (.ptr 0 0)),(3,.one (.ptr 1 0)),(4,.one (.ptr 2 0)),(5,.one (.ptr 3 0)),(6,.one (.u8 p)),(7,.one (.i64 i)),(8,.one (.i64 k))]) [some ks,some bs,some zs,some ws] :=
 wR' hX WJC0 ok53 [13,17,21,34,74,78,91,95] [(10,10),(12,21),(13,17),(15,8),(24,14)] false (CS.mk [] [] [0] []) true [(4,LS.mk [2,3,4,5,6,7] (CS.mk [] [true,true,true,true] [] [])),(7,LS.mk [2,3,4,5,6,7,8] (CS.mk [] [true,true,true,true] [] [])),(19,LS.mk [4,5,9,10] (CS.mk [] [true,true,true] [] [])),(22,LS.mk [4,5,9,10,11] (CS.mk [] [true,true,true] [] []))] 2000 h (by kernel_rfl)
theorem vc53c {X} {Q : QT} (hX : PX X) (zs ws os : List AC) (i:Int) (h : (fun D0 : List AC=>(decide (i<(44:Int))=true->Flat zs/\Flat ws/\Flat os/\KR X 53 0 Q (Fb Try.f53 3) (mkS 113 [(4,O1 (PT 0 0)),(5,O1 (PT 1 0)),(9,O1 (PT 2 0)),(10,O1 (I64 i)),(11,O1 (I64 (0:Int)))]) [some zs,some ws,some os])/\(decide (i<(44:Int))=false->176<=List.length os/\(List.length (take 176 (drop 0 os))=176/\176<=List.length zs)/\176<=List.length D0/\Za (AG (take 176 (drop 0 D0)))/\Q (AG (take 176 (drop 0 D0))) [])) (Qa zs 0 (take 176 (drop 0 os)))) : Ia X 53 0 Q (Fb Try.f53 2) (mkS 113 [(4,.one (.ptr 0 0)),(5,.one (.ptr 1 0)),(9,.one (.ptr 2 0)),(10,.one (.i64 i))]) [some zs,some ws,some os] :=
 wR' hX WJC0 ok53 [13,17,21,34,74,78,91,95] [(10,10),(12,21),(13,17),(15,8),(24,14)] false (CS.mk [] [] [0] []) true [(4,LS.mk [2,3,4,5,6,7] (CS.mk [] [true,true,true,true] [] [])),(7,LS.mk [2,3,4,5,6,7,8] (CS.mk [] [true,true,true,true] [] [])),(19,LS.mk [4,5,9,10] (CS.mk [] [true,true,true] [] [])),(22,LS.mk [4,5,9,10,11] (CS.mk [] [true,true,true] [] []))] 2000 h (by kernel_rfl)
theorem vc53d {X} {Q : QT} (hX : PX X) (zs ws os : List AC) (i k:Int) (h : (fun D2 : Int=>(fun D1 : Nat=>(fun D0 : List AC=>(decide (k<(4:Int))=true->((4:Int) ≠ (0:Int)/\La (Int.tdiv i (4:Int)))/\(4:Int) ≠ (0:Int)/\La (Int.tmod i (4:Int)*(4:Int))/\La D2/\((0:Int)<=i/\i<(↑44:Int))/\((0:Int)<=k/\k<(↑4:Int))/\gt AY ws D1=U8 (Ea (gt AY ws D1))/\((0:Int)<=Int.tdiv i (4:Int)/\Int.tdiv i (4:Int)<(↑11:Int))/\((0:Int)<=Int.tmod i (4:Int)*(4:Int)+k/\Int.tmod i (4:Int)*(4:Int)+k<(↑16:Int))/\(1=1/\0+Int.toNat (Int.tdiv i (4:Int))*16+Int.toNat D2*1+1<=List.length os)/\La (k+(1:Int))/\Flat zs/\Flat ws/\Flat D0/\KR X 53 0 Q (Fb Try.f53 3) (mkS 113 [(4,O1 (PT 0 0)),(5,O1 (PT 1 0)),(9,O1 (PT 2 0)),(10,O1 (I64 i)),(11,O1 (I64 (k+(1:Int))))]) [some zs,some ws,some D0])/\(decide (k<(4:Int))=false->La (i+(1:Int))/\Flat zs/\Flat ws/\Flat os/\KR X 53 0 Q (Fb Try.f53 2) (mkS 113 [(4,O1 (PT 0 0)),(5,O1 (PT 1 0)),(9,O1 (PT 2 0)),(10,O1 (I64 (i+(1:Int))))]) [some zs,some ws,some os])) (Qa os (0+Int.toNat (Int.tdiv i (4:Int))*16+Int.toNat D2*1) [U8 (Ea (gt AY ws D1))])) (0+Int.toNat i*4+Int.toNat k*1)) (Int.tmod i (4:Int)*(4:Int)+k)) : Ia X 53 0 Q (Fb Try.f53 3) (mkS 113 [(4,.one (.ptr 0 0)),(5,.one (.ptr 1 0)),(9,.one (.ptr 2 0)),(10,.one (.i64 i)),(11,.one (.i64 k))]) [some zs,some ws,some os] :=
 wR' hX WJC0 ok53 [13,17,21,34,74,78,91,95] [(10,10),(12,21),(13,17),(15,8),(24,14)] false (CS.mk [] [] [0] []) true [(4,LS.mk [2,3,4,5,6,7] (CS.mk [] [true,true,true,true] [] [])),(7,LS.mk [2,3,4,5,6,7,8] (CS.mk [] [true,true,true,true] [] [])),(19,LS.mk [4,5,9,10] (CS.mk [] [true,true,true] [] [])),(22,LS.mk [4,5,9,10,11] (CS.mk [] [true,true,true] [] []))] 2000 h (by kernel_rfl)
theorem o53 (i k:Nat) : 0 + Int.toNat (i:Int) * 4 + Int.toNat (k:Int) * 1 = 4 * i + k := by omega
theorem SE_at (key : List (BitVec 8)) {m j : Nat} (h : j < m) (hm : m ≤ 176) : gt AY ((SE key m).map U8) j = .u8 (eat key j) := by
 rw [Cb _ _ (by rw [SE_len]; omega), SE_get key h hm]
theorem l53A {X : Ctx} (hX : X.P = Try.prog) (key : List (BitVec 8)) (hk : key.length = 16) (i:Nat) (hi : i < 4) (K : Ia X 53 0 (Is (.agg ((Zd key 176).map U8))) (Fb Try.f53 0) (mkS 113 [(2, .one (.ptr 0 0)), (3, .one (.ptr 1 0)), (4, .one (.ptr 2 0)), (5, .one (.ptr 3 0)), (6, .one (.u8 (pwF (i / 4)))), (7, .one (.i64 (i + 1:Nat)))]) [some (key.map U8), some (Vd.map U8), some (replicate 176 (U8 0)), some ((SE key (4 * i + 4)).map U8)]) : ∀ (d k:Nat), k + d = 4 →
  Ia X 53 0 (Is (.agg ((Zd key 176).map U8))) (Fb Try.f53 1) (mkS 113 [(2, .one (.ptr 0 0)), (3, .one (.ptr 1 0)), (4, .one (.ptr 2 0)), (5, .one (.ptr 3 0)), (6, .one (.u8 (pwF ((i - 1) / 4)))), (7, .one (.i64 i)), (8, .one (.i64 k))]) [some (key.map U8), some (Vd.map U8), some (replicate 176 (U8 0)), some ((SE key (4 * i + k)).map U8)] := by
 have z : Flat (replicate 176 (U8 0)) := by rw [Jd]; exact Aa _
 intro d
 induction d with
 | zero =>
  intro k hkd
  have hkd : k = 4 := by omega
  subst hkd
  rw [show i / 4 = (i - 1) / 4 by omega] at K
  refine vc53b hX _ _ _ _ _ _ _ ⟨fun h => absurd (of_decide_eq_true h) (by omega), fun _ => ⟨fun h => absurd (of_decide_eq_true h) (by omega), fun _ => ?_⟩⟩
  (repeat' (first | exact trivial | exact Aa _ | exact Ya _ | exact Ba _ | exact Nat.le_refl _ | refine And.intro ?_ ?_)) <;> (first | omega | exact z | (unfold La; omega) | exact List.length_map _ | (show Is _ _ _; exact rfl) | skip)
  exact ⟨K⟩
 | succ d ih =>
  intro k hkd
  have ih := ih (k + 1) (by omega)
  have e1 : (4:Int) * (i:Int) + (k:Int) = ((4 * i + k:Nat):Int) := by omega
  have hg := Cb key (4 * i + k) (by omega)
  rw [← eat_lo key (by omega)] at hg
  have hs := SE_set key (m := 4 * i + k) (by omega)
  have hl := SE_len key (4 * i + k)
  refine vc53b hX _ _ _ _ _ _ _ ⟨fun _ => ⟨fun _ => ?_, fun h => absurd (of_decide_eq_false h) (by omega)⟩, fun h => absurd (of_decide_eq_false h) (by omega)⟩
  try dsimp only
  rw [e1]
  simp only [ixn, o53, hg, Ea, Xd, hs, List.length_map, hl]
  (repeat' (first | exact trivial | exact Aa _ | exact Ya _ | exact Ba _ | exact Nat.le_refl _ | refine And.intro ?_ ?_)) <;> (first | omega | exact z | (unfold La; omega) | exact List.length_map _ | (show Is _ _ _; exact rfl) | skip)
  exact ⟨ih⟩
theorem l53C {X : Ctx} (hX : X.P = Try.prog) (key : List (BitVec 8)) (n r i:Nat) (hi : i = 4 * (n + 1) + r) (hr : 1 ≤ r ∧ r < 4) (h44 : i < 44) (K : Ia X 53 0 (Is (.agg ((Zd key 176).map U8))) (Fb Try.f53 0) (mkS 113 [(2, .one (.ptr 0 0)), (3, .one (.ptr 1 0)), (4, .one (.ptr 2 0)), (5, .one (.ptr 3 0)), (6, .one (.u8 (pwF (i / 4)))), (7, .one (.i64 (i + 1:Nat)))]) [some (key.map U8), some (Vd.map U8), some (replicate 176 (U8 0)), some ((SE key (4 * i + 4)).map U8)]) : ∀ (d k:Nat), k + d = 4 →
  Ia X 53 0 (Is (.agg ((Zd key 176).map U8))) (Fb Try.f53 1) (mkS 113 [(2, .one (.ptr 0 0)), (3, .one (.ptr 1 0)), (4, .one (.ptr 2 0)), (5, .one (.ptr 3 0)), (6, .one (.u8 (pwF ((i - 1) / 4)))), (7, .one (.i64 i)), (8, .one (.i64 k))]) [some (key.map U8), some (Vd.map U8), some (replicate 176 (U8 0)), some ((SE key (4 * i + k)).map U8)] := by
 have z : Flat (replicate 176 (U8 0)) := by rw [Jd]; exact Aa _
 have tm : Int.tmod (i:Int) 4 = ((i % 4:Nat):Int) := tmod_nat i 4
 intro d
 induction d with
 | zero =>
  intro k hkd
  have hkd : k = 4 := by omega
  subst hkd
  rw [show i / 4 = (i - 1) / 4 by omega] at K
  refine vc53b hX _ _ _ _ _ _ _ ⟨fun h => absurd (of_decide_eq_true h) (by omega), fun _ => ⟨fun _ => ⟨by decide, fun h => absurd (of_decide_eq_true h) (by rw [tm]; omega), fun _ => ?_⟩, fun h => absurd (of_decide_eq_false h) (by omega)⟩⟩
  (repeat' (first | exact trivial | exact Aa _ | exact Ya _ | exact Ba _ | exact Nat.le_refl _ | refine And.intro ?_ ?_)) <;> (first | omega | exact z | (unfold La; omega) | exact List.length_map _ | (show Is _ _ _; exact rfl) | skip)
  exact ⟨K⟩
 | succ d ih =>
  intro k hkd
  have ih := ih (k + 1) (by omega)
  have e4 : (i:Int) - 4 = ((i - 4:Nat):Int) := by omega
  have e1 : (i:Int) - 1 = ((i - 1:Nat):Int) := by omega
  have hg := SE_at key (m := 4 * i + k) (j := 4 * (i - 4) + k) (by omega) (by omega)
  have hg2 := SE_at key (m := 4 * i + k) (j := 4 * (i - 1) + k) (by omega) (by omega)
  have ev := eat_hi key (n := n + 1) (k := 4 * r + k) (by omega) (by omega) (by omega)
  rw [show 16 * (n + 1) + (4 * r + k) = 4 * i + k by omega, show 16 * (n + 1 - 1) + (4 * r + k) = 4 * (i - 4) + k by omega, show 16 * (n + 1) + (4 * r + k - 4) = 4 * (i - 1) + k by omega] at ev
  have hs := SE_set key (m := 4 * i + k) (by omega)
  have hl := SE_len key (4 * i + k)
  refine vc53b hX _ _ _ _ _ _ _ ⟨fun _ => ⟨fun h => absurd (of_decide_eq_true h) (by omega), fun _ => ⟨by decide, fun h => absurd (of_decide_eq_true h) (by rw [tm]; omega), fun _ => ?_⟩⟩, fun h => absurd (of_decide_eq_false h) (by omega)⟩
  try dsimp only
  rw [e4, e1]
  simp only [o53, hg, hg2, Ea]
  rw [← ev]
  simp only [Xd, hs, List.length_map, hl]
  (repeat' (first | exact trivial | exact Aa _ | exact Ya _ | exact Ba _ | exact Nat.le_refl _ | refine And.intro ?_ ?_)) <;> (first | omega | exact z | (unfold La; omega) | exact List.length_map _ | (show Is _ _ _; exact rfl) | skip)
  exact ⟨ih⟩
theorem SX_gt (key : List (BitVec 8)) {a m j : Nat} (x:BitVec 8) (h : j < a) (ha : a < m) (hm : m ≤ 176) : gt AY ((SX key a x m).map U8) j = .u8 (eat key j) := by
 rw [Cb _ _ (by rw [SX_len]; omega)]
 unfold SX
 rw [getT_new _ _ _ (by rw [List.length_set, Jc]; exact hm) (by omega), getD_set_ne _ _ _ _ _ (by omega), E_get key (by omega)]
theorem SX_gta (key : List (BitVec 8)) {a m : Nat} (x:BitVec 8) (ha : a < m) (hm : m ≤ 176) : gt AY ((SX key a x m).map U8) a = .u8 x := by
 rw [Cb _ _ (by rw [SX_len]; omega), SX_at key x ha hm]
theorem l53B {X : Ctx} (hX : X.P = Try.prog) (key : List (BitVec 8)) (n i:Nat) (hi : i = 4 * (n + 1)) (h44 : i < 44) (K : Ia X 53 0 (Is (.agg ((Zd key 176).map U8))) (Fb Try.f53 0) (mkS 113 [(2, .one (.ptr 0 0)), (3, .one (.ptr 1 0)), (4, .one (.ptr 2 0)), (5, .one (.ptr 3 0)), (6, .one (.u8 (pwF (i / 4)))), (7, .one (.i64 (i + 1:Nat)))]) [some (key.map U8), some (Vd.map U8), some (replicate 176 (U8 0)), some ((SE key (4 * i + 4)).map U8)]) : ∀ (d k:Nat), k + 1 + d = 4 →
  Ia X 53 0 (Is (.agg ((Zd key 176).map U8))) (Fb Try.f53 1) (mkS 113 [(2, .one (.ptr 0 0)), (3, .one (.ptr 1 0)), (4, .one (.ptr 2 0)), (5, .one (.ptr 3 0)), (6, .one (.u8 (pwF ((i - 1) / 4)))), (7, .one (.i64 i)), (8, .one (.i64 (k + 1:Nat)))]) [some (key.map U8), some (Vd.map U8), some (replicate 176 (U8 0)), some ((SX key (4 * i) (eat key (4 * i) ^^^ pwF ((i - 1) / 4)) (4 * i + (k + 1))).map U8)] := by
 have z : Flat (replicate 176 (U8 0)) := by rw [Jd]; exact Aa _
 have tm : Int.tmod (i:Int) 4 = ((i % 4:Nat):Int) := tmod_nat i 4
 have hp : (i - 1) / 4 = n := by omega
 intro d
 induction d with
 | zero =>
  intro k hkd
  have hkd : k = 3 := by omega
  subst hkd
  have hg := SX_gta key (a := 4 * i) (m := 4 * i + (3 + 1)) (eat key (4 * i) ^^^ pwF ((i - 1) / 4)) (by omega) (by omega)
  have hb := SX_back key (a := 4 * i) (m := 4 * i + (3 + 1)) (eat key (4 * i) ^^^ pwF ((i - 1) / 4)) (by omega) (by omega)
  have hl := SX_len key (4 * i) (eat key (4 * i) ^^^ pwF ((i - 1) / 4)) (4 * i + (3 + 1))
  have ex : eat key (4 * i) ^^^ pwF ((i - 1) / 4) ^^^ pwF ((i - 1) / 4) = eat key (4 * i) := by rw [BitVec.xor_assoc, BitVec.xor_self, BitVec.xor_zero]
  have ep : tmF (pwF ((i - 1) / 4)) (BitVec.ofInt 8 2) = pwF (i / 4) := by
   rw [show i / 4 = (i - 1) / 4 + 1 by omega]
   exact (tm_all _).1
  have o4 : 0 + Int.toNat (i:Int) * 4 + 0 = 4 * i := by omega
  refine vc53b hX _ _ _ _ _ _ _ ⟨fun h => absurd (of_decide_eq_true h) (by omega), fun _ => ⟨fun _ => ⟨by decide, fun _ => ?_, fun h => absurd (of_decide_eq_false h) (by rw [tm]; omega)⟩, fun h => absurd (of_decide_eq_false h) (by omega)⟩⟩
  try dsimp only
  rw [ep]
  simp only [o4, hg, Ea, ex, Xd, hb, List.length_map, hl]
  (repeat' (first | exact trivial | exact Aa _ | exact Ya _ | exact Ba _ | exact Nat.le_refl _ | refine And.intro ?_ ?_)) <;> (first | omega | exact z | (unfold La; omega) | exact List.length_map _ | (show Is _ _ _; exact rfl) | skip)
  exact ⟨K⟩
 | succ d ih =>
  intro k hkd
  have ih := ih (k + 1) (by omega)
  have e4 : (i:Int) - 4 = ((i - 4:Nat):Int) := by omega
  have e1 : (i:Int) - 1 = ((i - 1:Nat):Int) := by omega
  have et : Int.tmod (((k + 1:Nat):Int) + 1) 4 = (((k + 1 + 1) % 4:Nat):Int) := by rw [show ((k + 1:Nat):Int) + 1 = ((k + 1 + 1:Nat):Int) by omega]; exact tmod_nat _ 4
  have hg := SX_gt key (a := 4 * i) (m := 4 * i + (k + 1)) (j := 4 * (i - 4) + (k + 1)) (eat key (4 * i) ^^^ pwF ((i - 1) / 4)) (by omega) (by omega) (by omega)
  have hg2 := SX_gt key (a := 4 * i) (m := 4 * i + (k + 1)) (j := 4 * (i - 1) + (k + 1 + 1) % 4) (eat key (4 * i) ^^^ pwF ((i - 1) / 4)) (by omega) (by omega) (by omega)
  have ev := eat_box key (n := n + 1) (k := k + 1) (by omega) (by omega)
  rw [if_neg (by omega), BitVec.xor_zero, show 16 * (n + 1) + (k + 1) = 4 * i + (k + 1) by omega, show 16 * (n + 1 - 1) + (k + 1) = 4 * (i - 4) + (k + 1) by omega, show 16 * (n + 1 - 1) + (12 + (k + 1 + 1) % 4) = 4 * (i - 1) + (k + 1 + 1) % 4 by omega] at ev
  have hs := SX_set key (a := 4 * i) (m := 4 * i + (k + 1)) (eat key (4 * i) ^^^ pwF ((i - 1) / 4)) (by omega) (by omega)
  have hl := SX_len key (4 * i) (eat key (4 * i) ^^^ pwF ((i - 1) / 4)) (4 * i + (k + 1))
  refine vc53b hX _ _ _ _ _ _ _ ⟨fun _ => ⟨fun h => absurd (of_decide_eq_true h) (by omega), fun _ => ⟨by decide, fun _ => ?_, fun h => absurd (of_decide_eq_false h) (by rw [tm]; omega)⟩⟩, fun h => absurd (of_decide_eq_false h) (by omega)⟩
  try dsimp only
  rw [e4, e1, et]
  simp only [o53, hg, hg2, Ea, gt_box, ixn, gt_box']
  rw [← ev]
  simp only [Xd, hs, List.length_map, hl]
  (repeat' (first | exact trivial | exact Aa _ | exact Ya _ | exact Ba _ | exact Nat.le_refl _ | refine And.intro ?_ ?_)) <;> (first | omega | exact z | (unfold La; omega) | exact List.length_map _ | (show Is _ _ _; exact rfl) | skip)
  exact ⟨ih⟩
theorem l53B0 {X : Ctx} (hX : X.P = Try.prog) (key : List (BitVec 8)) (n i:Nat) (hi : i = 4 * (n + 1)) (h44 : i < 44) (K : Ia X 53 0 (Is (.agg ((Zd key 176).map U8))) (Fb Try.f53 0) (mkS 113 [(2, .one (.ptr 0 0)), (3, .one (.ptr 1 0)), (4, .one (.ptr 2 0)), (5, .one (.ptr 3 0)), (6, .one (.u8 (pwF (i / 4)))), (7, .one (.i64 (i + 1:Nat)))]) [some (key.map U8), some (Vd.map U8), some (replicate 176 (U8 0)), some ((SE key (4 * i + 4)).map U8)]) :
  Ia X 53 0 (Is (.agg ((Zd key 176).map U8))) (Fb Try.f53 1) (mkS 113 [(2, .one (.ptr 0 0)), (3, .one (.ptr 1 0)), (4, .one (.ptr 2 0)), (5, .one (.ptr 3 0)), (6, .one (.u8 (pwF ((i - 1) / 4)))), (7, .one (.i64 i)), (8, .one (.i64 0))]) [some (key.map U8), some (Vd.map U8), some (replicate 176 (U8 0)), some ((SE key (4 * i)).map U8)] := by
 have z : Flat (replicate 176 (U8 0)) := by rw [Jd]; exact Aa _
 have tm : Int.tmod (i:Int) 4 = ((i % 4:Nat):Int) := tmod_nat i 4
 have hp : (i - 1) / 4 = n := by omega
 have K := l53B hX key n i hi h44 K 3 0 rfl
 have e4 : (i:Int) - 4 = ((i - 4:Nat):Int) := by omega
 have e1 : (i:Int) - 1 = ((i - 1:Nat):Int) := by omega
 have et : Int.tmod ((0:Int) + 1) 4 = ((1:Nat):Int) := by decide
 have o0 : ∀ j : Nat, 0 + Int.toNat (j:Int) * 4 + Int.toNat 0 * 1 = 4 * j := fun j => by omega
 have hg := SE_at key (m := 4 * i) (j := 4 * (i - 4)) (by omega) (by omega)
 have hg2 := SE_at key (m := 4 * i) (j := 4 * (i - 1) + 1) (by omega) (by omega)
 have ev := eat_box key (n := n + 1) (k := 0) (by omega) (by omega)
 rw [if_pos rfl, show 16 * (n + 1) + 0 = 4 * i by omega, show 16 * (n + 1 - 1) + 0 = 4 * (i - 4) by omega, show 16 * (n + 1 - 1) + (12 + (0 + 1) % 4) = 4 * (i - 1) + 1 by omega, show n + 1 - 1 = (i - 1) / 4 by omega] at ev
 have ev2 : eat key (4 * (i - 4)) ^^^ bx (eat key (4 * (i - 1) + 1)) = eat key (4 * i) ^^^ pwF ((i - 1) / 4) := by
  rw [ev, BitVec.xor_assoc _ (pwF ((i - 1) / 4)), BitVec.xor_self, BitVec.xor_zero]
 have hs := SX_set0 key (a := 4 * i) (eat key (4 * i) ^^^ pwF ((i - 1) / 4)) (by omega)
 have hl := SE_len key (4 * i)
 refine vc53b hX _ _ _ _ _ _ _ ⟨fun _ => ⟨fun h => absurd (of_decide_eq_true h) (by omega), fun _ => ⟨by decide, fun _ => ?_, fun h => absurd (of_decide_eq_false h) (by rw [tm]; omega)⟩⟩, fun h => absurd (of_decide_eq_false h) (by omega)⟩
 try dsimp only
 rw [e4, e1, et]
 simp only [o0, o53, hg, hg2, Ea, gt_box, ixn, gt_box', ev2]
 simp only [Xd, hs, List.length_map, hl]
 (repeat' (first | exact trivial | exact Aa _ | exact Ya _ | exact Ba _ | exact Nat.le_refl _ | refine And.intro ?_ ?_)) <;> (first | omega | exact z | (unfold La; omega) | exact List.length_map _ | (show Is _ _ _; exact rfl) | skip)
 exact ⟨K⟩
theorem l53cd {X : Ctx} (hX : X.P = Try.prog) (key : List (BitVec 8)) : ∀ (d i:Nat), i + d = 44 →
  Ia X 53 0 (Is (.agg ((Zd key 176).map U8))) (Fb Try.f53 2) (mkS 113 [(4, .one (.ptr 0 0)), (5, .one (.ptr 1 0)), (9, .one (.ptr 2 0)), (10, .one (.i64 i))]) [some (replicate 176 (U8 0)), some ((Zd key 176).map U8), some ((SE key (4 * i)).map U8)] := by
 have z : Flat (replicate 176 (U8 0)) := by rw [Jd]; exact Aa _
 have inner : ∀ (i:Nat), i < 44 → Ia X 53 0 (Is (.agg ((Zd key 176).map U8))) (Fb Try.f53 2) (mkS 113 [(4, .one (.ptr 0 0)), (5, .one (.ptr 1 0)), (9, .one (.ptr 2 0)), (10, .one (.i64 (i + 1:Nat)))]) [some (replicate 176 (U8 0)), some ((Zd key 176).map U8), some ((SE key (4 * i + 4)).map U8)] →
   ∀ (d k:Nat), k + d = 4 → Ia X 53 0 (Is (.agg ((Zd key 176).map U8))) (Fb Try.f53 3) (mkS 113 [(4, .one (.ptr 0 0)), (5, .one (.ptr 1 0)), (9, .one (.ptr 2 0)), (10, .one (.i64 i)), (11, .one (.i64 k))]) [some (replicate 176 (U8 0)), some ((Zd key 176).map U8), some ((SE key (4 * i + k)).map U8)] := by
  intro i hi K d
  induction d with
  | zero =>
   intro k hkd
   have hkd : k = 4 := by omega
   subst hkd
   refine vc53d hX _ _ _ _ _ ⟨fun h => absurd (of_decide_eq_true h) (by omega), fun _ => ?_⟩
   (repeat' (first | exact trivial | exact Aa _ | exact Ya _ | exact Ba _ | exact Nat.le_refl _ | refine And.intro ?_ ?_)) <;> (first | omega | exact z | (unfold La; omega) | exact List.length_map _ | (show Is _ _ _; exact rfl) | skip)
   exact ⟨K⟩
  | succ d ih =>
   intro k hkd
   have ih := ih (k + 1) (by omega)
   have td : Int.tdiv (i:Int) 4 = ((i / 4:Nat):Int) := tdiv_nat i 4
   have tm : Int.tmod (i:Int) 4 * 4 + (k:Int) = ((i % 4 * 4 + k:Nat):Int) := by rw [show Int.tmod (i:Int) 4 = ((i % 4:Nat):Int) from tmod_nat i 4]; omega
   have tm2 : Int.tmod (i:Int) 4 * 4 = ((i % 4 * 4:Nat):Int) := by rw [show Int.tmod (i:Int) 4 = ((i % 4:Nat):Int) from tmod_nat i 4]; omega
   have o16 : 0 + Int.toNat ((i / 4:Nat):Int) * 16 + Int.toNat ((i % 4 * 4 + k:Nat):Int) * 1 = 4 * i + k := by omega
   have hE := Jc key 176
   have hg := Cb (Zd key 176) (4 * i + k) (by omega)
   rw [E_get key (by omega)] at hg
   have hs := SE_set key (m := 4 * i + k) (by omega)
   have hl := SE_len key (4 * i + k)
   clear hE
   refine vc53d hX _ _ _ _ _ ⟨fun _ => ?_, fun h => absurd (of_decide_eq_false h) (by omega)⟩
   try dsimp only
   rw [tm, tm2, td]
   simp only [o16, o53, hg, Ea, Xd, hs, List.length_map, hl]
   refine ⟨⟨by decide, by unfold La; omega⟩, by decide, by unfold La; omega, by unfold La; omega, ?_⟩
   (repeat' (first | exact trivial | exact Aa _ | exact Ya _ | exact Ba _ | exact Nat.le_refl _ | refine And.intro ?_ ?_)) <;> (first | omega | exact z | (unfold La; omega) | exact List.length_map _ | (show Is _ _ _; exact rfl) | skip)
   exact ⟨ih⟩
 intro d
 induction d with
 | zero =>
  intro i hi
  have hi : i = 44 := by omega
  subst hi
  have e : SE key (4 * 44) = Zd key 176 := SE_end key
  have hl := Jc key 176
  refine vc53c hX _ _ _ _ ⟨fun h => absurd (of_decide_eq_true h) (by omega), fun _ => ?_⟩
  try dsimp only
  rw [e]
  simp only [Ja, tkm, tk0, Ua, Ae, layC, layM, Xd, tkn, List.drop_zero, Nat.zero_add, Nat.mul_one, Nat.reduceAdd, Nat.le_refl, Nat.min_self, Nat.reduceLeDiff, Cc, Int.toNat_natCast, List.length_map, List.length_append, List.length_replicate, List.length_take, List.length_drop, Ob, hl]
  (repeat' (first | exact trivial | exact Aa _ | exact Ya _ | exact Ba _ | exact Nat.le_refl _ | refine And.intro ?_ ?_)) <;> (first | omega | exact z | (unfold La; omega) | exact List.length_map _ | (show Is _ _ _; exact rfl) | skip)
 | succ d ih =>
  intro i hi
  have K := inner i (by omega) (ih (i + 1) (by omega)) 4 0 rfl
  refine vc53c hX _ _ _ _ ⟨fun _ => ?_, fun h => absurd (of_decide_eq_false h) (by omega)⟩
  (repeat' (first | exact trivial | exact Aa _ | exact Ya _ | exact Ba _ | exact Nat.le_refl _ | refine And.intro ?_ ?_)) <;> (first | omega | exact z | (unfold La; omega) | exact List.length_map _ | (show Is _ _ _; exact rfl) | skip)
  exact ⟨K⟩
theorem SE_0 (key : List (BitVec 8)) : (SE key (4 * 0)).map U8 = replicate 176 (U8 0) := by
 unfold SE
 rw [Nat.mul_zero, List.take_zero, List.drop_zero, List.nil_append, List.map_replicate]
theorem l53a {X : Ctx} (hX : X.P = Try.prog) (key : List (BitVec 8)) (hk : key.length = 16) : ∀ (d i:Nat), i + d = 44 →
  Ia X 53 0 (Is (.agg ((Zd key 176).map U8))) (Fb Try.f53 0) (mkS 113 [(2, .one (.ptr 0 0)), (3, .one (.ptr 1 0)), (4, .one (.ptr 2 0)), (5, .one (.ptr 3 0)), (6, .one (.u8 (pwF ((i - 1) / 4)))), (7, .one (.i64 i))]) [some (key.map U8), some (Vd.map U8), some (replicate 176 (U8 0)), some ((SE key (4 * i)).map U8)] := by
 have z : Flat (replicate 176 (U8 0)) := by rw [Jd]; exact Aa _
 intro d
 induction d with
 | zero =>
  intro i hi
  have hi : i = 44 := by omega
  subst hi
  have e : SE key (4 * 44) = Zd key 176 := SE_end key
  have K := l53cd hX key 44 0 rfl
  rw [SE_0] at K
  refine vc53a hX _ _ _ _ _ _ ⟨fun h => absurd (of_decide_eq_true h) (by omega), fun _ => ?_⟩
  try dsimp only
  rw [e]
  (repeat' (first | exact trivial | exact Aa _ | exact Ya _ | exact Ba _ | exact Nat.le_refl _ | refine And.intro ?_ ?_)) <;> (first | omega | exact z | (unfold La; omega) | exact List.length_map _ | (show Is _ _ _; exact rfl) | skip)
  exact ⟨K⟩
 | succ d ih =>
  intro i hi
  have ih := ih (i + 1) (by omega)
  rw [Nat.add_sub_cancel] at ih
  have K : Ia X 53 0 (Is (.agg ((Zd key 176).map U8))) (Fb Try.f53 1) (mkS 113 [(2, .one (.ptr 0 0)), (3, .one (.ptr 1 0)), (4, .one (.ptr 2 0)), (5, .one (.ptr 3 0)), (6, .one (.u8 (pwF ((i - 1) / 4)))), (7, .one (.i64 i)), (8, .one (.i64 (0:Nat)))]) [some (key.map U8), some (Vd.map U8), some (replicate 176 (U8 0)), some ((SE key (4 * i + 0)).map U8)] := by
   by_cases h4 : i < 4
   ·exact l53A hX key hk i h4 ih 4 0 rfl
   ·by_cases h0 : i % 4 = 0
    ·exact l53B0 hX key (i / 4 - 1) i (by omega) (by omega) ih
    ·exact l53C hX key (i / 4 - 1) (i % 4) i (by omega) (by omega) (by omega) ih 4 0 rfl
  refine vc53a hX _ _ _ _ _ _ ⟨fun _ => ?_, fun h => absurd (of_decide_eq_false h) (by omega)⟩
  (repeat' (first | exact trivial | exact Aa _ | exact Ya _ | exact Ba _ | exact Nat.le_refl _ | refine And.intro ?_ ?_)) <;> (first | omega | exact z | (unfold La; omega) | exact List.length_map _ | (show Is _ _ _; exact rfl) | skip)
  exact ⟨K⟩
theorem s53 (key : List (BitVec 8)) (hk : key.length = 16) : Spec Try.prog 53 [.agg (key.map U8), .agg (Vd.map U8)] [] (Is (.agg ((Zd key 176).map U8))) := by
 refine Spec.of_run ok53 fun X hX => vc53e hX _ _ ?_
 have K := l53a hX key hk 44 0 rfl
 rw [SE_0] at K
 have z : Flat (replicate 176 (U8 0)) := by rw [Jd]; exact Aa _
 exact ⟨Aa _, Aa _, z, z, ⟨K⟩⟩
def keyOf (cs : List AC) : List (BitVec 8) := (List.map Ea cs).take 16
theorem keyOf_ex (key : List (BitVec 8)) (hk : key.length = 16) : keyOf ((Zd key 176).map U8) = key := by
 unfold keyOf
 rw [Ua]
 apply List.ext_getElem (by rw [List.length_take, Jc, hk]; omega)
 intro j h1 h2
 have := eat_lo key (j := j) (by omega)
 rw [← E_get key (by omega), List.getD_eq_getElem?_getD, List.getD_eq_getElem?_getD, List.getElem?_eq_getElem h2, List.getElem?_eq_getElem (by rw [Jc]; omega)] at this
 rw [List.getElem_take]
 exact this
noncomputable def T14 : Tab := fun f xs => match f, xs with
 | 53, [.agg cs, .agg bs] => some ([Oa cs ∧ cs.length = 16 ∧ bs = Vd.map U8], .agg (hide ((Zd (cs.map Ea) 176).map U8)))
 | 45, [.agg (.b true :: cs), .agg bs] => some ([cs = (Zd (keyOf cs) 176).map U8 ∧ (keyOf cs).length = 16 ∧ Oa bs ∧ bs.length = 16], .agg (hide ((Yd (keyOf cs) (bs.map Ea)).map U8)))
 | 45, [.agg (.b false :: cs), .agg bs] => some ([Oa cs ∧ cs.length = 176 ∧ Oa bs ∧ bs.length = 16], .agg (hide ((Yd zkey (bs.map Ea)).map U8)))
 | f, xs => T13 f xs
theorem T14_ok : Oc Try.prog T14 := by
 intro f xs cs r h hc
 unfold T14 at h
 split at h
 ·obtain ⟨rfl, rfl⟩ := Prod.mk.inj (Option.some.inj h)
  obtain ⟨h1, h2, rfl⟩ := hc.1
  rename_i cs
  have := s53 (cs.map Ea) (by rw [List.length_map]; exact h2)
  rw [← h1] at this
  rw [Ja]
  exact ⟨⟨_, _, ok53⟩, this, Jb _ (fun _ => rfl) _⟩
 ·obtain ⟨rfl, rfl⟩ := Prod.mk.inj (Option.some.inj h)
  obtain ⟨h1, h2, h3, h4⟩ := hc.1
  rename_i cs bs
  have := s45t (keyOf cs) (bs.map Ea) (by rw [List.length_map]; exact h4)
  unfold kc at this
  rw [← h1, ← h3] at this
  rw [Ja]
  exact ⟨⟨_, _, ok45⟩, this, Jb _ (fun _ => rfl) _⟩
 ·obtain ⟨rfl, rfl⟩ := Prod.mk.inj (Option.some.inj h)
  obtain ⟨h1, h2, h3, h4⟩ := hc.1
  rename_i cs bs
  have := s45f (cs.map Ea) (by rw [List.length_map]; exact h2) (bs.map Ea) (by rw [List.length_map]; exact h4)
  unfold kc at this
  rw [← h1, ← h3] at this
  rw [Ja]
  exact ⟨⟨_, _, ok45⟩, this, Jb _ (fun _ => rfl) _⟩
 ·exact T13_ok _ _ _ _ h hc
def WJC1 : WC := ⟨baseK T14 mf13 M13,baseK_ok T14 mf13 M13,baseK_call T14_ok M13_ok⟩
theorem vc46 {X} {Q : QT} (hX : PX X) (ks bs : List AC) (h : (fun D2 : List (BitVec 8)=>(fun D1 : List AC=>(fun D0 : List AC=>(List.length (hide (List.map U8 Vd))=256/\256<=256)/\16<=List.length ks/\256<=List.length D1/\Flat (take 16 (drop 0 ks))/\Flat (take 256 (drop 0 D1))/\(Oa (take 16 (drop 0 ks))/\List.length (take 16 (drop 0 ks))=16/\take 256 (drop 0 D1)=List.map U8 Vd)/\(List.length (hide (List.map U8 (Zd (List.map Ea (take 16 (drop 0 ks))) 176)))=176/\176<=176)/\16<=List.length bs/\((0:Int)<=(0:Int)/\(0:Int)<(↑11:Int))/\16<=List.length D0/\Flat (take 16 (drop 0 bs))/\Flat (take 16 (drop 0 D0))/\(Oa (take 16 (drop 0 bs))/\List.length (take 16 (drop 0 bs))=16/\Oa (take 16 (drop 0 D0))/\List.length (take 16 (drop 0 D0))=16)/\(List.length (hide (List.map U8 (Yb D2 (List.map Ea (take 16 (drop 0 D0))))))=16/\16<=List.length bs)/\Flat (Qa bs 0 (hide (List.map U8 (Yb D2 (List.map Ea (take 16 (drop 0 D0)))))))/\Flat (replicate 16 (U8 0))/\Flat D1/\Flat D0/\KR X 46 0 Q (Fb Try.f46 0) (mkS 109 [(3,O1 (PT 0 0)),(4,O1 (PT 1 0)),(5,O1 (PT 2 0)),(6,O1 (PT 3 0)),(7,O1 (I64 (1:Int)))]) [some (Qa bs 0 (hide (List.map U8 (Yb D2 (List.map Ea (take 16 (drop 0 D0))))))),some (replicate 16 (U8 0)),some D1,some D0]) (Qa (replicate 176 (U8 0)) 0 (hide (List.map U8 (Zd (List.map Ea (take 16 (drop 0 ks))) 176))))) (Qa (replicate 256 (U8 0)) 0 (hide (List.map U8 Vd)))) (List.map Ea (take 16 (drop 0 bs)))) : Ia X 46 0 Q ([.code (Na Try.f46)]) (slots [.agg ks,.agg bs] Try.f46.ntmps) [] :=
 wR' hX WJC1 ok46 [23,27,31,52,55,60] [(22,40),(23,5)] false (CS.mk [] [] [0] []) true [(5,LS.mk [3,4,5,6,7] (CS.mk [] [true,true,true,true] [] [])),(9,LS.mk [3,4,5,6,7,8,9,10] (CS.mk [] [true,true,true,true,true,true] [] [])),(12,LS.mk [3,4,5,6,7,8,9,10,11] (CS.mk [] [true,true,true,true,true,true] [] [])),(17,LS.mk [3,4,5,6,7,8,9,12] (CS.mk [] [true,true,true,true,true,true] [] [])),(20,LS.mk [3,4,5,6,7,8,9,12,13] (CS.mk [] [true,true,true,true,true,true] [] []))] 2000 h (by kernel_rfl)
theorem vc46a {X} {Q : QT} (hX : PX X) (bs zs xs ks : List AC) (n:Int) (h : (fun D0 : List AC=>(decide (n<=(10:Int))=true->Flat bs/\Flat zs/\Flat xs/\Flat ks/\Flat (replicate 16 (U8 0))/\Flat (replicate 16 (U8 0))/\KR X 46 0 Q (Fb Try.f46 1) (mkS 109 [(3,O1 (PT 0 0)),(4,O1 (PT 1 0)),(5,O1 (PT 2 0)),(6,O1 (PT 3 0)),(7,O1 (I64 n)),(8,O1 (PT 4 0)),(9,O1 (PT 5 0)),(10,O1 (I64 (0:Int)))]) [some bs,some zs,some xs,some ks,some (replicate 16 (U8 0)),some (replicate 16 (U8 0))])/\(decide (n<=(10:Int))=false->16<=List.length bs/\(List.length (take 16 (drop 0 bs))=16/\16<=List.length zs)/\16<=List.length D0/\Za (AG (take 16 (drop 0 D0)))/\Q (AG (take 16 (drop 0 D0))) [])) (Qa zs 0 (take 16 (drop 0 bs)))) : Ia X 46 0 Q (Fb Try.f46 0) (mkS 109 [(3,.one (.ptr 0 0)),(4,.one (.ptr 1 0)),(5,.one (.ptr 2 0)),(6,.one (.ptr 3 0)),(7,.one (.i64 n))]) [some bs,some zs,some xs,some ks] :=
 wR' hX WJC1 ok46 [23,27,31,52,55,60] [(22,40),(23,5)] false (CS.mk [] [] [0] []) true [(5,LS.mk [3,4,5,6,7] (CS.mk [] [true,true,true,true] [] [])),(9,LS.mk [3,4,5,6,7,8,9,10] (CS.mk [] [true,true,true,true,true,true] [] [])),(12,LS.mk [3,4,5,6,7,8,9,10,11] (CS.mk [] [true,true,true,true,true,true] [] [])),(17,LS.mk [3,4,5,6,7,8,9,12] (CS.mk [] [true,true,true,true,true,true] [] [])),(20,LS.mk [3,4,5,6,7,8,9,12,13] (CS.mk [] [true,true,true,true,true,true] [] []))] 2000 h (by kernel_rfl)
theorem vc46b {X} {Q : QT} (hX : PX X) (bs zs xs ks us vs : List AC) (n c:Int) (h : (decide (c<(4:Int))=true->Flat bs/\Flat zs/\Flat xs/\Flat ks/\Flat us/\Flat vs/\KR X 46 0 Q (Fb Try.f46 2) (mkS 109 [(3,O1 (PT 0 0)),(4,O1 (PT 1 0)),(5,O1 (PT 2 0)),(6,O1 (PT 3 0)),(7,O1 (I64 n)),(8,O1 (PT 4 0)),(9,O1 (PT 5 0)),(10,O1 (I64 c)),(11,O1 (I64 (0:Int)))]) [some bs,some zs,some xs,some ks,some us,some vs])/\(decide (c<(4:Int))=false->16<=List.length us/\(List.length (take 16 (drop 0 us))=16/\16<=List.length vs)/\Flat bs/\Flat zs/\Flat xs/\Flat ks/\Flat us/\Flat (Qa vs 0 (take 16 (drop 0 us)))/\KR X 46 0 Q (Fb Try.f46 3) (mkS 109 [(3,O1 (PT 0 0)),(4,O1 (PT 1 0)),(5,O1 (PT 2 0)),(6,O1 (PT 3 0)),(7,O1 (I64 n)),(8,O1 (PT 4 0)),(9,O1 (PT 5 0)),(12,O1 (I64 (0:Int)))]) [some bs,some zs,some xs,some ks,some us,some (Qa vs 0 (take 16 (drop 0 us)))])) : Ia X 46 0 Q (Fb Try.f46 1) (mkS 109 [(3,.one (.ptr 0 0)),(4,.one (.ptr 1 0)),(5,.one (.ptr 2 0)),(6,.one (.ptr 3 0)),(7,.one (.i64 n)),(8,.one (.ptr 4 0)),(9,.one (.ptr 5 0)),(10,.one (.i64 c))]) [some bs,some zs,some xs,some ks,some us,some vs] :=
 wR' hX WJC1 ok46 [23,27,31,52,55,60] [(22,40),(23,5)] false (CS.mk [] [] [0] []) true [(5,LS.mk [3,4,5,6,7] (CS.mk [] [true,true,true,true] [] [])),(9,LS.mk [3,4,5,6,7,8,9,10] (CS.mk [] [true,true,true,true,true,true] [] [])),(12,LS.mk [3,4,5,6,7,8,9,10,11] (CS.mk [] [true,true,true,true,true,true] [] [])),(17,LS.mk [3,4,5,6,7,8,9,12] (CS.mk [] [true,true,true,true,true,true] [] [])),(20,LS.mk [3,4,5,6,7,8,9,12,13] (CS.mk [] [true,true,true,true,true,true] [] []))] 2000 h (by kernel_rfl)
theorem vc46c {X} {Q : QT} (hX : PX X) (bs zs xs ks us vs : List AC) (n c r:Int) (h : (fun D1 : Int=>(fun D0 : Nat=>(decide (r<(4:Int))=true->La ((4:Int)*c)/\La ((4:Int)*c+r)/\La (c+r)/\(4:Int) ≠ (0:Int)/\La (Int.tmod (c+r) (4:Int)*(4:Int))/\La D1/\((0:Int)<=Int.tmod (c+r) (4:Int)*(4:Int)+r/\Int.tmod (c+r) (4:Int)*(4:Int)+r<(↑16:Int))/\gt AY bs (0+Int.toNat D1*1)=U8 (Ea (gt AY bs (0+Int.toNat D1*1)))/\gt AY xs D0=U8 (Ea (gt AY xs D0))/\((0:Int)<=(4:Int)*c+r/\(4:Int)*c+r<(↑16:Int))/\(1=1/\0+Int.toNat ((4:Int)*c+r)*1+1<=List.length us)/\La (r+(1:Int))/\Flat bs/\Flat zs/\Flat xs/\Flat ks/\Flat (Qa us (0+Int.toNat ((4:Int)*c+r)*1) [U8 (Ea (gt AY xs D0))])/\Flat vs/\KR X 46 0 Q (Fb Try.f46 2) (mkS 109 [(3,O1 (PT 0 0)),(4,O1 (PT 1 0)),(5,O1 (PT 2 0)),(6,O1 (PT 3 0)),(7,O1 (I64 n)),(8,O1 (PT 4 0)),(9,O1 (PT 5 0)),(10,O1 (I64 c)),(11,O1 (I64 (r+(1:Int))))]) [some bs,some zs,some xs,some ks,some (Qa us (0+Int.toNat ((4:Int)*c+r)*1) [U8 (Ea (gt AY xs D0))]),some vs])/\(decide (r<(4:Int))=false->La (c+(1:Int))/\Flat bs/\Flat zs/\Flat xs/\Flat ks/\Flat us/\Flat vs/\KR X 46 0 Q (Fb Try.f46 1) (mkS 109 [(3,O1 (PT 0 0)),(4,O1 (PT 1 0)),(5,O1 (PT 2 0)),(6,O1 (PT 3 0)),(7,O1 (I64 n)),(8,O1 (PT 4 0)),(9,O1 (PT 5 0)),(10,O1 (I64 (c+(1:Int))))]) [some bs,some zs,some xs,some ks,some us,some vs])) (0+Int.toNat (↑(BitVec.toNat (Ea (gt AY bs (0+Int.toNat D1*1)))):Int)*1)) (Int.tmod (c+r) (4:Int)*(4:Int)+r)) : Ia X 46 0 Q (Fb Try.f46 2) (mkS 109 [(3,.one (.ptr 0 0)),(4,.one (.ptr 1 0)),(5,.one (.ptr 2 0)),(6,.one (.ptr 3 0)),(7,.one (.i64 n)),(8,.one (.ptr 4 0)),(9,.one (.ptr 5 0)),(10,.one (.i64 c)),(11,.one (.i64 r))]) [some bs,some zs,some xs,some ks,some us,some vs] :=
 wR' hX WJC1 ok46 [23,27,31,52,55,60] [(22,40),(23,5)] false (CS.mk [] [] [0] []) true [(5,LS.mk [3,4,5,6,7] (CS.mk [] [true,true,true,true] [] [])),(9,LS.mk [3,4,5,6,7,8,9,10] (CS.mk [] [true,true,true,true,true,true] [] [])),(12,LS.mk [3,4,5,6,7,8,9,10,11] (CS.mk [] [true,true,true,true,true,true] [] [])),(17,LS.mk [3,4,5,6,7,8,9,12] (CS.mk [] [true,true,true,true,true,true] [] [])),(20,LS.mk [3,4,5,6,7,8,9,12,13] (CS.mk [] [true,true,true,true,true,true] [] []))] 2000 h (by kernel_rfl)
theorem vc46d {X} {Q : QT} (hX : PX X) (bs zs xs ks us vs : List AC) (n c:Int) (h : (fun D1 : Nat=>(fun D0 : List (BitVec 8)=>(fun L0 : Prop=>(decide (c<(4:Int))=true->(decide (n<(10:Int))=true->Flat bs/\Flat zs/\Flat xs/\Flat ks/\Flat us/\Flat vs/\KR X 46 0 Q (Fb Try.f46 4) (mkS 109 [(3,O1 (PT 0 0)),(4,O1 (PT 1 0)),(5,O1 (PT 2 0)),(6,O1 (PT 3 0)),(7,O1 (I64 n)),(8,O1 (PT 4 0)),(9,O1 (PT 5 0)),(12,O1 (I64 c)),(13,O1 (I64 (0:Int)))]) [some bs,some zs,some xs,some ks,some us,some vs])/\(decide (n<(10:Int))=false->L0))/\(decide (c<(4:Int))=false->L0)) (16<=List.length vs/\((0:Int)<=n/\n<(↑11:Int))/\0+Int.toNat n*16+16<=List.length ks/\Flat (take 16 (drop 0 vs))/\Flat (take 16 (drop D1 ks))/\(Oa (take 16 (drop 0 vs))/\List.length (take 16 (drop 0 vs))=16/\Oa (take 16 (drop D1 ks))/\List.length (take 16 (drop D1 ks))=16)/\(List.length (hide (List.map U8 D0))=16/\16<=List.length bs)/\La (n+(1:Int))/\Flat (Qa bs 0 (hide (List.map U8 D0)))/\Flat zs/\Flat xs/\Flat ks/\KR X 46 0 Q (Fb Try.f46 0) (mkS 109 [(3,O1 (PT 0 0)),(4,O1 (PT 1 0)),(5,O1 (PT 2 0)),(6,O1 (PT 3 0)),(7,O1 (I64 (n+(1:Int))))]) [some (Qa bs 0 (hide (List.map U8 D0))),some zs,some xs,some ks])) (Yb (List.map Ea (take 16 (drop 0 vs))) (List.map Ea (take 16 (drop D1 ks))))) (0+Int.toNat n*16)) : Ia X 46 0 Q (Fb Try.f46 3) (mkS 109 [(3,.one (.ptr 0 0)),(4,.one (.ptr 1 0)),(5,.one (.ptr 2 0)),(6,.one (.ptr 3 0)),(7,.one (.i64 n)),(8,.one (.ptr 4 0)),(9,.one (.ptr 5 0)),(12,.one (.i64 c))]) [some bs,some zs,some xs,some ks,some us,some vs] :=
 wR' hX WJC1 ok46 [23,27,31,52,55,60] [(22,40),(23,5)] false (CS.mk [] [] [0] []) true [(5,LS.mk [3,4,5,6,7] (CS.mk [] [true,true,true,true] [] [])),(9,LS.mk [3,4,5,6,7,8,9,10] (CS.mk [] [true,true,true,true,true,true] [] [])),(12,LS.mk [3,4,5,6,7,8,9,10,11] (CS.mk [] [true,true,true,true,true,true] [] [])),(17,LS.mk [3,4,5,6,7,8,9,12] (CS.mk [] [true,true,true,true,true,true] [] [])),(20,LS.mk [3,4,5,6,7,8,9,12,13] (CS.mk [] [true,true,true,true,true,true] [] []))] 2000 h (by kernel_rfl)
theorem vc46e {X} {Q : QT} (hX : PX X) (bs zs xs ks us vs : List AC) (n c r:Int) (h : (fun D4 : Nat=>(fun D3 : Int=>(fun D2 : Int=>(fun D1 : Int=>(fun D0 : List AC=>(decide (r<(4:Int))=true->La ((4:Int)*c)/\La ((4:Int)*c+r)/\La ((4:Int)*c)/\La ((4:Int)*c+r)/\((0:Int)<=(4:Int)*c+r/\(4:Int)*c+r<(↑16:Int))/\gt AY us D4=U8 (Ea (gt AY us D4))/\La ((4:Int)*c)/\La (r+(1:Int))/\(4:Int) ≠ (0:Int)/\La D3/\((0:Int)<=(4:Int)*c+Int.tmod (r+(1:Int)) (4:Int)/\(4:Int)*c+Int.tmod (r+(1:Int)) (4:Int)<(↑16:Int))/\gt AY us (0+Int.toNat D3*1)=U8 (Ea (gt AY us (0+Int.toNat D3*1)))/\La ((4:Int)*c)/\La (r+(2:Int))/\(4:Int) ≠ (0:Int)/\La D2/\((0:Int)<=(4:Int)*c+Int.tmod (r+(2:Int)) (4:Int)/\(4:Int)*c+Int.tmod (r+(2:Int)) (4:Int)<(↑16:Int))/\gt AY us (0+Int.toNat D2*1)=U8 (Ea (gt AY us (0+Int.toNat D2*1)))/\La ((4:Int)*c)/\La (r+(3:Int))/\(4:Int) ≠ (0:Int)/\La D1/\((0:Int)<=(4:Int)*c+Int.tmod (r+(3:Int)) (4:Int)/\(4:Int)*c+Int.tmod (r+(3:Int)) (4:Int)<(↑16:Int))/\gt AY us (0+Int.toNat D1*1)=U8 (Ea (gt AY us (0+Int.toNat D1*1)))/\((0:Int)<=(4:Int)*c+r/\(4:Int)*c+r<(↑16:Int))/\(1=1/\0+Int.toNat ((4:Int)*c+r)*1+1<=List.length vs)/\La (r+(1:Int))/\Flat bs/\Flat zs/\Flat xs/\Flat ks/\Flat us/\Flat D0/\KR X 46 0 Q (Fb Try.f46 4) (mkS 109 [(3,O1 (PT 0 0)),(4,O1 (PT 1 0)),(5,O1 (PT 2 0)),(6,O1 (PT 3 0)),(7,O1 (I64 n)),(8,O1 (PT 4 0)),(9,O1 (PT 5 0)),(12,O1 (I64 c)),(13,O1 (I64 (r+(1:Int))))]) [some bs,some zs,some xs,some ks,some us,some D0])/\(decide (r<(4:Int))=false->La (c+(1:Int))/\Flat bs/\Flat zs/\Flat xs/\Flat ks/\Flat us/\Flat vs/\KR X 46 0 Q (Fb Try.f46 3) (mkS 109 [(3,O1 (PT 0 0)),(4,O1 (PT 1 0)),(5,O1 (PT 2 0)),(6,O1 (PT 3 0)),(7,O1 (I64 n)),(8,O1 (PT 4 0)),(9,O1 (PT 5 0)),(12,O1 (I64 (c+(1:Int))))]) [some bs,some zs,some xs,some ks,some us,some vs])) (Qa vs D4 [U8 (tmF (Ea (gt AY us D4)) (BitVec.ofInt 8 2)^^^tmF (Ea (gt AY us (0+Int.toNat D3*1))) (BitVec.ofInt 8 3)^^^Ea (gt AY us (0+Int.toNat D2*1))^^^Ea (gt AY us (0+Int.toNat D1*1)))])) ((4:Int)*c+Int.tmod (r+(3:Int)) (4:Int))) ((4:Int)*c+Int.tmod (r+(2:Int)) (4:Int))) ((4:Int)*c+Int.tmod (r+(1:Int)) (4:Int))) (0+Int.toNat ((4:Int)*c+r)*1)) : Ia X 46 0 Q (Fb Try.f46 4) (mkS 109 [(3,.one (.ptr 0 0)),(4,.one (.ptr 1 0)),(5,.one (.ptr 2 0)),(6,.one (.ptr 3 0)),(7,.one (.i64 n)),(8,.one (.ptr 4 0)),(9,.one (.ptr 5 0)),(12,.one (.i64 c)),(13,.one (.i64 r))]) [some bs,some zs,some xs,some ks,some us,some vs] :=
 wR' hX WJC1 ok46 [23,27,31,52,55,60] [(22,40),(23,5)] false (CS.mk [] [] [0] []) true [(5,LS.mk [3,4,5,6,7] (CS.mk [] [true,true,true,true] [] [])),(9,LS.mk [3,4,5,6,7,8,9,10] (CS.mk [] [true,true,true,true,true,true] [] [])),(12,LS.mk [3,4,5,6,7,8,9,10,11] (CS.mk [] [true,true,true,true,true,true] [] [])),(17,LS.mk [3,4,5,6,7,8,9,12] (CS.mk [] [true,true,true,true,true,true] [] [])),(20,LS.mk [3,4,5,6,7,8,9,12,13] (CS.mk [] [true,true,true,true,true,true] [] []))] 2000 h (by kernel_rfl)
theorem mix_ref (s : List (BitVec 8)) (c r:Nat) (hc : c < 4) (hr : r < 4) : tmF (s.getD (4 * c + r) 0) 2#8 ^^^ tmF (s.getD (4 * c + (r + 1) % 4) 0) 3#8 ^^^ s.getD (4 * c + (r + 2) % 4) 0 ^^^ s.getD (4 * c + (r + 3) % 4) 0 = (mixL s).getD (4 * c + r) 0 := by
 unfold mixL
 rw [Yc _ (by omega), (tm_all _).1, (tm_all _).2.1]
 unfold col
 rw [show (4 * c + r) / 4 * 4 = 4 * c by omega, show (4 * c + r) % 4 = r by omega, show (r + 0) % 4 = r by omega]
def VM (s : List (BitVec 8)) (m:Nat) : List (BitVec 8) := (mixL s).take m ++ s.drop m
def SU (b : List (BitVec 8)) (m:Nat) : List (BitVec 8) := (shL b).take m ++ (replicate 16 0).drop m
theorem VM_len {s : List (BitVec 8)} (hs : s.length = 16) (m:Nat) : (VM s m).length = 16 := by
 unfold VM
 rw [lenT _ _ (by rw [mixL_len, hs]), hs]
theorem SU_len (b : List (BitVec 8)) (m:Nat) : (SU b m).length = 16 := by
 unfold SU
 rw [lenT _ _ (by rw [shL_len, List.length_replicate]), List.length_replicate]
theorem VM_end {s : List (BitVec 8)} (hs : s.length = 16) : VM s (4 * 4) = mixL s := by
 have := endT (mixL s) s (by rw [mixL_len, hs])
 rw [mixL_len] at this
 exact this
theorem SU_end (b : List (BitVec 8)) : SU b (4 * 4) = shL b := by
 have := endT (shL b) (replicate 16 0) (by rw [shL_len, List.length_replicate])
 rw [shL_len] at this
 exact this
theorem l46e {X : Ctx} (hX : X.P = Try.prog) (key B b s : List (BitVec 8)) (hs : s.length = 16) (n c:Nat) (hc : c < 4)
  (K : Ia X 46 0 (Is (.agg ((Yd key B).map U8))) (Fb Try.f46 3) (mkS 109 [(3, .one (.ptr 0 0)), (4, .one (.ptr 1 0)), (5, .one (.ptr 2 0)), (6, .one (.ptr 3 0)), (7, .one (.i64 n)), (8, .one (.ptr 4 0)), (9, .one (.ptr 5 0)), (12, .one (.i64 (c + 1:Nat)))]) [some (b.map U8), some (replicate 16 (U8 0)), some (Vd.map U8), some ((Zd key 176).map U8), some (s.map U8), some ((VM s (4 * (c + 1))).map U8)]) : ∀ (d r:Nat), r + d = 4 →
  Ia X 46 0 (Is (.agg ((Yd key B).map U8))) (Fb Try.f46 4) (mkS 109 [(3, .one (.ptr 0 0)), (4, .one (.ptr 1 0)), (5, .one (.ptr 2 0)), (6, .one (.ptr 3 0)), (7, .one (.i64 n)), (8, .one (.ptr 4 0)), (9, .one (.ptr 5 0)), (12, .one (.i64 c)), (13, .one (.i64 r))]) [some (b.map U8), some (replicate 16 (U8 0)), some (Vd.map U8), some ((Zd key 176).map U8), some (s.map U8), some ((VM s (4 * c + r)).map U8)] := by
 have z : Flat (replicate 16 (U8 0)) := by rw [Jd]; exact Aa _
 intro d
 induction d with
 | zero =>
  intro r hr
  have hr : r = 4 := by omega
  subst hr
  refine vc46e hX _ _ _ _ _ _ _ _ _ ⟨fun h => absurd (of_decide_eq_true h) (by omega), fun _ => ?_⟩
  (repeat' (first | exact trivial | exact Aa _ | exact Ya _ | exact Ba _ | exact Nat.le_refl _ | refine And.intro ?_ ?_)) <;> (first | omega | exact z | (unfold La; omega) | exact List.length_map _ | (show Is _ _ _; exact rfl) | skip)
  exact ⟨K⟩
 | succ d ih =>
  intro r hr
  have ih := ih (r + 1) (by omega)
  have hl := VM_len hs (4 * c + r)
  have t1 : (4:Int) * (c:Int) + Int.tmod ((r:Int) + 1) 4 = ((4 * c + (r + 1) % 4:Nat):Int) := by rw [show Int.tmod ((r:Int) + 1) 4 = (((r + 1) % 4:Nat):Int) from tmod_nat (r + 1) 4]; omega
  have t2 : (4:Int) * (c:Int) + Int.tmod ((r:Int) + 2) 4 = ((4 * c + (r + 2) % 4:Nat):Int) := by rw [show Int.tmod ((r:Int) + 2) 4 = (((r + 2) % 4:Nat):Int) from tmod_nat (r + 2) 4]; omega
  have t3 : (4:Int) * (c:Int) + Int.tmod ((r:Int) + 3) 4 = ((4 * c + (r + 3) % 4:Nat):Int) := by rw [show Int.tmod ((r:Int) + 3) 4 = (((r + 3) % 4:Nat):Int) from tmod_nat (r + 3) 4]; omega
  have t0 : (4:Int) * (c:Int) + (r:Int) = ((4 * c + r:Nat):Int) := by omega
  have g0 := Cb s (4 * c + r) (by omega)
  have g1 := Cb s (4 * c + (r + 1) % 4) (by omega)
  have g2 := Cb s (4 * c + (r + 2) % 4) (by omega)
  have g3 := Cb s (4 * c + (r + 3) % 4) (by omega)
  have o2 : BitVec.ofInt 8 2 = 2#8 := rfl
  have o3 : BitVec.ofInt 8 3 = 3#8 := rfl
  have hset := setT (mixL s) s 0 (i := 4 * c + r) (by rw [mixL_len]; omega) (by rw [mixL_len, hs])
  rw [← mix_ref s c r hc (by omega)] at hset
  have hset : (VM s (4 * c + r)).set (4 * c + r) _ = VM s (4 * c + (r + 1)) := hset
  refine vc46e hX _ _ _ _ _ _ _ _ _ ⟨fun _ => ?_, fun h => absurd (of_decide_eq_false h) (by omega)⟩
  try dsimp only
  rw [t0, t1, t2, t3]
  simp only [ixn, g0, g1, g2, g3, Ea, o2, o3, Xd, hset, List.length_map, hl]
  have i4 : (4:Int) ≠ 0 := by decide
  (repeat' (first | exact i4 | exact trivial | exact Aa _ | exact Ya _ | exact Ba _ | exact Nat.le_refl _ | refine And.intro ?_ ?_)) <;> (first | omega | exact z | (unfold La; omega) | exact List.length_map _ | (show Is _ _ _; exact rfl) | skip)
  exact ⟨ih⟩
theorem l46d {X : Ctx} (hX : X.P = Try.prog) (key B b : List (BitVec 8)) (hb : b.length = 16) (n:Nat) (hn : n < 11) (K : Ia X 46 0 (Is (.agg ((Yd key B).map U8))) (Fb Try.f46 0) (mkS 109 [(3, .one (.ptr 0 0)), (4, .one (.ptr 1 0)), (5, .one (.ptr 2 0)), (6, .one (.ptr 3 0)), (7, .one (.i64 (n + 1:Nat)))]) [some ((rndF key n b).map U8), some (replicate 16 (U8 0)), some (Vd.map U8), some ((Zd key 176).map U8)]) : ∀ (d c:Nat), c + d = 4 → (n < 10 ∨ c = 0) →
  Ia X 46 0 (Is (.agg ((Yd key B).map U8))) (Fb Try.f46 3) (mkS 109 [(3, .one (.ptr 0 0)), (4, .one (.ptr 1 0)), (5, .one (.ptr 2 0)), (6, .one (.ptr 3 0)), (7, .one (.i64 n)), (8, .one (.ptr 4 0)), (9, .one (.ptr 5 0)), (12, .one (.i64 c))]) [some (b.map U8), some (replicate 16 (U8 0)), some (Vd.map U8), some ((Zd key 176).map U8), some ((shL b).map U8), some ((VM (shL b) (4 * c)).map U8)] := by
 have z : Flat (replicate 16 (U8 0)) := by rw [Jd]; exact Aa _
 have hr := rkF_len key (n := n) (by omega)
 have hE := Jc key 176
 have o16 : 0 + Int.toNat (n:Int) * 16 = 16 * n := by omega
 have rk : ((Zd key 176).drop (16 * n)).take 16 = rkF key n := rfl
 intro d
 induction d with
 | zero =>
  intro c hc h10
  have hc : c = 4 := by omega
  subst hc
  have e := VM_end (shL_len b)
  unfold rndF at K
  rw [if_pos (by omega)] at K
  have hm := mixL_len (shL b)
  have em : (mixL (shL b)).take 16 = mixL (shL b) := List.take_of_length_le (by omega)
  have h176 : 16 * n + 16 ≤ 176 := by omega
  refine vc46d hX _ _ _ _ _ _ _ _ ⟨fun h => absurd (of_decide_eq_true h) (by omega), fun _ => ?_⟩
  try dsimp only
  rw [e, o16]
  simp only [Ja, tkm, tk0, Ua, Ae, layC, layM, Xd, tkn, List.drop_zero, Nat.zero_add, Nat.mul_one, Nat.reduceAdd, Nat.le_refl, Nat.min_self, Nat.reduceLeDiff, Cc, Int.toNat_natCast, rk, em, List.length_map, List.length_append, List.length_replicate, List.length_take, List.length_drop, Ob, hb, hr, hE, hm, xorL_len]
  clear hE hr hm em e rk
  (repeat' (first | exact trivial | exact Aa _ | exact Ya _ | exact Ba _ | exact Nat.le_refl _ | refine And.intro ?_ ?_)) <;> (first | omega | exact z | (unfold La; omega) | exact List.length_map _ | (show Is _ _ _; exact rfl) | skip)
  exact ⟨K⟩
 | succ d ih =>
  intro c hc h10
  refine vc46d hX _ _ _ _ _ _ _ _ ⟨fun _ => ⟨fun h => ?_, fun h => ?_⟩, fun h => absurd (of_decide_eq_false h) (by omega)⟩
  ·have h := of_decide_eq_true h
   have K2 := l46e hX key B b (shL b) (shL_len b) n c (by omega) (ih (c + 1) (by omega) (.inl (by omega))) 4 0 rfl
   clear hE hr rk
   (repeat' (first | exact trivial | exact Aa _ | exact Ya _ | exact Ba _ | exact Nat.le_refl _ | refine And.intro ?_ ?_)) <;> (first | omega | exact z | (unfold La; omega) | exact List.length_map _ | (show Is _ _ _; exact rfl) | skip)
   exact ⟨K2⟩
  ·have h := of_decide_eq_false h
   have h0 : c = 0 := by omega
   subst h0
   have e : VM (shL b) (4 * 0) = shL b := begT _ _
   unfold rndF at K
   rw [if_neg (by omega)] at K
   have hm := shL_len b
   have em : (shL b).take 16 = shL b := List.take_of_length_le (by omega)
   have h176 : 16 * n + 16 ≤ 176 := by omega
   rw [e, o16]
   simp only [Ja, tkm, tk0, Ua, Ae, layC, layM, Xd, tkn, List.drop_zero, Nat.zero_add, Nat.mul_one, Nat.reduceAdd, Nat.le_refl, Nat.min_self, Nat.reduceLeDiff, Cc, Int.toNat_natCast, rk, em, List.length_map, List.length_append, List.length_replicate, List.length_take, List.length_drop, Ob, hb, hr, hE, hm, xorL_len]
   clear hE hr hm em e rk
   (repeat' (first | exact trivial | exact Aa _ | exact Ya _ | exact Ba _ | exact Nat.le_refl _ | refine And.intro ?_ ?_)) <;> (first | omega | exact z | (unfold La; omega) | exact List.length_map _ | (show Is _ _ _; exact rfl) | skip)
   exact ⟨K⟩
theorem l46c {X : Ctx} (hX : X.P = Try.prog) (key B b : List (BitVec 8)) (hb : b.length = 16) (n c:Nat) (hc : c < 4)
  (K : Ia X 46 0 (Is (.agg ((Yd key B).map U8))) (Fb Try.f46 1) (mkS 109 [(3, .one (.ptr 0 0)), (4, .one (.ptr 1 0)), (5, .one (.ptr 2 0)), (6, .one (.ptr 3 0)), (7, .one (.i64 n)), (8, .one (.ptr 4 0)), (9, .one (.ptr 5 0)), (10, .one (.i64 (c + 1:Nat)))]) [some (b.map U8), some (replicate 16 (U8 0)), some (Vd.map U8), some ((Zd key 176).map U8), some ((SU b (4 * (c + 1))).map U8), some (replicate 16 (U8 0))]) : ∀ (d r:Nat), r + d = 4 →
  Ia X 46 0 (Is (.agg ((Yd key B).map U8))) (Fb Try.f46 2) (mkS 109 [(3, .one (.ptr 0 0)), (4, .one (.ptr 1 0)), (5, .one (.ptr 2 0)), (6, .one (.ptr 3 0)), (7, .one (.i64 n)), (8, .one (.ptr 4 0)), (9, .one (.ptr 5 0)), (10, .one (.i64 c)), (11, .one (.i64 r))]) [some (b.map U8), some (replicate 16 (U8 0)), some (Vd.map U8), some ((Zd key 176).map U8), some ((SU b (4 * c + r)).map U8), some (replicate 16 (U8 0))] := by
 have z : Flat (replicate 16 (U8 0)) := by rw [Jd]; exact Aa _
 intro d
 induction d with
 | zero =>
  intro r hr
  have hr : r = 4 := by omega
  subst hr
  refine vc46c hX _ _ _ _ _ _ _ _ _ ⟨fun h => absurd (of_decide_eq_true h) (by omega), fun _ => ?_⟩
  (repeat' (first | exact trivial | exact Aa _ | exact Ya _ | exact Ba _ | exact Nat.le_refl _ | refine And.intro ?_ ?_)) <;> (first | omega | exact z | (unfold La; omega) | exact List.length_map _ | (show Is _ _ _; exact rfl) | skip)
  exact ⟨K⟩
 | succ d ih =>
  intro r hr
  have ih := ih (r + 1) (by omega)
  have hl := SU_len b (4 * c + r)
  have t0 : (4:Int) * (c:Int) + (r:Int) = ((4 * c + r:Nat):Int) := by omega
  have t1 : Int.tmod ((c:Int) + (r:Int)) 4 * 4 + (r:Int) = (((c + r) % 4 * 4 + r:Nat):Int) := by rw [show Int.tmod ((c:Int) + (r:Int)) 4 = (((c + r) % 4:Nat):Int) from tmod_nat (c + r) 4]; omega
  have t2 : Int.tmod ((c:Int) + (r:Int)) 4 * 4 = (((c + r) % 4 * 4:Nat):Int) := by rw [show Int.tmod ((c:Int) + (r:Int)) 4 = (((c + r) % 4:Nat):Int) from tmod_nat (c + r) 4]; omega
  have g0 := Cb b ((c + r) % 4 * 4 + r) (by omega)
  have hset := setT (shL b) (replicate 16 0) 0 (i := 4 * c + r) (by rw [shL_len]; omega) (by rw [shL_len, List.length_replicate])
  rw [show (shL b).getD (4 * c + r) 0 = bx (b.getD (shI (4 * c + r)) 0) from Yc _ (by omega), show shI (4 * c + r) = (c + r) % 4 * 4 + r by unfold shI; omega] at hset
  have hset : (SU b (4 * c + r)).set (4 * c + r) _ = SU b (4 * c + (r + 1)) := hset
  refine vc46c hX _ _ _ _ _ _ _ _ _ ⟨fun _ => ?_, fun h => absurd (of_decide_eq_false h) (by omega)⟩
  try dsimp only
  rw [t0, t1, t2]
  simp only [ixn, g0, Ea, gt_box, gt_box', Xd, hset, List.length_map, hl]
  have i4 : (4:Int) ≠ 0 := by decide
  (repeat' (first | exact i4 | exact trivial | exact Aa _ | exact Ya _ | exact Ba _ | exact Nat.le_refl _ | refine And.intro ?_ ?_)) <;> (first | omega | exact z | (unfold La; omega) | exact List.length_map _ | (show Is _ _ _; exact rfl) | skip)
  exact ⟨ih⟩
theorem l46b {X : Ctx} (hX : X.P = Try.prog) (key B b : List (BitVec 8)) (hb : b.length = 16) (n:Nat) (hn : n < 11) (K : Ia X 46 0 (Is (.agg ((Yd key B).map U8))) (Fb Try.f46 0) (mkS 109 [(3, .one (.ptr 0 0)), (4, .one (.ptr 1 0)), (5, .one (.ptr 2 0)), (6, .one (.ptr 3 0)), (7, .one (.i64 (n + 1:Nat)))]) [some ((rndF key n b).map U8), some (replicate 16 (U8 0)), some (Vd.map U8), some ((Zd key 176).map U8)]) : ∀ (d c:Nat), c + d = 4 →
  Ia X 46 0 (Is (.agg ((Yd key B).map U8))) (Fb Try.f46 1) (mkS 109 [(3, .one (.ptr 0 0)), (4, .one (.ptr 1 0)), (5, .one (.ptr 2 0)), (6, .one (.ptr 3 0)), (7, .one (.i64 n)), (8, .one (.ptr 4 0)), (9, .one (.ptr 5 0)), (10, .one (.i64 c))]) [some (b.map U8), some (replicate 16 (U8 0)), some (Vd.map U8), some ((Zd key 176).map U8), some ((SU b (4 * c)).map U8), some (replicate 16 (U8 0))] := by
 have z : Flat (replicate 16 (U8 0)) := by rw [Jd]; exact Aa _
 intro d
 induction d with
 | zero =>
  intro c hc
  have hc : c = 4 := by omega
  subst hc
  have e := SU_end b
  have K2 := l46d hX key B b hb n hn K 4 0 rfl (.inr rfl)
  rw [show VM (shL b) (4 * 0) = shL b from begT _ _] at K2
  have hm := shL_len b
  have em : (shL b).take 16 = shL b := List.take_of_length_le (by omega)
  refine vc46b hX _ _ _ _ _ _ _ _ ⟨fun h => absurd (of_decide_eq_true h) (by omega), fun _ => ?_⟩
  try dsimp only
  rw [e]
  simp only [Ja, tkm, tk0, Ua, Ae, layC, layM, Xd, tkn, List.drop_zero, Nat.zero_add, Nat.mul_one, Nat.reduceAdd, Nat.le_refl, Nat.min_self, Nat.reduceLeDiff, Cc, Int.toNat_natCast, em, List.length_map, List.length_append, List.length_replicate, List.length_take, List.length_drop, Ob, hm]
  (repeat' (first | exact trivial | exact Aa _ | exact Ya _ | exact Ba _ | exact Nat.le_refl _ | refine And.intro ?_ ?_)) <;> (first | omega | exact z | (unfold La; omega) | exact List.length_map _ | (show Is _ _ _; exact rfl) | skip)
  exact ⟨K2⟩
 | succ d ih =>
  intro c hc
  have K2 := l46c hX key B b hb n c (by omega) (ih (c + 1) (by omega)) 4 0 rfl
  refine vc46b hX _ _ _ _ _ _ _ _ ⟨fun _ => ?_, fun h => absurd (of_decide_eq_false h) (by omega)⟩
  (repeat' (first | exact trivial | exact Aa _ | exact Ya _ | exact Ba _ | exact Nat.le_refl _ | refine And.intro ?_ ?_)) <;> (first | omega | exact z | (unfold La; omega) | exact List.length_map _ | (show Is _ _ _; exact rfl) | skip)
  exact ⟨K2⟩
theorem l46a {X : Ctx} (hX : X.P = Try.prog) (key B : List (BitVec 8)) (hB : B.length = 16) : ∀ (d n:Nat), n + d = 10 →
  Ia X 46 0 (Is (.agg ((Yd key B).map U8))) (Fb Try.f46 0) (mkS 109 [(3, .one (.ptr 0 0)), (4, .one (.ptr 1 0)), (5, .one (.ptr 2 0)), (6, .one (.ptr 3 0)), (7, .one (.i64 (n + 1:Nat)))]) [some ((encN key B n).map U8), some (replicate 16 (U8 0)), some (Vd.map U8), some ((Zd key 176).map U8)] := by
 have z : Flat (replicate 16 (U8 0)) := by rw [Jd]; exact Aa _
 intro d
 induction d with
 | zero =>
  intro n hn
  have hn : n = 10 := by omega
  subst hn
  have e : encN key B 10 = Yd key B := rfl
  have hl : (Yd key B).length = 16 := encN_len _ _ _
  refine vc46a hX _ _ _ _ _ ⟨fun h => absurd (of_decide_eq_true h) (by omega), fun _ => ?_⟩
  try dsimp only
  rw [e]
  simp only [Ja, tkm, tk0, Ua, Ae, layC, layM, Xd, tkn, List.drop_zero, Nat.zero_add, Nat.mul_one, Nat.reduceAdd, Nat.le_refl, Nat.min_self, Nat.reduceLeDiff, Cc, Int.toNat_natCast, List.length_map, List.length_append, List.length_replicate, List.length_take, List.length_drop, Ob, hl]
  (repeat' (first | exact trivial | exact Aa _ | exact Ya _ | exact Ba _ | exact Nat.le_refl _ | refine And.intro ?_ ?_)) <;> (first | omega | exact z | (unfold La; omega) | exact List.length_map _ | (show Is _ _ _; exact rfl) | skip)
 | succ d ih =>
  intro n hn
  have K := l46b hX key B (encN key B n) (encN_len _ _ _) (n + 1) (by omega) (ih (n + 1) (by omega)) 4 0 rfl
  have e0 : (SU (encN key B n) (4 * 0)).map U8 = replicate 16 (U8 0) := by
   rw [show SU (encN key B n) (4 * 0) = replicate 16 0 from begT _ _, List.map_replicate]
  rw [e0] at K
  refine vc46a hX _ _ _ _ _ ⟨fun _ => ?_, fun h => absurd (of_decide_eq_false h) (by omega)⟩
  (repeat' (first | exact trivial | exact Aa _ | exact Ya _ | exact Ba _ | exact Nat.le_refl _ | refine And.intro ?_ ?_)) <;> (first | omega | exact z | (unfold La; omega) | exact List.length_map _ | (show Is _ _ _; exact rfl) | skip)
  exact ⟨K⟩
theorem s46 (key b : List (BitVec 8)) (hk : key.length = 16) (hb : b.length = 16) : Spec Try.prog 46 [.agg (key.map U8), .agg (b.map U8)] [] (Is (.agg ((Yd key b).map U8))) := by
 refine Spec.of_run ok46 fun X hX => vc46 hX _ _ ?_
 have K := l46a hX key b hb 10 0 rfl
 rw [show encN key b 0 = Yb b (rkF key 0) from rfl] at K
 have z : Flat (replicate 16 (U8 0)) := by rw [Jd]; exact Aa _
 have hE := Jc key 176
 have hB := boxT_len
 have ek : key.take 16 = key := List.take_of_length_le (by omega)
 have eb : b.take 16 = b := List.take_of_length_le (by omega)
 have e16 : (Zd key 176).take 16 = rkF key 0 := by unfold rkF; rw [Nat.mul_zero, List.drop_zero]
 have ebx : Vd.take 256 = Vd := List.take_of_length_le (by omega)
 have hr := rkF_len key (n := 0) (by omega)
 have l1 : Qa (replicate 256 (U8 0)) 0 (Vd.map U8) = Vd.map U8 := Ae _ _ hB
 have l2 : Qa (replicate 176 (U8 0)) 0 ((Zd key 176).map U8) = (Zd key 176).map U8 := Ae _ _ hE
 have l3 : Qa (b.map U8) 0 ((Yb b (rkF key 0)).map U8) = (Yb b (rkF key 0)).map U8 := layM _ _ (by rw [xorL_len, hb])
 simp only [Ja, tkm, tk0, List.drop_zero, ek, eb, Ua, l1, l2, e16, ebx, l3, List.length_map, hE, hB, hk, hb, hr, xorL_len]
 clear hE hB ek eb e16 ebx hr l1 l2 l3
 (repeat' (first | exact trivial | exact Aa _ | exact Ya _ | exact Ba _ | exact Nat.le_refl _ | refine And.intro ?_ ?_)) <;> (first | omega | exact z | (unfold La; omega) | exact List.length_map _ | (show Is _ _ _; exact rfl) | skip)
 exact ⟨K⟩
noncomputable def T15 : Tab := fun f xs => match f, xs with
 | 46, [.agg cs, .agg bs] => some ([Oa cs ∧ cs.length = 16 ∧ Oa bs ∧ bs.length = 16], .agg (hide ((Yd (cs.map Ea) (bs.map Ea)).map U8)))
 | f, xs => T14 f xs
theorem T15_ok : Oc Try.prog T15 := by
 intro f xs cs r h hc
 unfold T15 at h
 split at h
 ·obtain ⟨rfl, rfl⟩ := Prod.mk.inj (Option.some.inj h)
  obtain ⟨h1, h2, h3, h4⟩ := hc.1
  rename_i cs bs
  have := s46 (cs.map Ea) (bs.map Ea) (by rw [List.length_map]; exact h2) (by rw [List.length_map]; exact h4)
  rw [← h1, ← h3] at this
  rw [Ja]
  exact ⟨⟨_, _, ok46⟩, this, Jb _ (fun _ => rfl) _⟩
 ·exact T14_ok _ _ _ _ h hc
noncomputable def T16 : Tab := T15
theorem T16_ok : Oc Try.prog T16 := T15_ok
theorem encF_len (key b : List (BitVec 8)) : (Yd key b).length = 16 := encN_len _ _ _
noncomputable def T17 : Tab := T16
theorem T17_ok : Oc Try.prog T17 := T16_ok
theorem kflat (ks : List (BitVec 8)) (b : Bool) : Flat (Bb b :: ks.map U8) := fun c h => by
 rcases List.mem_cons.1 h with rfl | h
 ·rfl
 ·exact Aa _ c h
theorem tab16_set (f g : Nat → BitVec 8) {j : Nat} (hj : j < 16) {v : BitVec 8} (h1 : g j = v) (h2 : ∀ i, i < 16 → i ≠ j → g i = f i) : (tab16 f).set j v = tab16 g := by
 apply List.ext_getElem (by rw [List.length_set, Ob, Ob])
 intro i h3 h4
 rw [Ob] at h4
 have e : ∀ k : Nat → BitVec 8, ∀ h : i < (tab16 k).length, (tab16 k)[i] = k i := fun k h => by
  have := Yc k h4
  rw [List.getD_eq_getElem?_getD, List.getElem?_eq_getElem h] at this
  exact this
 rw [List.getElem_set, e]
 split
 ·rename_i hji; subst hji; exact h1.symm.trans (e g _).symm
 ·rename_i hji; rw [e]; exact (h2 i h4 (fun e => hji e.symm)).symm
noncomputable def T18 : Tab := T17
theorem T18_ok : Oc Try.prog T18 := T17_ok
theorem u8_inj {a b : List (BitVec 8)} (h : a.map U8 = b.map U8) : a = b := by
 have := congrArg (List.map Ea) h
 rwa [Ua, Ua] at this
theorem same_u8 (a b : List (BitVec 8)) : Ld (a.map U8) (b.map U8) = decide (a = b) := by
 unfold Ld
 exact decide_eq_decide.2 ⟨u8_inj, fun h => by rw [h]⟩
end DH
