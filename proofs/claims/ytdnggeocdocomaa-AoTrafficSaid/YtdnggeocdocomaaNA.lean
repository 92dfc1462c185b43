/- Walks of functions, each by evaluation: what each returns; with the layer beneath. -/
import Derived.Test.YtdnggeocdocomaaJC
import Derived.Test.YtdnggeocdocomaaJA
set_option linter.unusedVariables false
set_option linter.unusedSimpArgs false
noncomputable section
namespace DH
set_option maxRecDepth 100000
open List (take drop replicate)
open AC renaming u8 → U8, u16 → Va, u32 → Fa, u64 → Nc, i64 → I64, b → Bb, xs → XS, gs → GS, sv → SV, ptr → PT, any → AY, ns → NS
open AV renaming one → O1, agg → AG, Ec → TU
open Go Go.Proofs
theorem ok64 : Ac Try.prog 64 Try.f64 (Na Try.f64) := .of Try.func64 (by kernel_rfl) (by kernel_rfl)
theorem ok65 : Ac Try.prog 65 Try.f65 (Na Try.f65) := .of Try.func65 (by kernel_rfl) (by kernel_rfl)
theorem ok66 : Ac Try.prog 66 Try.f66 (Na Try.f66) := .of Try.func66 (by kernel_rfl) (by kernel_rfl)
theorem ok67 : Ac Try.prog 67 Try.f67 (Na Try.f67) := .of Try.func67 (by kernel_rfl) (by kernel_rfl)
theorem ok69 : Ac Try.prog 69 Try.f69 (Na Try.f69) := .of Try.func69 (by kernel_rfl) (by kernel_rfl)
theorem ok71 : Ac Try.prog 71 Try.f71 (Na Try.f71) := .of Try.func71 (by kernel_rfl) (by kernel_rfl)
theorem ok72 : Ac Try.prog 72 Try.f72 (Na Try.f72) := .of Try.func72 (by kernel_rfl) (by kernel_rfl)
theorem ok113 : Ac Try.prog 113 Try.f113 (Na Try.f113) := .of Try.func113 (by kernel_rfl) (by kernel_rfl)
theorem ok114 : Ac Try.prog 114 Try.f114 (Na Try.f114) := .of Try.func114 (by kernel_rfl) (by kernel_rfl)
def WNA0 : WC := ⟨baseK T18 mf13 M13,baseK_ok T18 mf13 M13,baseK_call T18_ok M13_ok⟩
theorem vc66 {X} {Q : QT} (hX : PX X) (bs : List AC) (h : ((0:Int)<=(0:Int)/\(0:Int)<(↑16:Int))/\gt AY bs 0=U8 (Ea (gt AY bs 0))/\Flat bs/\Flat (replicate 16 (U8 0))/\KR X 66 0 Q (Fb Try.f66 0) (mkS 32 [(1,O1 (PT 0 0)),(2,O1 (PT 1 0)),(3,O1 (U8 (BitVec.ofInt 8 0))),(4,O1 (U8 (Ea (gt AY bs 0)>>>7))),(5,O1 (I64 (15:Int)))]) [some bs,some (replicate 16 (U8 0))]) : Ia X 66 0 Q ([.code (Na Try.f66)]) (slots [.agg bs] Try.f66.ntmps) [] :=
 wR' hX WNA0 ok66 [10] [(6,12)] false (CS.mk [] [] [0] []) true [(4,LS.mk [1,2,3,4,5] (CS.mk [] [true,true] [] []))] 2000 h (by kernel_rfl)
theorem vc66a {X} {Q : QT} (hX : PX X) (bs zs : List AC) (c g:BitVec 8) (i:Int) (h : (fun D1 : Nat=>(fun D0 : List AC=>(decide ((0:Int)<=i)=true->((0:Int)<=i/\i<(↑16:Int))/\gt AY bs D1=U8 (Ea (gt AY bs D1))/\((0:Int)<=i/\i<(↑16:Int))/\gt AY bs D1=U8 (Ea (gt AY bs D1))/\((0:Int)<=i/\i<(↑16:Int))/\(1=1/\0+Int.toNat i*1+1<=List.length bs)/\La (i - (1:Int))/\Flat (Qa bs D1 [U8 (Ea (gt AY bs D1)<<<1|||c)])/\Flat zs/\KR X 66 0 Q (Fb Try.f66 0) (mkS 32 [(1,O1 (PT 0 0)),(2,O1 (PT 1 0)),(3,O1 (U8 (Ea (gt AY bs D1)>>>7))),(4,O1 (U8 g)),(5,O1 (I64 (i - (1:Int))))]) [some (Qa bs D1 [U8 (Ea (gt AY bs D1)<<<1|||c)]),some zs])/\(decide ((0:Int)<=i)=false->((0:Int)<=(15:Int)/\(15:Int)<(↑16:Int))/\gt AY bs 15=U8 (Ea (gt AY bs 15))/\((0:Int)<=(15:Int)/\(15:Int)<(↑16:Int))/\(1=1/\16<=List.length bs)/\16<=List.length D0/\(List.length (take 16 (drop 0 D0))=16/\16<=List.length zs)/\16<=List.length (Qa zs 0 (take 16 (drop 0 D0)))/\Za (AG (take 16 (drop 0 (Qa zs 0 (take 16 (drop 0 D0))))))/\Q (AG (take 16 (drop 0 (Qa zs 0 (take 16 (drop 0 D0)))))) [])) (Qa bs 15 [U8 (Ea (gt AY bs 15)^^^g*BitVec.ofInt 8 135)])) (0+Int.toNat i*1)) : Ia X 66 0 Q (Fb Try.f66 0) (mkS 32 [(1,.one (.ptr 0 0)),(2,.one (.ptr 1 0)),(3,.one (.u8 c)),(4,.one (.u8 g)),(5,.one (.i64 i))]) [some bs,some zs] :=
 wR' hX WNA0 ok66 [10] [(6,12)] false (CS.mk [] [] [0] []) true [(4,LS.mk [1,2,3,4,5] (CS.mk [] [true,true] [] []))] 2000 h (by kernel_rfl)
theorem vc67 {X} {Q : QT} (hX : PX X) (bs : List AC) (h : Flat bs/\Flat (replicate 16 (U8 0))/\Flat (replicate 16 (U8 0))/\KR X 67 0 Q (Fb Try.f67 0) (mkS 37 [(1,O1 (PT 0 0)),(2,O1 (PT 1 0)),(3,O1 (PT 2 0)),(4,O1 (I64 (0:Int)))]) [some bs,some (replicate 16 (U8 0)),some (replicate 16 (U8 0))]) : Ia X 67 0 Q ([.code (Na Try.f67)]) (slots [.agg bs] Try.f67.ntmps) [] :=
 wR' hX WNA0 ok67 [6,16,22,31] [] false (CS.mk [] [] [0] []) true [(3,LS.mk [1,2,3,4] (CS.mk [] [true,true,true] [] []))] 2000 h (by kernel_rfl)
theorem vc67a {X} {Q : QT} (hX : PX X) (bs zs os : List AC) (i:Int) (h : (fun D4 : Nat=>(fun D3 : List AC=>(fun D2 : Nat=>(fun D1 : List AC=>(fun D0 : List AC=>(fun L0 : Prop=>(decide (i<(16:Int))=true->((0:Int)<=i/\i<(↑16:Int))/\gt AY bs D2=U8 (Ea (gt AY bs D2))/\((0:Int)<=i/\i<(↑16:Int))/\(1=1/\0+Int.toNat i*1+1<=List.length os)/\(decide (i<(15:Int))=true->La (i+(1:Int))/\((0:Int)<=i+(1:Int)/\i+(1:Int)<(↑16:Int))/\gt AY bs D4=U8 (Ea (gt AY bs D4))/\(decide (BitVec.ofInt 8 128<=Ea (gt AY bs D4))=true->((0:Int)<=i/\i<(↑16:Int))/\gt AY D0 D2=U8 (Ea (gt AY D0 D2))/\((0:Int)<=i/\i<(↑16:Int))/\(1=1/\0+Int.toNat i*1+1<=List.length D0)/\La (i+(1:Int))/\Flat bs/\Flat zs/\Flat (Qa D0 D2 [U8 (Ea (gt AY D0 D2)+BitVec.ofInt 8 1)])/\KR X 67 0 Q (Fb Try.f67 0) (mkS 37 [(1,O1 (PT 0 0)),(2,O1 (PT 1 0)),(3,O1 (PT 2 0)),(4,O1 (I64 (i+(1:Int))))]) [some bs,some zs,some (Qa D0 D2 [U8 (Ea (gt AY D0 D2)+BitVec.ofInt 8 1)])])/\(decide (BitVec.ofInt 8 128<=Ea (gt AY bs D4))=false->L0))/\(decide (i<(15:Int))=false->L0))/\(decide (i<(16:Int))=false->((0:Int)<=(0:Int)/\(0:Int)<(↑16:Int))/\gt AY bs 0=U8 (Ea (gt AY bs 0))/\(decide (BitVec.ofInt 8 128<=Ea (gt AY bs 0))=true->((0:Int)<=(15:Int)/\(15:Int)<(↑16:Int))/\gt AY os 15=U8 (Ea (gt AY os 15))/\((0:Int)<=(15:Int)/\(15:Int)<(↑16:Int))/\(1=1/\16<=List.length os)/\16<=List.length D1/\(List.length (take 16 (drop 0 D1))=16/\16<=List.length zs)/\16<=List.length (Qa zs 0 (take 16 (drop 0 D1)))/\Za (AG (take 16 (drop 0 (Qa zs 0 (take 16 (drop 0 D1))))))/\Q (AG (take 16 (drop 0 (Qa zs 0 (take 16 (drop 0 D1)))))) [])/\(decide (BitVec.ofInt 8 128<=Ea (gt AY bs 0))=false->16<=List.length os/\(List.length (take 16 (drop 0 os))=16/\16<=List.length zs)/\16<=List.length D3/\Za (AG (take 16 (drop 0 D3)))/\Q (AG (take 16 (drop 0 D3))) []))) (La (i+(1:Int))/\Flat bs/\Flat zs/\Flat D0/\KR X 67 0 Q (Fb Try.f67 0) (mkS 37 [(1,O1 (PT 0 0)),(2,O1 (PT 1 0)),(3,O1 (PT 2 0)),(4,O1 (I64 (i+(1:Int))))]) [some bs,some zs,some D0])) (Qa os D2 [U8 (Ea (gt AY bs D2)<<<1)])) (Qa os 15 [U8 (Ea (gt AY os 15)^^^BitVec.ofInt 8 135)])) (0+Int.toNat i*1)) (Qa zs 0 (take 16 (drop 0 os)))) (0+Int.toNat (i+(1:Int))*1)) : Ia X 67 0 Q (Fb Try.f67 0) (mkS 37 [(1,.one (.ptr 0 0)),(2,.one (.ptr 1 0)),(3,.one (.ptr 2 0)),(4,.one (.i64 i))]) [some bs,some zs,some os] :=
 wR' hX WNA0 ok67 [6,16,22,31] [] false (CS.mk [] [] [0] []) true [(3,LS.mk [1,2,3,4] (CS.mk [] [true,true,true] [] []))] 2000 h (by kernel_rfl)
def shB (b : List (BitVec 8)) (j:Nat) : BitVec 8 := b.getD j 0 <<< 1 ||| b.getD (j + 1) 0 >>> 7
def DBl (b : List (BitVec 8)) (k:Nat) : List (BitVec 8) := tab16 fun j => if k ≤ j then shB b j else b.getD j 0
theorem DBl_len (b : List (BitVec 8)) (k:Nat) : (DBl b k).length = 16 := Ob _
theorem DBl_16 {b : List (BitVec 8)} (hb : b.length = 16) : DBl b 16 = b := by
 unfold DBl
 refine Eq.trans (tab16_ext fun i hi => ?_) (tab16_self hb)
 rw [if_neg (by omega)]
theorem DBl_set (b : List (BitVec 8)) {k : Nat} (hk : k < 16) : (DBl b (k + 1)).set k (shB b k) = DBl b k := by
 unfold DBl
 refine tab16_set _ _ hk (if_pos (Nat.le_refl _)) fun i _ hne => ?_
 by_cases h : k + 1 ≤ i
 ·rw [if_pos h, if_pos (by omega)]
 ·rw [if_neg h, if_neg (by omega)]
theorem DBl_end (b : List (BitVec 8)) : (DBl b 0).set 15 (shB b 15 ^^^ b.getD 0 0 >>> 7 * 135#8) = dbN b := by
 unfold DBl dbN
 refine tab16_set _ _ (by decide) (by rw [if_pos rfl]; rfl) fun i _ hne => ?_
 rw [if_neg hne, if_pos (Nat.zero_le _), BitVec.xor_zero]
 rfl
theorem DBl_get (b : List (BitVec 8)) {k : Nat} (hk : k < 16) : (DBl b (k + 1)).getD k 0 = b.getD k 0 := by
 unfold DBl
 rw [Yc _ hk, if_neg (by omega)]
theorem l66a {X : Ctx} (hX : X.P = Try.prog) (b : List (BitVec 8)) (hb : b.length = 16) : ∀ (k:Nat), k ≤ 16 →
  Ia X 66 0 (Is (.agg ((dbN b).map U8))) (Fb Try.f66 0) (mkS 32 [(1, .one (.ptr 0 0)), (2, .one (.ptr 1 0)), (3, .one (.u8 (b.getD k 0 >>> 7))), (4, .one (.u8 (b.getD 0 0 >>> 7))), (5, .one (.i64 ((k:Int) - 1)))]) [some ((DBl b k).map U8), some (replicate 16 (U8 0))] := by
 have z : Flat (replicate 16 (U8 0)) := by rw [Jd]; exact Aa _
 intro k
 induction k with
 | zero =>
  intro hk
  have hl := DBl_len b 0
  have g15 := Cb (DBl b 0) 15 (by omega)
  rw [show (DBl b 0).getD 15 0 = shB b 15 from Yc _ (by decide)] at g15
  have o : BitVec.ofInt 8 135 = 135#8 := rfl
  have he := DBl_end b
  have hd := dbN_len b
  have ed : (dbN b).take 16 = dbN b := List.take_of_length_le (by omega)
  have ld : Qa (replicate 16 (U8 0)) 0 ((dbN b).map U8) = (dbN b).map U8 := Ae _ _ hd
  refine vc66a hX _ _ _ _ _ ⟨fun h => absurd (of_decide_eq_true h) (by omega), fun _ => ?_⟩
  simp only [g15, Ea, o, Xd, he, tkm, tk0, List.drop_zero, ed, ld, List.length_map, List.length_replicate, hl, hd]
  (repeat' (first | exact trivial | exact Aa _ | exact Ya _ | exact Ba _ | exact Nat.le_refl _ | refine And.intro ?_ ?_)) <;> (first | omega | exact z | (unfold La; omega) | exact List.length_map _ | (show Is _ _ _; exact rfl) | skip)
 | succ k ih =>
  intro hk
  have ih := ih (by omega)
  have hl := DBl_len b (k + 1)
  have g0 := Cb (DBl b (k + 1)) k (by omega)
  rw [DBl_get b (by omega)] at g0
  have hs := DBl_set b (k := k) (by omega)
  have hs : (DBl b (k + 1)).set k (b.getD k 0 <<< 1 ||| b.getD (k + 1) 0 >>> 7) = DBl b k := hs
  have ek : ((k + 1:Nat):Int) - 1 = (k:Int) := by omega
  rw [ek]
  refine vc66a hX _ _ _ _ _ ⟨fun _ => ?_, fun h => absurd (of_decide_eq_false h) (by omega)⟩
  simp only [ixn, g0, Ea, Xd, hs, List.length_map, hl]
  (repeat' (first | exact trivial | exact Aa _ | exact Ya _ | exact Ba _ | exact Nat.le_refl _ | refine And.intro ?_ ?_)) <;> (first | omega | exact z | (unfold La; omega) | exact List.length_map _ | (show Is _ _ _; exact rfl) | skip)
  exact ⟨ih⟩
theorem s66 (b : List (BitVec 8)) (hb : b.length = 16) : Spec Try.prog 66 [.agg (b.map U8)] [] (Is (.agg ((dbN b).map U8))) := by
 refine Spec.of_run ok66 fun X hX => vc66 hX _ ?_
 have K := l66a hX b hb 16 (Nat.le_refl _)
 rw [DBl_16 hb, show b.getD 16 0 = 0 by rw [List.getD_eq_getElem?_getD, List.getElem?_eq_none (by omega)]; rfl] at K
 have z : Flat (replicate 16 (U8 0)) := by rw [Jd]; exact Aa _
 have g0 := Cb b 0 (by omega)
 simp only [g0, Ea]
 (repeat' (first | exact trivial | exact Aa _ | exact Ya _ | exact Ba _ | exact Nat.le_refl _ | refine And.intro ?_ ?_)) <;> (first | omega | exact z | (unfold La; omega) | exact List.length_map _ | (show Is _ _ _; exact rfl) | skip)
 exact ⟨K⟩
def OBl (b : List (BitVec 8)) (k:Nat) : List (BitVec 8) := tab16 fun j => if j < k then shB b j else 0#8
theorem OBl_len (b : List (BitVec 8)) (k:Nat) : (OBl b k).length = 16 := Ob _
theorem OBl_0 (b : List (BitVec 8)) : OBl b 0 = replicate 16 0 := by
 unfold OBl
 refine Eq.trans (tab16_ext fun i hi => ?_) (tab16_self (b := replicate 16 0) List.length_replicate)
 rw [if_neg (by omega), getD_rep _ _ _ hi]; rfl
theorem OBl_set (b : List (BitVec 8)) {k : Nat} (hk : k < 16) {x : BitVec 8} (hx : x = shB b k) : (OBl b k).set k x = OBl b (k + 1) := by
 unfold OBl
 refine tab16_set _ _ hk (by rw [if_pos (by omega), hx]) fun i _ hne => ?_
 by_cases h : i < k
 ·rw [if_pos h, if_pos (by omega)]
 ·rw [if_neg h, if_neg (by omega)]
theorem OBl_set2 (b : List (BitVec 8)) {k : Nat} (hk : k < 16) {x y : BitVec 8} (hx : x = shB b k) : ((OBl b k).set k y).set k x = OBl b (k + 1) := by
 rw [List.set_set]
 exact OBl_set b hk hx
theorem OBl_end (b : List (BitVec 8)) : (OBl b 16).set 15 (shB b 15 ^^^ b.getD 0 0 >>> 7 * 135#8) = dbN b := by
 unfold OBl dbN
 refine tab16_set _ _ (by decide) (by rw [if_pos rfl]; rfl) fun i hi hne => ?_
 rw [if_neg hne, if_pos hi, BitVec.xor_zero]
 rfl
theorem o3 : (List.range 256).all (fun n => let y := BitVec.ofNat 8 n; (decide (128#8 ≤ y) == decide (y >>> 7 = 1#8)) && (decide (128#8 ≤ y) == !(decide (y >>> 7 = 0#8))) && decide (y <<< 1 + 1#8 = (y <<< 1 ||| 1#8)) && decide (y <<< 1 = (y <<< 1 ||| 0#8))) = true := by kernel_rfl
theorem o3_at (y:BitVec 8) : (128#8 ≤ y ↔ y >>> 7 = 1#8) ∧ (¬ 128#8 ≤ y ↔ y >>> 7 = 0#8) ∧ y <<< 1 + 1#8 = (y <<< 1 ||| 1#8) ∧ y <<< 1 = (y <<< 1 ||| 0#8) := by
 have := all8 (p := fun y => (decide (128#8 ≤ y) == decide (y >>> 7 = 1#8)) && (decide (128#8 ≤ y) == !(decide (y >>> 7 = 0#8))) && decide (y <<< 1 + 1#8 = (y <<< 1 ||| 1#8)) && decide (y <<< 1 = (y <<< 1 ||| 0#8))) o3 y
 simp only [Bool.and_eq_true, decide_eq_true_eq, beq_iff_eq] at this
 obtain ⟨⟨⟨h1, h2⟩, h3⟩, h4⟩ := this
 refine ⟨by rw [← decide_eq_true_iff (p := 128#8 ≤ y), h1, decide_eq_true_iff], ?_, h3, h4⟩
 rw [← decide_eq_true_iff (p := 128#8 ≤ y), h2]
 simp
theorem get_set_self (l : List (BitVec 8)) {k : Nat} (h : k < l.length) (x:BitVec 8) : (l.set k x).getD k 0 = x := by
 rw [List.getD_eq_getElem?_getD, List.getElem?_set_self h]
 rfl
theorem l67a {X : Ctx} (hX : X.P = Try.prog) (b : List (BitVec 8)) (hb : b.length = 16) : ∀ (d k:Nat), k + d = 16 →
  Ia X 67 0 (Is (.agg ((dbN b).map U8))) (Fb Try.f67 0) (mkS 37 [(1, .one (.ptr 0 0)), (2, .one (.ptr 1 0)), (3, .one (.ptr 2 0)), (4, .one (.i64 k))]) [some (b.map U8), some (replicate 16 (U8 0)), some ((OBl b k).map U8)] := by
 have z : Flat (replicate 16 (U8 0)) := by rw [Jd]; exact Aa _
 have o128 : BitVec.ofInt 8 128 = 128#8 := rfl
 have o1 : BitVec.ofInt 8 1 = 1#8 := rfl
 intro d
 induction d with
 | zero =>
  intro k hk
  have hk : k = 16 := by omega
  subst hk
  have hl := OBl_len b 16
  have g0 := Cb b 0 (by omega)
  have g15 := Cb (OBl b 16) 15 (by omega)
  rw [show (OBl b 16).getD 15 0 = shB b 15 from Yc _ (by decide)] at g15
  have o : BitVec.ofInt 8 135 = 135#8 := rfl
  have he := OBl_end b
  have hd := dbN_len b
  have ed : (dbN b).take 16 = dbN b := List.take_of_length_le (by omega)
  have ld : Qa (replicate 16 (U8 0)) 0 ((dbN b).map U8) = (dbN b).map U8 := Ae _ _ hd
  obtain ⟨h1, h2, _, _⟩ := o3_at (b.getD 0 0)
  refine vc67a hX _ _ _ _ ⟨fun h => absurd (of_decide_eq_true h) (by omega), fun _ => ?_⟩
  simp only [g0, g15, Ea, o, o128]
  refine ⟨by omega, trivial, fun h => ?_, fun h => ?_⟩
  ·have h := h1.1 (of_decide_eq_true h)
   rw [h, show (1#8 * 135#8:BitVec 8) = 135#8 from rfl] at he
   simp only [Xd, he, tkm, tk0, List.drop_zero, ed, ld, List.length_map, List.length_replicate, hl, hd]
   (repeat' (first | exact trivial | exact Aa _ | exact Ya _ | exact Ba _ | exact Nat.le_refl _ | refine And.intro ?_ ?_)) <;> (first | omega | exact z | (unfold La; omega) | exact List.length_map _ | (show Is _ _ _; exact rfl) | skip)
  ·have h := h2.1 (of_decide_eq_false h)
   have e : OBl b 16 = dbN b := by
    rw [← he, h, show (0#8 * 135#8:BitVec 8) = 0#8 from rfl, BitVec.xor_zero]
    rw [← show (OBl b 16).getD 15 0 = shB b 15 from Yc _ (by decide)]
    apply List.ext_getElem (by rw [List.length_set])
    intro j h3 h4
    rw [List.getElem_set]
    split
    ·rename_i hj; subst hj; rw [List.getD_eq_getElem?_getD, List.getElem?_eq_getElem h3]; rfl
    ·rfl
   simp only [e, tkm, tk0, List.drop_zero, ed, ld, List.length_map, List.length_replicate, hd]
   (repeat' (first | exact trivial | exact Aa _ | exact Ya _ | exact Ba _ | exact Nat.le_refl _ | refine And.intro ?_ ?_)) <;> (first | omega | exact z | (unfold La; omega) | exact List.length_map _ | (show Is _ _ _; exact rfl) | skip)
 | succ d ih =>
  intro k hk
  have ih := ih (k + 1) (by omega)
  have hl := OBl_len b k
  have g0 := Cb b k (by omega)
  have hls : ∀ x, ((OBl b k).set k x).length = 16 := fun x => by rw [List.length_set]; exact hl
  have gs : ∀ x, gt AY (((OBl b k).set k x).map U8) k = .u8 x := fun x => by rw [Cb _ _ (by rw [hls]; omega), get_set_self _ (by omega)]
  have ek : (k:Int) + 1 = ((k + 1:Nat):Int) := by omega
  obtain ⟨_, _, h3, h4⟩ := o3_at (b.getD k 0)
  refine vc67a hX _ _ _ _ ⟨fun _ => ?_, fun h => absurd (of_decide_eq_false h) (by omega)⟩
  by_cases h15 : k < 15
  ·have g1 := Cb b (k + 1) (by omega)
   obtain ⟨h1, h2, _, _⟩ := o3_at (b.getD (k + 1) 0)
   rw [ek]
   simp only [ixn, g0, g1, Ea, Xd, gs, o128, o1, List.length_map, hl, hls]
   have e1 : decide ((k:Int) < 15) = true := decide_eq_true (by omega)
   simp only [e1, true_implies, Bool.true_eq_false, false_implies, and_true]
   (repeat' (first | exact trivial | exact Aa _ | exact Ya _ | exact Ba _ | exact Nat.le_refl _ | refine And.intro ?_ ?_)) <;> (first | omega | exact z | (unfold La; omega) | exact List.length_map _ | (show Is _ _ _; exact rfl) | skip)
   ·intro h
    have h := h1.1 (of_decide_eq_true h)
    have hs := OBl_set2 b (k := k) (by omega) (x := b.getD k 0 <<< 1 + 1#8) (y := b.getD k 0 <<< 1) (by rw [h3]; unfold shB; rw [h])
    rw [hs]
    (repeat' (first | exact trivial | exact Aa _ | exact Ya _ | exact Ba _ | exact Nat.le_refl _ | refine And.intro ?_ ?_)) <;> (first | omega | exact z | (unfold La; omega) | exact List.length_map _ | (show Is _ _ _; exact rfl) | skip)
    exact ⟨ih⟩
   ·intro h
    have h := h2.1 (of_decide_eq_false h)
    have hs := OBl_set b (k := k) (by omega) (x := b.getD k 0 <<< 1) (by rw [h4]; unfold shB; rw [h])
    rw [hs]
    (repeat' (first | exact trivial | exact Aa _ | exact Ya _ | exact Ba _ | exact Nat.le_refl _ | refine And.intro ?_ ?_)) <;> (first | omega | exact z | (unfold La; omega) | exact List.length_map _ | (show Is _ _ _; exact rfl) | skip)
    exact ⟨ih⟩
  ·have hs := OBl_set b (k := k) (by omega) (x := b.getD k 0 <<< 1) (by rw [h4]; unfold shB; rw [show b.getD (k + 1) 0 = 0 by rw [List.getD_eq_getElem?_getD, List.getElem?_eq_none (by omega)]; rfl]; rfl)
   simp only [ixn, g0, Ea, Xd, hs, List.length_map, hl]
   have e1 : decide ((k:Int) < 15) = false := decide_eq_false (by omega)
   simp only [e1, true_implies, Bool.false_eq_true, false_implies, true_and]
   (repeat' (first | exact trivial | exact Aa _ | exact Ya _ | exact Ba _ | exact Nat.le_refl _ | refine And.intro ?_ ?_)) <;> (first | omega | exact z | (unfold La; omega) | exact List.length_map _ | (show Is _ _ _; exact rfl) | skip)
   exact ⟨ih⟩
theorem s67 (b : List (BitVec 8)) (hb : b.length = 16) : Spec Try.prog 67 [.agg (b.map U8)] [] (Is (.agg ((dbN b).map U8))) := by
 refine Spec.of_run ok67 fun X hX => vc67 hX _ ?_
 have K := l67a hX b hb 16 0 rfl
 rw [OBl_0, List.map_replicate] at K
 have z : Flat (replicate 16 (U8 0)) := by rw [Jd]; exact Aa _
 (repeat' (first | exact trivial | exact Aa _ | exact Ya _ | exact Ba _ | exact Nat.le_refl _ | refine And.intro ?_ ?_)) <;> (first | omega | exact z | (unfold La; omega) | exact List.length_map _ | (show Is _ _ _; exact rfl) | skip)
 exact ⟨K⟩
open Go
theorem gt_seg (a b c : List AC) {i : Nat} (h : i < b.length) : gt AY (a ++ (b ++ c)) (a.length + i) = gt AY b i := by
 rw [gt_eq, gt_eq, List.getElem?_append_right (by omega), Nat.add_sub_cancel_left, List.getElem?_append_left h]
theorem tk_seg {α : Type} (a b c : List α) : take b.length (drop a.length (a ++ (b ++ c))) = b := by
 rw [List.drop_left, List.take_left]
theorem lay_seg (a b c cs : List AC) {o : Nat} (h : o + cs.length ≤ b.length) : lay (a ++ (b ++ c)) (a.length + o) cs = a ++ (lay b o cs ++ c) := by
 unfold lay
 have e1 : (a ++ (b ++ c)).take (a.length + o) = a ++ b.take o := by
  rw [List.take_append, List.take_of_length_le (by omega), Nat.add_sub_cancel_left, List.take_append_of_le_length (by omega)]
 have e2 : (a ++ (b ++ c)).drop (a.length + o + cs.length) = b.drop (o + cs.length) ++ c := by
  rw [List.drop_append, List.drop_of_length_le (by omega), List.nil_append, List.drop_append_of_le_length (by omega)]
  congr 2
  omega
 rw [e1, e2]
 simp only [List.append_assoc]
theorem lay_u8 (l p : List (BitVec 8)) (o:Nat) : lay (l.map U8) o (p.map U8) = (l.take o ++ p ++ l.drop (o + p.length)).map U8 := by
 unfold lay
 rw [List.length_map, ← List.map_take, ← List.map_drop, ← List.map_append, ← List.map_append]
theorem lay_all' {α : Type} {l cs : List α} (h : cs.length = l.length) : lay l 0 cs = cs := by
 unfold lay
 rw [List.take_zero, List.nil_append, List.drop_of_length_le (by omega), List.append_nil]
theorem layS_seg (a b c cs : List AC) {o : Nat} (h : o + cs.length ≤ b.length) : Qa (a ++ (b ++ c)) (a.length + o) cs = a ++ (lay b o cs ++ c) := by
 rw [layS_eq (by simp only [List.length_append]; omega), lay_seg a b c cs h]
theorem lay_1u (l : List (BitVec 8)) {i : Nat} (h : i < l.length) (v:BitVec 8) : lay (l.map U8) i [U8 v] = (l.set i v).map U8 := by
 have := layS_eq (row := l.map U8) (o := i) (cs := [U8 v]) (by rw [List.length_map]; exact h)
 rw [← this]
 exact Xd l i v
def bt (key x l : List (BitVec 8)) (n:Nat) : List AC := hide ((Zd key 176).map U8 ++ (x.map U8 ++ (l.map U8 ++ [I64 n])))
def bc (key x l : List (BitVec 8)) (n:Nat) : List AC := Bb true :: bt key x l n
theorem bc_eq (key x l : List (BitVec 8)) (n:Nat) : Bb true :: bt key x l n = bc key x l n := rfl
def bk1 (key : List (BitVec 8)) : List AC := Bb true :: (Zd key 176).map U8
theorem bk1_len (key : List (BitVec 8)) : (bk1 key).length = 177 := by
 have hE := Jc key 176
 unfold bk1
 generalize Zd key 176 = E at hE
 rw [List.length_cons, List.length_map, hE]
theorem bc_1 (key x l : List (BitVec 8)) (n:Nat) : bc key x l n = bk1 key ++ (x.map U8 ++ (l.map U8 ++ [I64 n])) := by
 unfold bc bt bk1
 rw [Ja]
 generalize Zd key 176 = E
 rw [List.cons_append]
theorem bc_2 (key x l : List (BitVec 8)) (n:Nat) : bc key x l n = (bk1 key ++ x.map U8) ++ (l.map U8 ++ [I64 n]) := by rw [bc_1, List.append_assoc]
theorem bc_3 (key x l : List (BitVec 8)) (n:Nat) : bc key x l n = (bk1 key ++ x.map U8 ++ l.map U8) ++ ([I64 n] ++ []) := by rw [bc_2, List.append_nil, ← List.append_assoc]
section
variable {key x l : List (BitVec 8)} {n : Nat}
theorem bc_len (hx : x.length = 16) (hl : l.length = 16) : (bc key x l n).length = 210 := by
 rw [bc_1]
 simp only [List.length_append, bk1_len, List.length_map, hx, hl, List.length_singleton]
theorem bc_key : take 177 (drop 0 (bc key x l n)) = Bb true :: (Zd key 176).map U8 := by
 rw [bc_1, List.drop_zero, List.take_append_of_le_length (by rw [bk1_len]; exact Nat.le_refl _), List.take_of_length_le (by rw [bk1_len]; exact Nat.le_refl _)]
 rfl
theorem bt_key : take 176 (bt key x l n) = (Zd key 176).map U8 := by
 have hE := Jc key 176
 unfold bt
 rw [Ja]
 generalize Zd key 176 = E at hE
 rw [List.take_append_of_le_length (by rw [List.length_map, hE]; exact Nat.le_refl _), List.take_of_length_le (by rw [List.length_map, hE]; exact Nat.le_refl _)]
theorem bc_x (hx : x.length = 16) : take 16 (drop 177 (bc key x l n)) = x.map U8 := by
 have := tk_seg (bk1 key) (x.map U8) (l.map U8 ++ [I64 n])
 rw [bk1_len, List.length_map, hx] at this
 rw [bc_1]
 exact this
theorem bp_len (hx : x.length = 16) : (bk1 key ++ x.map U8).length = 193 := by rw [List.length_append, bk1_len, List.length_map, hx]
theorem bq_len (hx : x.length = 16) (hl : l.length = 16) : (bk1 key ++ x.map U8 ++ l.map U8).length = 209 := by rw [List.length_append, bp_len hx, List.length_map, hl]
theorem bc_l (hx : x.length = 16) (hl : l.length = 16) : take 16 (drop 193 (bc key x l n)) = l.map U8 := by
 have := tk_seg (bk1 key ++ x.map U8) (l.map U8) [I64 n]
 rw [bp_len hx, List.length_map, hl] at this
 rw [bc_2]
 exact this
theorem bc_n (hx : x.length = 16) (hl : l.length = 16) : gt AY (bc key x l n) 209 = .i64 n := by
 have := gt_seg (bk1 key ++ x.map U8 ++ l.map U8) [I64 n] [] (i := 0) Nat.one_pos
 rw [bq_len hx hl, ← bc_3] at this
 exact this
theorem bc_gx (hx : x.length = 16) {i : Nat} (hi : i < 16) : gt AY (bc key x l n) (177 + i) = .u8 (x.getD i 0) := by
 have := gt_seg (bk1 key) (x.map U8) (l.map U8 ++ [I64 n]) (i := i) (by rw [List.length_map, hx]; exact hi)
 rw [bk1_len, Cb _ _ (by omega)] at this
 rw [bc_1]
 exact this
theorem bc_gl (hx : x.length = 16) (hl : l.length = 16) {i : Nat} (hi : i < 16) : gt AY (bc key x l n) (193 + i) = .u8 (l.getD i 0) := by
 have := gt_seg (bk1 key ++ x.map U8) (l.map U8) [I64 n] (i := i) (by rw [List.length_map, hl]; exact hi)
 rw [bp_len hx, Cb _ _ (by omega), ← bc_2] at this
 exact this
theorem bc_sx (hx : x.length = 16) {y : List (BitVec 8)} (hy : y.length = 16) : Qa (bc key x l n) 177 (y.map U8) = bc key y l n := by
 have := layS_seg (bk1 key) (x.map U8) (l.map U8 ++ [I64 n]) (y.map U8) (o := 0) (by simp only [List.length_map]; omega)
 rw [bk1_len, lay_all' (by simp only [List.length_map]; omega)] at this
 rw [bc_1 key x, bc_1 key y]
 exact this
theorem bc_sl (hx : x.length = 16) (hl : l.length = 16) {y : List (BitVec 8)} (hy : y.length = 16) : Qa (bc key x l n) 193 (y.map U8) = bc key x y n := by
 have := layS_seg (bk1 key ++ x.map U8) (l.map U8) [I64 n] (y.map U8) (o := 0) (by simp only [List.length_map]; omega)
 rw [bp_len hx, lay_all' (by simp only [List.length_map]; omega), ← bc_2, ← bc_2] at this
 exact this
theorem bc_sn (hx : x.length = 16) (hl : l.length = 16) (k:Nat) : Qa (bc key x l n) 209 [I64 k] = bc key x l k := by
 have := layS_seg (bk1 key ++ x.map U8 ++ l.map U8) [I64 n] [] [I64 k] (o := 0) (Nat.le_refl _)
 rw [bq_len hx hl, lay_all' (l := [I64 n]) (cs := [I64 k]) rfl, ← bc_3, ← bc_3] at this
 exact this
theorem bc_sx1 (hx : x.length = 16) {i : Nat} (hi : i < 16) (v:BitVec 8) : Qa (bc key x l n) (177 + i) [U8 v] = bc key (x.set i v) l n := by
 have := layS_seg (bk1 key) (x.map U8) (l.map U8 ++ [I64 n]) [U8 v] (o := i) (by simp only [List.length_map, List.length_singleton]; omega)
 rw [bk1_len, lay_1u _ (by omega)] at this
 rw [bc_1 key x, bc_1 key (x.set i v)]
 exact this
theorem bc_sl1 (hx : x.length = 16) (hl : l.length = 16) {i : Nat} (hi : i < 16) (v:BitVec 8) : Qa (bc key x l n) (193 + i) [U8 v] = bc key x (l.set i v) n := by
 have := layS_seg (bk1 key ++ x.map U8) (l.map U8) [I64 n] [U8 v] (o := i) (by simp only [List.length_map, List.length_singleton]; omega)
 rw [bp_len hx, lay_1u _ (by omega), ← bc_2, ← bc_2] at this
 exact this
theorem bc_slk (hx : x.length = 16) (hl : l.length = 16) {o : Nat} {p : List (BitVec 8)} (h : o + p.length ≤ 16) : lay (bc key x l n) (193 + o) (p.map U8) = bc key x (l.take o ++ p ++ l.drop (o + p.length)) n := by
 have := lay_seg (bk1 key ++ x.map U8) (l.map U8) [I64 n] (p.map U8) (o := o) (by simp only [List.length_map]; omega)
 rw [bp_len hx, lay_u8, ← bc_2, ← bc_2] at this
 exact this
theorem bc_flat : Flat (bc key x l n) := by
 intro c h
 rw [bc_1] at h
 rcases List.mem_append.1 h with h | h
 ·rcases List.mem_cons.1 h with rfl | h
  ·rfl
  ·exact Aa _ c h
 ·rcases List.mem_append.1 h with h | h
  ·exact Aa _ c h
  ·rcases List.mem_append.1 h with h | h
   ·exact Aa _ c h
   ·rw [List.mem_singleton.1 h]; rfl
end
def kO (cs : List AC) : List (BitVec 8) := keyOf (drop 1 cs)
def xO (cs : List AC) : List (BitVec 8) := (take 16 (drop 177 cs)).map Ea
def lO (cs : List AC) : List (BitVec 8) := (take 16 (drop 193 cs)).map Ea
def nO (cs : List AC) : Nat := (Md (gt AY cs 209)).toNat
structure IsB (cs : List AC) : Prop where
 eq : cs = bc (kO cs) (xO cs) (lO cs) (nO cs)
 k : (kO cs).length = 16
 x : (xO cs).length = 16
 l : (lO cs).length = 16
theorem kO_bc {key x l : List (BitVec 8)} {n : Nat} (hk : key.length = 16) : kO (bc key x l n) = key := by
 have h := keyOf_ex key hk
 unfold kO
 show keyOf (bt key x l n) = key
 have e : keyOf (bt key x l n) = keyOf ((Zd key 176).map U8) := by
  have h2 := bt_key (key := key) (x := x) (l := l) (n := n)
  unfold keyOf
  rw [← h2, List.map_take, List.take_take]
  rfl
 rw [e, h]
theorem isB_bc {key x l : List (BitVec 8)} {n : Nat} (hk : key.length = 16) (hx : x.length = 16) (hl : l.length = 16) : IsB (bc key x l n) := by
 have h1 : kO (bc key x l n) = key := kO_bc hk
 have h2 : xO (bc key x l n) = x := by unfold xO; rw [bc_x hx, Ua]
 have h3 : lO (bc key x l n) = l := by unfold lO; rw [bc_l hx hl, Ua]
 have h4 : nO (bc key x l n) = n := by unfold nO; rw [bc_n hx hl]; exact Int.toNat_natCast n
 exact ⟨by rw [h1, h2, h3, h4], by rw [h1]; exact hk, by rw [h2]; exact hx, by rw [h3]; exact hl⟩
theorem xO_bc {key x l : List (BitVec 8)} {n : Nat} (hx : x.length = 16) : xO (bc key x l n) = x := by unfold xO; rw [bc_x hx, Ua]
theorem lO_bc {key x l : List (BitVec 8)} {n : Nat} (hx : x.length = 16) (hl : l.length = 16) : lO (bc key x l n) = l := by unfold lO; rw [bc_l hx hl, Ua]
theorem nO_bc {key x l : List (BitVec 8)} {n : Nat} (hx : x.length = 16) (hl : l.length = 16) : nO (bc key x l n) = n := by unfold nO; rw [bc_n hx hl]; exact Int.toNat_natCast n
structure BT where
 x : List (BitVec 8)
 l : List (BitVec 8)
 n : Nat
def stepB (key : List (BitVec 8)) (s : BT) (c:BitVec 8) : BT :=
 if s.n = 16 then ⟨Yd key (Yb s.x s.l), z16.set 0 c, 1⟩ else ⟨s.x, s.l.set s.n c, s.n + 1⟩
def addB (key : List (BitVec 8)) (s : BT) (p : List (BitVec 8)) : BT := p.foldl (stepB key) s
structure OkB (s : BT) : Prop where
 x : s.x.length = 16
 l : s.l.length = 16
 n : s.n ≤ 16
theorem OkB.step {key : List (BitVec 8)} {s : BT} (h : OkB s) (c:BitVec 8) : OkB (stepB key s c) := by
 unfold stepB
 by_cases hn : s.n = 16
 ·rw [if_pos hn]
  exact ⟨enc16 _ _, by rw [List.length_set]; exact z16_len, by show 1 ≤ 16; decide⟩
 ·rw [if_neg hn]
  exact ⟨h.x, by rw [List.length_set]; exact h.l, by have := h.n; show s.n + 1 ≤ 16; omega⟩
theorem OkB.add {key : List (BitVec 8)} : ∀ {p : List (BitVec 8)} {s : BT}, OkB s → OkB (addB key s p)
 | [], _, h => h
 | c :: p, s, h => OkB.add (p := p) (h.step c)
theorem addB_app (key : List (BitVec 8)) (s : BT) (p q : List (BitVec 8)) : addB key s (p ++ q) = addB key (addB key s p) q := by unfold addB; rw [List.foldl_append]
theorem addB_chunk (key : List (BitVec 8)) : ∀ (p : List (BitVec 8)) (s : BT), OkB s → s.n + p.length ≤ 16 → addB key s p = ⟨s.x, s.l.take s.n ++ p ++ s.l.drop (s.n + p.length), s.n + p.length⟩
 | [], s, h, _ => by
  show s = _
  rw [List.append_nil, List.length_nil, Nat.add_zero, List.take_append_drop]
 | c :: p, s, h, hn => by
  rw [List.length_cons] at hn
  have h1 : stepB key s c = ⟨s.x, s.l.set s.n c, s.n + 1⟩ := by unfold stepB; rw [if_neg (by omega)]
  have h2 := h.step (key := key) c
  rw [h1] at h2
  show addB key (stepB key s c) p = _
  rw [h1, addB_chunk key p _ h2 (by show s.n + 1 + p.length ≤ 16; omega)]
  have hl := h.l
  have e1 : (s.l.set s.n c).take (s.n + 1) = s.l.take s.n ++ [c] := by
   rw [List.take_add_one, List.take_set, List.set_eq_of_length_le (by rw [List.length_take]; omega), List.getElem?_set_self (by omega)]
   rfl
  have e2 : (s.l.set s.n c).drop (s.n + 1 + p.length) = s.l.drop (s.n + (p.length + 1)) := by
   rw [List.drop_set_of_lt (by omega)]
   congr 1
   omega
  show BT.mk s.x ((s.l.set s.n c).take (s.n + 1) ++ p ++ (s.l.set s.n c).drop (s.n + 1 + p.length)) (s.n + 1 + p.length) = _
  rw [e1, e2, List.length_cons]
  congr 1
  ·rw [List.append_assoc (s.l.take s.n), List.singleton_append]
  ·omega
theorem addB_full (key : List (BitVec 8)) (s : BT) (h : s.n = 16) (p : List (BitVec 8)) (hp : p ≠ []) : addB key s p = addB key ⟨Yd key (Yb s.x s.l), z16, 0⟩ p := by
 cases p with
 | nil => exact absurd rfl hp
 | cons c p =>
  show addB key (stepB key s c) p = addB key (stepB key ⟨Yd key (Yb s.x s.l), z16, 0⟩ c) p
  congr 1
  unfold stepB
  rw [if_pos h, if_neg (by show ¬ (0 = 16); decide)]
theorem tookB (key : List (BitVec 8)) (m : List (BitVec 8)) : addB key ⟨z16, z16, 0⟩ m = ⟨xM key m, leftM m, (tlM m).length⟩ := by
 have key' : ∀ (r : List (BitVec 8)), addB key ⟨z16, z16, 0⟩ r.reverse = ⟨xM key r.reverse, leftM r.reverse, (tlM r.reverse).length⟩ := by
  intro r
  induction r with
  | nil => rfl
  | cons c r ih =>
   rw [List.reverse_cons, addB_app, ih]
   generalize r.reverse = m
   show stepB key ⟨xM key m, leftM m, (tlM m).length⟩ c = _
   have hle := tlM_le m
   unfold stepB
   by_cases h : (tlM m).length = 16
   ·obtain ⟨_, e2, e3⟩ := add_full key m [c] (by simp) h (by simp)
    have e4 := left_full m [c] (by simp) h (by simp)
    rw [if_pos h, e2, e3, e4]
    rfl
   ·obtain ⟨_, e2, e3⟩ := add_room key m [c] (by simp) (by rw [List.length_singleton]; omega)
    have e4 := left_room m [c] (by simp) (by rw [List.length_singleton]; omega)
    have hll := leftM_len m
    rw [if_neg h, e2, e3, e4, List.length_append]
    show BT.mk (xM key m) ((leftM m).set (tlM m).length c) ((tlM m).length + 1) = _
    rw [List.set_eq_take_append_cons_drop, if_pos (by omega), List.length_singleton, List.append_assoc]
    rfl
 have := key' m.reverse
 rwa [List.reverse_reverse] at this
def symC (t : TypeId) : Bool := match t with | 3 => true | 150 => true | t => symK t
noncomputable def baseC (T : Tab) (mf : FuncId → Option MF) (M : Ad) : Env := ⟨tys, symC, false, T, [], mf, M, fun _ => none⟩
theorem baseC_ok (T : Tab) (mf : FuncId → Option MF) (M : Ad) : Eb Try.prog (baseC T mf M) := Eb.of tysOk
theorem baseC_call {T : Tab} {mf : FuncId → Option MF} {M : Ad} (hT : Oc Try.prog T) (hM : Xc Try.prog M) : Bc Try.prog (baseC T mf M) :=
 ⟨hT, fun f mf xs m0 cs r m1 _ h hc => hM f xs m0 cs r m1 h hc, (by intro f k h; cases h)⟩
noncomputable def T19 : Tab := fun f xs => match f, xs with
 | 66, [.agg bs] => some ([Oa bs ∧ bs.length = 16], .agg (hide ((dbN (bs.map Ea)).map U8)))
 | 67, [.agg bs] => some ([Oa bs ∧ bs.length = 16], .agg (hide ((dbN (bs.map Ea)).map U8)))
 | f, xs => T18 f xs
theorem T19_ok : Oc Try.prog T19 := by
 intro f xs cs r h hc
 unfold T19 at h
 split at h
 ·obtain ⟨rfl, rfl⟩ := Prod.mk.inj (Option.some.inj h)
  obtain ⟨h1, h2⟩ := hc.1
  rename_i bs
  have := s66 (bs.map Ea) (by rw [List.length_map]; exact h2)
  rw [← h1] at this
  rw [Ja]
  exact ⟨⟨_, _, ok66⟩, this, Jb _ (fun _ => rfl) _⟩
 ·obtain ⟨rfl, rfl⟩ := Prod.mk.inj (Option.some.inj h)
  obtain ⟨h1, h2⟩ := hc.1
  rename_i bs
  have := s67 (bs.map Ea) (by rw [List.length_map]; exact h2)
  rw [← h1] at this
  rw [Ja]
  exact ⟨⟨_, _, ok67⟩, this, Jb _ (fun _ => rfl) _⟩
 ·exact T18_ok _ _ _ _ h hc
def WNA1 : WC := ⟨baseK T19 mf13 M13,baseK_ok T19 mf13 M13,baseK_call T19_ok M13_ok⟩
theorem vc64 {X} {Q : QT} (hX : PX X) (ks : List AC) (h : (fun D1 : List (BitVec 8)=>(fun D0 : List (BitVec 8)=>16<=List.length ks/\Flat (take 16 (drop 0 ks))/\(Oa (take 16 (drop 0 ks))/\List.length (take 16 (drop 0 ks))=16)/\Flat (Bb true::hide (List.map U8 (Zd D1 176)))/\Flat (replicate 16 (U8 0))/\(hide (List.map U8 (Zd D1 176))=List.map U8 (Zd (keyOf (hide (List.map U8 (Zd D1 176)))) 176)/\List.length (keyOf (hide (List.map U8 (Zd D1 176))))=16/\Oa (replicate 16 (U8 0))/\16=16)/\Flat (hide (List.map U8 D0))/\(Oa (hide (List.map U8 D0))/\List.length (hide (List.map U8 D0))=16)/\(List.length (hide (List.map U8 (dbN (List.map Ea (hide (List.map U8 D0))))))=16/\16<=16)/\Flat (replicate 16 (U8 0))/\Flat (replicate 16 (U8 0))/\Flat (Qa (replicate 16 (U8 0)) 0 (hide (List.map U8 (dbN (List.map Ea (hide (List.map U8 D0)))))))/\KR X 64 0 Q (Ub Try.f64 1) (mkS 13 [(2,O1 (PT 0 0)),(3,O1 (PT 1 0)),(4,O1 (PT 2 0))]) [some (replicate 16 (U8 0)),some (replicate 16 (U8 0)),some (Qa (replicate 16 (U8 0)) 0 (hide (List.map U8 (dbN (List.map Ea (hide (List.map U8 D0)))))))]) (Yd (keyOf (hide (List.map U8 (Zd D1 176)))) (List.map Ea (replicate 16 (U8 0))))) (List.map Ea (take 16 (drop 0 ks)))) : Ia X 64 0 Q ([.code (Na Try.f64)]) (slots [.agg ks] Try.f64.ntmps) [] :=
 wR' hX WNA1 ok64 [] [(2,3),(100001,0)] false (CS.mk [] [] [0,1] []) true [(2,LS.mk [2,3,4] (CS.mk [] [true,true,true] [] []))] 2000 h (by kernel_rfl)
theorem vc64b {X} {Q : QT} (hX : PX X) (zs ws bs : List AC) (h : (fun D2 : List (BitVec 8)=>(fun D1 : List AC=>(fun D0 : List AC=>16<=List.length bs/\16<=List.length bs/\Flat (take 16 (drop 0 bs))/\(Oa (take 16 (drop 0 bs))/\List.length (take 16 (drop 0 bs))=16)/\(List.length (take 16 (drop 0 bs))=16/\16<=List.length zs)/\(List.length (hide (List.map U8 D2))=16/\16<=List.length ws)/\16<=List.length D1/\16<=List.length D0/\Za (AG (take 16 (drop 0 D1)))/\Za (AG (take 16 (drop 0 D0)))/\Q (TU [AG (take 16 (drop 0 D1)),AG (take 16 (drop 0 D0))]) []) (Qa ws 0 (hide (List.map U8 D2)))) (Qa zs 0 (take 16 (drop 0 bs)))) (dbN (List.map Ea (take 16 (drop 0 bs))))) : Ia X 64 0 Q (Ub Try.f64 1) (mkS 13 [(2,.one (.ptr 0 0)),(3,.one (.ptr 1 0)),(4,.one (.ptr 2 0))]) [some zs,some ws,some bs] :=
 wR' hX WNA1 ok64 [] [(2,3),(100001,0)] false (CS.mk [] [] [0,1] []) true [(2,LS.mk [2,3,4] (CS.mk [] [true,true,true] [] []))] 2000 h (by kernel_rfl)
theorem vc65 {X} {Q : QT} (hX : PX X) (ks : List AC) (h : (fun D0 : List (BitVec 8)=>16<=List.length ks/\Flat (take 16 (drop 0 ks))/\Flat (replicate 16 (U8 0))/\(Oa (take 16 (drop 0 ks))/\List.length (take 16 (drop 0 ks))=16/\Oa (replicate 16 (U8 0))/\16=16)/\Flat (hide (List.map U8 D0))/\(Oa (hide (List.map U8 D0))/\List.length (hide (List.map U8 D0))=16)/\(List.length (hide (List.map U8 (dbN (List.map Ea (hide (List.map U8 D0))))))=16/\16<=16)/\Flat (replicate 16 (U8 0))/\Flat (replicate 16 (U8 0))/\Flat (Qa (replicate 16 (U8 0)) 0 (hide (List.map U8 (dbN (List.map Ea (hide (List.map U8 D0)))))))/\KR X 65 0 Q (Ub Try.f65 1) (mkS 12 [(2,O1 (PT 0 0)),(3,O1 (PT 1 0)),(4,O1 (PT 2 0))]) [some (replicate 16 (U8 0)),some (replicate 16 (U8 0)),some (Qa (replicate 16 (U8 0)) 0 (hide (List.map U8 (dbN (List.map Ea (hide (List.map U8 D0)))))))]) (Yd (List.map Ea (take 16 (drop 0 ks))) (List.map Ea (replicate 16 (U8 0))))) : Ia X 65 0 Q ([.code (Na Try.f65)]) (slots [.agg ks] Try.f65.ntmps) [] :=
 wR' hX WNA1 ok65 [] [(2,3),(100001,0)] false (CS.mk [] [] [0,1] []) true [(2,LS.mk [2,3,4] (CS.mk [] [true,true,true] [] []))] 2000 h (by kernel_rfl)
theorem vc65b {X} {Q : QT} (hX : PX X) (zs ws bs : List AC) (h : (fun D2 : List (BitVec 8)=>(fun D1 : List AC=>(fun D0 : List AC=>16<=List.length bs/\16<=List.length bs/\Flat (take 16 (drop 0 bs))/\(Oa (take 16 (drop 0 bs))/\List.length (take 16 (drop 0 bs))=16)/\(List.length (take 16 (drop 0 bs))=16/\16<=List.length zs)/\(List.length (hide (List.map U8 D2))=16/\16<=List.length ws)/\16<=List.length D1/\16<=List.length D0/\Za (AG (take 16 (drop 0 D1)))/\Za (AG (take 16 (drop 0 D0)))/\Q (TU [AG (take 16 (drop 0 D1)),AG (take 16 (drop 0 D0))]) []) (Qa ws 0 (hide (List.map U8 D2)))) (Qa zs 0 (take 16 (drop 0 bs)))) (dbN (List.map Ea (take 16 (drop 0 bs))))) : Ia X 65 0 Q (Ub Try.f65 1) (mkS 12 [(2,.one (.ptr 0 0)),(3,.one (.ptr 1 0)),(4,.one (.ptr 2 0))]) [some zs,some ws,some bs] :=
 wR' hX WNA1 ok65 [] [(2,3),(100001,0)] false (CS.mk [] [] [0,1] []) true [(2,LS.mk [2,3,4] (CS.mk [] [true,true,true] [] []))] 2000 h (by kernel_rfl)
def WNA2 : WC := ⟨baseC T19 mf13 M13,baseC_ok T19 mf13 M13,baseC_call T19_ok M13_ok⟩
theorem vc114 {X} {Q : QT} (hX : PX X) (rs : List AC) (h : 209<=List.length (Bb true::rs)/\Za (AG (take 16 (drop 193 (Bb true::rs))))/\Flat (Bb true::rs)/\KR X 114 1 Q (Fb Try.f114 0) (mkS 43 [(0,O1 (PT 0 0)),(7,AG (take 16 (drop 193 (Bb true::rs)))),(8,O1 (I64 (0:Int)))]) [some (Bb true::rs)]) : Ia X 114 1 Q ([.code (Na Try.f114)]) (slots [.one (.ptr 0 0)] Try.f114.ntmps) [some (.b true::rs)] :=
 wR' hX WNA2 ok114 [9] [(3,11),(5,12)] false (CS.mk [] [true] [] []) true [(1,LS.mk [0,7,8] (CS.mk [] [true] [7] []))] 2000 h (by kernel_rfl)
theorem vc114a {X} {Q : QT} (hX : PX X) (rs ls : List AC) (i:Int) (h : (fun D4 : List (BitVec 8)=>(fun D3 : Nat=>(fun D2 : List (BitVec 8)=>(fun D1 : List AC=>(fun D0 : List AC=>(decide (i<(16:Int))=true->((0:Int)<=i/\i<(↑16:Int))/\gt AY ls (Int.toNat i*1)=U8 (Ea (gt AY ls (Int.toNat i*1)))/\((0:Int)<=i/\i<(↑16:Int))/\gt AY (Bb true::rs) D3=U8 (Ea (gt AY (Bb true::rs) D3))/\((0:Int)<=i/\i<(↑16:Int))/\(1=1/\177+Int.toNat i*1+1<=List.length (Bb true::rs))/\La (i+(1:Int))/\Za (AG ls)/\Flat D1/\KR X 114 1 Q (Fb Try.f114 0) (mkS 43 [(0,O1 (PT 0 0)),(7,AG ls),(8,O1 (I64 (i+(1:Int))))]) [some D1])/\(decide (i<(16:Int))=false->177<=List.length (Bb true::rs)/\193<=List.length (Bb true::rs)/\Flat (take 177 (drop 0 (Bb true::rs)))/\Flat (take 16 (drop 177 (Bb true::rs)))/\(take 176 rs=List.map U8 (Zd D4 176)/\List.length D4=16/\Oa (take 16 (drop 177 (Bb true::rs)))/\List.length (take 16 (drop 177 (Bb true::rs)))=16)/\(List.length (hide (List.map U8 D2))=16/\193<=List.length (Bb true::rs))/\(16=16/\209<=List.length D0)/\(1=1/\210<=List.length (Qa D0 193 (replicate 16 (U8 0))))/\Flat (Qa (Qa D0 193 (replicate 16 (U8 0))) 209 [Zc (Value.int IntKind.i64 0)])/\Q (TU []) [some (Qa (Qa D0 193 (replicate 16 (U8 0))) 209 [Zc (Value.int IntKind.i64 0)])])) (Qa (Bb true::rs) 177 (hide (List.map U8 D2)))) (Qa (Bb true::rs) D3 [U8 (Ea (gt AY (Bb true::rs) D3)^^^Ea (gt AY ls (Int.toNat i*1)))])) (Yd D4 (List.map Ea (take 16 (drop 177 (Bb true::rs)))))) (177+Int.toNat i*1)) (keyOf (take 176 rs))) : Ia X 114 1 Q (Fb Try.f114 0) (mkS 43 [(0,.one (.ptr 0 0)),(7,.agg ls),(8,.one (.i64 i))]) [some (.b true::rs)] :=
 wR' hX WNA2 ok114 [9] [(3,11),(5,12)] false (CS.mk [] [true] [] []) true [(1,LS.mk [0,7,8] (CS.mk [] [true] [7] []))] 2000 h (by kernel_rfl)
theorem z16_map : z16.map U8 = replicate 16 (U8 0) := List.map_replicate
theorem zas : List.map Ea (replicate 16 (U8 0)) = z16 := rfl
theorem s64 (key : List (BitVec 8)) (hk : key.length = 16) : Spec Try.prog 64 [.agg (key.map U8)] [] (Is (.Ec [.agg ((k1F key).map U8), .agg ((k2F key).map U8)])) := by
 refine Spec.of_run ok64 fun X hX => vc64 hX _ ?_
 have z : Flat (replicate 16 (U8 0)) := by rw [Jd]; exact Aa _
 have az : Oa (replicate 16 (U8 0)) := by rw [Jd]; exact Ba _
 have ek : key.take 16 = key := List.take_of_length_le (by omega)
 have kk := keyOf_ex key hk
 have hx := encF_len key z16
 have h1 : dbN (Yd key z16) = k1F key := rfl
 have l1 := k1_len key
 have l2 := k2_len key
 have e1 : Qa (replicate 16 (U8 0)) 0 ((k1F key).map U8) = (k1F key).map U8 := Ae _ _ l1
 have e2 : Qa (replicate 16 (U8 0)) 0 ((k2F key).map U8) = (k2F key).map U8 := Ae _ _ l2
 have t1 : (k1F key).take 16 = k1F key := List.take_of_length_le (by omega)
 have t2 : (k2F key).take 16 = k2F key := List.take_of_length_le (by omega)
 have h2 : dbN (k1F key) = k2F key := rfl
 have K : Ia X 64 0 (Is (.Ec [.agg ((k1F key).map U8), .agg ((k2F key).map U8)])) (Ub Try.f64 1) (mkS 13 [(2, .one (.ptr 0 0)), (3, .one (.ptr 1 0)), (4, .one (.ptr 2 0))]) [some (replicate 16 (U8 0)), some (replicate 16 (U8 0)), some ((k1F key).map U8)] := by
  refine vc64b hX _ _ _ ?_
  simp only [Ja, tkm, tk0, List.drop_zero, t1, t2, h2, Ua, e1, e2, List.length_map, List.length_replicate, l1, l2]
  clear ek kk hx h1 e1 e2 t1 t2 h2
  generalize k1F key = a at l1 ⊢
  generalize k2F key = b at l2 ⊢
  (repeat' (first | exact az | exact z | exact trivial | exact Aa _ | exact Ya _ | exact Ba _ | exact Nat.le_refl _ | exact kflat _ _ | refine And.intro ?_ ?_)) <;> (first | omega | exact z | (unfold La; omega) | exact List.length_map _ | (show Is _ _ _; exact rfl) | skip)
 simp only [Ja, tkm, tk0, List.drop_zero, ek, kk, zas, h1, e1, Ua, List.length_map, hk, hx, l1]
 clear ek kk h1 e1 e2 t1 t2 h2
 generalize Zd key 176 = E
 (repeat' (first | exact az | exact z | exact trivial | exact Aa _ | exact Ya _ | exact Ba _ | exact Nat.le_refl _ | exact kflat _ _ | refine And.intro ?_ ?_)) <;> (first | omega | exact z | (unfold La; omega) | exact List.length_map _ | (show Is _ _ _; exact rfl) | skip)
 exact ⟨K⟩
theorem s65 (key : List (BitVec 8)) (hk : key.length = 16) : Spec Try.prog 65 [.agg (key.map U8)] [] (Is (.Ec [.agg ((k1F key).map U8), .agg ((k2F key).map U8)])) := by
 refine Spec.of_run ok65 fun X hX => vc65 hX _ ?_
 have z : Flat (replicate 16 (U8 0)) := by rw [Jd]; exact Aa _
 have az : Oa (replicate 16 (U8 0)) := by rw [Jd]; exact Ba _
 have ek : key.take 16 = key := List.take_of_length_le (by omega)
 have hx := encF_len key z16
 have h1 : dbN (Yd key z16) = k1F key := rfl
 have l1 := k1_len key
 have l2 := k2_len key
 have e1 : Qa (replicate 16 (U8 0)) 0 ((k1F key).map U8) = (k1F key).map U8 := Ae _ _ l1
 have e2 : Qa (replicate 16 (U8 0)) 0 ((k2F key).map U8) = (k2F key).map U8 := Ae _ _ l2
 have t1 : (k1F key).take 16 = k1F key := List.take_of_length_le (by omega)
 have t2 : (k2F key).take 16 = k2F key := List.take_of_length_le (by omega)
 have h2 : dbN (k1F key) = k2F key := rfl
 have K : Ia X 65 0 (Is (.Ec [.agg ((k1F key).map U8), .agg ((k2F key).map U8)])) (Ub Try.f65 1) (mkS 12 [(2, .one (.ptr 0 0)), (3, .one (.ptr 1 0)), (4, .one (.ptr 2 0))]) [some (replicate 16 (U8 0)), some (replicate 16 (U8 0)), some ((k1F key).map U8)] := by
  refine vc65b hX _ _ _ ?_
  simp only [Ja, tkm, tk0, List.drop_zero, t1, t2, h2, Ua, e1, e2, List.length_map, List.length_replicate, l1, l2]
  clear ek hx h1 e1 e2 t1 t2 h2
  generalize k1F key = a at l1 ⊢
  generalize k2F key = b at l2 ⊢
  (repeat' (first | exact az | exact z | exact trivial | exact Aa _ | exact Ya _ | exact Ba _ | exact Nat.le_refl _ | exact kflat _ _ | refine And.intro ?_ ?_)) <;> (first | omega | exact z | (unfold La; omega) | exact List.length_map _ | (show Is _ _ _; exact rfl) | skip)
 simp only [Ja, tkm, tk0, List.drop_zero, ek, zas, h1, e1, Ua, List.length_map, hk, hx, l1]
 clear ek h1 e1 e2 t1 t2 h2
 generalize Yd key z16 = E
 (repeat' (first | exact az | exact z | exact trivial | exact Aa _ | exact Ya _ | exact Ba _ | exact Nat.le_refl _ | exact kflat _ _ | refine And.intro ?_ ?_)) <;> (first | omega | exact z | (unfold La; omega) | exact List.length_map _ | (show Is _ _ _; exact rfl) | skip)
 exact ⟨K⟩
theorem ix1 (i:Nat) : Int.toNat (i:Int) * 1 = i := by omega
theorem ix177 (i:Nat) : 177 + Int.toNat (i:Int) * 1 = 177 + i := by omega
theorem ix193 (i:Nat) : 193 + Int.toNat (i:Int) * 1 = 193 + i := by omega
def XT (x l : List (BitVec 8)) (i:Nat) : List (BitVec 8) := (Yb x l).take i ++ x.drop i
theorem XT_len {x : List (BitVec 8)} (hx : x.length = 16) (l : List (BitVec 8)) (i:Nat) : (XT x l i).length = 16 := by unfold XT; rw [lenT _ _ (by rw [xor16, hx]), hx]
theorem XT_0 (x l : List (BitVec 8)) : XT x l 0 = x := begT _ _
theorem XT_16 {x : List (BitVec 8)} (hx : x.length = 16) (l : List (BitVec 8)) : XT x l 16 = Yb x l := by
 have := endT (Yb x l) x (by rw [xor16, hx])
 rwa [xor16] at this
theorem XT_get {x : List (BitVec 8)} (l : List (BitVec 8)) {i : Nat} (hi : i < 16) : (XT x l i).getD i 0 = x.getD i 0 := getT_src _ _ _ (by rw [xor16]; omega) (Nat.le_refl _)
theorem XT_set {x : List (BitVec 8)} (hx : x.length = 16) (l : List (BitVec 8)) {i : Nat} (hi : i < 16) : (XT x l i).set i (x.getD i 0 ^^^ l.getD i 0) = XT x l (i + 1) := by
 have := setT (Yb x l) x 0 (i := i) (by rw [xor16]; exact hi) (by rw [xor16, hx])
 rw [show (Yb x l).getD i 0 = x.getD i 0 ^^^ l.getD i 0 from Yc _ hi] at this
 exact this
theorem l114 {X : Ctx} (hX : X.P = Try.prog) (key x l : List (BitVec 8)) (n:Nat) (hk : key.length = 16) (hx : x.length = 16) (hl : l.length = 16) : ∀ (d i:Nat), i + d = 16 →
  Ia X 114 1 (Are (.Ec []) [some (bc key (Yd key (Yb x l)) z16 0)]) (Fb Try.f114 0) (mkS 43 [(0, .one (.ptr 0 0)), (7, .agg (l.map U8)), (8, .one (.i64 i))]) [some (Bb true :: bt key (XT x l i) l n)] := by
 intro d
 induction d with
 | zero =>
  intro i hi
  have hi : i = 16 := by omega
  subst hi
  rw [XT_16 hx]
  have hX1 := xor16 x l
  have kk := keyOf_ex key hk
  have hE := encF_len key (Yb x l)
  have c0 : Zc (Value.int IntKind.i64 0) = I64 (0:Nat) := rfl
  have e1 := fun n => bc_len (key := key) (n := n) hX1 hl
  have e2 := fun n => bc_len (key := key) (n := n) hE hl
  have e3 := fun n => bc_len (key := key) (n := n) hE z16_len
  have b1 := bc_sx (key := key) (l := l) (n := n) hX1 hE
  have b2 := bc_sl (key := key) (n := n) hE hl z16_len
  have b3 := bc_sn (key := key) (n := n) hE z16_len 0
  have b4 := bc_x (key := key) (l := l) (n := n) hX1
  have b5 := bc_key (key := key) (x := Yb x l) (l := l) (n := n)
  refine vc114a hX _ _ _ ⟨fun h => absurd (of_decide_eq_true h) (by omega), fun _ => ?_⟩
  try dsimp only
  rw [← z16_map, c0]
  simp only [Ja, bc_eq, bt_key, kk, b1, b2, b3, b4, b5, Ua, e1, e2, e3, List.length_map, hX1, hE, hk]
  clear kk b5
  generalize Yd key (Yb x l) = E at *
  generalize Zd key 176 = G
  (repeat' (first | exact trivial | exact Aa _ | exact kflat _ _ | exact bc_flat | exact Ba _ | exact Nat.le_refl _ | exact ⟨rfl, rfl⟩ | refine And.intro ?_ ?_)) <;> first | omega | skip
 | succ d ih =>
  intro i hi
  have ih := ih (i + 1) (by omega)
  have hx' := XT_len hx l i
  have gx := bc_gx (key := key) (l := l) (n := n) hx' (i := i) (by omega)
  rw [XT_get l (by omega)] at gx
  have gl := Cb l i (by omega)
  have sx := bc_sx1 (key := key) (l := l) (n := n) hx' (i := i) (by omega) (x.getD i 0 ^^^ l.getD i 0)
  rw [XT_set hx l (by omega)] at sx
  have hlen := bc_len (key := key) (n := n) hx' hl
  rw [bc_eq] at ih
  refine vc114a hX _ _ _ ⟨fun _ => ?_, fun h => absurd (of_decide_eq_false h) (by omega)⟩
  simp only [bc_eq, ix1, ix177, gx, gl, sx, Ea, hlen]
  (repeat' (first | exact bc_flat | exact trivial | exact Ya _ | exact Nat.le_refl _ | refine And.intro ?_ ?_)) <;> first | omega | (unfold La; omega) | skip
  exact ⟨ih⟩
theorem s114 (key x l : List (BitVec 8)) (n:Nat) (hk : key.length = 16) (hx : x.length = 16) (hl : l.length = 16) : Spec Try.prog 114 [.one (.ptr 0 0)] [some (bc key x l n)] (Are (.Ec []) [some (bc key (Yd key (Yb x l)) z16 0)]) := by
 refine Spec.of_run ok114 fun X hX => vc114 hX _ ?_
 have K := l114 hX key x l n hk hx hl 16 0 rfl
 rw [XT_0, bc_eq] at K
 have hlen := bc_len (key := key) (n := n) hx hl
 have b1 := bc_l (key := key) (n := n) hx hl
 simp only [bc_eq, b1, hlen]
 (repeat' (first | exact bc_flat | exact trivial | exact Ya _ | exact Nat.le_refl _ | refine And.intro ?_ ?_)) <;> first | omega | skip
 exact ⟨K⟩
noncomputable def M14 : Ad := fun f xs m => match f, xs, m with
 | 114, [.one (.ptr 0 0)], [some cs] => some ([IsB cs], .Ec [], [some (hide (bc (kO cs) (Yd (kO cs) (Yb (xO cs) (lO cs))) z16 0))])
 | f, xs, m => M13 f xs m
noncomputable def mf14 : FuncId → Option MF := fun f => match f with
 | 114 => some { cs := { kinds := [], fl := [true] }, flo := [true] }
 | f => mf13 f
theorem M14_ok : Xc Try.prog M14 := by
 intro f xs m0 cs r m1 h hc
 unfold M14 at h
 split at h
 ·simp only [Option.some.injEq, Prod.mk.injEq] at h; obtain ⟨rfl, rfl, rfl⟩ := h
  rename_i cs
  have hB := hc.1
  have := s114 (kO cs) (xO cs) (lO cs) (nO cs) hB.k hB.x hB.l
  rw [← hB.eq] at this
  rw [Ja]
  exact ⟨⟨_, _, ok114⟩, this⟩
 ·exact M13_ok _ _ _ _ _ _ h hc
def WNA3 : WC := ⟨baseC T19 mf14 M14,baseC_ok T19 mf14 M14,baseC_call T19_ok M14_ok⟩
theorem vc113 {X} {Q : QT} (hX : PX X) (cs row : List AC) (n:Nat) (h : Flat cs/\KR X 113 1 Q (Fb Try.f113 0) (mkS 36 [(0,O1 (PT 0 0)),(1,O1 (XS row 0 n))]) [some cs]) : Ia X 113 1 Q ([.code (Na Try.f113)]) (slots [.one (.ptr 0 0),.one (.xs row 0 n)] Try.f113.ntmps) [some cs] :=
 wR hX WNA3 ok113 [7,12] [(3,9)] [true] [(0,[0,1],[true])] h (by kernel_rfl)
theorem vc113a {X} {Q : QT} (hX : PX X) (cs row : List AC) (o n:Nat) (h : (fun D4 : Nat=>(fun D3 : Int=>(fun D2 : List AC=>(fun D1 : List AC=>(fun D0 : List AC=>(decide ((0:Int)<(↑n:Int))=true->gt AY cs 209=I64 (Md (gt AY cs 209))/\(decide (Md (gt AY cs 209)=(16:Int))=true->IsB cs/\Flat cs/\Flat D2/\gt AY D2 209=I64 (Md (gt AY D2 209))/\((0:Int)<=Md (gt AY D2 209)/\Md (gt AY D2 209)<=(↑16:Int)/\(↑16:Int)<=(↑16:Int))/\o+n*1<=List.length row/\193+Int.toNat (Md (gt AY D2 209))*1+(16 - Int.toNat (Md (gt AY D2 209)))*1<=List.length D2/\gt AY D0 209=I64 (Md (gt AY D0 209))/\La (Md (gt AY D0 209)+(↑(min n (16 - Int.toNat (Md (gt AY D2 209)))):Int))/\(1=1/\210<=List.length D0)/\((0:Int)<=(↑(min n (16 - Int.toNat (Md (gt AY D2 209)))):Int)/\(↑(min n (16 - Int.toNat (Md (gt AY D2 209)))):Int)<=(↑n:Int)/\(↑n:Int)<=(↑n:Int))/\Flat (Qa D0 209 [I64 (Md (gt AY D0 209)+(↑(min n (16 - Int.toNat (Md (gt AY D2 209)))):Int))])/\KR X 113 1 Q (Fb Try.f113 0) (mkS 36 [(0,O1 (PT 0 0)),(1,O1 (XS row (o+Int.toNat (↑(min n (16 - Int.toNat (Md (gt AY D2 209)))):Int)*1) (Int.toNat (↑n:Int) - Int.toNat (↑(min n (16 - Int.toNat (Md (gt AY D2 209)))):Int))))]) [some (Qa D0 209 [I64 (Md (gt AY D0 209)+(↑(min n (16 - Int.toNat (Md (gt AY D2 209)))):Int))])])/\(decide (Md (gt AY cs 209)=(16:Int))=false->gt AY cs 209=I64 (Md (gt AY cs 209))/\((0:Int)<=Md (gt AY cs 209)/\Md (gt AY cs 209)<=(↑16:Int)/\(↑16:Int)<=(↑16:Int))/\o+n*1<=List.length row/\193+Int.toNat (Md (gt AY cs 209))*1+D4*1<=List.length cs/\gt AY D1 209=I64 (Md (gt AY D1 209))/\La (Md (gt AY D1 209)+D3)/\(1=1/\210<=List.length D1)/\((0:Int)<=D3/\D3<=(↑n:Int)/\(↑n:Int)<=(↑n:Int))/\Flat (Qa D1 209 [I64 (Md (gt AY D1 209)+D3)])/\KR X 113 1 Q (Fb Try.f113 0) (mkS 36 [(0,O1 (PT 0 0)),(1,O1 (XS row (o+Int.toNat D3*1) (Int.toNat (↑n:Int) - Int.toNat D3)))]) [some (Qa D1 209 [I64 (Md (gt AY D1 209)+D3)])]))/\(decide ((0:Int)<(↑n:Int))=false->Flat cs/\Q (TU []) [some cs])) (lay D2 (193+Int.toNat (Md (gt AY D2 209))*1) (take (min n (16 - Int.toNat (Md (gt AY D2 209)))*1) (take (n*1) (drop o row))))) (lay cs (193+Int.toNat (Md (gt AY cs 209))*1) (take (min n D4*1) (take (n*1) (drop o row))))) (hide (bc (kO cs) (Yd (kO cs) (Yb (xO cs) (lO cs))) z16 0))) (↑(min n D4):Int)) (16 - Int.toNat (Md (gt AY cs 209)))) : Ia X 113 1 Q (Fb Try.f113 0) (mkS 36 [(0,.one (.ptr 0 0)),(1,.one (.xs row o n))]) [some cs] :=
 wR hX WNA3 ok113 [7,12] [(3,9)] [true] [(0,[0,1],[true])] h (by kernel_rfl)
theorem l113 {X : Ctx} (hX : X.P = Try.prog) (key b : List (BitVec 8)) (hk : key.length = 16) (R : BT) : ∀ (d j:Nat) (s : BT), b.length - j ≤ d → OkB s → j ≤ b.length → addB key s (b.drop j) = R →
  Ia X 113 1 (Are (.Ec []) [some (bc key R.x R.l R.n)]) (Fb Try.f113 0) (mkS 36 [(0, .one (.ptr 0 0)), (1, .one (.xs (b.map U8) j (b.length - j)))]) [some (bc key s.x s.l s.n)] := by
 have done : ∀ (j:Nat) (s : BT), OkB s → b.length - j = 0 → addB key s (b.drop j) = R →
   Ia X 113 1 (Are (.Ec []) [some (bc key R.x R.l R.n)]) (Fb Try.f113 0) (mkS 36 [(0, .one (.ptr 0 0)), (1, .one (.xs (b.map U8) j (b.length - j)))]) [some (bc key s.x s.l s.n)] := fun j s ok h0 hR => by
  rw [List.drop_of_length_le (by omega)] at hR
  have hR : s = R := hR
  subst hR
  refine vc113a hX _ _ _ _ ⟨fun h => absurd (of_decide_eq_true h) (by omega), fun _ => ⟨bc_flat, rfl, rfl⟩⟩
 intro d
 induction d with
 | zero => exact fun j s hd ok _ hR => done j s ok (by omega) hR
 | succ d ih =>
  intro j s hd ok hj hR
  by_cases h0 : b.length - j = 0
  ·exact done j s ok h0 hR
  have hx := ok.x
  have hl := ok.l
  have hne : b.drop j ≠ [] := fun e => by have := congrArg List.length e; rw [List.length_drop] at this; exact h0 this
  have go : ∀ (x' l' : List (BitVec 8)) (n' k:Nat), x'.length = 16 → l'.length = 16 → n' < 16 → k = min (b.length - j) (16 - n') → addB key ⟨x', l', n'⟩ (b.drop j) = R →
    Ia X 113 1 (Are (.Ec []) [some (bc key R.x R.l R.n)]) (Fb Try.f113 0) (mkS 36 [(0, .one (.ptr 0 0)), (1, .one (.xs (b.map U8) (j + k) (b.length - j - k)))]) [some (bc key x' (l'.take n' ++ (b.drop j).take k ++ l'.drop (n' + ((b.drop j).take k).length)) (n' + k))] := fun x' l' n' k hx' hl' hn' hk' hR => by
   have pk : ((b.drop j).take k).length = k := by rw [List.length_take, List.length_drop]; omega
   have ok' : OkB ⟨x', l', n'⟩ := ⟨hx', hl', by show n' ≤ 16; omega⟩
   have e := addB_chunk key ((b.drop j).take k) ⟨x', l', n'⟩ ok' (by show n' + _ ≤ 16; omega)
   have ok2 : OkB (addB key ⟨x', l', n'⟩ ((b.drop j).take k)) := ok'.add
   rw [e] at ok2
   have hR2 : addB key ⟨x', l'.take n' ++ (b.drop j).take k ++ l'.drop (n' + ((b.drop j).take k).length), n' + ((b.drop j).take k).length⟩ (b.drop (j + k)) = R := by
    have e0 : b.drop j = (b.drop j).take k ++ b.drop (j + k) := by rw [← List.drop_drop, List.take_append_drop]
    have e1 := congrArg (addB key ⟨x', l', n'⟩) e0
    rw [addB_app, e] at e1
    rw [← hR, e1]
   have K := ih (j + k) _ (by omega) ok2 (by omega) hR2
   rw [Nat.sub_sub]
   rw [pk] at K ⊢
   exact K
  refine vc113a hX _ _ _ _ ⟨fun _ => ?_, fun h => absurd (of_decide_eq_false h) (by omega)⟩
  have bn0 := bc_n (key := key) (n := s.n) hx hl
  have hi : IsB (bc key s.x s.l s.n) := isB_bc hk hx hl
  have k1 : kO (bc key s.x s.l s.n) = key := kO_bc hk
  have k2 : xO (bc key s.x s.l s.n) = s.x := xO_bc hx
  have k3 : lO (bc key s.x s.l s.n) = s.l := lO_bc hx hl
  simp only [Ja, k1, k2, k3, bn0, Md]
  refine ⟨trivial, fun h => ?_, fun h => ?_⟩
  ·have h16 : s.n = 16 := by have := of_decide_eq_true h; omega
   rw [addB_full key s h16 _ hne] at hR
   have hx' : (Yd key (Yb s.x s.l)).length = 16 := encF_len _ _
   obtain ⟨x', hx2⟩ : ∃ x', x' = Yd key (Yb s.x s.l) := ⟨_, rfl⟩
   obtain ⟨n', hn2⟩ : ∃ n' : Nat, n' = 0 := ⟨0, rfl⟩
   obtain ⟨l', hl2⟩ : ∃ l', l' = z16 := ⟨z16, rfl⟩
   have hl' : l'.length = 16 := by rw [hl2]; exact z16_len
   rw [show BT.mk (Yd key (Yb s.x s.l)) z16 0 = ⟨x', l', n'⟩ by rw [hx2, hn2, hl2]] at hR
   rw [show bc key (Yd key (Yb s.x s.l)) z16 0 = bc key x' l' n' by rw [hx2, hn2, hl2]]
   rw [← hx2] at hx'
   have hn' : n' < 16 := by omega
   obtain ⟨k, hk'⟩ : ∃ k, k = min (b.length - j) (16 - n') := ⟨_, rfl⟩
   have K := go x' l' n' k hx' hl' hn' hk' hR
   have bn := bc_n (key := key) (n := n') hx' hl'; have kle : k ≤ (b.drop j).length := (by rw [List.length_drop]; omega); have pk : ((b.drop j).take k).length = k := (by rw [List.length_take]; omega)
   have tkk : take k (take (b.length - j) (drop j (b.map U8))) = ((b.drop j).take k).map U8 := (by rw [← List.map_drop, ← List.map_take, List.take_of_length_le (show (b.drop j).length ≤ b.length - j by rw [List.length_drop]; exact Nat.le_refl _), ← List.map_take]); have slk := bc_slk (key := key) (n := n') hx' hl' (o := n') (p := (b.drop j).take k) (by omega)
   have hl3 : (l'.take n' ++ (b.drop j).take k ++ l'.drop (n' + ((b.drop j).take k).length)).length = 16 := by simp only [List.length_append, List.length_take, List.length_drop]; omega
   generalize l'.take n' ++ (b.drop j).take k ++ l'.drop (n' + ((b.drop j).take k).length) = l3 at slk K hl3
   have bn3 := bc_n (key := key) (n := n') hx' hl3
   have sn := bc_sn (key := key) (n := n') hx' hl3 (n' + k)
   have e1 : (n':Int) + (k:Int) = ((n' + k:Nat):Int) := by omega
   have L1 := bc_len (key := key) (n := n') hx' hl'
   have L3 := bc_len (key := key) (n := n') hx' hl3
   simp only [bn, Md, Int.toNat_natCast, Nat.mul_one, ← hk', tkk, slk, bn3, e1, sn, L1, L3, List.length_map]
   clear tkk slk bn bn3 sn bn0 hi k1 k2 k3 L1 L3
   (repeat' (first | exact bc_flat | exact trivial | exact hi | refine And.intro ?_ ?_)) <;> first | omega | (unfold La; omega) | skip
   all_goals first | exact isB_bc hk hx hl | skip
   exact ⟨K⟩
  ·have h16 : ¬ s.n = 16 := by have := of_decide_eq_false h; omega
   obtain ⟨x', hx2⟩ : ∃ x', x' = s.x := ⟨_, rfl⟩
   obtain ⟨n', hn2⟩ : ∃ n' : Nat, n' = s.n := ⟨_, rfl⟩
   obtain ⟨l', hl2⟩ : ∃ l', l' = s.l := ⟨_, rfl⟩
   have hn16 := ok.n
   rw [show s = ⟨x', l', n'⟩ by rw [hx2, hn2, hl2]] at hR
   rw [← hx2, ← hl2, ← hn2]
   have hx' : x'.length = 16 := by rw [hx2]; exact hx
   have hl' : l'.length = 16 := by rw [hl2]; exact hl
   have hn' : n' < 16 := by omega
   obtain ⟨k, hk'⟩ : ∃ k, k = min (b.length - j) (16 - n') := ⟨_, rfl⟩
   have K := go x' l' n' k hx' hl' hn' hk' hR
   have bn := bc_n (key := key) (n := n') hx' hl'; have kle : k ≤ (b.drop j).length := (by rw [List.length_drop]; omega); have pk : ((b.drop j).take k).length = k := (by rw [List.length_take]; omega)
   have tkk : take k (take (b.length - j) (drop j (b.map U8))) = ((b.drop j).take k).map U8 := (by rw [← List.map_drop, ← List.map_take, List.take_of_length_le (show (b.drop j).length ≤ b.length - j by rw [List.length_drop]; exact Nat.le_refl _), ← List.map_take]); have slk := bc_slk (key := key) (n := n') hx' hl' (o := n') (p := (b.drop j).take k) (by omega)
   have hl3 : (l'.take n' ++ (b.drop j).take k ++ l'.drop (n' + ((b.drop j).take k).length)).length = 16 := by simp only [List.length_append, List.length_take, List.length_drop]; omega
   generalize l'.take n' ++ (b.drop j).take k ++ l'.drop (n' + ((b.drop j).take k).length) = l3 at slk K hl3
   have bn3 := bc_n (key := key) (n := n') hx' hl3
   have sn := bc_sn (key := key) (n := n') hx' hl3 (n' + k)
   have e1 : (n':Int) + (k:Int) = ((n' + k:Nat):Int) := by omega
   have L1 := bc_len (key := key) (n := n') hx' hl'
   have L3 := bc_len (key := key) (n := n') hx' hl3
   simp only [bn, Md, Int.toNat_natCast, Nat.mul_one, ← hk', tkk, slk, bn3, e1, sn, L1, L3, List.length_map]
   clear tkk slk bn bn3 sn bn0 hi k1 k2 k3 L1 L3
   (repeat' (first | exact bc_flat | exact trivial | refine And.intro ?_ ?_)) <;> first | omega | (unfold La; omega) | skip
   exact ⟨K⟩
theorem s113 (key b : List (BitVec 8)) (hk : key.length = 16) (s : BT) (ok : OkB s) : Spec Try.prog 113 [.one (.ptr 0 0), .one (.xs (b.map U8) 0 b.length)] [some (bc key s.x s.l s.n)] (Are (.Ec []) [some (bc key (addB key s b).x (addB key s b).l (addB key s b).n)]) := by
 refine Spec.of_run ok113 fun X hX => vc113 hX _ _ _ ⟨bc_flat, ⟨?_⟩⟩
 exact l113 hX key b hk _ b.length 0 s (by omega) ok (Nat.zero_le _) rfl
def bcB (key : List (BitVec 8)) (s : BT) : List AC := bc key s.x s.l s.n
noncomputable def M15 : Ad := fun f xs m => match f, xs, m with
 | 113, [.one (.ptr 0 0), .one (.xs row o n)], [some cs] => some ([IsB cs ∧ nO cs ≤ 16 ∧ Oa row ∧ o = 0 ∧ row.length = n], .Ec [], [some (hide (bcB (kO cs) (addB (kO cs) ⟨xO cs, lO cs, nO cs⟩ (row.map Ea))))])
 | f, xs, m => M14 f xs m
noncomputable def mf15 : FuncId → Option MF := fun f => match f with
 | 113 => some { cs := { kinds := [], fl := [true] }, flo := [true] }
 | f => mf14 f
theorem M15_ok : Xc Try.prog M15 := by
 intro f xs m0 cs r m1 h hc
 unfold M15 at h
 split at h
 ·simp only [Option.some.injEq, Prod.mk.injEq] at h; obtain ⟨rfl, rfl, rfl⟩ := h
  rename_i row o n cs
  obtain ⟨hB, h1, h2, rfl, h3⟩ := hc.1
  have := s113 (kO cs) (row.map Ea) hB.k ⟨xO cs, lO cs, nO cs⟩ ⟨hB.x, hB.l, h1⟩
  rw [← hB.eq, ← h2, List.length_map, h3] at this
  rw [Ja]
  exact ⟨⟨_, _, ok113⟩, this⟩
 ·exact M14_ok _ _ _ _ _ _ h hc
noncomputable def T20 : Tab := fun f xs => match f, xs with
 | 64, [.agg cs] => some ([Oa cs ∧ cs.length = 16], .Ec [.agg (hide ((k1F (cs.map Ea)).map U8)), .agg (hide ((k2F (cs.map Ea)).map U8))])
 | 65, [.agg cs] => some ([Oa cs ∧ cs.length = 16], .Ec [.agg (hide ((k1F (cs.map Ea)).map U8)), .agg (hide ((k2F (cs.map Ea)).map U8))])
 | f, xs => T19 f xs
theorem exact2 (a b : List (BitVec 8)) : (TU [.agg (a.map U8), .agg (b.map U8)]).exact := by
 intro v hv
 rcases List.mem_cons.1 hv with rfl | hv
 ·exact Jb _ (fun _ => rfl) _
 ·rw [List.mem_singleton.1 hv]; exact Jb _ (fun _ => rfl) _
theorem T20_ok : Oc Try.prog T20 := by
 intro f xs cs r h hc
 unfold T20 at h
 split at h
 ·obtain ⟨rfl, rfl⟩ := Prod.mk.inj (Option.some.inj h)
  obtain ⟨h1, h2⟩ := hc.1
  rename_i cs
  have := s64 (cs.map Ea) (by rw [List.length_map]; exact h2)
  rw [← h1] at this
  rw [Ja, Ja]
  exact ⟨⟨_, _, ok64⟩, this, exact2 _ _⟩
 ·obtain ⟨rfl, rfl⟩ := Prod.mk.inj (Option.some.inj h)
  obtain ⟨h1, h2⟩ := hc.1
  rename_i cs
  have := s65 (cs.map Ea) (by rw [List.length_map]; exact h2)
  rw [← h1] at this
  rw [Ja, Ja]
  exact ⟨⟨_, _, ok65⟩, this, exact2 _ _⟩
 ·exact T19_ok _ _ _ _ h hc
def WNA4 : WC := ⟨baseC T20 mf15 M15,baseC_ok T20 mf15 M15,baseC_call T20_ok M15_ok⟩
theorem vc69 {X} {Q : QT} (hX : PX X) (ks row : List AC) (n:Nat) (h : (fun D0 : List AC=>16<=List.length ks/\Flat (take 16 (drop 0 ks))/\(Oa (take 16 (drop 0 ks))/\List.length (take 16 (drop 0 ks))=16)/\(List.length (Bb true::hide (List.map U8 (Zd (List.map Ea (take 16 (drop 0 ks))) 176)))=177/\177<=210)/\Flat ks/\Flat (replicate 16 (U8 0))/\Flat D0/\KR X 69 0 Q (Fb Try.f69 0) (mkS 68 [(2,O1 (PT 0 0)),(4,O1 (PT 1 0)),(5,O1 (PT 2 0)),(16,O1 (XS row 0 n)),(17,O1 (I64 (↑n:Int))),(18,O1 (I64 (0:Int)))]) [some ks,some (replicate 16 (U8 0)),some D0]) (lay ([Bb false]++(replicate 208 (U8 0)++[I64 (0:Int)])) 0 (Bb true::hide (List.map U8 (Zd (List.map Ea (take 16 (drop 0 ks))) 176))))) : Ia X 69 0 Q ([.code (Na Try.f69)]) (slots [.agg ks,.one (.xs row 0 n)] Try.f69.ntmps) [] :=
 wR' hX WNA4 ok69 [19,35,47] [(9,8),(14,11),(100007,0)] false (CS.mk [] [] [0] []) true [(8,LS.mk [4,5,8,9] (CS.mk [] [true,true,true,true] [] [])),(3,LS.mk [2,4,5,16,17,18] (CS.mk [] [true,true,true] [] [])),(12,LS.mk [4,5,45,46] (CS.mk [] [true,true] [45] []))] 2000 h (by kernel_rfl)
theorem vc69a {X} {Q : QT} (hX : PX X) (ks zs rs row : List AC) (n:Nat) (i:Int) (h : (fun D2 : List (BitVec 8)=>(fun D1 : Nat=>(fun D0 : List (BitVec 8)=>(decide (i<(↑n:Int))=true->((0:Int)<=i/\i<(↑n:Int))/\gt AY row D1=XS (Td (gt AY row D1)) (xsOff (gt AY row D1)) (xsLen (gt AY row D1))/\(IsB (Bb true::rs)/\nO (Bb true::rs)<=16/\Oa (Td (gt AY row D1))/\xsOff (gt AY row D1)=0/\List.length (Td (gt AY row D1))=xsLen (gt AY row D1))/\Flat (Bb true::rs)/\Flat (hide (bcB D2 (addB D2 { x := xO (Bb true::rs),l := lO (Bb true::rs),n := nO (Bb true::rs) } (List.map Ea (Td (gt AY row D1))))))/\La (i+(1:Int))/\Flat ks/\Flat zs/\Flat (hide (bcB D2 (addB D2 { x := xO (Bb true::rs),l := lO (Bb true::rs),n := nO (Bb true::rs) } (List.map Ea (Td (gt AY row D1))))))/\KR X 69 0 Q (Fb Try.f69 0) (mkS 68 [(2,O1 (PT 0 0)),(4,O1 (PT 1 0)),(5,O1 (PT 2 0)),(16,O1 (XS row 0 n)),(17,O1 (I64 (↑n:Int))),(18,O1 (I64 (i+(1:Int))))]) [some ks,some zs,some (hide (bcB D2 (addB D2 { x := xO (Bb true::rs),l := lO (Bb true::rs),n := nO (Bb true::rs) } (List.map Ea (Td (gt AY row D1))))))])/\(decide (i<(↑n:Int))=false->16<=List.length ks/\Flat (take 16 (drop 0 ks))/\(Oa (take 16 (drop 0 ks))/\List.length (take 16 (drop 0 ks))=16)/\(List.length (hide (List.map U8 (k1F D0)))=16/\16<=16)/\(List.length (hide (List.map U8 (k2F D0)))=16/\16<=16)/\Flat zs/\Flat (Bb true::rs)/\Flat (Qa (replicate 16 (U8 0)) 0 (hide (List.map U8 (k1F D0))))/\Flat (Qa (replicate 16 (U8 0)) 0 (hide (List.map U8 (k2F D0))))/\KR X 69 0 Q (Ub Try.f69 7) (mkS 68 [(4,O1 (PT 0 0)),(5,O1 (PT 1 0)),(8,O1 (PT 2 0)),(9,O1 (PT 3 0))]) [some zs,some (Bb true::rs),some (Qa (replicate 16 (U8 0)) 0 (hide (List.map U8 (k1F D0)))),some (Qa (replicate 16 (U8 0)) 0 (hide (List.map U8 (k2F D0))))])) (List.map Ea (take 16 (drop 0 ks)))) (0+Int.toNat i*1)) (kO (Bb true::rs))) : Ia X 69 0 Q (Fb Try.f69 0) (mkS 68 [(2,.one (.ptr 0 0)),(4,.one (.ptr 1 0)),(5,.one (.ptr 2 0)),(16,.one (.xs row 0 n)),(17,.one (.i64 n)),(18,.one (.i64 i))]) [some ks,some zs,some (.b true::rs)] :=
 wR' hX WNA4 ok69 [19,35,47] [(9,8),(14,11),(100007,0)] false (CS.mk [] [] [0] []) true [(8,LS.mk [4,5,8,9] (CS.mk [] [true,true,true,true] [] [])),(3,LS.mk [2,4,5,16,17,18] (CS.mk [] [true,true,true] [] [])),(12,LS.mk [4,5,45,46] (CS.mk [] [true,true] [45] []))] 2000 h (by kernel_rfl)
theorem vc69b {X} {Q : QT} (hX : PX X) (zs rs as' bs : List AC) (h : (fun D1 : List AC=>(fun D0 : List AC=>gt AY (Bb true::rs) 209=I64 (Md (gt AY (Bb true::rs) 209))/\(decide (Md (gt AY (Bb true::rs) 209)<(16:Int))=true->gt AY (Bb true::rs) 209=I64 (Md (gt AY (Bb true::rs) 209))/\((0:Int)<=Md (gt AY (Bb true::rs) 209)/\Md (gt AY (Bb true::rs) 209)<(↑16:Int))/\(1=1/\193+Int.toNat (Md (gt AY (Bb true::rs) 209))*1+1<=List.length (Bb true::rs))/\16<=List.length bs/\(List.length (take 16 (drop 0 bs))=16/\16<=List.length as')/\16<=List.length D1/\Za (AG (take 16 (drop 0 D1)))/\Flat zs/\Flat D0/\KR X 69 0 Q (Fb Try.f69 1) (mkS 68 [(4,O1 (PT 0 0)),(5,O1 (PT 1 0)),(45,AG (take 16 (drop 0 D1))),(46,O1 (I64 (0:Int)))]) [some zs,some D0])/\(decide (Md (gt AY (Bb true::rs) 209)<(16:Int))=false->16<=List.length as'/\Za (AG (take 16 (drop 0 as')))/\Flat zs/\Flat (Bb true::rs)/\KR X 69 0 Q (Fb Try.f69 1) (mkS 68 [(4,O1 (PT 0 0)),(5,O1 (PT 1 0)),(45,AG (take 16 (drop 0 as'))),(46,O1 (I64 (0:Int)))]) [some zs,some (Bb true::rs)])) (Qa (Bb true::rs) (193+Int.toNat (Md (gt AY (Bb true::rs) 209))*1) [Zc (Value.int IntKind.u8 128)])) (Qa as' 0 (take 16 (drop 0 bs)))) : Ia X 69 0 Q (Ub Try.f69 7) (mkS 68 [(4,.one (.ptr 0 0)),(5,.one (.ptr 1 0)),(8,.one (.ptr 2 0)),(9,.one (.ptr 3 0))]) [some zs,some (.b true::rs),some as',some bs] :=
 wR' hX WNA4 ok69 [19,35,47] [(9,8),(14,11),(100007,0)] false (CS.mk [] [] [0] []) true [(8,LS.mk [4,5,8,9] (CS.mk [] [true,true,true,true] [] [])),(3,LS.mk [2,4,5,16,17,18] (CS.mk [] [true,true,true] [] [])),(12,LS.mk [4,5,45,46] (CS.mk [] [true,true] [45] []))] 2000 h (by kernel_rfl)
theorem vc69c {X} {Q : QT} (hX : PX X) (zs rs ls : List AC) (i:Int) (h : (fun D2 : Nat=>(fun D1 : List AC=>(fun D0 : List AC=>(decide (i<(16:Int))=true->((0:Int)<=i/\i<(↑16:Int))/\gt AY ls (Int.toNat i*1)=U8 (Ea (gt AY ls (Int.toNat i*1)))/\((0:Int)<=i/\i<(↑16:Int))/\gt AY (Bb true::rs) D2=U8 (Ea (gt AY (Bb true::rs) D2))/\((0:Int)<=i/\i<(↑16:Int))/\(1=1/\193+Int.toNat i*1+1<=List.length (Bb true::rs))/\La (i+(1:Int))/\Za (AG ls)/\Flat zs/\Flat D1/\KR X 69 0 Q (Fb Try.f69 1) (mkS 68 [(4,O1 (PT 0 0)),(5,O1 (PT 1 0)),(45,AG ls),(46,O1 (I64 (i+(1:Int))))]) [some zs,some D1])/\(decide (i<(16:Int))=false->IsB (Bb true::rs)/\Flat (Bb true::rs)/\Flat D0/\193<=List.length D0/\(List.length (take 16 (drop 177 D0))=16/\16<=List.length zs)/\16<=List.length (Qa zs 0 (take 16 (drop 177 D0)))/\Za (AG (take 16 (drop 0 (Qa zs 0 (take 16 (drop 177 D0))))))/\Q (AG (take 16 (drop 0 (Qa zs 0 (take 16 (drop 177 D0)))))) [])) (hide (bc (kO (Bb true::rs)) (Yd (kO (Bb true::rs)) (Yb (xO (Bb true::rs)) (lO (Bb true::rs)))) z16 0))) (Qa (Bb true::rs) D2 [U8 (Ea (gt AY (Bb true::rs) D2)^^^Ea (gt AY ls (Int.toNat i*1)))])) (193+Int.toNat i*1)) : Ia X 69 0 Q (Fb Try.f69 1) (mkS 68 [(4,.one (.ptr 0 0)),(5,.one (.ptr 1 0)),(45,.agg ls),(46,.one (.i64 i))]) [some zs,some (.b true::rs)] :=
 wR' hX WNA4 ok69 [19,35,47] [(9,8),(14,11),(100007,0)] false (CS.mk [] [] [0] []) true [(8,LS.mk [4,5,8,9] (CS.mk [] [true,true,true,true] [] [])),(3,LS.mk [2,4,5,16,17,18] (CS.mk [] [true,true,true] [] [])),(12,LS.mk [4,5,45,46] (CS.mk [] [true,true] [45] []))] 2000 h (by kernel_rfl)
theorem vc71 {X} {Q : QT} (hX : PX X) (ks row : List AC) (n:Nat) (h : (fun D3 : List (BitVec 8)=>(fun D2 : List AC=>(fun D1 : List AC=>(fun D0 : List AC=>(fun L0 : Prop=>16<=List.length ks/\Flat (take 16 (drop 0 ks))/\(Oa (take 16 (drop 0 ks))/\List.length (take 16 (drop 0 ks))=16)/\(List.length (hide (List.map U8 (k1F D3)))=16/\16<=16)/\(List.length (hide (List.map U8 (k2F D3)))=16/\16<=16)/\0+n*1<=List.length row/\(n*1<=140737488355328/\n<=4611686018427387904)/\16<=List.length D2/\(List.length (take 16 (drop 0 D2))=16/\16<=16)/\(16:Int) ≠ (0:Int)/\((!decide (Int.tmod (↑n:Int) (16:Int)=(0:Int)))=true->L0)/\((!decide (Int.tmod (↑n:Int) (16:Int)=(0:Int)))=false->(decide ((↑n:Int)=(0:Int))=true->L0)/\(decide ((↑n:Int)=(0:Int))=false->Flat ks/\Flat (replicate 16 (U8 0))/\Flat (take (n*1) (drop 0 row))/\Flat D0/\Flat (replicate 16 (U8 0))/\KR X 71 0 Q (Fb Try.f71 1) (mkS 78 [(2,O1 (PT 0 0)),(4,O1 (PT 1 0)),(7,O1 (GS 2 n 1)),(8,O1 (PT 3 0)),(9,O1 (PT 4 0)),(10,O1 (I64 (0:Int)))]) [some ks,some (replicate 16 (U8 0)),some (take (n*1) (drop 0 row)),some D0,some (replicate 16 (U8 0))]))) (16<=List.length D1/\(List.length (take 16 (drop 0 D1))=16/\16<=List.length D0)/\1<=1/\((n+1)*1<=140737488355328/\n+1<=4611686018427387904)/\List.length (take (n*1) (drop 0 row))=n*1/\Flat ks/\Flat (replicate 16 (U8 0))/\Flat (take (n*1) (drop 0 row)++take 1 (drop 0 [Zc (Value.int IntKind.u8 128)]))/\Flat (Qa D0 0 (take 16 (drop 0 D1)))/\KR X 71 0 Q (Fb Try.f71 0) (mkS 78 [(2,O1 (PT 0 0)),(4,O1 (PT 1 0)),(7,O1 (GS 2 (n+1) 1)),(8,O1 (PT 3 0))]) [some ks,some (replicate 16 (U8 0)),some (take (n*1) (drop 0 row)++take 1 (drop 0 [Zc (Value.int IntKind.u8 128)])),some (Qa D0 0 (take 16 (drop 0 D1)))])) (Qa (replicate 16 (U8 0)) 0 (take 16 (drop 0 D2)))) (Qa (replicate 16 (U8 0)) 0 (hide (List.map U8 (k2F D3))))) (Qa (replicate 16 (U8 0)) 0 (hide (List.map U8 (k1F D3))))) (List.map Ea (take 16 (drop 0 ks)))) : Ia X 71 0 Q ([.code (Na Try.f71)]) (slots [.agg ks,.one (.xs row 0 n)] Try.f71.ntmps) [] :=
 wR' hX WNA4 ok71 [23,27,36,43,47,65] [(16,11),(18,8)] false (CS.mk [] [] [0] []) true [(7,LS.mk [2,4,7,8] (CS.mk [] [true,true,true,true] [] [])),(11,LS.mk [2,4,7,8,9,10] (CS.mk [] [true,true,true,true,true] [] [])),(14,LS.mk [2,4,7,8,9,10,11] (CS.mk [] [true,true,true,true,true] [] []))] 2000 h (by kernel_rfl)
theorem vc71a {X} {Q : QT} (hX : PX X) (ks zs row ls : List AC) (n:Nat) (h : (fun D0 : List AC=>(16:Int) ≠ (0:Int)/\((!decide (Int.tmod (↑n:Int) (16:Int)=(0:Int)))=true->1<=1/\((n+1)*1<=140737488355328/\n+1<=4611686018427387904)/\List.length row=n*1/\Flat ks/\Flat zs/\Flat D0/\Flat ls/\KR X 71 0 Q (Fb Try.f71 0) (mkS 78 [(2,O1 (PT 0 0)),(4,O1 (PT 1 0)),(7,O1 (GS 2 (n+1) 1)),(8,O1 (PT 3 0))]) [some ks,some zs,some D0,some ls])/\((!decide (Int.tmod (↑n:Int) (16:Int)=(0:Int)))=false->Flat ks/\Flat zs/\Flat row/\Flat ls/\Flat (replicate 16 (U8 0))/\KR X 71 0 Q (Fb Try.f71 1) (mkS 78 [(2,O1 (PT 0 0)),(4,O1 (PT 1 0)),(7,O1 (GS 2 n 1)),(8,O1 (PT 3 0)),(9,O1 (PT 4 0)),(10,O1 (I64 (0:Int)))]) [some ks,some zs,some row,some ls,some (replicate 16 (U8 0))])) (row++take 1 (drop 0 [Zc (Value.int IntKind.u8 0)]))) : Ia X 71 0 Q (Fb Try.f71 0) (mkS 78 [(2,.one (.ptr 0 0)),(4,.one (.ptr 1 0)),(7,.one (.gs 2 n 1)),(8,.one (.ptr 3 0))]) [some ks,some zs,some row,some ls] :=
 wR' hX WNA4 ok71 [23,27,36,43,47,65] [(16,11),(18,8)] false (CS.mk [] [] [0] []) true [(7,LS.mk [2,4,7,8] (CS.mk [] [true,true,true,true] [] [])),(11,LS.mk [2,4,7,8,9,10] (CS.mk [] [true,true,true,true,true] [] [])),(14,LS.mk [2,4,7,8,9,10,11] (CS.mk [] [true,true,true,true,true] [] []))] 2000 h (by kernel_rfl)
theorem vc71b {X} {Q : QT} (hX : PX X) (ks zs row ls xs : List AC) (n:Nat) (a:Int) (h : (fun D0 : List AC=>(decide (a<(↑n:Int))=true->Flat ks/\Flat zs/\Flat row/\Flat ls/\Flat xs/\KR X 71 0 Q (Fb Try.f71 2) (mkS 78 [(2,O1 (PT 0 0)),(4,O1 (PT 1 0)),(7,O1 (GS 2 n 1)),(8,O1 (PT 3 0)),(9,O1 (PT 4 0)),(10,O1 (I64 a)),(11,O1 (I64 (0:Int)))]) [some ks,some zs,some row,some ls,some xs])/\(decide (a<(↑n:Int))=false->16<=List.length xs/\(List.length (take 16 (drop 0 xs))=16/\16<=List.length zs)/\16<=List.length D0/\Za (AG (take 16 (drop 0 D0)))/\Q (AG (take 16 (drop 0 D0))) [])) (Qa zs 0 (take 16 (drop 0 xs)))) : Ia X 71 0 Q (Fb Try.f71 1) (mkS 78 [(2,.one (.ptr 0 0)),(4,.one (.ptr 1 0)),(7,.one (.gs 2 n 1)),(8,.one (.ptr 3 0)),(9,.one (.ptr 4 0)),(10,.one (.i64 a))]) [some ks,some zs,some row,some ls,some xs] :=
 wR' hX WNA4 ok71 [23,27,36,43,47,65] [(16,11),(18,8)] false (CS.mk [] [] [0] []) true [(7,LS.mk [2,4,7,8] (CS.mk [] [true,true,true,true] [] [])),(11,LS.mk [2,4,7,8,9,10] (CS.mk [] [true,true,true,true,true] [] [])),(14,LS.mk [2,4,7,8,9,10,11] (CS.mk [] [true,true,true,true,true] [] []))] 2000 h (by kernel_rfl)
theorem vc71c {X} {Q : QT} (hX : PX X) (ks zs row ls xs : List AC) (n:Nat) (a i:Int) (h : (fun D2 : Nat=>(fun D1 : List (BitVec 8)=>(fun D0 : List AC=>(decide (i<(16:Int))=true->((0:Int)<=i/\i<(↑16:Int))/\gt AY xs D2=U8 (Ea (gt AY xs D2))/\La (a+i)/\((0:Int)<=a+i/\a+i<(↑n:Int))/\gt AY row (0+Int.toNat (a+i)*1)=U8 (Ea (gt AY row (0+Int.toNat (a+i)*1)))/\((0:Int)<=i/\i<(↑16:Int))/\(1=1/\0+Int.toNat i*1+1<=List.length xs)/\La (a+(16:Int))/\(decide (a+(16:Int)=(↑n:Int))=true->((0:Int)<=i/\i<(↑16:Int))/\gt AY D0 D2=U8 (Ea (gt AY D0 D2))/\((0:Int)<=i/\i<(↑16:Int))/\gt AY ls D2=U8 (Ea (gt AY ls D2))/\((0:Int)<=i/\i<(↑16:Int))/\(1=1/\0+Int.toNat i*1+1<=List.length D0)/\La (i+(1:Int))/\Flat ks/\Flat zs/\Flat row/\Flat ls/\Flat (Qa D0 D2 [U8 (Ea (gt AY D0 D2)^^^Ea (gt AY ls D2))])/\KR X 71 0 Q (Fb Try.f71 2) (mkS 78 [(2,O1 (PT 0 0)),(4,O1 (PT 1 0)),(7,O1 (GS 2 n 1)),(8,O1 (PT 3 0)),(9,O1 (PT 4 0)),(10,O1 (I64 a)),(11,O1 (I64 (i+(1:Int))))]) [some ks,some zs,some row,some ls,some (Qa D0 D2 [U8 (Ea (gt AY D0 D2)^^^Ea (gt AY ls D2))])])/\(decide (a+(16:Int)=(↑n:Int))=false->La (i+(1:Int))/\Flat ks/\Flat zs/\Flat row/\Flat ls/\Flat D0/\KR X 71 0 Q (Fb Try.f71 2) (mkS 78 [(2,O1 (PT 0 0)),(4,O1 (PT 1 0)),(7,O1 (GS 2 n 1)),(8,O1 (PT 3 0)),(9,O1 (PT 4 0)),(10,O1 (I64 a)),(11,O1 (I64 (i+(1:Int))))]) [some ks,some zs,some row,some ls,some D0]))/\(decide (i<(16:Int))=false->16<=List.length ks/\16<=List.length xs/\Flat (take 16 (drop 0 ks))/\Flat (take 16 (drop 0 xs))/\(Oa (take 16 (drop 0 ks))/\List.length (take 16 (drop 0 ks))=16/\Oa (take 16 (drop 0 xs))/\List.length (take 16 (drop 0 xs))=16)/\(List.length (hide (List.map U8 D1))=16/\16<=List.length xs)/\La (a+(16:Int))/\Flat ks/\Flat zs/\Flat row/\Flat ls/\Flat (Qa xs 0 (hide (List.map U8 D1)))/\KR X 71 0 Q (Fb Try.f71 1) (mkS 78 [(2,O1 (PT 0 0)),(4,O1 (PT 1 0)),(7,O1 (GS 2 n 1)),(8,O1 (PT 3 0)),(9,O1 (PT 4 0)),(10,O1 (I64 (a+(16:Int))))]) [some ks,some zs,some row,some ls,some (Qa xs 0 (hide (List.map U8 D1)))])) (Qa xs D2 [U8 (Ea (gt AY xs D2)^^^Ea (gt AY row (0+Int.toNat (a+i)*1)))])) (Yd (List.map Ea (take 16 (drop 0 ks))) (List.map Ea (take 16 (drop 0 xs))))) (0+Int.toNat i*1)) : Ia X 71 0 Q (Fb Try.f71 2) (mkS 78 [(2,.one (.ptr 0 0)),(4,.one (.ptr 1 0)),(7,.one (.gs 2 n 1)),(8,.one (.ptr 3 0)),(9,.one (.ptr 4 0)),(10,.one (.i64 a)),(11,.one (.i64 i))]) [some ks,some zs,some row,some ls,some xs] :=
 wR' hX WNA4 ok71 [23,27,36,43,47,65] [(16,11),(18,8)] false (CS.mk [] [] [0] []) true [(7,LS.mk [2,4,7,8] (CS.mk [] [true,true,true,true] [] [])),(11,LS.mk [2,4,7,8,9,10] (CS.mk [] [true,true,true,true,true] [] [])),(14,LS.mk [2,4,7,8,9,10,11] (CS.mk [] [true,true,true,true,true] [] []))] 2000 h (by kernel_rfl)
theorem bc_init (key : List (BitVec 8)) : lay ([Bb false] ++ (replicate 208 (U8 0) ++ [I64 0])) 0 (Bb true :: (Zd key 176).map U8) = bc key z16 z16 0 := by
 have e : ([Bb false] ++ (replicate 208 (U8 0) ++ [I64 0])) = [] ++ ((Bb false :: replicate 176 (U8 0)) ++ (z16.map U8 ++ (z16.map U8 ++ [I64 (0:Nat)]))) := by kernel_rfl
 have hl : (Bb false :: replicate 176 (U8 0)).length = 177 := by rw [List.length_cons, List.length_replicate]
 have hb := bk1_len key
 have h := lay_seg [] (Bb false :: replicate 176 (U8 0)) (z16.map U8 ++ (z16.map U8 ++ [I64 (0:Nat)])) (bk1 key) (o := 0) (by rw [hb, hl]; exact Nat.le_refl _)
 rw [lay_all' (l := Bb false :: replicate 176 (U8 0)) (cs := bk1 key) (by rw [hb, hl])] at h
 rw [e, bc_1]
 exact h
theorem fl_take (ps : List (List (BitVec 8))) (i:Nat) (h : i < ps.length) : (ps.take (i + 1)).flatten = (ps.take i).flatten ++ ps.getD i [] := flat_take ps i h
theorem l69c {X : Ctx} (hX : X.P = Try.prog) {Q : AV → Mem → Prop} (key x l last : List (BitVec 8)) (n:Nat) (hk : key.length = 16) (hx : x.length = 16) (hl : l.length = 16) (hs : last.length = 16)
  (hQ : Q (.agg ((Yd key (Yb x (Yb l last))).map U8)) []) : ∀ (d i:Nat), i + d = 16 →
  Ia X 69 0 Q (Fb Try.f69 1) (mkS 68 [(4, .one (.ptr 0 0)), (5, .one (.ptr 1 0)), (45, .agg (last.map U8)), (46, .one (.i64 i))]) [some (replicate 16 (U8 0)), some (Bb true :: bt key x (XT l last i) n)] := by
 have z : Flat (replicate 16 (U8 0)) := by rw [Jd]; exact Aa _
 intro d
 induction d with
 | zero =>
  intro i hi
  have hi : i = 16 := by omega
  subst hi
  rw [XT_16 hl]
  have hl2 := xor16 l last
  have hi : IsB (bc key x (Yb l last) n) := isB_bc hk hx hl2
  have k1 : kO (bc key x (Yb l last) n) = key := kO_bc hk
  have k2 : xO (bc key x (Yb l last) n) = x := xO_bc hx
  have k3 : lO (bc key x (Yb l last) n) = Yb l last := lO_bc hx hl2
  have hE := encF_len key (Yb x (Yb l last))
  have b1 := bc_x (key := key) (l := z16) (n := 0) hE
  have L := bc_len (key := key) (n := 0) hE z16_len
  have eE : (Yd key (Yb x (Yb l last))).take 16 = Yd key (Yb x (Yb l last)) := List.take_of_length_le (by omega)
  have lE : Qa (replicate 16 (U8 0)) 0 ((Yd key (Yb x (Yb l last))).map U8) = (Yd key (Yb x (Yb l last))).map U8 := Ae _ _ hE
  refine vc69c hX _ _ _ _ ⟨fun h => absurd (of_decide_eq_true h) (by omega), fun _ => ?_⟩
  simp only [Ja, bc_eq, k1, k2, k3, b1, L, lE, tk0, List.drop_zero, eE, List.length_map, List.length_replicate, hE]
  clear k1 k2 k3 b1 L eE lE
  generalize Yd key (Yb x (Yb l last)) = E at *
  (repeat' (first | exact trivial | exact Aa _ | exact Ya _ | exact z | exact bc_flat | exact hi | exact hQ | exact Nat.le_refl _ | refine And.intro ?_ ?_)) <;> first | omega | skip
 | succ d ih =>
  intro i hi
  have ih := ih (i + 1) (by omega)
  have hl' := XT_len hl last i
  have gx := bc_gl (key := key) (n := n) hx hl' (i := i) (by omega)
  rw [XT_get last (by omega)] at gx
  have gl := Cb last i (by omega)
  have sx := bc_sl1 (key := key) (n := n) hx hl' (i := i) (by omega) (l.getD i 0 ^^^ last.getD i 0)
  rw [XT_set hl last (by omega)] at sx
  have hlen := bc_len (key := key) (n := n) hx hl'
  rw [bc_eq] at ih
  refine vc69c hX _ _ _ _ ⟨fun _ => ?_, fun h => absurd (of_decide_eq_false h) (by omega)⟩
  simp only [bc_eq, ix1, ix193, gx, gl, sx, Ea, hlen]
  (repeat' (first | exact trivial | exact z | exact Ya _ | exact bc_flat | exact Nat.le_refl _ | refine And.intro ?_ ?_)) <;> first | omega | (unfold La; omega) | skip
  exact ⟨ih⟩
theorem l69b {X : Ctx} (hX : X.P = Try.prog) (key m : List (BitVec 8)) (hk : key.length = 16) :
  Ia X 69 0 (Is (.agg ((cmF key m).map U8))) (Ub Try.f69 7) (mkS 68 [(4, .one (.ptr 0 0)), (5, .one (.ptr 1 0)), (8, .one (.ptr 2 0)), (9, .one (.ptr 3 0))]) [some (replicate 16 (U8 0)), some (Bb true :: bt key (xM key m) (leftM m) (tlM m).length), some ((k1F key).map U8), some ((k2F key).map U8)] := by
 have z : Flat (replicate 16 (U8 0)) := by rw [Jd]; exact Aa _
 have hx := xM_len key m
 have hl := leftM_len m
 have l1 := k1_len key
 have l2 := k2_len key
 have hn := tlM_le m
 have bn := bc_n (key := key) (n := (tlM m).length) hx hl
 have t1 : (k1F key).take 16 = k1F key := List.take_of_length_le (by omega)
 have t2 : (k2F key).take 16 = k2F key := List.take_of_length_le (by omega)
 have c1 : Qa ((k1F key).map U8) 0 ((k2F key).map U8) = (k2F key).map U8 := layM _ _ (by omega)
 have L := bc_len (key := key) (n := (tlM m).length) hx hl
 refine vc69b hX _ _ _ _ ?_
 simp only [bc_eq, bn, Md]
 refine ⟨trivial, fun h => ?_, fun h => ?_⟩
 ·have h := of_decide_eq_true h
  have h' : (tlM m).length < 16 := by omega
  have hl' : ((leftM m).set (tlM m).length 128#8).length = 16 := by rw [List.length_set]; exact hl
  have K := l69c hX (Q := Is (.agg ((cmF key m).map U8))) key (xM key m) ((leftM m).set (tlM m).length 128#8) (k2F key) (tlM m).length hk hx hl' l2 (by rw [← cm_part key m h']; exact rfl) 16 0 rfl
  rw [XT_0, bc_eq] at K
  have sl := bc_sl1 (key := key) (n := (tlM m).length) hx hl (i := (tlM m).length) h' 128#8
  have cv : Zc (Value.int IntKind.u8 128) = U8 128#8 := rfl
  simp only [ix193, cv, sl, tkm, tk0, List.drop_zero, t2, c1, L, List.length_map, l1, l2]
  clear t1 t2 c1 L sl bn
  generalize k1F key = a1 at *
  generalize k2F key = a2 at *
  (repeat' (first | exact trivial | exact z | exact Ya _ | exact Aa _ | exact bc_flat | exact Nat.le_refl _ | refine And.intro ?_ ?_)) <;> first | omega | skip
  exact ⟨K⟩
 ·have h := of_decide_eq_false h
  have h' : (tlM m).length = 16 := by omega
  have K := l69c hX (Q := Is (.agg ((cmF key m).map U8))) key (xM key m) (leftM m) (k1F key) (tlM m).length hk hx hl l1 (by rw [← cm_whole key m h']; exact rfl) 16 0 rfl
  rw [XT_0, bc_eq] at K
  simp only [tkm, tk0, List.drop_zero, t1, List.length_map, l1]
  clear t1 t2 c1 L bn
  generalize k1F key = a1 at *
  generalize k2F key = a2 at *
  (repeat' (first | exact trivial | exact z | exact Ya _ | exact Aa _ | exact bc_flat | exact Nat.le_refl _ | refine And.intro ?_ ?_)) <;> first | omega | skip
  exact ⟨K⟩
theorem l69a {X : Ctx} (hX : X.P = Try.prog) (key : List (BitVec 8)) (hk : key.length = 16) (ps : List (List (BitVec 8))) (hps : ps.length ≤ 1000000) : ∀ (d i:Nat), i + d = ps.length →
  Ia X 69 0 (Is (.agg ((cmF key ps.flatten).map U8))) (Fb Try.f69 0) (mkS 68 [(2, .one (.ptr 0 0)), (4, .one (.ptr 1 0)), (5, .one (.ptr 2 0)), (16, .one (.xs (ps.map encP) 0 ps.length)), (17, .one (.i64 ps.length)), (18, .one (.i64 i))])
   [some (key.map U8), some (replicate 16 (U8 0)), some (Bb true :: bt key (xM key (ps.take i).flatten) (leftM (ps.take i).flatten) (tlM (ps.take i).flatten).length)] := by
 have z : Flat (replicate 16 (U8 0)) := by rw [Jd]; exact Aa _
 have l1 := k1_len key
 have l2 := k2_len key
 have ek : key.take 16 = key := List.take_of_length_le (by omega)
 intro d
 induction d with
 | zero =>
  intro i hi
  have hi : i = ps.length := by omega
  subst hi
  rw [List.take_length]
  have K := l69b hX key ps.flatten hk
  have e1 : Qa (replicate 16 (U8 0)) 0 ((k1F key).map U8) = (k1F key).map U8 := Ae _ _ l1
  have e2 : Qa (replicate 16 (U8 0)) 0 ((k2F key).map U8) = (k2F key).map U8 := Ae _ _ l2
  refine vc69a hX _ _ _ _ _ _ ⟨fun h => absurd (of_decide_eq_true h) (by omega), fun _ => ?_⟩
  try dsimp only
  rw [bc_eq] at K
  simp only [Ja, bc_eq, tk0, List.drop_zero, ek, Ua, e1, e2, List.length_map, hk, l1, l2]
  clear e1 e2 ek
  generalize k1F key = a1 at *
  generalize k2F key = a2 at *
  (repeat' (first | exact trivial | exact z | exact Ya _ | exact Aa _ | exact bc_flat | exact Ba _ | exact Nat.le_refl _ | refine And.intro ?_ ?_)) <;> first | omega | skip
  exact ⟨K⟩
 | succ d ih =>
  intro i hi
  have ih := ih (i + 1) (by omega)
  have hx := xM_len key (ps.take i).flatten
  have hl := leftM_len (ps.take i).flatten
  have hn := tlM_le (ps.take i).flatten
  have hg := gt_P_at ps i (by omega)
  have e := tookB key ((ps.take (i + 1)).flatten)
  rw [fl_take ps i (by omega), addB_app, tookB] at e
  rw [← fl_take ps i (by omega)] at e
  have hi2 : IsB (bc key (xM key (ps.take i).flatten) (leftM (ps.take i).flatten) (tlM (ps.take i).flatten).length) := isB_bc hk hx hl
  have k1 := kO_bc (key := key) (x := xM key (ps.take i).flatten) (l := leftM (ps.take i).flatten) (n := (tlM (ps.take i).flatten).length) hk
  have k2 := xO_bc (key := key) (l := leftM (ps.take i).flatten) (n := (tlM (ps.take i).flatten).length) hx
  have k3 := lO_bc (key := key) (n := (tlM (ps.take i).flatten).length) hx hl
  have k4 := nO_bc (key := key) (n := (tlM (ps.take i).flatten).length) hx hl
  rw [bc_eq] at ih
  refine vc69a hX _ _ _ _ _ _ ⟨fun _ => ?_, fun h => absurd (of_decide_eq_false h) (by omega)⟩
  simp only [Ja, bc_eq, ixi, hg, encP, Td, xsOff, xsLen, k1, k2, k3, k4, Ua, e, bcB, List.length_map]
  (repeat' (first | exact trivial | exact z | exact hi2 | exact Ya _ | exact Aa _ | exact bc_flat | exact Ba _ | exact Nat.le_refl _ | refine And.intro ?_ ?_)) <;> first | omega | (unfold La; omega) | skip
  exact ⟨ih⟩
theorem s69 (key : List (BitVec 8)) (hk : key.length = 16) (ps : List (List (BitVec 8))) (hps : ps.length ≤ 1000000) : Spec Try.prog 69 [.agg (key.map U8), .one (.xs (ps.map encP) 0 ps.length)] [] (Is (.agg ((cmF key ps.flatten).map U8))) := by
 refine Spec.of_run ok69 fun X hX => vc69 hX _ _ _ ?_
 have z : Flat (replicate 16 (U8 0)) := by rw [Jd]; exact Aa _
 have ek : key.take 16 = key := List.take_of_length_le (by omega)
 have K := l69a hX key hk ps hps ps.length 0 (by omega)
 rw [List.take_zero] at K
 rw [show Bb true :: bt key (xM key [].flatten) (leftM [].flatten) (tlM [].flatten).length = bc key z16 z16 0 from rfl] at K
 have bi := bc_init key
 have hE := bk1_len key
 unfold bk1 at hE
 simp only [Ja, tk0, List.drop_zero, ek, Ua, bi, hE, List.length_map, hk]
 clear ek bi hE
 (repeat' (first | exact trivial | exact z | exact Ya _ | exact Aa _ | exact bc_flat | exact Ba _ | exact Nat.le_refl _ | refine And.intro ?_ ?_)) <;> first | omega | skip
 exact ⟨K⟩
end DH
