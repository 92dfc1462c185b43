/- Walks of functions, each by evaluation: what each returns; with the layer beneath. -/
import Derived.Test.YtdnggeocdocomaaNA
import Derived.Test.YtdnggeocdocomaaJA
import Derived.Test.YtdnggeocdocomaaHB
set_option linter.unusedVariables false
set_option linter.unusedSimpArgs false
noncomputable section
namespace DH
set_option maxRecDepth 100000
open List (take drop replicate)
open AC renaming u8 → U8, u16 → Va, u32 → Fa, u64 → Nc, i64 → I64, b → Bb, xs → XS, gs → GS, sv → SV, ptr → PT, any → AY, ns → NS
open AV renaming one → O1, agg → AG, Ec → TU
open Go Go.Proofs
theorem not_dec {p : Prop} [Decidable p] (h : (!decide p) = true) : ¬ p := by simpa using h
theorem is_dec {p : Prop} [Decidable p] (h : (!decide p) = false) : p := by simpa using h
def TX (t x : List (BitVec 8)) (i:Nat) : List (BitVec 8) := t.take i ++ x.drop i
theorem TX_len {t x : List (BitVec 8)} (ht : t.length = 16) (hx : x.length = 16) (i:Nat) : (TX t x i).length = 16 := by unfold TX; rw [lenT _ _ (by rw [ht, hx]), hx]
theorem TX_0 (t x : List (BitVec 8)) : TX t x 0 = x := begT _ _
theorem TX_16 {t x : List (BitVec 8)} (ht : t.length = 16) (hx : x.length = 16) : TX t x 16 = t := by
 have := endT t x (by rw [ht, hx])
 rwa [ht] at this
theorem TX_get {t x : List (BitVec 8)} (ht : t.length = 16) {i : Nat} (hi : i < 16) : (TX t x i).getD i 0 = x.getD i 0 := getT_src _ _ _ (by omega) (Nat.le_refl _)
theorem TX_set {t x : List (BitVec 8)} (ht : t.length = 16) (hx : x.length = 16) {i : Nat} (hi : i < 16) {v : BitVec 8} (hv : v = t.getD i 0) : (TX t x i).set i v = TX t x (i + 1) := by
 rw [hv]
 exact setT t x 0 (by omega) (by omega)
theorem blk_get (b : List (BitVec 8)) (j:Nat) {i : Nat} (h : 16 * j + 16 ≤ b.length) (hi : i < 16) : (blk16 b j).getD i 0 = b.getD (16 * j + i) 0 := by
 unfold blk16
 rw [List.getD_eq_getElem?_getD, List.getD_eq_getElem?_getD, List.getElem?_take_of_lt hi, List.getElem?_drop]
def tgt (x b last : List (BitVec 8)) (j:Nat) : List (BitVec 8) := if 16 * j + 16 = b.length then Yb (Yb x (blk16 b j)) last else Yb x (blk16 b j)
theorem tgt_len (x b last : List (BitVec 8)) (j:Nat) : (tgt x b last j).length = 16 := by unfold tgt; split <;> exact xor16 _ _
theorem l71c {X : Ctx} (hX : X.P = Try.prog) (key b last x : List (BitVec 8)) (hk : key.length = 16) (hs : last.length = 16) (hx : x.length = 16) (hb : b.length ≤ 2000000) (j:Nat) (hj : 16 * j + 16 ≤ b.length)
  (K : Ia X 71 0 (Is (.agg ((endF key b last).map U8))) (Fb Try.f71 1) (mkS 78 [(2, .one (.ptr 0 0)), (4, .one (.ptr 1 0)), (7, .one (.gs 2 b.length 1)), (8, .one (.ptr 3 0)), (9, .one (.ptr 4 0)), (10, .one (.i64 (16 * (j + 1):Nat)))]) [some (key.map U8), some (replicate 16 (U8 0)), some (b.map U8), some (last.map U8), some ((Yd key (tgt x b last j)).map U8)]) : ∀ (d i:Nat), i + d = 16 →
  Ia X 71 0 (Is (.agg ((endF key b last).map U8))) (Fb Try.f71 2) (mkS 78 [(2, .one (.ptr 0 0)), (4, .one (.ptr 1 0)), (7, .one (.gs 2 b.length 1)), (8, .one (.ptr 3 0)), (9, .one (.ptr 4 0)), (10, .one (.i64 (16 * j:Nat))), (11, .one (.i64 i))]) [some (key.map U8), some (replicate 16 (U8 0)), some (b.map U8), some (last.map U8), some ((TX (tgt x b last j) x i).map U8)] := by
 have z : Flat (replicate 16 (U8 0)) := by rw [Jd]; exact Aa _
 have ht := tgt_len x b last j
 have ek : key.take 16 = key := List.take_of_length_le (by omega)
 intro d
 induction d with
 | zero =>
  intro i hi
  have hi : i = 16 := by omega
  subst hi
  rw [TX_16 ht hx]
  have et : (tgt x b last j).take 16 = tgt x b last j := List.take_of_length_le (by omega)
  have hE := encF_len key (tgt x b last j)
  have eE : Qa ((tgt x b last j).map U8) 0 ((Yd key (tgt x b last j)).map U8) = (Yd key (tgt x b last j)).map U8 := layM _ _ (by omega)
  have e1 : ((16 * j:Nat):Int) + 16 = ((16 * (j + 1):Nat):Int) := by omega
  refine vc71c hX _ _ _ _ _ _ _ _ ⟨fun h => absurd (of_decide_eq_true h) (by omega), fun _ => ?_⟩
  simp only [Ja, tk0, List.drop_zero, ek, et, Ua, eE, e1, List.length_map, hk, ht, hE]
  clear ek et eE
  generalize Yd key (tgt x b last j) = E at *
  (repeat' (first | exact z | exact trivial | exact Aa _ | exact Ya _ | exact Ba _ | exact Nat.le_refl _ | refine And.intro ?_ ?_)) <;> (first | omega | exact z | (unfold La; omega) | exact List.length_map _ | (show Is _ _ _; exact rfl) | skip)
  exact ⟨K⟩
 | succ d ih =>
  intro i hi
  have ih := ih (i + 1) (by omega)
  have hl := TX_len ht hx i
  have gx := Cb (TX (tgt x b last j) x i) i (by omega)
  rw [TX_get ht (by omega)] at gx
  have gb := Cb b (16 * j + i) (by omega)
  have gl := Cb last i (by omega)
  have e1 : ((16 * j:Nat):Int) + (i:Int) = ((16 * j + i:Nat):Int) := by omega
  have e2 : decide (((16 * j:Nat):Int) + 16 = (b.length:Int)) = decide (16 * j + 16 = b.length) := decide_eq_decide.2 (by omega)
  have hls : ∀ v, ((TX (tgt x b last j) x i).set i v).length = 16 := fun v => by rw [List.length_set]; exact hl
  have gs : ∀ v, gt AY (((TX (tgt x b last j) x i).set i v).map U8) i = .u8 v := fun v => by rw [Cb _ _ (by rw [hls]; omega), get_set_self _ (by omega)]
  refine vc71c hX _ _ _ _ _ _ _ _ ⟨fun _ => ?_, fun h => absurd (of_decide_eq_false h) (by omega)⟩
  simp only [e1, e2, ixn, gx, gb, gl, Ea, Xd, gs, List.set_set, List.length_map, hl, hls]
  by_cases hf : 16 * j + 16 = b.length
  ·have tv : x.getD i 0 ^^^ b.getD (16 * j + i) 0 ^^^ last.getD i 0 = (tgt x b last j).getD i 0 := by
    unfold tgt
    rw [if_pos hf, show (Yb (Yb x (blk16 b j)) last).getD i 0 = (Yb x (blk16 b j)).getD i 0 ^^^ last.getD i 0 from Yc _ (by omega), show (Yb x (blk16 b j)).getD i 0 = x.getD i 0 ^^^ (blk16 b j).getD i 0 from Yc _ (by omega), blk_get b j hj (by omega)]
   have hset := TX_set ht hx (i := i) (by omega) tv
   simp only [hf, decide_true, true_implies, Bool.true_eq_false, false_implies, and_true, hset]
   (repeat' (first | exact z | exact trivial | exact Aa _ | exact Ya _ | exact Ba _ | exact Nat.le_refl _ | refine And.intro ?_ ?_)) <;> (first | omega | exact z | (unfold La; omega) | exact List.length_map _ | (show Is _ _ _; exact rfl) | skip)
   exact ⟨ih⟩
  ·have tv : x.getD i 0 ^^^ b.getD (16 * j + i) 0 = (tgt x b last j).getD i 0 := by
    unfold tgt
    rw [if_neg hf, show (Yb x (blk16 b j)).getD i 0 = x.getD i 0 ^^^ (blk16 b j).getD i 0 from Yc _ (by omega), blk_get b j hj (by omega)]
   have hset := TX_set ht hx (i := i) (by omega) tv
   simp only [hf, decide_false, true_implies, Bool.false_eq_true, false_implies, true_and, hset]
   (repeat' (first | exact z | exact trivial | exact Aa _ | exact Ya _ | exact Ba _ | exact Nat.le_refl _ | refine And.intro ?_ ?_)) <;> (first | omega | exact z | (unfold La; omega) | exact List.length_map _ | (show Is _ _ _; exact rfl) | skip)
   exact ⟨ih⟩
theorem l71b {X : Ctx} (hX : X.P = Try.prog) (key b last : List (BitVec 8)) (hk : key.length = 16) (hs : last.length = 16) (hb : b.length ≤ 2000000) (hm : b.length % 16 = 0 ∧ 0 < b.length) : ∀ (d j:Nat), j + (d + 1) = b.length / 16 →
  Ia X 71 0 (Is (.agg ((endF key b last).map U8))) (Fb Try.f71 1) (mkS 78 [(2, .one (.ptr 0 0)), (4, .one (.ptr 1 0)), (7, .one (.gs 2 b.length 1)), (8, .one (.ptr 3 0)), (9, .one (.ptr 4 0)), (10, .one (.i64 (16 * j:Nat)))]) [some (key.map U8), some (replicate 16 (U8 0)), some (b.map U8), some (last.map U8), some ((cbc key b j).map U8)] := by
 have z : Flat (replicate 16 (U8 0)) := by rw [Jd]; exact Aa _
 intro d
 induction d with
 | zero =>
  intro j hj
  have hE := encF_len key (tgt (cbc key b j) b last j)
  have ee : Yd key (tgt (cbc key b j) b last j) = endF key b last := by
   unfold tgt endF
   rw [if_pos (by omega), show b.length / 16 - 1 = j by omega]
  rw [ee] at hE
  have eE : (endF key b last).take 16 = endF key b last := List.take_of_length_le (by omega)
  have lE : Qa (replicate 16 (U8 0)) 0 ((endF key b last).map U8) = (endF key b last).map U8 := Ae _ _ hE
  have K : Ia X 71 0 (Is (.agg ((endF key b last).map U8))) (Fb Try.f71 1) (mkS 78 [(2, .one (.ptr 0 0)), (4, .one (.ptr 1 0)), (7, .one (.gs 2 b.length 1)), (8, .one (.ptr 3 0)), (9, .one (.ptr 4 0)), (10, .one (.i64 (16 * (j + 1):Nat)))]) [some (key.map U8), some (replicate 16 (U8 0)), some (b.map U8), some (last.map U8), some ((Yd key (tgt (cbc key b j) b last j)).map U8)] := by
   rw [ee]
   refine vc71b hX _ _ _ _ _ _ _ ⟨fun h => absurd (of_decide_eq_true h) (by omega), fun _ => ?_⟩
   simp only [tk0, List.drop_zero, eE, lE, List.length_map, List.length_replicate, hE]
   clear eE lE ee
   generalize endF key b last = E at *
   (repeat' (first | exact z | exact trivial | exact Aa _ | exact Ya _ | exact Ba _ | exact Nat.le_refl _ | refine And.intro ?_ ?_)) <;> (first | omega | exact z | (unfold La; omega) | exact List.length_map _ | (show Is _ _ _; exact rfl) | skip)
  have K2 := l71c hX key b last (cbc key b j) hk hs (cbc_len _ _ _) hb j (by omega) K 16 0 rfl
  rw [TX_0] at K2
  refine vc71b hX _ _ _ _ _ _ _ ⟨fun _ => ?_, fun h => absurd (of_decide_eq_false h) (by omega)⟩
  (repeat' (first | exact z | exact trivial | exact Aa _ | exact Ya _ | exact Ba _ | exact Nat.le_refl _ | refine And.intro ?_ ?_)) <;> (first | omega | exact z | (unfold La; omega) | exact List.length_map _ | (show Is _ _ _; exact rfl) | skip)
  exact ⟨K2⟩
 | succ d ih =>
  intro j hj
  have K := ih (j + 1) (by omega)
  rw [show cbc key b (j + 1) = Yd key (tgt (cbc key b j) b last j) by unfold tgt; rw [if_neg (by omega)]; rfl] at K
  have K2 := l71c hX key b last (cbc key b j) hk hs (cbc_len _ _ _) hb j (by omega) K 16 0 rfl
  rw [TX_0] at K2
  refine vc71b hX _ _ _ _ _ _ _ ⟨fun _ => ?_, fun h => absurd (of_decide_eq_false h) (by omega)⟩
  (repeat' (first | exact z | exact trivial | exact Aa _ | exact Ya _ | exact Ba _ | exact Nat.le_refl _ | refine And.intro ?_ ?_)) <;> (first | omega | exact z | (unfold La; omega) | exact List.length_map _ | (show Is _ _ _; exact rfl) | skip)
  exact ⟨K2⟩
theorem l71a {X : Ctx} (hX : X.P = Try.prog) (key m : List (BitVec 8)) (hk : key.length = 16) (hm : m.length ≤ 1000000) (hw : ¬ (m.length % 16 = 0 ∧ 0 < m.length)) : ∀ (d i:Nat), i + d = 15 - m.length % 16 →
  Ia X 71 0 (Is (.agg ((cmF key m).map U8))) (Fb Try.f71 0) (mkS 78 [(2, .one (.ptr 0 0)), (4, .one (.ptr 1 0)), (7, .one (.gs 2 (m ++ 128#8 :: replicate i 0#8).length 1)), (8, .one (.ptr 3 0))]) [some (key.map U8), some (replicate 16 (U8 0)), some ((m ++ 128#8 :: replicate i 0#8).map U8), some ((k2F key).map U8)] := by
 have z : Flat (replicate 16 (U8 0)) := by rw [Jd]; exact Aa _
 have l2 := k2_len key
 have hlen : ∀ i, (m ++ 128#8 :: replicate i 0#8).length = m.length + (i + 1) := fun i => by rw [List.length_append, List.length_cons, List.length_replicate]
 have hmod : ∀ n : Nat, Int.tmod (n:Int) 16 = ((n % 16:Nat):Int) := fun n => tmod_nat n 16
 intro d
 induction d with
 | zero =>
  intro i hi
  have hi : i = 15 - m.length % 16 := by omega
  have e : padM m = m ++ 128#8 :: replicate i 0#8 := by unfold padM; rw [if_neg hw, hi]; rfl
  have e2 : cmF key m = endF key (padM m) (k2F key) := by unfold cmF lastK; rw [if_neg hw]
  have hp := padM_len m
  have K := l71b hX key (padM m) (k2F key) hk l2 (by omega) ⟨hp.1, hp.2.1⟩ ((padM m).length / 16 - 1) 0 (by omega)
  rw [← e2, show (cbc key (padM m) 0).map U8 = replicate 16 (U8 0) from List.map_replicate] at K
  rw [← e]
  have hz : decide (Int.tmod ((padM m).length:Int) 16 = 0) = true := decide_eq_true (by rw [hmod]; omega)
  refine vc71a hX _ _ _ _ _ ⟨by decide, fun h => ?_, fun _ => ?_⟩
  ·rw [hz] at h; cases h
  ·(repeat' (first | exact z | exact trivial | exact Aa _ | exact Ya _ | exact Ba _ | exact Nat.le_refl _ | refine And.intro ?_ ?_)) <;> (first | omega | exact z | (unfold La; omega) | exact List.length_map _ | (show Is _ _ _; exact rfl) | skip)
   exact ⟨K⟩
 | succ d ih =>
  intro i hi
  have ih := ih (i + 1) (by omega)
  have hL := hlen i
  have hL2 := hlen (i + 1)
  have hz : decide (Int.tmod ((m ++ 128#8 :: replicate i 0#8).length:Int) 16 = 0) = false := decide_eq_false (by rw [hmod, hL]; omega)
  have ha : (m ++ 128#8 :: replicate i 0#8).map U8 ++ take 1 (drop 0 [Zc (.int .u8 0)]) = (m ++ 128#8 :: replicate (i + 1) 0#8).map U8 := by
   have := app1 (m ++ 128#8 :: replicate i 0#8) 0#8
   rw [List.append_assoc, List.cons_append, ← List.replicate_succ'] at this
   exact this
  refine vc71a hX _ _ _ _ _ ⟨by decide, fun _ => ?_, fun h => ?_⟩
  ·rw [ha, List.length_map]
   rw [show (m ++ 128#8 :: replicate i 0#8).length + 1 = (m ++ 128#8 :: replicate (i + 1) 0#8).length by omega]
   (repeat' (first | exact z | exact trivial | exact Aa _ | exact Ya _ | exact Ba _ | exact Nat.le_refl _ | refine And.intro ?_ ?_)) <;> (first | omega | exact z | (unfold La; omega) | exact List.length_map _ | (show Is _ _ _; exact rfl) | skip)
   exact ⟨ih⟩
  ·rw [hz] at h; cases h
theorem s71 (key m : List (BitVec 8)) (hk : key.length = 16) (hm : m.length ≤ 1000000) : Spec Try.prog 71 [.agg (key.map U8), .one (.xs (m.map U8) 0 m.length)] [] (Is (.agg ((cmF key m).map U8))) := by
 refine Spec.of_run ok71 fun X hX => vc71 hX _ _ _ ?_
 have z : Flat (replicate 16 (U8 0)) := by rw [Jd]; exact Aa _
 have ek : key.take 16 = key := List.take_of_length_le (by omega)
 have l1 := k1_len key
 have l2 := k2_len key
 have t1 : (k1F key).take 16 = k1F key := List.take_of_length_le (by omega)
 have t2 : (k2F key).take 16 = k2F key := List.take_of_length_le (by omega)
 have e1 : Qa (replicate 16 (U8 0)) 0 ((k1F key).map U8) = (k1F key).map U8 := Ae _ _ l1
 have e2 : Qa (replicate 16 (U8 0)) 0 ((k2F key).map U8) = (k2F key).map U8 := Ae _ _ l2
 have e3 : Qa ((k1F key).map U8) 0 ((k2F key).map U8) = (k2F key).map U8 := layM _ _ (by omega)
 have hmod : Int.tmod (m.length:Int) 16 = ((m.length % 16:Nat):Int) := tmod_nat m.length 16
 have tm : take (m.length * 1) (drop 0 (m.map U8)) = m.map U8 := tk m
 have ha : m.map U8 ++ take 1 (drop 0 [Zc (.int .u8 128)]) = (m ++ 128#8 :: replicate 0 0#8).map U8 := app1 m 128#8
 have hL : (m ++ 128#8 :: replicate 0 0#8).length = m.length + 1 := by rw [List.length_append, List.length_cons, List.length_replicate]
 rw [tm, ha, hmod]
 simp only [Ja, tk0, List.drop_zero, ek, Ua, e1, e2, t1, t2, e3, List.length_map, List.length_replicate, hk, l1, l2]
 clear ek t1 t2 e1 e2 e3 ha tm
 have part : ¬ (m.length % 16 = 0 ∧ 0 < m.length) → Ia X 71 0 (Is (.agg ((cmF key m).map U8))) (Fb Try.f71 0) (mkS 78 [(2, .one (.ptr 0 0)), (4, .one (.ptr 1 0)), (7, .one (.gs 2 (m.length + 1) 1)), (8, .one (.ptr 3 0))]) [some (key.map U8), some (replicate 16 (U8 0)), some ((m ++ 128#8 :: replicate 0 0#8).map U8), some ((k2F key).map U8)] := fun hw => by
  have K := l71a hX key m hk hm hw _ 0 (Nat.zero_add _)
  rw [hL] at K
  exact K
 have full : (m.length % 16 = 0 ∧ 0 < m.length) → Ia X 71 0 (Is (.agg ((cmF key m).map U8))) (Fb Try.f71 1) (mkS 78 [(2, .one (.ptr 0 0)), (4, .one (.ptr 1 0)), (7, .one (.gs 2 m.length 1)), (8, .one (.ptr 3 0)), (9, .one (.ptr 4 0)), (10, .one (.i64 0))]) [some (key.map U8), some (replicate 16 (U8 0)), some (m.map U8), some ((k1F key).map U8), some (replicate 16 (U8 0))] := fun hw => by
  have e2 : cmF key m = endF key m (k1F key) := by unfold cmF lastK padM; rw [if_pos hw, if_pos hw]
  have K := l71b hX key m (k1F key) hk l1 (by omega) hw (m.length / 16 - 1) 0 (by omega)
  rw [← e2, show (cbc key m 0).map U8 = replicate 16 (U8 0) from List.map_replicate] at K
  exact K
 generalize k1F key = a1 at *
 generalize k2F key = a2 at *
 (repeat' (first | exact z | exact trivial | exact Aa _ | exact Ya _ | exact Ba _ | exact Nat.le_refl _ | refine And.intro ?_ ?_ | (intro h))) <;> first | omega | decide | skip
 ·exact ⟨part (fun hw => by have h := not_dec h; omega)⟩
 ·exact ⟨part (fun hw => by have h := of_decide_eq_true h; omega)⟩
 ·rename_i h0
  exact ⟨full (by have h2 := is_dec h0; have h3 := of_decide_eq_false h; omega)⟩
theorem Spec.ns2 {P : Program} {f : FuncId} {a : AV} {m0 : Mem} {R : AV → Mem → Prop} (h : Spec P f [a, .one (.xs [] 0 0)] m0 R) : Spec P f [a, .one .ns] m0 R := by
 intro X p vs hP hm ha
 refine h X p vs hP hm ⟨ha.1, fun j c u h1 h2 => ?_⟩
 match j, h1 with
 | 0, h1 => exact ha.2 0 c u h1 h2
 | 1, h1 =>
  simp only [List.getElem?_cons_succ, List.getElem?_cons_zero, Option.some.injEq] at h1
  subst h1
  have := ha.2 1 (.one .ns) u rfl h2
  cases this with
  | one _ _ h3 => cases h3; exact .one _ _ (.xsn [] 0)
noncomputable def T21 : Tab := fun f xs => match f, xs with
 | 69, [.agg cs, .one (.xs row 0 n)] => some ([Oa cs ∧ cs.length = 16 ∧ row = (row.map asP).map encP ∧ row.length = n ∧ n ≤ 1000000], .agg (hide ((cmF (cs.map Ea) (row.map asP).flatten).map U8)))
 | 69, [.agg cs, .one .ns] => some ([Oa cs ∧ cs.length = 16], .agg (hide ((cmF (cs.map Ea) []).map U8)))
 | 71, [.agg cs, .one (.xs row 0 n)] => some ([Oa cs ∧ cs.length = 16 ∧ Oa row ∧ row.length = n ∧ n ≤ 1000000], .agg (hide ((cmF (cs.map Ea) (row.map Ea)).map U8)))
 | f, xs => T20 f xs
theorem T21_ok : Oc Try.prog T21 := by
 intro f xs cs r h hc
 unfold T21 at h
 split at h
 ·obtain ⟨rfl, rfl⟩ := Prod.mk.inj (Option.some.inj h)
  obtain ⟨h1, h2, h3, h4, h5⟩ := hc.1
  rename_i cs row n
  have := s69 (cs.map Ea) (by rw [List.length_map]; exact h2) (row.map asP) (by rw [List.length_map]; omega)
  rw [← h1, ← h3, List.length_map, h4] at this
  rw [Ja]
  exact ⟨⟨_, _, ok69⟩, this, Jb _ (fun _ => rfl) _⟩
 ·obtain ⟨rfl, rfl⟩ := Prod.mk.inj (Option.some.inj h)
  obtain ⟨h1, h2⟩ := hc.1
  rename_i cs
  have := s69 (cs.map Ea) (by rw [List.length_map]; exact h2) [] (Nat.zero_le _)
  rw [← h1] at this
  rw [Ja]
  exact ⟨⟨_, _, ok69⟩, this.ns2, Jb _ (fun _ => rfl) _⟩
 ·obtain ⟨rfl, rfl⟩ := Prod.mk.inj (Option.some.inj h)
  obtain ⟨h1, h2, h3, h4, h5⟩ := hc.1
  rename_i cs row n
  have := s71 (cs.map Ea) (row.map Ea) (by rw [List.length_map]; exact h2) (by rw [List.length_map]; omega)
  rw [← h1, ← h3, List.length_map, h4] at this
  rw [Ja]
  exact ⟨⟨_, _, ok71⟩, this, Jb _ (fun _ => rfl) _⟩
 ·exact T20_ok _ _ _ _ h hc
def WNB0 : WC := ⟨baseC T21 mf15 M15,baseC_ok T21 mf15 M15,baseC_call T21_ok M15_ok⟩
theorem vc72 {X} {Q : QT} (hX : PX X) (ks row : List AC) (n:Nat) (h : (fun D1 : List (BitVec 8)=>(fun D0 : List AC=>16<=List.length ks/\Flat (take 16 (drop 0 ks))/\0+n*1<=List.length row/\(Oa (take 16 (drop 0 ks))/\List.length (take 16 (drop 0 ks))=16/\take (n*1) (drop 0 row)=List.map encP (List.map asP (take (n*1) (drop 0 row)))/\List.length (take (n*1) (drop 0 row))=n/\n<=1000000)/\(List.length (hide (List.map U8 D1))=16/\16<=16)/\((0:Int)<=(↑0:Int)/\(↑0:Int)<=(12:Int)/\(12:Int)<=(↑16:Int))/\12<=12/\12<=List.length D0/\(List.length (take 12 (drop 0 D0))=12/\12<=12)/\12<=List.length (Qa (replicate 12 (U8 0)) 0 (take 12 (drop 0 D0)))/\Za (AG (take 12 (drop 0 (Qa (replicate 12 (U8 0)) 0 (take 12 (drop 0 D0))))))/\Q (AG (take 12 (drop 0 (Qa (replicate 12 (U8 0)) 0 (take 12 (drop 0 D0)))))) []) (Qa (replicate 16 (U8 0)) 0 (hide (List.map U8 D1)))) (cmF (List.map Ea (take 16 (drop 0 ks))) (List.flatten (List.map asP (take (n*1) (drop 0 row)))))) : Ia X 72 0 Q ([.code (Na Try.f72)]) (slots [.agg ks,.one (.xs row 0 n)] Try.f72.ntmps) [] :=
 wR' hX WNB0 ok72 [] [] false (CS.mk [] [] [0] []) true [] 2000 h (by kernel_rfl)
def sh12 (d : List (BitVec 8)) : List (BitVec 8) := d.take 12
theorem sh12_len {d : List (BitVec 8)} (h : d.length = 16) : (sh12 d).length = 12 := by unfold sh12; rw [List.length_take]; omega
theorem s72 (key : List (BitVec 8)) (hk : key.length = 16) (ps : List (List (BitVec 8))) (hps : ps.length ≤ 1000000) : Spec Try.prog 72 [.agg (key.map U8), .one (.xs (ps.map encP) 0 ps.length)] [] (Is (.agg ((sh12 (cmF key ps.flatten)).map U8))) := by
 refine Spec.of_run ok72 fun X hX => vc72 hX _ _ _ ?_
 have z : Flat (replicate 16 (U8 0)) := by rw [Jd]; exact Aa _
 have ek : key.take 16 = key := List.take_of_length_le (by omega)
 have hc := cmF_len key ps.flatten
 have h12 := sh12_len hc
 have e1 : Qa (replicate 16 (U8 0)) 0 ((cmF key ps.flatten).map U8) = (cmF key ps.flatten).map U8 := Ae _ _ hc
 have e2 : (cmF key ps.flatten).take 12 = sh12 (cmF key ps.flatten) := rfl
 have e3 : Qa (replicate 12 (U8 0)) 0 ((sh12 (cmF key ps.flatten)).map U8) = (sh12 (cmF key ps.flatten)).map U8 := Ae _ _ h12
 have e4 : (sh12 (cmF key ps.flatten)).take 12 = sh12 (cmF key ps.flatten) := List.take_of_length_le (by omega)
 rw [tkP ps, map_asP]
 simp only [Ja, tk0, List.drop_zero, ek, Ua, e1, e2, e3, e4, List.length_map, List.length_replicate, hk, hc, h12]
 clear ek e1 e2 e3 e4
 generalize cmF key ps.flatten = E at *
 (repeat' (first | exact z | exact trivial | exact Aa _ | exact Ya _ | exact Ba _ | exact Nat.le_refl _ | refine And.intro ?_ ?_)) <;> (first | omega | exact z | (unfold La; omega) | exact List.length_map _ | (show Is _ _ _; exact rfl) | skip)
noncomputable def T22 : Tab := fun f xs => match f, xs with
 | 72, [.agg cs, .one (.xs row 0 n)] => some ([Oa cs ∧ cs.length = 16 ∧ row = (row.map asP).map encP ∧ row.length = n ∧ n ≤ 1000000], .agg (hide ((sh12 (cmF (cs.map Ea) (row.map asP).flatten)).map U8)))
 | f, xs => T21 f xs
theorem T22_ok : Oc Try.prog T22 := by
 intro f xs cs r h hc
 unfold T22 at h
 split at h
 ·obtain ⟨rfl, rfl⟩ := Prod.mk.inj (Option.some.inj h)
  obtain ⟨h1, h2, h3, h4, h5⟩ := hc.1
  rename_i cs row n
  have := s72 (cs.map Ea) (by rw [List.length_map]; exact h2) (row.map asP) (by rw [List.length_map]; omega)
  rw [← h1, ← h3, List.length_map, h4] at this
  rw [Ja]
  exact ⟨⟨_, _, ok72⟩, this, Jb _ (fun _ => rfl) _⟩
 ·exact T21_ok _ _ _ _ h hc
theorem fit12 {l : List (BitVec 8)} (h : l.length = 12) : fitCs (replicate 12 (U8 0)) (l.map U8) := by
 have := fit_u8 l
 rw [h] at this
 exact this
theorem pe1 (x : List (BitVec 8)) : List.map encP [x] = [XS (x.map U8) 0 x.length] := rfl
theorem fl1 (b : List (BitVec 8)) : [b].flatten = b := by simp
end DH
