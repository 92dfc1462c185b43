/- Walks of functions, each by evaluation: what each returns; with the layer beneath. -/
import Derived.Test.YtdnggeocdocomaaNA
import Derived.Test.YtdnggeocdocomaaJA
import Derived.Test.YtdnggeocdocomaaHB
set_option linter.unusedVariables false
set_option linter.unusedSimpArgs false
noncomputable section
namespace DH
open List (take drop replicate)
open Go Go.Proofs
theorem not_dec {p : Prop} [Decidable p] (h : (!decide p) = true) : ¬ p := by simpa using h
theorem is_dec {p : Prop} [Decidable p] (h : (!decide p) = false) : p := by simpa using h
def TX (t x : List (BitVec 8)) (i:Nat) : List (BitVec 8) := t.take i ++ x.drop i
theorem TX_len {t x : List (BitVec 8)} (ht : t.length = 16) (hx : x.length = 16) (i:Nat) : (TX t x i).length = 16 := by unfold TX; rw [lenT _ _ (by rw [ht, hx]), hx]
theorem TX_0 (t x : List (BitVec 8)) : TX t x 0 = x := begT _ _
theorem TX_16 {t x : List (BitVec 8)} (ht : t.length = 16) (hx : x.length = 16) : TX t x 16 = t := by
  have := endT t x (by rw [ht, hx])
  rwa [ht] at this
theorem TX_get {t x : List (BitVec 8)} (ht : t.length = 16) {i : Nat} (hi : i < 16) : (TX t x i).getD i 0 = x.getD i 0 := getT_src _ _ _ (by omega) (Nat.le_refl _)
theorem TX_set {t x : List (BitVec 8)} (ht : t.length = 16) (hx : x.length = 16) {i : Nat} (hi : i < 16) {v : BitVec 8} (hv : v = t.getD i 0) : (TX t x i).set i v = TX t x (i + 1) := by
  rw [hv]
  exact setT t x 0 (by omega) (by omega)
theorem blk_get (b : List (BitVec 8)) (j:Nat) {i : Nat} (h : 16 * j + 16 ≤ b.length) (hi : i < 16) : (blk16 b j).getD i 0 = b.getD (16 * j + i) 0 := by
  unfold blk16
  rw [List.getD_eq_getElem?_getD, List.getD_eq_getElem?_getD, List.getElem?_take_of_lt hi, List.getElem?_drop]
def tgt (x b last : List (BitVec 8)) (j:Nat) : List (BitVec 8) := if 16 * j + 16 = b.length then xorL (xorL x (blk16 b j)) last else xorL x (blk16 b j)
theorem tgt_len (x b last : List (BitVec 8)) (j:Nat) : (tgt x b last j).length = 16 := by unfold tgt; split <;> exact xor16 _ _
theorem l71c {X : Ctx} (hX : X.P = Try.prog) (key b last x : List (BitVec 8)) (hk : key.length = 16) (hs : last.length = 16) (hx : x.length = 16) (hb : b.length ≤ 2000000) (j:Nat) (hj : 16 * j + 16 ≤ b.length)
    (K : KRun X 71 0 (Is (.agg ((endF key b last).map AC.u8))) (kOf Try.f71 1) (mkS 78 [(2, .one (.ptr 0 0)), (4, .one (.ptr 1 0)), (7, .one (.gs 2 b.length 1)), (8, .one (.ptr 3 0)), (9, .one (.ptr 4 0)), (10, .one (.i64 (16 * (j + 1):Nat)))]) [some (key.map AC.u8), some (replicate 16 (AC.u8 0)), some (b.map AC.u8), some (last.map AC.u8), some ((encF key (tgt x b last j)).map AC.u8)]) : ∀ (d i:Nat), i + d = 16 →
    KRun X 71 0 (Is (.agg ((endF key b last).map AC.u8))) (kOf Try.f71 2) (mkS 78 [(2, .one (.ptr 0 0)), (4, .one (.ptr 1 0)), (7, .one (.gs 2 b.length 1)), (8, .one (.ptr 3 0)), (9, .one (.ptr 4 0)), (10, .one (.i64 (16 * j:Nat))), (11, .one (.i64 i))]) [some (key.map AC.u8), some (replicate 16 (AC.u8 0)), some (b.map AC.u8), some (last.map AC.u8), some ((TX (tgt x b last j) x i).map AC.u8)] := by
  have z : Flat (replicate 16 (AC.u8 0)) := by rw [mrep]; exact flat_u8 _
  have ht := tgt_len x b last j
  have ek : key.take 16 = key := List.take_of_length_le (by omega)
  intro d
  induction d with
  | zero =>
    intro i hi
    have hi : i = 16 := by omega
    subst hi
    rw [TX_16 ht hx]
    have et : (tgt x b last j).take 16 = tgt x b last j := List.take_of_length_le (by omega)
    have hE := encF_len key (tgt x b last j)
    have eE : layS ((tgt x b last j).map AC.u8) 0 ((encF key (tgt x b last j)).map AC.u8) = (encF key (tgt x b last j)).map AC.u8 := layM _ _ (by omega)
    have e1 : ((16 * j:Nat):Int) + 16 = ((16 * (j + 1):Nat):Int) := by omega
    refine vc71c hX _ _ _ _ _ _ _ _ ⟨fun h => absurd (of_decide_eq_true h) (by omega), fun _ => ?_⟩
    simp only [hide_eq, tk0, List.drop_zero, ek, et, map_as8, eE, e1, List.length_map, hk, ht, hE]
    clear ek et eE
    generalize encF key (tgt x b last j) = E at *
    (repeat' (first | exact z | exact trivial | exact flat_u8 _ | exact flatA _ | exact allU8_map _ | exact Nat.le_refl _ | refine And.intro ?_ ?_)) <;> (first | omega | exact z | (unfold in64; omega) | exact List.length_map _ | (show Is _ _ _; exact rfl) | skip)
    exact ⟨K⟩
  | succ d ih =>
    intro i hi
    have ih := ih (i + 1) (by omega)
    have hl := TX_len ht hx i
    have gx := gt_u8_at (TX (tgt x b last j) x i) i (by omega)
    rw [TX_get ht (by omega)] at gx
    have gb := gt_u8_at b (16 * j + i) (by omega)
    have gl := gt_u8_at last i (by omega)
    have e1 : ((16 * j:Nat):Int) + (i:Int) = ((16 * j + i:Nat):Int) := by omega
    have e2 : decide (((16 * j:Nat):Int) + 16 = (b.length:Int)) = decide (16 * j + 16 = b.length) := decide_eq_decide.2 (by omega)
    have hls : ∀ v, ((TX (tgt x b last j) x i).set i v).length = 16 := fun v => by rw [List.length_set]; exact hl
    have gs : ∀ v, gt AC.any (((TX (tgt x b last j) x i).set i v).map AC.u8) i = .u8 v := fun v => by rw [gt_u8_at _ _ (by rw [hls]; omega), get_set_self _ (by omega)]
    refine vc71c hX _ _ _ _ _ _ _ _ ⟨fun _ => ?_, fun h => absurd (of_decide_eq_false h) (by omega)⟩
    simp only [e1, e2, ixn, gx, gb, gl, asU8, lay1, gs, List.set_set, List.length_map, hl, hls]
    by_cases hf : 16 * j + 16 = b.length
    · have tv : x.getD i 0 ^^^ b.getD (16 * j + i) 0 ^^^ last.getD i 0 = (tgt x b last j).getD i 0 := by
        unfold tgt
        rw [if_pos hf, show (xorL (xorL x (blk16 b j)) last).getD i 0 = (xorL x (blk16 b j)).getD i 0 ^^^ last.getD i 0 from tab16_get _ (by omega), show (xorL x (blk16 b j)).getD i 0 = x.getD i 0 ^^^ (blk16 b j).getD i 0 from tab16_get _ (by omega), blk_get b j hj (by omega)]
      have hset := TX_set ht hx (i := i) (by omega) tv
      simp only [hf, decide_true, true_implies, Bool.true_eq_false, false_implies, and_true, hset]
      (repeat' (first | exact z | exact trivial | exact flat_u8 _ | exact flatA _ | exact allU8_map _ | exact Nat.le_refl _ | refine And.intro ?_ ?_)) <;> (first | omega | exact z | (unfold in64; omega) | exact List.length_map _ | (show Is _ _ _; exact rfl) | skip)
      exact ⟨ih⟩
    · have tv : x.getD i 0 ^^^ b.getD (16 * j + i) 0 = (tgt x b last j).getD i 0 := by
        unfold tgt
        rw [if_neg hf, show (xorL x (blk16 b j)).getD i 0 = x.getD i 0 ^^^ (blk16 b j).getD i 0 from tab16_get _ (by omega), blk_get b j hj (by omega)]
      have hset := TX_set ht hx (i := i) (by omega) tv
      simp only [hf, decide_false, true_implies, Bool.false_eq_true, false_implies, true_and, hset]
      (repeat' (first | exact z | exact trivial | exact flat_u8 _ | exact flatA _ | exact allU8_map _ | exact Nat.le_refl _ | refine And.intro ?_ ?_)) <;> (first | omega | exact z | (unfold in64; omega) | exact List.length_map _ | (show Is _ _ _; exact rfl) | skip)
      exact ⟨ih⟩
theorem l71b {X : Ctx} (hX : X.P = Try.prog) (key b last : List (BitVec 8)) (hk : key.length = 16) (hs : last.length = 16) (hb : b.length ≤ 2000000) (hm : b.length % 16 = 0 ∧ 0 < b.length) : ∀ (d j:Nat), j + (d + 1) = b.length / 16 →
    KRun X 71 0 (Is (.agg ((endF key b last).map AC.u8))) (kOf Try.f71 1) (mkS 78 [(2, .one (.ptr 0 0)), (4, .one (.ptr 1 0)), (7, .one (.gs 2 b.length 1)), (8, .one (.ptr 3 0)), (9, .one (.ptr 4 0)), (10, .one (.i64 (16 * j:Nat)))]) [some (key.map AC.u8), some (replicate 16 (AC.u8 0)), some (b.map AC.u8), some (last.map AC.u8), some ((cbc key b j).map AC.u8)] := by
  have z : Flat (replicate 16 (AC.u8 0)) := by rw [mrep]; exact flat_u8 _
  intro d
  induction d with
  | zero =>
    intro j hj
    have hE := encF_len key (tgt (cbc key b j) b last j)
    have ee : encF key (tgt (cbc key b j) b last j) = endF key b last := by
      unfold tgt endF
      rw [if_pos (by omega), show b.length / 16 - 1 = j by omega]
    rw [ee] at hE
    have eE : (endF key b last).take 16 = endF key b last := List.take_of_length_le (by omega)
    have lE : layS (replicate 16 (AC.u8 0)) 0 ((endF key b last).map AC.u8) = (endF key b last).map AC.u8 := layR _ _ hE
    have K : KRun X 71 0 (Is (.agg ((endF key b last).map AC.u8))) (kOf Try.f71 1) (mkS 78 [(2, .one (.ptr 0 0)), (4, .one (.ptr 1 0)), (7, .one (.gs 2 b.length 1)), (8, .one (.ptr 3 0)), (9, .one (.ptr 4 0)), (10, .one (.i64 (16 * (j + 1):Nat)))]) [some (key.map AC.u8), some (replicate 16 (AC.u8 0)), some (b.map AC.u8), some (last.map AC.u8), some ((encF key (tgt (cbc key b j) b last j)).map AC.u8)] := by
      rw [ee]
      refine vc71b hX _ _ _ _ _ _ _ ⟨fun h => absurd (of_decide_eq_true h) (by omega), fun _ => ?_⟩
      simp only [tk0, List.drop_zero, eE, lE, List.length_map, List.length_replicate, hE]
      clear eE lE ee
      generalize endF key b last = E at *
      (repeat' (first | exact z | exact trivial | exact flat_u8 _ | exact flatA _ | exact allU8_map _ | exact Nat.le_refl _ | refine And.intro ?_ ?_)) <;> (first | omega | exact z | (unfold in64; omega) | exact List.length_map _ | (show Is _ _ _; exact rfl) | skip)
    have K2 := l71c hX key b last (cbc key b j) hk hs (cbc_len _ _ _) hb j (by omega) K 16 0 rfl
    rw [TX_0] at K2
    refine vc71b hX _ _ _ _ _ _ _ ⟨fun _ => ?_, fun h => absurd (of_decide_eq_false h) (by omega)⟩
    (repeat' (first | exact z | exact trivial | exact flat_u8 _ | exact flatA _ | exact allU8_map _ | exact Nat.le_refl _ | refine And.intro ?_ ?_)) <;> (first | omega | exact z | (unfold in64; omega) | exact List.length_map _ | (show Is _ _ _; exact rfl) | skip)
    exact ⟨K2⟩
  | succ d ih =>
    intro j hj
    have K := ih (j + 1) (by omega)
    rw [show cbc key b (j + 1) = encF key (tgt (cbc key b j) b last j) by unfold tgt; rw [if_neg (by omega)]; rfl] at K
    have K2 := l71c hX key b last (cbc key b j) hk hs (cbc_len _ _ _) hb j (by omega) K 16 0 rfl
    rw [TX_0] at K2
    refine vc71b hX _ _ _ _ _ _ _ ⟨fun _ => ?_, fun h => absurd (of_decide_eq_false h) (by omega)⟩
    (repeat' (first | exact z | exact trivial | exact flat_u8 _ | exact flatA _ | exact allU8_map _ | exact Nat.le_refl _ | refine And.intro ?_ ?_)) <;> (first | omega | exact z | (unfold in64; omega) | exact List.length_map _ | (show Is _ _ _; exact rfl) | skip)
    exact ⟨K2⟩
theorem l71a {X : Ctx} (hX : X.P = Try.prog) (key m : List (BitVec 8)) (hk : key.length = 16) (hm : m.length ≤ 1000000) (hw : ¬ (m.length % 16 = 0 ∧ 0 < m.length)) : ∀ (d i:Nat), i + d = 15 - m.length % 16 →
    KRun X 71 0 (Is (.agg ((cmF key m).map AC.u8))) (kOf Try.f71 0) (mkS 78 [(2, .one (.ptr 0 0)), (4, .one (.ptr 1 0)), (7, .one (.gs 2 (m ++ 128#8 :: replicate i 0#8).length 1)), (8, .one (.ptr 3 0))]) [some (key.map AC.u8), some (replicate 16 (AC.u8 0)), some ((m ++ 128#8 :: replicate i 0#8).map AC.u8), some ((k2F key).map AC.u8)] := by
  have z : Flat (replicate 16 (AC.u8 0)) := by rw [mrep]; exact flat_u8 _
  have l2 := k2_len key
  have hlen : ∀ i, (m ++ 128#8 :: replicate i 0#8).length = m.length + (i + 1) := fun i => by rw [List.length_append, List.length_cons, List.length_replicate]
  have hmod : ∀ n : Nat, Int.tmod (n:Int) 16 = ((n % 16:Nat):Int) := fun n => tmod_nat n 16
  intro d
  induction d with
  | zero =>
    intro i hi
    have hi : i = 15 - m.length % 16 := by omega
    have e : padM m = m ++ 128#8 :: replicate i 0#8 := by unfold padM; rw [if_neg hw, hi]; rfl
    have e2 : cmF key m = endF key (padM m) (k2F key) := by unfold cmF lastK; rw [if_neg hw]
    have hp := padM_len m
    have K := l71b hX key (padM m) (k2F key) hk l2 (by omega) ⟨hp.1, hp.2.1⟩ ((padM m).length / 16 - 1) 0 (by omega)
    rw [← e2, show (cbc key (padM m) 0).map AC.u8 = replicate 16 (AC.u8 0) from List.map_replicate] at K
    rw [← e]
    have hz : decide (Int.tmod ((padM m).length:Int) 16 = 0) = true := decide_eq_true (by rw [hmod]; omega)
    refine vc71a hX _ _ _ _ _ ⟨by decide, fun h => ?_, fun _ => ?_⟩
    · rw [hz] at h; cases h
    · (repeat' (first | exact z | exact trivial | exact flat_u8 _ | exact flatA _ | exact allU8_map _ | exact Nat.le_refl _ | refine And.intro ?_ ?_)) <;> (first | omega | exact z | (unfold in64; omega) | exact List.length_map _ | (show Is _ _ _; exact rfl) | skip)
      exact ⟨K⟩
  | succ d ih =>
    intro i hi
    have ih := ih (i + 1) (by omega)
    have hL := hlen i
    have hL2 := hlen (i + 1)
    have hz : decide (Int.tmod ((m ++ 128#8 :: replicate i 0#8).length:Int) 16 = 0) = false := decide_eq_false (by rw [hmod, hL]; omega)
    have ha : (m ++ 128#8 :: replicate i 0#8).map AC.u8 ++ take 1 (drop 0 [cvC (.int .u8 0)]) = (m ++ 128#8 :: replicate (i + 1) 0#8).map AC.u8 := by
      have := app1 (m ++ 128#8 :: replicate i 0#8) 0#8
      rw [List.append_assoc, List.cons_append, ← List.replicate_succ'] at this
      exact this
    refine vc71a hX _ _ _ _ _ ⟨by decide, fun _ => ?_, fun h => ?_⟩
    · rw [ha, List.length_map]
      rw [show (m ++ 128#8 :: replicate i 0#8).length + 1 = (m ++ 128#8 :: replicate (i + 1) 0#8).length by omega]
      (repeat' (first | exact z | exact trivial | exact flat_u8 _ | exact flatA _ | exact allU8_map _ | exact Nat.le_refl _ | refine And.intro ?_ ?_)) <;> (first | omega | exact z | (unfold in64; omega) | exact List.length_map _ | (show Is _ _ _; exact rfl) | skip)
      exact ⟨ih⟩
    · rw [hz] at h; cases h
theorem s71 (key m : List (BitVec 8)) (hk : key.length = 16) (hm : m.length ≤ 1000000) : Spec Try.prog 71 [.agg (key.map AC.u8), .one (.xs (m.map AC.u8) 0 m.length)] [] (Is (.agg ((cmF key m).map AC.u8))) := by
  refine Spec.of_run ok71 fun X hX => vc71 hX _ _ _ ?_
  have z : Flat (replicate 16 (AC.u8 0)) := by rw [mrep]; exact flat_u8 _
  have ek : key.take 16 = key := List.take_of_length_le (by omega)
  have l1 := k1_len key
  have l2 := k2_len key
  have t1 : (k1F key).take 16 = k1F key := List.take_of_length_le (by omega)
  have t2 : (k2F key).take 16 = k2F key := List.take_of_length_le (by omega)
  have e1 : layS (replicate 16 (AC.u8 0)) 0 ((k1F key).map AC.u8) = (k1F key).map AC.u8 := layR _ _ l1
  have e2 : layS (replicate 16 (AC.u8 0)) 0 ((k2F key).map AC.u8) = (k2F key).map AC.u8 := layR _ _ l2
  have e3 : layS ((k1F key).map AC.u8) 0 ((k2F key).map AC.u8) = (k2F key).map AC.u8 := layM _ _ (by omega)
  have hmod : Int.tmod (m.length:Int) 16 = ((m.length % 16:Nat):Int) := tmod_nat m.length 16
  have tm : take (m.length * 1) (drop 0 (m.map AC.u8)) = m.map AC.u8 := tk m
  have ha : m.map AC.u8 ++ take 1 (drop 0 [cvC (.int .u8 128)]) = (m ++ 128#8 :: replicate 0 0#8).map AC.u8 := app1 m 128#8
  have hL : (m ++ 128#8 :: replicate 0 0#8).length = m.length + 1 := by rw [List.length_append, List.length_cons, List.length_replicate]
  rw [tm, ha, hmod]
  simp only [hide_eq, tk0, List.drop_zero, ek, map_as8, e1, e2, t1, t2, e3, List.length_map, List.length_replicate, hk, l1, l2]
  clear ek t1 t2 e1 e2 e3 ha tm
  have part : ¬ (m.length % 16 = 0 ∧ 0 < m.length) → KRun X 71 0 (Is (.agg ((cmF key m).map AC.u8))) (kOf Try.f71 0) (mkS 78 [(2, .one (.ptr 0 0)), (4, .one (.ptr 1 0)), (7, .one (.gs 2 (m.length + 1) 1)), (8, .one (.ptr 3 0))]) [some (key.map AC.u8), some (replicate 16 (AC.u8 0)), some ((m ++ 128#8 :: replicate 0 0#8).map AC.u8), some ((k2F key).map AC.u8)] := fun hw => by
    have K := l71a hX key m hk hm hw _ 0 (Nat.zero_add _)
    rw [hL] at K
    exact K
  have full : (m.length % 16 = 0 ∧ 0 < m.length) → KRun X 71 0 (Is (.agg ((cmF key m).map AC.u8))) (kOf Try.f71 1) (mkS 78 [(2, .one (.ptr 0 0)), (4, .one (.ptr 1 0)), (7, .one (.gs 2 m.length 1)), (8, .one (.ptr 3 0)), (9, .one (.ptr 4 0)), (10, .one (.i64 0))]) [some (key.map AC.u8), some (replicate 16 (AC.u8 0)), some (m.map AC.u8), some ((k1F key).map AC.u8), some (replicate 16 (AC.u8 0))] := fun hw => by
    have e2 : cmF key m = endF key m (k1F key) := by unfold cmF lastK padM; rw [if_pos hw, if_pos hw]
    have K := l71b hX key m (k1F key) hk l1 (by omega) hw (m.length / 16 - 1) 0 (by omega)
    rw [← e2, show (cbc key m 0).map AC.u8 = replicate 16 (AC.u8 0) from List.map_replicate] at K
    exact K
  generalize k1F key = a1 at *
  generalize k2F key = a2 at *
  (repeat' (first | exact z | exact trivial | exact flat_u8 _ | exact flatA _ | exact allU8_map _ | exact Nat.le_refl _ | refine And.intro ?_ ?_ | (intro h))) <;> first | omega | decide | skip
  · exact ⟨part (fun hw => by have h := not_dec h; omega)⟩
  · exact ⟨part (fun hw => by have h := of_decide_eq_true h; omega)⟩
  · rename_i h0
    exact ⟨full (by have h2 := is_dec h0; have h3 := of_decide_eq_false h; omega)⟩
end DH
noncomputable section
namespace DH
open List (take drop replicate)
open Go Go.Proofs
theorem Spec.ns2 {P : Program} {f : FuncId} {a : AV} {m0 : Mem} {R : AV → Mem → Prop} (h : Spec P f [a, .one (.xs [] 0 0)] m0 R) : Spec P f [a, .one .ns] m0 R := by
  intro X p vs hP hm ha
  refine h X p vs hP hm ⟨ha.1, fun j c u h1 h2 => ?_⟩
  match j, h1 with
  | 0, h1 => exact ha.2 0 c u h1 h2
  | 1, h1 =>
    simp only [List.getElem?_cons_succ, List.getElem?_cons_zero, Option.some.injEq] at h1
    subst h1
    have := ha.2 1 (.one .ns) u rfl h2
    cases this with
    | one _ _ h3 => cases h3; exact .one _ _ (.xsn [] 0)
noncomputable def T21 : Tab := fun f xs => match f, xs with
  | 69, [.agg cs, .one (.xs row 0 n)] => some ([allU8 cs ∧ cs.length = 16 ∧ row = (row.map asP).map encP ∧ row.length = n ∧ n ≤ 1000000], .agg (hide ((cmF (cs.map asU8) (row.map asP).flatten).map AC.u8)))
  | 69, [.agg cs, .one .ns] => some ([allU8 cs ∧ cs.length = 16], .agg (hide ((cmF (cs.map asU8) []).map AC.u8)))
  | 71, [.agg cs, .one (.xs row 0 n)] => some ([allU8 cs ∧ cs.length = 16 ∧ allU8 row ∧ row.length = n ∧ n ≤ 1000000], .agg (hide ((cmF (cs.map asU8) (row.map asU8)).map AC.u8)))
  | f, xs => T20 f xs
theorem T21_ok : TabOk Try.prog T21 := by
  intro f xs cs r h hc
  unfold T21 at h
  split at h
  · obtain ⟨rfl, rfl⟩ := Prod.mk.inj (Option.some.inj h)
    obtain ⟨h1, h2, h3, h4, h5⟩ := hc.1
    rename_i cs row n
    have := s69 (cs.map asU8) (by rw [List.length_map]; exact h2) (row.map asP) (by rw [List.length_map]; omega)
    rw [← h1, ← h3, List.length_map, h4] at this
    rw [hide_eq]
    exact ⟨⟨_, _, ok69⟩, this, exactL_map _ (fun _ => rfl) _⟩
  · obtain ⟨rfl, rfl⟩ := Prod.mk.inj (Option.some.inj h)
    obtain ⟨h1, h2⟩ := hc.1
    rename_i cs
    have := s69 (cs.map asU8) (by rw [List.length_map]; exact h2) [] (Nat.zero_le _)
    rw [← h1] at this
    rw [hide_eq]
    exact ⟨⟨_, _, ok69⟩, this.ns2, exactL_map _ (fun _ => rfl) _⟩
  · obtain ⟨rfl, rfl⟩ := Prod.mk.inj (Option.some.inj h)
    obtain ⟨h1, h2, h3, h4, h5⟩ := hc.1
    rename_i cs row n
    have := s71 (cs.map asU8) (row.map asU8) (by rw [List.length_map]; exact h2) (by rw [List.length_map]; omega)
    rw [← h1, ← h3, List.length_map, h4] at this
    rw [hide_eq]
    exact ⟨⟨_, _, ok71⟩, this, exactL_map _ (fun _ => rfl) _⟩
  · exact T20_ok _ _ _ _ h hc
set_option maxRecDepth 100000 in
theorem vc72 {X : Ctx} {Q : AV → Mem → Prop} (hX : X.P = Try.prog) (ks row : List AC) (n:Nat) (h : 16 ≤ List.length ks ∧ Flat (take 16 (drop 0 ks)) ∧ 0 + n * 1 ≤ List.length row ∧ (allU8 (take 16 (drop 0 ks)) ∧ List.length (take 16 (drop 0 ks)) = 16 ∧ take (n * 1) (drop 0 row) = List.map encP (List.map asP (take (n * 1) (drop 0 row))) ∧ List.length (take (n * 1) (drop 0 row)) = n ∧ n ≤ 1000000) ∧ (List.length (hide (List.map AC.u8 (cmF (List.map asU8 (take 16 (drop 0 ks))) (List.flatten (List.map asP (take (n * 1) (drop 0 row))))))) = 16 ∧ 16 ≤ 16) ∧ ((0:Int) ≤ (↑0:Int) ∧ (↑0:Int) ≤ (12:Int) ∧ (12:Int) ≤ (↑16:Int)) ∧ 12 ≤ 12 ∧ 12 ≤ List.length (layS (replicate 16 (AC.u8 (0:BitVec 8))) 0 (hide (List.map AC.u8 (cmF (List.map asU8 (take 16 (drop 0 ks))) (List.flatten (List.map asP (take (n * 1) (drop 0 row)))))))) ∧ (List.length (take 12 (drop 0 (layS (replicate 16 (AC.u8 (0:BitVec 8))) 0 (hide (List.map AC.u8 (cmF (List.map asU8 (take 16 (drop 0 ks))) (List.flatten (List.map asP (take (n * 1) (drop 0 row)))))))))) = 12 ∧ 12 ≤ 12) ∧ 12 ≤ List.length (layS (replicate 12 (AC.u8 (0:BitVec 8))) 0 (take 12 (drop 0 (layS (replicate 16 (AC.u8 (0:BitVec 8))) 0 (hide (List.map AC.u8 (cmF (List.map asU8 (take 16 (drop 0 ks))) (List.flatten (List.map asP (take (n * 1) (drop 0 row))))))))))) ∧ flatAV (AV.agg (take 12 (drop 0 (layS (replicate 12 (AC.u8 (0:BitVec 8))) 0 (take 12 (drop 0 (layS (replicate 16 (AC.u8 (0:BitVec 8))) 0 (hide (List.map AC.u8 (cmF (List.map asU8 (take 16 (drop 0 ks))) (List.flatten (List.map asP (take (n * 1) (drop 0 row)))))))))))))) ∧ Q (AV.agg (take 12 (drop 0 (layS (replicate 12 (AC.u8 (0:BitVec 8))) 0 (take 12 (drop 0 (layS (replicate 16 (AC.u8 (0:BitVec 8))) 0 (hide (List.map AC.u8 (cmF (List.map asU8 (take 16 (drop 0 ks))) (List.flatten (List.map asP (take (n * 1) (drop 0 row)))))))))))))) []) : KRun X 72 0 Q ([.code (bodyOf Try.f72)]) (slots [.agg ks, .one (.xs row 0 n)] Try.f72.ntmps) [] :=
  wpRun_ok (hX ▸ baseC_ok T21 mf15 M15) (hX ▸ baseC_call T21_ok M15_ok) (hX ▸ mixed) (hX ▸ ok72) LK_ok (cast (β := wpRun (baseC T21 mf15 M15) [] [] false (RS.mk Try.f72.results.toList 0 (CS.mk [] [] [0] [])) (LK X 72 0 Q true []) Q 2000 ([.code (bodyOf Try.f72)]) (slots [.agg ks, .one (.xs row 0 n)] Try.f72.ntmps) []) (by kernel_rfl) h)
set_option maxRecDepth 100000 in
theorem vc73 {X : Ctx} {Q : AV → Mem → Prop} (hX : X.P = Try.prog) (ks row : List AC) (n:Nat) (h : 16 ≤ List.length ks ∧ Flat (take 16 (drop 0 ks)) ∧ 0 + n * 1 ≤ List.length row ∧ (allU8 (take 16 (drop 0 ks)) ∧ List.length (take 16 (drop 0 ks)) = 16 ∧ allU8 (take (n * 1) (drop 0 row)) ∧ List.length (take (n * 1) (drop 0 row)) = n ∧ n ≤ 1000000) ∧ (List.length (hide (List.map AC.u8 (cmF (List.map asU8 (take 16 (drop 0 ks))) (List.map asU8 (take (n * 1) (drop 0 row)))))) = 16 ∧ 16 ≤ 16) ∧ Flat (replicate 12 (AC.u8 (0:BitVec 8))) ∧ Flat (layS (replicate 16 (AC.u8 (0:BitVec 8))) 0 (hide (List.map AC.u8 (cmF (List.map asU8 (take 16 (drop 0 ks))) (List.map asU8 (take (n * 1) (drop 0 row))))))) ∧ Flat (replicate 12 (AC.u8 (0:BitVec 8))) ∧ KR X 73 0 Q (kOf Try.f73 0) (mkS 21 [(4, AV.one (AC.ptr 0 0)), (5, AV.one (AC.ptr 1 0)), (6, AV.one (AC.ptr 2 0)), (7, AV.one (AC.i64 (0:Int)))]) [some (replicate 12 (AC.u8 (0:BitVec 8))), some (layS (replicate 16 (AC.u8 (0:BitVec 8))) 0 (hide (List.map AC.u8 (cmF (List.map asU8 (take 16 (drop 0 ks))) (List.map asU8 (take (n * 1) (drop 0 row))))))), some (replicate 12 (AC.u8 (0:BitVec 8)))]) : KRun X 73 0 Q ([.code (bodyOf Try.f73)]) (slots [.agg ks, .one (.xs row 0 n)] Try.f73.ntmps) [] :=
  wpRun_ok (hX ▸ baseC_ok T21 mf15 M15) (hX ▸ baseC_call T21_ok M15_ok) (hX ▸ mixed) (hX ▸ ok73) LK_ok (cast (β := wpRun (baseC T21 mf15 M15) [12] [] false (RS.mk Try.f73.results.toList 0 (CS.mk [] [] [0] [])) (LK X 73 0 Q true [(4, LS.mk [4, 5, 6, 7] (CS.mk [] [true, true, true] [] []))]) Q 2000 ([.code (bodyOf Try.f73)]) (slots [.agg ks, .one (.xs row 0 n)] Try.f73.ntmps) []) (by kernel_rfl) h)
set_option maxRecDepth 100000 in
theorem vc73a {X : Ctx} {Q : AV → Mem → Prop} (hX : X.P = Try.prog) (zs ds os : List AC) (i:Int) (h : (decide (i < (12:Int)) = true → ((0:Int) ≤ i ∧ i < (↑16:Int)) ∧ gt AC.any ds (0 + Int.toNat i * 1) = AC.u8 (asU8 (gt AC.any ds (0 + Int.toNat i * 1))) ∧ ((0:Int) ≤ i ∧ i < (↑12:Int)) ∧ (1 = 1 ∧ 0 + Int.toNat i * 1 + 1 ≤ List.length os) ∧ in64 (i + (1:Int)) ∧ Flat zs ∧ Flat ds ∧ Flat (layS os (0 + Int.toNat i * 1) [AC.u8 (asU8 (gt AC.any ds (0 + Int.toNat i * 1)))]) ∧ KR X 73 0 Q (kOf Try.f73 0) (mkS 21 [(4, AV.one (AC.ptr 0 0)), (5, AV.one (AC.ptr 1 0)), (6, AV.one (AC.ptr 2 0)), (7, AV.one (AC.i64 (i + (1:Int))))]) [some zs, some ds, some (layS os (0 + Int.toNat i * 1) [AC.u8 (asU8 (gt AC.any ds (0 + Int.toNat i * 1)))])]) ∧ (decide (i < (12:Int)) = false → 12 ≤ List.length os ∧ (List.length (take 12 (drop 0 os)) = 12 ∧ 12 ≤ List.length zs) ∧ 12 ≤ List.length (layS zs 0 (take 12 (drop 0 os))) ∧ flatAV (AV.agg (take 12 (drop 0 (layS zs 0 (take 12 (drop 0 os)))))) ∧ Q (AV.agg (take 12 (drop 0 (layS zs 0 (take 12 (drop 0 os)))))) [])) : KRun X 73 0 Q (kOf Try.f73 0) (mkS 21 [(4, .one (.ptr 0 0)), (5, .one (.ptr 1 0)), (6, .one (.ptr 2 0)), (7, .one (.i64 i))]) [some zs, some ds, some os] :=
  wpRun_ok (hX ▸ baseC_ok T21 mf15 M15) (hX ▸ baseC_call T21_ok M15_ok) (hX ▸ mixed) (hX ▸ ok73) LK_ok (cast (β := wpRun (baseC T21 mf15 M15) [12] [] false (RS.mk Try.f73.results.toList 0 (CS.mk [] [] [0] [])) (LK X 73 0 Q true [(4, LS.mk [4, 5, 6, 7] (CS.mk [] [true, true, true] [] []))]) Q 2000 (kOf Try.f73 0) (mkS 21 [(4, .one (.ptr 0 0)), (5, .one (.ptr 1 0)), (6, .one (.ptr 2 0)), (7, .one (.i64 i))]) [some zs, some ds, some os]) (by kernel_rfl) h)
def sh12 (d : List (BitVec 8)) : List (BitVec 8) := d.take 12
theorem sh12_len {d : List (BitVec 8)} (h : d.length = 16) : (sh12 d).length = 12 := by unfold sh12; rw [List.length_take]; omega
theorem s72 (key : List (BitVec 8)) (hk : key.length = 16) (ps : List (List (BitVec 8))) (hps : ps.length ≤ 1000000) : Spec Try.prog 72 [.agg (key.map AC.u8), .one (.xs (ps.map encP) 0 ps.length)] [] (Is (.agg ((sh12 (cmF key ps.flatten)).map AC.u8))) := by
  refine Spec.of_run ok72 fun X hX => vc72 hX _ _ _ ?_
  have z : Flat (replicate 16 (AC.u8 0)) := by rw [mrep]; exact flat_u8 _
  have ek : key.take 16 = key := List.take_of_length_le (by omega)
  have hc := cmF_len key ps.flatten
  have h12 := sh12_len hc
  have e1 : layS (replicate 16 (AC.u8 0)) 0 ((cmF key ps.flatten).map AC.u8) = (cmF key ps.flatten).map AC.u8 := layR _ _ hc
  have e2 : (cmF key ps.flatten).take 12 = sh12 (cmF key ps.flatten) := rfl
  have e3 : layS (replicate 12 (AC.u8 0)) 0 ((sh12 (cmF key ps.flatten)).map AC.u8) = (sh12 (cmF key ps.flatten)).map AC.u8 := layR _ _ h12
  have e4 : (sh12 (cmF key ps.flatten)).take 12 = sh12 (cmF key ps.flatten) := List.take_of_length_le (by omega)
  rw [tkP ps, map_asP]
  simp only [hide_eq, tk0, List.drop_zero, ek, map_as8, e1, e2, e3, e4, List.length_map, List.length_replicate, hk, hc, h12]
  clear ek e1 e2 e3 e4
  generalize cmF key ps.flatten = E at *
  (repeat' (first | exact z | exact trivial | exact flat_u8 _ | exact flatA _ | exact allU8_map _ | exact Nat.le_refl _ | refine And.intro ?_ ?_)) <;> (first | omega | exact z | (unfold in64; omega) | exact List.length_map _ | (show Is _ _ _; exact rfl) | skip)
theorem l73 {X : Ctx} (hX : X.P = Try.prog) (d : List (BitVec 8)) (hd : d.length = 16) : ∀ (f i:Nat), i + f = 12 →
    KRun X 73 0 (Is (.agg ((sh12 d).map AC.u8))) (kOf Try.f73 0) (mkS 21 [(4, .one (.ptr 0 0)), (5, .one (.ptr 1 0)), (6, .one (.ptr 2 0)), (7, .one (.i64 i))]) [some (replicate 12 (AC.u8 0)), some (d.map AC.u8), some (((sh12 d).take i ++ (replicate 12 0).drop i).map AC.u8)] := by
  have z : Flat (replicate 12 (AC.u8 0)) := by rw [mrep]; exact flat_u8 _
  have h12 := sh12_len hd
  have hz : (sh12 d).length = (replicate 12 (0:BitVec 8)).length := by rw [h12, List.length_replicate]
  intro f
  induction f with
  | zero =>
    intro i hi
    have hi : i = 12 := by omega
    subst hi
    have e := endT (sh12 d) (replicate 12 0) hz
    rw [h12] at e
    have e3 : layS (replicate 12 (AC.u8 0)) 0 ((sh12 d).map AC.u8) = (sh12 d).map AC.u8 := layR _ _ h12
    have e4 : (sh12 d).take 12 = sh12 d := List.take_of_length_le (by omega)
    refine vc73a hX _ _ _ _ ⟨fun h => absurd (of_decide_eq_true h) (by omega), fun _ => ?_⟩
    rw [e]
    simp only [tk0, List.drop_zero, e3, e4, List.length_map, List.length_replicate, h12]
    clear e3 e4 e
    (repeat' (first | exact z | exact trivial | exact flat_u8 _ | exact flatA _ | exact allU8_map _ | exact Nat.le_refl _ | refine And.intro ?_ ?_)) <;> (first | omega | exact z | (unfold in64; omega) | exact List.length_map _ | (show Is _ _ _; exact rfl) | skip)
  | succ f ih =>
    intro i hi
    have ih := ih (i + 1) (by omega)
    have g := gt_u8_at d i (by omega)
    have hl := lenT (sh12 d) (replicate 12 0) (i := i) hz
    rw [List.length_replicate] at hl
    have hs := setT (sh12 d) (replicate 12 0) 0 (i := i) (by omega) hz
    rw [show (sh12 d).getD i 0 = d.getD i 0 by unfold sh12; rw [List.getD_eq_getElem?_getD, List.getElem?_take_of_lt (by omega), ← List.getD_eq_getElem?_getD]] at hs
    refine vc73a hX _ _ _ _ ⟨fun _ => ?_, fun h => absurd (of_decide_eq_false h) (by omega)⟩
    simp only [ixn, g, asU8, lay1, hs, List.length_map, hl]
    (repeat' (first | exact z | exact trivial | exact flat_u8 _ | exact flatA _ | exact allU8_map _ | exact Nat.le_refl _ | refine And.intro ?_ ?_)) <;> (first | omega | exact z | (unfold in64; omega) | exact List.length_map _ | (show Is _ _ _; exact rfl) | skip)
    exact ⟨ih⟩
theorem s73 (key m : List (BitVec 8)) (hk : key.length = 16) (hm : m.length ≤ 1000000) : Spec Try.prog 73 [.agg (key.map AC.u8), .one (.xs (m.map AC.u8) 0 m.length)] [] (Is (.agg ((sh12 (cmF key m)).map AC.u8))) := by
  refine Spec.of_run ok73 fun X hX => vc73 hX _ _ _ ?_
  have z : Flat (replicate 12 (AC.u8 0)) := by rw [mrep]; exact flat_u8 _
  have ek : key.take 16 = key := List.take_of_length_le (by omega)
  have hc := cmF_len key m
  have e1 : layS (replicate 16 (AC.u8 0)) 0 ((cmF key m).map AC.u8) = (cmF key m).map AC.u8 := layR _ _ hc
  have K := l73 hX (cmF key m) hc 12 0 rfl
  rw [begT, List.map_replicate] at K
  rw [tk m]
  simp only [hide_eq, tk0, List.drop_zero, ek, map_as8, e1, List.length_map, hk, hc]
  clear ek e1
  generalize cmF key m = E at *
  (repeat' (first | exact z | exact trivial | exact flat_u8 _ | exact flatA _ | exact allU8_map _ | exact Nat.le_refl _ | refine And.intro ?_ ?_)) <;> (first | omega | exact z | (unfold in64; omega) | exact List.length_map _ | (show Is _ _ _; exact rfl) | skip)
  exact ⟨K⟩
end DH
noncomputable section
namespace DH
open List (take drop replicate)
open Go Go.Proofs
noncomputable def T22 : Tab := fun f xs => match f, xs with
  | 72, [.agg cs, .one (.xs row 0 n)] => some ([allU8 cs ∧ cs.length = 16 ∧ row = (row.map asP).map encP ∧ row.length = n ∧ n ≤ 1000000], .agg (hide ((sh12 (cmF (cs.map asU8) (row.map asP).flatten)).map AC.u8)))
  | 73, [.agg cs, .one (.xs row 0 n)] => some ([allU8 cs ∧ cs.length = 16 ∧ allU8 row ∧ row.length = n ∧ n ≤ 1000000], .agg (hide ((sh12 (cmF (cs.map asU8) (row.map asU8))).map AC.u8)))
  | f, xs => T21 f xs
theorem T22_ok : TabOk Try.prog T22 := by
  intro f xs cs r h hc
  unfold T22 at h
  split at h
  · obtain ⟨rfl, rfl⟩ := Prod.mk.inj (Option.some.inj h)
    obtain ⟨h1, h2, h3, h4, h5⟩ := hc.1
    rename_i cs row n
    have := s72 (cs.map asU8) (by rw [List.length_map]; exact h2) (row.map asP) (by rw [List.length_map]; omega)
    rw [← h1, ← h3, List.length_map, h4] at this
    rw [hide_eq]
    exact ⟨⟨_, _, ok72⟩, this, exactL_map _ (fun _ => rfl) _⟩
  · obtain ⟨rfl, rfl⟩ := Prod.mk.inj (Option.some.inj h)
    obtain ⟨h1, h2, h3, h4, h5⟩ := hc.1
    rename_i cs row n
    have := s73 (cs.map asU8) (row.map asU8) (by rw [List.length_map]; exact h2) (by rw [List.length_map]; omega)
    rw [← h1, ← h3, List.length_map, h4] at this
    rw [hide_eq]
    exact ⟨⟨_, _, ok73⟩, this, exactL_map _ (fun _ => rfl) _⟩
  · exact T21_ok _ _ _ _ h hc
theorem fit12 {l : List (BitVec 8)} (h : l.length = 12) : fitCs (replicate 12 (AC.u8 0)) (l.map AC.u8) := by
  have := fit_u8 l
  rw [h] at this
  exact this
theorem pe1 (x : List (BitVec 8)) : List.map encP [x] = [AC.xs (x.map AC.u8) 0 x.length] := rfl
theorem fl1 (b : List (BitVec 8)) : [b].flatten = b := by simp
end DH
noncomputable section
namespace DH
open List (take drop replicate)
open Go Go.Proofs
end DH
