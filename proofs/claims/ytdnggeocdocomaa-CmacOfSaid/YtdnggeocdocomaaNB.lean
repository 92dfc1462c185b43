/- Walks of functions, each by evaluation: what each returns; with the layer beneath. -/
import Derived.Test.YtdnggeocdocomaaNA
import Derived.Test.YtdnggeocdocomaaJA
import Derived.Test.YtdnggeocdocomaaHB
set_option linter.unusedVariables false
set_option linter.unusedSimpArgs false
noncomputable section
namespace DH
open Go Go.Proofs
theorem not_dec {p : Prop} [Decidable p] (h : (!decide p) = true) : ¬ p := by simpa using h
theorem is_dec {p : Prop} [Decidable p] (h : (!decide p) = false) : p := by simpa using h
def TX (t x : List (BitVec 8)) (i : Nat) : List (BitVec 8) := t.take i ++ x.drop i
theorem TX_len {t x : List (BitVec 8)} (ht : t.length = 16) (hx : x.length = 16) (i : Nat) : (TX t x i).length = 16 := by unfold TX; rw [lenT _ _ (by rw [ht, hx]), hx]
theorem TX_0 (t x : List (BitVec 8)) : TX t x 0 = x := begT _ _
theorem TX_16 {t x : List (BitVec 8)} (ht : t.length = 16) (hx : x.length = 16) : TX t x 16 = t := by
  have := endT t x (by rw [ht, hx])
  rwa [ht] at this
theorem TX_get {t x : List (BitVec 8)} (ht : t.length = 16) {i : Nat} (hi : i < 16) : (TX t x i).getD i 0 = x.getD i 0 := getT_src _ _ _ (by omega) (Nat.le_refl _)
theorem TX_set {t x : List (BitVec 8)} (ht : t.length = 16) (hx : x.length = 16) {i : Nat} (hi : i < 16) {v : BitVec 8} (hv : v = t.getD i 0) : (TX t x i).set i v = TX t x (i + 1) := by
  rw [hv]
  exact setT t x 0 (by omega) (by omega)
theorem blk_get (b : List (BitVec 8)) (j : Nat) {i : Nat} (h : 16 * j + 16 ≤ b.length) (hi : i < 16) : (blk16 b j).getD i 0 = b.getD (16 * j + i) 0 := by
  unfold blk16
  rw [List.getD_eq_getElem?_getD, List.getD_eq_getElem?_getD, List.getElem?_take_of_lt hi, List.getElem?_drop]
def tgt (x b last : List (BitVec 8)) (j : Nat) : List (BitVec 8) := if 16 * j + 16 = b.length then xorL (xorL x (blk16 b j)) last else xorL x (blk16 b j)
theorem tgt_len (x b last : List (BitVec 8)) (j : Nat) : (tgt x b last j).length = 16 := by unfold tgt; split <;> exact xor16 _ _
theorem l71c {X : Ctx} (hX : X.P = Try.prog) (key b last x : List (BitVec 8)) (hk : key.length = 16) (hs : last.length = 16) (hx : x.length = 16) (hb : b.length ≤ 2000000) (j : Nat) (hj : 16 * j + 16 ≤ b.length)
    (K : KRun X 71 0 (Is (.agg ((endF key b last).map AC.u8))) (kOf Try.f71 1) (mkS 78 [(2, .one (.ptr 0 0)), (4, .one (.ptr 1 0)), (7, .one (.gs 2 b.length 1)), (8, .one (.ptr 3 0)), (9, .one (.ptr 4 0)), (10, .one (.i64 (16 * (j + 1) : Nat)))]) [some (key.map AC.u8), some (List.replicate 16 (AC.u8 0)), some (b.map AC.u8), some (last.map AC.u8), some ((encF key (tgt x b last j)).map AC.u8)]) : ∀ (d i : Nat), i + d = 16 →
    KRun X 71 0 (Is (.agg ((endF key b last).map AC.u8))) (kOf Try.f71 2) (mkS 78 [(2, .one (.ptr 0 0)), (4, .one (.ptr 1 0)), (7, .one (.gs 2 b.length 1)), (8, .one (.ptr 3 0)), (9, .one (.ptr 4 0)), (10, .one (.i64 (16 * j : Nat))), (11, .one (.i64 i))]) [some (key.map AC.u8), some (List.replicate 16 (AC.u8 0)), some (b.map AC.u8), some (last.map AC.u8), some ((TX (tgt x b last j) x i).map AC.u8)] := by
  have z : Flat (List.replicate 16 (AC.u8 0)) := by rw [mrep]; exact flat_u8 _
  have ht := tgt_len x b last j
  have ek : key.take 16 = key := List.take_of_length_le (by omega)
  intro d
  induction d with
  | zero =>
    intro i hi
    have hi : i = 16 := by omega
    subst hi
    rw [TX_16 ht hx]
    have et : (tgt x b last j).take 16 = tgt x b last j := List.take_of_length_le (by omega)
    have hE := encF_len key (tgt x b last j)
    have eE : layS ((tgt x b last j).map AC.u8) 0 ((encF key (tgt x b last j)).map AC.u8) = (encF key (tgt x b last j)).map AC.u8 := layM _ _ (by omega)
    have e1 : ((16 * j : Nat) : Int) + 16 = ((16 * (j + 1) : Nat) : Int) := by omega
    refine vc71c hX _ _ _ _ _ _ _ _ ⟨fun h => absurd (of_decide_eq_true h) (by omega), fun _ => ?_⟩
    simp only [hide_eq, tk0, List.drop_zero, ek, et, map_as8, eE, e1, List.length_map, hk, ht, hE]
    clear ek et eE
    generalize encF key (tgt x b last j) = E at *
    (repeat' (first | exact z | exact trivial | exact flat_u8 _ | exact flatA _ | exact allU8_map _ | exact Nat.le_refl _ | refine And.intro ?_ ?_)) <;> (first | omega | exact z | (unfold in64; omega) | exact List.length_map _ | (show Is _ _ _; exact rfl) | skip)
    exact ⟨K⟩
  | succ d ih =>
    intro i hi
    have ih := ih (i + 1) (by omega)
    have hl := TX_len ht hx i
    have gx := gt_u8_at (TX (tgt x b last j) x i) i (by omega)
    rw [TX_get ht (by omega)] at gx
    have gb := gt_u8_at b (16 * j + i) (by omega)
    have gl := gt_u8_at last i (by omega)
    have e1 : ((16 * j : Nat) : Int) + (i : Int) = ((16 * j + i : Nat) : Int) := by omega
    have e2 : decide (((16 * j : Nat) : Int) + 16 = (b.length : Int)) = decide (16 * j + 16 = b.length) := decide_eq_decide.2 (by omega)
    have hls : ∀ v, ((TX (tgt x b last j) x i).set i v).length = 16 := fun v => by rw [List.length_set]; exact hl
    have gs : ∀ v, gt AC.any (((TX (tgt x b last j) x i).set i v).map AC.u8) i = .u8 v := fun v => by rw [gt_u8_at _ _ (by rw [hls]; omega), get_set_self _ (by omega)]
    refine vc71c hX _ _ _ _ _ _ _ _ ⟨fun _ => ?_, fun h => absurd (of_decide_eq_false h) (by omega)⟩
    simp only [e1, e2, ixn, gx, gb, gl, asU8, lay1, gs, List.set_set, List.length_map, hl, hls]
    by_cases hf : 16 * j + 16 = b.length
    · have tv : x.getD i 0 ^^^ b.getD (16 * j + i) 0 ^^^ last.getD i 0 = (tgt x b last j).getD i 0 := by
        unfold tgt
        rw [if_pos hf, show (xorL (xorL x (blk16 b j)) last).getD i 0 = (xorL x (blk16 b j)).getD i 0 ^^^ last.getD i 0 from tab16_get _ (by omega), show (xorL x (blk16 b j)).getD i 0 = x.getD i 0 ^^^ (blk16 b j).getD i 0 from tab16_get _ (by omega), blk_get b j hj (by omega)]
      have hset := TX_set ht hx (i := i) (by omega) tv
      simp only [hf, decide_true, true_implies, Bool.true_eq_false, false_implies, and_true, hset]
      (repeat' (first | exact z | exact trivial | exact flat_u8 _ | exact flatA _ | exact allU8_map _ | exact Nat.le_refl _ | refine And.intro ?_ ?_)) <;> (first | omega | exact z | (unfold in64; omega) | exact List.length_map _ | (show Is _ _ _; exact rfl) | skip)
      exact ⟨ih⟩
    · have tv : x.getD i 0 ^^^ b.getD (16 * j + i) 0 = (tgt x b last j).getD i 0 := by
        unfold tgt
        rw [if_neg hf, show (xorL x (blk16 b j)).getD i 0 = x.getD i 0 ^^^ (blk16 b j).getD i 0 from tab16_get _ (by omega), blk_get b j hj (by omega)]
      have hset := TX_set ht hx (i := i) (by omega) tv
      simp only [hf, decide_false, true_implies, Bool.false_eq_true, false_implies, true_and, hset]
      (repeat' (first | exact z | exact trivial | exact flat_u8 _ | exact flatA _ | exact allU8_map _ | exact Nat.le_refl _ | refine And.intro ?_ ?_)) <;> (first | omega | exact z | (unfold in64; omega) | exact List.length_map _ | (show Is _ _ _; exact rfl) | skip)
      exact ⟨ih⟩
theorem l71b {X : Ctx} (hX : X.P = Try.prog) (key b last : List (BitVec 8)) (hk : key.length = 16) (hs : last.length = 16) (hb : b.length ≤ 2000000) (hm : b.length % 16 = 0 ∧ 0 < b.length) : ∀ (d j : Nat), j + (d + 1) = b.length / 16 →
    KRun X 71 0 (Is (.agg ((endF key b last).map AC.u8))) (kOf Try.f71 1) (mkS 78 [(2, .one (.ptr 0 0)), (4, .one (.ptr 1 0)), (7, .one (.gs 2 b.length 1)), (8, .one (.ptr 3 0)), (9, .one (.ptr 4 0)), (10, .one (.i64 (16 * j : Nat)))]) [some (key.map AC.u8), some (List.replicate 16 (AC.u8 0)), some (b.map AC.u8), some (last.map AC.u8), some ((cbc key b j).map AC.u8)] := by
  have z : Flat (List.replicate 16 (AC.u8 0)) := by rw [mrep]; exact flat_u8 _
  intro d
  induction d with
  | zero =>
    intro j hj
    have hE := encF_len key (tgt (cbc key b j) b last j)
    have ee : encF key (tgt (cbc key b j) b last j) = endF key b last := by
      unfold tgt endF
      rw [if_pos (by omega), show b.length / 16 - 1 = j by omega]
    rw [ee] at hE
    have eE : (endF key b last).take 16 = endF key b last := List.take_of_length_le (by omega)
    have lE : layS (List.replicate 16 (AC.u8 0)) 0 ((endF key b last).map AC.u8) = (endF key b last).map AC.u8 := layR _ _ hE
    have K : KRun X 71 0 (Is (.agg ((endF key b last).map AC.u8))) (kOf Try.f71 1) (mkS 78 [(2, .one (.ptr 0 0)), (4, .one (.ptr 1 0)), (7, .one (.gs 2 b.length 1)), (8, .one (.ptr 3 0)), (9, .one (.ptr 4 0)), (10, .one (.i64 (16 * (j + 1) : Nat)))]) [some (key.map AC.u8), some (List.replicate 16 (AC.u8 0)), some (b.map AC.u8), some (last.map AC.u8), some ((encF key (tgt (cbc key b j) b last j)).map AC.u8)] := by
      rw [ee]
      refine vc71b hX _ _ _ _ _ _ _ ⟨fun h => absurd (of_decide_eq_true h) (by omega), fun _ => ?_⟩
      simp only [tk0, List.drop_zero, eE, lE, List.length_map, List.length_replicate, hE]
      clear eE lE ee
      generalize endF key b last = E at *
      (repeat' (first | exact z | exact trivial | exact flat_u8 _ | exact flatA _ | exact allU8_map _ | exact Nat.le_refl _ | refine And.intro ?_ ?_)) <;> (first | omega | exact z | (unfold in64; omega) | exact List.length_map _ | (show Is _ _ _; exact rfl) | skip)
    have K2 := l71c hX key b last (cbc key b j) hk hs (cbc_len _ _ _) hb j (by omega) K 16 0 rfl
    rw [TX_0] at K2
    refine vc71b hX _ _ _ _ _ _ _ ⟨fun _ => ?_, fun h => absurd (of_decide_eq_false h) (by omega)⟩
    (repeat' (first | exact z | exact trivial | exact flat_u8 _ | exact flatA _ | exact allU8_map _ | exact Nat.le_refl _ | refine And.intro ?_ ?_)) <;> (first | omega | exact z | (unfold in64; omega) | exact List.length_map _ | (show Is _ _ _; exact rfl) | skip)
    exact ⟨K2⟩
  | succ d ih =>
    intro j hj
    have K := ih (j + 1) (by omega)
    rw [show cbc key b (j + 1) = encF key (tgt (cbc key b j) b last j) by unfold tgt; rw [if_neg (by omega)]; rfl] at K
    have K2 := l71c hX key b last (cbc key b j) hk hs (cbc_len _ _ _) hb j (by omega) K 16 0 rfl
    rw [TX_0] at K2
    refine vc71b hX _ _ _ _ _ _ _ ⟨fun _ => ?_, fun h => absurd (of_decide_eq_false h) (by omega)⟩
    (repeat' (first | exact z | exact trivial | exact flat_u8 _ | exact flatA _ | exact allU8_map _ | exact Nat.le_refl _ | refine And.intro ?_ ?_)) <;> (first | omega | exact z | (unfold in64; omega) | exact List.length_map _ | (show Is _ _ _; exact rfl) | skip)
    exact ⟨K2⟩
theorem l71a {X : Ctx} (hX : X.P = Try.prog) (key m : List (BitVec 8)) (hk : key.length = 16) (hm : m.length ≤ 1000000) (hw : ¬ (m.length % 16 = 0 ∧ 0 < m.length)) : ∀ (d i : Nat), i + d = 15 - m.length % 16 →
    KRun X 71 0 (Is (.agg ((cmF key m).map AC.u8))) (kOf Try.f71 0) (mkS 78 [(2, .one (.ptr 0 0)), (4, .one (.ptr 1 0)), (7, .one (.gs 2 (m ++ 128#8 :: List.replicate i 0#8).length 1)), (8, .one (.ptr 3 0))]) [some (key.map AC.u8), some (List.replicate 16 (AC.u8 0)), some ((m ++ 128#8 :: List.replicate i 0#8).map AC.u8), some ((k2F key).map AC.u8)] := by
  have z : Flat (List.replicate 16 (AC.u8 0)) := by rw [mrep]; exact flat_u8 _
  have l2 := k2_len key
  have hlen : ∀ i, (m ++ 128#8 :: List.replicate i 0#8).length = m.length + (i + 1) := fun i => by rw [List.length_append, List.length_cons, List.length_replicate]
  have hmod : ∀ n : Nat, Int.tmod (n : Int) 16 = ((n % 16 : Nat) : Int) := fun n => tmod_nat n 16
  intro d
  induction d with
  | zero =>
    intro i hi
    have hi : i = 15 - m.length % 16 := by omega
    have e : padM m = m ++ 128#8 :: List.replicate i 0#8 := by unfold padM; rw [if_neg hw, hi]; rfl
    have e2 : cmF key m = endF key (padM m) (k2F key) := by unfold cmF lastK; rw [if_neg hw]
    have hp := padM_len m
    have K := l71b hX key (padM m) (k2F key) hk l2 (by omega) ⟨hp.1, hp.2.1⟩ ((padM m).length / 16 - 1) 0 (by omega)
    rw [← e2, show (cbc key (padM m) 0).map AC.u8 = List.replicate 16 (AC.u8 0) from List.map_replicate] at K
    rw [← e]
    have hz : decide (Int.tmod ((padM m).length : Int) 16 = 0) = true := decide_eq_true (by rw [hmod]; omega)
    refine vc71a hX _ _ _ _ _ ⟨by decide, fun h => ?_, fun _ => ?_⟩
    · rw [hz] at h; cases h
    · (repeat' (first | exact z | exact trivial | exact flat_u8 _ | exact flatA _ | exact allU8_map _ | exact Nat.le_refl _ | refine And.intro ?_ ?_)) <;> (first | omega | exact z | (unfold in64; omega) | exact List.length_map _ | (show Is _ _ _; exact rfl) | skip)
      exact ⟨K⟩
  | succ d ih =>
    intro i hi
    have ih := ih (i + 1) (by omega)
    have hL := hlen i
    have hL2 := hlen (i + 1)
    have hz : decide (Int.tmod ((m ++ 128#8 :: List.replicate i 0#8).length : Int) 16 = 0) = false := decide_eq_false (by rw [hmod, hL]; omega)
    have ha : (m ++ 128#8 :: List.replicate i 0#8).map AC.u8 ++ List.take 1 (List.drop 0 [cvC (.int .u8 0)]) = (m ++ 128#8 :: List.replicate (i + 1) 0#8).map AC.u8 := by
      have := app1 (m ++ 128#8 :: List.replicate i 0#8) 0#8
      rw [List.append_assoc, List.cons_append, ← List.replicate_succ'] at this
      exact this
    refine vc71a hX _ _ _ _ _ ⟨by decide, fun _ => ?_, fun h => ?_⟩
    · rw [ha, List.length_map]
      rw [show (m ++ 128#8 :: List.replicate i 0#8).length + 1 = (m ++ 128#8 :: List.replicate (i + 1) 0#8).length by omega]
      (repeat' (first | exact z | exact trivial | exact flat_u8 _ | exact flatA _ | exact allU8_map _ | exact Nat.le_refl _ | refine And.intro ?_ ?_)) <;> (first | omega | exact z | (unfold in64; omega) | exact List.length_map _ | (show Is _ _ _; exact rfl) | skip)
      exact ⟨ih⟩
    · rw [hz] at h; cases h
theorem s71 (key m : List (BitVec 8)) (hk : key.length = 16) (hm : m.length ≤ 1000000) : Spec Try.prog 71 [.agg (key.map AC.u8), .one (.xs (m.map AC.u8) 0 m.length)] [] (Is (.agg ((cmF key m).map AC.u8))) := by
  refine Spec.of_run ok71 fun X hX => vc71 hX _ _ _ ?_
  have z : Flat (List.replicate 16 (AC.u8 0)) := by rw [mrep]; exact flat_u8 _
  have ek : key.take 16 = key := List.take_of_length_le (by omega)
  have l1 := k1_len key
  have l2 := k2_len key
  have t1 : (k1F key).take 16 = k1F key := List.take_of_length_le (by omega)
  have t2 : (k2F key).take 16 = k2F key := List.take_of_length_le (by omega)
  have e1 : layS (List.replicate 16 (AC.u8 0)) 0 ((k1F key).map AC.u8) = (k1F key).map AC.u8 := layR _ _ l1
  have e2 : layS (List.replicate 16 (AC.u8 0)) 0 ((k2F key).map AC.u8) = (k2F key).map AC.u8 := layR _ _ l2
  have e3 : layS ((k1F key).map AC.u8) 0 ((k2F key).map AC.u8) = (k2F key).map AC.u8 := layM _ _ (by omega)
  have hmod : Int.tmod (m.length : Int) 16 = ((m.length % 16 : Nat) : Int) := tmod_nat m.length 16
  have tm : List.take (m.length * 1) (List.drop 0 (m.map AC.u8)) = m.map AC.u8 := tk m
  have ha : m.map AC.u8 ++ List.take 1 (List.drop 0 [cvC (.int .u8 128)]) = (m ++ 128#8 :: List.replicate 0 0#8).map AC.u8 := app1 m 128#8
  have hL : (m ++ 128#8 :: List.replicate 0 0#8).length = m.length + 1 := by rw [List.length_append, List.length_cons, List.length_replicate]
  rw [tm, ha, hmod]
  simp only [hide_eq, tk0, List.drop_zero, ek, map_as8, e1, e2, t1, t2, e3, List.length_map, List.length_replicate, hk, l1, l2]
  clear ek t1 t2 e1 e2 e3 ha tm
  have part : ¬ (m.length % 16 = 0 ∧ 0 < m.length) → KRun X 71 0 (Is (.agg ((cmF key m).map AC.u8))) (kOf Try.f71 0) (mkS 78 [(2, .one (.ptr 0 0)), (4, .one (.ptr 1 0)), (7, .one (.gs 2 (m.length + 1) 1)), (8, .one (.ptr 3 0))]) [some (key.map AC.u8), some (List.replicate 16 (AC.u8 0)), some ((m ++ 128#8 :: List.replicate 0 0#8).map AC.u8), some ((k2F key).map AC.u8)] := fun hw => by
    have K := l71a hX key m hk hm hw _ 0 (Nat.zero_add _)
    rw [hL] at K
    exact K
  have full : (m.length % 16 = 0 ∧ 0 < m.length) → KRun X 71 0 (Is (.agg ((cmF key m).map AC.u8))) (kOf Try.f71 1) (mkS 78 [(2, .one (.ptr 0 0)), (4, .one (.ptr 1 0)), (7, .one (.gs 2 m.length 1)), (8, .one (.ptr 3 0)), (9, .one (.ptr 4 0)), (10, .one (.i64 0))]) [some (key.map AC.u8), some (List.replicate 16 (AC.u8 0)), some (m.map AC.u8), some ((k1F key).map AC.u8), some (List.replicate 16 (AC.u8 0))] := fun hw => by
    have e2 : cmF key m = endF key m (k1F key) := by unfold cmF lastK padM; rw [if_pos hw, if_pos hw]
    have K := l71b hX key m (k1F key) hk l1 (by omega) hw (m.length / 16 - 1) 0 (by omega)
    rw [← e2, show (cbc key m 0).map AC.u8 = List.replicate 16 (AC.u8 0) from List.map_replicate] at K
    exact K
  generalize k1F key = a1 at *
  generalize k2F key = a2 at *
  (repeat' (first | exact z | exact trivial | exact flat_u8 _ | exact flatA _ | exact allU8_map _ | exact Nat.le_refl _ | refine And.intro ?_ ?_ | (intro h))) <;> first | omega | decide | skip
  · exact ⟨part (fun hw => by have h := not_dec h; omega)⟩
  · exact ⟨part (fun hw => by have h := of_decide_eq_true h; omega)⟩
  · rename_i h0
    exact ⟨full (by have h2 := is_dec h0; have h3 := of_decide_eq_false h; omega)⟩
end DH

noncomputable section
namespace DH
open Go Go.Proofs
theorem Spec.ns2 {P : Program} {f : FuncId} {a : AV} {m0 : Mem} {R : AV → Mem → Prop} (h : Spec P f [a, .one (.xs [] 0 0)] m0 R) : Spec P f [a, .one .ns] m0 R := by
  intro X p vs hP hm ha
  refine h X p vs hP hm ⟨ha.1, fun j c u h1 h2 => ?_⟩
  match j, h1 with
  | 0, h1 => exact ha.2 0 c u h1 h2
  | 1, h1 =>
    simp only [List.getElem?_cons_succ, List.getElem?_cons_zero, Option.some.injEq] at h1
    subst h1
    have := ha.2 1 (.one .ns) u rfl h2
    cases this with
    | one _ _ h3 => cases h3; exact .one _ _ (.xsn [] 0)
noncomputable def T21 : Tab := fun f xs => match f, xs with
  | 69, [.agg cs, .one (.xs row 0 n)] => some ([allU8 cs ∧ cs.length = 16 ∧ row = (row.map asP).map encP ∧ row.length = n ∧ n ≤ 1000000], .agg (hide ((cmF (cs.map asU8) (row.map asP).flatten).map AC.u8)))
  | 69, [.agg cs, .one .ns] => some ([allU8 cs ∧ cs.length = 16], .agg (hide ((cmF (cs.map asU8) []).map AC.u8)))
  | 71, [.agg cs, .one (.xs row 0 n)] => some ([allU8 cs ∧ cs.length = 16 ∧ allU8 row ∧ row.length = n ∧ n ≤ 1000000], .agg (hide ((cmF (cs.map asU8) (row.map asU8)).map AC.u8)))
  | f, xs => T20 f xs
theorem T21_ok : TabOk Try.prog T21 := by
  intro f xs cs r h hc
  unfold T21 at h
  split at h
  · obtain ⟨rfl, rfl⟩ := Prod.mk.inj (Option.some.inj h)
    obtain ⟨h1, h2, h3, h4, h5⟩ := hc.1
    rename_i cs row n
    have := s69 (cs.map asU8) (by rw [List.length_map]; exact h2) (row.map asP) (by rw [List.length_map]; omega)
    rw [← h1, ← h3, List.length_map, h4] at this
    rw [hide_eq]
    exact ⟨⟨_, _, ok69⟩, this, exactL_map _ (fun _ => rfl) _⟩
  · obtain ⟨rfl, rfl⟩ := Prod.mk.inj (Option.some.inj h)
    obtain ⟨h1, h2⟩ := hc.1
    rename_i cs
    have := s69 (cs.map asU8) (by rw [List.length_map]; exact h2) [] (Nat.zero_le _)
    rw [← h1] at this
    rw [hide_eq]
    exact ⟨⟨_, _, ok69⟩, this.ns2, exactL_map _ (fun _ => rfl) _⟩
  · obtain ⟨rfl, rfl⟩ := Prod.mk.inj (Option.some.inj h)
    obtain ⟨h1, h2, h3, h4, h5⟩ := hc.1
    rename_i cs row n
    have := s71 (cs.map asU8) (row.map asU8) (by rw [List.length_map]; exact h2) (by rw [List.length_map]; omega)
    rw [← h1, ← h3, List.length_map, h4] at this
    rw [hide_eq]
    exact ⟨⟨_, _, ok71⟩, this, exactL_map _ (fun _ => rfl) _⟩
  · exact T20_ok _ _ _ _ h hc
set_option maxRecDepth 100000 in
theorem vc72 {X : Ctx} {Q : AV → Mem → Prop} (hX : X.P = Try.prog) (ks row : List AC) (n : Nat) (h : 16 ≤ List.length ks ∧ Flat (List.take 16 (List.drop 0 ks)) ∧ 0 + n * 1 ≤ List.length row ∧ (allU8 (List.take 16 (List.drop 0 ks)) ∧ List.length (List.take 16 (List.drop 0 ks)) = 16 ∧ List.take (n * 1) (List.drop 0 row) = List.map encP (List.map asP (List.take (n * 1) (List.drop 0 row))) ∧ List.length (List.take (n * 1) (List.drop 0 row)) = n ∧ n ≤ 1000000) ∧ (List.length (hide (List.map AC.u8 (cmF (List.map asU8 (List.take 16 (List.drop 0 ks))) (List.flatten (List.map asP (List.take (n * 1) (List.drop 0 row))))))) = 16 ∧ 16 ≤ 16) ∧ ((0 : Int) ≤ (↑0 : Int) ∧ (↑0 : Int) ≤ (12 : Int) ∧ (12 : Int) ≤ (↑16 : Int)) ∧ 12 ≤ 12 ∧ 12 ≤ List.length (layS (List.replicate 16 (AC.u8 (0 : BitVec 8))) 0 (hide (List.map AC.u8 (cmF (List.map asU8 (List.take 16 (List.drop 0 ks))) (List.flatten (List.map asP (List.take (n * 1) (List.drop 0 row)))))))) ∧ (List.length (List.take 12 (List.drop 0 (layS (List.replicate 16 (AC.u8 (0 : BitVec 8))) 0 (hide (List.map AC.u8 (cmF (List.map asU8 (List.take 16 (List.drop 0 ks))) (List.flatten (List.map asP (List.take (n * 1) (List.drop 0 row)))))))))) = 12 ∧ 12 ≤ 12) ∧ 12 ≤ List.length (layS (List.replicate 12 (AC.u8 (0 : BitVec 8))) 0 (List.take 12 (List.drop 0 (layS (List.replicate 16 (AC.u8 (0 : BitVec 8))) 0 (hide (List.map AC.u8 (cmF (List.map asU8 (List.take 16 (List.drop 0 ks))) (List.flatten (List.map asP (List.take (n * 1) (List.drop 0 row))))))))))) ∧ flatAV (AV.agg (List.take 12 (List.drop 0 (layS (List.replicate 12 (AC.u8 (0 : BitVec 8))) 0 (List.take 12 (List.drop 0 (layS (List.replicate 16 (AC.u8 (0 : BitVec 8))) 0 (hide (List.map AC.u8 (cmF (List.map asU8 (List.take 16 (List.drop 0 ks))) (List.flatten (List.map asP (List.take (n * 1) (List.drop 0 row)))))))))))))) ∧ Q (AV.agg (List.take 12 (List.drop 0 (layS (List.replicate 12 (AC.u8 (0 : BitVec 8))) 0 (List.take 12 (List.drop 0 (layS (List.replicate 16 (AC.u8 (0 : BitVec 8))) 0 (hide (List.map AC.u8 (cmF (List.map asU8 (List.take 16 (List.drop 0 ks))) (List.flatten (List.map asP (List.take (n * 1) (List.drop 0 row)))))))))))))) []) : KRun X 72 0 Q ([.code (bodyOf Try.f72)]) (slots [.agg ks, .one (.xs row 0 n)] Try.f72.ntmps) [] :=
  wpRun_ok (hX ▸ baseC_ok T21 mf15 M15) (hX ▸ baseC_call T21_ok M15_ok) (hX ▸ mixed) (hX ▸ ok72) LK_ok (cast (β := wpRun (baseC T21 mf15 M15) [] [] false (RS.mk Try.f72.results.toList 0 (CS.mk [] [] [0] [])) (LK X 72 0 Q true []) Q 2000 ([.code (bodyOf Try.f72)]) (slots [.agg ks, .one (.xs row 0 n)] Try.f72.ntmps) []) (by kernel_rfl) h)
set_option maxRecDepth 100000 in
theorem vc73 {X : Ctx} {Q : AV → Mem → Prop} (hX : X.P = Try.prog) (ks row : List AC) (n : Nat) (h : 16 ≤ List.length ks ∧ Flat (List.take 16 (List.drop 0 ks)) ∧ 0 + n * 1 ≤ List.length row ∧ (allU8 (List.take 16 (List.drop 0 ks)) ∧ List.length (List.take 16 (List.drop 0 ks)) = 16 ∧ allU8 (List.take (n * 1) (List.drop 0 row)) ∧ List.length (List.take (n * 1) (List.drop 0 row)) = n ∧ n ≤ 1000000) ∧ (List.length (hide (List.map AC.u8 (cmF (List.map asU8 (List.take 16 (List.drop 0 ks))) (List.map asU8 (List.take (n * 1) (List.drop 0 row)))))) = 16 ∧ 16 ≤ 16) ∧ Flat (List.replicate 12 (AC.u8 (0 : BitVec 8))) ∧ Flat (layS (List.replicate 16 (AC.u8 (0 : BitVec 8))) 0 (hide (List.map AC.u8 (cmF (List.map asU8 (List.take 16 (List.drop 0 ks))) (List.map asU8 (List.take (n * 1) (List.drop 0 row))))))) ∧ Flat (List.replicate 12 (AC.u8 (0 : BitVec 8))) ∧ KR X 73 0 Q (kOf Try.f73 0) (mkS 21 [(4, AV.one (AC.ptr 0 0)), (5, AV.one (AC.ptr 1 0)), (6, AV.one (AC.ptr 2 0)), (7, AV.one (AC.i64 (0 : Int)))]) [some (List.replicate 12 (AC.u8 (0 : BitVec 8))), some (layS (List.replicate 16 (AC.u8 (0 : BitVec 8))) 0 (hide (List.map AC.u8 (cmF (List.map asU8 (List.take 16 (List.drop 0 ks))) (List.map asU8 (List.take (n * 1) (List.drop 0 row))))))), some (List.replicate 12 (AC.u8 (0 : BitVec 8)))]) : KRun X 73 0 Q ([.code (bodyOf Try.f73)]) (slots [.agg ks, .one (.xs row 0 n)] Try.f73.ntmps) [] :=
  wpRun_ok (hX ▸ baseC_ok T21 mf15 M15) (hX ▸ baseC_call T21_ok M15_ok) (hX ▸ mixed) (hX ▸ ok73) LK_ok (cast (β := wpRun (baseC T21 mf15 M15) [12] [] false (RS.mk Try.f73.results.toList 0 (CS.mk [] [] [0] [])) (LK X 73 0 Q true [(4, LS.mk [4, 5, 6, 7] (CS.mk [] [true, true, true] [] []))]) Q 2000 ([.code (bodyOf Try.f73)]) (slots [.agg ks, .one (.xs row 0 n)] Try.f73.ntmps) []) (by kernel_rfl) h)
set_option maxRecDepth 100000 in
theorem vc73a {X : Ctx} {Q : AV → Mem → Prop} (hX : X.P = Try.prog) (zs ds os : List AC) (i : Int) (h : (decide (i < (12 : Int)) = true → ((0 : Int) ≤ i ∧ i < (↑16 : Int)) ∧ gt AC.any ds (0 + Int.toNat i * 1) = AC.u8 (asU8 (gt AC.any ds (0 + Int.toNat i * 1))) ∧ ((0 : Int) ≤ i ∧ i < (↑12 : Int)) ∧ (1 = 1 ∧ 0 + Int.toNat i * 1 + 1 ≤ List.length os) ∧ in64 (i + (1 : Int)) ∧ Flat zs ∧ Flat ds ∧ Flat (layS os (0 + Int.toNat i * 1) [AC.u8 (asU8 (gt AC.any ds (0 + Int.toNat i * 1)))]) ∧ KR X 73 0 Q (kOf Try.f73 0) (mkS 21 [(4, AV.one (AC.ptr 0 0)), (5, AV.one (AC.ptr 1 0)), (6, AV.one (AC.ptr 2 0)), (7, AV.one (AC.i64 (i + (1 : Int))))]) [some zs, some ds, some (layS os (0 + Int.toNat i * 1) [AC.u8 (asU8 (gt AC.any ds (0 + Int.toNat i * 1)))])]) ∧ (decide (i < (12 : Int)) = false → 12 ≤ List.length os ∧ (List.length (List.take 12 (List.drop 0 os)) = 12 ∧ 12 ≤ List.length zs) ∧ 12 ≤ List.length (layS zs 0 (List.take 12 (List.drop 0 os))) ∧ flatAV (AV.agg (List.take 12 (List.drop 0 (layS zs 0 (List.take 12 (List.drop 0 os)))))) ∧ Q (AV.agg (List.take 12 (List.drop 0 (layS zs 0 (List.take 12 (List.drop 0 os)))))) [])) : KRun X 73 0 Q (kOf Try.f73 0) (mkS 21 [(4, .one (.ptr 0 0)), (5, .one (.ptr 1 0)), (6, .one (.ptr 2 0)), (7, .one (.i64 i))]) [some zs, some ds, some os] :=
  wpRun_ok (hX ▸ baseC_ok T21 mf15 M15) (hX ▸ baseC_call T21_ok M15_ok) (hX ▸ mixed) (hX ▸ ok73) LK_ok (cast (β := wpRun (baseC T21 mf15 M15) [12] [] false (RS.mk Try.f73.results.toList 0 (CS.mk [] [] [0] [])) (LK X 73 0 Q true [(4, LS.mk [4, 5, 6, 7] (CS.mk [] [true, true, true] [] []))]) Q 2000 (kOf Try.f73 0) (mkS 21 [(4, .one (.ptr 0 0)), (5, .one (.ptr 1 0)), (6, .one (.ptr 2 0)), (7, .one (.i64 i))]) [some zs, some ds, some os]) (by kernel_rfl) h)
set_option maxRecDepth 100000 in
theorem vc68 {X : Ctx} {Q : AV → Mem → Prop} (hX : X.P = Try.prog)  (h : (1 = 1 ∧ 1 ≤ 16) ∧ (1 = 1 ∧ 2 ≤ 16) ∧ (1 = 1 ∧ 3 ≤ 16) ∧ (1 = 1 ∧ 4 ≤ 16) ∧ (1 = 1 ∧ 5 ≤ 16) ∧ (1 = 1 ∧ 6 ≤ 16) ∧ (1 = 1 ∧ 7 ≤ 16) ∧ (1 = 1 ∧ 8 ≤ 16) ∧ (1 = 1 ∧ 9 ≤ 16) ∧ (1 = 1 ∧ 10 ≤ 16) ∧ (1 = 1 ∧ 11 ≤ 16) ∧ (1 = 1 ∧ 12 ≤ 16) ∧ (1 = 1 ∧ 13 ≤ 16) ∧ (1 = 1 ∧ 14 ≤ 16) ∧ (1 = 1 ∧ 15 ≤ 16) ∧ (1 = 1 ∧ 16 ≤ 16) ∧ Flat (lay (lay (lay (lay (lay (lay (lay (lay (lay (lay (lay (lay (lay (lay (lay (lay (List.replicate 16 (AC.u8 (0 : BitVec 8))) 0 [cvC (Value.int IntKind.u8 (43 : Int))]) 1 [cvC (Value.int IntKind.u8 (126 : Int))]) 2 [cvC (Value.int IntKind.u8 (21 : Int))]) 3 [cvC (Value.int IntKind.u8 (22 : Int))]) 4 [cvC (Value.int IntKind.u8 (40 : Int))]) 5 [cvC (Value.int IntKind.u8 (174 : Int))]) 6 [cvC (Value.int IntKind.u8 (210 : Int))]) 7 [cvC (Value.int IntKind.u8 (166 : Int))]) 8 [cvC (Value.int IntKind.u8 (171 : Int))]) 9 [cvC (Value.int IntKind.u8 (247 : Int))]) 10 [cvC (Value.int IntKind.u8 (21 : Int))]) 11 [cvC (Value.int IntKind.u8 (136 : Int))]) 12 [cvC (Value.int IntKind.u8 (9 : Int))]) 13 [cvC (Value.int IntKind.u8 (207 : Int))]) 14 [cvC (Value.int IntKind.u8 (79 : Int))]) 15 [cvC (Value.int IntKind.u8 (60 : Int))]) ∧ (allU8 [AC.u8 (BitVec.ofInt 8 (43 : Int)), AC.u8 (BitVec.ofInt 8 (126 : Int)), AC.u8 (BitVec.ofInt 8 (21 : Int)), AC.u8 (BitVec.ofInt 8 (22 : Int)), AC.u8 (BitVec.ofInt 8 (40 : Int)), AC.u8 (BitVec.ofInt 8 (174 : Int)), AC.u8 (BitVec.ofInt 8 (210 : Int)), AC.u8 (BitVec.ofInt 8 (166 : Int)), AC.u8 (BitVec.ofInt 8 (171 : Int)), AC.u8 (BitVec.ofInt 8 (247 : Int)), AC.u8 (BitVec.ofInt 8 (21 : Int)), AC.u8 (BitVec.ofInt 8 (136 : Int)), AC.u8 (BitVec.ofInt 8 (9 : Int)), AC.u8 (BitVec.ofInt 8 (207 : Int)), AC.u8 (BitVec.ofInt 8 (79 : Int)), AC.u8 (BitVec.ofInt 8 (60 : Int))] ∧ 16 = 16 ∧ [] = List.map encP (List.map asP []) ∧ 0 = 0 ∧ 0 ≤ 1000000) ∧ (List.length (hide (List.map AC.u8 (cmF (List.map asU8 (lay (lay (lay (lay (lay (lay (lay (lay (lay (lay (lay (lay (lay (lay (lay (lay (List.replicate 16 (AC.u8 (0 : BitVec 8))) 0 [cvC (Value.int IntKind.u8 (43 : Int))]) 1 [cvC (Value.int IntKind.u8 (126 : Int))]) 2 [cvC (Value.int IntKind.u8 (21 : Int))]) 3 [cvC (Value.int IntKind.u8 (22 : Int))]) 4 [cvC (Value.int IntKind.u8 (40 : Int))]) 5 [cvC (Value.int IntKind.u8 (174 : Int))]) 6 [cvC (Value.int IntKind.u8 (210 : Int))]) 7 [cvC (Value.int IntKind.u8 (166 : Int))]) 8 [cvC (Value.int IntKind.u8 (171 : Int))]) 9 [cvC (Value.int IntKind.u8 (247 : Int))]) 10 [cvC (Value.int IntKind.u8 (21 : Int))]) 11 [cvC (Value.int IntKind.u8 (136 : Int))]) 12 [cvC (Value.int IntKind.u8 (9 : Int))]) 13 [cvC (Value.int IntKind.u8 (207 : Int))]) 14 [cvC (Value.int IntKind.u8 (79 : Int))]) 15 [cvC (Value.int IntKind.u8 (60 : Int))])) (List.flatten (List.map asP []))))) = 16 ∧ 16 ≤ 16) ∧ ((0 : Int) ≤ (0 : Int) ∧ (0 : Int) < (↑16 : Int)) ∧ gt AC.any (layS (List.replicate 16 (AC.u8 (0 : BitVec 8))) 0 (hide (List.map AC.u8 (cmF (List.map asU8 (lay (lay (lay (lay (lay (lay (lay (lay (lay (lay (lay (lay (lay (lay (lay (lay (List.replicate 16 (AC.u8 (0 : BitVec 8))) 0 [cvC (Value.int IntKind.u8 (43 : Int))]) 1 [cvC (Value.int IntKind.u8 (126 : Int))]) 2 [cvC (Value.int IntKind.u8 (21 : Int))]) 3 [cvC (Value.int IntKind.u8 (22 : Int))]) 4 [cvC (Value.int IntKind.u8 (40 : Int))]) 5 [cvC (Value.int IntKind.u8 (174 : Int))]) 6 [cvC (Value.int IntKind.u8 (210 : Int))]) 7 [cvC (Value.int IntKind.u8 (166 : Int))]) 8 [cvC (Value.int IntKind.u8 (171 : Int))]) 9 [cvC (Value.int IntKind.u8 (247 : Int))]) 10 [cvC (Value.int IntKind.u8 (21 : Int))]) 11 [cvC (Value.int IntKind.u8 (136 : Int))]) 12 [cvC (Value.int IntKind.u8 (9 : Int))]) 13 [cvC (Value.int IntKind.u8 (207 : Int))]) 14 [cvC (Value.int IntKind.u8 (79 : Int))]) 15 [cvC (Value.int IntKind.u8 (60 : Int))])) (List.flatten (List.map asP [])))))) 0 = AC.u8 (asU8 (gt AC.any (layS (List.replicate 16 (AC.u8 (0 : BitVec 8))) 0 (hide (List.map AC.u8 (cmF (List.map asU8 (lay (lay (lay (lay (lay (lay (lay (lay (lay (lay (lay (lay (lay (lay (lay (lay (List.replicate 16 (AC.u8 (0 : BitVec 8))) 0 [cvC (Value.int IntKind.u8 (43 : Int))]) 1 [cvC (Value.int IntKind.u8 (126 : Int))]) 2 [cvC (Value.int IntKind.u8 (21 : Int))]) 3 [cvC (Value.int IntKind.u8 (22 : Int))]) 4 [cvC (Value.int IntKind.u8 (40 : Int))]) 5 [cvC (Value.int IntKind.u8 (174 : Int))]) 6 [cvC (Value.int IntKind.u8 (210 : Int))]) 7 [cvC (Value.int IntKind.u8 (166 : Int))]) 8 [cvC (Value.int IntKind.u8 (171 : Int))]) 9 [cvC (Value.int IntKind.u8 (247 : Int))]) 10 [cvC (Value.int IntKind.u8 (21 : Int))]) 11 [cvC (Value.int IntKind.u8 (136 : Int))]) 12 [cvC (Value.int IntKind.u8 (9 : Int))]) 13 [cvC (Value.int IntKind.u8 (207 : Int))]) 14 [cvC (Value.int IntKind.u8 (79 : Int))]) 15 [cvC (Value.int IntKind.u8 (60 : Int))])) (List.flatten (List.map asP [])))))) 0)) ∧ (decide (asU8 (gt AC.any (layS (List.replicate 16 (AC.u8 (0 : BitVec 8))) 0 (hide (List.map AC.u8 (cmF (List.map asU8 (lay (lay (lay (lay (lay (lay (lay (lay (lay (lay (lay (lay (lay (lay (lay (lay (List.replicate 16 (AC.u8 (0 : BitVec 8))) 0 [cvC (Value.int IntKind.u8 (43 : Int))]) 1 [cvC (Value.int IntKind.u8 (126 : Int))]) 2 [cvC (Value.int IntKind.u8 (21 : Int))]) 3 [cvC (Value.int IntKind.u8 (22 : Int))]) 4 [cvC (Value.int IntKind.u8 (40 : Int))]) 5 [cvC (Value.int IntKind.u8 (174 : Int))]) 6 [cvC (Value.int IntKind.u8 (210 : Int))]) 7 [cvC (Value.int IntKind.u8 (166 : Int))]) 8 [cvC (Value.int IntKind.u8 (171 : Int))]) 9 [cvC (Value.int IntKind.u8 (247 : Int))]) 10 [cvC (Value.int IntKind.u8 (21 : Int))]) 11 [cvC (Value.int IntKind.u8 (136 : Int))]) 12 [cvC (Value.int IntKind.u8 (9 : Int))]) 13 [cvC (Value.int IntKind.u8 (207 : Int))]) 14 [cvC (Value.int IntKind.u8 (79 : Int))]) 15 [cvC (Value.int IntKind.u8 (60 : Int))])) (List.flatten (List.map asP [])))))) 0) = BitVec.ofInt 8 (187 : Int)) = true → ((0 : Int) ≤ (1 : Int) ∧ (1 : Int) < (↑16 : Int)) ∧ gt AC.any (layS (List.replicate 16 (AC.u8 (0 : BitVec 8))) 0 (hide (List.map AC.u8 (cmF (List.map asU8 (lay (lay (lay (lay (lay (lay (lay (lay (lay (lay (lay (lay (lay (lay (lay (lay (List.replicate 16 (AC.u8 (0 : BitVec 8))) 0 [cvC (Value.int IntKind.u8 (43 : Int))]) 1 [cvC (Value.int IntKind.u8 (126 : Int))]) 2 [cvC (Value.int IntKind.u8 (21 : Int))]) 3 [cvC (Value.int IntKind.u8 (22 : Int))]) 4 [cvC (Value.int IntKind.u8 (40 : Int))]) 5 [cvC (Value.int IntKind.u8 (174 : Int))]) 6 [cvC (Value.int IntKind.u8 (210 : Int))]) 7 [cvC (Value.int IntKind.u8 (166 : Int))]) 8 [cvC (Value.int IntKind.u8 (171 : Int))]) 9 [cvC (Value.int IntKind.u8 (247 : Int))]) 10 [cvC (Value.int IntKind.u8 (21 : Int))]) 11 [cvC (Value.int IntKind.u8 (136 : Int))]) 12 [cvC (Value.int IntKind.u8 (9 : Int))]) 13 [cvC (Value.int IntKind.u8 (207 : Int))]) 14 [cvC (Value.int IntKind.u8 (79 : Int))]) 15 [cvC (Value.int IntKind.u8 (60 : Int))])) (List.flatten (List.map asP [])))))) 1 = AC.u8 (asU8 (gt AC.any (layS (List.replicate 16 (AC.u8 (0 : BitVec 8))) 0 (hide (List.map AC.u8 (cmF (List.map asU8 (lay (lay (lay (lay (lay (lay (lay (lay (lay (lay (lay (lay (lay (lay (lay (lay (List.replicate 16 (AC.u8 (0 : BitVec 8))) 0 [cvC (Value.int IntKind.u8 (43 : Int))]) 1 [cvC (Value.int IntKind.u8 (126 : Int))]) 2 [cvC (Value.int IntKind.u8 (21 : Int))]) 3 [cvC (Value.int IntKind.u8 (22 : Int))]) 4 [cvC (Value.int IntKind.u8 (40 : Int))]) 5 [cvC (Value.int IntKind.u8 (174 : Int))]) 6 [cvC (Value.int IntKind.u8 (210 : Int))]) 7 [cvC (Value.int IntKind.u8 (166 : Int))]) 8 [cvC (Value.int IntKind.u8 (171 : Int))]) 9 [cvC (Value.int IntKind.u8 (247 : Int))]) 10 [cvC (Value.int IntKind.u8 (21 : Int))]) 11 [cvC (Value.int IntKind.u8 (136 : Int))]) 12 [cvC (Value.int IntKind.u8 (9 : Int))]) 13 [cvC (Value.int IntKind.u8 (207 : Int))]) 14 [cvC (Value.int IntKind.u8 (79 : Int))]) 15 [cvC (Value.int IntKind.u8 (60 : Int))])) (List.flatten (List.map asP [])))))) 1)) ∧ (decide (asU8 (gt AC.any (layS (List.replicate 16 (AC.u8 (0 : BitVec 8))) 0 (hide (List.map AC.u8 (cmF (List.map asU8 (lay (lay (lay (lay (lay (lay (lay (lay (lay (lay (lay (lay (lay (lay (lay (lay (List.replicate 16 (AC.u8 (0 : BitVec 8))) 0 [cvC (Value.int IntKind.u8 (43 : Int))]) 1 [cvC (Value.int IntKind.u8 (126 : Int))]) 2 [cvC (Value.int IntKind.u8 (21 : Int))]) 3 [cvC (Value.int IntKind.u8 (22 : Int))]) 4 [cvC (Value.int IntKind.u8 (40 : Int))]) 5 [cvC (Value.int IntKind.u8 (174 : Int))]) 6 [cvC (Value.int IntKind.u8 (210 : Int))]) 7 [cvC (Value.int IntKind.u8 (166 : Int))]) 8 [cvC (Value.int IntKind.u8 (171 : Int))]) 9 [cvC (Value.int IntKind.u8 (247 : Int))]) 10 [cvC (Value.int IntKind.u8 (21 : Int))]) 11 [cvC (Value.int IntKind.u8 (136 : Int))]) 12 [cvC (Value.int IntKind.u8 (9 : Int))]) 13 [cvC (Value.int IntKind.u8 (207 : Int))]) 14 [cvC (Value.int IntKind.u8 (79 : Int))]) 15 [cvC (Value.int IntKind.u8 (60 : Int))])) (List.flatten (List.map asP [])))))) 1) = BitVec.ofInt 8 (29 : Int)) = true → ((0 : Int) ≤ (15 : Int) ∧ (15 : Int) < (↑16 : Int)) ∧ gt AC.any (layS (List.replicate 16 (AC.u8 (0 : BitVec 8))) 0 (hide (List.map AC.u8 (cmF (List.map asU8 (lay (lay (lay (lay (lay (lay (lay (lay (lay (lay (lay (lay (lay (lay (lay (lay (List.replicate 16 (AC.u8 (0 : BitVec 8))) 0 [cvC (Value.int IntKind.u8 (43 : Int))]) 1 [cvC (Value.int IntKind.u8 (126 : Int))]) 2 [cvC (Value.int IntKind.u8 (21 : Int))]) 3 [cvC (Value.int IntKind.u8 (22 : Int))]) 4 [cvC (Value.int IntKind.u8 (40 : Int))]) 5 [cvC (Value.int IntKind.u8 (174 : Int))]) 6 [cvC (Value.int IntKind.u8 (210 : Int))]) 7 [cvC (Value.int IntKind.u8 (166 : Int))]) 8 [cvC (Value.int IntKind.u8 (171 : Int))]) 9 [cvC (Value.int IntKind.u8 (247 : Int))]) 10 [cvC (Value.int IntKind.u8 (21 : Int))]) 11 [cvC (Value.int IntKind.u8 (136 : Int))]) 12 [cvC (Value.int IntKind.u8 (9 : Int))]) 13 [cvC (Value.int IntKind.u8 (207 : Int))]) 14 [cvC (Value.int IntKind.u8 (79 : Int))]) 15 [cvC (Value.int IntKind.u8 (60 : Int))])) (List.flatten (List.map asP [])))))) 15 = AC.u8 (asU8 (gt AC.any (layS (List.replicate 16 (AC.u8 (0 : BitVec 8))) 0 (hide (List.map AC.u8 (cmF (List.map asU8 (lay (lay (lay (lay (lay (lay (lay (lay (lay (lay (lay (lay (lay (lay (lay (lay (List.replicate 16 (AC.u8 (0 : BitVec 8))) 0 [cvC (Value.int IntKind.u8 (43 : Int))]) 1 [cvC (Value.int IntKind.u8 (126 : Int))]) 2 [cvC (Value.int IntKind.u8 (21 : Int))]) 3 [cvC (Value.int IntKind.u8 (22 : Int))]) 4 [cvC (Value.int IntKind.u8 (40 : Int))]) 5 [cvC (Value.int IntKind.u8 (174 : Int))]) 6 [cvC (Value.int IntKind.u8 (210 : Int))]) 7 [cvC (Value.int IntKind.u8 (166 : Int))]) 8 [cvC (Value.int IntKind.u8 (171 : Int))]) 9 [cvC (Value.int IntKind.u8 (247 : Int))]) 10 [cvC (Value.int IntKind.u8 (21 : Int))]) 11 [cvC (Value.int IntKind.u8 (136 : Int))]) 12 [cvC (Value.int IntKind.u8 (9 : Int))]) 13 [cvC (Value.int IntKind.u8 (207 : Int))]) 14 [cvC (Value.int IntKind.u8 (79 : Int))]) 15 [cvC (Value.int IntKind.u8 (60 : Int))])) (List.flatten (List.map asP [])))))) 15)) ∧ Q (AV.one (AC.b (decide (asU8 (gt AC.any (layS (List.replicate 16 (AC.u8 (0 : BitVec 8))) 0 (hide (List.map AC.u8 (cmF (List.map asU8 (lay (lay (lay (lay (lay (lay (lay (lay (lay (lay (lay (lay (lay (lay (lay (lay (List.replicate 16 (AC.u8 (0 : BitVec 8))) 0 [cvC (Value.int IntKind.u8 (43 : Int))]) 1 [cvC (Value.int IntKind.u8 (126 : Int))]) 2 [cvC (Value.int IntKind.u8 (21 : Int))]) 3 [cvC (Value.int IntKind.u8 (22 : Int))]) 4 [cvC (Value.int IntKind.u8 (40 : Int))]) 5 [cvC (Value.int IntKind.u8 (174 : Int))]) 6 [cvC (Value.int IntKind.u8 (210 : Int))]) 7 [cvC (Value.int IntKind.u8 (166 : Int))]) 8 [cvC (Value.int IntKind.u8 (171 : Int))]) 9 [cvC (Value.int IntKind.u8 (247 : Int))]) 10 [cvC (Value.int IntKind.u8 (21 : Int))]) 11 [cvC (Value.int IntKind.u8 (136 : Int))]) 12 [cvC (Value.int IntKind.u8 (9 : Int))]) 13 [cvC (Value.int IntKind.u8 (207 : Int))]) 14 [cvC (Value.int IntKind.u8 (79 : Int))]) 15 [cvC (Value.int IntKind.u8 (60 : Int))])) (List.flatten (List.map asP [])))))) 15) = BitVec.ofInt 8 (70 : Int))))) []) ∧ (decide (asU8 (gt AC.any (layS (List.replicate 16 (AC.u8 (0 : BitVec 8))) 0 (hide (List.map AC.u8 (cmF (List.map asU8 (lay (lay (lay (lay (lay (lay (lay (lay (lay (lay (lay (lay (lay (lay (lay (lay (List.replicate 16 (AC.u8 (0 : BitVec 8))) 0 [cvC (Value.int IntKind.u8 (43 : Int))]) 1 [cvC (Value.int IntKind.u8 (126 : Int))]) 2 [cvC (Value.int IntKind.u8 (21 : Int))]) 3 [cvC (Value.int IntKind.u8 (22 : Int))]) 4 [cvC (Value.int IntKind.u8 (40 : Int))]) 5 [cvC (Value.int IntKind.u8 (174 : Int))]) 6 [cvC (Value.int IntKind.u8 (210 : Int))]) 7 [cvC (Value.int IntKind.u8 (166 : Int))]) 8 [cvC (Value.int IntKind.u8 (171 : Int))]) 9 [cvC (Value.int IntKind.u8 (247 : Int))]) 10 [cvC (Value.int IntKind.u8 (21 : Int))]) 11 [cvC (Value.int IntKind.u8 (136 : Int))]) 12 [cvC (Value.int IntKind.u8 (9 : Int))]) 13 [cvC (Value.int IntKind.u8 (207 : Int))]) 14 [cvC (Value.int IntKind.u8 (79 : Int))]) 15 [cvC (Value.int IntKind.u8 (60 : Int))])) (List.flatten (List.map asP [])))))) 1) = BitVec.ofInt 8 (29 : Int)) = false → Q (AV.one (AC.b false)) [])) ∧ (decide (asU8 (gt AC.any (layS (List.replicate 16 (AC.u8 (0 : BitVec 8))) 0 (hide (List.map AC.u8 (cmF (List.map asU8 (lay (lay (lay (lay (lay (lay (lay (lay (lay (lay (lay (lay (lay (lay (lay (lay (List.replicate 16 (AC.u8 (0 : BitVec 8))) 0 [cvC (Value.int IntKind.u8 (43 : Int))]) 1 [cvC (Value.int IntKind.u8 (126 : Int))]) 2 [cvC (Value.int IntKind.u8 (21 : Int))]) 3 [cvC (Value.int IntKind.u8 (22 : Int))]) 4 [cvC (Value.int IntKind.u8 (40 : Int))]) 5 [cvC (Value.int IntKind.u8 (174 : Int))]) 6 [cvC (Value.int IntKind.u8 (210 : Int))]) 7 [cvC (Value.int IntKind.u8 (166 : Int))]) 8 [cvC (Value.int IntKind.u8 (171 : Int))]) 9 [cvC (Value.int IntKind.u8 (247 : Int))]) 10 [cvC (Value.int IntKind.u8 (21 : Int))]) 11 [cvC (Value.int IntKind.u8 (136 : Int))]) 12 [cvC (Value.int IntKind.u8 (9 : Int))]) 13 [cvC (Value.int IntKind.u8 (207 : Int))]) 14 [cvC (Value.int IntKind.u8 (79 : Int))]) 15 [cvC (Value.int IntKind.u8 (60 : Int))])) (List.flatten (List.map asP [])))))) 0) = BitVec.ofInt 8 (187 : Int)) = false → Q (AV.one (AC.b false)) [])) : KRun X 68 0 Q ([.code (bodyOf Try.f68)]) (slots [] Try.f68.ntmps) [] :=
  wpRun_ok (hX ▸ baseC_ok T21 mf15 M15) (hX ▸ baseC_call T21_ok M15_ok) (hX ▸ mixed) (hX ▸ ok68) LK_ok (cast (β := wpRun (baseC T21 mf15 M15) [6, 10] [] false (RS.mk Try.f68.results.toList 0 (CS.mk [] [] [] [])) (LK X 68 0 Q true []) Q 2000 ([.code (bodyOf Try.f68)]) (slots [] Try.f68.ntmps) []) (by kernel_rfl) h)

def sh12 (d : List (BitVec 8)) : List (BitVec 8) := d.take 12
theorem sh12_len {d : List (BitVec 8)} (h : d.length = 16) : (sh12 d).length = 12 := by unfold sh12; rw [List.length_take]; omega
theorem s72 (key : List (BitVec 8)) (hk : key.length = 16) (ps : List (List (BitVec 8))) (hps : ps.length ≤ 1000000) : Spec Try.prog 72 [.agg (key.map AC.u8), .one (.xs (ps.map encP) 0 ps.length)] [] (Is (.agg ((sh12 (cmF key ps.flatten)).map AC.u8))) := by
  refine Spec.of_run ok72 fun X hX => vc72 hX _ _ _ ?_
  have z : Flat (List.replicate 16 (AC.u8 0)) := by rw [mrep]; exact flat_u8 _
  have ek : key.take 16 = key := List.take_of_length_le (by omega)
  have hc := cmF_len key ps.flatten
  have h12 := sh12_len hc
  have e1 : layS (List.replicate 16 (AC.u8 0)) 0 ((cmF key ps.flatten).map AC.u8) = (cmF key ps.flatten).map AC.u8 := layR _ _ hc
  have e2 : (cmF key ps.flatten).take 12 = sh12 (cmF key ps.flatten) := rfl
  have e3 : layS (List.replicate 12 (AC.u8 0)) 0 ((sh12 (cmF key ps.flatten)).map AC.u8) = (sh12 (cmF key ps.flatten)).map AC.u8 := layR _ _ h12
  have e4 : (sh12 (cmF key ps.flatten)).take 12 = sh12 (cmF key ps.flatten) := List.take_of_length_le (by omega)
  rw [tkP ps, map_asP]
  simp only [hide_eq, tk0, List.drop_zero, ek, map_as8, e1, e2, e3, e4, List.length_map, List.length_replicate, hk, hc, h12]
  clear ek e1 e2 e3 e4
  generalize cmF key ps.flatten = E at *
  (repeat' (first | exact z | exact trivial | exact flat_u8 _ | exact flatA _ | exact allU8_map _ | exact Nat.le_refl _ | refine And.intro ?_ ?_)) <;> (first | omega | exact z | (unfold in64; omega) | exact List.length_map _ | (show Is _ _ _; exact rfl) | skip)
theorem l73 {X : Ctx} (hX : X.P = Try.prog) (d : List (BitVec 8)) (hd : d.length = 16) : ∀ (f i : Nat), i + f = 12 →
    KRun X 73 0 (Is (.agg ((sh12 d).map AC.u8))) (kOf Try.f73 0) (mkS 21 [(4, .one (.ptr 0 0)), (5, .one (.ptr 1 0)), (6, .one (.ptr 2 0)), (7, .one (.i64 i))]) [some (List.replicate 12 (AC.u8 0)), some (d.map AC.u8), some (((sh12 d).take i ++ (List.replicate 12 0).drop i).map AC.u8)] := by
  have z : Flat (List.replicate 12 (AC.u8 0)) := by rw [mrep]; exact flat_u8 _
  have h12 := sh12_len hd
  have hz : (sh12 d).length = (List.replicate 12 (0 : BitVec 8)).length := by rw [h12, List.length_replicate]
  intro f
  induction f with
  | zero =>
    intro i hi
    have hi : i = 12 := by omega
    subst hi
    have e := endT (sh12 d) (List.replicate 12 0) hz
    rw [h12] at e
    have e3 : layS (List.replicate 12 (AC.u8 0)) 0 ((sh12 d).map AC.u8) = (sh12 d).map AC.u8 := layR _ _ h12
    have e4 : (sh12 d).take 12 = sh12 d := List.take_of_length_le (by omega)
    refine vc73a hX _ _ _ _ ⟨fun h => absurd (of_decide_eq_true h) (by omega), fun _ => ?_⟩
    rw [e]
    simp only [tk0, List.drop_zero, e3, e4, List.length_map, List.length_replicate, h12]
    clear e3 e4 e
    (repeat' (first | exact z | exact trivial | exact flat_u8 _ | exact flatA _ | exact allU8_map _ | exact Nat.le_refl _ | refine And.intro ?_ ?_)) <;> (first | omega | exact z | (unfold in64; omega) | exact List.length_map _ | (show Is _ _ _; exact rfl) | skip)
  | succ f ih =>
    intro i hi
    have ih := ih (i + 1) (by omega)
    have g := gt_u8_at d i (by omega)
    have hl := lenT (sh12 d) (List.replicate 12 0) (i := i) hz
    rw [List.length_replicate] at hl
    have hs := setT (sh12 d) (List.replicate 12 0) 0 (i := i) (by omega) hz
    rw [show (sh12 d).getD i 0 = d.getD i 0 by unfold sh12; rw [List.getD_eq_getElem?_getD, List.getElem?_take_of_lt (by omega), ← List.getD_eq_getElem?_getD]] at hs
    refine vc73a hX _ _ _ _ ⟨fun _ => ?_, fun h => absurd (of_decide_eq_false h) (by omega)⟩
    simp only [ixn, g, asU8, lay1, hs, List.length_map, hl]
    (repeat' (first | exact z | exact trivial | exact flat_u8 _ | exact flatA _ | exact allU8_map _ | exact Nat.le_refl _ | refine And.intro ?_ ?_)) <;> (first | omega | exact z | (unfold in64; omega) | exact List.length_map _ | (show Is _ _ _; exact rfl) | skip)
    exact ⟨ih⟩
theorem s73 (key m : List (BitVec 8)) (hk : key.length = 16) (hm : m.length ≤ 1000000) : Spec Try.prog 73 [.agg (key.map AC.u8), .one (.xs (m.map AC.u8) 0 m.length)] [] (Is (.agg ((sh12 (cmF key m)).map AC.u8))) := by
  refine Spec.of_run ok73 fun X hX => vc73 hX _ _ _ ?_
  have z : Flat (List.replicate 12 (AC.u8 0)) := by rw [mrep]; exact flat_u8 _
  have ek : key.take 16 = key := List.take_of_length_le (by omega)
  have hc := cmF_len key m
  have e1 : layS (List.replicate 16 (AC.u8 0)) 0 ((cmF key m).map AC.u8) = (cmF key m).map AC.u8 := layR _ _ hc
  have K := l73 hX (cmF key m) hc 12 0 rfl
  rw [begT, List.map_replicate] at K
  rw [tk m]
  simp only [hide_eq, tk0, List.drop_zero, ek, map_as8, e1, List.length_map, hk, hc]
  clear ek e1
  generalize cmF key m = E at *
  (repeat' (first | exact z | exact trivial | exact flat_u8 _ | exact flatA _ | exact allU8_map _ | exact Nat.le_refl _ | refine And.intro ?_ ?_)) <;> (first | omega | exact z | (unfold in64; omega) | exact List.length_map _ | (show Is _ _ _; exact rfl) | skip)
  exact ⟨K⟩
set_option maxRecDepth 100000 in
theorem s68 : Spec Try.prog 68 [] [] (Is (.one (.b true))) := by
  refine Spec.of_run ok68 fun X hX => vc68 hX ?_
  have eK : List.map asU8 (lay (lay (lay (lay (lay (lay (lay (lay (lay (lay (lay (lay (lay (lay (lay (lay (List.replicate 16 (AC.u8 0)) 0 [cvC (Value.int IntKind.u8 43)]) 1 [cvC (Value.int IntKind.u8 126)]) 2 [cvC (Value.int IntKind.u8 21)]) 3 [cvC (Value.int IntKind.u8 22)]) 4 [cvC (Value.int IntKind.u8 40)]) 5 [cvC (Value.int IntKind.u8 174)]) 6 [cvC (Value.int IntKind.u8 210)]) 7 [cvC (Value.int IntKind.u8 166)]) 8 [cvC (Value.int IntKind.u8 171)]) 9 [cvC (Value.int IntKind.u8 247)]) 10 [cvC (Value.int IntKind.u8 21)]) 11 [cvC (Value.int IntKind.u8 136)]) 12 [cvC (Value.int IntKind.u8 9)]) 13 [cvC (Value.int IntKind.u8 207)]) 14 [cvC (Value.int IntKind.u8 79)]) 15 [cvC (Value.int IntKind.u8 60)]) = ckey := by kernel_rfl
  have eF : Flat (lay (lay (lay (lay (lay (lay (lay (lay (lay (lay (lay (lay (lay (lay (lay (lay (List.replicate 16 (AC.u8 0)) 0 [cvC (Value.int IntKind.u8 43)]) 1 [cvC (Value.int IntKind.u8 126)]) 2 [cvC (Value.int IntKind.u8 21)]) 3 [cvC (Value.int IntKind.u8 22)]) 4 [cvC (Value.int IntKind.u8 40)]) 5 [cvC (Value.int IntKind.u8 174)]) 6 [cvC (Value.int IntKind.u8 210)]) 7 [cvC (Value.int IntKind.u8 166)]) 8 [cvC (Value.int IntKind.u8 171)]) 9 [cvC (Value.int IntKind.u8 247)]) 10 [cvC (Value.int IntKind.u8 21)]) 11 [cvC (Value.int IntKind.u8 136)]) 12 [cvC (Value.int IntKind.u8 9)]) 13 [cvC (Value.int IntKind.u8 207)]) 14 [cvC (Value.int IntKind.u8 79)]) 15 [cvC (Value.int IntKind.u8 60)]) := exactFlat (by kernel_rfl)
  have e0 : layS (List.replicate 16 (AC.u8 0)) 0 ((lit8 [187, 29, 105, 41, 233, 89, 55, 40, 127, 163, 125, 18, 155, 117, 103, 70]).map AC.u8) = (lit8 [187, 29, 105, 41, 233, 89, 55, 40, 127, 163, 125, 18, 155, 117, 103, 70]).map AC.u8 := layR _ _ rfl
  have g0 : gt AC.any ((lit8 [187, 29, 105, 41, 233, 89, 55, 40, 127, 163, 125, 18, 155, 117, 103, 70]).map AC.u8) 0 = .u8 187#8 := rfl
  have g1 : gt AC.any ((lit8 [187, 29, 105, 41, 233, 89, 55, 40, 127, 163, 125, 18, 155, 117, 103, 70]).map AC.u8) 1 = .u8 29#8 := rfl
  have g15 : gt AC.any ((lit8 [187, 29, 105, 41, 233, 89, 55, 40, 127, 163, 125, 18, 155, 117, 103, 70]).map AC.u8) 15 = .u8 70#8 := rfl
  have hl : ((lit8 [187, 29, 105, 41, 233, 89, 55, 40, 127, 163, 125, 18, 155, 117, 103, 70]).map AC.u8).length = 16 := rfl
  have d0 : decide (187#8 = BitVec.ofInt 8 187) = true := rfl
  have d1 : decide (29#8 = BitVec.ofInt 8 29) = true := rfl
  have d15 : decide (70#8 = BitVec.ofInt 8 70) = true := rfl
  simp only [hide_eq, eK, List.map_nil, List.flatten_nil, ckey_cm, e0, g0, g1, g15, asU8, hl, d0, d1, d15, true_implies, Bool.true_eq_false, false_implies, and_true]
  clear e0 g0 g1 g15 hl d0 d1 d15 eK
  (repeat' (first | exact trivial | exact eF | exact Nat.le_refl _ | refine And.intro ?_ ?_)) <;> first | omega | rfl | decide | skip
end DH

noncomputable section
namespace DH
open Go Go.Proofs
noncomputable def T22 : Tab := fun f xs => match f, xs with
  | 68, [] => some ([], .one (.b true))
  | 72, [.agg cs, .one (.xs row 0 n)] => some ([allU8 cs ∧ cs.length = 16 ∧ row = (row.map asP).map encP ∧ row.length = n ∧ n ≤ 1000000], .agg (hide ((sh12 (cmF (cs.map asU8) (row.map asP).flatten)).map AC.u8)))
  | 73, [.agg cs, .one (.xs row 0 n)] => some ([allU8 cs ∧ cs.length = 16 ∧ allU8 row ∧ row.length = n ∧ n ≤ 1000000], .agg (hide ((sh12 (cmF (cs.map asU8) (row.map asU8))).map AC.u8)))
  | f, xs => T21 f xs
theorem T22_ok : TabOk Try.prog T22 := by
  intro f xs cs r h hc
  unfold T22 at h
  split at h
  · obtain ⟨rfl, rfl⟩ := Prod.mk.inj (Option.some.inj h)
    exact ⟨⟨_, _, ok68⟩, s68, rfl⟩
  · obtain ⟨rfl, rfl⟩ := Prod.mk.inj (Option.some.inj h)
    obtain ⟨h1, h2, h3, h4, h5⟩ := hc.1
    rename_i cs row n
    have := s72 (cs.map asU8) (by rw [List.length_map]; exact h2) (row.map asP) (by rw [List.length_map]; omega)
    rw [← h1, ← h3, List.length_map, h4] at this
    rw [hide_eq]
    exact ⟨⟨_, _, ok72⟩, this, exactL_map _ (fun _ => rfl) _⟩
  · obtain ⟨rfl, rfl⟩ := Prod.mk.inj (Option.some.inj h)
    obtain ⟨h1, h2, h3, h4, h5⟩ := hc.1
    rename_i cs row n
    have := s73 (cs.map asU8) (row.map asU8) (by rw [List.length_map]; exact h2) (by rw [List.length_map]; omega)
    rw [← h1, ← h3, List.length_map, h4] at this
    rw [hide_eq]
    exact ⟨⟨_, _, ok73⟩, this, exactL_map _ (fun _ => rfl) _⟩
  · exact T21_ok _ _ _ _ h hc
noncomputable def inlC : Inl := fun f => match f with
  | 70 => some (Try.f70, [])
  | _ => none
theorem inlC_ok : InlOk Try.prog inlC := by
  intro f fn hs h
  unfold inlC at h
  split at h <;> first | (cases h; done) | (obtain ⟨rfl, _⟩ := Prod.mk.inj (Option.some.inj h); first | exact ok70)
noncomputable def envC (T : Tab) (mf : FuncId → Option MF) (M : TabM) : Env := inlE (baseC T mf M) inlC 2
theorem envC_ok (T : Tab) (mf : FuncId → Option MF) (M : TabM) : EnvOk Try.prog (envC T mf M) := inlE_envOk (baseC_ok T mf M) _ _
theorem envC_call {T : Tab} {mf : FuncId → Option MF} {M : TabM} (hT : TabOk Try.prog T) (hM : TabMOk Try.prog M) : CallOk Try.prog (envC T mf M) :=
  inlE_ok (baseC_ok T mf M) (baseC_call hT hM) mixed inlC_ok 2
set_option maxRecDepth 100000 in
theorem vc18 {X : Ctx} {Q : AV → Mem → Prop} (hX : X.P = Try.prog) (ks bs : List AC) (h : 16 ≤ List.length ks ∧ Flat (List.take 16 (List.drop 0 ks)) ∧ (allU8 (List.take 16 (List.drop 0 ks)) ∧ List.length (List.take 16 (List.drop 0 ks)) = 16) ∧ (List.length (hide (List.map AC.u8 (k1F (List.map asU8 (List.take 16 (List.drop 0 ks)))))) = 16 ∧ 16 ≤ 16) ∧ (List.length (hide (List.map AC.u8 (k2F (List.map asU8 (List.take 16 (List.drop 0 ks)))))) = 16 ∧ 16 ≤ 16) ∧ 16 ≤ List.length ks ∧ Flat (List.take 16 (List.drop 0 ks)) ∧ (allU8 (List.take 16 (List.drop 0 ks)) ∧ List.length (List.take 16 (List.drop 0 ks)) = 16) ∧ (List.length (hide (List.map AC.u8 (k1F (List.map asU8 (List.take 16 (List.drop 0 ks)))))) = 16 ∧ 16 ≤ 16) ∧ (List.length (hide (List.map AC.u8 (k2F (List.map asU8 (List.take 16 (List.drop 0 ks)))))) = 16 ∧ 16 ≤ 16) ∧ Flat bs ∧ Flat (layS (List.replicate 16 (AC.u8 (0 : BitVec 8))) 0 (hide (List.map AC.u8 (k1F (List.map asU8 (List.take 16 (List.drop 0 ks))))))) ∧ Flat (layS (List.replicate 16 (AC.u8 (0 : BitVec 8))) 0 (hide (List.map AC.u8 (k2F (List.map asU8 (List.take 16 (List.drop 0 ks))))))) ∧ Flat (layS (List.replicate 16 (AC.u8 (0 : BitVec 8))) 0 (hide (List.map AC.u8 (k1F (List.map asU8 (List.take 16 (List.drop 0 ks))))))) ∧ Flat (layS (List.replicate 16 (AC.u8 (0 : BitVec 8))) 0 (hide (List.map AC.u8 (k2F (List.map asU8 (List.take 16 (List.drop 0 ks))))))) ∧ KR X 18 0 Q (kCut Try.f18 2) (mkS 37 [(3, AV.one (AC.ptr 0 0)), (5, AV.one (AC.ptr 1 0)), (6, AV.one (AC.ptr 2 0)), (7, AV.one (AC.ptr 3 0)), (8, AV.one (AC.ptr 4 0))]) [some bs, some (layS (List.replicate 16 (AC.u8 (0 : BitVec 8))) 0 (hide (List.map AC.u8 (k1F (List.map asU8 (List.take 16 (List.drop 0 ks))))))), some (layS (List.replicate 16 (AC.u8 (0 : BitVec 8))) 0 (hide (List.map AC.u8 (k2F (List.map asU8 (List.take 16 (List.drop 0 ks))))))), some (layS (List.replicate 16 (AC.u8 (0 : BitVec 8))) 0 (hide (List.map AC.u8 (k1F (List.map asU8 (List.take 16 (List.drop 0 ks))))))), some (layS (List.replicate 16 (AC.u8 (0 : BitVec 8))) 0 (hide (List.map AC.u8 (k2F (List.map asU8 (List.take 16 (List.drop 0 ks)))))))]) : KRun X 18 0 Q ([.code (bodyOf Try.f18)]) (slots [.agg ks, .agg bs] Try.f18.ntmps) [] :=
  wpRun_ok (hX ▸ envC_ok T22 mf15 M15) (hX ▸ envC_call T22_ok M15_ok) (hX ▸ mixed) (hX ▸ ok18) LK_ok (cast (β := wpRun (envC T22 mf15 M15) [23, 27, 32] [(100002, 0), (200003, 0)] false (RS.mk Try.f18.results.toList 0 (CS.mk [] [] [] [])) (LK X 18 0 Q true [(3, LS.mk [3, 5, 6, 7, 8] (CS.mk [] [true, true, true, true, true] [] []))]) Q 2000 ([.code (bodyOf Try.f18)]) (slots [.agg ks, .agg bs] Try.f18.ntmps) []) (by kernel_rfl) h)
set_option maxRecDepth 100000 in
theorem vc18b {X : Ctx} {Q : AV → Mem → Prop} (hX : X.P = Try.prog) (bs as' bs' cs' ds' : List AC) (h : 16 ≤ List.length bs ∧ Flat (List.take 16 (List.drop 0 bs)) ∧ (allU8 (List.take 16 (List.drop 0 bs)) ∧ List.length (List.take 16 (List.drop 0 bs)) = 16) ∧ 16 ≤ List.length bs ∧ Flat (List.take 16 (List.drop 0 bs)) ∧ (allU8 (List.take 16 (List.drop 0 bs)) ∧ List.length (List.take 16 (List.drop 0 bs)) = 16) ∧ (fitCs (List.replicate 16 (AC.u8 (0 : BitVec 8))) (hide (List.map AC.u8 (dbN (List.map asU8 (List.take 16 (List.drop 0 bs)))))) ∧ fitCs (List.replicate 16 (AC.u8 (0 : BitVec 8))) (hide (List.map AC.u8 (dbN (List.map asU8 (List.take 16 (List.drop 0 bs))))))) ∧ (sameCells (hide (List.map AC.u8 (dbN (List.map asU8 (List.take 16 (List.drop 0 bs)))))) (hide (List.map AC.u8 (dbN (List.map asU8 (List.take 16 (List.drop 0 bs)))))) = true → 16 ≤ List.length as' ∧ 16 ≤ List.length cs' ∧ (fitCs (List.replicate 16 (AC.u8 (0 : BitVec 8))) (List.take 16 (List.drop 0 as')) ∧ fitCs (List.replicate 16 (AC.u8 (0 : BitVec 8))) (List.take 16 (List.drop 0 cs'))) ∧ (sameCells (List.take 16 (List.drop 0 as')) (List.take 16 (List.drop 0 cs')) = true → 16 ≤ List.length bs' ∧ 16 ≤ List.length ds' ∧ (fitCs (List.replicate 16 (AC.u8 (0 : BitVec 8))) (List.take 16 (List.drop 0 bs')) ∧ fitCs (List.replicate 16 (AC.u8 (0 : BitVec 8))) (List.take 16 (List.drop 0 ds'))) ∧ (sameCells (List.take 16 (List.drop 0 bs')) (List.take 16 (List.drop 0 ds')) = true → Q (AV.one (AC.b true)) []) ∧ (sameCells (List.take 16 (List.drop 0 bs')) (List.take 16 (List.drop 0 ds')) = false → Q (AV.one (AC.b false)) [])) ∧ (sameCells (List.take 16 (List.drop 0 as')) (List.take 16 (List.drop 0 cs')) = false → Q (AV.one (AC.b false)) [])) ∧ (sameCells (hide (List.map AC.u8 (dbN (List.map asU8 (List.take 16 (List.drop 0 bs)))))) (hide (List.map AC.u8 (dbN (List.map asU8 (List.take 16 (List.drop 0 bs)))))) = false → Q (AV.one (AC.b false)) [])) : KRun X 18 0 Q (kCut Try.f18 2) (mkS 37 [(3, .one (.ptr 0 0)), (5, .one (.ptr 1 0)), (6, .one (.ptr 2 0)), (7, .one (.ptr 3 0)), (8, .one (.ptr 4 0))]) [some bs, some as', some bs', some cs', some ds'] :=
  wpRun_ok (hX ▸ envC_ok T22 mf15 M15) (hX ▸ envC_call T22_ok M15_ok) (hX ▸ mixed) (hX ▸ ok18) LK_ok (cast (β := wpRun (envC T22 mf15 M15) [23, 27, 32] [(100002, 0), (200003, 0)] false (RS.mk Try.f18.results.toList 0 (CS.mk [] [] [] [])) (LK X 18 0 Q true [(3, LS.mk [3, 5, 6, 7, 8] (CS.mk [] [true, true, true, true, true] [] []))]) Q 2000 (kCut Try.f18 2) (mkS 37 [(3, .one (.ptr 0 0)), (5, .one (.ptr 1 0)), (6, .one (.ptr 2 0)), (7, .one (.ptr 3 0)), (8, .one (.ptr 4 0))]) [some bs, some as', some bs', some cs', some ds']) (by kernel_rfl) h)
set_option maxRecDepth 100000 in
theorem vc21 {X : Ctx} {Q : AV → Mem → Prop} (hX : X.P = Try.prog) (ks bs : List AC) (h : 16 ≤ List.length ks ∧ Flat (List.take 16 (List.drop 0 ks)) ∧ (allU8 (List.take 16 (List.drop 0 ks)) ∧ List.length (List.take 16 (List.drop 0 ks)) = 16) ∧ 16 ≤ List.length bs ∧ Flat (List.take 16 (List.drop 0 bs)) ∧ (allU8 (List.take 16 (List.drop 0 bs)) ∧ List.length (List.take 16 (List.drop 0 bs)) = 16) ∧ (fitCs (List.replicate 16 (AC.u8 (0 : BitVec 8))) (hide (List.map AC.u8 (dbN (List.map asU8 (List.take 16 (List.drop 0 ks)))))) ∧ fitCs (List.replicate 16 (AC.u8 (0 : BitVec 8))) (hide (List.map AC.u8 (dbN (List.map asU8 (List.take 16 (List.drop 0 bs))))))) ∧ 16 ≤ List.length ks ∧ 16 ≤ List.length bs ∧ (fitCs (List.replicate 16 (AC.u8 (0 : BitVec 8))) (List.take 16 (List.drop 0 ks)) ∧ fitCs (List.replicate 16 (AC.u8 (0 : BitVec 8))) (List.take 16 (List.drop 0 bs))) ∧ ((sameCells (hide (List.map AC.u8 (dbN (List.map asU8 (List.take 16 (List.drop 0 ks)))))) (hide (List.map AC.u8 (dbN (List.map asU8 (List.take 16 (List.drop 0 bs)))))) == sameCells (List.take 16 (List.drop 0 ks)) (List.take 16 (List.drop 0 bs))) = true → Q (AV.one (AC.b true)) []) ∧ ((sameCells (hide (List.map AC.u8 (dbN (List.map asU8 (List.take 16 (List.drop 0 ks)))))) (hide (List.map AC.u8 (dbN (List.map asU8 (List.take 16 (List.drop 0 bs)))))) == sameCells (List.take 16 (List.drop 0 ks)) (List.take 16 (List.drop 0 bs))) = false → Q (AV.one (AC.b false)) [])) : KRun X 21 0 Q ([.code (bodyOf Try.f21)]) (slots [.agg ks, .agg bs] Try.f21.ntmps) [] :=
  wpRun_ok (hX ▸ envC_ok T22 mf15 M15) (hX ▸ envC_call T22_ok M15_ok) (hX ▸ mixed) (hX ▸ ok21) LK_ok (cast (β := wpRun (envC T22 mf15 M15) [13] [(200001, 0)] false (RS.mk Try.f21.results.toList 0 (CS.mk [] [] [] [])) (LK X 21 0 Q true []) Q 2000 ([.code (bodyOf Try.f21)]) (slots [.agg ks, .agg bs] Try.f21.ntmps) []) (by kernel_rfl) h)
set_option maxRecDepth 100000 in
theorem vc22 {X : Ctx} {Q : AV → Mem → Prop} (hX : X.P = Try.prog) (ks row : List AC) (n : Nat) (h : 0 + n * 1 ≤ List.length row ∧ (decide ((300 : Int) < (↑n : Int)) = true → Q (AV.one (AC.b true)) []) ∧ (decide ((300 : Int) < (↑n : Int)) = false → 16 ≤ List.length ks ∧ 16 ≤ List.length ks ∧ Flat (List.take 16 (List.drop 0 ks)) ∧ 1 ≤ 1 ∧ 0 + n * 1 ≤ List.length row ∧ (allU8 (List.take 16 (List.drop 0 ks)) ∧ List.length (List.take 16 (List.drop 0 ks)) = 16 ∧ [AC.xs (List.take (n * 1) (List.drop 0 row)) 0 n] = List.map encP (List.map asP [AC.xs (List.take (n * 1) (List.drop 0 row)) 0 n]) ∧ 1 = 1 ∧ 1 ≤ 1000000) ∧ Flat (List.take 16 (List.drop 0 ks)) ∧ 0 + n * 1 ≤ List.length row ∧ (allU8 (List.take 16 (List.drop 0 ks)) ∧ List.length (List.take 16 (List.drop 0 ks)) = 16 ∧ allU8 (List.take (n * 1) (List.drop 0 row)) ∧ List.length (List.take (n * 1) (List.drop 0 row)) = n ∧ n ≤ 1000000) ∧ (fitCs (List.replicate 16 (AC.u8 (0 : BitVec 8))) (hide (List.map AC.u8 (cmF (List.map asU8 (List.take 16 (List.drop 0 ks))) (List.flatten (List.map asP [AC.xs (List.take (n * 1) (List.drop 0 row)) 0 n]))))) ∧ fitCs (List.replicate 16 (AC.u8 (0 : BitVec 8))) (hide (List.map AC.u8 (cmF (List.map asU8 (List.take 16 (List.drop 0 ks))) (List.map asU8 (List.take (n * 1) (List.drop 0 row))))))) ∧ (sameCells (hide (List.map AC.u8 (cmF (List.map asU8 (List.take 16 (List.drop 0 ks))) (List.flatten (List.map asP [AC.xs (List.take (n * 1) (List.drop 0 row)) 0 n]))))) (hide (List.map AC.u8 (cmF (List.map asU8 (List.take 16 (List.drop 0 ks))) (List.map asU8 (List.take (n * 1) (List.drop 0 row)))))) = true → 16 ≤ List.length ks ∧ 16 ≤ List.length ks ∧ Flat (List.take 16 (List.drop 0 ks)) ∧ 1 ≤ 1 ∧ 0 + n * 1 ≤ List.length row ∧ (allU8 (List.take 16 (List.drop 0 ks)) ∧ List.length (List.take 16 (List.drop 0 ks)) = 16 ∧ [AC.xs (List.take (n * 1) (List.drop 0 row)) 0 n] = List.map encP (List.map asP [AC.xs (List.take (n * 1) (List.drop 0 row)) 0 n]) ∧ 1 = 1 ∧ 1 ≤ 1000000) ∧ Flat (List.take 16 (List.drop 0 ks)) ∧ 0 + n * 1 ≤ List.length row ∧ (allU8 (List.take 16 (List.drop 0 ks)) ∧ List.length (List.take 16 (List.drop 0 ks)) = 16 ∧ allU8 (List.take (n * 1) (List.drop 0 row)) ∧ List.length (List.take (n * 1) (List.drop 0 row)) = n ∧ n ≤ 1000000) ∧ (fitCs (List.replicate 12 (AC.u8 (0 : BitVec 8))) (hide (List.map AC.u8 (sh12 (cmF (List.map asU8 (List.take 16 (List.drop 0 ks))) (List.flatten (List.map asP [AC.xs (List.take (n * 1) (List.drop 0 row)) 0 n])))))) ∧ fitCs (List.replicate 12 (AC.u8 (0 : BitVec 8))) (hide (List.map AC.u8 (sh12 (cmF (List.map asU8 (List.take 16 (List.drop 0 ks))) (List.map asU8 (List.take (n * 1) (List.drop 0 row)))))))) ∧ (sameCells (hide (List.map AC.u8 (sh12 (cmF (List.map asU8 (List.take 16 (List.drop 0 ks))) (List.flatten (List.map asP [AC.xs (List.take (n * 1) (List.drop 0 row)) 0 n])))))) (hide (List.map AC.u8 (sh12 (cmF (List.map asU8 (List.take 16 (List.drop 0 ks))) (List.map asU8 (List.take (n * 1) (List.drop 0 row))))))) = true → Q (AV.one (AC.b true)) []) ∧ (sameCells (hide (List.map AC.u8 (sh12 (cmF (List.map asU8 (List.take 16 (List.drop 0 ks))) (List.flatten (List.map asP [AC.xs (List.take (n * 1) (List.drop 0 row)) 0 n])))))) (hide (List.map AC.u8 (sh12 (cmF (List.map asU8 (List.take 16 (List.drop 0 ks))) (List.map asU8 (List.take (n * 1) (List.drop 0 row))))))) = false → Q (AV.one (AC.b false)) [])) ∧ (sameCells (hide (List.map AC.u8 (cmF (List.map asU8 (List.take 16 (List.drop 0 ks))) (List.flatten (List.map asP [AC.xs (List.take (n * 1) (List.drop 0 row)) 0 n]))))) (hide (List.map AC.u8 (cmF (List.map asU8 (List.take 16 (List.drop 0 ks))) (List.map asU8 (List.take (n * 1) (List.drop 0 row)))))) = false → Q (AV.one (AC.b false)) []))) : KRun X 22 0 Q ([.code (bodyOf Try.f22)]) (slots [.agg ks, .one (.xs row 0 n)] Try.f22.ntmps) [] :=
  wpRun_ok (hX ▸ envC_ok T22 mf15 M15) (hX ▸ envC_call T22_ok M15_ok) (hX ▸ mixed) (hX ▸ ok22) LK_ok (cast (β := wpRun (envC T22 mf15 M15) [6, 15, 24] [(3, 2), (200003, 0)] false (RS.mk Try.f22.results.toList 0 (CS.mk [] [] [] [])) (LK X 22 0 Q true []) Q 2000 ([.code (bodyOf Try.f22)]) (slots [.agg ks, .one (.xs row 0 n)] Try.f22.ntmps) []) (by kernel_rfl) h)

theorem fit12 {l : List (BitVec 8)} (h : l.length = 12) : fitCs (List.replicate 12 (AC.u8 0)) (l.map AC.u8) := by
  have := fit_u8 l
  rw [h] at this
  exact this
theorem pe1 (x : List (BitVec 8)) : List.map encP [x] = [AC.xs (x.map AC.u8) 0 x.length] := rfl
theorem fl1 (b : List (BitVec 8)) : [b].flatten = b := by simp
theorem s18 (key b : List (BitVec 8)) (hk : key.length = 16) (hb : b.length = 16) : Spec Try.prog 18 [.agg (key.map AC.u8), .agg (b.map AC.u8)] [] Fin := by
  refine Spec.of_run ok18 fun X hX => vc18 hX _ _ ?_
  have z : Flat (List.replicate 16 (AC.u8 0)) := by rw [mrep]; exact flat_u8 _
  have ek : key.take 16 = key := List.take_of_length_le (by omega)
  have eb : b.take 16 = b := List.take_of_length_le (by omega)
  have l1 := k1_len key
  have l2 := k2_len key
  have ld := dbN_len b
  have t1 : (k1F key).take 16 = k1F key := List.take_of_length_le (by omega)
  have t2 : (k2F key).take 16 = k2F key := List.take_of_length_le (by omega)
  have e1 : layS (List.replicate 16 (AC.u8 0)) 0 ((k1F key).map AC.u8) = (k1F key).map AC.u8 := layR _ _ l1
  have e2 : layS (List.replicate 16 (AC.u8 0)) 0 ((k2F key).map AC.u8) = (k2F key).map AC.u8 := layR _ _ l2
  have K : KRun X 18 0 Fin (kCut Try.f18 2) (mkS 37 [(3, .one (.ptr 0 0)), (5, .one (.ptr 1 0)), (6, .one (.ptr 2 0)), (7, .one (.ptr 3 0)), (8, .one (.ptr 4 0))]) [some (b.map AC.u8), some ((k1F key).map AC.u8), some ((k2F key).map AC.u8), some ((k1F key).map AC.u8), some ((k2F key).map AC.u8)] := by
    refine vc18b hX _ _ _ _ _ ?_
    simp only [hide_eq, tkm, tk0, List.drop_zero, eb, t1, t2, map_as8, same_self, List.length_map, hb, l1, l2, ld, Bool.true_eq_false, false_implies, true_implies]
    clear ek eb t1 t2 e1 e2
    generalize k1F key = a1 at *
    generalize k2F key = a2 at *
    generalize dbN b = d at *
    (repeat' (first | exact fin | exact trivial | exact allU8_map _ | exact flat_u8 _ | exact flatA _ | exact z | exact fitE (by assumption) | exact fit12 (by assumption) | exact Nat.le_refl _ | refine And.intro ?_ ?_ | (intro h; first | (cases h; done) | skip))) <;> first | omega | skip
  simp only [hide_eq, tkm, tk0, List.drop_zero, ek, map_as8, e1, e2, List.length_map, hk, l1, l2]
  clear ek eb t1 t2 e1 e2
  generalize k1F key = a1 at *
  generalize k2F key = a2 at *
  (repeat' (first | exact fin | exact trivial | exact allU8_map _ | exact flat_u8 _ | exact flatA _ | exact z | exact fitE (by assumption) | exact fit12 (by assumption) | exact Nat.le_refl _ | refine And.intro ?_ ?_ | (intro h; first | (cases h; done) | skip))) <;> first | omega | skip
  exact ⟨K⟩
theorem s21 (a b : List (BitVec 8)) (ha : a.length = 16) (hb : b.length = 16) : Spec Try.prog 21 [.agg (a.map AC.u8), .agg (b.map AC.u8)] [] Fin := by
  refine Spec.of_run ok21 fun X hX => vc21 hX _ _ ?_
  have z : Flat (List.replicate 16 (AC.u8 0)) := by rw [mrep]; exact flat_u8 _
  have ea : a.take 16 = a := List.take_of_length_le (by omega)
  have eb : b.take 16 = b := List.take_of_length_le (by omega)
  have l1 := dbN_len a
  have l2 := dbN_len b
  have e3 : (decide (dbN a = dbN b) == decide (a = b)) = true := by
    have : decide (dbN a = dbN b) = decide (a = b) := decide_eq_decide.2 ⟨dbN_inj ha hb, fun h => by rw [h]⟩
    rw [this]
    exact beq_self_eq_true _
  simp only [hide_eq, tkm, tk0, List.drop_zero, ea, eb, map_as8, same_u8, e3, List.length_map, ha, hb, Bool.true_eq_false, false_implies, true_implies]
  clear ea eb e3
  generalize dbN a = a1 at *
  generalize dbN b = a2 at *
  (repeat' (first | exact fin | exact trivial | exact allU8_map _ | exact flat_u8 _ | exact flatA _ | exact z | exact fitE (by assumption) | exact fit12 (by assumption) | exact Nat.le_refl _ | refine And.intro ?_ ?_ | (intro h; first | (cases h; done) | skip))) <;> first | omega | skip
theorem s22 (key m : List (BitVec 8)) (hk : key.length = 16) : Spec Try.prog 22 [.agg (key.map AC.u8), .one (.xs (m.map AC.u8) 0 m.length)] [] Fin := by
  refine Spec.of_run ok22 fun X hX => vc22 hX _ _ _ ?_
  have z : Flat (List.replicate 16 (AC.u8 0)) := by rw [mrep]; exact flat_u8 _
  have ek : key.take 16 = key := List.take_of_length_le (by omega)
  have hc := cmF_len key m
  have h12 := sh12_len hc
  rw [tk m]
  refine ⟨by rw [List.length_map]; omega, fun _ => fin, fun h => ?_⟩
  have h := of_decide_eq_false h
  have hm : m.length ≤ 1000000 := by omega
  simp only [hide_eq, tkm, tk0, List.drop_zero, ek, map_as8, asP1, pe1, fl1, same_self, List.length_map, hk, Bool.true_eq_false, false_implies, true_implies]
  clear ek
  generalize sh12 (cmF key m) = a2 at *
  generalize cmF key m = a1 at *
  (repeat' (first | exact fin | exact trivial | exact allU8_map _ | exact flat_u8 _ | exact flatA _ | exact z | exact fitE (by assumption) | exact fit12 (by assumption) | exact Nat.le_refl _ | refine And.intro ?_ ?_ | (intro h; first | (cases h; done) | skip))) <;> first | omega | skip
set_option maxRecDepth 100000 in
theorem vc19 {X : Ctx} {Q : AV → Mem → Prop} (hX : X.P = Try.prog) (ks row : List AC) (n : Nat) (h : (decide ((10 : Int) < (↑n : Int)) = true → Q (AV.one (AC.b true)) []) ∧ (decide ((10 : Int) < (↑n : Int)) = false → Flat ks ∧ Flat [] ∧ KR X 19 0 Q (kOf Try.f19 0) (mkS 37 [(1, AV.one (AC.xs row 0 n)), (2, AV.one (AC.ptr 0 0)), (5, AV.one (AC.gs 1 0 1)), (12, AV.one (AC.xs row 0 n)), (13, AV.one (AC.i64 (↑n : Int))), (14, AV.one (AC.i64 (0 : Int)))]) [some ks, some []])) : KRun X 19 0 Q ([.code (bodyOf Try.f19)]) (slots [.agg ks, .one (.xs row 0 n)] Try.f19.ntmps) [] :=
  wpRun_ok (hX ▸ envC_ok T22 mf15 M15) (hX ▸ envC_call T22_ok M15_ok) (hX ▸ mixed) (hX ▸ ok19) LK_ok (cast (β := wpRun (envC T22 mf15 M15) [10, 15, 20, 33] [(11, 5), (200011, 0)] false (RS.mk Try.f19.results.toList 0 (CS.mk [] [] [] [])) (LK X 19 0 Q true [(5, LS.mk [1, 2, 5, 12, 13, 14] (CS.mk [(5, 2)] [true, true] [] []))]) Q 2000 ([.code (bodyOf Try.f19)]) (slots [.agg ks, .one (.xs row 0 n)] Try.f19.ntmps) []) (by kernel_rfl) h)
set_option maxRecDepth 100000 in
theorem vc19a {X : Ctx} {Q : AV → Mem → Prop} (hX : X.P = Try.prog) (ks row ar : List AC) (n k : Nat) (i : Int) (h : (decide (i < (↑n : Int)) = true → ((0 : Int) ≤ i ∧ i < (↑n : Int)) ∧ gt AC.any row (0 + Int.toNat i * 1) = AC.xs (xsRow (gt AC.any row (0 + Int.toNat i * 1))) (xsOff (gt AC.any row (0 + Int.toNat i * 1))) (xsLen (gt AC.any row (0 + Int.toNat i * 1))) ∧ (decide ((60 : Int) < (↑(xsLen (gt AC.any row (0 + Int.toNat i * 1))) : Int)) = true → Q (AV.one (AC.b true)) []) ∧ (decide ((60 : Int) < (↑(xsLen (gt AC.any row (0 + Int.toNat i * 1))) : Int)) = false → xsOff (gt AC.any row (0 + Int.toNat i * 1)) + xsLen (gt AC.any row (0 + Int.toNat i * 1)) * 1 ≤ List.length (xsRow (gt AC.any row (0 + Int.toNat i * 1))) ∧ ((k + xsLen (gt AC.any row (0 + Int.toNat i * 1))) * 1 ≤ 140737488355328 ∧ k + xsLen (gt AC.any row (0 + Int.toNat i * 1)) ≤ 4611686018427387904) ∧ List.length ar = k * 1 ∧ in64 (i + (1 : Int)) ∧ Flat ks ∧ Flat (ar ++ List.take (xsLen (gt AC.any row (0 + Int.toNat i * 1)) * 1) (List.drop (xsOff (gt AC.any row (0 + Int.toNat i * 1))) (xsRow (gt AC.any row (0 + Int.toNat i * 1))))) ∧ KR X 19 0 Q (kOf Try.f19 0) (mkS 37 [(1, AV.one (AC.xs row 0 n)), (2, AV.one (AC.ptr 0 0)), (5, AV.one (AC.gs 1 (k + xsLen (gt AC.any row (0 + Int.toNat i * 1))) 1)), (12, AV.one (AC.xs row 0 n)), (13, AV.one (AC.i64 (↑n : Int))), (14, AV.one (AC.i64 (i + (1 : Int))))]) [some ks, some (ar ++ List.take (xsLen (gt AC.any row (0 + Int.toNat i * 1)) * 1) (List.drop (xsOff (gt AC.any row (0 + Int.toNat i * 1))) (xsRow (gt AC.any row (0 + Int.toNat i * 1)))))])) ∧ (decide (i < (↑n : Int)) = false → 16 ≤ List.length ks ∧ Flat (List.take 16 (List.drop 0 ks)) ∧ 0 + n * 1 ≤ List.length row ∧ (allU8 (List.take 16 (List.drop 0 ks)) ∧ List.length (List.take 16 (List.drop 0 ks)) = 16 ∧ List.take (n * 1) (List.drop 0 row) = List.map encP (List.map asP (List.take (n * 1) (List.drop 0 row))) ∧ List.length (List.take (n * 1) (List.drop 0 row)) = n ∧ n ≤ 1000000) ∧ 16 ≤ List.length ks ∧ Flat (List.take 16 (List.drop 0 ks)) ∧ 1 ≤ 1 ∧ 0 + k * 1 ≤ List.length ar ∧ Flat (List.take (k * 1) (List.drop 0 ar)) ∧ (allU8 (List.take 16 (List.drop 0 ks)) ∧ List.length (List.take 16 (List.drop 0 ks)) = 16 ∧ [AC.xs (List.take (k * 1) (List.drop 0 ar)) 0 k] = List.map encP (List.map asP [AC.xs (List.take (k * 1) (List.drop 0 ar)) 0 k]) ∧ 1 = 1 ∧ 1 ≤ 1000000) ∧ (fitCs (List.replicate 16 (AC.u8 (0 : BitVec 8))) (hide (List.map AC.u8 (cmF (List.map asU8 (List.take 16 (List.drop 0 ks))) (List.flatten (List.map asP (List.take (n * 1) (List.drop 0 row))))))) ∧ fitCs (List.replicate 16 (AC.u8 (0 : BitVec 8))) (hide (List.map AC.u8 (cmF (List.map asU8 (List.take 16 (List.drop 0 ks))) (List.flatten (List.map asP [AC.xs (List.take (k * 1) (List.drop 0 ar)) 0 k])))))) ∧ (sameCells (hide (List.map AC.u8 (cmF (List.map asU8 (List.take 16 (List.drop 0 ks))) (List.flatten (List.map asP (List.take (n * 1) (List.drop 0 row))))))) (hide (List.map AC.u8 (cmF (List.map asU8 (List.take 16 (List.drop 0 ks))) (List.flatten (List.map asP [AC.xs (List.take (k * 1) (List.drop 0 ar)) 0 k]))))) = true → Q (AV.one (AC.b true)) []) ∧ (sameCells (hide (List.map AC.u8 (cmF (List.map asU8 (List.take 16 (List.drop 0 ks))) (List.flatten (List.map asP (List.take (n * 1) (List.drop 0 row))))))) (hide (List.map AC.u8 (cmF (List.map asU8 (List.take 16 (List.drop 0 ks))) (List.flatten (List.map asP [AC.xs (List.take (k * 1) (List.drop 0 ar)) 0 k]))))) = false → Q (AV.one (AC.b false)) []))) : KRun X 19 0 Q (kOf Try.f19 0) (mkS 37 [(1, .one (.xs row 0 n)), (2, .one (.ptr 0 0)), (5, .one (.gs 1 k 1)), (12, .one (.xs row 0 n)), (13, .one (.i64 n)), (14, .one (.i64 i))]) [some ks, some ar] :=
  wpRun_ok (hX ▸ envC_ok T22 mf15 M15) (hX ▸ envC_call T22_ok M15_ok) (hX ▸ mixed) (hX ▸ ok19) LK_ok (cast (β := wpRun (envC T22 mf15 M15) [10, 15, 20, 33] [(11, 5), (200011, 0)] false (RS.mk Try.f19.results.toList 0 (CS.mk [] [] [] [])) (LK X 19 0 Q true [(5, LS.mk [1, 2, 5, 12, 13, 14] (CS.mk [(5, 2)] [true, true] [] []))]) Q 2000 (kOf Try.f19 0) (mkS 37 [(1, .one (.xs row 0 n)), (2, .one (.ptr 0 0)), (5, .one (.gs 1 k 1)), (12, .one (.xs row 0 n)), (13, .one (.i64 n)), (14, .one (.i64 i))]) [some ks, some ar]) (by kernel_rfl) h)
set_option maxRecDepth 100000 in
theorem vc20 {X : Ctx} {Q : AV → Mem → Prop} (hX : X.P = Try.prog) (ks row : List AC) (n : Nat) (h : 0 + n * 1 ≤ List.length row ∧ (decide ((300 : Int) < (↑n : Int)) = true → Q (AV.one (AC.b true)) []) ∧ (decide ((300 : Int) < (↑n : Int)) = false → (decide ((0 : Int) < (↑n : Int)) = true → (16 : Int) ≠ (0 : Int) ∧ (decide (Int.tmod (↑n : Int) (16 : Int) = (0 : Int)) = true → Q (AV.one (AC.b true)) []) ∧ (decide (Int.tmod (↑n : Int) (16 : Int) = (0 : Int)) = false → 16 ≤ List.length ks ∧ Flat (List.take 16 (List.drop 0 ks)) ∧ (allU8 (List.take 16 (List.drop 0 ks)) ∧ List.length (List.take 16 (List.drop 0 ks)) = 16) ∧ (List.length (hide (List.map AC.u8 (k1F (List.map asU8 (List.take 16 (List.drop 0 ks)))))) = 16 ∧ 16 ≤ 16) ∧ (List.length (hide (List.map AC.u8 (k2F (List.map asU8 (List.take 16 (List.drop 0 ks)))))) = 16 ∧ 16 ≤ 16) ∧ 0 + n * 1 ≤ List.length row ∧ (n * 1 ≤ 140737488355328 ∧ n ≤ 4611686018427387904) ∧ 1 ≤ 1 ∧ ((n + 1) * 1 ≤ 140737488355328 ∧ n + 1 ≤ 4611686018427387904) ∧ List.length (List.take (n * 1) (List.drop 0 row)) = n * 1 ∧ Flat ks ∧ Flat (layS (List.replicate 16 (AC.u8 (0 : BitVec 8))) 0 (hide (List.map AC.u8 (k1F (List.map asU8 (List.take 16 (List.drop 0 ks))))))) ∧ Flat (layS (List.replicate 16 (AC.u8 (0 : BitVec 8))) 0 (hide (List.map AC.u8 (k2F (List.map asU8 (List.take 16 (List.drop 0 ks))))))) ∧ Flat (List.take (n * 1) (List.drop 0 row) ++ List.take 1 (List.drop 0 [cvC (Value.int IntKind.u8 (128 : Int))])) ∧ KR X 20 0 Q (kOf Try.f20 0) (mkS 72 [(1, AV.one (AC.xs row 0 n)), (2, AV.one (AC.ptr 0 0)), (5, AV.one (AC.ptr 1 0)), (6, AV.one (AC.ptr 2 0)), (7, AV.one (AC.gs 3 (n + 1) 1))]) [some ks, some (layS (List.replicate 16 (AC.u8 (0 : BitVec 8))) 0 (hide (List.map AC.u8 (k1F (List.map asU8 (List.take 16 (List.drop 0 ks))))))), some (layS (List.replicate 16 (AC.u8 (0 : BitVec 8))) 0 (hide (List.map AC.u8 (k2F (List.map asU8 (List.take 16 (List.drop 0 ks))))))), some (List.take (n * 1) (List.drop 0 row) ++ List.take 1 (List.drop 0 [cvC (Value.int IntKind.u8 (128 : Int))]))])) ∧ (decide ((0 : Int) < (↑n : Int)) = false → 16 ≤ List.length ks ∧ Flat (List.take 16 (List.drop 0 ks)) ∧ (allU8 (List.take 16 (List.drop 0 ks)) ∧ List.length (List.take 16 (List.drop 0 ks)) = 16) ∧ (List.length (hide (List.map AC.u8 (k1F (List.map asU8 (List.take 16 (List.drop 0 ks)))))) = 16 ∧ 16 ≤ 16) ∧ (List.length (hide (List.map AC.u8 (k2F (List.map asU8 (List.take 16 (List.drop 0 ks)))))) = 16 ∧ 16 ≤ 16) ∧ 0 + n * 1 ≤ List.length row ∧ (n * 1 ≤ 140737488355328 ∧ n ≤ 4611686018427387904) ∧ 1 ≤ 1 ∧ ((n + 1) * 1 ≤ 140737488355328 ∧ n + 1 ≤ 4611686018427387904) ∧ List.length (List.take (n * 1) (List.drop 0 row)) = n * 1 ∧ Flat ks ∧ Flat (layS (List.replicate 16 (AC.u8 (0 : BitVec 8))) 0 (hide (List.map AC.u8 (k1F (List.map asU8 (List.take 16 (List.drop 0 ks))))))) ∧ Flat (layS (List.replicate 16 (AC.u8 (0 : BitVec 8))) 0 (hide (List.map AC.u8 (k2F (List.map asU8 (List.take 16 (List.drop 0 ks))))))) ∧ Flat (List.take (n * 1) (List.drop 0 row) ++ List.take 1 (List.drop 0 [cvC (Value.int IntKind.u8 (128 : Int))])) ∧ KR X 20 0 Q (kOf Try.f20 0) (mkS 72 [(1, AV.one (AC.xs row 0 n)), (2, AV.one (AC.ptr 0 0)), (5, AV.one (AC.ptr 1 0)), (6, AV.one (AC.ptr 2 0)), (7, AV.one (AC.gs 3 (n + 1) 1))]) [some ks, some (layS (List.replicate 16 (AC.u8 (0 : BitVec 8))) 0 (hide (List.map AC.u8 (k1F (List.map asU8 (List.take 16 (List.drop 0 ks))))))), some (layS (List.replicate 16 (AC.u8 (0 : BitVec 8))) 0 (hide (List.map AC.u8 (k2F (List.map asU8 (List.take 16 (List.drop 0 ks))))))), some (List.take (n * 1) (List.drop 0 row) ++ List.take 1 (List.drop 0 [cvC (Value.int IntKind.u8 (128 : Int))]))]))) : KRun X 20 0 Q ([.code (bodyOf Try.f20)]) (slots [.agg ks, .one (.xs row 0 n)] Try.f20.ntmps) [] :=
  wpRun_ok (hX ▸ envC_ok T22 mf15 M15) (hX ▸ envC_call T22_ok M15_ok) (hX ▸ mixed) (hX ▸ ok20) LK_ok (cast (β := wpRun (envC T22 mf15 M15) [10, 14, 19, 35, 40, 68] [(10, 17), (12, 2), (200010, 0), (200012, 0)] false (RS.mk Try.f20.results.toList 0 (CS.mk [] [] [] [])) (LK X 20 0 Q true [(5, LS.mk [1, 2, 5, 6, 7] (CS.mk [] [true, true, true, true] [] [])), (8, LS.mk [1, 2, 5, 6, 7, 39] (CS.mk [] [true, true, true, true] [] []))]) Q 2000 ([.code (bodyOf Try.f20)]) (slots [.agg ks, .one (.xs row 0 n)] Try.f20.ntmps) []) (by kernel_rfl) h)
set_option maxRecDepth 100000 in
theorem vc20a {X : Ctx} {Q : AV → Mem → Prop} (hX : X.P = Try.prog) (ks as' bs' row ar : List AC) (n k : Nat) (h : (16 : Int) ≠ (0 : Int) ∧ ((!decide (Int.tmod (↑k : Int) (16 : Int) = (0 : Int))) = true → 1 ≤ 1 ∧ ((k + 1) * 1 ≤ 140737488355328 ∧ k + 1 ≤ 4611686018427387904) ∧ List.length ar = k * 1 ∧ Flat ks ∧ Flat as' ∧ Flat bs' ∧ Flat (ar ++ List.take 1 (List.drop 0 [cvC (Value.int IntKind.u8 (0 : Int))])) ∧ KR X 20 0 Q (kOf Try.f20 0) (mkS 72 [(1, AV.one (AC.xs row 0 n)), (2, AV.one (AC.ptr 0 0)), (5, AV.one (AC.ptr 1 0)), (6, AV.one (AC.ptr 2 0)), (7, AV.one (AC.gs 3 (k + 1) 1))]) [some ks, some as', some bs', some (ar ++ List.take 1 (List.drop 0 [cvC (Value.int IntKind.u8 (0 : Int))]))]) ∧ ((!decide (Int.tmod (↑k : Int) (16 : Int) = (0 : Int))) = false → Flat ks ∧ Flat as' ∧ Flat bs' ∧ Flat ar ∧ KR X 20 0 Q (kOf Try.f20 1) (mkS 72 [(1, AV.one (AC.xs row 0 n)), (2, AV.one (AC.ptr 0 0)), (5, AV.one (AC.ptr 1 0)), (6, AV.one (AC.ptr 2 0)), (7, AV.one (AC.gs 3 k 1)), (39, AV.one (AC.i64 (0 : Int)))]) [some ks, some as', some bs', some ar])) : KRun X 20 0 Q (kOf Try.f20 0) (mkS 72 [(1, .one (.xs row 0 n)), (2, .one (.ptr 0 0)), (5, .one (.ptr 1 0)), (6, .one (.ptr 2 0)), (7, .one (.gs 3 k 1))]) [some ks, some as', some bs', some ar] :=
  wpRun_ok (hX ▸ envC_ok T22 mf15 M15) (hX ▸ envC_call T22_ok M15_ok) (hX ▸ mixed) (hX ▸ ok20) LK_ok (cast (β := wpRun (envC T22 mf15 M15) [10, 14, 19, 35, 40, 68] [(10, 17), (12, 2), (200010, 0), (200012, 0)] false (RS.mk Try.f20.results.toList 0 (CS.mk [] [] [] [])) (LK X 20 0 Q true [(5, LS.mk [1, 2, 5, 6, 7] (CS.mk [] [true, true, true, true] [] [])), (8, LS.mk [1, 2, 5, 6, 7, 39] (CS.mk [] [true, true, true, true] [] []))]) Q 2000 (kOf Try.f20 0) (mkS 72 [(1, .one (.xs row 0 n)), (2, .one (.ptr 0 0)), (5, .one (.ptr 1 0)), (6, .one (.ptr 2 0)), (7, .one (.gs 3 k 1))]) [some ks, some as', some bs', some ar]) (by kernel_rfl) h)
set_option maxRecDepth 100000 in
theorem vc20b {X : Ctx} {Q : AV → Mem → Prop} (hX : X.P = Try.prog) (ks as' bs' row ar : List AC) (n k : Nat) (i : Int) (h : (decide (i < (16 : Int)) = true → in64 ((↑k : Int) - (16 : Int)) ∧ in64 ((↑k : Int) - (16 : Int) + i) ∧ ((0 : Int) ≤ (↑k : Int) - (16 : Int) + i ∧ (↑k : Int) - (16 : Int) + i < (↑k : Int)) ∧ gt AC.any ar (0 + Int.toNat ((↑k : Int) - (16 : Int) + i) * 1) = AC.u8 (asU8 (gt AC.any ar (0 + Int.toNat ((↑k : Int) - (16 : Int) + i) * 1))) ∧ ((0 : Int) ≤ i ∧ i < (↑16 : Int)) ∧ gt AC.any as' (0 + Int.toNat i * 1) = AC.u8 (asU8 (gt AC.any as' (0 + Int.toNat i * 1))) ∧ ((0 : Int) ≤ i ∧ i < (↑16 : Int)) ∧ gt AC.any bs' (0 + Int.toNat i * 1) = AC.u8 (asU8 (gt AC.any bs' (0 + Int.toNat i * 1))) ∧ ((0 : Int) ≤ (↑k : Int) - (16 : Int) + i ∧ (↑k : Int) - (16 : Int) + i < (↑k : Int)) ∧ (1 = 1 ∧ 0 + Int.toNat ((↑k : Int) - (16 : Int) + i) * 1 + 1 ≤ List.length ar) ∧ in64 (i + (1 : Int)) ∧ Flat ks ∧ Flat as' ∧ Flat bs' ∧ Flat (layS ar (0 + Int.toNat ((↑k : Int) - (16 : Int) + i) * 1) [AC.u8 (asU8 (gt AC.any ar (0 + Int.toNat ((↑k : Int) - (16 : Int) + i) * 1)) ^^^ (asU8 (gt AC.any as' (0 + Int.toNat i * 1)) ^^^ asU8 (gt AC.any bs' (0 + Int.toNat i * 1))))]) ∧ KR X 20 0 Q (kOf Try.f20 1) (mkS 72 [(1, AV.one (AC.xs row 0 n)), (2, AV.one (AC.ptr 0 0)), (5, AV.one (AC.ptr 1 0)), (6, AV.one (AC.ptr 2 0)), (7, AV.one (AC.gs 3 k 1)), (39, AV.one (AC.i64 (i + (1 : Int))))]) [some ks, some as', some bs', some (layS ar (0 + Int.toNat ((↑k : Int) - (16 : Int) + i) * 1) [AC.u8 (asU8 (gt AC.any ar (0 + Int.toNat ((↑k : Int) - (16 : Int) + i) * 1)) ^^^ (asU8 (gt AC.any as' (0 + Int.toNat i * 1)) ^^^ asU8 (gt AC.any bs' (0 + Int.toNat i * 1))))])]) ∧ (decide (i < (16 : Int)) = false → 16 ≤ List.length ks ∧ 16 ≤ List.length ks ∧ (Flat (List.take 16 (List.drop 0 ks)) ∧ 1 ≤ 1 ∧ 0 + k * 1 ≤ List.length ar ∧ Flat (List.take (k * 1) (List.drop 0 ar)) ∧ (allU8 (List.take 16 (List.drop 0 ks)) ∧ List.length (List.take 16 (List.drop 0 ks)) = 16 ∧ [AC.xs (List.take (k * 1) (List.drop 0 ar)) 0 k] = List.map encP (List.map asP [AC.xs (List.take (k * 1) (List.drop 0 ar)) 0 k]) ∧ 1 = 1 ∧ 1 ≤ 1000000) ∧ Flat (List.take 16 (List.drop 0 ks)) ∧ 1 ≤ 1 ∧ 0 + n * 1 ≤ List.length row ∧ (allU8 (List.take 16 (List.drop 0 ks)) ∧ List.length (List.take 16 (List.drop 0 ks)) = 16 ∧ [AC.xs (List.take (n * 1) (List.drop 0 row)) 0 n] = List.map encP (List.map asP [AC.xs (List.take (n * 1) (List.drop 0 row)) 0 n]) ∧ 1 = 1 ∧ 1 ≤ 1000000) ∧ (fitCs (List.replicate 16 (AC.u8 (0 : BitVec 8))) (hide (List.map AC.u8 (cmF (List.map asU8 (List.take 16 (List.drop 0 ks))) (List.flatten (List.map asP [AC.xs (List.take (k * 1) (List.drop 0 ar)) 0 k]))))) ∧ fitCs (List.replicate 16 (AC.u8 (0 : BitVec 8))) (hide (List.map AC.u8 (cmF (List.map asU8 (List.take 16 (List.drop 0 ks))) (List.flatten (List.map asP [AC.xs (List.take (n * 1) (List.drop 0 row)) 0 n])))))) ∧ (sameCells (hide (List.map AC.u8 (cmF (List.map asU8 (List.take 16 (List.drop 0 ks))) (List.flatten (List.map asP [AC.xs (List.take (k * 1) (List.drop 0 ar)) 0 k]))))) (hide (List.map AC.u8 (cmF (List.map asU8 (List.take 16 (List.drop 0 ks))) (List.flatten (List.map asP [AC.xs (List.take (n * 1) (List.drop 0 row)) 0 n]))))) = true → Q (AV.one (AC.b true)) []) ∧ (sameCells (hide (List.map AC.u8 (cmF (List.map asU8 (List.take 16 (List.drop 0 ks))) (List.flatten (List.map asP [AC.xs (List.take (k * 1) (List.drop 0 ar)) 0 k]))))) (hide (List.map AC.u8 (cmF (List.map asU8 (List.take 16 (List.drop 0 ks))) (List.flatten (List.map asP [AC.xs (List.take (n * 1) (List.drop 0 row)) 0 n]))))) = false → Q (AV.one (AC.b false)) [])) ∧ Flat (List.take 16 (List.drop 0 ks)) ∧ 1 ≤ 1 ∧ 0 + k * 1 ≤ List.length ar ∧ Flat (List.take (k * 1) (List.drop 0 ar)) ∧ (allU8 (List.take 16 (List.drop 0 ks)) ∧ List.length (List.take 16 (List.drop 0 ks)) = 16 ∧ [AC.xs (List.take (k * 1) (List.drop 0 ar)) 0 k] = List.map encP (List.map asP [AC.xs (List.take (k * 1) (List.drop 0 ar)) 0 k]) ∧ 1 = 1 ∧ 1 ≤ 1000000) ∧ Flat (List.take 16 (List.drop 0 ks)) ∧ 1 ≤ 1 ∧ 0 + n * 1 ≤ List.length row ∧ (allU8 (List.take 16 (List.drop 0 ks)) ∧ List.length (List.take 16 (List.drop 0 ks)) = 16 ∧ [AC.xs (List.take (n * 1) (List.drop 0 row)) 0 n] = List.map encP (List.map asP [AC.xs (List.take (n * 1) (List.drop 0 row)) 0 n]) ∧ 1 = 1 ∧ 1 ≤ 1000000) ∧ (fitCs (List.replicate 16 (AC.u8 (0 : BitVec 8))) (hide (List.map AC.u8 (cmF (List.map asU8 (List.take 16 (List.drop 0 ks))) (List.flatten (List.map asP [AC.xs (List.take (k * 1) (List.drop 0 ar)) 0 k]))))) ∧ fitCs (List.replicate 16 (AC.u8 (0 : BitVec 8))) (hide (List.map AC.u8 (cmF (List.map asU8 (List.take 16 (List.drop 0 ks))) (List.flatten (List.map asP [AC.xs (List.take (n * 1) (List.drop 0 row)) 0 n])))))) ∧ (sameCells (hide (List.map AC.u8 (cmF (List.map asU8 (List.take 16 (List.drop 0 ks))) (List.flatten (List.map asP [AC.xs (List.take (k * 1) (List.drop 0 ar)) 0 k]))))) (hide (List.map AC.u8 (cmF (List.map asU8 (List.take 16 (List.drop 0 ks))) (List.flatten (List.map asP [AC.xs (List.take (n * 1) (List.drop 0 row)) 0 n]))))) = true → Q (AV.one (AC.b true)) []) ∧ (sameCells (hide (List.map AC.u8 (cmF (List.map asU8 (List.take 16 (List.drop 0 ks))) (List.flatten (List.map asP [AC.xs (List.take (k * 1) (List.drop 0 ar)) 0 k]))))) (hide (List.map AC.u8 (cmF (List.map asU8 (List.take 16 (List.drop 0 ks))) (List.flatten (List.map asP [AC.xs (List.take (n * 1) (List.drop 0 row)) 0 n]))))) = false → Q (AV.one (AC.b false)) []))) : KRun X 20 0 Q (kOf Try.f20 1) (mkS 72 [(1, .one (.xs row 0 n)), (2, .one (.ptr 0 0)), (5, .one (.ptr 1 0)), (6, .one (.ptr 2 0)), (7, .one (.gs 3 k 1)), (39, .one (.i64 i))]) [some ks, some as', some bs', some ar] :=
  wpRun_ok (hX ▸ envC_ok T22 mf15 M15) (hX ▸ envC_call T22_ok M15_ok) (hX ▸ mixed) (hX ▸ ok20) LK_ok (cast (β := wpRun (envC T22 mf15 M15) [10, 14, 19, 35, 40, 68] [(10, 17), (12, 2), (200010, 0), (200012, 0)] false (RS.mk Try.f20.results.toList 0 (CS.mk [] [] [] [])) (LK X 20 0 Q true [(5, LS.mk [1, 2, 5, 6, 7] (CS.mk [] [true, true, true, true] [] [])), (8, LS.mk [1, 2, 5, 6, 7, 39] (CS.mk [] [true, true, true, true] [] []))]) Q 2000 (kOf Try.f20 1) (mkS 72 [(1, .one (.xs row 0 n)), (2, .one (.ptr 0 0)), (5, .one (.ptr 1 0)), (6, .one (.ptr 2 0)), (7, .one (.gs 3 k 1)), (39, .one (.i64 i))]) [some ks, some as', some bs', some ar]) (by kernel_rfl) h)

theorem s19 (key : List (BitVec 8)) (hk : key.length = 16) (ps : List (List (BitVec 8))) : Spec Try.prog 19 [.agg (key.map AC.u8), .one (.xs (ps.map encP) 0 ps.length)] [] Fin := by
  refine Spec.of_run ok19 fun X hX => vc19 hX _ _ _ ?_
  have z : Flat (List.replicate 16 (AC.u8 0)) := by rw [mrep]; exact flat_u8 _
  have ek : key.take 16 = key := List.take_of_length_le (by omega)
  refine ⟨fun _ => fin, fun h => ?_⟩
  have hn : ps.length ≤ 10 := by have := of_decide_eq_false h; omega
  have main : ∀ (d i : Nat), i + d = ps.length → (ps.take i).flatten.length ≤ 60 * i → KRun X 19 0 Fin (kOf Try.f19 0) (mkS 37 [(1, .one (.xs (ps.map encP) 0 ps.length)), (2, .one (.ptr 0 0)), (5, .one (.gs 1 (ps.take i).flatten.length 1)), (12, .one (.xs (ps.map encP) 0 ps.length)), (13, .one (.i64 ps.length)), (14, .one (.i64 i))]) [some (key.map AC.u8), some ((ps.take i).flatten.map AC.u8)] := by
    intro d
    induction d with
    | zero =>
      intro i hi hb
      have hi : i = ps.length := by omega
      subst hi
      refine vc19a hX _ _ _ _ _ _ ⟨fun h => absurd (of_decide_eq_true h) (by omega), fun _ => ?_⟩
      rw [List.take_length] at hb ⊢
      have hc := cmF_len key ps.flatten
      rw [tkP ps, tk]
      simp only [hide_eq, tkm, tk0, List.drop_zero, ek, map_asP, map_as8, asP1, pe1, fl1, same_self, List.length_map, hk, Bool.true_eq_false, false_implies, true_implies]
      clear ek
      generalize cmF key ps.flatten = a1 at *
      (repeat' (first | exact fin | exact trivial | exact allU8_map _ | exact flat_u8 _ | exact flatA _ | exact z | exact fitE (by assumption) | exact fit12 (by assumption) | exact Nat.le_refl _ | refine And.intro ?_ ?_ | (intro h; first | (cases h; done) | skip))) <;> first | omega | skip
    | succ d ih =>
      intro i hi hb
      have hg := gt_P_at ps i (by omega)
      refine vc19a hX _ _ _ _ _ _ ⟨fun _ => ?_, fun h => absurd (of_decide_eq_false h) (by omega)⟩
      simp only [ixi, hg, encP, xsRow, xsOff, xsLen, tk, List.length_map]
      refine ⟨by omega, trivial, fun _ => fin, fun h5 => ?_⟩
      have h5 := of_decide_eq_false h5
      have e : (ps.take i).flatten.map AC.u8 ++ (ps.getD i []).map AC.u8 = (ps.take (i + 1)).flatten.map AC.u8 := by rw [flat_take ps i (by omega), List.map_append]
      have el : (ps.take i).flatten.length + (ps.getD i []).length = (ps.take (i + 1)).flatten.length := by rw [flat_take ps i (by omega), List.length_append]
      rw [e, el]
      refine ⟨by omega, by omega, by omega, by unfold in64; omega, flat_u8 _, flat_u8 _, ⟨?_⟩⟩
      exact ih (i + 1) (by omega) (by omega)
  have K := main ps.length 0 (by omega) (by simp)
  exact ⟨flat_u8 _, exactFlat rfl, ⟨K⟩⟩
theorem set_app (a l : List (BitVec 8)) (i : Nat) (v : BitVec 8) : (a ++ l).set (a.length + i) v = a ++ l.set i v := by
  rw [List.set_append, if_neg (by omega), Nat.add_sub_cancel_left]
theorem getD_app_hi (a l : List (BitVec 8)) (i : Nat) : (a ++ l).getD (a.length + i) 0 = l.getD i 0 := by
  rw [List.getD_eq_getElem?_getD, List.getElem?_append_right (by omega), Nat.add_sub_cancel_left, ← List.getD_eq_getElem?_getD]
theorem l20b {X : Ctx} (hX : X.P = Try.prog) (key m : List (BitVec 8)) (hk : key.length = 16) (hm : m.length ≤ 1000) (hw : ¬ (m.length % 16 = 0 ∧ 0 < m.length)) (a x t : List (BitVec 8)) (hx : x.length = 16) (ht : t = xorL x (xorL (k1F key) (k2F key))) (he : fllM key m = a ++ t) (hL : a.length + 16 ≤ 2000) : ∀ (d i : Nat), i + d = 16 →
    KRun X 20 0 Fin (kOf Try.f20 1) (mkS 72 [(1, .one (.xs (m.map AC.u8) 0 m.length)), (2, .one (.ptr 0 0)), (5, .one (.ptr 1 0)), (6, .one (.ptr 2 0)), (7, .one (.gs 3 (a.length + 16) 1)), (39, .one (.i64 i))]) [some (key.map AC.u8), some ((k1F key).map AC.u8), some ((k2F key).map AC.u8), some ((a ++ TX t x i).map AC.u8)] := by
  have z : Flat (List.replicate 16 (AC.u8 0)) := by rw [mrep]; exact flat_u8 _
  have htl : t.length = 16 := by rw [ht]; exact xor16 _ _
  have l1 := k1_len key
  have l2 := k2_len key
  have ek : key.take 16 = key := List.take_of_length_le (by omega)
  have hl : ∀ i, (a ++ TX t x i).length = a.length + 16 := fun i => by rw [List.length_append, TX_len htl hx]
  intro d
  induction d with
  | zero =>
    intro i hi
    have hi : i = 16 := by omega
    subst hi
    rw [TX_16 htl hx]
    have hc := cmF_len key m
    have hfl : (a ++ t).length = a.length + 16 := by rw [List.length_append, htl]
    have ef := fill_of key m hw
    rw [he] at ef
    rw [← hfl]
    refine vc20b hX _ _ _ _ _ _ _ _ ⟨fun h => absurd (of_decide_eq_true h) (by omega), fun _ => ?_⟩
    rw [tk m, tk (a ++ t)]
    simp only [hide_eq, tkm, tk0, List.drop_zero, ek, map_as8, asP1, pe1, fl1, ef, same_self, List.length_map, hk, Bool.true_eq_false, false_implies, true_implies]
    clear ek ef
    generalize cmF key m = a1 at *
    (repeat' (first | exact fin | exact trivial | exact allU8_map _ | exact flat_u8 _ | exact flatA _ | exact z | exact fitE (by assumption) | exact fit12 (by assumption) | exact Nat.le_refl _ | refine And.intro ?_ ?_ | (intro h; first | (cases h; done) | skip))) <;> first | omega | skip
  | succ d ih =>
    intro i hi
    have ih := ih (i + 1) (by omega)
    have hL' := hl i
    have gx := gt_u8_at (a ++ TX t x i) (a.length + i) (by omega)
    rw [getD_app_hi, TX_get htl (by omega)] at gx
    have g1 := gt_u8_at (k1F key) i (by omega)
    have g2 := gt_u8_at (k2F key) i (by omega)
    have tv : x.getD i 0 ^^^ ((k1F key).getD i 0 ^^^ (k2F key).getD i 0) = t.getD i 0 := by
      rw [ht, show (xorL x (xorL (k1F key) (k2F key))).getD i 0 = x.getD i 0 ^^^ (xorL (k1F key) (k2F key)).getD i 0 from tab16_get _ (by omega), show (xorL (k1F key) (k2F key)).getD i 0 = (k1F key).getD i 0 ^^^ (k2F key).getD i 0 from tab16_get _ (by omega)]
    have hset := set_app a (TX t x i) i (t.getD i 0)
    rw [TX_set htl hx (by omega) rfl] at hset
    have e1 : ((a.length + 16 : Nat) : Int) - 16 + (i : Int) = ((a.length + i : Nat) : Int) := by omega
    refine vc20b hX _ _ _ _ _ _ _ _ ⟨fun _ => ?_, fun h => absurd (of_decide_eq_false h) (by omega)⟩
    simp only [e1, ixn, gx, g1, g2, asU8, tv, lay1, hset, List.length_map, hL', l1, l2]
    clear tv hset g1 g2 gx he
    generalize k1F key = b1 at *
    generalize k2F key = b2 at *
    (repeat' (first | exact fin | exact trivial | exact allU8_map _ | exact flat_u8 _ | exact flatA _ | exact z | exact fitE (by assumption) | exact fit12 (by assumption) | exact Nat.le_refl _ | refine And.intro ?_ ?_ | (intro h; first | (cases h; done) | skip))) <;> first | omega | skip
    all_goals first | (unfold in64; omega) | exact ⟨ih⟩
theorem l20a {X : Ctx} (hX : X.P = Try.prog) (key m : List (BitVec 8)) (hk : key.length = 16) (hm : m.length ≤ 1000) (hw : ¬ (m.length % 16 = 0 ∧ 0 < m.length)) : ∀ (d i : Nat), i + d = 15 - m.length % 16 →
    KRun X 20 0 Fin (kOf Try.f20 0) (mkS 72 [(1, .one (.xs (m.map AC.u8) 0 m.length)), (2, .one (.ptr 0 0)), (5, .one (.ptr 1 0)), (6, .one (.ptr 2 0)), (7, .one (.gs 3 (m ++ 128#8 :: List.replicate i 0#8).length 1))]) [some (key.map AC.u8), some ((k1F key).map AC.u8), some ((k2F key).map AC.u8), some ((m ++ 128#8 :: List.replicate i 0#8).map AC.u8)] := by
  have z : Flat (List.replicate 16 (AC.u8 0)) := by rw [mrep]; exact flat_u8 _
  have l1 := k1_len key
  have l2 := k2_len key
  have hlen : ∀ i, (m ++ 128#8 :: List.replicate i 0#8).length = m.length + (i + 1) := fun i => by rw [List.length_append, List.length_cons, List.length_replicate]
  have hmod : ∀ n : Nat, Int.tmod (n : Int) 16 = ((n % 16 : Nat) : Int) := fun n => tmod_nat n 16
  intro d
  induction d with
  | zero =>
    intro i hi
    have hi : i = 15 - m.length % 16 := by omega
    have e : padM m = m ++ 128#8 :: List.replicate i 0#8 := by unfold padM; rw [if_neg hw, hi]; rfl
    have hp := padM_len m
    rw [← e]
    have hz : decide (Int.tmod ((padM m).length : Int) 16 = 0) = true := decide_eq_true (by rw [hmod]; omega)
    have ha : ((padM m).take ((padM m).length - 16)).length = (padM m).length - 16 := by rw [List.length_take]; omega
    have hx : ((padM m).drop ((padM m).length - 16)).length = 16 := by rw [List.length_drop]; omega
    have K := l20b hX key m hk hm hw ((padM m).take ((padM m).length - 16)) ((padM m).drop ((padM m).length - 16)) _ hx rfl rfl (by omega) 16 0 rfl
    rw [TX_0, List.take_append_drop, ha, show (padM m).length - 16 + 16 = (padM m).length by omega] at K
    refine vc20a hX _ _ _ _ _ _ _ ⟨by decide, fun h => ?_, fun _ => ?_⟩
    · rw [hz] at h; cases h
    · generalize k1F key = b1 at *
      generalize k2F key = b2 at *
      (repeat' (first | exact fin | exact trivial | exact allU8_map _ | exact flat_u8 _ | exact flatA _ | exact z | exact fitE (by assumption) | exact fit12 (by assumption) | exact Nat.le_refl _ | refine And.intro ?_ ?_ | (intro h; first | (cases h; done) | skip))) <;> first | omega | skip
      exact ⟨K⟩
  | succ d ih =>
    intro i hi
    have ih := ih (i + 1) (by omega)
    have hL := hlen i
    have hL2 := hlen (i + 1)
    have hz : decide (Int.tmod ((m ++ 128#8 :: List.replicate i 0#8).length : Int) 16 = 0) = false := decide_eq_false (by rw [hmod, hL]; omega)
    have ha : (m ++ 128#8 :: List.replicate i 0#8).map AC.u8 ++ List.take 1 (List.drop 0 [cvC (.int .u8 0)]) = (m ++ 128#8 :: List.replicate (i + 1) 0#8).map AC.u8 := by
      have := app1 (m ++ 128#8 :: List.replicate i 0#8) 0#8
      rw [List.append_assoc, List.cons_append, ← List.replicate_succ'] at this
      exact this
    refine vc20a hX _ _ _ _ _ _ _ ⟨by decide, fun _ => ?_, fun h => ?_⟩
    · rw [ha, List.length_map]
      rw [show (m ++ 128#8 :: List.replicate i 0#8).length + 1 = (m ++ 128#8 :: List.replicate (i + 1) 0#8).length by omega]
      generalize k1F key = b1 at *
      generalize k2F key = b2 at *
      (repeat' (first | exact fin | exact trivial | exact allU8_map _ | exact flat_u8 _ | exact flatA _ | exact z | exact fitE (by assumption) | exact fit12 (by assumption) | exact Nat.le_refl _ | refine And.intro ?_ ?_ | (intro h; first | (cases h; done) | skip))) <;> first | omega | skip
      exact ⟨ih⟩
    · rw [hz] at h; cases h
theorem s20 (key m : List (BitVec 8)) (hk : key.length = 16) : Spec Try.prog 20 [.agg (key.map AC.u8), .one (.xs (m.map AC.u8) 0 m.length)] [] Fin := by
  refine Spec.of_run ok20 fun X hX => vc20 hX _ _ _ ?_
  have z : Flat (List.replicate 16 (AC.u8 0)) := by rw [mrep]; exact flat_u8 _
  have ek : key.take 16 = key := List.take_of_length_le (by omega)
  have l1 := k1_len key
  have l2 := k2_len key
  have e1 : layS (List.replicate 16 (AC.u8 0)) 0 ((k1F key).map AC.u8) = (k1F key).map AC.u8 := layR _ _ l1
  have e2 : layS (List.replicate 16 (AC.u8 0)) 0 ((k2F key).map AC.u8) = (k2F key).map AC.u8 := layR _ _ l2
  have hmod : Int.tmod (m.length : Int) 16 = ((m.length % 16 : Nat) : Int) := tmod_nat m.length 16
  have tm : List.take (m.length * 1) (List.drop 0 (m.map AC.u8)) = m.map AC.u8 := tk m
  have ha : m.map AC.u8 ++ List.take 1 (List.drop 0 [cvC (.int .u8 128)]) = (m ++ 128#8 :: List.replicate 0 0#8).map AC.u8 := app1 m 128#8
  have hL : (m ++ 128#8 :: List.replicate 0 0#8).length = m.length + 1 := by rw [List.length_append, List.length_cons, List.length_replicate]
  rw [tm, ha, hmod]
  have part : m.length ≤ 1000 → ¬ (m.length % 16 = 0 ∧ 0 < m.length) → KRun X 20 0 Fin (kOf Try.f20 0) (mkS 72 [(1, .one (.xs (m.map AC.u8) 0 m.length)), (2, .one (.ptr 0 0)), (5, .one (.ptr 1 0)), (6, .one (.ptr 2 0)), (7, .one (.gs 3 (m.length + 1) 1))]) [some (key.map AC.u8), some ((k1F key).map AC.u8), some ((k2F key).map AC.u8), some ((m ++ 128#8 :: List.replicate 0 0#8).map AC.u8)] := fun hm hw => by
    have K := l20a hX key m hk hm hw _ 0 (Nat.zero_add _)
    rw [hL] at K
    exact K
  simp only [hide_eq, tk0, List.drop_zero, ek, map_as8, e1, e2, List.length_map, List.length_replicate, hk, l1, l2]
  clear ek e1 e2 ha tm
  generalize k1F key = a1 at *
  generalize k2F key = a2 at *
  refine ⟨by omega, fun _ => fin, fun h => ⟨fun h1 => ⟨by decide, fun _ => fin, fun h2 => ?_⟩, fun h1 => ?_⟩⟩
  · have h := of_decide_eq_false h
    have h2 := of_decide_eq_false h2
    have K := part (by omega) (by omega)
    (repeat' (first | exact fin | exact trivial | exact allU8_map _ | exact flat_u8 _ | exact flatA _ | exact z | exact fitE (by assumption) | exact fit12 (by assumption) | exact Nat.le_refl _ | refine And.intro ?_ ?_ | (intro h; first | (cases h; done) | skip))) <;> first | omega | skip
    exact ⟨K⟩
  · have h := of_decide_eq_false h
    have h1 := of_decide_eq_false h1
    have K := part (by omega) (by omega)
    (repeat' (first | exact fin | exact trivial | exact allU8_map _ | exact flat_u8 _ | exact flatA _ | exact z | exact fitE (by assumption) | exact fit12 (by assumption) | exact Nat.le_refl _ | refine And.intro ?_ ?_ | (intro h; first | (cases h; done) | skip))) <;> first | omega | skip
    exact ⟨K⟩
end DH

noncomputable section
namespace DH
open Go Go.Proofs
theorem s18w (k b : List (BitVec 8)) (hk : (Sh.ar 16 .u8).wf k) (hb : (Sh.ar 16 .u8).wf b) : Spec Try.prog 18 [.agg (List.flatMap (Sh.enc .u8) k), .agg (List.flatMap (Sh.enc .u8) b)] [] (Is (.one (.b true))) := by
  rw [fm_u8, fm_u8]; exact s18 k b hk.1 hb.1
theorem s19w (k : List (BitVec 8)) (hk : (Sh.ar 16 .u8).wf k) (ps : List (List (BitVec 8))) : Spec Try.prog 19 [.agg (List.flatMap (Sh.enc .u8) k), .one (.xs (List.flatMap (Sh.enc (.sl .u8)) ps) 0 ps.length)] [] (Is (.one (.b true))) := by
  rw [fm_u8, fm_P]; exact s19 k hk.1 ps
theorem s20w (k : List (BitVec 8)) (hk : (Sh.ar 16 .u8).wf k) (b : List (BitVec 8)) : Spec Try.prog 20 [.agg (List.flatMap (Sh.enc .u8) k), .one (.xs (List.flatMap (Sh.enc .u8) b) 0 b.length)] [] (Is (.one (.b true))) := by
  rw [fm_u8, fm_u8]; exact s20 k b hk.1
theorem s21w (k b : List (BitVec 8)) (hk : (Sh.ar 16 .u8).wf k) (hb : (Sh.ar 16 .u8).wf b) : Spec Try.prog 21 [.agg (List.flatMap (Sh.enc .u8) k), .agg (List.flatMap (Sh.enc .u8) b)] [] (Is (.one (.b true))) := by
  rw [fm_u8, fm_u8]; exact s21 k b hk.1 hb.1
theorem s22w (k : List (BitVec 8)) (hk : (Sh.ar 16 .u8).wf k) (b : List (BitVec 8)) : Spec Try.prog 22 [.agg (List.flatMap (Sh.enc .u8) k), .one (.xs (List.flatMap (Sh.enc .u8) b) 0 b.length)] [] (Is (.one (.b true))) := by
  rw [fm_u8, fm_u8]; exact s22 k b hk.1
end DH
