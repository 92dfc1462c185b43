/- Walks of functions, each by evaluation: what each returns. -/
import Derived.Test.YtfkiagnehomefaaQ1
import Derived.Test.YtfkiagnehomefaaK2
set_option linter.unusedVariables false
set_option linter.unusedSimpArgs false
noncomputable section
namespace DH
open Go Go.Proofs

theorem l33 {X : Ctx} (hX : X.P = Try.prog) (bs : List (BitVec 32)) (hn : bs.length < 2 ^ 62) : ∀ (d i : Nat) (a : BitVec 32), i + d = bs.length →
    KRun X 33 0 (Is (.one (.u32 (maxF a (bs.drop i))))) (kOf Try.f33 0) (mkS 25 [(1, .one (.xs (bs.map .u32) 0 bs.length)), (5, .one (.u32 a)), (6, .one (.i64 i))]) [] := by
  intro d
  induction d with
  | zero =>
    intro i a hi
    refine vc33a hX _ _ _ _ ⟨fun h => absurd (of_decide_eq_true h) (by omega), fun _ => ?_⟩
    rw [List.drop_of_length_le (by omega)]
    exact rfl
  | succ d ih =>
    intro i a hi
    have hlt : i < bs.length := by omega
    have hdrop : bs.drop i = bs[i] :: bs.drop (i + 1) := List.drop_eq_getElem_cons hlt
    rw [hdrop, maxF_cons]
    refine vc33a hX _ _ _ _ ⟨fun _ => ?_, fun h => absurd (of_decide_eq_false h) (by omega)⟩
    simp only [gt_u32 bs i hlt, asU32]
    refine ⟨⟨by omega, by omega⟩, trivial, fun h => ⟨⟨by omega, by omega⟩, trivial, by unfold in64; omega, ⟨?_⟩⟩, fun h => ⟨by unfold in64; omega, ⟨?_⟩⟩⟩
    · rw [if_pos h]
      exact ih (i + 1) bs[i] (by omega)
    · rw [if_neg (by rw [h]; decide)]
      exact ih (i + 1) a (by omega)
theorem s33 (a : BitVec 32) (bs : List (BitVec 32)) (hn : bs.length < 2 ^ 62) : Spec Try.prog 33 [.one (.u32 a), .one (.xs (bs.map .u32) 0 bs.length)] [] (Is (.one (.u32 (maxF a bs)))) :=
  Spec.of_run ok33 fun X hX => vc33 hX _ _ _ ⟨l33 hX bs hn bs.length 0 a (by omega)⟩

theorem s37 (a b c d : BitVec 32) : Spec Try.prog 37 [.one (.u32 a), .one (.u32 b), .one (.u32 c), .one (.u32 d)] [] (Is (.one (.b (accept a b c d)))) := by
  refine Spec.of_run ok37 fun X hX => vc37 hX a b c d ?_
  have z : BitVec.ofInt 32 0 = 0#32 := rfl
  rw [z]
  have hc := c.isLt
  have hd := d.isLt
  refine ⟨fun h => ?_, fun h => ⟨by unfold in64; omega, by unfold in64; omega, by decide, ?_⟩⟩
  · have h : d = 0#32 := of_decide_eq_true h
    subst h
    have e : accept a b c 0#32 = if b = 0#32 then decide (c = a) else inW c a b := by
      unfold accept
      rw [if_neg (by decide)]
    rw [e]
    refine ⟨fun h => ?_, fun h => by rw [if_neg (of_decide_eq_false h)]; exact rfl⟩
    have h : b = 0#32 := of_decide_eq_true h
    rw [if_pos h]
    refine ⟨fun h => by rw [h]; exact rfl, fun h2 => ?_⟩
    have e : inW c a b = false := decide_eq_false (by rw [h, BitVec.lt_def]; simp)
    rw [e, h2]
    exact rfl
  · have h : ¬ d = 0#32 := of_decide_eq_false h
    have h0 : d.toNat ≠ 0 := fun h0 => h (BitVec.eq_of_toNat_eq (by simpa using h0))
    have e : BitVec.ofInt 32 (Int.tmod ((c.toNat : Int) + d.toNat - 1) 4294967296) = c + d - 1#32 := by
      rw [Int.tmod_eq_emod_of_nonneg (by omega)]
      apply BitVec.eq_of_toNat_eq
      rw [BitVec.toNat_ofInt, BitVec.toNat_sub, BitVec.toNat_add]
      have e1 : (1#32).toNat = 1 := rfl
      simp only [e1]
      omega
    rw [e]
    have e2 : accept a b c d = (inW c a b || inW (c + d - 1#32) a b) := by
      unfold accept
      rw [if_pos (by rw [BitVec.lt_def]; simp; omega)]
    rw [e2]
    exact ⟨fun h => by rw [h]; exact rfl, fun h => by rw [h]; exact rfl⟩

/-! Long -/
def dI (A B : Nat) : Int := let x := (4294967296 - A % 4294967296 + B) % 4294967296; if 2 * x < 4294967296 then (x : Int) else (x : Int) - 4294967296
def lgN (A B : Nat) : Nat :=
  let t := A / 4294967296
  let s : Int := ((A % 4294967296 : Nat) : Int) + dI A B
  if s < 0 ∧ 0 < t then (t - 1) * 4294967296 + B else if 4294967296 ≤ s ∧ t < 4294967295 then (t + 1) * 4294967296 + B else t * 4294967296 + B
def long (a : BitVec 64) (b : BitVec 32) : BitVec 64 := BitVec.ofNat 64 (lgN a.toNat b.toNat)

theorem dif_dI (a : BitVec 64) (b : BitVec 32) : dif (BitVec.setWidth 32 a) b = dI a.toNat b.toNat := by
  unfold dif dI
  rw [BitVec.toInt_eq_toNat_cond, BitVec.toNat_sub, BitVec.toNat_setWidth]
  simp only [show (2 : Nat) ^ 32 = 4294967296 from rfl]
  have hb := b.isLt
  split <;> omega
theorem dI_b (A B : Nat) (hB : B < 4294967296) : -2147483648 ≤ dI A B ∧ dI A B < 2147483648 ∧ (((A % 4294967296 : Nat) : Int) + dI A B = B ∨ ((A % 4294967296 : Nat) : Int) + dI A B = B - 4294967296 ∨ ((A % 4294967296 : Nat) : Int) + dI A B = B + 4294967296) := by
  unfold dI
  dsimp only
  split <;> omega
theorem lg_lt (A B : Nat) (hA : A < 18446744073709551616) (hB : B < 4294967296) : lgN A B < 18446744073709551616 := by
  unfold lgN
  dsimp only
  split
  · omega
  · split <;> omega
theorem long_nat (a : BitVec 64) (b : BitVec 32) : (long a b).toNat = lgN a.toNat b.toNat := by
  unfold long
  rw [BitVec.toNat_ofNat]
  exact Nat.mod_eq_of_lt (lg_lt _ _ a.isLt b.isLt)
theorem i64id {d : Int} (h1 : -2147483648 ≤ d) (h2 : d < 4294967296) : (BitVec.ofInt 64 d).toInt = d := by
  rw [BitVec.toInt_ofInt, Int.bmod_def]
  omega
theorem i64nat {d : Int} : (BitVec.ofInt 64 d).toNat = (d % 18446744073709551616).toNat := by
  rw [BitVec.toNat_ofInt]
  rfl

theorem s34 (a : BitVec 64) (b : BitVec 32) : Spec Try.prog 34 [.one (.u64 a), .one (.u32 b)] [] (Is (.one (.u64 (long a b)))) := by
  refine Spec.of_run ok34 fun X hX => vc34 hX a b ?_
  have hd : (b - BitVec.setWidth 32 a).toInt = dI a.toNat b.toNat := dif_dI a b
  have hb := dI_b a.toNat b.toNat b.isLt
  rw [hd, i64id hb.1 (by omega)]
  have hA := a.isLt
  have hB := b.isLt
  have e0 : BitVec.ofInt 64 4294967296 = 4294967296#64 := rfl
  have e1 : (4294967296#64).toNat = 4294967296 := rfl
  have leaf : ∀ x : BitVec 64, x.toNat = lgN a.toNat b.toNat → Is (.one (.u64 (long a b))) (.one (.u64 x)) [] := fun x hx => by
    have : x = long a b := BitVec.eq_of_toNat_eq (by rw [hx, long_nat])
    rw [this]
    exact rfl
  have hlg : lgN a.toNat b.toNat = (if ((a.toNat % 4294967296 : Nat) : Int) + dI a.toNat b.toNat < 0 ∧ 0 < a.toNat / 4294967296 then (a.toNat / 4294967296 - 1) * 4294967296 + b.toNat
      else if 4294967296 ≤ ((a.toNat % 4294967296 : Nat) : Int) + dI a.toNat b.toNat ∧ a.toNat / 4294967296 < 4294967295 then (a.toNat / 4294967296 + 1) * 4294967296 + b.toNat else a.toNat / 4294967296 * 4294967296 + b.toNat) := rfl
  rw [hlg] at leaf
  generalize dI a.toNat b.toNat = d at *
  have hn : (a + BitVec.ofInt 64 d).toNat = (((a.toNat : Int) + d) % 18446744073709551616).toNat := by
    rw [BitVec.toNat_add, i64nat]
    simp only [show (2 : Nat) ^ 64 = 18446744073709551616 from rfl]
    omega
  have hp : (a + BitVec.ofInt 64 d + 4294967296#64).toNat = ((a + BitVec.ofInt 64 d).toNat + 4294967296) % 18446744073709551616 := BitVec.toNat_add ..
  have hm : (a + BitVec.ofInt 64 d - 4294967296#64).toNat = (18446744073709551616 - 4294967296 + (a + BitVec.ofInt 64 d).toNat) % 18446744073709551616 := BitVec.toNat_sub ..
  rw [e0]
  have T : ∀ (x y : BitVec 64), decide (x < y) = true → x.toNat < y.toNat := fun x y h => BitVec.lt_def.1 (of_decide_eq_true h)
  have F : ∀ (x y : BitVec 64), decide (x < y) = false → ¬ x.toNat < y.toNat := fun x y h g => (of_decide_eq_false h) (BitVec.lt_def.2 g)
  refine ⟨fun h => ⟨fun h2 => ?_, fun h2 => ⟨fun h3 => ⟨fun h4 => ?_, fun h4 => ?_⟩, fun h3 => ?_⟩⟩, fun h => ⟨fun h3 => ⟨fun h4 => ?_, fun h4 => ?_⟩, fun h3 => ?_⟩⟩
  · have h := of_decide_eq_true h
    have h2 := T _ _ h2
    refine leaf _ ?_
    rw [hp]
    split
    · omega
    · split <;> omega
  · exact absurd (of_decide_eq_true h3) (by have := of_decide_eq_true h; omega)
  · exact absurd (of_decide_eq_true h3) (by have := of_decide_eq_true h; omega)
  · have h := of_decide_eq_true h
    have h2 := F _ _ h2
    refine leaf _ ?_
    rw [hn] at h2 ⊢
    split
    · omega
    · split <;> omega
  · have h := of_decide_eq_true h3
    have h2 := T _ _ h4
    refine leaf _ ?_
    rw [hm]
    split
    · omega
    · split <;> omega
  · have h := of_decide_eq_true h3
    have h2 := F _ _ h4
    refine leaf _ ?_
    rw [hn] at h2 ⊢
    split
    · omega
    · split <;> omega
  · have h := of_decide_eq_false h
    have h3 := of_decide_eq_false h3
    refine leaf _ ?_
    rw [hn]
    split
    · omega
    · split <;> omega

theorem and32 (a : BitVec 64) : (a &&& BitVec.ofInt 64 4294967295).toNat = a.toNat % 4294967296 := by
  rw [BitVec.toNat_and]
  exact Nat.and_two_pow_sub_one_eq_mod a.toNat 32
theorem s35 (a : BitVec 64) (b : BitVec 32) : Spec Try.prog 35 [.one (.u64 a), .one (.u32 b)] [] (Is (.one (.u64 (long a b)))) := by
  refine Spec.of_run ok35 fun X hX => vc35 hX a b ?_
  have hsw : BitVec.setWidth 32 (a &&& BitVec.ofInt 64 4294967295) = BitVec.setWidth 32 a := by
    apply BitVec.eq_of_toNat_eq
    rw [BitVec.toNat_setWidth, BitVec.toNat_setWidth, and32]
    exact Nat.mod_mod _ _
  have hlow : (a &&& BitVec.ofInt 64 4294967295).toInt = ((a.toNat % 4294967296 : Nat) : Int) := by
    rw [BitVec.toInt_eq_toNat_cond, and32]
    rw [if_pos (by have : a.toNat % 4294967296 < 4294967296 := Nat.mod_lt _ (by decide); omega)]
  have hb := dI_b a.toNat b.toNat b.isLt
  rw [hsw, dif_dI, hlow, i64id hb.1 (by omega)]
  have hA := a.isLt
  have hB := b.isLt
  have leaf : ∀ x : BitVec 64, x.toNat = lgN a.toNat b.toNat → Is (.one (.u64 (long a b))) (.one (.u64 x)) [] := fun x hx => by
    have : x = long a b := BitVec.eq_of_toNat_eq (by rw [hx, long_nat])
    rw [this]
    exact rfl
  have hlg : lgN a.toNat b.toNat = (if ((a.toNat % 4294967296 : Nat) : Int) + dI a.toNat b.toNat < 0 ∧ 0 < a.toNat / 4294967296 then (a.toNat / 4294967296 - 1) * 4294967296 + b.toNat
      else if 4294967296 ≤ ((a.toNat % 4294967296 : Nat) : Int) + dI a.toNat b.toNat ∧ a.toNat / 4294967296 < 4294967295 then (a.toNat / 4294967296 + 1) * 4294967296 + b.toNat else a.toNat / 4294967296 * 4294967296 + b.toNat) := rfl
  rw [hlg] at leaf
  generalize dI a.toNat b.toNat = d at *
  have ht : (a >>> (32 : Nat)).toNat = a.toNat / 4294967296 := by rw [BitVec.toNat_ushiftRight, Nat.shiftRight_eq_div_pow]
  have hsh : ∀ x : BitVec 64, (x <<< (32 : Nat) + BitVec.setWidth 64 b).toNat = (x.toNat * 4294967296 + b.toNat) % 18446744073709551616 := by
    intro x
    rw [BitVec.toNat_add, BitVec.toNat_shiftLeft, Nat.shiftLeft_eq, BitVec.toNat_setWidth]
    simp only [show (2 : Nat) ^ 64 = 18446744073709551616 from rfl, show (2 : Nat) ^ 32 = 4294967296 from rfl]
    omega
  have hs1 : ∀ x : BitVec 64, (x - BitVec.ofInt 64 1).toNat = (18446744073709551615 + x.toNat) % 18446744073709551616 := fun x => BitVec.toNat_sub ..
  have ha1 : ∀ x : BitVec 64, (x + BitVec.ofInt 64 1).toNat = (x.toNat + 1) % 18446744073709551616 := fun x => BitVec.toNat_add ..
  have T : ∀ (x y : BitVec 64), decide (x < y) = true → x.toNat < y.toNat := fun x y h => BitVec.lt_def.1 (of_decide_eq_true h)
  have F : ∀ (x y : BitVec 64), decide (x < y) = false → ¬ x.toNat < y.toNat := fun x y h g => (of_decide_eq_false h) (BitVec.lt_def.2 g)
  have c0 : (BitVec.ofInt 64 0).toNat = 0 := rfl
  have c1 : (BitVec.ofInt 64 4294967295).toNat = 4294967295 := rfl
  have rest : (in64 (((a.toNat % 4294967296 : Nat) : Int) + d)) := by unfold in64; omega
  have tail : (((a.toNat % 4294967296 : Nat) : Int) + d < 0 → ¬ 0 < a.toNat / 4294967296) →
      (decide (4294967296 ≤ ((a.toNat % 4294967296 : Nat) : Int) + d) = true →
        (decide (a >>> (32 : Nat) < BitVec.ofInt 64 4294967295) = true → Is (.one (.u64 (long a b))) (.one (.u64 ((a >>> (32 : Nat) + BitVec.ofInt 64 1) <<< (32 : Nat) + BitVec.setWidth 64 b))) []) ∧
        (decide (a >>> (32 : Nat) < BitVec.ofInt 64 4294967295) = false → Is (.one (.u64 (long a b))) (.one (.u64 (a >>> (32 : Nat) <<< (32 : Nat) + BitVec.setWidth 64 b))) [])) ∧
      (decide (4294967296 ≤ ((a.toNat % 4294967296 : Nat) : Int) + d) = false → Is (.one (.u64 (long a b))) (.one (.u64 (a >>> (32 : Nat) <<< (32 : Nat) + BitVec.setWidth 64 b))) []) := by
    intro hneg
    refine ⟨fun h1 => ⟨fun h2 => ?_, fun h2 => ?_⟩, fun h1 => ?_⟩
    · have h1 := of_decide_eq_true h1
      have h2 := T _ _ h2
      refine leaf _ ?_
      rw [hsh, ha1]
      rw [ht] at *
      rw [c1] at h2
      rw [if_neg (by omega), if_pos (by omega)]
      omega
    · have h1 := of_decide_eq_true h1
      have h2 := F _ _ h2
      refine leaf _ ?_
      rw [hsh]
      rw [ht] at *
      rw [c1] at h2
      rw [if_neg (by omega), if_neg (by omega)]
      omega
    · have h1 := of_decide_eq_false h1
      refine leaf _ ?_
      rw [hsh, ht]
      rw [if_neg (by omega), if_neg (by omega)]
      omega
  refine ⟨rest, fun h => ⟨fun h2 => ?_, fun h2 => ⟨rest, tail ?_⟩⟩, fun h => ⟨rest, tail ?_⟩⟩
  · have h := of_decide_eq_true h
    have h2 := T _ _ h2
    refine leaf _ ?_
    rw [hsh, hs1]
    rw [ht] at *
    rw [c0] at h2
    rw [if_pos (by omega)]
    omega
  · have h2 := F _ _ h2
    rw [ht, c0] at h2
    omega
  · have h := of_decide_eq_false h
    omega

def allU32 (row : List AC) : Prop := row = (row.map asU32).map .u32
noncomputable def U4 : Tab := fun f xs => match f, xs with
  | 32, [.one (.u32 a), .one (.xs row 0 n)] => some ([allU32 row, row.length = n ∧ n < 2 ^ 62], .one (.u32 (maxF a (row.map asU32))))
  | 33, [.one (.u32 a), .one (.xs row 0 n)] => some ([allU32 row, row.length = n ∧ n < 2 ^ 62], .one (.u32 (maxF a (row.map asU32))))
  | 34, [.one (.u64 a), .one (.u32 b)] => some ([], .one (.u64 (long a b)))
  | 35, [.one (.u64 a), .one (.u32 b)] => some ([], .one (.u64 (long a b)))
  | 36, [.one (.u32 a), .one (.u32 b), .one (.u32 c), .one (.u32 d)] => some ([], .one (.b (accept a b c d)))
  | 37, [.one (.u32 a), .one (.u32 b), .one (.u32 c), .one (.u32 d)] => some ([], .one (.b (accept a b c d)))
  | 48, [.one (.u32 a), .one (.u32 b), .one (.u32 c)] => some ([], .one (.b (btw a b c)))
  | 49, [.agg [.u32 a, .u32 b], .agg [.u32 c, .u32 d]] => some ([], .one (.b (ovl a b c d)))
  | 50, [.agg [.u32 a, .u32 b], .agg [.u32 c, .u32 d]] => some ([], .one (.b (ovl a b c d)))
  | f, xs => U3 f xs
theorem U4_ok : TabOk Try.prog U4 := by
  intro f xs cs r h hc
  unfold U4 at h
  split at h <;> first | exact U3_ok f xs cs r h hc | skip
  · rename_i a row n
    obtain ⟨rfl, rfl⟩ := Prod.mk.inj (Option.some.inj h)
    obtain ⟨h1, ⟨h2, h3⟩, _⟩ := hc
    refine ⟨⟨_, _, ok32⟩, ?_, rfl⟩
    have := s32 a (row.map asU32) (by simpa [h2] using h3)
    rw [List.length_map, h2, ← h1] at this
    exact this
  · rename_i a row n
    obtain ⟨rfl, rfl⟩ := Prod.mk.inj (Option.some.inj h)
    obtain ⟨h1, ⟨h2, h3⟩, _⟩ := hc
    refine ⟨⟨_, _, ok33⟩, ?_, rfl⟩
    have := s33 a (row.map asU32) (by simpa [h2] using h3)
    rw [List.length_map, h2, ← h1] at this
    exact this
  · obtain ⟨rfl, rfl⟩ := Prod.mk.inj (Option.some.inj h); exact ⟨⟨_, _, ok34⟩, s34 _ _, rfl⟩
  · obtain ⟨rfl, rfl⟩ := Prod.mk.inj (Option.some.inj h); exact ⟨⟨_, _, ok35⟩, s35 _ _, rfl⟩
  · obtain ⟨rfl, rfl⟩ := Prod.mk.inj (Option.some.inj h); exact ⟨⟨_, _, ok36⟩, s36 _ _ _ _, rfl⟩
  · obtain ⟨rfl, rfl⟩ := Prod.mk.inj (Option.some.inj h); exact ⟨⟨_, _, ok37⟩, s37 _ _ _ _, rfl⟩
  · obtain ⟨rfl, rfl⟩ := Prod.mk.inj (Option.some.inj h); exact ⟨⟨_, _, ok48⟩, s48 _ _ _, rfl⟩
  · obtain ⟨rfl, rfl⟩ := Prod.mk.inj (Option.some.inj h); exact ⟨⟨_, _, ok49⟩, s49 _ _ _ _, rfl⟩
  · obtain ⟨rfl, rfl⟩ := Prod.mk.inj (Option.some.inj h); exact ⟨⟨_, _, ok50⟩, s50 _ _ _ _, rfl⟩
theorem vc6 {X : Ctx} {Q : AV → Mem → Prop} (hX : X.P = Try.prog) (a b : BitVec 32) (row : List AC) (n : Nat) (h : (decide ((1000 : Int) < (↑n : Int)) = true → Q (AV.one (AC.b true)) []) ∧ (decide ((1000 : Int) < (↑n : Int)) = false → (decide (BitVec.toInt (b - a) = dif a b) = true → ((decide ((0 : Int) < BitVec.toInt (b - a)) == bfr a b) = true → (0 : Nat) + n * (1 : Nat) ≤ List.length row ∧ allU32 (List.take (n * (1 : Nat)) (List.drop (0 : Nat) row)) ∧ (List.length (List.take (n * (1 : Nat)) (List.drop (0 : Nat) row)) = n ∧ n < (2 : Nat) ^ (62 : Nat)) ∧ (0 : Nat) + n * (1 : Nat) ≤ List.length row ∧ allU32 (List.take (n * (1 : Nat)) (List.drop (0 : Nat) row)) ∧ (List.length (List.take (n * (1 : Nat)) (List.drop (0 : Nat) row)) = n ∧ n < (2 : Nat) ^ (62 : Nat)) ∧ (decide (maxF a (List.map asU32 (List.take (n * (1 : Nat)) (List.drop (0 : Nat) row))) = maxF a (List.map asU32 (List.take (n * (1 : Nat)) (List.drop (0 : Nat) row)))) = true → Q (AV.one (AC.b true)) []) ∧ (decide (maxF a (List.map asU32 (List.take (n * (1 : Nat)) (List.drop (0 : Nat) row))) = maxF a (List.map asU32 (List.take (n * (1 : Nat)) (List.drop (0 : Nat) row)))) = false → Q (AV.one (AC.b false)) [])) ∧ ((decide ((0 : Int) < BitVec.toInt (b - a)) == bfr a b) = false → Q (AV.one (AC.b false)) [])) ∧ (decide (BitVec.toInt (b - a) = dif a b) = false → Q (AV.one (AC.b false)) []))) : KRun X 6 0 Q ([.code (bodyOf Try.f6)]) (slots [.one (.u32 a), .one (.u32 b), .one (.xs row 0 n)] Try.f6.ntmps) [] :=
  wpRun_ok (hX ▸ env01_ok U4) (hX ▸ env01_call U4_ok) (hX ▸ mixed) (hX ▸ ok6) LK_ok (cast (show ((decide ((1000 : Int) < (↑n : Int)) = true → Q (AV.one (AC.b true)) []) ∧ (decide ((1000 : Int) < (↑n : Int)) = false → (decide (BitVec.toInt (b - a) = dif a b) = true → ((decide ((0 : Int) < BitVec.toInt (b - a)) == bfr a b) = true → (0 : Nat) + n * (1 : Nat) ≤ List.length row ∧ allU32 (List.take (n * (1 : Nat)) (List.drop (0 : Nat) row)) ∧ (List.length (List.take (n * (1 : Nat)) (List.drop (0 : Nat) row)) = n ∧ n < (2 : Nat) ^ (62 : Nat)) ∧ (0 : Nat) + n * (1 : Nat) ≤ List.length row ∧ allU32 (List.take (n * (1 : Nat)) (List.drop (0 : Nat) row)) ∧ (List.length (List.take (n * (1 : Nat)) (List.drop (0 : Nat) row)) = n ∧ n < (2 : Nat) ^ (62 : Nat)) ∧ (decide (maxF a (List.map asU32 (List.take (n * (1 : Nat)) (List.drop (0 : Nat) row))) = maxF a (List.map asU32 (List.take (n * (1 : Nat)) (List.drop (0 : Nat) row)))) = true → Q (AV.one (AC.b true)) []) ∧ (decide (maxF a (List.map asU32 (List.take (n * (1 : Nat)) (List.drop (0 : Nat) row))) = maxF a (List.map asU32 (List.take (n * (1 : Nat)) (List.drop (0 : Nat) row)))) = false → Q (AV.one (AC.b false)) [])) ∧ ((decide ((0 : Int) < BitVec.toInt (b - a)) == bfr a b) = false → Q (AV.one (AC.b false)) [])) ∧ (decide (BitVec.toInt (b - a) = dif a b) = false → Q (AV.one (AC.b false)) []))) = wpRun (env01 U4) [9, 17, 25, 34] [] false (RS.mk Try.f6.results.toList 0 (CS.mk [] [])) (LK X 6 0 Q true []) Q 2000 ([.code (bodyOf Try.f6)]) (slots [.one (.u32 a), .one (.u32 b), .one (.xs row 0 n)] Try.f6.ntmps) [] by kernel_rfl) h)
theorem vc7 {X : Ctx} {Q : AV → Mem → Prop} (hX : X.P = Try.prog) (a : BitVec 64) (b : BitVec 32) (h : (decide (long a b = long a b) = true → Q (AV.one (AC.b true)) []) ∧ (decide (long a b = long a b) = false → Q (AV.one (AC.b false)) [])) : KRun X 7 0 Q ([.code (bodyOf Try.f7)]) (slots [.one (.u64 a), .one (.u32 b)] Try.f7.ntmps) [] :=
  wpRun_ok (hX ▸ env01_ok U4) (hX ▸ env01_call U4_ok) (hX ▸ mixed) (hX ▸ ok7) LK_ok (cast (show ((decide (long a b = long a b) = true → Q (AV.one (AC.b true)) []) ∧ (decide (long a b = long a b) = false → Q (AV.one (AC.b false)) [])) = wpRun (env01 U4) [11] [] false (RS.mk Try.f7.results.toList 0 (CS.mk [] [])) (LK X 7 0 Q true []) Q 2000 ([.code (bodyOf Try.f7)]) (slots [.one (.u64 a), .one (.u32 b)] Try.f7.ntmps) [] by kernel_rfl) h)
theorem vc8 {X : Ctx} {Q : AV → Mem → Prop} (hX : X.P = Try.prog) (a b c d : BitVec 32) (h : ((0 : Int) ≤ (0 : Int) ∧ (0 : Int) < (↑(2 : Nat) : Int)) ∧ ((0 : Int) ≤ (1 : Int) ∧ (1 : Int) < (↑(2 : Nat) : Int)) ∧ ((0 : Int) ≤ (0 : Int) ∧ (0 : Int) < (↑(2 : Nat) : Int)) ∧ ((0 : Int) ≤ (1 : Int) ∧ (1 : Int) < (↑(2 : Nat) : Int)) ∧ ((accept a b c d == accept a b c d) = true → Q (AV.one (AC.b true)) []) ∧ ((accept a b c d == accept a b c d) = false → Q (AV.one (AC.b false)) [])) : KRun X 8 0 Q ([.code (bodyOf Try.f8)]) (slots [.agg [.u32 a, .u32 b], .one (.u32 c), .one (.u32 d)] Try.f8.ntmps) [] :=
  wpRun_ok (hX ▸ env01_ok U4) (hX ▸ env01_call U4_ok) (hX ▸ mixed) (hX ▸ ok8) LK_ok (cast (show (((0 : Int) ≤ (0 : Int) ∧ (0 : Int) < (↑(2 : Nat) : Int)) ∧ ((0 : Int) ≤ (1 : Int) ∧ (1 : Int) < (↑(2 : Nat) : Int)) ∧ ((0 : Int) ≤ (0 : Int) ∧ (0 : Int) < (↑(2 : Nat) : Int)) ∧ ((0 : Int) ≤ (1 : Int) ∧ (1 : Int) < (↑(2 : Nat) : Int)) ∧ ((accept a b c d == accept a b c d) = true → Q (AV.one (AC.b true)) []) ∧ ((accept a b c d == accept a b c d) = false → Q (AV.one (AC.b false)) [])) = wpRun (env01 U4) [21] [] false (RS.mk Try.f8.results.toList 0 (CS.mk [] [])) (LK X 8 0 Q true []) Q 2000 ([.code (bodyOf Try.f8)]) (slots [.agg [.u32 a, .u32 b], .one (.u32 c), .one (.u32 d)] Try.f8.ntmps) [] by kernel_rfl) h)
theorem vc9 {X : Ctx} {Q : AV → Mem → Prop} (hX : X.P = Try.prog) (a b : BitVec 32) (h : (decide ((0 : Int) < BitVec.toInt (b - a)) = true → (decide ((0 : Int) < BitVec.toInt (a - b)) = true → (decide (a = b) = true → Q (AV.one (AC.b false)) []) ∧ (decide (a = b) = false → (decide (b - a = BitVec.ofInt (32 : Nat) (2147483648 : Int)) = true → Q (AV.one (AC.b false)) []) ∧ (decide (b - a = BitVec.ofInt (32 : Nat) (2147483648 : Int)) = false → ((true != true) = true → Q (AV.one (AC.b true)) []) ∧ ((true != true) = false → Q (AV.one (AC.b false)) [])))) ∧ (decide ((0 : Int) < BitVec.toInt (a - b)) = false → (decide (a = b) = true → Q (AV.one (AC.b false)) []) ∧ (decide (a = b) = false → (decide (b - a = BitVec.ofInt (32 : Nat) (2147483648 : Int)) = true → Q (AV.one (AC.b false)) []) ∧ (decide (b - a = BitVec.ofInt (32 : Nat) (2147483648 : Int)) = false → ((true != false) = true → Q (AV.one (AC.b true)) []) ∧ ((true != false) = false → Q (AV.one (AC.b false)) []))))) ∧ (decide ((0 : Int) < BitVec.toInt (b - a)) = false → (decide ((0 : Int) < BitVec.toInt (a - b)) = true → (decide (a = b) = true → Q (AV.one (AC.b false)) []) ∧ (decide (a = b) = false → (decide (b - a = BitVec.ofInt (32 : Nat) (2147483648 : Int)) = true → Q (AV.one (AC.b false)) []) ∧ (decide (b - a = BitVec.ofInt (32 : Nat) (2147483648 : Int)) = false → ((false != true) = true → Q (AV.one (AC.b true)) []) ∧ ((false != true) = false → Q (AV.one (AC.b false)) [])))) ∧ (decide ((0 : Int) < BitVec.toInt (a - b)) = false → (decide (a = b) = true → Q (AV.one (AC.b true)) []) ∧ (decide (a = b) = false → (decide (b - a = BitVec.ofInt (32 : Nat) (2147483648 : Int)) = true → Q (AV.one (AC.b true)) []) ∧ (decide (b - a = BitVec.ofInt (32 : Nat) (2147483648 : Int)) = false → ((false != false) = true → Q (AV.one (AC.b true)) []) ∧ ((false != false) = false → Q (AV.one (AC.b false)) [])))))) : KRun X 9 0 Q ([.code (bodyOf Try.f9)]) (slots [.one (.u32 a), .one (.u32 b)] Try.f9.ntmps) [] :=
  wpRun_ok (hX ▸ env01_ok U4) (hX ▸ env01_call U4_ok) (hX ▸ mixed) (hX ▸ ok9) LK_ok (cast (show ((decide ((0 : Int) < BitVec.toInt (b - a)) = true → (decide ((0 : Int) < BitVec.toInt (a - b)) = true → (decide (a = b) = true → Q (AV.one (AC.b false)) []) ∧ (decide (a = b) = false → (decide (b - a = BitVec.ofInt (32 : Nat) (2147483648 : Int)) = true → Q (AV.one (AC.b false)) []) ∧ (decide (b - a = BitVec.ofInt (32 : Nat) (2147483648 : Int)) = false → ((true != true) = true → Q (AV.one (AC.b true)) []) ∧ ((true != true) = false → Q (AV.one (AC.b false)) [])))) ∧ (decide ((0 : Int) < BitVec.toInt (a - b)) = false → (decide (a = b) = true → Q (AV.one (AC.b false)) []) ∧ (decide (a = b) = false → (decide (b - a = BitVec.ofInt (32 : Nat) (2147483648 : Int)) = true → Q (AV.one (AC.b false)) []) ∧ (decide (b - a = BitVec.ofInt (32 : Nat) (2147483648 : Int)) = false → ((true != false) = true → Q (AV.one (AC.b true)) []) ∧ ((true != false) = false → Q (AV.one (AC.b false)) []))))) ∧ (decide ((0 : Int) < BitVec.toInt (b - a)) = false → (decide ((0 : Int) < BitVec.toInt (a - b)) = true → (decide (a = b) = true → Q (AV.one (AC.b false)) []) ∧ (decide (a = b) = false → (decide (b - a = BitVec.ofInt (32 : Nat) (2147483648 : Int)) = true → Q (AV.one (AC.b false)) []) ∧ (decide (b - a = BitVec.ofInt (32 : Nat) (2147483648 : Int)) = false → ((false != true) = true → Q (AV.one (AC.b true)) []) ∧ ((false != true) = false → Q (AV.one (AC.b false)) [])))) ∧ (decide ((0 : Int) < BitVec.toInt (a - b)) = false → (decide (a = b) = true → Q (AV.one (AC.b true)) []) ∧ (decide (a = b) = false → (decide (b - a = BitVec.ofInt (32 : Nat) (2147483648 : Int)) = true → Q (AV.one (AC.b true)) []) ∧ (decide (b - a = BitVec.ofInt (32 : Nat) (2147483648 : Int)) = false → ((false != false) = true → Q (AV.one (AC.b true)) []) ∧ ((false != false) = false → Q (AV.one (AC.b false)) [])))))) = wpRun (env01 U4) [9, 12, 15, 20, 33] [] false (RS.mk Try.f9.results.toList 0 (CS.mk [] [])) (LK X 9 0 Q true []) Q 2000 ([.code (bodyOf Try.f9)]) (slots [.one (.u32 a), .one (.u32 b)] Try.f9.ntmps) [] by kernel_rfl) h)
theorem vc10 {X : Ctx} {Q : AV → Mem → Prop} (hX : X.P = Try.prog) (a : BitVec 64) (k : Int) (h : (decide (k = (-2147483648 : Int)) = true → Q (AV.one (AC.b true)) []) ∧ (decide (k = (-2147483648 : Int)) = false → (decide ((0 : Int) < k) = true → (decide (a + BitVec.ofInt (64 : Nat) (BitVec.toInt (BitVec.ofInt (64 : Nat) k)) < a) = true → Q (AV.one (AC.b true)) []) ∧ (decide (a + BitVec.ofInt (64 : Nat) (BitVec.toInt (BitVec.ofInt (64 : Nat) k)) < a) = false → (decide (k < (0 : Int)) = true → (decide (a < a + BitVec.ofInt (64 : Nat) (BitVec.toInt (BitVec.ofInt (64 : Nat) k))) = true → Q (AV.one (AC.b true)) []) ∧ (decide (a < a + BitVec.ofInt (64 : Nat) (BitVec.toInt (BitVec.ofInt (64 : Nat) k))) = false → (decide (long (a + BitVec.ofInt (64 : Nat) (BitVec.toInt (BitVec.ofInt (64 : Nat) k))) (BitVec.setWidth (32 : Nat) a) = a) = true → (decide (long a (BitVec.setWidth (32 : Nat) a) = a) = true → Q (AV.one (AC.b true)) []) ∧ (decide (long a (BitVec.setWidth (32 : Nat) a) = a) = false → Q (AV.one (AC.b false)) [])) ∧ (decide (long (a + BitVec.ofInt (64 : Nat) (BitVec.toInt (BitVec.ofInt (64 : Nat) k))) (BitVec.setWidth (32 : Nat) a) = a) = false → Q (AV.one (AC.b false)) []))) ∧ (decide (k < (0 : Int)) = false → (decide (long (a + BitVec.ofInt (64 : Nat) (BitVec.toInt (BitVec.ofInt (64 : Nat) k))) (BitVec.setWidth (32 : Nat) a) = a) = true → (decide (long a (BitVec.setWidth (32 : Nat) a) = a) = true → Q (AV.one (AC.b true)) []) ∧ (decide (long a (BitVec.setWidth (32 : Nat) a) = a) = false → Q (AV.one (AC.b false)) [])) ∧ (decide (long (a + BitVec.ofInt (64 : Nat) (BitVec.toInt (BitVec.ofInt (64 : Nat) k))) (BitVec.setWidth (32 : Nat) a) = a) = false → Q (AV.one (AC.b false)) [])))) ∧ (decide ((0 : Int) < k) = false → (decide (k < (0 : Int)) = true → (decide (a < a + BitVec.ofInt (64 : Nat) (BitVec.toInt (BitVec.ofInt (64 : Nat) k))) = true → Q (AV.one (AC.b true)) []) ∧ (decide (a < a + BitVec.ofInt (64 : Nat) (BitVec.toInt (BitVec.ofInt (64 : Nat) k))) = false → (decide (long (a + BitVec.ofInt (64 : Nat) (BitVec.toInt (BitVec.ofInt (64 : Nat) k))) (BitVec.setWidth (32 : Nat) a) = a) = true → (decide (long a (BitVec.setWidth (32 : Nat) a) = a) = true → Q (AV.one (AC.b true)) []) ∧ (decide (long a (BitVec.setWidth (32 : Nat) a) = a) = false → Q (AV.one (AC.b false)) [])) ∧ (decide (long (a + BitVec.ofInt (64 : Nat) (BitVec.toInt (BitVec.ofInt (64 : Nat) k))) (BitVec.setWidth (32 : Nat) a) = a) = false → Q (AV.one (AC.b false)) []))) ∧ (decide (k < (0 : Int)) = false → (decide (long (a + BitVec.ofInt (64 : Nat) (BitVec.toInt (BitVec.ofInt (64 : Nat) k))) (BitVec.setWidth (32 : Nat) a) = a) = true → (decide (long a (BitVec.setWidth (32 : Nat) a) = a) = true → Q (AV.one (AC.b true)) []) ∧ (decide (long a (BitVec.setWidth (32 : Nat) a) = a) = false → Q (AV.one (AC.b false)) [])) ∧ (decide (long (a + BitVec.ofInt (64 : Nat) (BitVec.toInt (BitVec.ofInt (64 : Nat) k))) (BitVec.setWidth (32 : Nat) a) = a) = false → Q (AV.one (AC.b false)) []))))) : KRun X 10 0 Q ([.code (bodyOf Try.f10)]) (slots [.one (.u64 a), .one (.i32 k)] Try.f10.ntmps) [] :=
  wpRun_ok (hX ▸ env01_ok U4) (hX ▸ env01_call U4_ok) (hX ▸ mixed) (hX ▸ ok10) LK_ok (cast (show ((decide (k = (-2147483648 : Int)) = true → Q (AV.one (AC.b true)) []) ∧ (decide (k = (-2147483648 : Int)) = false → (decide ((0 : Int) < k) = true → (decide (a + BitVec.ofInt (64 : Nat) (BitVec.toInt (BitVec.ofInt (64 : Nat) k)) < a) = true → Q (AV.one (AC.b true)) []) ∧ (decide (a + BitVec.ofInt (64 : Nat) (BitVec.toInt (BitVec.ofInt (64 : Nat) k)) < a) = false → (decide (k < (0 : Int)) = true → (decide (a < a + BitVec.ofInt (64 : Nat) (BitVec.toInt (BitVec.ofInt (64 : Nat) k))) = true → Q (AV.one (AC.b true)) []) ∧ (decide (a < a + BitVec.ofInt (64 : Nat) (BitVec.toInt (BitVec.ofInt (64 : Nat) k))) = false → (decide (long (a + BitVec.ofInt (64 : Nat) (BitVec.toInt (BitVec.ofInt (64 : Nat) k))) (BitVec.setWidth (32 : Nat) a) = a) = true → (decide (long a (BitVec.setWidth (32 : Nat) a) = a) = true → Q (AV.one (AC.b true)) []) ∧ (decide (long a (BitVec.setWidth (32 : Nat) a) = a) = false → Q (AV.one (AC.b false)) [])) ∧ (decide (long (a + BitVec.ofInt (64 : Nat) (BitVec.toInt (BitVec.ofInt (64 : Nat) k))) (BitVec.setWidth (32 : Nat) a) = a) = false → Q (AV.one (AC.b false)) []))) ∧ (decide (k < (0 : Int)) = false → (decide (long (a + BitVec.ofInt (64 : Nat) (BitVec.toInt (BitVec.ofInt (64 : Nat) k))) (BitVec.setWidth (32 : Nat) a) = a) = true → (decide (long a (BitVec.setWidth (32 : Nat) a) = a) = true → Q (AV.one (AC.b true)) []) ∧ (decide (long a (BitVec.setWidth (32 : Nat) a) = a) = false → Q (AV.one (AC.b false)) [])) ∧ (decide (long (a + BitVec.ofInt (64 : Nat) (BitVec.toInt (BitVec.ofInt (64 : Nat) k))) (BitVec.setWidth (32 : Nat) a) = a) = false → Q (AV.one (AC.b false)) [])))) ∧ (decide ((0 : Int) < k) = false → (decide (k < (0 : Int)) = true → (decide (a < a + BitVec.ofInt (64 : Nat) (BitVec.toInt (BitVec.ofInt (64 : Nat) k))) = true → Q (AV.one (AC.b true)) []) ∧ (decide (a < a + BitVec.ofInt (64 : Nat) (BitVec.toInt (BitVec.ofInt (64 : Nat) k))) = false → (decide (long (a + BitVec.ofInt (64 : Nat) (BitVec.toInt (BitVec.ofInt (64 : Nat) k))) (BitVec.setWidth (32 : Nat) a) = a) = true → (decide (long a (BitVec.setWidth (32 : Nat) a) = a) = true → Q (AV.one (AC.b true)) []) ∧ (decide (long a (BitVec.setWidth (32 : Nat) a) = a) = false → Q (AV.one (AC.b false)) [])) ∧ (decide (long (a + BitVec.ofInt (64 : Nat) (BitVec.toInt (BitVec.ofInt (64 : Nat) k))) (BitVec.setWidth (32 : Nat) a) = a) = false → Q (AV.one (AC.b false)) []))) ∧ (decide (k < (0 : Int)) = false → (decide (long (a + BitVec.ofInt (64 : Nat) (BitVec.toInt (BitVec.ofInt (64 : Nat) k))) (BitVec.setWidth (32 : Nat) a) = a) = true → (decide (long a (BitVec.setWidth (32 : Nat) a) = a) = true → Q (AV.one (AC.b true)) []) ∧ (decide (long a (BitVec.setWidth (32 : Nat) a) = a) = false → Q (AV.one (AC.b false)) [])) ∧ (decide (long (a + BitVec.ofInt (64 : Nat) (BitVec.toInt (BitVec.ofInt (64 : Nat) k))) (BitVec.setWidth (32 : Nat) a) = a) = false → Q (AV.one (AC.b false)) []))))) = wpRun (env01 U4) [12, 15, 19, 24, 28, 37, 44] [] false (RS.mk Try.f10.results.toList 0 (CS.mk [] [])) (LK X 10 0 Q true []) Q 2000 ([.code (bodyOf Try.f10)]) (slots [.one (.u64 a), .one (.i32 k)] Try.f10.ntmps) [] by kernel_rfl) h)
theorem vc14 {X : Ctx} {Q : AV → Mem → Prop} (hX : X.P = Try.prog) (a b c d y : BitVec 32) (h : ((0 : Int) ≤ (0 : Int) ∧ (0 : Int) < (↑(4 : Nat) : Int)) ∧ ((0 : Int) ≤ (1 : Int) ∧ (1 : Int) < (↑(4 : Nat) : Int)) ∧ ((0 : Int) ≤ (2 : Int) ∧ (2 : Int) < (↑(4 : Nat) : Int)) ∧ ((0 : Int) ≤ (3 : Int) ∧ (3 : Int) < (↑(4 : Nat) : Int)) ∧ (decide (BitVec.toInt (b - a) = BitVec.toInt (b + y - (a + y))) = true → ((decide (a - b < c) == decide (a + y - (b + y) < c)) = true → ((decide (a - b - BitVec.ofInt (32 : Nat) (1 : Int) < c - b) == decide (a + y - (b + y) - BitVec.ofInt (32 : Nat) (1 : Int) < c + y - (b + y))) = true → ((accept a b c d == accept (a + y) b (c + y) d) = true → (2 : Nat) ≤ (2 : Nat) ∧ Flat (List.take (2 : Nat) (List.drop (0 : Nat) [AC.u32 b, AC.u32 c])) ∧ allU32 (List.take (2 : Nat) (List.drop (0 : Nat) [AC.u32 b, AC.u32 c])) ∧ ((2 : Nat) = (2 : Nat) ∧ (2 : Nat) < (2 : Nat) ^ (62 : Nat)) ∧ (2 : Nat) ≤ (2 : Nat) ∧ Flat (List.take (2 : Nat) (List.drop (0 : Nat) [AC.u32 (b + y), AC.u32 (c + y)])) ∧ allU32 (List.take (2 : Nat) (List.drop (0 : Nat) [AC.u32 (b + y), AC.u32 (c + y)])) ∧ ((2 : Nat) = (2 : Nat) ∧ (2 : Nat) < (2 : Nat) ^ (62 : Nat)) ∧ (decide (maxF a (List.map asU32 (List.take (2 : Nat) (List.drop (0 : Nat) [AC.u32 b, AC.u32 c]))) + y = maxF (a + y) (List.map asU32 (List.take (2 : Nat) (List.drop (0 : Nat) [AC.u32 (b + y), AC.u32 (c + y)])))) = true → Q (AV.one (AC.b true)) []) ∧ (decide (maxF a (List.map asU32 (List.take (2 : Nat) (List.drop (0 : Nat) [AC.u32 b, AC.u32 c]))) + y = maxF (a + y) (List.map asU32 (List.take (2 : Nat) (List.drop (0 : Nat) [AC.u32 (b + y), AC.u32 (c + y)])))) = false → Q (AV.one (AC.b false)) [])) ∧ ((accept a b c d == accept (a + y) b (c + y) d) = false → Q (AV.one (AC.b false)) [])) ∧ ((decide (a - b - BitVec.ofInt (32 : Nat) (1 : Int) < c - b) == decide (a + y - (b + y) - BitVec.ofInt (32 : Nat) (1 : Int) < c + y - (b + y))) = false → Q (AV.one (AC.b false)) [])) ∧ ((decide (a - b < c) == decide (a + y - (b + y) < c)) = false → Q (AV.one (AC.b false)) [])) ∧ (decide (BitVec.toInt (b - a) = BitVec.toInt (b + y - (a + y))) = false → Q (AV.one (AC.b false)) [])) : KRun X 14 0 Q ([.code (bodyOf Try.f14)]) (slots [.agg [.u32 a, .u32 b, .u32 c, .u32 d], .one (.u32 y)] Try.f14.ntmps) [] :=
  wpRun_ok (hX ▸ env01_ok U4) (hX ▸ env01_call U4_ok) (hX ▸ mixed) (hX ▸ ok14) LK_ok (cast (show (((0 : Int) ≤ (0 : Int) ∧ (0 : Int) < (↑(4 : Nat) : Int)) ∧ ((0 : Int) ≤ (1 : Int) ∧ (1 : Int) < (↑(4 : Nat) : Int)) ∧ ((0 : Int) ≤ (2 : Int) ∧ (2 : Int) < (↑(4 : Nat) : Int)) ∧ ((0 : Int) ≤ (3 : Int) ∧ (3 : Int) < (↑(4 : Nat) : Int)) ∧ (decide (BitVec.toInt (b - a) = BitVec.toInt (b + y - (a + y))) = true → ((decide (a - b < c) == decide (a + y - (b + y) < c)) = true → ((decide (a - b - BitVec.ofInt (32 : Nat) (1 : Int) < c - b) == decide (a + y - (b + y) - BitVec.ofInt (32 : Nat) (1 : Int) < c + y - (b + y))) = true → ((accept a b c d == accept (a + y) b (c + y) d) = true → (2 : Nat) ≤ (2 : Nat) ∧ Flat (List.take (2 : Nat) (List.drop (0 : Nat) [AC.u32 b, AC.u32 c])) ∧ allU32 (List.take (2 : Nat) (List.drop (0 : Nat) [AC.u32 b, AC.u32 c])) ∧ ((2 : Nat) = (2 : Nat) ∧ (2 : Nat) < (2 : Nat) ^ (62 : Nat)) ∧ (2 : Nat) ≤ (2 : Nat) ∧ Flat (List.take (2 : Nat) (List.drop (0 : Nat) [AC.u32 (b + y), AC.u32 (c + y)])) ∧ allU32 (List.take (2 : Nat) (List.drop (0 : Nat) [AC.u32 (b + y), AC.u32 (c + y)])) ∧ ((2 : Nat) = (2 : Nat) ∧ (2 : Nat) < (2 : Nat) ^ (62 : Nat)) ∧ (decide (maxF a (List.map asU32 (List.take (2 : Nat) (List.drop (0 : Nat) [AC.u32 b, AC.u32 c]))) + y = maxF (a + y) (List.map asU32 (List.take (2 : Nat) (List.drop (0 : Nat) [AC.u32 (b + y), AC.u32 (c + y)])))) = true → Q (AV.one (AC.b true)) []) ∧ (decide (maxF a (List.map asU32 (List.take (2 : Nat) (List.drop (0 : Nat) [AC.u32 b, AC.u32 c]))) + y = maxF (a + y) (List.map asU32 (List.take (2 : Nat) (List.drop (0 : Nat) [AC.u32 (b + y), AC.u32 (c + y)])))) = false → Q (AV.one (AC.b false)) [])) ∧ ((accept a b c d == accept (a + y) b (c + y) d) = false → Q (AV.one (AC.b false)) [])) ∧ ((decide (a - b - BitVec.ofInt (32 : Nat) (1 : Int) < c - b) == decide (a + y - (b + y) - BitVec.ofInt (32 : Nat) (1 : Int) < c + y - (b + y))) = false → Q (AV.one (AC.b false)) [])) ∧ ((decide (a - b < c) == decide (a + y - (b + y) < c)) = false → Q (AV.one (AC.b false)) [])) ∧ (decide (BitVec.toInt (b - a) = BitVec.toInt (b + y - (a + y))) = false → Q (AV.one (AC.b false)) [])) = wpRun (env01 U4) [27, 41, 58, 75, 96] [] false (RS.mk Try.f14.results.toList 0 (CS.mk [] [])) (LK X 14 0 Q true []) Q 2000 ([.code (bodyOf Try.f14)]) (slots [.agg [.u32 a, .u32 b, .u32 c, .u32 d], .one (.u32 y)] Try.f14.ntmps) [] by kernel_rfl) h)
theorem vc15 {X : Ctx} {Q : AV → Mem → Prop} (hX : X.P = Try.prog) (n a b : BitVec 32) (h : ((decide (n - a < b) == inW n a b) = true → ((decide (n - a - BitVec.ofInt (32 : Nat) (1 : Int) < b - a) == btw n a b) = true → ((ovl n a b (b + BitVec.ofInt (32 : Nat) (1000 : Int)) == ovl n a b (b + BitVec.ofInt (32 : Nat) (1000 : Int))) = true → ((ovl n a a b == ovl n a a b) = true → Q (AV.one (AC.b true)) []) ∧ ((ovl n a a b == ovl n a a b) = false → Q (AV.one (AC.b false)) [])) ∧ ((ovl n a b (b + BitVec.ofInt (32 : Nat) (1000 : Int)) == ovl n a b (b + BitVec.ofInt (32 : Nat) (1000 : Int))) = false → Q (AV.one (AC.b false)) [])) ∧ ((decide (n - a - BitVec.ofInt (32 : Nat) (1 : Int) < b - a) == btw n a b) = false → Q (AV.one (AC.b false)) [])) ∧ ((decide (n - a < b) == inW n a b) = false → Q (AV.one (AC.b false)) [])) : KRun X 15 0 Q ([.code (bodyOf Try.f15)]) (slots [.one (.u32 n), .one (.u32 a), .one (.u32 b)] Try.f15.ntmps) [] :=
  wpRun_ok (hX ▸ env01_ok U4) (hX ▸ env01_call U4_ok) (hX ▸ mixed) (hX ▸ ok15) LK_ok (cast (show (((decide (n - a < b) == inW n a b) = true → ((decide (n - a - BitVec.ofInt (32 : Nat) (1 : Int) < b - a) == btw n a b) = true → ((ovl n a b (b + BitVec.ofInt (32 : Nat) (1000 : Int)) == ovl n a b (b + BitVec.ofInt (32 : Nat) (1000 : Int))) = true → ((ovl n a a b == ovl n a a b) = true → Q (AV.one (AC.b true)) []) ∧ ((ovl n a a b == ovl n a a b) = false → Q (AV.one (AC.b false)) [])) ∧ ((ovl n a b (b + BitVec.ofInt (32 : Nat) (1000 : Int)) == ovl n a b (b + BitVec.ofInt (32 : Nat) (1000 : Int))) = false → Q (AV.one (AC.b false)) [])) ∧ ((decide (n - a - BitVec.ofInt (32 : Nat) (1 : Int) < b - a) == btw n a b) = false → Q (AV.one (AC.b false)) [])) ∧ ((decide (n - a < b) == inW n a b) = false → Q (AV.one (AC.b false)) [])) = wpRun (env01 U4) [28, 38, 47, 56] [] false (RS.mk Try.f15.results.toList 0 (CS.mk [] [])) (LK X 15 0 Q true []) Q 2000 ([.code (bodyOf Try.f15)]) (slots [.one (.u32 n), .one (.u32 a), .one (.u32 b)] Try.f15.ntmps) [] by kernel_rfl) h)

theorem eqb_false {b : Bool} {P : Prop} (h : (b == b) = false) : P := by simp at h
theorem deq_false {α : Type} [DecidableEq α] {a : α} {P : Prop} (h : decide (a = a) = false) : P := by simp at h

theorem s6 (a b : BitVec 32) (bs : List (BitVec 32)) : Spec Try.prog 6 [.one (.u32 a), .one (.u32 b), .one (.xs (bs.map .u32) 0 bs.length)] [] (Is (.one (.b true))) := by
  refine Spec.of_run ok6 fun X hX => vc6 hX a b _ _ ⟨fun _ => rfl, fun h => ?_⟩
  have h : ¬ (1000 : Int) < bs.length := of_decide_eq_false h
  have e1 : decide ((0 : Int) < BitVec.toInt (b - a)) = bfr a b := rfl
  rw [e1]
  have hall : allU32 (bs.map AC.u32) := by
    have e : (bs.map AC.u32).map asU32 = bs := by rw [List.map_map]; exact List.map_id bs
    unfold allU32
    rw [e]
  have ht : List.take (bs.length * 1) (List.drop 0 (bs.map AC.u32)) = bs.map AC.u32 := by rw [List.drop_zero, List.take_of_length_le (by simp)]
  rw [ht]
  have hl : (bs.map AC.u32).length = bs.length := by simp
  have hle : 0 + bs.length * 1 ≤ (bs.map AC.u32).length := by rw [hl]; omega
  have hb : bs.length < 2 ^ 62 := by omega
  exact ⟨fun _ => ⟨fun _ => ⟨hle, hall, ⟨hl, hb⟩, hle, hall, ⟨hl, hb⟩, fun _ => rfl, deq_false⟩, eqb_false⟩, deq_false⟩

theorem s7 (a : BitVec 64) (b : BitVec 32) : Spec Try.prog 7 [.one (.u64 a), .one (.u32 b)] [] (Is (.one (.b true))) :=
  Spec.of_run ok7 fun X hX => vc7 hX a b ⟨fun _ => rfl, deq_false⟩

theorem s8 (a b c d : BitVec 32) : Spec Try.prog 8 [.agg [.u32 a, .u32 b], .one (.u32 c), .one (.u32 d)] [] (Is (.one (.b true))) :=
  Spec.of_run ok8 fun X hX => vc8 hX a b c d ⟨by decide, by decide, by decide, by decide, fun _ => rfl, eqb_false⟩

theorem neg_sub32 (a b : BitVec 32) : a - b = -(b - a) := by
  apply BitVec.eq_of_toNat_eq
  simp only [BitVec.toNat_sub, BitVec.toNat_neg]
  have := a.isLt
  have := b.isLt
  omega
theorem key9 {a b : BitVec 32} (h1 : ¬ a = b) : (b - a = 2147483648#32 → ¬ 0 < (b - a).toInt ∧ ¬ 0 < (a - b).toInt) ∧ (b - a ≠ 2147483648#32 → (0 < (b - a).toInt ↔ ¬ 0 < (a - b).toInt)) := by
  rw [neg_sub32 a b]
  have h0 := sub_ne (fun e => h1 e.symm : ¬ b = a)
  generalize b - a = x at *
  have h3 := x.isLt
  refine ⟨fun h => by subst h; decide, fun h => ?_⟩
  have h5 : x.toNat ≠ 2147483648 := fun h0 => h (BitVec.eq_of_toNat_eq (by simpa using h0))
  simp only [BitVec.toInt_eq_toNat_cond, BitVec.toNat_neg]
  omega
theorem s9 (a b : BitVec 32) : Spec Try.prog 9 [.one (.u32 a), .one (.u32 b)] [] (Is (.one (.b true))) := by
  refine Spec.of_run ok9 fun X hX => vc9 hX a b ?_
  have e : BitVec.ofInt 32 2147483648 = 2147483648#32 := rfl
  rw [e]
  have same : a = b → ¬ 0 < (b - a).toInt := fun h => by subst h; simp
  refine ⟨fun h1 => ⟨fun h2 => ⟨fun h3 => ?_, fun h3 => ⟨fun h4 => ?_, fun h4 => ⟨fun h5 => rfl, fun _ => ?_⟩⟩⟩, fun h2 => ⟨fun h3 => ?_, fun h3 => ⟨fun h4 => ?_, fun h4 => ⟨fun _ => rfl, nofun⟩⟩⟩⟩,
    fun h1 => ⟨fun h2 => ⟨fun h3 => ?_, fun h3 => ⟨fun h4 => ?_, fun h4 => ⟨fun _ => rfl, nofun⟩⟩⟩, fun h2 => ⟨fun _ => rfl, fun h3 => ⟨fun _ => rfl, fun h4 => ⟨nofun, fun _ => ?_⟩⟩⟩⟩⟩
  · exact absurd (of_decide_eq_true h1) (same (of_decide_eq_true h3))
  · exact absurd (of_decide_eq_true h1) ((key9 (of_decide_eq_false h3)).1 (of_decide_eq_true h4)).1
  · exact absurd (of_decide_eq_true h2) (((key9 (of_decide_eq_false h3)).2 (of_decide_eq_false h4)).1 (of_decide_eq_true h1))
  · exact absurd (of_decide_eq_true h1) (same (of_decide_eq_true h3))
  · exact absurd (of_decide_eq_true h1) ((key9 (of_decide_eq_false h3)).1 (of_decide_eq_true h4)).1
  · exact absurd (of_decide_eq_true h2) (by have h := of_decide_eq_true h3; subst h; simp)
  · exact absurd (of_decide_eq_true h2) ((key9 (of_decide_eq_false h3)).1 (of_decide_eq_true h4)).2
  · exact absurd (((key9 (of_decide_eq_false h3)).2 (of_decide_eq_false h4)).2 (of_decide_eq_false h2)) (of_decide_eq_false h1)

/-- a long number is that of its lowest bits, near it -/
theorem lg_back (n : Nat) (k : Int) (hn : n < 18446744073709551616) (h1 : -2147483648 < k) (h2 : k < 2147483648) (h3 : 0 ≤ (n : Int) + k) (h4 : (n : Int) + k < 18446744073709551616) : lgN ((n : Int) + k).toNat (n % 4294967296) = n := by
  obtain ⟨m, hm⟩ : ∃ m : Nat, (n : Int) + k = m := ⟨((n : Int) + k).toNat, by omega⟩
  rw [hm, Int.toNat_natCast]
  have hd : dI m (n % 4294967296) = -k := by
    unfold dI
    dsimp only
    split <;> omega
  unfold lgN
  rw [hd]
  dsimp only
  split
  · omega
  · split <;> omega
theorem long_back (a : BitVec 64) (k : Int) (h1 : -2147483648 < k) (h2 : k < 2147483648) (h3 : 0 ≤ (a.toNat : Int) + k) (h4 : (a.toNat : Int) + k < 18446744073709551616) : long (a + BitVec.ofInt 64 k) (BitVec.setWidth 32 a) = a := by
  apply BitVec.eq_of_toNat_eq
  rw [long_nat, BitVec.toNat_setWidth]
  have : (a + BitVec.ofInt 64 k).toNat = ((a.toNat : Int) + k).toNat := by
    rw [BitVec.toNat_add, i64nat]
    simp only [show (2 : Nat) ^ 64 = 18446744073709551616 from rfl]
    omega
  rw [this]
  exact lg_back a.toNat k a.isLt h1 h2 h3 h4
theorem s10 (a : BitVec 64) (k : Int) (hk : -2147483648 ≤ k ∧ k < 2147483648) : Spec Try.prog 10 [.one (.u64 a), .one (.i32 k)] [] (Is (.one (.b true))) := by
  refine Spec.of_run ok10 fun X hX => vc10 hX a k ?_
  rw [i64id hk.1 (by omega)]
  have hA := a.isLt
  have b0 : long a (BitVec.setWidth 32 a) = a := by
    have := long_back a 0 (by decide) (by decide) (by omega) (by omega)
    simpa using this
  have hn : (a + BitVec.ofInt 64 k).toNat = (((a.toNat : Int) + k) % 18446744073709551616).toNat := by
    rw [BitVec.toNat_add, i64nat]
    simp only [show (2 : Nat) ^ 64 = 18446744073709551616 from rfl]
    omega
  have T : ∀ (x y : BitVec 64), decide (x < y) = false → ¬ x.toNat < y.toNat := fun x y h g => (of_decide_eq_false h) (BitVec.lt_def.2 g)
  have leaf : -2147483648 < k → 0 ≤ (a.toNat : Int) + k → (a.toNat : Int) + k < 18446744073709551616 →
      (decide (long (a + BitVec.ofInt 64 k) (BitVec.setWidth 32 a) = a) = true → (decide (long a (BitVec.setWidth 32 a) = a) = true → Is (.one (.b true)) (.one (.b true)) []) ∧ (decide (long a (BitVec.setWidth 32 a) = a) = false → Is (.one (.b true)) (.one (.b false)) [])) ∧
      (decide (long (a + BitVec.ofInt 64 k) (BitVec.setWidth 32 a) = a) = false → Is (.one (.b true)) (.one (.b false)) []) := by
    intro h1 h2 h3
    exact ⟨fun _ => ⟨fun _ => rfl, fun h => absurd b0 (of_decide_eq_false h)⟩, fun h => absurd (long_back a k h1 hk.2 h2 h3) (of_decide_eq_false h)⟩
  refine ⟨fun _ => rfl, fun h0 => ⟨fun h1 => ⟨fun _ => rfl, fun h2 => ⟨fun h3 => ?_, fun h3 => ?_⟩⟩, fun h1 => ⟨fun h3 => ⟨fun _ => rfl, fun h2 => ?_⟩, fun h3 => ?_⟩⟩⟩
  · exact absurd (of_decide_eq_true h3) (by have := of_decide_eq_true h1; omega)
  · have h0 := of_decide_eq_false h0
    have h1 := of_decide_eq_true h1
    have h2 := T _ _ h2
    rw [hn] at h2
    exact leaf (by omega) (by omega) (by omega)
  · have h0 := of_decide_eq_false h0
    have h3 := of_decide_eq_true h3
    have h2 := T _ _ h2
    rw [hn] at h2
    exact leaf (by omega) (by omega) (by omega)
  · have h0 := of_decide_eq_false h0
    have h1 := of_decide_eq_false h1
    have h3 := of_decide_eq_false h3
    exact leaf (by omega) (by omega) (by omega)

theorem add_sub_add (a b y : BitVec 32) : a + y - (b + y) = a - b := by
  apply BitVec.eq_of_toNat_eq
  simp only [BitVec.toNat_sub, BitVec.toNat_add]
  have := a.isLt
  have := b.isLt
  have := y.isLt
  omega
theorem accept_add (a b c d y : BitVec 32) : accept (a + y) b (c + y) d = accept a b c d := by
  have e : ∀ x : BitVec 32, inW (x + y) (a + y) b = inW x a b := fun x => by unfold inW; rw [add_sub_add]
  have e2 : c + y + d - 1#32 = (c + d - 1#32) + y := by
    apply BitVec.eq_of_toNat_eq
    simp only [BitVec.toNat_sub, BitVec.toNat_add]
    have := c.isLt
    have := d.isLt
    have := y.isLt
    omega
  have e3 : decide (c + y = a + y) = decide (c = a) := decide_eq_decide.2 ⟨fun h => by
    have := congrArg (· - (a + y)) h
    simp only [add_sub_add, BitVec.sub_self] at this
    have h2 := congrArg (· + a) this
    simpa [BitVec.sub_add_cancel] using h2, fun h => by rw [h]⟩
  unfold accept
  rw [e, e2, e, e3]
theorem maxF_add (y : BitVec 32) : ∀ (bs : List (BitVec 32)) (a : BitVec 32), maxF (a + y) (bs.map (· + y)) = maxF a bs + y
  | [], a => rfl
  | b :: bs, a => by
    rw [List.map_cons, maxF_cons, maxF_cons, ← maxF_add y bs]
    have : bfr (a + y) (b + y) = bfr a b := by unfold bfr dif; rw [add_sub_add]
    rw [this]
    congr 1
    split <;> rfl
theorem s14 (a b c d y : BitVec 32) : Spec Try.prog 14 [.agg [.u32 a, .u32 b, .u32 c, .u32 d], .one (.u32 y)] [] (Is (.one (.b true))) := by
  refine Spec.of_run ok14 fun X hX => vc14 hX a b c d y ?_
  have hm := maxF_add y [b, c] a
  have e1 : List.map asU32 (List.take 2 (List.drop 0 [AC.u32 b, AC.u32 c])) = [b, c] := rfl
  have e2 : List.map asU32 (List.take 2 (List.drop 0 [AC.u32 (b + y), AC.u32 (c + y)])) = [b, c].map (· + y) := rfl
  rw [e1, e2, hm, accept_add, add_sub_add, add_sub_add, add_sub_add]
  exact ⟨by decide, by decide, by decide, by decide, fun _ => ⟨fun _ => ⟨fun _ => ⟨fun _ => ⟨by decide, exactFlat rfl, rfl, ⟨rfl, by decide⟩, by decide, exactFlat rfl, rfl, ⟨rfl, by decide⟩, fun _ => rfl, deq_false⟩, eqb_false⟩, eqb_false⟩, eqb_false⟩, deq_false⟩

theorem s15 (n a b : BitVec 32) : Spec Try.prog 15 [.one (.u32 n), .one (.u32 a), .one (.u32 b)] [] (Is (.one (.b true))) :=
  Spec.of_run ok15 fun X hX => vc15 hX n a b ⟨fun _ => ⟨fun _ => ⟨fun _ => ⟨fun _ => rfl, eqb_false⟩, eqb_false⟩, eqb_false⟩, eqb_false⟩

theorem s6w (a b : BitVec 32) (bs : List (BitVec 32)) : Spec Try.prog 6 [.one (.u32 a), .one (.u32 b), .one (.xs (List.flatMap (Sh.enc .u32) bs) 0 bs.length)] [] (Is (.one (.b true))) := by
  rw [fm_u32]; exact s6 a b bs
theorem s8w (l : List (BitVec 32)) (c d : BitVec 32) (h : (Sh.ar 2 .u32).wf l) : Spec Try.prog 8 [.agg (List.flatMap (Sh.enc .u32) l), .one (.u32 c), .one (.u32 d)] [] (Is (.one (.b true))) := by
  obtain ⟨a, b, rfl⟩ := two_of h.1
  exact s8 a b c d
theorem s14w (l : List (BitVec 32)) (y : BitVec 32) (h : (Sh.ar 4 .u32).wf l) : Spec Try.prog 14 [.agg (List.flatMap (Sh.enc .u32) l), .one (.u32 y)] [] (Is (.one (.b true))) := by
  obtain ⟨a, b, c, d, rfl⟩ := four_of h.1
  exact s14 a b c d y
end DH
