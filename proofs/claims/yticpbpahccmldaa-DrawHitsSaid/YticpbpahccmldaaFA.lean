/- Walks of functions, each by evaluation: what each returns; with the layer beneath. -/
import Derived.Test.YticpbpahccmldaaLC
set_option linter.unusedVariables false
set_option linter.unusedSimpArgs false
namespace DH
open Go
/-! Numbers with a point that are not below 0: their bits are in order. -/
def fB : Nat := 4503599627370496
def fI : Nat := 9218868437227405312
def fS : Nat := 9223372036854775808
def fONE : Nat := 4607182418800017408
theorem dS : Ieee.double.signWeight = 9223372036854775808 := by decide
theorem dB : Ieee.double.binade = 4503599627370496 := by decide
theorem dI : Ieee.double.infRung = 9218868437227405312 := by decide
theorem dL : Ieee.double.leastPlace = -1074 := by decide
theorem rd_sub {r : Nat} (h : r < 4503599627370496) : Ieee.double.read r = .number false r (-1074) := by
  unfold Ieee.Format.read
  simp only [dS, dB, dI, dL]
  have h1 : r / 9223372036854775808 % 2 = 0 := by omega
  have h2 : r % 9223372036854775808 = r := by omega
  rw [h1, h2, if_pos h]
  rfl
theorem rd_nrm {r : Nat} (h : 4503599627370496 ≤ r) (h2 : r < 9218868437227405312) : Ieee.double.read r = .number false (4503599627370496 + r % 4503599627370496) (-1074 + (r / 4503599627370496 - 1 : Nat)) := by
  unfold Ieee.Format.read
  simp only [dS, dB, dI, dL]
  have h1 : r / 9223372036854775808 % 2 = 0 := by omega
  have h3 : r % 9223372036854775808 = r := by omega
  rw [h1, h3, if_neg (by omega), if_pos h2]
  rfl
theorem rd_inf : Ieee.double.read 9218868437227405312 = .infinity false := by decide
theorem rd_nan {r : Nat} (h : 9218868437227405312 < r) (h2 : r < 9223372036854775808) : Ieee.double.read r = .nan false (r - 9218868437227405312) := by
  unfold Ieee.Format.read
  simp only [dS, dB, dI, dL]
  have h1 : r / 9223372036854775808 % 2 = 0 := by omega
  have h3 : r % 9223372036854775808 = r := by omega
  rw [h1, h3, if_neg (by omega), if_neg (by omega), if_neg (by omega)]
  rfl
/-- how great a number is, in units of the least one -/
def va (r : Nat) : Nat := if r < 4503599627370496 then r else (4503599627370496 + r % 4503599627370496) * 2 ^ (r / 4503599627370496 - 1)
theorem va_lt {x y : Nat} (h : x < y) : va x < va y := by
  unfold va
  by_cases hx : x < 4503599627370496
  · rw [if_pos hx]
    by_cases hy : y < 4503599627370496
    · rw [if_pos hy]; exact h
    · rw [if_neg hy]
      have : 1 ≤ 2 ^ (y / 4503599627370496 - 1) := Nat.one_le_two_pow
      calc x < 4503599627370496 + y % 4503599627370496 := by omega
        _ ≤ (4503599627370496 + y % 4503599627370496) * 2 ^ (y / 4503599627370496 - 1) := Nat.le_mul_of_pos_right _ this
  · rw [if_neg hx, if_neg (by omega)]
    rcases Nat.lt_or_ge (x / 4503599627370496) (y / 4503599627370496) with he | he
    · have e1 : (4503599627370496 + x % 4503599627370496) * 2 ^ (x / 4503599627370496 - 1) < 2 * 4503599627370496 * 2 ^ (x / 4503599627370496 - 1) := Nat.mul_lt_mul_of_pos_right (by omega) (Nat.two_pow_pos _)
      have e2 : 2 * 4503599627370496 * 2 ^ (x / 4503599627370496 - 1) = 4503599627370496 * 2 ^ (x / 4503599627370496) := by
        have : x / 4503599627370496 = (x / 4503599627370496 - 1) + 1 := by omega
        conv => rhs; rw [this, Nat.pow_succ]
        rw [Nat.mul_comm 2, Nat.mul_assoc, Nat.mul_comm 2]
      have e3 : 4503599627370496 * 2 ^ (x / 4503599627370496) ≤ 4503599627370496 * 2 ^ (y / 4503599627370496 - 1) := Nat.mul_le_mul_left _ (Nat.pow_le_pow_right (by decide) (by omega))
      have e4 : 4503599627370496 * 2 ^ (y / 4503599627370496 - 1) ≤ (4503599627370496 + y % 4503599627370496) * 2 ^ (y / 4503599627370496 - 1) := Nat.mul_le_mul_right _ (by omega)
      omega
    · have he : y / 4503599627370496 = x / 4503599627370496 := by omega
      rw [he]
      exact Nat.mul_lt_mul_of_pos_right (by omega) (Nat.two_pow_pos _)
theorem va_inj {x y : Nat} (h : va x = va y) : x = y := by
  rcases Nat.lt_trichotomy x y with g | g | g
  · have := va_lt g; omega
  · exact g
  · have := va_lt g; omega
/-- a number that is not below 0, taken apart -/
theorem rd_fin {r : Nat} (h : r < 9218868437227405312) : ∃ m : Nat, ∃ e : Nat, Ieee.double.read r = .number false m (-1074 + (e : Int)) ∧ va r = m * 2 ^ e := by
  by_cases hb : r < 4503599627370496
  · exact ⟨r, 0, by rw [rd_sub hb]; rfl, by unfold va; rw [if_pos hb, Nat.pow_zero, Nat.mul_one]⟩
  · exact ⟨_, _, rd_nrm (by omega) h, by unfold va; rw [if_neg hb]⟩
theorem cmp_of {A B : Int} {x y : Nat} (h1 : A < B ↔ x < y) (h2 : A = B ↔ x = y) : compare A B = compare x y := by
  show compareOfLessAndEq A B = compareOfLessAndEq x y
  unfold compareOfLessAndEq
  simp only [h1, h2]
theorem fOrd_fin {x y : Nat} (hx : x < 9218868437227405312) (hy : y < 9218868437227405312) : fOrd x y = some (compare x y) := by
  obtain ⟨m, i, r1, v1⟩ := rd_fin hx
  obtain ⟨n, j, r2, v2⟩ := rd_fin hy
  show (Ieee.double.read x).order (Ieee.double.read y) = _
  rw [r1, r2]
  show some (compare (Ieee.signed false m ((-1074 + (i : Int)) - min (-1074 + (i : Int)) (-1074 + (j : Int))).toNat) (Ieee.signed false n ((-1074 + (j : Int)) - min (-1074 + (i : Int)) (-1074 + (j : Int))).toNat)) = _
  have e1 : ((-1074 + (i : Int)) - min (-1074 + (i : Int)) (-1074 + (j : Int))).toNat = i - min i j := by omega
  have e2 : ((-1074 + (j : Int)) - min (-1074 + (i : Int)) (-1074 + (j : Int))).toNat = j - min i j := by omega
  rw [e1, e2]
  have s1 : Ieee.signed false m (i - min i j) = ((m * 2 ^ (i - min i j) : Nat) : Int) := by show ((m <<< (i - min i j) : Nat) : Int) = _; rw [Nat.shiftLeft_eq]
  have s2 : Ieee.signed false n (j - min i j) = ((n * 2 ^ (j - min i j) : Nat) : Int) := by show ((n <<< (j - min i j) : Nat) : Int) = _; rw [Nat.shiftLeft_eq]
  rw [s1, s2]
  have p1 : va x = m * 2 ^ (i - min i j) * 2 ^ (min i j) := by rw [v1, Nat.mul_assoc, ← Nat.pow_add, Nat.sub_add_cancel (Nat.min_le_left i j)]
  have p2 : va y = n * 2 ^ (j - min i j) * 2 ^ (min i j) := by rw [v2, Nat.mul_assoc, ← Nat.pow_add, Nat.sub_add_cancel (Nat.min_le_right i j)]
  have hp : 0 < 2 ^ (min i j) := Nat.two_pow_pos _
  generalize m * 2 ^ (i - min i j) = A at *
  generalize n * 2 ^ (j - min i j) = B at *
  generalize 2 ^ (min i j) = C at *
  congr 1
  refine cmp_of ?_ ?_
  · rw [Int.ofNat_lt]
    constructor
    · intro h
      have : va x < va y := by rw [p1, p2]; exact Nat.mul_lt_mul_of_pos_right h hp
      rcases Nat.lt_trichotomy x y with g | g | g
      · exact g
      · subst g; omega
      · have := va_lt g; omega
    · intro h
      have := va_lt h
      rw [p1, p2] at this
      exact Nat.lt_of_mul_lt_mul_right this
  · constructor
    · intro h
      have h := Int.ofNat.inj h
      exact va_inj (by rw [p1, p2, h])
    · intro h
      subst h
      have := p1.symm.trans p2
      rw [Nat.eq_of_mul_eq_mul_right hp this]
theorem fOrd_pos {x y : Nat} (hx : x ≤ 9218868437227405312) (hy : y ≤ 9218868437227405312) : fOrd x y = some (compare x y) := by
  rcases Nat.lt_or_ge x 9218868437227405312 with h1 | h1
  · rcases Nat.lt_or_ge y 9218868437227405312 with h2 | h2
    · exact fOrd_fin h1 h2
    · have h2 : y = 9218868437227405312 := by omega
      subst h2
      obtain ⟨m, i, r1, v1⟩ := rd_fin h1
      show (Ieee.double.read x).order (Ieee.double.read _) = _
      rw [r1, rd_inf]
      show some Ordering.lt = _
      congr 1
      show _ = compareOfLessAndEq x _
      unfold compareOfLessAndEq
      rw [if_pos h1]
  · have h1 : x = 9218868437227405312 := by omega
    subst h1
    rcases Nat.lt_or_ge y 9218868437227405312 with h2 | h2
    · obtain ⟨m, i, r1, v1⟩ := rd_fin h2
      show (Ieee.double.read _).order (Ieee.double.read y) = _
      rw [r1, rd_inf]
      show some Ordering.gt = _
      congr 1
      show _ = compareOfLessAndEq _ y
      unfold compareOfLessAndEq
      rw [if_neg (by omega), if_neg (by omega)]
    · have h2 : y = 9218868437227405312 := by omega
      subst h2
      have e : fOrd 9218868437227405312 9218868437227405312 = (Ieee.double.read 9218868437227405312).order (Ieee.double.read 9218868437227405312) := rfl
      rw [e, rd_inf]
      show some (compareOfLessAndEq 0 0) = some (compareOfLessAndEq 9218868437227405312 9218868437227405312)
      unfold compareOfLessAndEq
      rw [if_neg (Nat.lt_irrefl _), if_pos rfl, if_neg (Nat.lt_irrefl _), if_pos rfl]
def flipD (d : Ieee.Datum) : Ieee.Datum := match d with | .number _ m e => .number true m e | .infinity _ => .infinity true | .nan _ f => .nan true f
theorem rd_negq (q : Nat) (h2 : q < 9223372036854775808) : Ieee.double.read (9223372036854775808 + q) = flipD (Ieee.double.read q) := by
  have h1 : (9223372036854775808 + q) / 9223372036854775808 % 2 = 1 := by omega
  have h3 : (9223372036854775808 + q) % 9223372036854775808 = q := by omega
  have h4 : q / 9223372036854775808 % 2 = 0 := by omega
  have h5 : q % 9223372036854775808 = q := by omega
  unfold Ieee.Format.read
  simp only [dS, dB, dI, dL, h1, h3, h4, h5]
  have b1 : ((1 : Nat) == 1) = true := by decide
  have b0 : ((0 : Nat) == 1) = false := by decide
  rw [b1, b0]
  split
  · rfl
  · split
    · rfl
    · split
      · rfl
      · rfl
theorem rd_neg {r : Nat} (h : 9223372036854775808 ≤ r) (h2 : r < 18446744073709551616) : Ieee.double.read r = flipD (Ieee.double.read (r - 9223372036854775808)) := by
  have := rd_negq (r - 9223372036854775808) (by omega)
  rwa [Nat.add_sub_cancel' h] at this
/-- is it a NaN? -/
def nanX (x : Nat) : Bool := (Ieee.double.read x).isNaN
theorem fOrd_nan_l {x y : Nat} (h : nanX x = true) : fOrd x y = none := by
  show (Ieee.double.read x).order _ = none
  unfold nanX at h
  cases hx : Ieee.double.read x with
  | number s m e => rw [hx] at h; cases h
  | infinity s => rw [hx] at h; cases h
  | nan s f => rfl
theorem fOrd_nan_r {x y : Nat} (h : nanX y = true) : fOrd x y = none := by
  show (Ieee.double.read x).order (Ieee.double.read y) = none
  unfold nanX at h
  cases hy : Ieee.double.read y with
  | number s m e => rw [hy] at h; cases h
  | infinity s => rw [hy] at h; cases h
  | nan s f => cases Ieee.double.read x <;> rfl
theorem cmp_self (a : Int) : compare a a = Ordering.eq := by
  show compareOfLessAndEq a a = _
  unfold compareOfLessAndEq
  rw [if_neg (Int.lt_irrefl _), if_pos rfl]
theorem fOrd_self {x : Nat} (h : nanX x = false) : fOrd x x = some .eq := by
  show (Ieee.double.read x).order (Ieee.double.read x) = _
  unfold nanX at h
  cases hx : Ieee.double.read x with
  | number s m e => exact congrArg some (cmp_self _)
  | infinity s => cases s <;> rfl
  | nan s f => rw [hx] at h; cases h
theorem nan_pos {x : Nat} (h : x ≤ 9218868437227405312) : nanX x = false := by
  unfold nanX
  rcases Nat.lt_or_ge x 9218868437227405312 with h1 | h1
  · obtain ⟨m, e, r, _⟩ := rd_fin h1; rw [r]; rfl
  · rw [show x = 9218868437227405312 by omega, rd_inf]; rfl
theorem nan_up {x : Nat} (h : 9218868437227405312 < x) (h2 : x < 9223372036854775808) : nanX x = true := by
  unfold nanX; rw [rd_nan h h2]; rfl
theorem nan_neg {x : Nat} (h : 9223372036854775808 ≤ x) (h2 : x ≤ 18442240474082181120) : nanX x = false := by
  have := nan_pos (x := x - 9223372036854775808) (by omega)
  unfold nanX at this ⊢
  rw [rd_neg h (by omega)]
  cases hx : Ieee.double.read (x - 9223372036854775808) with
  | number s m e => rfl
  | infinity s => rfl
  | nan s f => rw [hx] at this; cases this
theorem nan_negup {x : Nat} (h : 18442240474082181120 < x) (h2 : x < 18446744073709551616) : nanX x = true := by
  have := nan_up (x := x - 9223372036854775808) (by omega) (by omega)
  unfold nanX at this ⊢
  rw [rd_neg (by omega) h2]
  cases hx : Ieee.double.read (x - 9223372036854775808) with
  | number s m e => rw [hx] at this; cases this
  | infinity s => rw [hx] at this; cases this
  | nan s f => rfl
/-- what is below 0 is not above what is not below 0, and below what is above 0 -/
theorem fOrd_neg {x y : Nat} (h : 9223372036854775808 ≤ x) (h2 : x ≤ 18442240474082181120) (hy : y ≤ 9218868437227405312) : fOrd x y = some .lt ∨ (y = 0 ∧ fOrd x y = some .eq) := by
  show (Ieee.double.read x).order (Ieee.double.read y) = _ ∨ (_ ∧ (Ieee.double.read x).order (Ieee.double.read y) = _)
  rw [rd_neg h (by omega)]
  rcases Nat.lt_or_ge (x - 9223372036854775808) 9218868437227405312 with h1 | h1
  · obtain ⟨m, i, r1, v1⟩ := rd_fin h1
    rw [r1]
    rcases Nat.lt_or_ge y 9218868437227405312 with h3 | h3
    · obtain ⟨n, j, r2, v2⟩ := rd_fin h3
      rw [r2]
      show some (compareOfLessAndEq (-((m <<< ((-1074 + (i : Int)) - min (-1074 + (i : Int)) (-1074 + (j : Int))).toNat : Nat) : Int)) (((n <<< ((-1074 + (j : Int)) - min (-1074 + (i : Int)) (-1074 + (j : Int))).toNat : Nat) : Int))) = _ ∨ (_ ∧ some (compareOfLessAndEq (-((m <<< ((-1074 + (i : Int)) - min (-1074 + (i : Int)) (-1074 + (j : Int))).toNat : Nat) : Int)) (((n <<< ((-1074 + (j : Int)) - min (-1074 + (i : Int)) (-1074 + (j : Int))).toNat : Nat) : Int))) = _)
      rw [Nat.shiftLeft_eq, Nat.shiftLeft_eq]
      have hn : ∀ k, n * 2 ^ k = 0 → y = 0 := fun k hk => by
        rcases Nat.mul_eq_zero.1 hk with g | g
        · exact va_inj (by rw [v2, g, Nat.zero_mul]; rfl)
        · have := Nat.two_pow_pos k; omega
      have hn := hn (((-1074 + (j : Int)) - min (-1074 + (i : Int)) (-1074 + (j : Int))).toNat)
      generalize m * 2 ^ ((-1074 + (i : Int)) - min (-1074 + (i : Int)) (-1074 + (j : Int))).toNat = A at *
      generalize n * 2 ^ ((-1074 + (j : Int)) - min (-1074 + (i : Int)) (-1074 + (j : Int))).toNat = B at *
      unfold compareOfLessAndEq
      by_cases hz : B = 0
      · by_cases ha : A = 0
        · refine .inr ⟨hn hz, ?_⟩
          rw [if_neg (by omega), if_pos (by omega)]
        · rw [if_pos (by omega)]; exact .inl rfl
      · rw [if_pos (by omega)]; exact .inl rfl
    · rw [show y = 9218868437227405312 by omega, rd_inf]
      exact .inl rfl
  · rw [show x - 9223372036854775808 = 9218868437227405312 by omega, rd_inf]
    rcases Nat.lt_or_ge y 9218868437227405312 with h3 | h3
    · obtain ⟨n, j, r2, v2⟩ := rd_fin h3
      rw [r2]
      exact .inl rfl
    · rw [show y = 9218868437227405312 by omega, rd_inf]
      exact .inl rfl
/-- the four kinds of bits -/
theorem kinds {x : Nat} (h : x < 18446744073709551616) : x ≤ 9218868437227405312 ∨ (nanX x = true ∧ ¬ x ≤ 9218868437227405312) ∨ (9223372036854775808 ≤ x ∧ x ≤ 18442240474082181120) := by
  rcases Nat.lt_or_ge 9218868437227405312 x with h1 | h1
  · rcases Nat.lt_or_ge x 9223372036854775808 with h2 | h2
    · exact .inr (.inl ⟨nan_up h1 h2, by omega⟩)
    · rcases Nat.lt_or_ge 18442240474082181120 x with h3 | h3
      · exact .inr (.inl ⟨nan_negup h3 h, by omega⟩)
      · exact .inr (.inr ⟨h2, h3⟩)
  · exact .inl h1
end DH

namespace DH
open Go
/-! chances and draws as numbers -/
theorem cmp_lt {a b : Nat} (h : a < b) : compare a b = Ordering.lt := by
  show compareOfLessAndEq a b = _
  unfold compareOfLessAndEq
  rw [if_pos h]
theorem cmp_eq {a b : Nat} (h : a = b) : compare a b = Ordering.eq := by
  show compareOfLessAndEq a b = _
  unfold compareOfLessAndEq
  rw [if_neg (by omega), if_pos h]
theorem cmp_gt {a b : Nat} (h : b < a) : compare a b = Ordering.gt := by
  show compareOfLessAndEq a b = _
  unfold compareOfLessAndEq
  rw [if_neg (by omega), if_neg (by omega)]
theorem fnan_eq {x : Nat} : (fOrd x x != some Ordering.eq) = nanX x := by
  cases h : nanX x with
  | true => rw [fOrd_nan_l h]; rfl
  | false => rw [fOrd_self h]; rfl
theorem fgt_pos {x y : Nat} (hx : x ≤ 9218868437227405312) (hy : y ≤ 9218868437227405312) : (fOrd x y == some Ordering.gt) = decide (y < x) := by
  rw [fOrd_pos hx hy]
  rcases Nat.lt_trichotomy x y with h | h | h
  · rw [cmp_lt h, decide_eq_false (by omega)]; rfl
  · rw [cmp_eq h, decide_eq_false (by omega)]; rfl
  · rw [cmp_gt h, decide_eq_true h]; rfl
theorem flt_pos {x y : Nat} (hx : x ≤ 9218868437227405312) (hy : y ≤ 9218868437227405312) : (fOrd x y == some Ordering.lt) = decide (x < y) := by
  rw [fOrd_pos hx hy]
  rcases Nat.lt_trichotomy x y with h | h | h
  · rw [cmp_lt h, decide_eq_true h]; rfl
  · rw [cmp_eq h, decide_eq_false (by omega)]; rfl
  · rw [cmp_gt h, decide_eq_false (by omega)]; rfl
theorem feq_pos {x y : Nat} (hx : x ≤ 9218868437227405312) (hy : y ≤ 9218868437227405312) : (fOrd x y == some Ordering.eq) = decide (x = y) := by
  rw [fOrd_pos hx hy]
  rcases Nat.lt_trichotomy x y with h | h | h
  · rw [cmp_lt h, decide_eq_false (by omega)]; rfl
  · rw [cmp_eq h, decide_eq_true h]; rfl
  · rw [cmp_gt h, decide_eq_false (by omega)]; rfl
theorem fle_pos {x y : Nat} (hx : x ≤ 9218868437227405312) (hy : y ≤ 9218868437227405312) : (fOrd x y == some Ordering.lt || fOrd x y == some Ordering.eq) = decide (x ≤ y) := by
  rw [flt_pos hx hy, feq_pos hx hy]
  rcases Nat.lt_trichotomy x y with h | h | h
  · rw [decide_eq_true h, decide_eq_true (by omega : x ≤ y)]; rfl
  · rw [decide_eq_true h, decide_eq_true (by omega : x ≤ y), Bool.or_true]
  · rw [decide_eq_false (by omega), decide_eq_false (by omega), decide_eq_false (by omega)]; rfl
/-- above a number that is not below 0: any bits -/
theorem fgt_any {x y : Nat} (hx : x < 18446744073709551616) (hy : y ≤ 9218868437227405312) : (fOrd x y == some Ordering.gt) = decide (x ≤ 9218868437227405312 ∧ y < x) := by
  rcases kinds hx with h | ⟨h, h2⟩ | ⟨h, h2⟩
  · rw [fgt_pos h hy]; congr 1; simp [h]
  · rw [fOrd_nan_l h, decide_eq_false (fun g => h2 g.1)]; rfl
  · rw [decide_eq_false (by omega)]
    rcases fOrd_neg h h2 hy with g | ⟨_, g⟩ <;> rw [g] <;> rfl
/-- not below a number above 0: any bits -/
theorem fge_any {x y : Nat} (hx : x < 18446744073709551616) (hy : y ≤ 9218868437227405312) (h0 : 0 < y) : (fOrd x y == some Ordering.gt || fOrd x y == some Ordering.eq) = decide (x ≤ 9218868437227405312 ∧ y ≤ x) := by
  rcases kinds hx with h | ⟨h, h2⟩ | ⟨h, h2⟩
  · rw [fgt_pos h hy, feq_pos h hy]
    rcases Nat.lt_trichotomy x y with g | g | g
    · rw [decide_eq_false (by omega), decide_eq_false (by omega), decide_eq_false (by omega)]; rfl
    · rw [decide_eq_true g, decide_eq_true (by omega : x ≤ 9218868437227405312 ∧ y ≤ x), Bool.or_true]
    · rw [decide_eq_true g, decide_eq_true (by omega : x ≤ 9218868437227405312 ∧ y ≤ x)]; rfl
  · rw [fOrd_nan_l h, decide_eq_false (fun g => h2 g.1)]; rfl
  · rw [decide_eq_false (by omega)]
    rcases fOrd_neg h h2 hy with g | ⟨g, _⟩
    · rw [g]; rfl
    · omega
def psF (x : Nat) : Nat := if x ≤ 9218868437227405312 then x else 0
def chF (x : Nat) : Nat := if x ≤ 9218868437227405312 then min x 4607182418800017408 else 0
def drF (x : Nat) : Nat := if x ≤ 9218868437227405312 then min x 4607182418800017407 else 0
theorem minF_eq (x y : Nat) : minF x y =
    (if Ieee.double.read x == .infinity true || Ieee.double.read y == .infinity true then Ieee.double.write (.infinity true)
      else if (Ieee.double.read x).isNaN || (Ieee.double.read y).isNaN then 0x7FF8000000000001
      else if (Ieee.double.read x).isZero && (Ieee.double.read y).isZero then (if (Ieee.double.read x).neg == true then x else y)
      else if (Ieee.double.read x).order (Ieee.double.read y) == some .lt then x else y) := rfl
theorem pos_inf {x : Nat} (h : x ≤ 9218868437227405312) : (Ieee.double.read x == .infinity true) = false := by
  rcases Nat.lt_or_ge x 9218868437227405312 with h1 | h1
  · obtain ⟨m, e, r, _⟩ := rd_fin h1; rw [r]; rfl
  · rw [show x = 9218868437227405312 by omega, rd_inf]; rfl
theorem not_zero {y : Nat} (h : y ≤ 9218868437227405312) (h0 : 0 < y) : (Ieee.double.read y).isZero = false := by
  rcases Nat.lt_or_ge y 9218868437227405312 with h1 | h1
  · obtain ⟨m, e, r, v⟩ := rd_fin h1
    rw [r]
    cases m with
    | zero =>
      rw [Nat.zero_mul] at v
      have : y = 0 := va_inj (by rw [v]; rfl)
      omega
    | succ m => rfl
  · rw [show y = 9218868437227405312 by omega, rd_inf]; rfl
theorem minF_pos {x y : Nat} (hx : x ≤ 9218868437227405312) (hy : y ≤ 9218868437227405312) (h0 : 0 < y) : minF x y = min x y := by
  have n1 := nan_pos hx
  have n2 := nan_pos hy
  unfold nanX at n1 n2
  rw [minF_eq, pos_inf hx, pos_inf hy, n1, n2, not_zero hy h0, Bool.and_false]
  have e : ((Ieee.double.read x).order (Ieee.double.read y) == some Ordering.lt) = decide (x < y) := flt_pos hx hy
  rw [e]
  simp only [Bool.or_self, Bool.false_eq_true, if_false]
  rcases Nat.lt_or_ge x y with h | h
  · rw [decide_eq_true h, if_pos rfl, Nat.min_eq_left (by omega)]
  · rw [decide_eq_false (by omega), if_neg (by simp), Nat.min_eq_right h]
theorem psF_le (x : Nat) : psF x ≤ 9218868437227405312 := by unfold psF; split <;> omega
theorem ch_min (x : Nat) : minF (psF x) 4607182418800017408 = chF x := by
  rw [minF_pos (psF_le x) (by omega) (by omega)]
  unfold psF chF
  split
  · rfl
  · exact Nat.min_eq_left (by omega)
theorem dr_min (x : Nat) : minF (psF x) 4607182418800017407 = drF x := by
  rw [minF_pos (psF_le x) (by omega) (by omega)]
  unfold psF drF
  split
  · rfl
  · exact Nat.min_eq_left (by omega)
theorem chF_le (x : Nat) : chF x ≤ 4607182418800017408 := by unfold chF; split <;> omega
theorem drF_le (x : Nat) : drF x ≤ 4607182418800017407 := by unfold drF; split <;> omega
def bitF (x : Nat) : BitVec 64 := if nanX x = true then BitVec.ofInt 64 9221120237041090561 else BitVec.ofNat 64 x
theorem sgn_iff {x : Nat} (h : x < 18446744073709551616) : (BitVec.toInt (BitVec.ofNat 64 x) < 0) ↔ 9223372036854775808 ≤ x := by
  rw [BitVec.toInt_eq_toNat_cond, BitVec.toNat_ofNat]
  have e : x % 2 ^ 64 = x := Nat.mod_eq_of_lt (by omega)
  rw [e]
  split <;> omega
end DH

namespace DH
open Go
/-! Rounding: what is at most a number's value is rounded to at most it, and the mirror. -/
theorem cut_le {neg : Bool} {n drop M : Nat} (h : n ≤ M * 2 ^ drop) : Ieee.Toward.even.cut neg n drop ≤ M := by
  unfold Ieee.Toward.cut
  simp only
  rw [Nat.one_shiftLeft]
  by_cases hd : drop ≤ n.log2 + 2
  · rw [Nat.min_eq_left hd]
    have hp : 0 < 2 ^ drop := Nat.two_pow_pos _
    generalize 2 ^ drop = g at *
    have h1 : n / g ≤ M := Nat.div_le_of_le_mul (by rw [Nat.mul_comm]; exact h)
    have hdm := Nat.div_add_mod n g
    rcases Nat.lt_or_ge (n / g) M with h2 | h2
    · have : ∀ b : Bool, b.toNat ≤ 1 := by decide
      have := this (decide (g < 2 * (n % g)) || g == 2 * (n % g) && n / g % 2 == 1)
      omega
    · have e : n / g = M := by omega
      have e2 : n % g = 0 := by
        rw [e] at hdm
        have := Nat.mul_comm g M
        omega
      rw [e2]
      have b1 : decide (g < 2 * 0) = false := decide_eq_false (by omega)
      have b2 : (g == 2 * 0) = false := by simp; omega
      rw [b1, b2]
      simp
      omega
  · rw [Nat.min_eq_right (by omega)]
    have hn : n < 2 ^ (n.log2 + 1) := Nat.lt_log2_self
    have hg : 2 ^ (n.log2 + 2) = 2 * 2 ^ (n.log2 + 1) := by rw [Nat.pow_succ, Nat.mul_comm]
    rw [hg]
    generalize 2 ^ (n.log2 + 1) = g at *
    have e1 : n / (2 * g) = 0 := Nat.div_eq_of_lt (by omega)
    have e2 : n % (2 * g) = n := Nat.mod_eq_of_lt (by omega)
    rw [e1, e2]
    have b1 : decide (2 * g < 2 * n) = false := decide_eq_false (by omega)
    have b2 : (2 * g == 2 * n) = false := by simp; omega
    rw [b1, b2]
    exact Nat.zero_le _
theorem cut_ge {neg : Bool} {n drop M : Nat} (h : M * 2 ^ drop ≤ n) : M ≤ Ieee.Toward.even.cut neg n drop := by
  unfold Ieee.Toward.cut
  simp only
  rw [Nat.one_shiftLeft]
  by_cases hd : drop ≤ n.log2 + 2
  · rw [Nat.min_eq_left hd]
    have : M ≤ n / 2 ^ drop := (Nat.le_div_iff_mul_le (Nat.two_pow_pos _)).2 h
    exact Nat.le_trans this (Nat.le_add_right _ _)
  · have hn : n < 2 ^ (n.log2 + 1) := Nat.lt_log2_self
    have : 2 ^ (n.log2 + 1) ≤ 2 ^ drop := Nat.pow_le_pow_right (by decide) (by omega)
    cases M with
    | zero => exact Nat.zero_le _
    | succ M =>
      rw [Nat.succ_mul] at h
      omega
/-- bits as a binade and what lies in it -/
theorem va_split (y : Nat) : ∃ e M : Nat, y = e * 4503599627370496 + M ∧ va y = M * 2 ^ e ∧ M < 9007199254740992 ∧ (0 < e → 4503599627370496 ≤ M) := by
  by_cases h : y < 4503599627370496
  · exact ⟨0, y, by omega, by unfold va; rw [if_pos h, Nat.pow_zero, Nat.mul_one], by omega, fun h => absurd h (Nat.lt_irrefl _)⟩
  · exact ⟨y / 4503599627370496 - 1, 4503599627370496 + y % 4503599627370496, by omega, by unfold va; rw [if_neg h], by omega, fun _ => by omega⟩
/-- how the nearest word is made, in Nat: place = -1074 + a - b, L the place of the last digit -/
theorem near_eq {mag : Nat} (hm : 0 < mag) (a b : Nat) : ∃ L n drop : Nat, Ieee.double.nearest false mag (-1074 + (a : Int) - (b : Int)) = min (L * 4503599627370496 + Ieee.Toward.even.cut false n drop) 9218868437227405312 ∧
    ((∃ k, L + k + b = a ∧ n = mag * 2 ^ k ∧ drop = 0) ∨ (∃ k, L + b = a + k ∧ n = mag ∧ drop = k)) ∧
    (a + mag.log2 ≤ L + 52 + b) ∧ (0 < L → a + mag.log2 = L + 52 + b) := by
  unfold Ieee.Format.nearest
  rw [if_neg (by omega)]
  simp only [dB, dI, dL]
  have hf : Ieee.double.fractionBits = 52 := rfl
  rw [hf]
  generalize hl : max (-1074 + (a : Int) - (b : Int) + (mag.log2 : Int) - ((52 : Nat) : Int)) (-1074) = last
  refine ⟨(last - -1074).toNat, mag <<< (-1074 + (a : Int) - (b : Int) - last).toNat, (last - (-1074 + (a : Int) - (b : Int))).toNat, ?_, ?_, ?_, ?_⟩
  · simp only [Ieee.Format.word, Bool.false_eq_true, if_false]
  · rw [Nat.shiftLeft_eq]
    rcases Int.le_total last (-1074 + (a : Int) - (b : Int)) with h | h
    · exact .inl ⟨(-1074 + (a : Int) - (b : Int) - last).toNat, by omega, rfl, by omega⟩
    · refine .inr ⟨(last - (-1074 + (a : Int) - (b : Int))).toNat, by omega, ?_, rfl⟩
      rw [show (-1074 + (a : Int) - (b : Int) - last).toNat = 0 by omega, Nat.pow_zero, Nat.mul_one]
  · omega
  · omega
theorem near_le {mag : Nat} (a b : Nat) {y : Nat} (hy : y ≤ 9218868437227405312) (h : mag * 2 ^ a ≤ va y * 2 ^ b) : Ieee.double.nearest false mag (-1074 + (a : Int) - (b : Int)) ≤ y := by
  rcases Nat.eq_zero_or_pos mag with hm | hm
  · subst hm
    have : Ieee.double.nearest false 0 (-1074 + (a : Int) - (b : Int)) = 0 := by unfold Ieee.Format.nearest; rw [if_pos rfl]; rfl
    rw [this]; exact Nat.zero_le _
  obtain ⟨L, n, drop, e, hn, h1, h2⟩ := near_eq hm a b
  obtain ⟨ey, M, ey1, ey2, ey3, ey4⟩ := va_split y
  rw [e]
  rw [ey2] at h
  have hlog : mag < 2 ^ (mag.log2 + 1) := Nat.lt_log2_self
  have hlog2 : 2 ^ mag.log2 ≤ mag := Nat.log2_self_le (by omega)
  refine Nat.le_trans (Nat.min_le_left _ _) ?_
  rcases Nat.lt_trichotomy L ey with g | g | g
  · have hk : Ieee.Toward.even.cut false n drop ≤ 9007199254740992 := by
      refine cut_le ?_
      rcases hn with ⟨k, k1, k2, k3⟩ | ⟨k, k1, k2, k3⟩
      · rw [k2, k3, Nat.pow_zero, Nat.mul_one]
        have : mag * 2 ^ k ≤ 2 ^ (mag.log2 + 1) * 2 ^ k := Nat.mul_le_mul_right _ (by omega)
        rw [← Nat.pow_add] at this
        exact Nat.le_trans this (Nat.le_trans (Nat.pow_le_pow_right (by decide) (by omega : mag.log2 + 1 + k ≤ 53)) (by decide))
      · rw [k2, k3]
        have : 2 ^ (mag.log2 + 1) ≤ 2 ^ (53 + k) := Nat.pow_le_pow_right (by decide) (by omega)
        have e53 : (2 : Nat) ^ 53 = 9007199254740992 := by decide
        rw [Nat.pow_add 2 53 k, e53] at this
        omega
    have hM := ey4 (by omega)
    have : (L + 1) * 4503599627370496 ≤ ey * 4503599627370496 := Nat.mul_le_mul_right _ g
    omega
  · subst g
    have hk : Ieee.Toward.even.cut false n drop ≤ M := by
      refine cut_le ?_
      rcases hn with ⟨k, k1, k2, k3⟩ | ⟨k, k1, k2, k3⟩
      · rw [k2, k3, Nat.pow_zero, Nat.mul_one]
        rw [← k1, Nat.pow_add, Nat.pow_add, Nat.mul_assoc M] at h
        have h : mag * 2 ^ k * (2 ^ L * 2 ^ b) ≤ M * (2 ^ L * 2 ^ b) := by
          have e : mag * (2 ^ L * 2 ^ k * 2 ^ b) = mag * 2 ^ k * (2 ^ L * 2 ^ b) := by
            rw [Nat.mul_comm (2 ^ L) (2 ^ k), Nat.mul_assoc (2 ^ k), Nat.mul_assoc]
          rw [e] at h
          exact h
        exact Nat.le_of_mul_le_mul_right h (Nat.mul_pos (Nat.two_pow_pos _) (Nat.two_pow_pos _))
      · rw [k2, k3]
        rw [Nat.mul_assoc M, ← Nat.pow_add, k1, Nat.add_comm a k, Nat.pow_add, ← Nat.mul_assoc] at h
        exact Nat.le_of_mul_le_mul_right h (Nat.two_pow_pos _)
    omega
  · exfalso
    have hL := h2 (by omega)
    have c1 : 2 ^ (mag.log2 + a) ≤ mag * 2 ^ a := by rw [Nat.pow_add]; exact Nat.mul_le_mul_right _ hlog2
    have c2 : M * 2 ^ ey * 2 ^ b < 9007199254740992 * 2 ^ ey * 2 ^ b := Nat.mul_lt_mul_of_pos_right (Nat.mul_lt_mul_of_pos_right ey3 (Nat.two_pow_pos _)) (Nat.two_pow_pos _)
    have e53 : 9007199254740992 = (2 : Nat) ^ 53 := by decide
    rw [e53, ← Nat.pow_add, ← Nat.pow_add] at c2
    have c3 : (2 : Nat) ^ (53 + ey + b) ≤ 2 ^ (mag.log2 + a) := Nat.pow_le_pow_right (by decide) (by omega)
    omega
theorem near_ge {mag : Nat} (hm : 0 < mag) (a b : Nat) {y : Nat} (hy : y ≤ 9218868437227405312) (h : va y * 2 ^ b ≤ mag * 2 ^ a) : y ≤ Ieee.double.nearest false mag (-1074 + (a : Int) - (b : Int)) := by
  obtain ⟨L, n, drop, e, hn, h1, h2⟩ := near_eq hm a b
  obtain ⟨ey, M, ey1, ey2, ey3, ey4⟩ := va_split y
  rw [e]
  rw [ey2] at h
  have hlog : mag < 2 ^ (mag.log2 + 1) := Nat.lt_log2_self
  have hlog2 : 2 ^ mag.log2 ≤ mag := Nat.log2_self_le (by omega)
  refine Nat.le_min.2 ⟨?_, hy⟩
  rcases Nat.lt_trichotomy L ey with g | g | g
  · exfalso
    have hM := ey4 (by omega)
    have e52 : 4503599627370496 = (2 : Nat) ^ 52 := by decide
    have c1 : 2 ^ 52 * 2 ^ ey * 2 ^ b ≤ M * 2 ^ ey * 2 ^ b := Nat.mul_le_mul_right _ (Nat.mul_le_mul_right _ (by omega))
    rw [← Nat.pow_add, ← Nat.pow_add] at c1
    have c2 : mag * 2 ^ a < 2 ^ (mag.log2 + 1) * 2 ^ a := Nat.mul_lt_mul_of_pos_right hlog (Nat.two_pow_pos _)
    rw [← Nat.pow_add] at c2
    have c3 : (2 : Nat) ^ (mag.log2 + 1 + a) ≤ 2 ^ (52 + ey + b) := Nat.pow_le_pow_right (by decide) (by omega)
    omega
  · subst g
    have hk : M ≤ Ieee.Toward.even.cut false n drop := by
      refine cut_ge ?_
      rcases hn with ⟨k, k1, k2, k3⟩ | ⟨k, k1, k2, k3⟩
      · rw [k2, k3, Nat.pow_zero, Nat.mul_one]
        rw [← k1, Nat.pow_add, Nat.pow_add, Nat.mul_assoc M] at h
        have h : M * (2 ^ L * 2 ^ b) ≤ mag * 2 ^ k * (2 ^ L * 2 ^ b) := by
          have e : mag * (2 ^ L * 2 ^ k * 2 ^ b) = mag * 2 ^ k * (2 ^ L * 2 ^ b) := by
            rw [Nat.mul_comm (2 ^ L) (2 ^ k), Nat.mul_assoc (2 ^ k), Nat.mul_assoc]
          rw [e] at h
          exact h
        exact Nat.le_of_mul_le_mul_right h (Nat.mul_pos (Nat.two_pow_pos _) (Nat.two_pow_pos _))
      · rw [k2, k3]
        rw [Nat.mul_assoc M, ← Nat.pow_add, k1, Nat.add_comm a k, Nat.pow_add, ← Nat.mul_assoc] at h
        exact Nat.le_of_mul_le_mul_right h (Nat.two_pow_pos _)
    omega
  · have hL := h2 (by omega)
    have hk : 4503599627370496 ≤ Ieee.Toward.even.cut false n drop := by
      refine cut_ge ?_
      have e52 : (2 : Nat) ^ 52 = 4503599627370496 := by decide
      rcases hn with ⟨k, k1, k2, k3⟩ | ⟨k, k1, k2, k3⟩
      · rw [k2, k3, Nat.pow_zero, Nat.mul_one, ← e52]
        have : 2 ^ mag.log2 * 2 ^ k ≤ mag * 2 ^ k := Nat.mul_le_mul_right _ hlog2
        rw [← Nat.pow_add] at this
        exact Nat.le_trans (Nat.pow_le_pow_right (by decide) (by omega)) this
      · rw [k2, k3, ← e52, ← Nat.pow_add]
        exact Nat.le_trans (Nat.pow_le_pow_right (by decide) (by omega)) hlog2
    have : (ey + 1) * 4503599627370496 ≤ L * 4503599627370496 := Nat.mul_le_mul_right _ g
    omega
end DH

namespace DH
open Go
/-! Products and sums of numbers that are not below 0. -/
theorem near_top (mag : Nat) (place : Int) : Ieee.double.nearest false mag place ≤ 9218868437227405312 := by
  unfold Ieee.Format.nearest
  split
  · exact Nat.zero_le _
  · simp only [Ieee.Format.word, Bool.false_eq_true, if_false, dI]
    exact Nat.min_le_right _ _
theorem mul_fin {x y : Nat} (hx : x < 9218868437227405312) (hy : y < 9218868437227405312) : ∃ r, fAr .mul x y = some r ∧ r ≤ 9218868437227405312 ∧
    (∀ z, z ≤ 9218868437227405312 → va x * va y ≤ va z * 2 ^ 1074 → r ≤ z) ∧ (∀ z, z ≤ 9218868437227405312 → va z * 2 ^ 1074 ≤ va x * va y → 0 < va x * va y → z ≤ r) := by
  obtain ⟨m, i, r1, v1⟩ := rd_fin hx
  obtain ⟨n, j, r2, v2⟩ := rd_fin hy
  have e : fAr .mul x y = some (Ieee.double.nearest false (m * n) (-1074 + (((i + j : Nat) : Int)) - ((1074 : Nat) : Int))) := by
    show ((Ieee.double.read x).product (Ieee.double.read y)).map Ieee.double.write = _
    rw [r1, r2]
    show some (Ieee.double.nearest false (m * n) ((-1074 + (i : Int)) + (-1074 + (j : Int)))) = _
    congr 2
    omega
  have hv : va x * va y = m * n * 2 ^ (i + j) := by
    rw [v1, v2, Nat.pow_add, Nat.mul_mul_mul_comm]
  refine ⟨_, e, near_top _ _, fun z hz h => ?_, fun z hz h h0 => ?_⟩
  · exact near_le (i + j) 1074 hz (by rw [← hv]; exact h)
  · refine near_ge ?_ (i + j) 1074 hz (by rw [← hv]; exact h)
    rcases Nat.eq_zero_or_pos (m * n) with g | g
    · rw [hv, g, Nat.zero_mul] at h0; omega
    · exact g
theorem add_fin {x y : Nat} (hx : x < 9218868437227405312) (hy : y < 9218868437227405312) : ∃ r, fAr .add x y = some r ∧ r ≤ 9218868437227405312 ∧
    (∀ z, z ≤ 9218868437227405312 → va x + va y ≤ va z → r ≤ z) ∧ (∀ z, z ≤ 9218868437227405312 → va z ≤ va x + va y → 0 < va x + va y → z ≤ r) := by
  obtain ⟨m, i, r1, v1⟩ := rd_fin hx
  obtain ⟨n, j, r2, v2⟩ := rd_fin hy
  have e : fAr .add x y = some (Ieee.double.nearest false (m * 2 ^ (i - min i j) + n * 2 ^ (j - min i j)) (-1074 + (((min i j : Nat) : Int)) - ((0 : Nat) : Int))) := by
    show ((Ieee.double.read x).sum (Ieee.double.read y)).map Ieee.double.write = _
    rw [r1, r2]
    have e1 : ((-1074 + (i : Int)) - min (-1074 + (i : Int)) (-1074 + (j : Int))).toNat = i - min i j := by omega
    have e2 : ((-1074 + (j : Int)) - min (-1074 + (i : Int)) (-1074 + (j : Int))).toNat = j - min i j := by omega
    unfold Ieee.Datum.sum
    simp only [e1, e2, Option.map_some]
    have s1 : Ieee.signed false m (i - min i j) = ((m * 2 ^ (i - min i j) : Nat) : Int) := by show ((m <<< (i - min i j) : Nat) : Int) = _; rw [Nat.shiftLeft_eq]
    have s2 : Ieee.signed false n (j - min i j) = ((n * 2 ^ (j - min i j) : Nat) : Int) := by show ((n <<< (j - min i j) : Nat) : Int) = _; rw [Nat.shiftLeft_eq]
    rw [s1, s2]
    generalize m * 2 ^ (i - min i j) = A
    generalize n * 2 ^ (j - min i j) = B
    have hs : (if ((A : Int) + (B : Int) = 0) then (false && false) else decide ((A : Int) + (B : Int) < 0)) = false := by
      split
      · rfl
      · exact decide_eq_false (by omega)
    have ha : ((A : Int) + (B : Int)).natAbs = A + B := by omega
    have hp : min (-1074 + (i : Int)) (-1074 + (j : Int)) = -1074 + ((min i j : Nat) : Int) - ((0 : Nat) : Int) := by omega
    rw [ha, hp]
    show some (Ieee.double.nearest (if ((A : Int) + (B : Int) = 0) then (false && false) else decide ((A : Int) + (B : Int) < 0)) _ _) = _
    rw [hs]
  have hv : va x + va y = (m * 2 ^ (i - min i j) + n * 2 ^ (j - min i j)) * 2 ^ (min i j) := by
    rw [v1, v2, Nat.add_mul, Nat.mul_assoc, Nat.mul_assoc, ← Nat.pow_add, ← Nat.pow_add, Nat.sub_add_cancel (Nat.min_le_left i j), Nat.sub_add_cancel (Nat.min_le_right i j)]
  refine ⟨_, e, near_top _ _, fun z hz h => ?_, fun z hz h h0 => ?_⟩
  · exact near_le (min i j) 0 hz (by rw [← hv, Nat.pow_zero, Nat.mul_one]; exact h)
  · refine near_ge ?_ (min i j) 0 hz (by rw [← hv, Nat.pow_zero, Nat.mul_one]; exact h)
    rcases Nat.eq_zero_or_pos (m * 2 ^ (i - min i j) + n * 2 ^ (j - min i j)) with g | g
    · rw [hv, g, Nat.zero_mul] at h0; omega
    · exact g
theorem sub_fin {x y : Nat} (hx : x < 9218868437227405312) (hyx : y ≤ x) : ∃ r, fAr .sub x y = some r ∧ r ≤ 9218868437227405312 ∧
    (∀ z, z ≤ 9218868437227405312 → va x - va y ≤ va z → r ≤ z) ∧ (∀ z, z ≤ 9218868437227405312 → va z ≤ va x - va y → 0 < va x - va y → z ≤ r) := by
  obtain ⟨m, i, r1, v1⟩ := rd_fin hx
  obtain ⟨n, j, r2, v2⟩ := rd_fin (r := y) (by omega)
  have hle : va y ≤ va x := by
    rcases Nat.eq_or_lt_of_le hyx with h | h
    · rw [h]; exact Nat.le_refl _
    · exact Nat.le_of_lt (va_lt h)
  have q1 : va x = m * 2 ^ (i - min i j) * 2 ^ (min i j) := by rw [v1, Nat.mul_assoc, ← Nat.pow_add, Nat.sub_add_cancel (Nat.min_le_left i j)]
  have q2 : va y = n * 2 ^ (j - min i j) * 2 ^ (min i j) := by rw [v2, Nat.mul_assoc, ← Nat.pow_add, Nat.sub_add_cancel (Nat.min_le_right i j)]
  have hAB : n * 2 ^ (j - min i j) ≤ m * 2 ^ (i - min i j) := by
    rw [q1, q2] at hle
    exact Nat.le_of_mul_le_mul_right hle (Nat.two_pow_pos _)
  have e : fAr .sub x y = some (Ieee.double.nearest false (m * 2 ^ (i - min i j) - n * 2 ^ (j - min i j)) (-1074 + (((min i j : Nat) : Int)) - ((0 : Nat) : Int))) := by
    show ((Ieee.double.read x).sum (Ieee.double.read y).opposite).map Ieee.double.write = _
    rw [r1, r2]
    have e1 : ((-1074 + (i : Int)) - min (-1074 + (i : Int)) (-1074 + (j : Int))).toNat = i - min i j := by omega
    have e2 : ((-1074 + (j : Int)) - min (-1074 + (i : Int)) (-1074 + (j : Int))).toNat = j - min i j := by omega
    show ((Ieee.Datum.number false m (-1074 + (i : Int))).sum (.number true n (-1074 + (j : Int)))).map Ieee.double.write = _
    unfold Ieee.Datum.sum
    simp only [e1, e2, Option.map_some]
    have s1 : Ieee.signed false m (i - min i j) = ((m * 2 ^ (i - min i j) : Nat) : Int) := by show ((m <<< (i - min i j) : Nat) : Int) = _; rw [Nat.shiftLeft_eq]
    have s2 : Ieee.signed true n (j - min i j) = -((n * 2 ^ (j - min i j) : Nat) : Int) := by show -((n <<< (j - min i j) : Nat) : Int) = _; rw [Nat.shiftLeft_eq]
    rw [s1, s2]
    generalize m * 2 ^ (i - min i j) = A at *
    generalize n * 2 ^ (j - min i j) = B at *
    have hs : (if ((A : Int) + -(B : Int) = 0) then (false && true) else decide ((A : Int) + -(B : Int) < 0)) = false := by
      split
      · rfl
      · exact decide_eq_false (by omega)
    have ha : ((A : Int) + -(B : Int)).natAbs = A - B := by omega
    have hp : min (-1074 + (i : Int)) (-1074 + (j : Int)) = -1074 + ((min i j : Nat) : Int) - ((0 : Nat) : Int) := by omega
    rw [ha, hp]
    show some (Ieee.double.nearest (if ((A : Int) + -(B : Int) = 0) then (false && true) else decide ((A : Int) + -(B : Int) < 0)) _ _) = _
    rw [hs]
  have hv : va x - va y = (m * 2 ^ (i - min i j) - n * 2 ^ (j - min i j)) * 2 ^ (min i j) := by rw [q1, q2, Nat.sub_mul]
  refine ⟨_, e, near_top _ _, fun z hz h => ?_, fun z hz h h0 => ?_⟩
  · exact near_le (min i j) 0 hz (by rw [← hv, Nat.pow_zero, Nat.mul_one]; exact h)
  · refine near_ge ?_ (min i j) 0 hz (by rw [← hv, Nat.pow_zero, Nat.mul_one]; exact h)
    rcases Nat.eq_zero_or_pos (m * 2 ^ (i - min i j) - n * 2 ^ (j - min i j)) with g | g
    · rw [hv, g, Nat.zero_mul] at h0; omega
    · exact g
theorem va_next {x : Nat} (h0 : 0 < x) : va (x + 1) ≤ va x * 2 := by
  unfold va
  by_cases h1 : x + 1 < 4503599627370496
  · rw [if_pos h1, if_pos (by omega)]; omega
  · rw [if_neg h1]
    by_cases h2 : x < 4503599627370496
    · rw [if_pos h2]
      have e1 : (x + 1) / 4503599627370496 - 1 = 0 := by omega
      rw [e1, Nat.pow_zero, Nat.mul_one]
      omega
    · rw [if_neg h2]
      rcases Nat.lt_or_ge (x % 4503599627370496 + 1) 4503599627370496 with h3 | h3
      · have e1 : (x + 1) / 4503599627370496 = x / 4503599627370496 := by omega
        rw [e1, Nat.mul_right_comm]
        exact Nat.mul_le_mul_right _ (by omega)
      · have e1 : (x + 1) / 4503599627370496 - 1 = (x / 4503599627370496 - 1) + 1 := by omega
        rw [e1, Nat.pow_succ, ← Nat.mul_assoc]
        exact Nat.mul_le_mul_right _ (Nat.mul_le_mul_right _ (by omega))
end DH

namespace DH
open Go
theorem res_of {op : BinOp} {x y r r' : Nat} (e : fAr op x y = some r') (h : fRes op x y r) : r = r' := by
  unfold fRes at h
  generalize fAr op x y = q at *
  rcases h with h | ⟨h, _⟩
  · exact Option.some.inj (h.symm.trans e)
  · rw [e] at h; cases h
def fm (x y : Nat) : Nat := (fAr .mul x y).getD 0
def fa (x y : Nat) : Nat := (fAr .add x y).getD 0
def fs (x y : Nat) : Nat := (fAr .sub x y).getD 0
theorem va_one : va 4607182418800017408 = 2 ^ 1074 := by kernel_rfl
theorem va_le {x y : Nat} (h : x ≤ y) : va x ≤ va y := by
  rcases Nat.eq_or_lt_of_le h with h | h
  · rw [h]; exact Nat.le_refl _
  · exact Nat.le_of_lt (va_lt h)
theorem one_fin {x : Nat} (h : x ≤ 4607182418800017408) : x < 9218868437227405312 := by omega
theorem mul_one' {x y : Nat} (hx : x ≤ 4607182418800017408) (hy : y ≤ 4607182418800017408) : ∃ r, fAr .mul x y = some r ∧ r ≤ 4607182418800017408 := by
  obtain ⟨r, e, _, h, _⟩ := mul_fin (one_fin hx) (one_fin hy)
  refine ⟨r, e, h _ (by omega) ?_⟩
  have a := va_le hx
  have b := va_le hy
  rw [va_one] at a b ⊢
  revert a b
  generalize (2 : Nat) ^ 1074 = K
  intro a b
  exact Nat.mul_le_mul a b
theorem fm_res {x y r : Nat} (hx : x ≤ 4607182418800017408) (hy : y ≤ 4607182418800017408) (h : fRes .mul x y r) : r = fm x y ∧ r ≤ 4607182418800017408 := by
  obtain ⟨r', e, h1⟩ := mul_one' hx hy
  have := res_of e h
  subst this
  refine ⟨?_, h1⟩
  unfold fm
  rw [e]
  rfl
theorem fs_res {s r : Nat} (hs : s ≤ 4607182418800017408) (h : fRes .sub 4607182418800017408 s r) : r = fs 4607182418800017408 s ∧ r ≤ 4607182418800017408 := by
  obtain ⟨r', e, _, h1, _⟩ := sub_fin (x := 4607182418800017408) (by omega) hs
  have := res_of e h
  subst this
  refine ⟨?_, h1 _ (by omega) (Nat.sub_le _ _)⟩
  unfold fs
  rw [e]
  rfl
theorem fa_res {x y r : Nat} (hx : x < 9218868437227405312) (hy : y < 9218868437227405312) (h : fRes .add x y r) : r = fa x y ∧ r ≤ 9218868437227405312 := by
  obtain ⟨r', e, h1, _⟩ := add_fin hx hy
  have := res_of e h
  subst this
  refine ⟨?_, h1⟩
  unfold fa
  rw [e]
  rfl
end DH

namespace DH
open Go
/-! Picks, plainly. -/
def wF (x : Nat) : Nat := if x = 9218868437227405312 then 8660422083433463808 else psF x
theorem wF_lt (x : Nat) : wF x < 9218868437227405312 := by unfold wF psF; split <;> (try split) <;> omega
theorem add_some {s w : Nat} (hs : s ≤ 9218868437227405312) (hw : w < 9218868437227405312) : ∃ r, fAr .add s w = some r ∧ r ≤ 9218868437227405312 ∧ (w = 0 → r = s) := by
  rcases Nat.eq_or_lt_of_le hs with h | h
  · refine ⟨9218868437227405312, ?_, Nat.le_refl _, fun _ => h.symm⟩
    obtain ⟨n, j, r2, _⟩ := rd_fin hw
    show ((Ieee.double.read s).sum (Ieee.double.read w)).map Ieee.double.write = _
    rw [h, rd_inf, r2]
    show some (Ieee.double.word false Ieee.double.infRung) = _
    rw [dI]
    rfl
  · obtain ⟨r, e, h1, h2, h3⟩ := add_fin h hw
    refine ⟨r, e, h1, fun h0 => ?_⟩
    subst h0
    have z : va 0 = 0 := rfl
    rw [z, Nat.add_zero] at h2 h3
    have a := h2 s hs (Nat.le_refl _)
    rcases Nat.eq_zero_or_pos s with g | g
    · omega
    · have : 0 < va s := by have := va_lt g; omega
      have := h3 s hs (Nat.le_refl _) this
      omega
theorem fa_any {s w r : Nat} (hs : s ≤ 9218868437227405312) (hw : w < 9218868437227405312) (h : fRes .add s w r) : r = fa s w := by
  obtain ⟨r', e, _⟩ := add_some hs hw
  have := res_of e h
  subst this
  unfold fa
  rw [e]
  rfl
theorem fa_le {s w : Nat} (hs : s ≤ 9218868437227405312) (hw : w < 9218868437227405312) : fa s w ≤ 9218868437227405312 := by
  obtain ⟨r', e, h, _⟩ := add_some hs hw
  unfold fa
  rw [e]
  exact h
theorem fa_zero {s : Nat} (hs : s ≤ 9218868437227405312) : fa s 0 = s := by
  obtain ⟨r', e, _, h⟩ := add_some hs (w := 0) (by omega)
  unfold fa
  rw [e]
  exact h rfl
def wAt (ws : List Nat) (k : Nat) : Nat := wF (ws.getD k 0)
def sumN (ws : List Nat) : Nat → Nat
  | 0 => 0
  | k + 1 => fa (sumN ws k) (wAt ws k)
def lastP (ws : List Nat) : Nat → Int
  | 0 => -1
  | k + 1 => if 0 < wAt ws k then (k : Int) else lastP ws k
theorem sumN_le (ws : List Nat) : ∀ k, sumN ws k ≤ 9218868437227405312
  | 0 => Nat.zero_le _
  | k + 1 => fa_le (sumN_le ws k) (wF_lt _)
theorem sumN_zero {ws : List Nat} {k : Nat} (h : wAt ws k = 0) : sumN ws (k + 1) = sumN ws k := by
  show fa _ _ = _
  rw [h]
  exact fa_zero (sumN_le ws k)
/-- is what a draw is of all below a sum? -/
def ltA (d all s : Nat) : Bool := match fAr .mul (drF d) all with | some a => fOrd a s == some .lt | none => false
theorem ltA_res {d all s r : Nat} (h : fRes .mul (drF d) all r) : (fOrd r s == some Ordering.lt) = ltA d all s := by
  unfold fRes at h
  unfold ltA
  generalize fAr .mul (drF d) all = q at *
  rcases h with h | ⟨h, hn, _⟩
  · rw [h]
  · rw [h, fOrd_nan_l (x := r) hn]
    rfl
theorem mul_top {x y a : Nat} (hx : x < 9218868437227405312) (hy : y ≤ 9218868437227405312) (h : fAr .mul x y = some a) : a ≤ 9218868437227405312 := by
  rcases Nat.eq_or_lt_of_le hy with g | g
  · obtain ⟨n, j, r2, _⟩ := rd_fin hx
    have e : fAr .mul x y = ((Ieee.Datum.number false n (-1074 + (j : Int))).product (.infinity false)).map Ieee.double.write := by
      show ((Ieee.double.read x).product (Ieee.double.read y)).map Ieee.double.write = _
      rw [g, rd_inf, r2]
    rw [e] at h
    unfold Ieee.Datum.product at h
    simp only at h
    split at h
    · cases h
    · have h := Option.some.inj h
      rw [← h]
      show Ieee.double.word false Ieee.double.infRung ≤ _
      rw [dI]
      exact Nat.le_refl _
  · obtain ⟨r, e, h1, _⟩ := mul_fin hx g
    rw [e] at h
    rw [← Option.some.inj h]
    exact h1
theorem ltA_zero {d all : Nat} (ha : all ≤ 9218868437227405312) : ltA d all 0 = false := by
  unfold ltA
  have hd := drF_le d
  cases h : fAr .mul (drF d) all with
  | none => rfl
  | some a =>
    have := mul_top (by omega) ha h
    show (fOrd a 0 == some Ordering.lt) = false
    rw [flt_pos this (by omega)]
    exact decide_eq_false (by omega)
/-- what is picked from the place i on, with k more to see -/
def pkF (ws : List Nat) (lt : Nat → Bool) : Nat → Nat → Int
  | 0, i => lastP ws i
  | k + 1, i => if 0 < wAt ws i ∧ lt (sumN ws (i + 1)) = true then (i : Int) else pkF ws lt k (i + 1)
theorem lastP_lt (ws : List Nat) : ∀ k, lastP ws k < 0 → ∀ i, i < k → wAt ws i = 0
  | 0, _, i, hi => by omega
  | k + 1, h, i, hi => by
    unfold lastP at h
    split at h
    · omega
    · rename_i g
      rcases Nat.eq_or_lt_of_le (Nat.le_of_lt_succ hi) with e | e
      · subst e; omega
      · exact lastP_lt ws k h i e
theorem lastP_neg (ws : List Nat) : ∀ k, lastP ws k < 0 → lastP ws k = -1
  | 0, _ => rfl
  | k + 1, h => by
    unfold lastP at h ⊢
    split at h
    · omega
    · rename_i g
      rw [if_neg g]
      exact lastP_neg ws k h
theorem pkF_none (ws : List Nat) (lt : Nat → Bool) : ∀ (k i n : Nat), i + k = n → lastP ws n < 0 → pkF ws lt k i = -1
  | 0, i, n, hi, h => by
    have hi : i = n := by omega
    subst hi
    exact lastP_neg ws i h
  | k + 1, i, n, hi, h => by
    unfold pkF
    rw [if_neg (by have := lastP_lt ws n h i (by omega); omega)]
    exact pkF_none ws lt k (i + 1) n (by omega) h
def pickF (d : Nat) (ws : List Nat) : Int := pkF ws (ltA d (sumN ws ws.length)) ws.length 0
end DH

namespace DH
open Go
/-! Delays, plainly. -/
theorem pow_cut {m K e a : Nat} (h : m * 2 ^ e ≤ K * 2 ^ a) : m * 2 ^ (e - a) ≤ K * 2 ^ (a - e) := by
  rcases Nat.le_total e a with g | g
  · have : 2 ^ a = 2 ^ (a - e) * 2 ^ e := by rw [← Nat.pow_add, Nat.sub_add_cancel g]
    rw [this, ← Nat.mul_assoc] at h
    rw [Nat.sub_eq_zero_of_le g, Nat.pow_zero, Nat.mul_one]
    exact Nat.le_of_mul_le_mul_right h (Nat.two_pow_pos e)
  · have : 2 ^ e = 2 ^ (e - a) * 2 ^ a := by rw [← Nat.pow_add, Nat.sub_add_cancel g]
    rw [this, ← Nat.mul_assoc] at h
    rw [Nat.sub_eq_zero_of_le g, Nat.pow_zero, Nat.mul_one]
    exact Nat.le_of_mul_le_mul_right h (Nat.two_pow_pos a)
theorem cut_zero_le (n drop : Nat) : Ieee.Toward.zero.cut false n drop ≤ Ieee.Toward.even.cut false n drop := by
  unfold Ieee.Toward.cut
  exact Nat.add_le_add_left (Nat.zero_le _) _
theorem va_top : va 4845873199050653696 = 9007199254740992 * 2 ^ 1074 := by kernel_rfl
theorem va_big : va 4841369599423283200 = 4503599627370496 * 2 ^ 1074 := by kernel_rfl
def toI (r : Nat) : Int := (floatToIntVal .f64 r .i64).getD 0
theorem toI_le {r : Nat} (h : r ≤ 4845873199050653696) : (floatToIntVal .f64 r .i64).isSome = true ∧ 0 ≤ toI r ∧ toI r ≤ 9007199254740992 := by
  obtain ⟨m, e, r1, v1⟩ := rd_fin (r := r) (by omega)
  have hv := va_le h
  rw [v1, va_top] at hv
  have hv := pow_cut hv
  have i1 : (-1074 + (e : Int)).toNat = e - 1074 := by omega
  have i2 : (-(-1074 + (e : Int))).toNat = 1074 - e := by omega
  have hc := Nat.le_trans (cut_zero_le _ _) (cut_le (neg := false) hv)
  have e1 : (Ieee.double.read r).toInt .zero = some ((Ieee.Toward.zero.cut false (m * 2 ^ (e - 1074)) (1074 - e) : Nat) : Int) := by
    rw [r1]
    show some (Ieee.signed false (Ieee.Toward.zero.cut false (m <<< (-1074 + (e : Int)).toNat) (-(-1074 + (e : Int))).toNat) 0) = _
    rw [i1, i2, Nat.shiftLeft_eq]
    rfl
  have e2 : floatToIntVal .f64 r .i64 = some ((Ieee.Toward.zero.cut false (m * 2 ^ (e - 1074)) (1074 - e) : Nat) : Int) := by
    unfold floatToIntVal
    rw [show (FloatKind.f64.decode r).toInt .zero = some ((Ieee.Toward.zero.cut false (m * 2 ^ (e - 1074)) (1074 - e) : Nat) : Int) from e1]
    show (if _ then _ else _) = _
    refine if_pos ⟨?_, ?_⟩
    · show (-9223372036854775808 : Int) ≤ _; omega
    · show _ ≤ (9223372036854775807 : Int); omega
  unfold toI
  rw [e2]
  refine ⟨rfl, ?_, ?_⟩
  · show (0 : Int) ≤ ((Ieee.Toward.zero.cut false (m * 2 ^ (e - 1074)) (1074 - e) : Nat) : Int); omega
  · show ((Ieee.Toward.zero.cut false (m * 2 ^ (e - 1074)) (1074 - e) : Nat) : Int) ≤ _; omega
def ofI (n : Int) : Nat := floatOfInt .f64 n
theorem ofI_le {n : Int} (h : 1 ≤ n) (h2 : n ≤ 4503599627370496) : 4607182418800017408 ≤ ofI n ∧ ofI n ≤ 4841369599423283200 := by
  obtain ⟨k, rfl⟩ := Int.eq_ofNat_of_zero_le (by omega : 0 ≤ n)
  have e : ofI ((k : Nat) : Int) = Ieee.double.nearest false k (-1074 + ((1074 : Nat) : Int) - ((0 : Nat) : Int)) := by
    show Ieee.double.nearest (decide (((k : Nat) : Int) < 0)) ((k : Nat) : Int).natAbs 0 = _
    rw [decide_eq_false (by omega), Int.natAbs_natCast]
    rfl
  rw [e]
  constructor
  · refine near_ge (by omega) 1074 0 (by omega) ?_
    rw [va_one]
    generalize (2 : Nat) ^ 1074 = K
    rw [Nat.pow_zero, Nat.mul_one]
    exact Nat.le_mul_of_pos_left _ (by omega)
  · refine near_le 1074 0 (by omega) ?_
    rw [va_big]
    generalize (2 : Nat) ^ 1074 = K
    rw [Nat.pow_zero, Nat.mul_one]
    exact Nat.mul_le_mul_right _ (by omega)
theorem two_inf : fAr .mul 4611686018427387904 9218868437227405312 = some 9218868437227405312 := by kernel_rfl
theorem twice_res {x r : Nat} (hx : x ≤ 9218868437227405312) (h : fRes .mul 4611686018427387904 x r) : r = fm 4611686018427387904 x ∧ r ≤ 9218868437227405312 := by
  have ex : ∃ r', fAr .mul 4611686018427387904 x = some r' ∧ r' ≤ 9218868437227405312 := by
    rcases Nat.eq_or_lt_of_le hx with g | g
    · subst g; exact ⟨_, two_inf, Nat.le_refl _⟩
    · obtain ⟨r', e, l, _⟩ := mul_fin (x := 4611686018427387904) (by omega) g
      exact ⟨r', e, l⟩
  obtain ⟨r', e, l⟩ := ex
  have := res_of e h
  subst this
  refine ⟨?_, l⟩
  unfold fm
  rw [e]
  rfl
theorem part_res {x d r : Nat} (hx : x ≤ 4841369599423283200) (h : fRes .mul x (drF d) r) : r = fm x (drF d) ∧ r ≤ 4845873199050653696 := by
  have hd := drF_le d
  obtain ⟨r', e, _, l, _⟩ := mul_fin (x := x) (y := drF d) (by omega) (by omega)
  have := res_of e h
  subst this
  refine ⟨?_, Nat.le_trans (l x (by omega) (Nat.mul_le_mul_left _ ?_)) (by omega)⟩
  · unfold fm; rw [e]; rfl
  · rw [← va_one]; exact va_le (by omega)
def partF (x : Nat) (n : Int) (d : Nat) : Nat := fm (min (fm 4611686018427387904 x) (ofI n)) (drF d)
def delF (x : Nat) (n : Int) (d : Nat) : Int := if n < 1 then 0 else if x ≤ 9218868437227405312 ∧ 0 < x then min (toI (partF x n d) + 1) n else 0
end DH
