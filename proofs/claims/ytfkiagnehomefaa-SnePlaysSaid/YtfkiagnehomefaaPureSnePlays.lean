/- The printed function of SnePlays answers true at each argument of its kind, given enough rounds. -/
import Derived.Test.YtfkiagnehomefaaPSnePlaysx2
import Derived.Test.YtfkiagnehomefaaWSized
namespace Go.Proofs.Ytfkiagnehomefaa.PrintWords
open Go.ChangeShapes Go.WideShapes
/-- The bound of a slice argument, under the name by which the row calls it. -/
theorem sized_ints {H : Type} {enc : TypeId × Value → H} {P : Program} {W : World} {base : Nat} {spare : Nat → Bool} {held : Bool} {t e : TypeId} {k : IntKind} {a : Option Addr} {len cap : Nat} {d : DataW H} {ps : List MemPlace} {ts : List TypeId} {ds : List (DataW H)} {j : Nat}
    (hsz : (DataW.weightsEach P ts ds).all (· ≤ reachBytes) = true) (ht : ts[j]? = some t) (hd : ds[j]? = some d) (hu : P.underlying t = some (.slice e)) (he : P.underlying e = some (.int k)) (hc : P.cellsOf e = 1) {B : Nat} (hB : P.bytesOf e = B)
    (h : DataW.Trod enc P W base spare held t (.slice a len cap) d ps) : len * B ≤ 140737488351232 :=
  Go.Proofs.YtfkiagnehomefaaW.PrintWords.sized_ints hsz ht hd hu he hc hB h
end Go.Proofs.Ytfkiagnehomefaa.PrintWords
namespace Go.Proofs.Ytfkiagnehomefaa.Pure
open Go.RowKit Go.Proofs.Ytfkiagnehomefaa.PSnePlays Go.Proofs.YtfkiagnehomefaaW.PrintWords Go.Proofs.YtfkiagnehomefaaW.PrintLast

theorem u32_of {n : Int} (h : (Lit.int .u32 n).wf = true) : 0 ≤ n ∧ n < 4294967296 := by
  simp [Lit.wf, IntKind.min, IntKind.max, IntKind.bits, IntKind.signed] at h; omega
theorem u64_of {n : Int} (h : (Lit.int .u64 n).wf = true) : 0 ≤ n ∧ n < 18446744073709551616 := by
  simp [Lit.wf, IntKind.min, IntKind.max, IntKind.bits, IntKind.signed] at h; omega
theorem i32_of {n : Int} (h : (Lit.int .i32 n).wf = true) : -2147483648 ≤ n ∧ n < 2147483648 := by
  simp [Lit.wf, IntKind.min, IntKind.max, IntKind.bits, IntKind.signed] at h; omega
theorem w64 (n : Int) : IntKind.u64.wrap n = n % 18446744073709551616 := rfl
/-- The 64-bit number nearest to 'a' whose low half is 'b'. -/
def lg (a b : Int) : Int :=
  let d := (b - a + 2147483648) % 4294967296 - 2147483648
  if d < 0 then (if a + d < 0 then a + d + 4294967296 else a + d) else (if a + d ≥ 18446744073709551616 then a + d - 4294967296 else a + d)
theorem diff_eq (a b : Int) : wrap32 ((b - a % 4294967296) % 4294967296) = (b - a + 2147483648) % 4294967296 - 2147483648 := by
  unfold wrap32; omega
theorem long_eq (k : Nat) (a b : Int) (ha : 0 ≤ a ∧ a < 18446744073709551616) (_hb : 0 ≤ b ∧ b < 4294967296) : ring_Long.f (k + 1) a b = some (lg a b) := by
  unfold ring_Long.f ring_Diff.f lg
  rw [diff_eq]
  simp only [Option.bind_some]
  generalize hd : (b - a + 2147483648) % 4294967296 - 2147483648 = d
  have h1 : -2147483648 ≤ d ∧ d < 2147483648 := by omega
  have h2 : wrap64 d = d := by unfold wrap64; omega
  clear hd
  simp only [h2, ring_Long.j0, w64, decide_eq_true_eq, Bool.false_eq_true]
  by_cases h : d < 0
  · rw [if_pos h, if_pos h]
    by_cases h3 : a + d < 0
    · rw [if_pos h3, if_pos (by omega)]; congr 1; omega
    · rw [if_neg h3, if_neg (by omega), if_neg (by omega)]; congr 1; omega
  · rw [if_neg h, if_neg h, if_neg (by decide)]
    by_cases h3 : a + d ≥ 18446744073709551616
    · rw [if_pos h3, if_pos (by omega), if_pos (by omega)]; congr 1; omega
    · rw [if_neg h3]
      by_cases h4 : d > 0
      · rw [if_pos h4, if_neg (by omega)]; congr 1; omega
      · rw [if_neg h4]; congr 1; omega
theorem ahead_eq (a b : Int) (ha : 0 ≤ a ∧ a < 4294967296) (hb : 0 ≤ b ∧ b < 4294967296) : downhaulref01_ahead.f a b = some ((b - a) % 4294967296) := by
  unfold downhaulref01_ahead.f
  have h1 : wrap64 (wrap64 b - wrap64 a) = b - a := by unfold wrap64; omega
  rw [h1]
  by_cases h : a ≤ b
  · have h2 : Int.tmod (b - a) 4294967296 = b - a := Int.tmod_eq_of_lt (by omega) (by omega)
    rw [h2, if_neg (by omega)]; congr 1; omega
  · have h2 : Int.tmod (b - a) 4294967296 = b - a := by
      rw [show b - a = -(a - b) by omega, Int.neg_tmod, Int.tmod_eq_of_lt (by omega) (by omega)]
    rw [h2, if_pos (by omega)]; congr 1; unfold wrap64; omega
theorem refdiff_eq (a b : Int) (ha : 0 ≤ a ∧ a < 4294967296) (hb : 0 ≤ b ∧ b < 4294967296) : downhaulref01_Diff.f a b = some ((b - a + 2147483648) % 4294967296 - 2147483648) := by
  unfold downhaulref01_Diff.f
  rw [ahead_eq a b ha hb]
  simp only [Option.bind_some]
  split
  · congr 1; unfold wrap32 wrap64; omega
  · congr 1; unfold wrap32; omega
theorem and_low (a : Int) (ha : 0 ≤ a ∧ a < 18446744073709551616) : Go.bits .and .u64 a 4294967295 = a % 4294967296 :=
  Go.bits_mask .u64 64 (by decide) (fun n h0 h1 => by rw [w64]; omega) 32 (by decide) a ha.1 (by omega)
theorem reflong_eq (k : Nat) (a b : Int) (ha : 0 ≤ a ∧ a < 18446744073709551616) (hb : 0 ≤ b ∧ b < 4294967296) : downhaulref01_Long.f (k + 1) a b = some (lg a b) := by
  unfold downhaulref01_Long.f lg
  rw [and_low a ha, refdiff_eq _ _ (by omega) hb]
  rw [show (b - a % 4294967296 % 4294967296 + 2147483648) % 4294967296 = (b - a + 2147483648) % 4294967296 by omega]
  simp only [Option.bind_some]
  generalize hd : (b - a + 2147483648) % 4294967296 - 2147483648 = d
  have h1 : -2147483648 ≤ d ∧ d < 2147483648 := by omega
  have h2 : wrap64 (wrap64 (a % 4294967296) + wrap64 d) = a % 4294967296 + d := by unfold wrap64; omega
  have h5 : b = (a + d) % 4294967296 := by omega
  clear hd
  simp only [h2, downhaulref01_Long.j0, w64, decide_eq_true_eq, Bool.false_eq_true]
  have hq : a = a / 4294967296 * 4294967296 + a % 4294967296 := by omega
  generalize hh : a / 4294967296 = q at *
  generalize hl : a % 4294967296 = l at *
  have hq1 : 0 ≤ q ∧ q < 4294967296 := by omega
  have hl1 : 0 ≤ l ∧ l < 4294967296 := by omega
  by_cases h : l + d < 0
  · rw [if_pos h, if_pos (show d < 0 by omega)]
    by_cases h3 : q > 0
    · rw [if_pos h3, if_neg (by omega)]; congr 1; omega
    · rw [if_neg h3, if_neg (by omega), if_pos (by omega)]; congr 1; omega
  · rw [if_neg h, if_neg (by decide)]
    by_cases h3 : l + d ≥ 4294967296
    · rw [if_pos h3, if_neg (show ¬ d < 0 by omega)]
      by_cases h4 : q < 4294967295
      · rw [if_pos h4, if_neg (by omega)]; congr 1; omega
      · rw [if_neg h4, if_pos (by omega)]; congr 1; omega
    · rw [if_neg h3, if_neg (show ¬ a + d < 0 by omega), if_neg (show ¬ a + d ≥ 18446744073709551616 by omega)]
      split <;> (congr 1; omega)
theorem tlong_eq (k : Nat) (hk : 0 < k) (s b : Int) (hs : 0 ≤ s ∧ s < 18446744073709551616) (hb : 0 ≤ b ∧ b < 4294967296) : sne_Tracker_Long.f k s b = some (lg s b) := by
  obtain ⟨k, rfl⟩ : ∃ m, k = m + 1 := ⟨k - 1, by omega⟩
  unfold sne_Tracker_Long.f
  rw [long_eq k s b hs hb]; rfl
theorem later_eq (a b : Int) : sne_later_uint64.f a b = some (if a < b then b else a) := by
  unfold sne_later_uint64.f cmp_Less_uint64.f cmp_isNaN_uint64.f
  simp only [Option.bind_some, bne_self_eq_false, Bool.false_eq_true, if_false, decide_eq_true_eq]
  split <;> rfl
theorem seen_eq (k : Nat) (hk : 0 < k) (s b : Int) (hs : 0 ≤ s ∧ s < 18446744073709551616) (hb : 0 ≤ b ∧ b < 4294967296) : sne_Tracker_Seen.f k s b = some (if s < lg s b then lg s b else s) := by
  unfold sne_Tracker_Seen.f
  rw [tlong_eq k hk s b hs hb]; simp only [Option.bind_some]; rw [later_eq]; rfl
theorem of_eq (k : Nat) (hk : 0 < k) (s b : Int) (hs : 0 ≤ s ∧ s < 18446744073709551616) (hb : 0 ≤ b ∧ b < 4294967296) : sne_Tracker_Of.f k s b = some ((lg s b / 4294967296) % 4294967296) := by
  unfold sne_Tracker_Of.f
  rw [tlong_eq k hk s b hs hb]; rfl
theorem lg_range (s b : Int) (hs : 0 ≤ s ∧ s < 18446744073709551616) : 0 ≤ lg s b ∧ lg s b < 18446744073709551616 := by
  unfold lg; dsimp only; split <;> split <;> omega
theorem alive (k : Nat) : downhaullaw21_alive.f (k + 5) = some true := by kernel_rfl
theorem step64 (i : Int) (h0 : 0 ≤ i) (h1 : i < 2000) : wrap64 (i + 1) = i + 1 := by unfold wrap64; omega
theorem rd_mem (xs : List Int) (i : Int) (h0 : 0 ≤ i) (h1 : i < xs.length) : rd xs i ∈ xs := by
  unfold rd; rw [List.getD_eq_getElem?_getD, List.getElem?_eq_getElem (by omega)]; exact List.getElem_mem _
theorem new_eq (a : Int) (h : 0 ≤ a ∧ a < 4294967296) : sne_New.f a = some a := by
  unfold sne_New.f; rw [w64]; congr 1; omega
theorem lg_mod (a b : Int) (hb : 0 ≤ b ∧ b < 4294967296) : lg a b % 4294967296 = b := by unfold lg; dsimp only; split <;> split <;> omega
/-- What a tracker at 's' becomes by the numbers 'xs'. -/
def fold (s : Int) : List Int → Int
  | [] => s
  | x :: xs => fold (if s < lg s x then lg s x else s) xs
theorem fold_range (xs : List Int) : ∀ s, 0 ≤ s ∧ s < 18446744073709551616 → 0 ≤ fold s xs ∧ fold s xs < 18446744073709551616 := by
  induction xs with
  | nil => intro s h; exact h
  | cons x xs ih => intro s h; exact ih _ (by have := lg_range s x h; split <;> omega)
theorem drop_cons (xs : List Int) (i : Int) (h0 : 0 ≤ i) (h1 : i < xs.length) : xs.drop i.toNat = rd xs i :: xs.drop (i + 1).toNat := by
  have : (i + 1).toNat = i.toNat + 1 := by omega
  unfold rd
  rw [this, List.getD_eq_getElem?_getD, List.getElem?_eq_getElem (by omega), List.drop_eq_getElem_cons (by omega)]; rfl
theorem refloop (xs : List Int) (hn : xs.length ≤ 1000) (hx : ∀ x ∈ xs, 0 ≤ x ∧ x < 4294967296) (d : Nat) : ∀ (k : Nat) (i s : Int), 0 ≤ i → (xs.length : Int) - i = d → d + 10 ≤ k → 0 ≤ s ∧ s < 18446744073709551616 →
    downhaulref21_Seen.l0 k xs s i = some (fold s (xs.drop i.toNat)) := by
  induction d with
  | zero =>
    intro k i s h0 hd hk hs
    obtain ⟨k, rfl⟩ : ∃ m, k = m + 1 := ⟨k - 1, by omega⟩
    simp only [downhaulref21_Seen.l0]
    rw [if_neg (by omega), List.drop_of_length_le (by omega)]; rfl
  | succ d ih =>
    intro k i s h0 hd hk hs
    obtain ⟨k, rfl⟩ : ∃ m, k = m + 2 := ⟨k - 2, by omega⟩
    have hb := hx _ (rd_mem xs i h0 (by omega))
    rw [drop_cons xs i h0 (by omega)]
    generalize hbe : rd xs i = b at *
    have hl := lg_range s b hs
    simp only [downhaulref21_Seen.l0, hbe, fold]
    rw [if_pos (by omega), if_pos h0, reflong_eq k s b hs hb, step64 i h0 (by omega)]
    simp only [Option.bind_some]
    by_cases c : s < lg s b
    · rw [if_pos c, if_pos c]; exact ih (k + 1) (i + 1) _ (by omega) (by omega) (by omega) hl
    · rw [if_neg c, if_neg c]; exact ih (k + 1) (i + 1) _ (by omega) (by omega) (by omega) hs
theorem loop (a0 : Int) (ha : 0 ≤ a0 ∧ a0 < 4294967296) (b0 : Int) (hb0 : 0 ≤ b0 ∧ b0 < 4294967296) (xs : List Int) (hn : xs.length ≤ 1000) (hx : ∀ x ∈ xs, 0 ≤ x ∧ x < 4294967296) (d : Nat) : ∀ (k : Nat) (i s : Int), 0 ≤ i → (xs.length : Int) - i = d → d + xs.length + 20 ≤ k → 0 ≤ s ∧ s < 18446744073709551616 →
    fold a0 xs = fold s (xs.drop i.toNat) → downhaullaw21_SnePlays.l0 k a0 xs b0 xs (xs.length : Int) i s = some true := by
  induction d with
  | zero =>
    intro k i s h0 hd hk hs hf
    obtain ⟨k, rfl⟩ : ∃ m, k = m + 6 := ⟨k - 6, by omega⟩
    rw [List.drop_of_length_le (by omega)] at hf
    simp only [fold] at hf
    simp only [downhaullaw21_SnePlays.l0]
    have h1 : IntKind.u64.wrap a0 = a0 := by rw [w64]; omega
    have h2 := refloop xs hn hx xs.length (k + 5) 0 a0 (by omega) (by omega) (by omega) (by omega)
    simp only [Int.toNat_zero, List.drop_zero, hf] at h2
    have h3 : downhaulref21_Seen.f (k + 5) a0 xs = some s := by unfold downhaulref21_Seen.f; rw [h1]; exact h2
    rw [if_neg (by omega), h3]
    simp only [Option.bind_some]
    rw [reflong_eq (k + 4) s b0 hs hb0]
    simp only [Option.bind_some, sne_Tracker_Now.f]
    rw [tlong_eq _ (by omega) s b0 hs hb0, of_eq _ (by omega) s b0 hs hb0, alive k]
    simp only [Option.bind_some, if_true]
  | succ d ih =>
    intro k i s h0 hd hk hs hf
    obtain ⟨k, rfl⟩ : ∃ m, k = m + 1 := ⟨k - 1, by omega⟩
    have hb := hx _ (rd_mem xs i h0 (by omega))
    rw [drop_cons xs i h0 (by omega)] at hf
    generalize hbe : rd xs i = b at *
    have hl := lg_range s b hs
    simp only [fold] at hf
    have e1 := seen_eq k (by omega) s b hs hb
    simp only [downhaullaw21_SnePlays.l0, hbe]
    rw [if_pos (by omega), if_pos h0, if_pos (by omega), e1, step64 i h0 (by omega)]
    simp only [Option.bind_some]
    exact ih k (i + 1) _ (by omega) (by omega) (by omega) (by split <;> omega) hf
theorem SnePlays : downhaullaw21_SnePlays.Pure := by
  intro a xs b ha _ _ hx hb
  refine ⟨2 * xs.length + 40, ?_⟩
  unfold downhaullaw21_SnePlays.f
  have ha := u32_of ha
  rw [new_eq a ha, alive]
  simp only [Option.bind_some]
  by_cases c : (xs.length : Int) > 1000
  · rw [if_pos c]
  · rw [if_neg c]
    exact loop a ha b (u32_of hb) xs (by omega) (fun x h => u32_of (hx x h)) xs.length _ 0 a (by omega) (by omega) (by omega) (by omega) rfl

end Go.Proofs.Ytfkiagnehomefaa.Pure
