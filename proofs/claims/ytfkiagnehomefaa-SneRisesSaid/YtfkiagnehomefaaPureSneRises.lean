/- The printed function of SneRises answers true at each argument of its kind, given enough rounds. -/
import Derived.Test.YtfkiagnehomefaaPSneRisesx2
import Derived.Test.YtfkiagnehomefaaWSized
namespace Go.Proofs.Ytfkiagnehomefaa.PrintWords
open Go.ChangeShapes Go.WideShapes
/-- The bound of a slice argument, under the name by which the row calls it. -/
theorem sized_ints {H : Type} {enc : TypeId × Value → H} {P : Program} {W : World} {base : Nat} {spare : Nat → Bool} {held : Bool} {t e : TypeId} {k : IntKind} {a : Option Addr} {len cap : Nat} {d : DataW H} {ps : List MemPlace} {ts : List TypeId} {ds : List (DataW H)} {j : Nat}
    (hsz : (DataW.weightsEach P ts ds).all (· ≤ reachBytes) = true) (ht : ts[j]? = some t) (hd : ds[j]? = some d) (hu : P.underlying t = some (.slice e)) (he : P.underlying e = some (.int k)) (hc : P.cellsOf e = 1) {B : Nat} (hB : P.bytesOf e = B)
    (h : DataW.Trod enc P W base spare held t (.slice a len cap) d ps) : len * B ≤ 140737488351232 :=
  Go.Proofs.YtfkiagnehomefaaW.PrintWords.sized_ints hsz ht hd hu he hc hB h
end Go.Proofs.Ytfkiagnehomefaa.PrintWords
namespace Go.Proofs.Ytfkiagnehomefaa.Pure
open Go.RowKit Go.Proofs.Ytfkiagnehomefaa.PSneRises Go.Proofs.YtfkiagnehomefaaW.PrintWords Go.Proofs.YtfkiagnehomefaaW.PrintLast

theorem u32_of {n : Int} (h : (Lit.int .u32 n).wf = true) : 0 ≤ n ∧ n < 4294967296 := by
  simp [Lit.wf, IntKind.min, IntKind.max, IntKind.bits, IntKind.signed] at h; omega
theorem u64_of {n : Int} (h : (Lit.int .u64 n).wf = true) : 0 ≤ n ∧ n < 18446744073709551616 := by
  simp [Lit.wf, IntKind.min, IntKind.max, IntKind.bits, IntKind.signed] at h; omega
theorem i32_of {n : Int} (h : (Lit.int .i32 n).wf = true) : -2147483648 ≤ n ∧ n < 2147483648 := by
  simp [Lit.wf, IntKind.min, IntKind.max, IntKind.bits, IntKind.signed] at h; omega
theorem w64 (n : Int) : IntKind.u64.wrap n = n % 18446744073709551616 := rfl
/-- The 64-bit number nearest to 'a' whose low half is 'b'. -/
def lg (a b : Int) : Int :=
  let d := (b - a + 2147483648) % 4294967296 - 2147483648
  if d < 0 then (if a + d < 0 then a + d + 4294967296 else a + d) else (if a + d ≥ 18446744073709551616 then a + d - 4294967296 else a + d)
theorem diff_eq (a b : Int) : wrap32 ((b - a % 4294967296) % 4294967296) = (b - a + 2147483648) % 4294967296 - 2147483648 := by
  unfold wrap32; omega
theorem long_eq (k : Nat) (a b : Int) (ha : 0 ≤ a ∧ a < 18446744073709551616) (_hb : 0 ≤ b ∧ b < 4294967296) : ring_Long.f (k + 1) a b = some (lg a b) := by
  unfold ring_Long.f ring_Diff.f lg
  rw [diff_eq]
  simp only [Option.bind_some]
  generalize hd : (b - a + 2147483648) % 4294967296 - 2147483648 = d
  have h1 : -2147483648 ≤ d ∧ d < 2147483648 := by omega
  have h2 : wrap64 d = d := by unfold wrap64; omega
  clear hd
  simp only [h2, ring_Long.j0, w64, decide_eq_true_eq, Bool.false_eq_true]
  by_cases h : d < 0
  · rw [if_pos h, if_pos h]
    by_cases h3 : a + d < 0
    · rw [if_pos h3, if_pos (by omega)]; congr 1; omega
    · rw [if_neg h3, if_neg (by omega), if_neg (by omega)]; congr 1; omega
  · rw [if_neg h, if_neg h, if_neg (by decide)]
    by_cases h3 : a + d ≥ 18446744073709551616
    · rw [if_pos h3, if_pos (by omega), if_pos (by omega)]; congr 1; omega
    · rw [if_neg h3]
      by_cases h4 : d > 0
      · rw [if_pos h4, if_neg (by omega)]; congr 1; omega
      · rw [if_neg h4]; congr 1; omega
theorem tlong_eq (k : Nat) (hk : 0 < k) (s b : Int) (hs : 0 ≤ s ∧ s < 18446744073709551616) (hb : 0 ≤ b ∧ b < 4294967296) : sne_Tracker_Long.f k s b = some (lg s b) := by
  obtain ⟨k, rfl⟩ : ∃ m, k = m + 1 := ⟨k - 1, by omega⟩
  unfold sne_Tracker_Long.f
  rw [long_eq k s b hs hb]; rfl
theorem later_eq (a b : Int) : sne_later_uint64.f a b = some (if a < b then b else a) := by
  unfold sne_later_uint64.f cmp_Less_uint64.f cmp_isNaN_uint64.f
  simp only [Option.bind_some, bne_self_eq_false, Bool.false_eq_true, if_false, decide_eq_true_eq]
  split <;> rfl
theorem seen_eq (k : Nat) (hk : 0 < k) (s b : Int) (hs : 0 ≤ s ∧ s < 18446744073709551616) (hb : 0 ≤ b ∧ b < 4294967296) : sne_Tracker_Seen.f k s b = some (if s < lg s b then lg s b else s) := by
  unfold sne_Tracker_Seen.f
  rw [tlong_eq k hk s b hs hb]; simp only [Option.bind_some]; rw [later_eq]; rfl
theorem of_eq (k : Nat) (hk : 0 < k) (s b : Int) (hs : 0 ≤ s ∧ s < 18446744073709551616) (hb : 0 ≤ b ∧ b < 4294967296) : sne_Tracker_Of.f k s b = some ((lg s b / 4294967296) % 4294967296) := by
  unfold sne_Tracker_Of.f
  rw [tlong_eq k hk s b hs hb]; rfl
theorem lg_range (s b : Int) (hs : 0 ≤ s ∧ s < 18446744073709551616) : 0 ≤ lg s b ∧ lg s b < 18446744073709551616 := by
  unfold lg; dsimp only; split <;> split <;> omega
theorem alive (k : Nat) : downhaullaw21_alive.f (k + 5) = some true := by kernel_rfl
theorem step64 (i : Int) (h0 : 0 ≤ i) (h1 : i < 2000) : wrap64 (i + 1) = i + 1 := by unfold wrap64; omega
theorem rd_mem (xs : List Int) (i : Int) (h0 : 0 ≤ i) (h1 : i < xs.length) : rd xs i ∈ xs := by
  unfold rd; rw [List.getD_eq_getElem?_getD, List.getElem?_eq_getElem (by omega)]; exact List.getElem_mem _
theorem new_eq (a : Int) (h : 0 ≤ a ∧ a < 4294967296) : sne_New.f a = some a := by
  unfold sne_New.f; rw [w64]; congr 1; omega
theorem loop (xs : List Int) (hn : xs.length ≤ 1000) (hx : ∀ x ∈ xs, 0 ≤ x ∧ x < 4294967296) (d : Nat) : ∀ (k : Nat) (i s : Int), 0 ≤ i → (xs.length : Int) - i = d → d + 10 ≤ k → 0 ≤ s ∧ s < 18446744073709551616 →
    downhaullaw21_SneRises.l0 k xs (xs.length : Int) i s = some true := by
  induction d with
  | zero =>
    intro k i s h0 hd hk hs
    obtain ⟨k, rfl⟩ : ∃ m, k = m + 6 := ⟨k - 6, by omega⟩
    simp only [downhaullaw21_SneRises.l0]
    rw [if_neg (by omega), alive k]; rfl
  | succ d ih =>
    intro k i s h0 hd hk hs
    obtain ⟨k, rfl⟩ : ∃ m, k = m + 1 := ⟨k - 1, by omega⟩
    have hb := hx _ (rd_mem xs i h0 (by omega))
    generalize hbe : rd xs i = b at *
    have hl := lg_range s b hs
    have hs2 : 0 ≤ (if s < lg s b then lg s b else s) ∧ (if s < lg s b then lg s b else s) < 18446744073709551616 := by split <;> omega
    have e1 := seen_eq k (by omega) s b hs hb
    have e2 := seen_eq k (by omega) _ b hs2 hb
    have h3 : (if (if s < lg s b then lg s b else s) < lg (if s < lg s b then lg s b else s) b then lg (if s < lg s b then lg s b else s) b else (if s < lg s b then lg s b else s)) = (if s < lg s b then lg s b else s) := by
      by_cases c : s < lg s b
      · rw [if_pos c]
        have h4 : lg (lg s b) b = lg s b := by
          have : lg s b % 4294967296 = b := by unfold lg; dsimp only; split <;> split <;> omega
          generalize lg s b = m at *
          unfold lg; dsimp only
          have : (b - m + 2147483648) % 4294967296 - 2147483648 = 0 := by omega
          rw [this]; rw [if_neg (by omega), if_neg (by omega)]; omega
        rw [h4, if_neg (by omega)]
      · rw [if_neg c, if_neg c]
    rw [h3] at e2
    have h5 : s ≥ 2147483648 → (if s < lg s b then lg s b else s) - s < 2147483648 := by
      intro hh
      by_cases c : s < lg s b
      · rw [if_pos c]; revert c; unfold lg; dsimp only; split <;> split <;> intro c <;> omega
      · rw [if_neg c]; omega
    have h6 : s ≤ (if s < lg s b then lg s b else s) := by split <;> omega
    generalize hm : (if s < lg s b then lg s b else s) = m at *
    simp only [downhaullaw21_SneRises.l0, sne_Tracker_Now.f, hbe]
    rw [if_pos (by omega), if_pos h0, if_pos (by omega), e1]
    simp only [Option.bind_some, w64]
    rw [if_neg (by omega)]
    simp only [e2, Option.bind_some]
    rw [step64 i h0 (by omega), ih k (i + 1) m (by omega) (by omega) (by omega) hs2]
    simp only [if_true]
    by_cases c : s ≥ 2147483648
    · have := h5 c
      rw [if_pos c, if_neg (by omega)]
    · rw [if_neg c]
theorem SneRises : downhaullaw21_SneRises.Pure := by
  intro a xs ha _ _ hx
  refine ⟨xs.length + 20, ?_⟩
  unfold downhaullaw21_SneRises.f
  have ha := u32_of ha
  rw [new_eq a ha, alive]
  simp only [Option.bind_some]
  by_cases c : (xs.length : Int) > 1000
  · rw [if_pos c]
  · rw [if_neg c]
    exact loop xs (by omega) (fun x h => u32_of (hx x h)) xs.length _ 0 a (by omega) (by omega) (by omega) (by omega)

end Go.Proofs.Ytfkiagnehomefaa.Pure
