/- The printed function of SneRound answers true at each argument of its kind, given enough rounds. -/
import Derived.Test.YtfkiagnehomefaaPSneRoundx2
import Derived.Test.YtfkiagnehomefaaWSized
namespace Go.Proofs.Ytfkiagnehomefaa.PrintWords
open Go.ChangeShapes Go.WideShapes
/-- The bound of a slice argument, under the name by which the row calls it. -/
theorem sized_ints {H : Type} {enc : TypeId × Value → H} {P : Program} {W : World} {base : Nat} {spare : Nat → Bool} {held : Bool} {t e : TypeId} {k : IntKind} {a : Option Addr} {len cap : Nat} {d : DataW H} {ps : List MemPlace} {ts : List TypeId} {ds : List (DataW H)} {j : Nat}
    (hsz : (DataW.weightsEach P ts ds).all (· ≤ reachBytes) = true) (ht : ts[j]? = some t) (hd : ds[j]? = some d) (hu : P.underlying t = some (.slice e)) (he : P.underlying e = some (.int k)) (hc : P.cellsOf e = 1) {B : Nat} (hB : P.bytesOf e = B)
    (h : DataW.Trod enc P W base spare held t (.slice a len cap) d ps) : len * B ≤ 140737488351232 :=
  Go.Proofs.YtfkiagnehomefaaW.PrintWords.sized_ints hsz ht hd hu he hc hB h
end Go.Proofs.Ytfkiagnehomefaa.PrintWords
namespace Go.Proofs.Ytfkiagnehomefaa.Pure
open Go.RowKit Go.Proofs.Ytfkiagnehomefaa.PSneRound Go.Proofs.YtfkiagnehomefaaW.PrintWords Go.Proofs.YtfkiagnehomefaaW.PrintLast

theorem u32_of {n : Int} (h : (Lit.int .u32 n).wf = true) : 0 ≤ n ∧ n < 4294967296 := by
  simp [Lit.wf, IntKind.min, IntKind.max, IntKind.bits, IntKind.signed] at h; omega
theorem u64_of {n : Int} (h : (Lit.int .u64 n).wf = true) : 0 ≤ n ∧ n < 18446744073709551616 := by
  simp [Lit.wf, IntKind.min, IntKind.max, IntKind.bits, IntKind.signed] at h; omega
theorem i32_of {n : Int} (h : (Lit.int .i32 n).wf = true) : -2147483648 ≤ n ∧ n < 2147483648 := by
  simp [Lit.wf, IntKind.min, IntKind.max, IntKind.bits, IntKind.signed] at h; omega
theorem w64 (n : Int) : IntKind.u64.wrap n = n % 18446744073709551616 := rfl
/-- The 64-bit number nearest to 'a' whose low half is 'b'. -/
def lg (a b : Int) : Int :=
  let d := (b - a + 2147483648) % 4294967296 - 2147483648
  if d < 0 then (if a + d < 0 then a + d + 4294967296 else a + d) else (if a + d ≥ 18446744073709551616 then a + d - 4294967296 else a + d)
theorem diff_eq (a b : Int) : wrap32 ((b - a % 4294967296) % 4294967296) = (b - a + 2147483648) % 4294967296 - 2147483648 := by
  unfold wrap32; omega
theorem long_eq (k : Nat) (a b : Int) (ha : 0 ≤ a ∧ a < 18446744073709551616) (_hb : 0 ≤ b ∧ b < 4294967296) : ring_Long.f (k + 1) a b = some (lg a b) := by
  unfold ring_Long.f ring_Diff.f lg
  rw [diff_eq]
  simp only [Option.bind_some]
  generalize hd : (b - a + 2147483648) % 4294967296 - 2147483648 = d
  have h1 : -2147483648 ≤ d ∧ d < 2147483648 := by omega
  have h2 : wrap64 d = d := by unfold wrap64; omega
  clear hd
  simp only [h2, ring_Long.j0, w64, decide_eq_true_eq, Bool.false_eq_true]
  by_cases h : d < 0
  · rw [if_pos h, if_pos h]
    by_cases h3 : a + d < 0
    · rw [if_pos h3, if_pos (by omega)]; congr 1; omega
    · rw [if_neg h3, if_neg (by omega), if_neg (by omega)]; congr 1; omega
  · rw [if_neg h, if_neg h, if_neg (by decide)]
    by_cases h3 : a + d ≥ 18446744073709551616
    · rw [if_pos h3, if_pos (by omega), if_pos (by omega)]; congr 1; omega
    · rw [if_neg h3]
      by_cases h4 : d > 0
      · rw [if_pos h4, if_neg (by omega)]; congr 1; omega
      · rw [if_neg h4]; congr 1; omega
theorem tlong_eq (k : Nat) (hk : 0 < k) (s b : Int) (hs : 0 ≤ s ∧ s < 18446744073709551616) (hb : 0 ≤ b ∧ b < 4294967296) : sne_Tracker_Long.f k s b = some (lg s b) := by
  obtain ⟨k, rfl⟩ : ∃ m, k = m + 1 := ⟨k - 1, by omega⟩
  unfold sne_Tracker_Long.f
  rw [long_eq k s b hs hb]; rfl
theorem later_eq (a b : Int) : sne_later_uint64.f a b = some (if a < b then b else a) := by
  unfold sne_later_uint64.f cmp_Less_uint64.f cmp_isNaN_uint64.f
  simp only [Option.bind_some, bne_self_eq_false, Bool.false_eq_true, if_false, decide_eq_true_eq]
  split <;> rfl
theorem seen_eq (k : Nat) (hk : 0 < k) (s b : Int) (hs : 0 ≤ s ∧ s < 18446744073709551616) (hb : 0 ≤ b ∧ b < 4294967296) : sne_Tracker_Seen.f k s b = some (if s < lg s b then lg s b else s) := by
  unfold sne_Tracker_Seen.f
  rw [tlong_eq k hk s b hs hb]; simp only [Option.bind_some]; rw [later_eq]; rfl
theorem of_eq (k : Nat) (hk : 0 < k) (s b : Int) (hs : 0 ≤ s ∧ s < 18446744073709551616) (hb : 0 ≤ b ∧ b < 4294967296) : sne_Tracker_Of.f k s b = some ((lg s b / 4294967296) % 4294967296) := by
  unfold sne_Tracker_Of.f
  rw [tlong_eq k hk s b hs hb]; rfl
theorem lg_range (s b : Int) (hs : 0 ≤ s ∧ s < 18446744073709551616) : 0 ≤ lg s b ∧ lg s b < 18446744073709551616 := by
  unfold lg; dsimp only; split <;> split <;> omega
theorem alive (k : Nat) : downhaullaw21_alive.f (k + 5) = some true := by kernel_rfl
theorem step64 (i : Int) (h0 : 0 ≤ i) (h1 : i < 2000) : wrap64 (i + 1) = i + 1 := by unfold wrap64; omega
theorem rd_mem (xs : List Int) (i : Int) (h0 : 0 ≤ i) (h1 : i < xs.length) : rd xs i ∈ xs := by
  unfold rd; rw [List.getD_eq_getElem?_getD, List.getElem?_eq_getElem (by omega)]; exact List.getElem_mem _
theorem new_eq (a : Int) (h : 0 ≤ a ∧ a < 4294967296) : sne_New.f a = some a := by
  unfold sne_New.f; rw [w64]; congr 1; omega
theorem lg_back (s d : Int) (hd : -2147483648 < d ∧ d < 2147483648) (h0 : 0 ≤ s + d) (h1 : s + d < 18446744073709551616) : lg s ((s + d) % 4294967296) = s + d := by
  unfold lg; dsimp only
  have : ((s + d) % 4294967296 - s + 2147483648) % 4294967296 - 2147483648 = d := by omega
  rw [this]
  split
  · rw [if_neg (by omega)]
  · rw [if_neg (by omega)]
theorem loop (xs : List Int) (hn : xs.length ≤ 1000) (hx : ∀ x ∈ xs, -2147483648 ≤ x ∧ x < 2147483648) (d : Nat) : ∀ (k : Nat) (i s : Int), 0 ≤ i → (xs.length : Int) - i = d → 3 * d + 10 ≤ k → 0 ≤ s ∧ s < 4294967296 + i * 2147483648 →
    downhaullaw21_SneRound.l0 k s xs (xs.length : Int) i s = some true := by
  induction d with
  | zero =>
    intro k i s h0 hd hk hs
    obtain ⟨k, rfl⟩ : ∃ m, k = m + 6 := ⟨k - 6, by omega⟩
    simp only [downhaullaw21_SneRound.l0]
    rw [if_neg (by omega), alive k]; rfl
  | succ d ih =>
    intro k i s h0 hd hk hs
    obtain ⟨k, rfl⟩ : ∃ m, k = m + 3 := ⟨k - 3, by omega⟩
    have hb := hx _ (rd_mem xs i h0 (by omega))
    generalize hbe : rd xs i = b at *
    have skip : ∀ n, 3 * d + 10 ≤ n → downhaullaw21_SneRound.j1 (n + 1) s b xs (xs.length : Int) i true s = some true := by
      intro n hn
      simp only [downhaullaw21_SneRound.j1, if_true]
      rw [step64 i h0 (by omega)]
      exact ih n (i + 1) s (by omega) (by omega) hn (by omega)
    have go : -2147483648 < b → 0 ≤ s + b → downhaullaw21_SneRound.j1 (k + 2) s b xs (xs.length : Int) i false s = some true := by
      intro h1 h2
      have h3 : IntKind.u64.wrap (s + IntKind.u64.wrap (wrap64 b)) = s + b := by rw [w64, w64]; unfold wrap64; omega
      have hs' : 0 ≤ s ∧ s < 18446744073709551616 := by omega
      have h4 := lg_back s b (by omega) h2 (by omega)
      simp only [downhaullaw21_SneRound.j1, h3, Bool.false_eq_true, if_false]
      rw [tlong_eq _ (by omega) s _ hs' (by omega), of_eq _ (by omega) s _ hs' (by omega)]
      simp only [Option.bind_some, h4, if_true]
      simp only [bne_self_eq_false, downhaullaw21_SneRound.j2, Bool.false_eq_true, if_false]
      rw [seen_eq _ (by omega) s _ hs' (by omega)]
      simp only [Option.bind_some, sne_Tracker_Now.f, h4]
      have h5 : mx s (s + b) = (if s < s + b then s + b else s) := rfl
      rw [if_pos h5.symm, ← h5, step64 i h0 (by omega)]
      refine ih _ (i + 1) _ (by omega) (by omega) (by omega) ?_
      rw [h5]; split <;> omega
    simp only [downhaullaw21_SneRound.l0, hbe]
    rw [if_pos (by omega), if_pos h0, if_pos (by omega)]
    by_cases c : b = -2147483648
    · rw [if_pos c]; exact skip (k + 1) (by omega)
    · rw [if_neg c]
      by_cases c2 : b < 0
      · rw [if_pos c2]
        have h6 : IntKind.u64.wrap (wrap64 (-(wrap64 b))) = -b := by rw [w64]; unfold wrap64; omega
        rw [h6]
        by_cases c3 : -b > s
        · rw [decide_eq_true c3]; exact skip (k + 1) (by omega)
        · rw [decide_eq_false c3]; exact go (by omega) (by omega)
      · rw [if_neg c2]; exact go (by omega) (by omega)
theorem SneRound : downhaullaw21_SneRound.Pure := by
  intro a xs ha _ _ hx
  refine ⟨3 * xs.length + 20, ?_⟩
  unfold downhaullaw21_SneRound.f
  have ha := u32_of ha
  have h1 : IntKind.u64.wrap a = a := by rw [w64]; omega
  rw [new_eq a ha, alive, h1]
  simp only [Option.bind_some]
  by_cases c : (xs.length : Int) > 1000
  · rw [if_pos c]
  · rw [if_neg c]
    exact loop xs (by omega) (fun x h => i32_of (hx x h)) xs.length _ 0 a (by omega) (by omega) (by omega) (by omega)

end Go.Proofs.Ytfkiagnehomefaa.Pure
