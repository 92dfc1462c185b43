/- Walks of functions, each by evaluation: what each returns. -/
import Derived.Test.YtdnggeocdocomaaJ6
set_option linter.unusedVariables false
set_option linter.unusedSimpArgs false
noncomputable section
namespace DH
open Go Go.Proofs
/-! a block that is known -/
theorem exL_lit (key L : List (BitVec 8)) (hL : L.length = 176) (h : ∀ j, j < 176 → L.getD j 0 = exNext key L j) : exL key 176 = L := by
  have eq : ∀ m, ∀ j, j < m → j < 176 → eat key j = L.getD j 0 := by
    intro m
    induction m with
    | zero => intro j hj; omega
    | succ m ih =>
      intro j hj h176
      rw [eat_next, h j h176]
      unfold exNext
      by_cases h1 : j < 16
      · rw [if_pos h1, if_pos h1]
      · rw [if_neg h1, if_neg h1]
        by_cases h2 : j % 16 < 4
        · rw [if_pos h2, if_pos h2, exL_get _ _ _ (by omega), exL_get _ _ _ (by omega), ih _ (by omega) (by omega), ih _ (by omega) (by omega)]
        · rw [if_neg h2, if_neg h2, exL_get _ _ _ (by omega), exL_get _ _ _ (by omega), ih _ (by omega) (by omega), ih _ (by omega) (by omega)]
  apply List.ext_getElem (by rw [exL_len, hL])
  intro j h1 h2
  have h176 : j < 176 := by rw [exL_len] at h1; exact h1
  have := eq (j + 1) j (by omega) h176
  rw [← E_get key h176, List.getD_eq_getElem?_getD, List.getD_eq_getElem?_getD, List.getElem?_eq_getElem h1, List.getElem?_eq_getElem h2] at this
  exact this
def litB (l : List Nat) : List (BitVec 8) := l.map (BitVec.ofNat 8)
def akey : List (BitVec 8) := litB [0, 1, 2, 3, 4, 5, 6, 7, 8, 9, 10, 11, 12, 13, 14, 15]
def ablk : List (BitVec 8) := litB [0, 17, 34, 51, 68, 85, 102, 119, 136, 153, 170, 187, 204, 221, 238, 255]
def aL : List (BitVec 8) := litB [0, 1, 2, 3, 4, 5, 6, 7, 8, 9, 10, 11, 12, 13, 14, 15, 214, 170, 116, 253, 210, 175, 114, 250, 218, 166, 120, 241, 214, 171, 118, 254, 182, 146, 207, 11, 100, 61, 189, 241, 190, 155, 197, 0, 104, 48, 179, 254, 182, 255, 116, 78, 210, 194, 201, 191, 108, 89, 12, 191, 4, 105, 191, 65, 71, 247, 247, 188, 149, 53, 62, 3, 249, 108, 50, 188, 253, 5, 141, 253, 60, 170, 163, 232, 169, 159, 157, 235, 80, 243, 175, 87, 173, 246, 34, 170, 94, 57, 15, 125, 247, 166, 146, 150, 167, 85, 61, 193, 10, 163, 31, 107, 20, 249, 112, 26, 227, 95, 226, 140, 68, 10, 223, 77, 78, 169, 192, 38, 71, 67, 135, 53, 164, 28, 101, 185, 224, 22, 186, 244, 174, 191, 122, 210, 84, 153, 50, 209, 240, 133, 87, 104, 16, 147, 237, 156, 190, 44, 151, 78, 19, 17, 29, 127, 227, 148, 74, 23, 243, 7, 167, 139, 77, 43, 48, 197]
theorem t8 : (List.range 176).all (fun j => decide (aL.getD j 0 = exNext akey aL j)) = true := by kernel_rfl
theorem aL_eq : exL akey 176 = aL := exL_lit akey aL (by kernel_rfl) fun j h => of_decide_eq_true (List.all_eq_true.1 t8 j (List.mem_range.2 h))
def aB0 : List (BitVec 8) := litB [0, 16, 32, 48, 64, 80, 96, 112, 128, 144, 160, 176, 192, 208, 224, 240]
def aB1 : List (BitVec 8) := litB [137, 216, 16, 232, 133, 90, 206, 104, 45, 24, 67, 216, 203, 18, 143, 228]
def aB2 : List (BitVec 8) := litB [73, 21, 89, 143, 85, 229, 215, 160, 218, 202, 148, 250, 31, 10, 99, 247]
def aB3 : List (BitVec 8) := litB [250, 99, 106, 40, 37, 179, 57, 201, 64, 102, 138, 49, 87, 36, 77, 23]
def aB4 : List (BitVec 8) := litB [36, 114, 64, 35, 105, 102, 179, 250, 110, 210, 117, 50, 136, 66, 91, 108]
def aB5 : List (BitVec 8) := litB [200, 22, 119, 188, 155, 122, 201, 59, 37, 2, 121, 146, 176, 38, 25, 150]
def aB6 : List (BitVec 8) := litB [198, 47, 225, 9, 247, 94, 237, 195, 204, 121, 57, 93, 132, 249, 207, 93]
def aB7 : List (BitVec 8) := litB [209, 135, 108, 15, 121, 196, 48, 10, 180, 85, 148, 173, 214, 111, 244, 31]
def aB8 : List (BitVec 8) := litB [253, 227, 186, 210, 5, 229, 208, 215, 53, 71, 150, 78, 241, 254, 55, 241]
def aB9 : List (BitVec 8) := litB [189, 110, 124, 61, 242, 181, 119, 158, 11, 97, 33, 110, 139, 16, 182, 137]
def aB10 : List (BitVec 8) := litB [105, 196, 224, 216, 106, 123, 4, 48, 216, 205, 183, 128, 112, 180, 197, 90]
theorem aR (n : Nat) : rkF akey n = (aL.drop (16 * n)).take 16 := by unfold rkF; rw [aL_eq]
theorem aE0 : encN akey ablk 0 = aB0 := by
  show xorL ablk (rkF akey 0) = aB0
  rw [aR]
  decide +kernel
theorem aE1 : encN akey ablk 1 = aB1 := by
  show rndF akey 1 (encN akey ablk 0) = aB1
  rw [aE0]
  unfold rndF
  rw [aR]
  decide +kernel
theorem aE2 : encN akey ablk 2 = aB2 := by
  show rndF akey 2 (encN akey ablk 1) = aB2
  rw [aE1]
  unfold rndF
  rw [aR]
  decide +kernel
theorem aE3 : encN akey ablk 3 = aB3 := by
  show rndF akey 3 (encN akey ablk 2) = aB3
  rw [aE2]
  unfold rndF
  rw [aR]
  decide +kernel
theorem aE4 : encN akey ablk 4 = aB4 := by
  show rndF akey 4 (encN akey ablk 3) = aB4
  rw [aE3]
  unfold rndF
  rw [aR]
  decide +kernel
theorem aE5 : encN akey ablk 5 = aB5 := by
  show rndF akey 5 (encN akey ablk 4) = aB5
  rw [aE4]
  unfold rndF
  rw [aR]
  decide +kernel
theorem aE6 : encN akey ablk 6 = aB6 := by
  show rndF akey 6 (encN akey ablk 5) = aB6
  rw [aE5]
  unfold rndF
  rw [aR]
  decide +kernel
theorem aE7 : encN akey ablk 7 = aB7 := by
  show rndF akey 7 (encN akey ablk 6) = aB7
  rw [aE6]
  unfold rndF
  rw [aR]
  decide +kernel
theorem aE8 : encN akey ablk 8 = aB8 := by
  show rndF akey 8 (encN akey ablk 7) = aB8
  rw [aE7]
  unfold rndF
  rw [aR]
  decide +kernel
theorem aE9 : encN akey ablk 9 = aB9 := by
  show rndF akey 9 (encN akey ablk 8) = aB9
  rw [aE8]
  unfold rndF
  rw [aR]
  decide +kernel
theorem aE10 : encN akey ablk 10 = aB10 := by
  show rndF akey 10 (encN akey ablk 9) = aB10
  rw [aE9]
  unfold rndF
  rw [aR]
  decide +kernel
theorem aE : encF akey ablk = aB10 := aE10
noncomputable def T15 : Tab := fun f xs => match f, xs with
  | 46, [.agg cs, .agg bs] => some ([allU8 cs ∧ cs.length = 16 ∧ allU8 bs ∧ bs.length = 16], .agg (hide ((encF (cs.map asU8) (bs.map asU8)).map AC.u8)))
  | f, xs => T14 f xs
theorem T15_ok : TabOk Try.prog T15 := by
  intro f xs cs r h hc
  unfold T15 at h
  split at h
  · obtain ⟨rfl, rfl⟩ := Prod.mk.inj (Option.some.inj h)
    obtain ⟨h1, h2, h3, h4⟩ := hc.1
    rename_i cs bs
    have := s46 (cs.map asU8) (bs.map asU8) (by rw [List.length_map]; exact h2) (by rw [List.length_map]; exact h4)
    rw [← h1, ← h3] at this
    rw [hide_eq]
    exact ⟨⟨_, _, ok46⟩, this, exactL_map _ (fun _ => rfl) _⟩
  · exact T14_ok _ _ _ _ h hc
set_option maxRecDepth 100000 in
theorem vc47 {X : Ctx} {Q : AV → Mem → Prop} (hX : X.P = Try.prog)  (h : Flat (List.replicate 16 (AC.u8 (0 : BitVec 8))) ∧ Flat (List.replicate 16 (AC.u8 (0 : BitVec 8))) ∧ KR X 47 0 Q (kOf Try.f47 0) (mkS 39 [(1, AV.one (AC.ptr 0 0)), (2, AV.one (AC.ptr 1 0)), (5, AV.one (AC.i64 (0 : Int)))]) [some (List.replicate 16 (AC.u8 (0 : BitVec 8))), some (List.replicate 16 (AC.u8 (0 : BitVec 8)))]) : KRun X 47 0 Q ([.code (bodyOf Try.f47)]) (slots [] Try.f47.ntmps) [] :=
  wpRun_ok (hX ▸ baseK_ok T15 mf13 M13) (hX ▸ baseK_call T15_ok M13_ok) (hX ▸ mixed) (hX ▸ ok47) LK_ok (cast (β := wpRun (baseK T15 mf13 M13) [6, 24, 28, 33] [(7, 4)] false (RS.mk Try.f47.results.toList 0 (CS.mk [] [] [] [])) (LK X 47 0 Q true [(3, LS.mk [1, 2, 5] (CS.mk [] [true, true] [] []))]) Q 2000 ([.code (bodyOf Try.f47)]) (slots [] Try.f47.ntmps) []) (by kernel_rfl) h)
set_option maxRecDepth 100000 in
theorem vc47a {X : Ctx} {Q : AV → Mem → Prop} (hX : X.P = Try.prog) (ks bs : List AC) (i : Int) (h : (decide (i < (16 : Int)) = true → in64 ((17 : Int) * i) ∧ ((0 : Int) ≤ i ∧ i < (↑16 : Int)) ∧ (1 = 1 ∧ 0 + Int.toNat i * 1 + 1 ≤ List.length ks) ∧ ((0 : Int) ≤ i ∧ i < (↑16 : Int)) ∧ (1 = 1 ∧ 0 + Int.toNat i * 1 + 1 ≤ List.length bs) ∧ in64 (i + (1 : Int)) ∧ Flat (layS ks (0 + Int.toNat i * 1) [AC.u8 (BitVec.ofInt 8 i)]) ∧ Flat (layS bs (0 + Int.toNat i * 1) [AC.u8 (BitVec.ofInt 8 ((17 : Int) * i))]) ∧ KR X 47 0 Q (kOf Try.f47 0) (mkS 39 [(1, AV.one (AC.ptr 0 0)), (2, AV.one (AC.ptr 1 0)), (5, AV.one (AC.i64 (i + (1 : Int))))]) [some (layS ks (0 + Int.toNat i * 1) [AC.u8 (BitVec.ofInt 8 i)]), some (layS bs (0 + Int.toNat i * 1) [AC.u8 (BitVec.ofInt 8 ((17 : Int) * i))])]) ∧ (decide (i < (16 : Int)) = false → 16 ≤ List.length ks ∧ Flat (List.take 16 (List.drop 0 ks)) ∧ (allU8 (List.take 16 (List.drop 0 ks)) ∧ List.length (List.take 16 (List.drop 0 ks)) = 16) ∧ 16 ≤ List.length bs ∧ Flat (AC.b true :: hide (List.map AC.u8 (exL (List.map asU8 (List.take 16 (List.drop 0 ks))) 176))) ∧ Flat (List.take 16 (List.drop 0 bs)) ∧ (hide (List.map AC.u8 (exL (List.map asU8 (List.take 16 (List.drop 0 ks))) 176)) = List.map AC.u8 (exL (keyOf (hide (List.map AC.u8 (exL (List.map asU8 (List.take 16 (List.drop 0 ks))) 176)))) 176) ∧ List.length (keyOf (hide (List.map AC.u8 (exL (List.map asU8 (List.take 16 (List.drop 0 ks))) 176)))) = 16 ∧ allU8 (List.take 16 (List.drop 0 bs)) ∧ List.length (List.take 16 (List.drop 0 bs)) = 16) ∧ (List.length (hide (List.map AC.u8 (encF (keyOf (hide (List.map AC.u8 (exL (List.map asU8 (List.take 16 (List.drop 0 ks))) 176)))) (List.map asU8 (List.take 16 (List.drop 0 bs)))))) = 16 ∧ 16 ≤ 16) ∧ ((0 : Int) ≤ (0 : Int) ∧ (0 : Int) < (↑16 : Int)) ∧ gt AC.any (layS (List.replicate 16 (AC.u8 (0 : BitVec 8))) 0 (hide (List.map AC.u8 (encF (keyOf (hide (List.map AC.u8 (exL (List.map asU8 (List.take 16 (List.drop 0 ks))) 176)))) (List.map asU8 (List.take 16 (List.drop 0 bs))))))) 0 = AC.u8 (asU8 (gt AC.any (layS (List.replicate 16 (AC.u8 (0 : BitVec 8))) 0 (hide (List.map AC.u8 (encF (keyOf (hide (List.map AC.u8 (exL (List.map asU8 (List.take 16 (List.drop 0 ks))) 176)))) (List.map asU8 (List.take 16 (List.drop 0 bs))))))) 0)) ∧ (decide (asU8 (gt AC.any (layS (List.replicate 16 (AC.u8 (0 : BitVec 8))) 0 (hide (List.map AC.u8 (encF (keyOf (hide (List.map AC.u8 (exL (List.map asU8 (List.take 16 (List.drop 0 ks))) 176)))) (List.map asU8 (List.take 16 (List.drop 0 bs))))))) 0) = BitVec.ofInt 8 (105 : Int)) = true → ((0 : Int) ≤ (1 : Int) ∧ (1 : Int) < (↑16 : Int)) ∧ gt AC.any (layS (List.replicate 16 (AC.u8 (0 : BitVec 8))) 0 (hide (List.map AC.u8 (encF (keyOf (hide (List.map AC.u8 (exL (List.map asU8 (List.take 16 (List.drop 0 ks))) 176)))) (List.map asU8 (List.take 16 (List.drop 0 bs))))))) 1 = AC.u8 (asU8 (gt AC.any (layS (List.replicate 16 (AC.u8 (0 : BitVec 8))) 0 (hide (List.map AC.u8 (encF (keyOf (hide (List.map AC.u8 (exL (List.map asU8 (List.take 16 (List.drop 0 ks))) 176)))) (List.map asU8 (List.take 16 (List.drop 0 bs))))))) 1)) ∧ (decide (asU8 (gt AC.any (layS (List.replicate 16 (AC.u8 (0 : BitVec 8))) 0 (hide (List.map AC.u8 (encF (keyOf (hide (List.map AC.u8 (exL (List.map asU8 (List.take 16 (List.drop 0 ks))) 176)))) (List.map asU8 (List.take 16 (List.drop 0 bs))))))) 1) = BitVec.ofInt 8 (196 : Int)) = true → ((0 : Int) ≤ (15 : Int) ∧ (15 : Int) < (↑16 : Int)) ∧ gt AC.any (layS (List.replicate 16 (AC.u8 (0 : BitVec 8))) 0 (hide (List.map AC.u8 (encF (keyOf (hide (List.map AC.u8 (exL (List.map asU8 (List.take 16 (List.drop 0 ks))) 176)))) (List.map asU8 (List.take 16 (List.drop 0 bs))))))) 15 = AC.u8 (asU8 (gt AC.any (layS (List.replicate 16 (AC.u8 (0 : BitVec 8))) 0 (hide (List.map AC.u8 (encF (keyOf (hide (List.map AC.u8 (exL (List.map asU8 (List.take 16 (List.drop 0 ks))) 176)))) (List.map asU8 (List.take 16 (List.drop 0 bs))))))) 15)) ∧ (decide (asU8 (gt AC.any (layS (List.replicate 16 (AC.u8 (0 : BitVec 8))) 0 (hide (List.map AC.u8 (encF (keyOf (hide (List.map AC.u8 (exL (List.map asU8 (List.take 16 (List.drop 0 ks))) 176)))) (List.map asU8 (List.take 16 (List.drop 0 bs))))))) 15) = BitVec.ofInt 8 (90 : Int)) = true → Q (AV.one (AC.b true)) []) ∧ (decide (asU8 (gt AC.any (layS (List.replicate 16 (AC.u8 (0 : BitVec 8))) 0 (hide (List.map AC.u8 (encF (keyOf (hide (List.map AC.u8 (exL (List.map asU8 (List.take 16 (List.drop 0 ks))) 176)))) (List.map asU8 (List.take 16 (List.drop 0 bs))))))) 15) = BitVec.ofInt 8 (90 : Int)) = false → Q (AV.one (AC.b false)) [])) ∧ (decide (asU8 (gt AC.any (layS (List.replicate 16 (AC.u8 (0 : BitVec 8))) 0 (hide (List.map AC.u8 (encF (keyOf (hide (List.map AC.u8 (exL (List.map asU8 (List.take 16 (List.drop 0 ks))) 176)))) (List.map asU8 (List.take 16 (List.drop 0 bs))))))) 1) = BitVec.ofInt 8 (196 : Int)) = false → Q (AV.one (AC.b false)) [])) ∧ (decide (asU8 (gt AC.any (layS (List.replicate 16 (AC.u8 (0 : BitVec 8))) 0 (hide (List.map AC.u8 (encF (keyOf (hide (List.map AC.u8 (exL (List.map asU8 (List.take 16 (List.drop 0 ks))) 176)))) (List.map asU8 (List.take 16 (List.drop 0 bs))))))) 0) = BitVec.ofInt 8 (105 : Int)) = false → Q (AV.one (AC.b false)) []))) : KRun X 47 0 Q (kOf Try.f47 0) (mkS 39 [(1, .one (.ptr 0 0)), (2, .one (.ptr 1 0)), (5, .one (.i64 i))]) [some ks, some bs] :=
  wpRun_ok (hX ▸ baseK_ok T15 mf13 M13) (hX ▸ baseK_call T15_ok M13_ok) (hX ▸ mixed) (hX ▸ ok47) LK_ok (cast (β := wpRun (baseK T15 mf13 M13) [6, 24, 28, 33] [(7, 4)] false (RS.mk Try.f47.results.toList 0 (CS.mk [] [] [] [])) (LK X 47 0 Q true [(3, LS.mk [1, 2, 5] (CS.mk [] [true, true] [] []))]) Q 2000 (kOf Try.f47 0) (mkS 39 [(1, .one (.ptr 0 0)), (2, .one (.ptr 1 0)), (5, .one (.i64 i))]) [some ks, some bs]) (by kernel_rfl) h)

theorem l47 {X : Ctx} (hX : X.P = Try.prog) : ∀ (d i : Nat), i + d = 16 →
    KRun X 47 0 Fin (kOf Try.f47 0) (mkS 39 [(1, .one (.ptr 0 0)), (2, .one (.ptr 1 0)), (5, .one (.i64 i))]) [some ((akey.take i ++ (List.replicate 16 0).drop i).map AC.u8), some ((ablk.take i ++ (List.replicate 16 0).drop i).map AC.u8)] := by
  have hk : akey.length = 16 := Nat.le_antisymm (Nat.le_refl _) (Nat.le_refl _)
  have hb : ablk.length = 16 := Nat.le_antisymm (Nat.le_refl _) (Nat.le_refl _)
  have hl : akey.length = (List.replicate 16 (0 : BitVec 8)).length := by rw [hk, List.length_replicate]
  have hl2 : ablk.length = (List.replicate 16 (0 : BitVec 8)).length := by rw [hb, List.length_replicate]
  have ki : ∀ i, i < 16 → akey.getD i 0 = BitVec.ofInt 8 (i : Int) := by decide +kernel
  have bi : ∀ i, i < 16 → ablk.getD i 0 = BitVec.ofInt 8 (17 * (i : Int)) := by decide +kernel
  intro d
  induction d with
  | zero =>
    intro i hi
    have hi : i = 16 := by omega
    subst hi
    have e := endT _ _ hl
    have e2 := endT _ _ hl2
    rw [hk] at e
    rw [hb] at e2
    have ek : akey.take 16 = akey := List.take_of_length_le (by omega)
    have eb : ablk.take 16 = ablk := List.take_of_length_le (by omega)
    have hx := exL_len akey 176
    have h10 : aB10.length = 16 := Nat.le_antisymm (Nat.le_refl _) (Nat.le_refl _)
    have g : ∀ i, i < 16 → gt AC.any (aB10.map AC.u8) i = .u8 (aB10.getD i 0) := fun i h => gt_u8_at _ _ (by omega)
    have d0 : decide (aB10.getD 0 0 = BitVec.ofInt 8 105) = true := by decide +kernel
    have d1 : decide (aB10.getD 1 0 = BitVec.ofInt 8 196) = true := by decide +kernel
    have d2 : decide (aB10.getD 15 0 = BitVec.ofInt 8 90) = true := by decide +kernel
    have kk := keyOf_ex akey hk
    have zz : Flat (AC.b true :: (exL akey 176).map AC.u8) := fun c h => by
      rcases List.mem_cons.1 h with rfl | h
      · rfl
      · exact flat_u8 _ c h
    refine vc47a hX _ _ _ ⟨fun h => absurd (of_decide_eq_true h) (by omega), fun _ => ?_⟩
    rw [e, e2]
    simp only [hide_eq, tkm, tk0, List.drop_zero, ek, eb, map_as8, kk, aE, layR _ _ h10, g _ (show 0 < 16 by decide), g _ (show 1 < 16 by decide), g _ (show 15 < 16 by decide), asU8, d0, d1, d2, List.length_map, hk, hb, h10, Bool.true_eq_false, false_implies, true_implies, forall_const]
    refine ⟨by omega, flat_u8 _, ⟨allU8_map _, trivial⟩, by omega, zz, flat_u8 _, ?_⟩
    clear hx zz kk e e2 ek eb
    (repeat' (first | exact fin | exact trivial | exact allU8_map _ | exact Nat.le_refl _ | refine And.intro ?_ ?_)) <;> omega
  | succ d ih =>
    intro i hi
    have hL := lenT _ _ hl (i := i)
    have hL2 := lenT _ _ hl2 (i := i)
    have hs := setT akey (List.replicate 16 0) 0 (i := i) (by omega) hl
    have hs2 := setT ablk (List.replicate 16 0) 0 (i := i) (by omega) hl2
    rw [ki i (by omega)] at hs
    rw [bi i (by omega)] at hs2
    have ih := ih (i + 1) (by omega)
    refine vc47a hX _ _ _ ⟨fun _ => ?_, fun h => absurd (of_decide_eq_false h) (by omega)⟩
    simp only [ixn, lay1, hs, hs2, List.length_map, hL, hL2, List.length_replicate]
    clear ki bi
    (repeat' (first | exact trivial | exact flat_u8 _ | exact flatA _ | exact allU8_map _ | exact Nat.le_refl _ | refine And.intro ?_ ?_)) <;> (first | omega | exact z | (unfold in64; omega) | exact List.length_map _ | (show Is _ _ _; exact rfl) | skip)
    exact ⟨ih⟩
theorem s47 : Spec Try.prog 47 [] [] Fin := by
  refine Spec.of_run ok47 fun X hX => vc47 hX ?_
  have K := l47 hX 16 0 rfl
  rw [begT, begT, ← mrep] at K
  have z : Flat (List.replicate 16 (AC.u8 0)) := by rw [mrep]; exact flat_u8 _
  exact ⟨z, z, ⟨K⟩⟩
end DH
