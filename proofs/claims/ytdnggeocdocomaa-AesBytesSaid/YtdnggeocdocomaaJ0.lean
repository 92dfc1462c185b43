/- Walks of functions, each by evaluation: what each returns. -/
import Derived.Test.YtdnggeocdocomaaU1
set_option linter.unusedVariables false
set_option linter.unusedSimpArgs false
noncomputable section
namespace DH
open Go

/-! AES, in numbers alone. -/
def boxN : List Nat := [99, 124, 119, 123, 242, 107, 111, 197, 48, 1, 103, 43, 254, 215, 171, 118, 202, 130, 201, 125, 250, 89, 71, 240, 173, 212, 162, 175, 156, 164, 114, 192, 183, 253, 147, 38, 54, 63, 247, 204, 52, 165, 229, 241, 113, 216, 49, 21, 4, 199, 35, 195, 24, 150, 5, 154, 7, 18, 128, 226, 235, 39, 178, 117, 9, 131, 44, 26, 27, 110, 90, 160, 82, 59, 214, 179, 41, 227, 47, 132, 83, 209, 0, 237, 32, 252, 177, 91, 106, 203, 190, 57, 74, 76, 88, 207, 208, 239, 170, 251, 67, 77, 51, 133, 69, 249, 2, 127, 80, 60, 159, 168, 81, 163, 64, 143, 146, 157, 56, 245, 188, 182, 218, 33, 16, 255, 243, 210, 205, 12, 19, 236, 95, 151, 68, 23, 196, 167, 126, 61, 100, 93, 25, 115, 96, 129, 79, 220, 34, 42, 144, 136, 70, 238, 184, 20, 222, 94, 11, 219, 224, 50, 58, 10, 73, 6, 36, 92, 194, 211, 172, 98, 145, 149, 228, 121, 231, 200, 55, 109, 141, 213, 78, 169, 108, 86, 244, 234, 101, 122, 174, 8, 186, 120, 37, 46, 28, 166, 180, 198, 232, 221, 116, 31, 75, 189, 139, 138, 112, 62, 181, 102, 72, 3, 246, 14, 97, 53, 87, 185, 134, 193, 29, 158, 225, 248, 152, 17, 105, 217, 142, 148, 155, 30, 135, 233, 206, 85, 40, 223, 140, 161, 137, 13, 191, 230, 66, 104, 65, 153, 45, 15, 176, 84, 187, 22]
def boxT : List (BitVec 8) := boxN.map (BitVec.ofNat 8)
def bx (c : BitVec 8) : BitVec 8 := boxT.getD c.toNat 0
def dbl (c : BitVec 8) : BitVec 8 := if c &&& 128#8 = 0#8 then c <<< 1 else c <<< 1 ^^^ 27#8
def xt (a : BitVec 8) : BitVec 8 := if 128#8 ≤ a then a <<< 1 ^^^ 27#8 else a <<< 1
def tmGo (b : BitVec 8) : Nat → Nat → BitVec 8 → BitVec 8 → BitVec 8
  | 0, _, n, _ => n
  | k + 1, i, n, a => tmGo b k (i + 1) (if (b >>> i) &&& 1#8 = 1#8 then n ^^^ a else n) (xt a)
def tmF (a b : BitVec 8) : BitVec 8 := tmGo b 8 0 0#8 a
def invGo (c : BitVec 8) : Nat → BitVec 8 → BitVec 8
  | 0, n => n
  | k + 1, n => invGo c k (tmF n c)
def invF (c : BitVec 8) : BitVec 8 := if c = 0#8 then 0#8 else invGo c 254 1#8
def turnB (x : BitVec 8) : BitVec 8 := x ^^^ 99#8 ^^^ (x <<< 1 ||| x >>> 7) ^^^ (x <<< 2 ||| x >>> 6) ^^^ (x <<< 3 ||| x >>> 5) ^^^ (x <<< 4 ||| x >>> 4)

theorem all8 {p : BitVec 8 → Bool} (h : (List.range 256).all (fun n => p (BitVec.ofNat 8 n)) = true) (x : BitVec 8) : p x = true := by
  have := List.all_eq_true.1 h x.toNat (List.mem_range.2 x.isLt)
  rwa [BitVec.ofNat_toNat, BitVec.setWidth_eq] at this
theorem t1 : (List.range 256).all (fun n => decide (dbl (BitVec.ofNat 8 n) = xt (BitVec.ofNat 8 n))) = true := by kernel_rfl
/-- a number is reckoned before it is used -/
def seqB {α : Type} (x : BitVec 8) (f : BitVec 8 → α) : α := match x.toNat with
  | 0 => f 0#8
  | m + 1 => f (BitVec.ofNat 8 (m + 1))
theorem seqB_eq {α : Type} (x : BitVec 8) (f : BitVec 8 → α) : seqB x f = f x := by
  unfold seqB
  split
  · rename_i h
    have : x = 0#8 := BitVec.eq_of_toNat_eq (by rw [h]; rfl)
    rw [this]
  · rename_i m h
    have h' : x.toNat = m + 1 := h
    rw [← h', BitVec.ofNat_toNat, BitVec.setWidth_eq]
def invGoS (c : BitVec 8) : Nat → BitVec 8 → BitVec 8
  | 0, n => n
  | k + 1, n => seqB (tmF n c) fun m => invGoS c k m
theorem invGoS_eq (c : BitVec 8) : ∀ k n, invGoS c k n = invGo c k n
  | 0, _ => rfl
  | k + 1, n => by rw [invGoS, seqB_eq, invGoS_eq c k, invGo]
def invS (c : BitVec 8) : BitVec 8 := if c = 0#8 then 0#8 else invGoS c 254 1#8
theorem invS_eq (c : BitVec 8) : invS c = invF c := by unfold invS invF; rw [invGoS_eq]
theorem t2 : (List.range 256).all (fun n => seqB (invS (BitVec.ofNat 8 n)) fun m => decide (turnB m = bx (BitVec.ofNat 8 n))) = true := by kernel_rfl
theorem dbl_eq (x : BitVec 8) : dbl x = xt x := of_decide_eq_true (all8 (p := fun x => decide (dbl x = xt x)) t1 x)
theorem box_eq (x : BitVec 8) : turnB (invF x) = bx x := by
  have := all8 (p := fun x => seqB (invS x) fun m => decide (turnB m = bx x)) t2 x
  rw [seqB_eq, invS_eq] at this
  exact of_decide_eq_true this
def bkN : List Nat := (List.range 256).map fun i => boxN.idxOf i
def bk (c : BitVec 8) : BitVec 8 := BitVec.ofNat 8 (bkN.getD c.toNat 0)
theorem t3 : (List.range 256).all (fun n => decide (bk (bx (BitVec.ofNat 8 n)) = BitVec.ofNat 8 n)) = true := by kernel_rfl
theorem bk_bx (x : BitVec 8) : bk (bx x) = x := of_decide_eq_true (all8 (p := fun x => decide (bk (bx x) = x)) t3 x)
theorem bx_inj {x y : BitVec 8} (h : bx x = bx y) : x = y := by rw [← bk_bx x, h, bk_bx]
theorem t4 : (List.range 256).all (fun n => (List.range 256).all fun m => decide (xt (BitVec.ofNat 8 n ^^^ BitVec.ofNat 8 m) = xt (BitVec.ofNat 8 n) ^^^ xt (BitVec.ofNat 8 m))) = true := by kernel_rfl
theorem xt_xor (a b : BitVec 8) : xt (a ^^^ b) = xt a ^^^ xt b :=
  of_decide_eq_true (all8 (p := fun m => decide (xt (a ^^^ m) = xt a ^^^ xt m)) (all8 (p := fun n => (List.range 256).all fun m => decide (xt (n ^^^ BitVec.ofNat 8 m) = xt n ^^^ xt (BitVec.ofNat 8 m))) t4 a) b)
theorem t5 : (List.range 256).all (fun n => let a := BitVec.ofNat 8 n; decide (tmF a 2#8 = xt a) && decide (tmF a 3#8 = xt a ^^^ a) && decide (tmF a 9#8 = xt (xt (xt a)) ^^^ a) && decide (tmF a 11#8 = xt (xt (xt a)) ^^^ xt a ^^^ a) && decide (tmF a 13#8 = xt (xt (xt a)) ^^^ xt (xt a) ^^^ a) && decide (tmF a 14#8 = xt (xt (xt a)) ^^^ xt (xt a) ^^^ xt a)) = true := by kernel_rfl
theorem tm_all (a : BitVec 8) : tmF a 2#8 = xt a ∧ tmF a 3#8 = xt a ^^^ a ∧ tmF a 9#8 = xt (xt (xt a)) ^^^ a ∧ tmF a 11#8 = xt (xt (xt a)) ^^^ xt a ^^^ a ∧ tmF a 13#8 = xt (xt (xt a)) ^^^ xt (xt a) ^^^ a ∧ tmF a 14#8 = xt (xt (xt a)) ^^^ xt (xt a) ^^^ xt a := by
  have := all8 (p := fun a => decide (tmF a 2#8 = xt a) && decide (tmF a 3#8 = xt a ^^^ a) && decide (tmF a 9#8 = xt (xt (xt a)) ^^^ a) && decide (tmF a 11#8 = xt (xt (xt a)) ^^^ xt a ^^^ a) && decide (tmF a 13#8 = xt (xt (xt a)) ^^^ xt (xt a) ^^^ a) && decide (tmF a 14#8 = xt (xt (xt a)) ^^^ xt (xt a) ^^^ xt a)) t5 a
  simp only [Bool.and_eq_true, decide_eq_true_eq] at this
  obtain ⟨⟨⟨⟨⟨h1, h2⟩, h3⟩, h4⟩, h5⟩, h6⟩ := this
  exact ⟨h1, h2, h3, h4, h5, h6⟩

/-! round keys, byte by byte -/
def pwF : Nat → BitVec 8
  | 0 => 1#8
  | n + 1 => xt (pwF n)
def exNext (key l : List (BitVec 8)) (j : Nat) : BitVec 8 :=
  if j < 16 then key.getD j 0 else if j % 16 < 4 then l.getD (j - 16) 0 ^^^ bx (l.getD (j / 16 * 16 - 4 + (j % 16 + 1) % 4) 0) ^^^ (if j % 16 = 0 then pwF (j / 16 - 1) else 0#8) else l.getD (j - 16) 0 ^^^ l.getD (j - 4) 0
def exL (key : List (BitVec 8)) : Nat → List (BitVec 8)
  | 0 => []
  | m + 1 => exL key m ++ [exNext key (exL key m) m]
theorem exL_len (key : List (BitVec 8)) : ∀ m, (exL key m).length = m
  | 0 => rfl
  | m + 1 => by rw [exL, List.length_append, exL_len key m]; rfl
/-- byte j of the round keys -/
def eat (key : List (BitVec 8)) (j : Nat) : BitVec 8 := (exL key (j + 1)).getD j 0
theorem exL_get (key : List (BitVec 8)) (j : Nat) : ∀ m, j < m → (exL key m).getD j 0 = eat key j
  | 0, h => by omega
  | m + 1, h => by
    by_cases e : j = m
    · subst e; rfl
    · rw [exL, getD_app_lo _ _ _ (by rw [exL_len]; omega)]
      exact exL_get key j m (by omega)
theorem eat_next (key : List (BitVec 8)) (j : Nat) : eat key j = exNext key (exL key j) j := by
  unfold eat
  rw [exL, List.getD_eq_getElem?_getD, List.getElem?_append_right (by rw [exL_len]; exact Nat.le_refl _), exL_len, Nat.sub_self]
  rfl
theorem eat_lo (key : List (BitVec 8)) {j : Nat} (h : j < 16) : eat key j = key.getD j 0 := by
  rw [eat_next]; exact if_pos h
theorem eat_box (key : List (BitVec 8)) {n k : Nat} (hk : k < 4) (hn : 1 ≤ n) : eat key (16 * n + k) = eat key (16 * (n - 1) + k) ^^^ bx (eat key (16 * (n - 1) + (12 + (k + 1) % 4))) ^^^ (if k = 0 then pwF (n - 1) else 0#8) := by
  rw [eat_next]
  unfold exNext
  rw [if_neg (by omega), if_pos (by omega), exL_get _ _ _ (by omega), exL_get _ _ _ (by omega)]
  have h1 : (16 * n + k) % 16 = k := by omega
  have h2 : (16 * n + k) / 16 = n := by omega
  rw [h1, h2, show 16 * n + k - 16 = 16 * (n - 1) + k by omega, show n * 16 - 4 + (k + 1) % 4 = 16 * (n - 1) + (12 + (k + 1) % 4) by omega]
theorem eat_hi (key : List (BitVec 8)) {n k : Nat} (hk : 4 ≤ k) (hk2 : k < 16) (hn : 1 ≤ n) : eat key (16 * n + k) = eat key (16 * (n - 1) + k) ^^^ eat key (16 * n + (k - 4)) := by
  rw [eat_next]
  unfold exNext
  rw [if_neg (by omega), if_neg (by omega), exL_get _ _ _ (by omega), exL_get _ _ _ (by omega), show 16 * n + k - 16 = 16 * (n - 1) + k by omega, show 16 * n + k - 4 = 16 * n + (k - 4) by omega]
def rkF (key : List (BitVec 8)) (n : Nat) : List (BitVec 8) := ((exL key 176).drop (16 * n)).take 16
theorem rkF_len (key : List (BitVec 8)) {n : Nat} (h : n ≤ 10) : (rkF key n).length = 16 := by unfold rkF; rw [List.length_take, List.length_drop, exL_len]; omega

/-! blocks -/
def tab16 (f : Nat → BitVec 8) : List (BitVec 8) := (List.range 16).map f
theorem tab16_len (f : Nat → BitVec 8) : (tab16 f).length = 16 := Nat.le_antisymm (Nat.le_refl _) (Nat.le_refl _)
theorem tab16_get (f : Nat → BitVec 8) {i : Nat} (h : i < 16) : (tab16 f).getD i 0 = f i := by
  unfold tab16
  rw [getD_map f _ 0 _ (by rw [List.length_range]; exact h)]
  congr 1
  rw [List.getD_eq_getElem?_getD, List.getElem?_range h]
  rfl
theorem tab16_ext {f g : Nat → BitVec 8} (h : ∀ i, i < 16 → f i = g i) : tab16 f = tab16 g := by
  unfold tab16
  exact List.map_congr_left fun i hi => h i (List.mem_range.1 hi)
theorem tab16_self {b : List (BitVec 8)} (h : b.length = 16) : tab16 (fun i => b.getD i 0) = b := by
  apply List.ext_getElem (by rw [tab16_len, h])
  intro i h1 h2
  have := tab16_get (fun i => b.getD i 0) (i := i) (by omega)
  rw [List.getD_eq_getElem?_getD, List.getElem?_eq_getElem h1, List.getD_eq_getElem?_getD, List.getElem?_eq_getElem h2] at this
  exact this
def xorL (a b : List (BitVec 8)) : List (BitVec 8) := tab16 fun i => a.getD i 0 ^^^ b.getD i 0
def shI (i : Nat) : Nat := (i + 4 * (i % 4)) % 16
def shL (b : List (BitVec 8)) : List (BitVec 8) := tab16 fun i => bx (b.getD (shI i) 0)
def col (b : List (BitVec 8)) (i k : Nat) : BitVec 8 := b.getD (i / 4 * 4 + (i % 4 + k) % 4) 0
def mixL (b : List (BitVec 8)) : List (BitVec 8) := tab16 fun i => xt (col b i 0) ^^^ (xt (col b i 1) ^^^ col b i 1) ^^^ col b i 2 ^^^ col b i 3
def rndF (key : List (BitVec 8)) (n : Nat) (b : List (BitVec 8)) : List (BitVec 8) := xorL (if n < 10 then mixL (shL b) else shL b) (rkF key n)
def encN (key b : List (BitVec 8)) : Nat → List (BitVec 8)
  | 0 => xorL b (rkF key 0)
  | n + 1 => rndF key (n + 1) (encN key b n)
def encF (key b : List (BitVec 8)) : List (BitVec 8) := encN key b 10
end DH
