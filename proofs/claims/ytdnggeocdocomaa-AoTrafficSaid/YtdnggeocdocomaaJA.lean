/- Walks of functions, each by evaluation: what each returns; with the layer beneath. -/
import Derived.Test.YtdnggeocdocomaaU1
set_option linter.unusedVariables false
set_option linter.unusedSimpArgs false
noncomputable section
namespace DH
set_option maxRecDepth 100000
open List (take drop replicate)
open AC renaming u8 → U8, u16 → Va, u32 → Fa, u64 → Nc, i64 → I64, b → Bb, xs → XS, gs → GS, sv → SV, ptr → PT, any → AY, ns → NS
open AV renaming one → O1, agg → AG, Ec → TU
open Go
def boxN : List Nat := [99, 124, 119, 123, 242, 107, 111, 197, 48, 1, 103, 43, 254, 215, 171, 118, 202, 130, 201, 125, 250, 89, 71, 240, 173, 212, 162, 175, 156, 164, 114, 192, 183, 253, 147, 38, 54, 63, 247, 204, 52, 165, 229, 241, 113, 216, 49, 21, 4, 199, 35, 195, 24, 150, 5, 154, 7, 18, 128, 226, 235, 39, 178, 117, 9, 131, 44, 26, 27, 110, 90, 160, 82, 59, 214, 179, 41, 227, 47, 132, 83, 209, 0, 237, 32, 252, 177, 91, 106, 203, 190, 57, 74, 76, 88, 207, 208, 239, 170, 251, 67, 77, 51, 133, 69, 249, 2, 127, 80, 60, 159, 168, 81, 163, 64, 143, 146, 157, 56, 245, 188, 182, 218, 33, 16, 255, 243, 210, 205, 12, 19, 236, 95, 151, 68, 23, 196, 167, 126, 61, 100, 93, 25, 115, 96, 129, 79, 220, 34, 42, 144, 136, 70, 238, 184, 20, 222, 94, 11, 219, 224, 50, 58, 10, 73, 6, 36, 92, 194, 211, 172, 98, 145, 149, 228, 121, 231, 200, 55, 109, 141, 213, 78, 169, 108, 86, 244, 234, 101, 122, 174, 8, 186, 120, 37, 46, 28, 166, 180, 198, 232, 221, 116, 31, 75, 189, 139, 138, 112, 62, 181, 102, 72, 3, 246, 14, 97, 53, 87, 185, 134, 193, 29, 158, 225, 248, 152, 17, 105, 217, 142, 148, 155, 30, 135, 233, 206, 85, 40, 223, 140, 161, 137, 13, 191, 230, 66, 104, 65, 153, 45, 15, 176, 84, 187, 22]
def Vd : List (BitVec 8) := boxN.map (BitVec.ofNat 8)
def bx (c:BitVec 8) : BitVec 8 := Vd.getD c.toNat 0
def dbl (c:BitVec 8) : BitVec 8 := if c &&& 128#8 = 0#8 then c <<< 1 else c <<< 1 ^^^ 27#8
def xt (a:BitVec 8) : BitVec 8 := if 128#8 ≤ a then a <<< 1 ^^^ 27#8 else a <<< 1
def tmGo (b:BitVec 8) : Nat → Nat → BitVec 8 → BitVec 8 → BitVec 8
 | 0, _, n, _ => n
 | k + 1, i, n, a => tmGo b k (i + 1) (if (b >>> i) &&& 1#8 = 1#8 then n ^^^ a else n) (xt a)
def tmF (a b:BitVec 8) : BitVec 8 := tmGo b 8 0 0#8 a
def turnB (x:BitVec 8) : BitVec 8 := x ^^^ 99#8 ^^^ (x <<< 1 ||| x >>> 7) ^^^ (x <<< 2 ||| x >>> 6) ^^^ (x <<< 3 ||| x >>> 5) ^^^ (x <<< 4 ||| x >>> 4)
theorem all8 {p : BitVec 8 → Bool} (h : (List.range 256).all (fun n => p (BitVec.ofNat 8 n)) = true) (x:BitVec 8) : p x = true := by
 have := List.all_eq_true.1 h x.toNat (List.mem_range.2 x.isLt)
 rwa [BitVec.ofNat_toNat, BitVec.setWidth_eq] at this
theorem t1 : (List.range 256).all (fun n => decide (dbl (BitVec.ofNat 8 n) = xt (BitVec.ofNat 8 n))) = true := by kernel_rfl
def seqB {α : Type} (x:BitVec 8) (f : BitVec 8 → α) : α := match x.toNat with
 | 0 => f 0#8
 | m + 1 => f (BitVec.ofNat 8 (m + 1))
theorem seqB_eq {α : Type} (x:BitVec 8) (f : BitVec 8 → α) : seqB x f = f x := by
 unfold seqB
 split
 ·rename_i h
  have : x = 0#8 := BitVec.eq_of_toNat_eq (by rw [h]; rfl)
  rw [this]
 ·rename_i m h
  have h' : x.toNat = m + 1 := h
  rw [← h', BitVec.ofNat_toNat, BitVec.setWidth_eq]
def invGoS (c:BitVec 8) : Nat → BitVec 8 → BitVec 8
 | 0, n => n
 | k + 1, n => seqB (tmF n c) fun m => invGoS c k m
def invS (c:BitVec 8) : BitVec 8 := if c = 0#8 then 0#8 else invGoS c 254 1#8
theorem t2 : (List.range 256).all (fun n => seqB (invS (BitVec.ofNat 8 n)) fun m => decide (turnB m = bx (BitVec.ofNat 8 n))) = true := by kernel_rfl
theorem dbl_eq (x:BitVec 8) : dbl x = xt x := of_decide_eq_true (all8 (p := fun x => decide (dbl x = xt x)) t1 x)
theorem t4 : (List.range 256).all (fun n => (List.range 256).all fun m => decide (xt (BitVec.ofNat 8 n ^^^ BitVec.ofNat 8 m) = xt (BitVec.ofNat 8 n) ^^^ xt (BitVec.ofNat 8 m))) = true := by kernel_rfl
theorem xt_xor (a b:BitVec 8) : xt (a ^^^ b) = xt a ^^^ xt b :=
 of_decide_eq_true (all8 (p := fun m => decide (xt (a ^^^ m) = xt a ^^^ xt m)) (all8 (p := fun n => (List.range 256).all fun m => decide (xt (n ^^^ BitVec.ofNat 8 m) = xt n ^^^ xt (BitVec.ofNat 8 m))) t4 a) b)
theorem t5 : (List.range 256).all (fun n => let a := BitVec.ofNat 8 n; decide (tmF a 2#8 = xt a) && decide (tmF a 3#8 = xt a ^^^ a) && decide (tmF a 9#8 = xt (xt (xt a)) ^^^ a) && decide (tmF a 11#8 = xt (xt (xt a)) ^^^ xt a ^^^ a) && decide (tmF a 13#8 = xt (xt (xt a)) ^^^ xt (xt a) ^^^ a) && decide (tmF a 14#8 = xt (xt (xt a)) ^^^ xt (xt a) ^^^ xt a)) = true := by kernel_rfl
theorem tm_all (a:BitVec 8) : tmF a 2#8 = xt a ∧ tmF a 3#8 = xt a ^^^ a ∧ tmF a 9#8 = xt (xt (xt a)) ^^^ a ∧ tmF a 11#8 = xt (xt (xt a)) ^^^ xt a ^^^ a ∧ tmF a 13#8 = xt (xt (xt a)) ^^^ xt (xt a) ^^^ a ∧ tmF a 14#8 = xt (xt (xt a)) ^^^ xt (xt a) ^^^ xt a := by
 have := all8 (p := fun a => decide (tmF a 2#8 = xt a) && decide (tmF a 3#8 = xt a ^^^ a) && decide (tmF a 9#8 = xt (xt (xt a)) ^^^ a) && decide (tmF a 11#8 = xt (xt (xt a)) ^^^ xt a ^^^ a) && decide (tmF a 13#8 = xt (xt (xt a)) ^^^ xt (xt a) ^^^ a) && decide (tmF a 14#8 = xt (xt (xt a)) ^^^ xt (xt a) ^^^ xt a)) t5 a
 simp only [Bool.and_eq_true, decide_eq_true_eq] at this
 obtain ⟨⟨⟨⟨⟨h1, h2⟩, h3⟩, h4⟩, h5⟩, h6⟩ := this
 exact ⟨h1, h2, h3, h4, h5, h6⟩
def pwF : Nat → BitVec 8
 | 0 => 1#8
 | n + 1 => xt (pwF n)
def exNext (key l : List (BitVec 8)) (j:Nat) : BitVec 8 :=
 if j < 16 then key.getD j 0 else if j % 16 < 4 then l.getD (j - 16) 0 ^^^ bx (l.getD (j / 16 * 16 - 4 + (j % 16 + 1) % 4) 0) ^^^ (if j % 16 = 0 then pwF (j / 16 - 1) else 0#8) else l.getD (j - 16) 0 ^^^ l.getD (j - 4) 0
def Zd (key : List (BitVec 8)) : Nat → List (BitVec 8)
 | 0 => []
 | m + 1 => Zd key m ++ [exNext key (Zd key m) m]
theorem Jc (key : List (BitVec 8)) : ∀ m, (Zd key m).length = m
 | 0 => rfl
 | m + 1 => by rw [Zd, List.length_append, Jc key m]; rfl
def eat (key : List (BitVec 8)) (j:Nat) : BitVec 8 := (Zd key (j + 1)).getD j 0
theorem exL_get (key : List (BitVec 8)) (j:Nat) : ∀ m, j < m → (Zd key m).getD j 0 = eat key j
 | 0, h => by omega
 | m + 1, h => by
  by_cases e : j = m
  ·subst e; rfl
  ·rw [Zd, getD_app_lo _ _ _ (by rw [Jc]; omega)]
   exact exL_get key j m (by omega)
theorem eat_next (key : List (BitVec 8)) (j:Nat) : eat key j = exNext key (Zd key j) j := by
 unfold eat
 rw [Zd, List.getD_eq_getElem?_getD, List.getElem?_append_right (by rw [Jc]; exact Nat.le_refl _), Jc, Nat.sub_self]
 rfl
theorem eat_lo (key : List (BitVec 8)) {j : Nat} (h : j < 16) : eat key j = key.getD j 0 := by
 rw [eat_next]; exact if_pos h
theorem eat_box (key : List (BitVec 8)) {n k : Nat} (hk : k < 4) (hn : 1 ≤ n) : eat key (16 * n + k) = eat key (16 * (n - 1) + k) ^^^ bx (eat key (16 * (n - 1) + (12 + (k + 1) % 4))) ^^^ (if k = 0 then pwF (n - 1) else 0#8) := by
 rw [eat_next]
 unfold exNext
 rw [if_neg (by omega), if_pos (by omega), exL_get _ _ _ (by omega), exL_get _ _ _ (by omega)]
 have h1 : (16 * n + k) % 16 = k := by omega
 have h2 : (16 * n + k) / 16 = n := by omega
 rw [h1, h2, show 16 * n + k - 16 = 16 * (n - 1) + k by omega, show n * 16 - 4 + (k + 1) % 4 = 16 * (n - 1) + (12 + (k + 1) % 4) by omega]
theorem eat_hi (key : List (BitVec 8)) {n k : Nat} (hk : 4 ≤ k) (hk2 : k < 16) (hn : 1 ≤ n) : eat key (16 * n + k) = eat key (16 * (n - 1) + k) ^^^ eat key (16 * n + (k - 4)) := by
 rw [eat_next]
 unfold exNext
 rw [if_neg (by omega), if_neg (by omega), exL_get _ _ _ (by omega), exL_get _ _ _ (by omega), show 16 * n + k - 16 = 16 * (n - 1) + k by omega, show 16 * n + k - 4 = 16 * n + (k - 4) by omega]
def rkF (key : List (BitVec 8)) (n:Nat) : List (BitVec 8) := ((Zd key 176).drop (16 * n)).take 16
theorem rkF_len (key : List (BitVec 8)) {n : Nat} (h : n ≤ 10) : (rkF key n).length = 16 := by unfold rkF; rw [List.length_take, List.length_drop, Jc]; omega
def tab16 (f : Nat → BitVec 8) : List (BitVec 8) := (List.range 16).map f
theorem Ob (f : Nat → BitVec 8) : (tab16 f).length = 16 := Nat.le_antisymm (Nat.le_refl _) (Nat.le_refl _)
theorem Yc (f : Nat → BitVec 8) {i : Nat} (h : i < 16) : (tab16 f).getD i 0 = f i := by
 unfold tab16
 rw [getD_map f _ 0 _ (by rw [List.length_range]; exact h)]
 congr 1
 rw [List.getD_eq_getElem?_getD, List.getElem?_range h]
 rfl
theorem tab16_ext {f g : Nat → BitVec 8} (h : ∀ i, i < 16 → f i = g i) : tab16 f = tab16 g := by
 unfold tab16
 exact List.map_congr_left fun i hi => h i (List.mem_range.1 hi)
theorem tab16_self {b : List (BitVec 8)} (h : b.length = 16) : tab16 (fun i => b.getD i 0) = b := by
 apply List.ext_getElem (by rw [Ob, h])
 intro i h1 h2
 have := Yc (fun i => b.getD i 0) (i := i) (by omega)
 rw [List.getD_eq_getElem?_getD, List.getElem?_eq_getElem h1, List.getD_eq_getElem?_getD, List.getElem?_eq_getElem h2] at this
 exact this
def Yb (a b : List (BitVec 8)) : List (BitVec 8) := tab16 fun i => a.getD i 0 ^^^ b.getD i 0
def shI (i:Nat) : Nat := (i + 4 * (i % 4)) % 16
def shL (b : List (BitVec 8)) : List (BitVec 8) := tab16 fun i => bx (b.getD (shI i) 0)
def col (b : List (BitVec 8)) (i k:Nat) : BitVec 8 := b.getD (i / 4 * 4 + (i % 4 + k) % 4) 0
def mixL (b : List (BitVec 8)) : List (BitVec 8) := tab16 fun i => xt (col b i 0) ^^^ (xt (col b i 1) ^^^ col b i 1) ^^^ col b i 2 ^^^ col b i 3
def rndF (key : List (BitVec 8)) (n:Nat) (b : List (BitVec 8)) : List (BitVec 8) := Yb (if n < 10 then mixL (shL b) else shL b) (rkF key n)
def encN (key b : List (BitVec 8)) : Nat → List (BitVec 8)
 | 0 => Yb b (rkF key 0)
 | n + 1 => rndF key (n + 1) (encN key b n)
def Yd (key b : List (BitVec 8)) : List (BitVec 8) := encN key b 10
def pwN : List Nat := [1, 3, 5, 15, 17, 51, 85, 255, 26, 46, 114, 150, 161, 248, 19, 53, 95, 225, 56, 72, 216, 115, 149, 164, 247, 2, 6, 10, 30, 34, 102, 170, 229, 52, 92, 228, 55, 89, 235, 38, 106, 190, 217, 112, 144, 171, 230, 49, 83, 245, 4, 12, 20, 60, 68, 204, 79, 209, 104, 184, 211, 110, 178, 205, 76, 212, 103, 169, 224, 59, 77, 215, 98, 166, 241, 8, 24, 40, 120, 136, 131, 158, 185, 208, 107, 189, 220, 127, 129, 152, 179, 206, 73, 219, 118, 154, 181, 196, 87, 249, 16, 48, 80, 240, 11, 29, 39, 105, 187, 214, 97, 163, 254, 25, 43, 125, 135, 146, 173, 236, 47, 113, 147, 174, 233, 32, 96, 160, 251, 22, 58, 78, 210, 109, 183, 194, 93, 231, 50, 86, 250, 21, 63, 65, 195, 94, 226, 61, 71, 201, 64, 192, 91, 237, 44, 116, 156, 191, 218, 117, 159, 186, 213, 100, 172, 239, 42, 126, 130, 157, 188, 223, 122, 142, 137, 128, 155, 182, 193, 88, 232, 35, 101, 175, 234, 37, 111, 177, 200, 67, 197, 84, 252, 31, 33, 99, 165, 244, 7, 9, 27, 45, 119, 153, 176, 203, 70, 202, 69, 207, 74, 222, 121, 139, 134, 145, 168, 227, 62, 66, 198, 81, 243, 14, 18, 54, 90, 238, 41, 123, 141, 140, 143, 138, 133, 148, 167, 242, 13, 23, 57, 75, 221, 124, 132, 151, 162, 253, 28, 36, 108, 180, 199, 82, 246, 1]
def p3 (i:Nat) : BitVec 8 := BitVec.ofNat 8 (pwN.getD i 0)
theorem t6 : (List.range 255).all (fun i => decide (tmF (p3 i) 3#8 = p3 (i + 1))) = true := by kernel_rfl
theorem p3_next {i : Nat} (h : i < 255) : tmF (p3 i) 3#8 = p3 (i + 1) := of_decide_eq_true (List.all_eq_true.1 t6 i (List.mem_range.2 h))
def oF : Nat → List (BitVec 8)
 | 0 => turnB 0#8 :: replicate 255 0
 | i + 1 => (oF i).set (p3 i).toNat (turnB (p3 (255 - i)))
theorem oF_len : ∀ n, (oF n).length = 256
 | 0 => by rw [oF, List.length_cons, List.length_replicate]
 | n + 1 => by rw [oF, List.length_set, oF_len n]
def oGo : Nat → (List (BitVec 8) → Bool) → Bool
 | 0, k => k (turnB 0#8 :: replicate 255 0)
 | i + 1, k => oGo i fun l => setF l (p3 i).toNat (turnB (p3 (255 - i))) k
theorem oGo_eq : ∀ (n:Nat) (k : List (BitVec 8) → Bool), oGo n k = k (oF n)
 | 0, k => rfl
 | n + 1, k => by rw [oGo, oGo_eq n, setF_eq, oF]
def eqLN : List (BitVec 8) → List Nat → Bool
 | [], [] => true
 | x :: l, n :: m => Nat.beq x.toNat n && eqLN l m
 | _, _ => false
theorem eqLN_ok : ∀ {l : List (BitVec 8)} {m : List Nat}, eqLN l m = true → l = m.map (BitVec.ofNat 8)
 | [], [], _ => rfl
 | x :: l, n :: m, h => by
  simp only [eqLN, Bool.and_eq_true] at h
  rw [List.map_cons, ← eqLN_ok h.2, ← Nat.eq_of_beq_eq_true h.1, BitVec.ofNat_toNat, BitVec.setWidth_eq]
 | [], _ :: _, h => by cases h
 | _ :: _, [], h => by cases h
theorem t7 : oGo 255 (fun l => eqLN l boxN) = true := by kernel_rfl
theorem oF_end : oF 255 = Vd := by
 have := t7
 rw [oGo_eq] at this
 exact eqLN_ok this
def pwL : List (BitVec 8) := (List.range 256).map p3
theorem pwL_len : pwL.length = 256 := by unfold pwL; rw [List.length_map, List.length_range]
theorem pwL_get {i : Nat} (h : i < 256) : pwL.getD i 0 = p3 i := by
 unfold pwL
 rw [getD_map p3 _ 0 _ (by rw [List.length_range]; exact h)]
 congr 1
 rw [List.getD_eq_getElem?_getD, List.getElem?_range h]
 rfl
theorem xor16 (a b : List (BitVec 8)) : (Yb a b).length = 16 := Ob _
theorem encN16 (key b : List (BitVec 8)) : ∀ n, (encN key b n).length = 16
 | 0 => xor16 _ _
 | n + 1 => by
  rw [encN]
  unfold rndF
  exact xor16 _ _
def dbN (b : List (BitVec 8)) : List (BitVec 8) := tab16 fun i => (b.getD i 0 <<< 1 ||| b.getD (i + 1) 0 >>> 7) ^^^ (if i = 15 then b.getD 0 0 >>> 7 * 135#8 else 0#8)
theorem dbN_len (b : List (BitVec 8)) : (dbN b).length = 16 := Ob _
def z16 : List (BitVec 8) := replicate 16 0
theorem z16_len : z16.length = 16 := List.length_replicate
def k1F (key : List (BitVec 8)) : List (BitVec 8) := dbN (Yd key z16)
def k2F (key : List (BitVec 8)) : List (BitVec 8) := dbN (k1F key)
theorem k1_len (key : List (BitVec 8)) : (k1F key).length = 16 := Ob _
theorem k2_len (key : List (BitVec 8)) : (k2F key).length = 16 := Ob _
theorem enc16 (key b : List (BitVec 8)) : (Yd key b).length = 16 := encN16 key b 10
theorem xorL_assoc (a b c : List (BitVec 8)) : Yb (Yb a b) c = Yb a (Yb b c) := by
 unfold Yb
 exact tab16_ext fun i hi => by rw [Yc _ hi, Yc _ hi, BitVec.xor_assoc]
def blk16 (m : List (BitVec 8)) (q:Nat) : List (BitVec 8) := (m.drop (16 * q)).take 16
def cbc (key m : List (BitVec 8)) : Nat → List (BitVec 8)
 | 0 => z16
 | q + 1 => Yd key (Yb (cbc key m q) (blk16 m q))
theorem cbc_len (key m : List (BitVec 8)) : ∀ q, (cbc key m q).length = 16
 | 0 => z16_len
 | _ + 1 => enc16 _ _
theorem blk16_app (m x : List (BitVec 8)) (q:Nat) (h : 16 * q + 16 ≤ m.length) : blk16 (m ++ x) q = blk16 m q := by
 unfold blk16
 rw [List.drop_append_of_le_length (by omega), List.take_append_of_le_length (by rw [List.length_drop]; omega)]
theorem cbc_app (key m x : List (BitVec 8)) : ∀ q, 16 * q ≤ m.length → cbc key (m ++ x) q = cbc key m q
 | 0, _ => rfl
 | q + 1, h => by rw [cbc, cbc, cbc_app key m x q (by omega), blk16_app m x q (by omega)]
def whole (m : List (BitVec 8)) : Bool := decide (m.length % 16 = 0 ∧ 0 < m.length)
def padM (m : List (BitVec 8)) : List (BitVec 8) := if m.length % 16 = 0 ∧ 0 < m.length then m else m ++ 128#8 :: replicate (15 - m.length % 16) 0
def lastK (key m : List (BitVec 8)) : List (BitVec 8) := if m.length % 16 = 0 ∧ 0 < m.length then k1F key else k2F key
theorem padM_len (m : List (BitVec 8)) : (padM m).length % 16 = 0 ∧ 0 < (padM m).length ∧ (padM m).length ≤ m.length + 16 := by
 unfold padM; split
 ·omega
 ·rw [List.length_append, List.length_cons, List.length_replicate]; omega
def endF (key b last : List (BitVec 8)) : List (BitVec 8) := Yd key (Yb (Yb (cbc key b (b.length / 16 - 1)) (blk16 b (b.length / 16 - 1))) last)
def cmF (key m : List (BitVec 8)) : List (BitVec 8) := endF key (padM m) (lastK key m)
theorem cmF_len (key m : List (BitVec 8)) : (cmF key m).length = 16 := enc16 _ _
def qM (m : List (BitVec 8)) : Nat := (m.length - 1) / 16
def tlM (m : List (BitVec 8)) : List (BitVec 8) := m.drop (16 * qM m)
theorem tlM_len (m : List (BitVec 8)) : (tlM m).length = m.length - 16 * qM m := List.length_drop
theorem tlM_le (m : List (BitVec 8)) : (tlM m).length ≤ 16 := by rw [tlM_len]; unfold qM; omega
def leftM (m : List (BitVec 8)) : List (BitVec 8) := tlM m ++ replicate (16 - (tlM m).length) 0
theorem leftM_len (m : List (BitVec 8)) : (leftM m).length = 16 := by
 have := tlM_le m
 unfold leftM; rw [List.length_append, List.length_replicate]; omega
def xM (key m : List (BitVec 8)) : List (BitVec 8) := cbc key m (qM m)
theorem xM_len (key m : List (BitVec 8)) : (xM key m).length = 16 := cbc_len _ _ _
def xT (key m : List (BitVec 8)) : List (BitVec 8) := Yd key (Yb (xM key m) (leftM m))
theorem leftM_full {m : List (BitVec 8)} (h : (tlM m).length = 16) : leftM m = tlM m := by unfold leftM; rw [h]; exact List.append_nil _
theorem add_room (key m p : List (BitVec 8)) (h0 : p ≠ []) (h : (tlM m).length + p.length ≤ 16) : qM (m ++ p) = qM m ∧ tlM (m ++ p) = tlM m ++ p ∧ xM key (m ++ p) = xM key m := by
 have hp : 0 < p.length := List.length_pos_iff.2 h0
 have hl := tlM_len m
 have hq : 16 * qM m ≤ m.length := by unfold qM; omega
 have e : qM (m ++ p) = qM m := by
  have : (m ++ p).length = m.length + p.length := List.length_append
  unfold qM at hl hq ⊢
  omega
 refine ⟨e, ?_, ?_⟩
 ·unfold tlM
  rw [e, List.drop_append_of_le_length hq]
 ·unfold xM
  rw [e, cbc_app key m p _ hq]
theorem add_full (key m p : List (BitVec 8)) (h0 : p ≠ []) (hf : (tlM m).length = 16) (h : p.length ≤ 16) : qM (m ++ p) = qM m + 1 ∧ tlM (m ++ p) = p ∧ xM key (m ++ p) = xT key m := by
 have hp : 0 < p.length := List.length_pos_iff.2 h0
 have hl := tlM_len m
 have hm : m.length = 16 * (qM m + 1) := by omega
 have e : qM (m ++ p) = qM m + 1 := by
  have : (m ++ p).length = m.length + p.length := List.length_append
  unfold qM at hm ⊢
  omega
 refine ⟨e, ?_, ?_⟩
 ·unfold tlM
  rw [e, ← hm, List.drop_left]
 ·unfold xM
  rw [e, cbc_app key m p _ (by omega)]
  rw [cbc]
  unfold xT
  rw [leftM_full hf]
  congr 2
  unfold blk16 tlM
  rw [List.take_of_length_le (by rw [List.length_drop]; omega)]
theorem left_room (m p : List (BitVec 8)) (h0 : p ≠ []) (h : (tlM m).length + p.length ≤ 16) : leftM (m ++ p) = (leftM m).take (tlM m).length ++ p ++ (leftM m).drop ((tlM m).length + p.length) := by
 obtain ⟨_, e, _⟩ := add_room [] m p h0 h
 unfold leftM
 rw [e, List.take_left, List.drop_append, List.drop_of_length_le (by omega), List.nil_append, List.drop_replicate, List.length_append]
 congr 2
 omega
theorem left_full (m p : List (BitVec 8)) (h0 : p ≠ []) (hf : (tlM m).length = 16) (h : p.length ≤ 16) : leftM (m ++ p) = p ++ replicate (16 - p.length) 0 := by
 obtain ⟨_, e, _⟩ := add_full [] m p h0 hf h
 unfold leftM
 rw [e]
theorem cm_whole (key m : List (BitVec 8)) (h : (tlM m).length = 16) : cmF key m = Yd key (Yb (xM key m) (Yb (leftM m) (k1F key))) := by
 have hl := tlM_len m
 have hm : m.length = 16 * (qM m + 1) := by omega
 have hc : m.length % 16 = 0 ∧ 0 < m.length := by omega
 unfold cmF padM lastK endF
 rw [if_pos hc, if_pos hc, xorL_assoc, show m.length / 16 - 1 = qM m by omega, leftM_full h]
 unfold xM blk16 tlM
 rw [List.take_of_length_le (by rw [List.length_drop]; omega)]
theorem cm_part (key m : List (BitVec 8)) (h : (tlM m).length < 16) : cmF key m = Yd key (Yb (xM key m) (Yb ((leftM m).set (tlM m).length 128#8) (k2F key))) := by
 have hl := tlM_len m
 have hq : 16 * qM m ≤ m.length := by unfold qM; omega
 have hc : ¬ (m.length % 16 = 0 ∧ 0 < m.length) := by unfold qM at hl; omega
 have hr : m.length % 16 = (tlM m).length := by unfold qM at hl; omega
 have hL : (m ++ 128#8 :: replicate (15 - m.length % 16) 0).length = 16 * (qM m + 1) := by
  rw [List.length_append, List.length_cons, List.length_replicate]; omega
 unfold cmF padM lastK endF
 rw [if_neg hc, if_neg hc, xorL_assoc, hL, show 16 * (qM m + 1) / 16 - 1 = qM m by omega, cbc_app key m _ _ hq]
 unfold xM
 congr 3
 unfold blk16
 rw [List.drop_append_of_le_length hq]
 have e : m.drop (16 * qM m) = tlM m := rfl
 rw [e, List.take_of_length_le (by rw [List.length_append, List.length_cons, List.length_replicate]; omega), hr]
 unfold leftM
 rw [List.set_append, if_neg (by omega), Nat.sub_self, show 16 - (tlM m).length = (15 - (tlM m).length) + 1 by omega, List.replicate_succ, List.set_cons_zero]
theorem o1 : (List.range 256).all (fun n => let y := BitVec.ofNat 8 n; decide (y >>> 7 = 0#8 ∨ y >>> 7 = 1#8) && decide ((y <<< 1 ||| 0#8) &&& 1#8 = 0#8 ∧ (y <<< 1 ||| 1#8) &&& 1#8 = 1#8) && decide ((y <<< 1 ||| 0#8) >>> 1 = y &&& 127#8 ∧ (y <<< 1 ||| 1#8) >>> 1 = y &&& 127#8)
  && decide (y = (y &&& 127#8) ||| (y >>> 7) <<< 7)) = true := by kernel_rfl
theorem o2 : (List.range 256).all (fun n => decide (((BitVec.ofNat 8 n <<< 1 ||| 0#8) ^^^ 135#8) &&& 1#8 = 1#8)) = true := by kernel_rfl
def seqL {α : Type} : List (BitVec 8) → (List (BitVec 8) → α) → α
 | [], k => k []
 | x :: l, k => seqB x fun y => seqL l fun m => k (y :: m)
theorem seqL_eq {α : Type} : ∀ (l : List (BitVec 8)) (k : List (BitVec 8) → α), seqL l k = k l
 | [], _ => rfl
 | x :: l, k => by rw [seqL, seqB_eq, seqL_eq l]
def exS {α : Type} (key : List (BitVec 8)) : Nat → (List (BitVec 8) → α) → α
 | 0, k => k []
 | m + 1, k => exS key m fun l => seqB (exNext key l m) fun x => seqL (l ++ [x]) k
theorem exS_eq {α : Type} (key : List (BitVec 8)) : ∀ (m:Nat) (k : List (BitVec 8) → α), exS key m k = k (Zd key m)
 | 0, _ => rfl
 | m + 1, k => by rw [exS, exS_eq key m, seqB_eq, seqL_eq, Zd]
def rkL (L : List (BitVec 8)) (n:Nat) : List (BitVec 8) := (L.drop (16 * n)).take 16
def enS {α : Type} (L b : List (BitVec 8)) : Nat → (List (BitVec 8) → α) → α
 | 0, k => seqL (Yb b (rkL L 0)) k
 | n + 1, k => enS L b n fun x => seqL (shL x) fun s => (match Nat.blt (n + 1) 10 with
  | true => seqL (mixL s) fun m => seqL (Yb m (rkL L (n + 1))) k
  | false => seqL (Yb s (rkL L (n + 1))) k)
theorem enS_eq {α : Type} (key b : List (BitVec 8)) : ∀ (n:Nat) (k : List (BitVec 8) → α), enS (Zd key 176) b n k = k (encN key b n)
 | 0, k => by
  rw [enS, seqL_eq]
  rfl
 | n + 1, k => by
  rw [enS, enS_eq key b n, seqL_eq, encN]
  unfold rndF
  by_cases h : n + 1 < 10
  ·rw [if_pos h, show Nat.blt (n + 1) 10 = true from by rw [Nat.blt_eq]; exact h]
   dsimp only
   rw [seqL_eq, seqL_eq]
   rfl
  ·rw [if_neg h, show Nat.blt (n + 1) 10 = false from by rw [← Bool.not_eq_true, Nat.blt_eq]; exact h]
   dsimp only
   rw [seqL_eq]
   rfl
def cbS {α : Type} (L p : List (BitVec 8)) : Nat → (List (BitVec 8) → α) → α
 | 0, k => k z16
 | q + 1, k => cbS L p q fun x => seqL (Yb x (blk16 p q)) fun y => enS L y 10 k
theorem cbS_eq {α : Type} (key p : List (BitVec 8)) : ∀ (q:Nat) (k : List (BitVec 8) → α), cbS (Zd key 176) p q k = k (cbc key p q)
 | 0, _ => rfl
 | q + 1, k => by rw [cbS, cbS_eq key p q, seqL_eq, enS_eq, cbc]; rfl
def cmS (key m : List (BitVec 8)) : List (BitVec 8) :=
 exS key 176 fun L => enS L z16 10 fun e => seqL (dbN e) fun k1 => seqL (dbN k1) fun k2 => seqL (padM m) fun p =>
  cbS L p (p.length / 16 - 1) fun x => seqL (Yb x (blk16 p (p.length / 16 - 1))) fun y => seqL (Yb y (if m.length % 16 = 0 ∧ 0 < m.length then k1 else k2)) fun z => enS L z 10 fun r => r
theorem cmS_eq (key m : List (BitVec 8)) : cmS key m = cmF key m := by
 unfold cmS cmF endF lastK k2F k1F
 rw [exS_eq, enS_eq, seqL_eq, seqL_eq, seqL_eq, cbS_eq, seqL_eq, seqL_eq, enS_eq]
 rfl
def lit8 (l : List Nat) : List (BitVec 8) := l.map (BitVec.ofNat 8)
def beqL : List (BitVec 8) → List Nat → Bool
 | [], [] => true
 | x :: l, n :: m => Nat.beq x.toNat n && beqL l m
 | _, _ => false
theorem beqL_ok : ∀ {l : List (BitVec 8)} {m : List Nat}, beqL l m = true → l = lit8 m
 | [], [], _ => rfl
 | [], _ :: _, h => by cases h
 | _ :: _, [], h => by cases h
 | x :: l, n :: m, h => by
  simp only [beqL, Bool.and_eq_true] at h
  rw [beqL_ok h.2]
  have hn : x.toNat = n := Nat.eq_of_beq_eq_true h.1
  show x :: lit8 m = BitVec.ofNat 8 n :: lit8 m
  rw [← hn, BitVec.ofNat_toNat, BitVec.setWidth_eq]
end DH
