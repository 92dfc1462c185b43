/- Walks of functions, each by evaluation: what each returns. -/
import Derived.Test.YtdnggeocdocomaaJ0
set_option linter.unusedVariables false
set_option linter.unusedSimpArgs false
noncomputable section
namespace DH
open Go

/-! The boxes out of the powers of 3. -/
def pwN : List Nat := [1, 3, 5, 15, 17, 51, 85, 255, 26, 46, 114, 150, 161, 248, 19, 53, 95, 225, 56, 72, 216, 115, 149, 164, 247, 2, 6, 10, 30, 34, 102, 170, 229, 52, 92, 228, 55, 89, 235, 38, 106, 190, 217, 112, 144, 171, 230, 49, 83, 245, 4, 12, 20, 60, 68, 204, 79, 209, 104, 184, 211, 110, 178, 205, 76, 212, 103, 169, 224, 59, 77, 215, 98, 166, 241, 8, 24, 40, 120, 136, 131, 158, 185, 208, 107, 189, 220, 127, 129, 152, 179, 206, 73, 219, 118, 154, 181, 196, 87, 249, 16, 48, 80, 240, 11, 29, 39, 105, 187, 214, 97, 163, 254, 25, 43, 125, 135, 146, 173, 236, 47, 113, 147, 174, 233, 32, 96, 160, 251, 22, 58, 78, 210, 109, 183, 194, 93, 231, 50, 86, 250, 21, 63, 65, 195, 94, 226, 61, 71, 201, 64, 192, 91, 237, 44, 116, 156, 191, 218, 117, 159, 186, 213, 100, 172, 239, 42, 126, 130, 157, 188, 223, 122, 142, 137, 128, 155, 182, 193, 88, 232, 35, 101, 175, 234, 37, 111, 177, 200, 67, 197, 84, 252, 31, 33, 99, 165, 244, 7, 9, 27, 45, 119, 153, 176, 203, 70, 202, 69, 207, 74, 222, 121, 139, 134, 145, 168, 227, 62, 66, 198, 81, 243, 14, 18, 54, 90, 238, 41, 123, 141, 140, 143, 138, 133, 148, 167, 242, 13, 23, 57, 75, 221, 124, 132, 151, 162, 253, 28, 36, 108, 180, 199, 82, 246, 1]
def p3 (i : Nat) : BitVec 8 := BitVec.ofNat 8 (pwN.getD i 0)
theorem t6 : (List.range 255).all (fun i => decide (tmF (p3 i) 3#8 = p3 (i + 1))) = true := by kernel_rfl
theorem p3_next {i : Nat} (h : i < 255) : tmF (p3 i) 3#8 = p3 (i + 1) := of_decide_eq_true (List.all_eq_true.1 t6 i (List.mem_range.2 h))
theorem p3_0 : p3 0 = 1#8 := by kernel_rfl
def oF : Nat → List (BitVec 8)
  | 0 => turnB 0#8 :: List.replicate 255 0
  | i + 1 => (oF i).set (p3 i).toNat (turnB (p3 (255 - i)))
theorem oF_len : ∀ n, (oF n).length = 256
  | 0 => by rw [oF, List.length_cons, List.length_replicate]
  | n + 1 => by rw [oF, List.length_set, oF_len n]
def oGo : Nat → (List (BitVec 8) → Bool) → Bool
  | 0, k => k (turnB 0#8 :: List.replicate 255 0)
  | i + 1, k => oGo i fun l => setF l (p3 i).toNat (turnB (p3 (255 - i))) k
theorem oGo_eq : ∀ (n : Nat) (k : List (BitVec 8) → Bool), oGo n k = k (oF n)
  | 0, k => rfl
  | n + 1, k => by rw [oGo, oGo_eq n, setF_eq, oF]
def eqLN : List (BitVec 8) → List Nat → Bool
  | [], [] => true
  | x :: l, n :: m => Nat.beq x.toNat n && eqLN l m
  | _, _ => false
theorem eqLN_ok : ∀ {l : List (BitVec 8)} {m : List Nat}, eqLN l m = true → l = m.map (BitVec.ofNat 8)
  | [], [], _ => rfl
  | x :: l, n :: m, h => by
    simp only [eqLN, Bool.and_eq_true] at h
    rw [List.map_cons, ← eqLN_ok h.2, ← Nat.eq_of_beq_eq_true h.1, BitVec.ofNat_toNat, BitVec.setWidth_eq]
  | [], _ :: _, h => by cases h
  | _ :: _, [], h => by cases h
theorem t7 : oGo 255 (fun l => eqLN l boxN) = true := by kernel_rfl
theorem oF_end : oF 255 = boxT := by
  have := t7
  rw [oGo_eq] at this
  exact eqLN_ok this
def pwL : List (BitVec 8) := (List.range 256).map p3
theorem pwL_len : pwL.length = 256 := by unfold pwL; rw [List.length_map, List.length_range]
theorem pwL_get {i : Nat} (h : i < 256) : pwL.getD i 0 = p3 i := by
  unfold pwL
  rw [getD_map p3 _ 0 _ (by rw [List.length_range]; exact h)]
  congr 1
  rw [List.getD_eq_getElem?_getD, List.getElem?_range h]
  rfl
end DH
