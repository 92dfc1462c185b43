/- Walks of functions, each by evaluation: what each returns; with the layer beneath. -/
import Derived.Test.YtkkaclgamhpalaaLC
set_option linter.unusedVariables false
set_option linter.unusedSimpArgs false
noncomputable section
namespace DH
open Go

/-! Rows of bytes. -/
theorem setT {α : Type} (t l : List α) (d : α) {i : Nat} (hi : i < t.length) (h : t.length = l.length) : (t.take i ++ l.drop i).set i (t.getD i d) = t.take (i + 1) ++ l.drop (i + 1) := by
  have h1 : (t.take i).length = i := by rw [List.length_take]; omega
  rw [List.set_append, if_neg (by omega), h1, Nat.sub_self]
  have h2 : l.drop i = l[i]'(by omega) :: l.drop (i + 1) := List.drop_eq_getElem_cons (by omega)
  rw [h2, List.set_cons_zero, List.take_add_one, List.getElem?_eq_getElem hi, List.getD_eq_getElem?_getD, List.getElem?_eq_getElem hi]
  simp only [Option.toList, Option.getD, List.append_assoc, List.cons_append, List.nil_append]
theorem getT_src {α : Type} (t l : List α) (d : α) {i j : Nat} (hi : i ≤ t.length) (hj : i ≤ j) : (t.take i ++ l.drop i).getD j d = l.getD j d := by
  have h1 : (t.take i).length = i := by rw [List.length_take]; omega
  rw [List.getD_eq_getElem?_getD, List.getD_eq_getElem?_getD, List.getElem?_append_right (by omega), h1, List.getElem?_drop, show i + (j - i) = j by omega]
theorem lenT {α : Type} (t l : List α) {i : Nat} (h : t.length = l.length) : (t.take i ++ l.drop i).length = l.length := by
  rw [List.length_append, List.length_take, List.length_drop]; omega
theorem endT {α : Type} (t l : List α) (h : t.length = l.length) : t.take t.length ++ l.drop t.length = t := by
  rw [List.take_length, List.drop_of_length_le (by omega), List.append_nil]
theorem lay1 (ws : List (BitVec 8)) (k : Nat) (x : BitVec 8) : layS (ws.map AC.u8) k [AC.u8 x] = (ws.set k x).map AC.u8 := by
  rw [List.map_set]
  rfl
end DH
