/- Walks of functions, each by evaluation: what each returns; with the layer beneath. -/
import Derived.Test.YtdnggeocdocomaaLC
set_option linter.unusedVariables false
set_option linter.unusedSimpArgs false
noncomputable section
namespace DH
open Go
theorem setT {α : Type} (t l : List α) (d : α) {i : Nat} (hi : i < t.length) (h : t.length = l.length) : (t.take i ++ l.drop i).set i (t.getD i d) = t.take (i + 1) ++ l.drop (i + 1) := by
 have h1 : (t.take i).length = i := by rw [List.length_take]; omega
 rw [List.set_append, if_neg (by omega), h1, Nat.sub_self]
 have h2 : l.drop i = l[i]'(by omega) :: l.drop (i + 1) := List.drop_eq_getElem_cons (by omega)
 rw [h2, List.set_cons_zero, List.take_add_one, List.getElem?_eq_getElem hi, List.getD_eq_getElem?_getD, List.getElem?_eq_getElem hi]
 simp only [Option.toList, Option.getD, List.append_assoc, List.cons_append, List.nil_append]
theorem getT_src {α : Type} (t l : List α) (d : α) {i j : Nat} (hi : i ≤ t.length) (hj : i ≤ j) : (t.take i ++ l.drop i).getD j d = l.getD j d := by
 have h1 : (t.take i).length = i := by rw [List.length_take]; omega
 rw [List.getD_eq_getElem?_getD, List.getD_eq_getElem?_getD, List.getElem?_append_right (by omega), h1, List.getElem?_drop, show i + (j - i) = j by omega]
theorem getT_new {α : Type} (t l : List α) (d : α) {i j : Nat} (hi : i ≤ t.length) (hj : j < i) : (t.take i ++ l.drop i).getD j d = t.getD j d := by
 have h1 : (t.take i).length = i := by rw [List.length_take]; omega
 rw [List.getD_eq_getElem?_getD, List.getD_eq_getElem?_getD, List.getElem?_append_left (by omega), List.getElem?_take_of_lt hj]
theorem lenT {α : Type} (t l : List α) {i : Nat} (h : t.length = l.length) : (t.take i ++ l.drop i).length = l.length := by
 rw [List.length_append, List.length_take, List.length_drop]; omega
theorem endT {α : Type} (t l : List α) (h : t.length = l.length) : t.take t.length ++ l.drop t.length = t := by
 rw [List.take_length, List.drop_of_length_le (by omega), List.append_nil]
theorem begT {α : Type} (t l : List α) : t.take 0 ++ l.drop 0 = l := by simp
theorem takeS {α : Type} (t : List α) (d : α) {i : Nat} (hi : i < t.length) : t.take i ++ [t.getD i d] = t.take (i + 1) := by
 rw [List.take_add_one, List.getElem?_eq_getElem hi, List.getD_eq_getElem?_getD, List.getElem?_eq_getElem hi]
 rfl
theorem getD_map {α β : Type} (f : α → β) (l : List α) (a : α) (b : β) {i : Nat} (hi : i < l.length) : (l.map f).getD i b = f (l.getD i a) := by
 rw [List.getD_eq_getElem?_getD, List.getD_eq_getElem?_getD, List.getElem?_map, List.getElem?_eq_getElem hi]
 rfl
theorem getD_app_lo {α : Type} (l m : List α) (d : α) {i : Nat} (hi : i < l.length) : (l ++ m).getD i d = l.getD i d := by
 rw [List.getD_eq_getElem?_getD, List.getD_eq_getElem?_getD, List.getElem?_append_left hi]
theorem getD_rep {α : Type} (n : Nat) (x d : α) {i : Nat} (hi : i < n) : (List.replicate n x).getD i d = x := by
 rw [List.getD_eq_getElem?_getD, List.getElem?_replicate, if_pos hi]
 rfl
theorem Jd (n : Nat) : List.replicate n (AC.u8 0) = (List.replicate n (0 : BitVec 8)).map AC.u8 := by rw [List.map_replicate]
theorem tkm (b : List (BitVec 8)) (j k : Nat) : List.take j (List.drop k (b.map AC.u8)) = ((b.drop k).take j).map AC.u8 := by rw [List.map_take, List.map_drop]
theorem tk0 (b : List (BitVec 8)) (j : Nat) : List.take j (b.map AC.u8) = (b.take j).map AC.u8 := List.map_take.symm
theorem layM (ws l : List (BitVec 8)) (h : l.length = ws.length) : Qa (ws.map AC.u8) 0 (l.map AC.u8) = l.map AC.u8 := by
 have e : 0 + (l.map AC.u8).length ≤ (ws.map AC.u8).length := by rw [List.length_map, List.length_map]; omega
 rw [layS_eq e]
 unfold lay
 rw [List.take_zero, List.nil_append, List.drop_of_length_le (by rw [List.length_map, List.length_map]; omega), List.append_nil]
theorem Xd (ws : List (BitVec 8)) (k : Nat) (x : BitVec 8) : Qa (ws.map AC.u8) k [AC.u8 x] = (ws.set k x).map AC.u8 := by
 rw [List.map_set]
 rfl
theorem Ae (n : Nat) (l : List (BitVec 8)) (h : l.length = n) : Qa (List.replicate n (AC.u8 0)) 0 (l.map AC.u8) = l.map AC.u8 := by
 rw [Jd]; exact layM _ _ (by rw [List.length_replicate]; exact h)
theorem layC (n : Nat) (l : List (BitVec 8)) : lay (List.replicate n (AC.u8 0)) 0 (l.map AC.u8) = (l ++ List.replicate (n - l.length) 0).map AC.u8 := by
 unfold lay
 rw [List.take_zero, List.nil_append, Nat.zero_add, List.length_map, List.drop_replicate, List.map_append, List.map_replicate]
theorem tkn {α : Type} (l : List α) (n : Nat) (h : l.length ≤ n) : l.take n = l := List.take_of_length_le h
theorem Ya (l : List (BitVec 8)) : Za (.agg (l.map AC.u8)) := Aa l
theorem ixn (i : Nat) : 0 + Int.toNat (i : Int) * 1 = i := by omega
end DH
