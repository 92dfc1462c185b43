/- Walks of functions, each by evaluation: what each returns. -/
import Derived.Test.YtdnggeocdocomaaC7
import Derived.Test.YtdnggeocdocomaaD1
import Derived.Below
set_option linter.unusedVariables false
set_option linter.unusedSimpArgs false
noncomputable section
namespace DH
open Go Go.RowKit

/-! What every seat uses: tables of contracts. -/

abbrev Tab := FuncId → List AV → Option (List Prop × AV)
def Is (r : AV) : AV → Mem → Prop := fun r' _ => r' = r
/-- result and memory are these -/
def Are (r : AV) (m : Mem) : AV → Mem → Prop := fun r' m' => r' = r ∧ m' = m

/-- rows of a table: contracts of functions that only compute -/
structure Row (P : Program) (f : FuncId) (xs : List AV) (cs : List Prop) (r : AV) : Prop where
  fn : ∃ fn c, FnOk P f fn c
  sp : AllC cs → Spec P f xs [] (Is r)
  ex : r.exact

theorem Row.ok {P : Program} {f : FuncId} {xs : List AV} {cs : List Prop} {r : AV} (h : Row P f xs cs r) (hc : AllC cs) : (∃ fn c, FnOk P f fn c) ∧ Spec P f xs [] (fun r' _ => r' = r) ∧ r.exact := ⟨h.fn, h.sp hc, h.ex⟩

theorem exactFlat {l : List AC} (h : flatLB l = true) : Flat l := flatLB_ok h
theorem flat_map {α : Type} (f : α → AC) (hf : ∀ x, (f x).flat = true) (l : List α) : Flat (l.map f) := fun c hc => by
  obtain ⟨x, _, rfl⟩ := List.mem_map.1 hc
  exact hf x

theorem flat_append {a b : List AC} (h : Flat a) (g : Flat b) : Flat (a ++ b) := fun c hc => (List.mem_append.1 hc).elim (h c) (g c)
theorem flat_u8 (l : List (BitVec 8)) : Flat (l.map .u8) := flat_map _ (fun _ => rfl) l
theorem flat_u32 (l : List (BitVec 32)) : Flat (l.map .u32) := flat_map _ (fun _ => rfl) l
theorem gt_u8_at (l : List (BitVec 8)) (i : Nat) (h : i < l.length) : gt AC.any (l.map AC.u8) i = .u8 (l.getD i 0) := by
  rw [gt_eq]; simp [List.getD, h]
theorem gt_u32_at (l : List (BitVec 32)) (i : Nat) (h : i < l.length) : gt AC.any (l.map AC.u32) i = .u32 (l.getD i 0) := by
  rw [gt_eq]; simp [List.getD, h]
theorem map_as8 (l : List (BitVec 8)) : (l.map AC.u8).map asU8 = l := by rw [List.map_map]; exact List.map_id l
theorem map_as32 (l : List (BitVec 32)) : (l.map AC.u32).map asU32 = l := by rw [List.map_map]; exact List.map_id l
theorem allU8_map (l : List (BitVec 8)) : allU8 (l.map AC.u8) := by unfold allU8; rw [map_as8]
theorem allU8_eq {row : List AC} (h : allU8 row) : ∃ l : List (BitVec 8), row = l.map AC.u8 := ⟨_, h⟩

/-- rows of things that are laid out one behind another -/
theorem gt_rows {α : Type} (enc : α → List AC) (k : Nat) (hk : ∀ x, (enc x).length = k) : ∀ (l : List α) (i j : Nat) (hi : i < l.length), j < k → gt AC.any (l.flatMap enc) (i * k + j) = gt AC.any (enc (l[i]'hi)) j
  | [], i, j, hi, _ => by simp at hi
  | x :: l, i, j, hi, hj => by
    rw [gt_eq, gt_eq, List.flatMap_cons]
    cases i with
    | zero => simp only [Nat.zero_mul, Nat.zero_add]; rw [List.getElem?_append_left (by rw [hk]; exact hj)]; rfl
    | succ i =>
      rw [List.getElem?_append_right (by rw [hk, Nat.add_mul]; omega), hk, show (i + 1) * k + j - k = i * k + j by rw [Nat.add_mul]; omega]
      have := gt_rows enc k hk l i j (by simpa using hi) hj
      rw [gt_eq, gt_eq] at this
      rw [this]
      rfl
theorem len_rows {α : Type} (enc : α → List AC) (k : Nat) (hk : ∀ x, (enc x).length = k) : ∀ (l : List α), (l.flatMap enc).length = l.length * k
  | [] => by simp
  | x :: l => by rw [List.flatMap_cons, List.length_append, hk, len_rows enc k hk l, List.length_cons, Nat.add_mul]; omega

/-- a table's claim -/
def TabOk (P : Program) (T : Tab) : Prop := ∀ f xs cs r, T f xs = some (cs, r) → AllC cs → (∃ fn c, FnOk P f fn c) ∧ Spec P f xs [] (fun r' _ => r' = r) ∧ r.exact

abbrev TabM := FuncId → List AV → Mem → Option (List Prop × AV × Mem)
def TabMOk (P : Program) (T : TabM) : Prop := ∀ f xs m0 cs r m1, T f xs m0 = some (cs, r, m1) → AllC cs → (∃ fn c, FnOk P f fn c) ∧ Spec P f xs m0 (fun r' m' => r' = r ∧ m' = m1)

/-- a law's contract, as the row wants it -/
theorem Spec.walk {P : Program} {f : FuncId} {xs : List AV} (h : Spec P f xs [] (Is (.one (.b true)))) {vs : List Value} {w : World} (ha : AL (Ctx.all P w []) 0 ⟨fun _ => 0, fun _ => 0⟩ xs vs) :
    Calls P f vs.toArray w fun e w' => e = .returned (.bool true) ∧ Below w.heap.size w w' := by
  refine (h (Ctx.all P w []) ⟨fun _ => 0, fun _ => 0⟩ vs rfl ⟨rfl, rfl, rfl, Nat.le_refl _, fun _ _ => rfl, fun i row hi => by simp at hi, fun i row hi => by simp at hi, fun i j r s hi => by simp at hi⟩ ha).mono ?_
  rintro e w' ⟨v, r, m', p', rfl, _, _, h3, h4, h5⟩
  cases h5
  have := VA.bool h3
  subst this
  exact ⟨rfl, h4.os, h4.tape, h4.output, h4.size, fun k hk => h4.keep k ⟨hk, by simp [Ctx.all]⟩⟩
end DH
