/- The layer: abstract values, operations on them, and that the machine follows. -/
import Derived.Test.YtdnggeocdocomaaA3
set_option linter.unusedVariables false
set_option linter.unusedSimpArgs false
namespace DH
open Go

/-! A region that draws its order, whatever its operations are: all orders, but for operations that look only at what stays. -/

/-- what is there stays, more may come -/
structure Grow (w w' : World) : Prop where
  os : w'.os = w.os
  tape : w'.tape = w.tape
  output : w'.output = w.output
  size : w.heap.size ≤ w'.heap.size
  keep : ∀ b, b < w.heap.size → w'.heap[b]? = w.heap[b]?

theorem Grow.refl (w : World) : Grow w w := ⟨rfl, rfl, rfl, Nat.le_refl _, fun _ _ => rfl⟩
theorem Grow.trans {u v w : World} (h : Grow u v) (k : Grow v w) : Grow u w :=
  ⟨k.os.trans h.os, k.tape.trans h.tape, k.output.trans h.output, Nat.le_trans h.size k.size, fun b hb => (k.keep b (Nat.lt_of_lt_of_le hb h.size)).trans (h.keep b hb)⟩

section
variable {P : Program} {ops : Array Oper} {md : Region.Mode}

/-- an operation that ends well -/
def gAt (P : Program) (o : Oper) (a : Act) (K : Value → World → Prop) (w : World) : Prop :=
  match (execOp a.eval o).run P w with
  | .ok (.value v) w' => K v w'
  | .ok .skip w' => K undef w'
  | .ok (.enter f args) w' => Calls P f args w' (fun e w'' => ∃ v, e = .returned v ∧ K v w'')
  | _ => False

theorem gAt_mono {o : Oper} {a : Act} {K K' : Value → World → Prop} {w : World} (h : ∀ v w', K v w' → K' v w') (hh : gAt P o a K w) : gAt P o a K' w := by
  unfold gAt at *
  split at hh
  · exact h _ _ hh
  · exact h _ _ hh
  · exact hh.mono fun e w'' ⟨v, h1, h2⟩ => ⟨v, h1, h _ _ h2⟩
  · exact hh

def gOp (P : Program) (ops : Array Oper) (i : Nat) (K : Act → World → Prop) (a : Act) (w : World) : Prop :=
  match ops[i]? with
  | none => K a w
  | some o => if Region.wanted o (yielded ops a.tmps) then gAt P o a (fun v w' => K (a.put o.dst v) w') w else K (a.put o.dst undef) w

theorem gOp_mono {i : Nat} {K K' : Act → World → Prop} {a : Act} {w : World} (h : ∀ a' w', K a' w' → K' a' w') (hh : gOp P ops i K a w) : gOp P ops i K' a w := by
  unfold gOp at *
  cases ho : ops[i]? with
  | none => simp only [ho] at hh ⊢; exact h _ _ hh
  | some o =>
    simp only [ho] at hh ⊢
    split
    · rename_i hw; rw [if_pos hw] at hh; exact gAt_mono (fun v w' => h _ _) hh
    · rename_i hw; rw [if_neg hw] at hh; exact h _ _ hh

theorem wpOp_of_gOp {i : Nat} {K : Act → World → Prop} {Q : Exit → Act → World → Prop} {a : Act} {w : World} (h : gOp P ops i K a w) : wpOp P ops Q i K a w := by
  unfold gOp at h
  unfold wpOp
  cases ho : ops[i]? with
  | none => simp only [ho] at h ⊢; exact h
  | some o =>
    simp only [ho] at h ⊢
    split
    · rename_i hw
      rw [if_pos hw] at h
      left
      unfold gAt at h
      unfold Oper.wp
      generalize (execOp a.eval o).run P w = r at *
      split at h
      · exact h
      · exact h
      · refine Calls.mono h fun e w'' ⟨v, h1, h2⟩ => ?_
        subst h1
        exact h2
      · exact h.elim
    · rename_i hw; rw [if_neg hw] at h; exact h

/-- all orders, with what the soft operations leave told; at any time more may come -/
def anyG (P : Program) (md : Region.Mode) (ops : Array Oper) (soft : Nat → Bool) (I : World → Prop) (L : Act → World → Prop) : Nat → Array Bool → Act → World → Prop
  | 0, listed, a, w => Region.ready md ops listed = [] ∧ ∀ w1, Grow w w1 → L a w1
  | f + 1, listed, a, w => ∀ w1, Grow w w1 → (Region.ready md ops listed = [] → L a w1) ∧
      ∀ i ∈ Region.ready md ops listed, gOp P ops i (fun a' w' => (soft i = true → Grow w1 w') ∧ I w' ∧ anyG P md ops soft I L f (listed.setIfInBounds i true) a' w') a w1

theorem anyG_grow {soft : Nat → Bool} {I : World → Prop} {L : Act → World → Prop} : ∀ {f : Nat} {listed : Array Bool} {a : Act} {w w1 : World}, anyG P md ops soft I L f listed a w → Grow w w1 → anyG P md ops soft I L f listed a w1
  | 0, _, _, _, _, h, g => ⟨h.1, fun w2 g2 => h.2 w2 (g.trans g2)⟩
  | _ + 1, _, _, _, _, h, g => fun w2 g2 => h w2 (g.trans g2)

theorem wpAny_of_anyG {soft : Nat → Bool} {I : World → Prop} {L : Act → World → Prop} {Q : Exit → Act → World → Prop} (hL : ∀ a w, L a w → Q .normal a w) : ∀ (f : Nat) (listed : Array Bool) (a : Act) (w : World),
    anyG P md ops soft I L f listed a w → wpAny P md ops Q f listed a w
  | 0, _, _, w, h => ⟨h.1, hL _ _ (h.2 w (.refl w))⟩
  | f + 1, _, _, w, h => ⟨fun h0 => hL _ _ ((h w (.refl w)).1 h0), fun i hi => wpOp_mono (fun a' w' h' => wpAny_of_anyG hL f _ a' w' h'.2.2) (wpOp_of_gOp ((h w (.refl w)).2 i hi))⟩

/-- one value in every world of a class, to which more may come -/
def YieldsC (P : Program) (ops : Array Oper) (C : World → Prop) (o : Oper) (v : Value) (a : Act) : Prop :=
  (Region.wanted o (yielded ops a.tmps) = true ∧ ∀ w, C w → gAt P o a (fun u w' => u = v ∧ Grow w w') w) ∨
  (Region.wanted o (yielded ops a.tmps) = false ∧ v = undef)

theorem YieldsC.quiet {C : World → Prop} {o : Oper} {v : Value} {a : Act} (h1 : Region.wanted o (yielded ops a.tmps) = true) (h2 : ∀ w, C w → (execOp a.eval o).run P w = .ok (.value v) w) : YieldsC P ops C o v a := by
  refine .inl ⟨h1, fun w hw => ?_⟩
  unfold gAt
  rw [h2 w hw]
  exact ⟨rfl, .refl w⟩

theorem YieldsC.gOp {C : World → Prop} {i : Nat} {o : Oper} {v : Value} {a : Act} (hi : ops[i]? = some o) (hy : YieldsC P ops C o v a) {K : Act → World → Prop} {w : World} (hw : C w) (h : ∀ w', Grow w w' → K (a.put o.dst v) w') : gOp P ops i K a w := by
  unfold DH.gOp
  simp only [hi]
  rcases hy with ⟨h1, h2⟩ | ⟨h1, rfl⟩
  · rw [if_pos h1]
    exact gAt_mono (fun u w' ⟨e, g⟩ => by rw [e]; exact h w' g) (h2 w hw)
  · rw [if_neg (by rw [h1]; decide)]
    exact h w (.refl w)

/-- another operation, whether or not the value is already there -/
theorem gOp_put {C : World → Prop} {j : Nat} {oi oj : Oper} {v : Value} (hj : ops[j]? = some oj) (hap : oi.apart ops oj = true)
    (hsi : ∀ cs b, oi.op ≠ .select cs b) (hsj : ∀ cs b, oj.op ≠ .select cs b) {K : Act → World → Prop} {a : Act} {w : World} (hy : YieldsC P ops C oi v a)
    (h : gOp P ops j K (a.put oi.dst v) w) : gOp P ops j (fun a' w' => YieldsC P ops C oi v a' ∧ K (a'.put oi.dst v) w') a w := by
  obtain ⟨h1, h2, h3⟩ := Oper.apart_spec hap
  have keep : ∀ u, YieldsC P ops C oi v (a.put oj.dst u) := fun u => by
    unfold YieldsC gAt at *
    rw [execOp_put oi hsi a oj.dst u h3, wanted_put oi a oj.dst u h3]
    exact hy
  have e : ∀ u, (a.put oi.dst v).put oj.dst u = (a.put oj.dst u).put oi.dst v := fun u => Act.put_comm a v u h2
  unfold gOp gAt at *
  simp only [hj] at *
  rw [wanted_put oj a oi.dst v h1] at h
  split
  · rename_i hw
    rw [if_pos hw] at h
    rw [execOp_put oj hsj a oi.dst v h1] at h
    generalize (execOp a.eval oj).run P w = r at *
    split at h
    · exact ⟨keep _, by rw [← e]; exact h⟩
    · exact ⟨keep _, by rw [← e]; exact h⟩
    · refine Calls.mono h fun x w'' ⟨u, g1, g2⟩ => ⟨u, g1, keep _, by rw [← e]; exact g2⟩
    · exact h.elim
  · rename_i hw
    rw [if_neg hw] at h
    exact ⟨keep _, by rw [← e]; exact h⟩

/-- an operation that looks only at what stays may come first -/
theorem anyG_first {soft : Nat → Bool} {I : World → Prop} {L : Act → World → Prop} {C : World → Prop} (hC : ∀ w w', C w → Grow w w' → C w') (hCI : ∀ w, C w → I w) {i : Nat} {oi : Oper} {v : Value} (hi : ops[i]? = some oi) (hsel : ∀ (j : Nat) (o : Oper) cs b, ops[j]? = some o → o.op ≠ .select cs b) :
    ∀ (f : Nat) (listed : Array Bool) (a : Act) (w : World),
      (∀ j oj, ops[j]? = some oj → j ≠ i → listed.getD j true = false → (∀ e ∈ oj.after, Region.binds md e = true → e.on ≠ i) → oi.apart ops oj = true ∧ (soft j = true ∨ ∀ w, I w → C w)) →
      i ∈ Region.ready md ops listed → YieldsC P ops C oi v a → C w →
      anyG P md ops soft I L f (listed.setIfInBounds i true) (a.put oi.dst v) w → anyG P md ops soft I L (f + 1) listed a w := by
  intro f
  induction f with
  | zero =>
    intro listed a w hfree hr hy hw H w1 hg
    refine ⟨fun h => (by rw [h] at hr; cases hr), fun j hj => ?_⟩
    by_cases hji : j = i
    · subst hji
      exact hy.gOp hi (hC _ _ hw hg) fun w' g => ⟨fun _ => g, hCI _ (hC _ _ (hC _ _ hw hg) g), anyG_grow H (hg.trans g)⟩
    · have := ready_mono hj hji
      rw [H.1] at this
      cases this
  | succ f ih =>
    intro listed a w hfree hr hy hw H w1 hg
    have hun := (mem_ready.1 hr).1
    refine ⟨fun h => (by rw [h] at hr; cases hr), fun j hj => ?_⟩
    by_cases hji : j = i
    · subst hji
      exact hy.gOp hi (hC _ _ hw hg) fun w' g => ⟨fun _ => g, hCI _ (hC _ _ (hC _ _ hw hg) g), anyG_grow H (hg.trans g)⟩
    · have h1 := (H w1 hg).2 j (ready_mono hj hji)
      obtain ⟨hjun, oj, hoj, hall⟩ := mem_ready.1 hj
      have hnot : ∀ e ∈ oj.after, Region.binds md e = true → e.on ≠ i := fun e he hb heq => by
        have h1 := hall e he hb
        rw [heq, getD_both hun] at h1
        cases h1
      obtain ⟨hap, hso⟩ := hfree j oj hoj hji hjun hnot
      have h2 := gOp_put hoj hap (fun cs b => hsel i oi cs b hi) (fun cs b => hsel j oj cs b hoj) hy h1
      have hfree' : ∀ k ok, ops[k]? = some ok → k ≠ i → (listed.setIfInBounds j true).getD k true = false →
          (∀ e ∈ ok.after, Region.binds md e = true → e.on ≠ i) → oi.apart ops ok = true ∧ (soft k = true ∨ ∀ w, I w → C w) := fun k ok hk hki hun hno => by
        refine hfree k ok hk hki ?_ hno
        by_cases hjk : j = k
        · subst hjk; exact hjun
        · rw [getD_set_ne true hjk] at hun; exact hun
      refine gOp_mono (fun a' w' ⟨g1, g2, g4, g3⟩ => ⟨g2, g4, ih (listed.setIfInBounds j true) a' w' hfree' (ready_mono hr (Ne.symm hji)) g1 ?_ ?_⟩) h2
      · rcases hso with h | h
        · exact hC _ _ (hC _ _ hw hg) (g2 h)
        · exact h _ g4
      · rw [Array.setIfInBounds_comm _ _ hji]
        exact g3
end
end DH
