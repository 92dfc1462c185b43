/- The layer: operations that build, store and slice, and that the machine follows. -/
import Derived.Test.YtdnggeocdocomaaB3
set_option linter.unusedVariables false
set_option linter.unusedSimpArgs false
namespace DH
open Go

section
variable {X : Ctx} {p : Pl} {m : Mem}

/-! New blocks, and stores -/

def Pl.put (p : Pl) (i b z : Nat) : Pl := ⟨fun j => if j = i then b else p.at_ j, fun j => if j = i then z else p.sz j⟩

theorem Ext.put (p : Pl) (N b z : Nat) : Ext N p (p.put N b z) := fun i hi => by
  have : i ≠ N := by omega
  simp [Pl.put, this]

theorem MR.live {w : World} (h : MR X p m w) {i : Nat} {row : List AC} (hi : m[i]? = some (some row)) (hz : p.sz i ≠ 0) : p.at_ i < w.heap.size := by
  rcases h.blk i row hi with ⟨h0, _⟩ | ⟨_, hb⟩
  · exact absurd h0 hz
  · obtain ⟨cs, ty, fr, h1, _⟩ := hb.ex
    exact (Array.getElem?_eq_some_iff.1 h1).1

theorem BlkAt.mono {N N' : Nat} {p p' : Pl} {w w' : World} {b z : Nat} {row : List AC} (h : BlkAt X N p w b z row) (hn : N ≤ N') (he : Ext N p p') (hw : w'.heap[b]? = w.heap[b]?) : BlkAt X N' p' w' b z row := by
  obtain ⟨cs, ty, fr, h1, h2, h3, h4, h5⟩ := h.ex
  exact ⟨⟨cs, ty, fr, by rw [hw]; exact h1, h2, h3, h4, fun j c u g1 g2 => (h5 j c u g1 g2).mono hn he⟩⟩

theorem MR.alloc {w w' : World} (h : MR X p m w) {cs : List AC} {l : List Value} {ty : TypeId} {fr : Nat × Nat} (hfr : fr.1 = fr.2 ∨ l.length ≤ fr.1)
    (hc : cs.length ≤ l.length) (hv : ∀ (j : Nat) (c : AC) (u : Value), cs[j]? = some c → l[j]? = some u → VR X m.length p c u)
    (ho : w'.os = w.os) (ht : w'.tape = w.tape) (hu : w'.output = w.output) (hh : w'.heap = w.heap.push (.cells l.toArray ty fr)) :
    MR X (p.put m.length w.heap.size l.length) (m ++ [some cs]) w' := by
  have hold : ∀ b, b < w.heap.size → w'.heap[b]? = w.heap[b]? := fun b hb => by rw [hh, Array.getElem?_push]; rw [if_neg (by omega)]
  have hN : (m ++ [some cs]).length = m.length + 1 := by simp
  have hcase : ∀ (i : Nat) (row : List AC), (m ++ [some cs])[i]? = some (some row) → (i < m.length ∧ m[i]? = some (some row)) ∨ (i = m.length ∧ row = cs) := by
    intro i row hi
    rcases Nat.lt_or_ge i m.length with hlt | hge
    · rw [List.getElem?_append_left hlt] at hi; exact .inl ⟨hlt, hi⟩
    · rw [List.getElem?_append_right hge] at hi
      rcases Nat.eq_or_lt_of_le hge with e | hlt
      · subst e; simp at hi; exact .inr ⟨rfl, hi.symm⟩
      · rw [List.getElem?_eq_none (by simp; omega)] at hi; cases hi
  have hat : ∀ i, i < m.length → (p.put m.length w.heap.size l.length).at_ i = p.at_ i ∧ (p.put m.length w.heap.size l.length).sz i = p.sz i := fun i hi => Ext.put p _ _ _ i hi
  have hatN : (p.put m.length w.heap.size l.length).at_ m.length = w.heap.size ∧ (p.put m.length w.heap.size l.length).sz m.length = l.length := by simp [Pl.put]
  refine ⟨ho.trans h.os, ht.trans h.tape, hu.trans h.output, ?_, ?_, ?_, ?_, ?_⟩
  · rw [hh, Array.size_push]; have := h.size; omega
  · intro b hb
    have := h.size
    rw [hold b (by have := hb.1; omega)]
    exact h.keep b hb
  · intro i row hi
    rcases hcase i row hi with ⟨hlt, hi⟩ | ⟨rfl, rfl⟩
    · rw [(hat i hlt).1, (hat i hlt).2]
      rcases h.blk i row hi with h0 | ⟨hz, hb⟩
      · exact .inl h0
      · refine .inr ⟨hz, hb.mono (by omega) (Ext.put p _ _ _) (hold _ (h.live hi hz))⟩
    · rw [hatN.1, hatN.2]
      by_cases hz : l.length = 0
      · exact .inl ⟨hz, List.length_eq_zero_iff.1 (by omega)⟩
      · refine .inr ⟨hz, ⟨l.toArray, ty, fr, by rw [hh]; simp, by simp, hc, hfr, fun j c u g1 g2 => ?_⟩⟩
        exact (hv j c u g1 (by simpa using g2)).mono (by omega) (Ext.put p _ _ _)
  · intro i row hi hz
    rcases hcase i row hi with ⟨hlt, hi⟩ | ⟨rfl, rfl⟩
    · rw [(hat i hlt).1]; rw [(hat i hlt).2] at hz; exact h.new i row hi hz
    · rw [hatN.1]; intro hold; have := hold.1; have := h.size; omega
  · intro i j r s hi hj hzi hzj e
    rcases hcase i r hi with ⟨hlt, hi1⟩ | ⟨e1, _⟩ <;> rcases hcase j s hj with ⟨hlt', hj1⟩ | ⟨e2, _⟩
    · rw [(hat i hlt).1, (hat j hlt').1] at e; rw [(hat i hlt).2] at hzi; rw [(hat j hlt').2] at hzj
      exact h.inj i j r s hi1 hj1 hzi hzj e
    · rw [e2] at e; rw [(hat i hlt).1, hatN.1] at e; rw [(hat i hlt).2] at hzi
      have := h.live hi1 hzi; omega
    · rw [e1] at e; rw [(hat j hlt').1, hatN.1] at e; rw [(hat j hlt').2] at hzj
      have := h.live hj1 hzj; omega
    · rw [e1, e2]

theorem lay_lt {α : Type} (l : List α) (o : Nat) (cs : List α) (h : o + cs.length ≤ l.length) {i : Nat} (hi : i < o) : (lay l o cs)[i]? = l[i]? := by
  unfold lay
  rw [List.append_assoc, List.getElem?_append_left (by simp; omega), List.getElem?_take_of_lt hi]

theorem lay_mid {α : Type} (l : List α) (o : Nat) (cs : List α) (h : o + cs.length ≤ l.length) {i : Nat} (hi : o ≤ i) (hi2 : i < o + cs.length) : (lay l o cs)[i]? = cs[i - o]? := by
  have t : (l.take o).length = o := by simp; omega
  unfold lay
  rw [List.append_assoc, List.getElem?_append_right (by omega), t, List.getElem?_append_left (by omega)]

theorem lay_ge {α : Type} (l : List α) (o : Nat) (cs : List α) (h : o + cs.length ≤ l.length) {i : Nat} (hi : o + cs.length ≤ i) : (lay l o cs)[i]? = l[i]? := by
  have t : (l.take o).length = o := by simp; omega
  unfold lay
  rw [List.append_assoc, List.getElem?_append_right (by omega), t, List.getElem?_append_right (by omega), List.getElem?_drop]
  congr 1
  omega

/-- cells stored one by one into a block that is not frozen -/
theorem run_storeCells {P : Program} (b o : Nat) (ty : TypeId) (fr : Nat × Nat) : ∀ (l : List Value) (k : Nat) (w : World) (cs : Array Value), w.heap[b]? = some (.cells cs ty fr) →
    (∀ o, o < cs.size → ¬ (fr.1 ≤ o ∧ o < fr.2)) → (∀ u ∈ l, u.oneCell' = true) → o + k + l.length ≤ cs.size →
    ∃ w', (storeCells ⟨b, o, none⟩ l k).run P w = .ok () w' ∧ w'.os = w.os ∧ w'.tape = w.tape ∧ w'.output = w.output ∧ w'.heap.size = w.heap.size ∧
      w'.heap[b]? = some (.cells (lay cs.toList (o + k) l).toArray ty fr) ∧ ∀ c, c ≠ b → w'.heap[c]? = w.heap[c]?
  | [], k, w, cs, hb, _, _, _ => ⟨w, rfl, rfl, rfl, rfl, rfl, by simp [lay, hb], fun _ _ => rfl⟩
  | v :: l, k, w, cs, hb, hf, h1, hk => by
    have hlt : o + k < cs.size := by simp at hk; omega
    have hcell : w.cell? ⟨b, o + k, none⟩ = some cs[o + k] := by simp [World.cell?, hb, hlt]
    have hfro : w.frozen? ⟨b, o + k, none⟩ = false := by
      have := hf (o + k) hlt
      simp only [World.frozen?, hb]
      rw [Bool.eq_false_iff]
      intro h
      simp at h
      exact this h
    have hst : (store ⟨b, o + k, none⟩ v).run P w = .ok () (w.setCell ⟨b, o + k, none⟩ v) := by
      rw [run_store P w _ v _ (h1 v (by simp)), hcell]
      simp [hfro]
    have hb2 : (w.setCell ⟨b, o + k, none⟩ v).heap[b]? = some (.cells (cs.setIfInBounds (o + k) v) ty fr) := by
      simp [World.setCell, Array.getElem?_modify, hb]
    obtain ⟨w', g1, g2, g3, g4, g5, g6, g7⟩ := run_storeCells b o ty fr l (k + 1) (w.setCell ⟨b, o + k, none⟩ v) _ hb2 (by simpa using hf) (fun u hu => h1 u (by simp [hu])) (by simp at hk ⊢; omega)
    refine ⟨w', ?_, g2, g3, g4, by rw [g5]; simp [World.setCell], ?_, fun c hc => by rw [g7 c hc]; simp [World.setCell, Array.getElem?_modify]; intro e; exact absurd e.symm hc⟩
    · unfold storeCells
      rw [Sem.run_bind, Addr.add_lit, hst]
      exact g1
    · rw [g6]
      congr 3
      rw [Array.toList_setIfInBounds]
      apply List.ext_getElem?
      intro i
      have hlen : cs.toList.length = cs.size := by simp
      have hl1 : o + (k + 1) + l.length ≤ (cs.toList.set (o + k) v).length := by simp at hk ⊢; omega
      have hl2 : o + k + (v :: l).length ≤ cs.toList.length := by rw [hlen]; exact hk
      rcases Nat.lt_or_ge i (o + k) with hi | hi
      · rw [lay_lt _ _ _ hl1 (by omega), lay_lt _ _ _ hl2 hi, List.getElem?_set_ne (by omega)]
      · rcases Nat.eq_or_lt_of_le hi with e | hi2
        · subst e
          rw [lay_lt _ _ _ hl1 (by omega), lay_mid _ _ _ hl2 (by omega) (by simp), List.getElem?_set_self (by omega)]
          simp
        · rcases Nat.lt_or_ge i (o + k + 1 + l.length) with hd | hd
          · rw [lay_mid _ _ _ hl1 (by omega) (by omega), lay_mid _ _ _ hl2 (by omega) (by simp; omega), show i - (o + k) = (i - (o + (k + 1))) + 1 by omega, List.getElem?_cons_succ]
          · rw [lay_ge _ _ _ hl1 (by omega), lay_ge _ _ _ hl2 (by simp; omega), List.getElem?_set_ne (by omega)]

theorem MR.write {w w' : World} (h : MR X p m w) {i : Nat} {row row' : List AC} (hi : m[i]? = some (some row)) (hz : p.sz i ≠ 0) (hlen : row'.length ≤ p.sz i)
    (ho : w'.os = w.os) (ht : w'.tape = w.tape) (hu : w'.output = w.output) (hs : w'.heap.size = w.heap.size) (hother : ∀ c, c ≠ p.at_ i → w'.heap[c]? = w.heap[c]?)
    (hb : BlkAt X m.length p w' (p.at_ i) (p.sz i) row') : MR X p (m.set i (some row')) w' := by
  have hN : (m.set i (some row')).length = m.length := by simp
  have hilt := (List.getElem?_eq_some_iff.1 hi).1
  have hcase : ∀ (j : Nat) (r : List AC), (m.set i (some row'))[j]? = some (some r) → (j = i ∧ r = row') ∨ (j ≠ i ∧ m[j]? = some (some r)) := by
    intro j r hj
    rw [List.getElem?_set] at hj
    by_cases e : i = j
    · subst e; rw [if_pos rfl, if_pos hilt] at hj; injection hj with hj; injection hj with hj; exact .inl ⟨rfl, hj.symm⟩
    · rw [if_neg e] at hj; exact .inr ⟨fun e' => e e'.symm, hj⟩
  refine ⟨ho.trans h.os, ht.trans h.tape, hu.trans h.output, by rw [hs]; exact h.size, ?_, ?_, ?_, ?_⟩
  · intro b hb'
    have hne : b ≠ p.at_ i := fun e => h.new i row hi hz (e ▸ hb')
    rw [hother b hne]; exact h.keep b hb'
  · intro j r hj
    rw [hN]
    rcases hcase j r hj with ⟨rfl, rfl⟩ | ⟨hne, hj⟩
    · exact .inr ⟨hz, hb⟩
    · rcases h.blk j r hj with h0 | ⟨hzj, hbj⟩
      · exact .inl h0
      · exact .inr ⟨hzj, hbj.mono (Nat.le_refl _) (.refl _ _) (hother _ (fun e => hne (h.inj j i r row hj hi hzj hz e)))⟩
  · intro j r hj hzj
    rcases hcase j r hj with ⟨rfl, rfl⟩ | ⟨hne, hj⟩
    · exact h.new j row hi hzj
    · exact h.new j r hj hzj
  · intro j k r s hj hk hzj hzk e
    rcases hcase j r hj with ⟨e1, _⟩ | ⟨_, hj1⟩ <;> rcases hcase k s hk with ⟨e2, _⟩ | ⟨_, hk1⟩
    · rw [e1, e2]
    · subst e1; exact h.inj _ _ _ _ hi hk1 hzj hzk e
    · subst e2; exact h.inj _ _ _ _ hj1 hi hzj hzk e
    · exact h.inj _ _ _ _ hj1 hk1 hzj hzk e

/-- cells laid into a tracked block: the stores go through, and the memory is as it should be -/
theorem MR.stores {w : World} (h : MR X p m w) {i : Nat} {row cs : List AC} (hi : m[i]? = some (some row)) {l : List Value} (hl : VL X m.length p cs l) (o : Nat) (hb : o + cs.length ≤ row.length) :
    ∃ w', (storeCells ⟨p.at_ i, o, none⟩ l).run X.P w = .ok () w' ∧ MR X p (m.set i (some (lay row o cs))) w' := by
  have h1 : ∀ u ∈ l, u.oneCell' = true := by
    intro u hu
    obtain ⟨j, hj⟩ := List.getElem?_of_mem hu
    have hlt : j < cs.length := by have := (List.getElem?_eq_some_iff.1 hj).1; have := hl.1; omega
    exact (hl.2 j _ u (List.getElem?_eq_getElem hlt) hj).oneCell
  rcases h.blk i row hi with ⟨hz, rfl⟩ | ⟨hz, hblk⟩
  · have hc : cs = [] := List.length_eq_zero_iff.1 (by rw [List.length_nil] at hb; omega)
    have hl0 : l = [] := List.length_eq_zero_iff.1 (by have := hl.1; rw [hc] at this; simp at this; omega)
    subst hc; subst hl0
    refine ⟨w, rfl, ?_⟩
    have : m.set i (some (lay [] o [])) = m := by
      apply List.ext_getElem?
      intro j
      rw [List.getElem?_set]
      split
      · rename_i e; subst e; rw [hi]; simp [lay]; exact (List.getElem?_eq_some_iff.1 hi).1
      · rfl
    rw [this]; exact h
  · obtain ⟨vs, ty, fr, g1, g2, g3, g4, g5⟩ := hblk.ex
    have hlen := hl.1
    obtain ⟨w', k1, k2, k3, k4, k5, k6, k7⟩ := run_storeCells (P := X.P) (p.at_ i) o ty fr l 0 w vs g1 (by rw [g2]; exact frz g4) h1 (by omega)
    refine ⟨w', k1, h.write hi hz (by rw [lay_length _ _ _ hb]; exact g3) k2 k3 k4 k5 k7 ⟨_, ty, fr, k6, ?_, by rw [lay_length _ _ _ hb]; exact g3, g4, ?_⟩⟩
    · rw [Nat.add_zero]; simp; rw [lay_length _ _ _ (by simp; omega)]; simpa using g2
    · intro j c u hj hu
      have hlt : j < row.length := by have := (List.getElem?_eq_some_iff.1 hj).1; rwa [lay_length _ _ _ hb] at this
      have hvl : VL X m.length p row (vs.toList.take row.length) := ⟨by simp; omega, fun j c u a1 a2 => by
        have : j < row.length := (List.getElem?_eq_some_iff.1 a1).1
        rw [List.getElem?_take_of_lt this] at a2
        exact g5 j c u a1 (by simpa using a2)⟩
      have := (VL_lay hvl hl o hb).2 j c u hj
      apply this
      rw [Nat.add_zero] at hu
      simp only [List.getElem?_toArray] at hu
      have hl1 : o + l.length ≤ vs.toList.length := by simp; omega
      have hl2 : o + l.length ≤ (vs.toList.take row.length).length := by simp; omega
      rcases Nat.lt_or_ge j o with a | a
      · rw [lay_lt _ _ _ hl1 a] at hu
        rw [lay_lt _ _ _ hl2 a, List.getElem?_take_of_lt hlt]; exact hu
      · rcases Nat.lt_or_ge j (o + l.length) with b | b
        · rw [lay_mid _ _ _ hl1 a b] at hu
          rw [lay_mid _ _ _ hl2 a b]; exact hu
        · rw [lay_ge _ _ _ hl1 b] at hu
          rw [lay_ge _ _ _ hl2 b, List.getElem?_take_of_lt hlt]; exact hu
end
end DH
