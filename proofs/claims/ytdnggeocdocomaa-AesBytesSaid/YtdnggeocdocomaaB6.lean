/- The layer: operations that build, store and slice, and that the machine follows. -/
import Derived.Test.YtdnggeocdocomaaB5
set_option linter.unusedVariables false
set_option linter.unusedSimpArgs false
namespace DH
open Go

section
variable {X : Ctx} {m : Mem} {p : Pl}

/-! What a slice holds -/

def wS (c : Option (List Prop)) (cells : List AC) (n : Nat) : Option (List Prop × List AC × Nat) :=
  match c with
  | some cs => some (cs, cells, n)
  | none => none

theorem wS_eq {c : Option (List Prop)} {cells cells' : List AC} {n n' : Nat} {cs : List Prop} (h : wS c cells n = some (cs, cells', n')) : c = some cs ∧ cells = cells' ∧ n = n' := by
  unfold wS at h
  split at h
  · simp only [Option.some.injEq, Prod.mk.injEq] at h; obtain ⟨rfl, rfl, rfl⟩ := h; exact ⟨rfl, rfl, rfl⟩
  · cases h

def ckLen (lit : Bool) (o n : Nat) (row : List AC) : Option (List Prop) := ck lit (Nat.ble (o + n) (lenF row)) (o + n ≤ row.length)

theorem ckLen_ok {lit : Bool} {o n : Nat} {row : List AC} {cs : List Prop} (h : ckLen lit o n row = some cs) (hc : AllC cs) : o + n ≤ row.length :=
  ck_ok h (fun hb => by have := Nat.le_of_ble_eq_true hb; rwa [lenF_eq] at this) hc

def srcC (lit : Bool) (m : Mem) (e : Nat) (x : AC) : Option (List Prop × List AC × Nat) :=
  match x with
  | .xs row o n => wS (ckLen lit o (n * e) row) ((row.drop o).take (n * e)) n
  | .sv i o n => (match gt none m i with | some row => wS (ckLen lit o (n * e) row) ((row.drop o).take (n * e)) n | none => none)
  | .gs i n _ => (match gt none m i with | some row => wS (ckLen lit 0 (n * e) row) ((row.drop 0).take (n * e)) n | none => none)
  | .ns => some ([], [], 0)
  | .s a => if Nat.beq e 1 then some ([], a.map .u8, a.length) else none
  | _ => none

theorem VL_take {N : Nat} {cs : List AC} {l : List Value} (h : VL X N p cs l) (n : Nat) : VL X N p (cs.take n) (l.take n) :=
  ⟨by simp [h.1], fun j c u h1 h2 => by
    have hj : j < n := by have := (List.getElem?_eq_some_iff.1 h1).1; simp at this; omega
    rw [List.getElem?_take_of_lt hj] at h1 h2
    exact h.2 j c u h1 h2⟩

theorem srcC_ok {wb : World} (hb : MR X p m wb) {lit : Bool} {e : Nat} {x : AC} {cs : List Prop} {cells : List AC} {n : Nat} (h : srcC lit m e x = some (cs, cells, n)) (hc : AllC cs) {v : Value} (hx : VR X m.length p x v) :
    (∀ w, (Builtin.lenOf v).run X.P w = .ok n w) ∧ cells.length = n * e ∧ ∀ k, k ≤ n → ∃ l, VL X m.length p (cells.take (k * e)) l ∧ ∀ w, MRw X p m wb w → (Builtin.firstCells e k v).run X.P w = .ok l.toArray w := by
  have rows : ∀ {row : List AC} {b k0 o n c : Nat}, RowAt X p m wb row b k0 → o + n * e ≤ row.length → ∀ k, k ≤ n →
      ∃ l, VL X m.length p (((row.drop o).take (n * e)).take (k * e)) l ∧ ∀ w, MRw X p m wb w → (Builtin.firstCells e k (.slice (some ⟨b, k0 + o, none⟩) n c)).run X.P w = .ok l.toArray w := by
    intro row b k0 o n c hr ho k hk
    have hle : k * e ≤ n * e := Nat.mul_le_mul_right e hk
    obtain ⟨l, h1, h2, h3⟩ := hr.cells o (k * e) (by omega)
    refine ⟨l, ?_, fun w hw => by simpa [Builtin.firstCells] using h3 w hw⟩
    rw [List.take_take, Nat.min_eq_left hle]
    exact h2
  have empty : ∀ (a : Option Addr) (c k : Nat), k ≤ 0 → ∀ cl : List AC, ∃ l, VL X m.length p ((cl.take (0 * e)).take (k * e)) l ∧ ∀ w, MRw X p m wb w → (Builtin.firstCells e k (.slice a 0 c)).run X.P w = .ok l.toArray w := by
    intro a c k hk cl
    obtain rfl : k = 0 := by omega
    refine ⟨[], by simp [VL], fun w _ => ?_⟩
    cases a with
    | none => rfl
    | some a => simp only [Builtin.firstCells, Nat.zero_mul]; rfl
  unfold srcC at h
  split at h
  · rename_i row o n'
    obtain ⟨hwk, rfl, rfl⟩ := wS_eq h
    have ho := ckLen_ok hwk hc
    cases hx with
    | xs _ _ _ c b k0 b' o' g p0 hb' hr hv hcn =>
      refine ⟨fun w => rfl, by simp; omega, fun k hk => ?_⟩
      rcases hb' with h0 | ⟨hbk, rfl, rfl⟩
      · subst h0; exact empty _ _ _ hk _
      · rcases hr with h0 | hr
        · subst h0; exact empty _ _ _ hk _
        · exact rows (RowAt.old hbk hr hv) ho k hk
    | xsn => exact ⟨fun w => rfl, by simp, fun k hk => empty _ _ _ hk _⟩
    | xs0 => exact ⟨fun w => rfl, by simp, fun k hk => empty _ _ _ hk _⟩
  · rename_i i o n'
    split at h
    · rename_i row hrow
      obtain ⟨hwk, rfl, rfl⟩ := wS_eq h
      have ho := ckLen_ok hwk hc
      cases hx with
      | sv _ _ _ c b o' hcn hor =>
        refine ⟨fun w => rfl, by simp; omega, fun k hk => ?_⟩
        rcases hor with h0 | ⟨_, rfl, rfl⟩
        · subst h0; exact empty _ _ _ hk _
        · have := rows (c := c) (RowAt.own hb (gt_mem hrow)) ho k hk
          simpa using this
      | svn => exact ⟨fun w => rfl, by simp, fun k hk => empty _ _ _ hk _⟩
    · cases h
  · rename_i i n' e'
    split at h
    · rename_i row hrow
      obtain ⟨hwk, rfl, rfl⟩ := wS_eq h
      have ho := ckLen_ok hwk hc
      cases hx with
      | gs _ _ _ c hlt hcn hz =>
        refine ⟨fun w => rfl, by simp; omega, fun k hk => ?_⟩
        have := rows (c := c) (RowAt.own hb (gt_mem hrow)) ho k hk
        simpa using this
      | gsn => exact ⟨fun w => rfl, by simp, fun k hk => empty _ _ _ hk _⟩
    · cases h
  · simp only [Option.some.injEq, Prod.mk.injEq] at h
    obtain ⟨rfl, rfl, rfl⟩ := h
    cases hx
    exact ⟨fun w => rfl, by simp, fun k hk => by simpa using empty none 0 k hk []⟩
  · rename_i a
    split at h
    · rename_i he
      have he := beq_true he
      subst he
      simp only [Option.some.injEq, Prod.mk.injEq] at h
      obtain ⟨rfl, rfl, rfl⟩ := h
      cases hx with
      | s _ s hs =>
        have hlen : a.length = s.size := by rw [← hs]; simp
        refine ⟨fun w => by rw [hlen]; rfl, by simp, fun k hk => ?_⟩
        refine ⟨((s.extract 0 k).data.map fun b => (.int .u8 b.toNat : Value)).toList, ⟨?_, fun j c u hj hu => ?_⟩, fun w _ => ?_⟩
        · rw [Array.toList_map]
          simp only [List.length_take, List.length_map, Nat.mul_one]
          rw [ByteArray.data_extract]
          simp [hlen]
        · rw [Array.toList_map, List.getElem?_map, ByteArray.data_extract, Array.toList_extract] at hu
          simp only [List.extract, Nat.sub_zero, List.drop_zero, Nat.mul_one] at hu hj
          have hjk : j < k := by have := (List.getElem?_eq_some_iff.1 hj).1; simp at this; omega
          rw [List.getElem?_take_of_lt hjk] at hu hj
          rw [← hs, List.map_map, List.getElem?_map] at hj
          cases hd : s.data.toList[j]? with
          | none => rw [hd] at hj; cases hj
          | some b =>
            rw [hd] at hj hu
            simp only [Option.map_some, Option.some.injEq, Function.comp] at hj hu
            subst hj; subst hu
            exact .u8 _
        · simp [Builtin.firstCells]
          apply Array.ext'
          simp
    · cases h
  · cases h

/-! Blocks that come and go -/

theorem MR.kill {w w' : World} (h : MR X p m w) (i : Nat) (ho : w'.os = w.os) (ht : w'.tape = w.tape) (hu : w'.output = w.output) (hs : w.heap.size ≤ w'.heap.size)
    (hother : ∀ c, c < w.heap.size → (∀ row, m[i]? = some (some row) → p.sz i ≠ 0 → c ≠ p.at_ i) → w'.heap[c]? = w.heap[c]?) : MR X p (m.set i none) w' := by
  have hN : (m.set i none).length = m.length := by simp
  have hcase : ∀ (j : Nat) (r : List AC), (m.set i none)[j]? = some (some r) → j ≠ i ∧ m[j]? = some (some r) := by
    intro j r hj
    rw [List.getElem?_set] at hj
    by_cases e : i = j
    · subst e; rw [if_pos rfl] at hj; split at hj <;> cases hj
    · rw [if_neg e] at hj; exact ⟨fun e' => e e'.symm, hj⟩
  refine ⟨ho.trans h.os, ht.trans h.tape, hu.trans h.output, Nat.le_trans h.size hs, ?_, ?_, ?_, ?_⟩
  · intro b hb
    rw [hother b (by have := hb.1; have := h.size; omega) (fun row hi hz e => h.new i row hi hz (e ▸ hb))]
    exact h.keep b hb
  · intro j r hj
    rw [hN]
    obtain ⟨hne, hj⟩ := hcase j r hj
    rcases h.blk j r hj with h0 | ⟨hzj, hbj⟩
    · exact .inl h0
    · exact .inr ⟨hzj, hbj.mono (Nat.le_refl _) (.refl _ _) (hother _ (h.live hj hzj) (fun row hi hz e => hne (h.inj j i r row hj hi hzj hz e)))⟩
  · intro j r hj hzj
    exact h.new j r (hcase j r hj).2 hzj
  · intro j k r s hj hk hzj hzk e
    exact h.inj _ _ _ _ (hcase j r hj).2 (hcase k s hk).2 hzj hzk e

theorem MR.snoc {w : World} (h : MR X p m w) {b z : Nat} {row : List AC} (hz : z ≠ 0) (hb : BlkAt X m.length p w b z row) (hnew : ¬ X.old b)
    (hdis : ∀ i r, m[i]? = some (some r) → p.sz i ≠ 0 → p.at_ i ≠ b) : MR X (p.put m.length b z) (m ++ [some row]) w := by
  have hN : (m ++ [some row]).length = m.length + 1 := by simp
  have hcase : ∀ (i : Nat) (r : List AC), (m ++ [some row])[i]? = some (some r) → (i < m.length ∧ m[i]? = some (some r)) ∨ (i = m.length ∧ r = row) := by
    intro i r hi
    rcases Nat.lt_or_ge i m.length with hlt | hge
    · rw [List.getElem?_append_left hlt] at hi; exact .inl ⟨hlt, hi⟩
    · rw [List.getElem?_append_right hge] at hi
      rcases Nat.eq_or_lt_of_le hge with e | hlt
      · subst e; simp at hi; exact .inr ⟨rfl, hi.symm⟩
      · rw [List.getElem?_eq_none (by simp; omega)] at hi; cases hi
  have hat : ∀ i, i < m.length → (p.put m.length b z).at_ i = p.at_ i ∧ (p.put m.length b z).sz i = p.sz i := fun i hi => Ext.put p _ _ _ i hi
  have hatN : (p.put m.length b z).at_ m.length = b ∧ (p.put m.length b z).sz m.length = z := by simp [Pl.put]
  refine ⟨h.os, h.tape, h.output, h.size, h.keep, ?_, ?_, ?_⟩
  · intro i r hi
    rw [hN]
    rcases hcase i r hi with ⟨hlt, hi⟩ | ⟨e1, e2⟩
    · rw [(hat i hlt).1, (hat i hlt).2]
      rcases h.blk i r hi with h0 | ⟨hzi, hbi⟩
      · exact .inl h0
      · exact .inr ⟨hzi, hbi.mono (by omega) (Ext.put p _ _ _) rfl⟩
    · rw [e1, e2, hatN.1, hatN.2]
      exact .inr ⟨hz, hb.mono (by omega) (Ext.put p _ _ _) rfl⟩
  · intro i r hi hzi
    rcases hcase i r hi with ⟨hlt, hi⟩ | ⟨e1, e2⟩
    · rw [(hat i hlt).1]; rw [(hat i hlt).2] at hzi; exact h.new i r hi hzi
    · rw [e1, hatN.1]; exact hnew
  · intro i j r s hi hj hzi hzj e
    rcases hcase i r hi with ⟨hlt, hi1⟩ | ⟨e1, _⟩ <;> rcases hcase j s hj with ⟨hlt', hj1⟩ | ⟨e2, _⟩
    · rw [(hat i hlt).1, (hat j hlt').1] at e; rw [(hat i hlt).2] at hzi; rw [(hat j hlt').2] at hzj
      exact h.inj i j r s hi1 hj1 hzi hzj e
    · rw [e2] at e; rw [(hat i hlt).1, hatN.1] at e; rw [(hat i hlt).2] at hzi
      exact absurd e (hdis i r hi1 hzi)
    · rw [e1] at e; rw [(hat j hlt').1, hatN.1] at e; rw [(hat j hlt').2] at hzj
      exact absurd e.symm (hdis j s hj1 hzj)
    · rw [e1, e2]

theorem MR.snoc0 {w : World} (h : MR X p m w) (b : Nat) : MR X (p.put m.length b 0) (m ++ [some []]) w := by
  have hN : (m ++ [some ([] : List AC)]).length = m.length + 1 := by simp
  have hcase : ∀ (i : Nat) (r : List AC), (m ++ [some []])[i]? = some (some r) → (i < m.length ∧ m[i]? = some (some r)) ∨ (i = m.length ∧ r = []) := by
    intro i r hi
    rcases Nat.lt_or_ge i m.length with hlt | hge
    · rw [List.getElem?_append_left hlt] at hi; exact .inl ⟨hlt, hi⟩
    · rw [List.getElem?_append_right hge] at hi
      rcases Nat.eq_or_lt_of_le hge with e | hlt
      · subst e; simp at hi; exact .inr ⟨rfl, by simpa using hi⟩
      · rw [List.getElem?_eq_none (by simp; omega)] at hi; cases hi
  have hat : ∀ i, i < m.length → (p.put m.length b 0).at_ i = p.at_ i ∧ (p.put m.length b 0).sz i = p.sz i := fun i hi => Ext.put p _ _ _ i hi
  have hatN : (p.put m.length b 0).sz m.length = 0 := by simp [Pl.put]
  refine ⟨h.os, h.tape, h.output, h.size, h.keep, ?_, ?_, ?_⟩
  · intro i r hi
    rw [hN]
    rcases hcase i r hi with ⟨hlt, hi⟩ | ⟨e1, e2⟩
    · rw [(hat i hlt).1, (hat i hlt).2]
      rcases h.blk i r hi with h0 | ⟨hzi, hbi⟩
      · exact .inl h0
      · exact .inr ⟨hzi, hbi.mono (by omega) (Ext.put p _ _ _) rfl⟩
    · rw [e1, e2]; exact .inl ⟨hatN, rfl⟩
  · intro i r hi hzi
    rcases hcase i r hi with ⟨hlt, hi⟩ | ⟨e1, e2⟩
    · rw [(hat i hlt).1]; rw [(hat i hlt).2] at hzi; exact h.new i r hi hzi
    · rw [e1] at hzi; exact absurd hatN hzi
  · intro i j r s hi hj hzi hzj e
    rcases hcase i r hi with ⟨hlt, hi1⟩ | ⟨e1, _⟩ <;> rcases hcase j s hj with ⟨hlt', hj1⟩ | ⟨e2, _⟩
    · rw [(hat i hlt).1, (hat j hlt').1] at e; rw [(hat i hlt).2] at hzi; rw [(hat j hlt').2] at hzj
      exact h.inj i j r s hi1 hj1 hzi hzj e
    · rw [e2] at hzj; exact absurd hatN hzj
    · rw [e1] at hzi; exact absurd hatN hzi
    · rw [e1, e2]
end
end DH
