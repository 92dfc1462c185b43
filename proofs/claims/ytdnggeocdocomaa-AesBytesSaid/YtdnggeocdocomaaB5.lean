/- The layer: operations that build, store and slice, and that the machine follows. -/
import Derived.Test.YtdnggeocdocomaaB4
set_option linter.unusedVariables false
set_option linter.unusedSimpArgs false
namespace DH
open Go

abbrev RE := Option (List Prop × AV × Mem)

section
variable {X : Ctx} {m : Mem}

/-- what an operation that may turn memory does -/
def EOk (X : Ctx) (m : Mem) (s : Sem Value) (p : Pl) (w : World) (v : AV) (m' : Mem) : Prop :=
  ∃ p' u w', s.run X.P w = .ok u w' ∧ Ext m.length p p' ∧ m.length ≤ m'.length ∧ VA X m'.length p' v u ∧ MR X p' m' w'

/-- and nothing else is turned -/
def EOkG (X : Ctx) (m : Mem) (s : Sem Value) (p : Pl) (w : World) (v : AV) (m' : Mem) : Prop :=
  ∃ p' u w', s.run X.P w = .ok u w' ∧ Ext m.length p p' ∧ m.length ≤ m'.length ∧ VA X m'.length p' v u ∧ MR X p' m' w' ∧ Grow w w'

theorem alloc_grow (w : World) (o : Obj) : Grow w (w.alloc o) := by
  refine ⟨rfl, rfl, rfl, ?_, fun b hb => ?_⟩
  · show _ ≤ (w.heap.push o).size
    simp
  · show (w.heap.push o)[b]? = _
    rw [Array.getElem?_push, if_neg (by omega)]

theorem VR.ptr_new (p : Pl) (N b z : Nat) : VR X (N + 1) (p.put N b z) (.ptr N 0) (.pointer (some ⟨b, 0, none⟩)) := by
  have h := VR.ptr (X := X) (N := N + 1) (p := p.put N b z) N 0 (by omega)
  have this : (p.put N b z).at_ N = b := by simp [Pl.put]
  rw [this] at h
  exact h

theorem VR.gs_new (p : Pl) (N b n e c z : Nat) (hc : n ≤ c) (hz : c * e ≤ z) : VR X (N + 1) (p.put N b z) (.gs N n e) (.slice (some ⟨b, 0, none⟩) n c) := by
  have h := VR.gs (X := X) (N := N + 1) (p := p.put N b z) N n e c (by omega) hc (by simp [Pl.put]; exact hz)
  have : (p.put N b z).at_ N = b := by simp [Pl.put]
  rw [this] at h
  exact h

/-- a new block whose cells are all known -/
theorem EOk.new {p : Pl} {w : World} (h : MR X p m w) {cs : List AC} {l : List Value} (hl : VL X m.length p cs l) (ty : TypeId) :
    MR X (p.put m.length w.heap.size l.length) (m ++ [some cs]) (w.alloc (.cells l.toArray ty)) :=
  h.alloc (fr := (0, 0)) (.inl rfl) (by rw [hl.1]; exact Nat.le_refl _) hl.2 rfl rfl rfl rfl

/-! alloc, box, store -/

def evAlloc (E : Env) (m : Mem) (e : TypeId) : RE :=
  if known E e then snocF m (some (E.ti e).zero) fun m' => some ([], .one (.ptr (lenF m) 0), m') else none

theorem evAlloc_ok {E : Env} (hE : EnvOk X.P E) {e : TypeId} {cs : List Prop} {v : AV} {m' : Mem} (h : evAlloc E m e = some (cs, v, m')) {p : Pl} {w : World} (hm : MR X p m w) :
    EOkG X m (Instr.alloc e true (.tuple #[])) p w v m' := by
  unfold evAlloc at h
  split at h
  · rename_i hk
    rw [snocF_eq, lenF_eq] at h
    simp only [Option.some.injEq, Prod.mk.injEq] at h
    obtain ⟨rfl, rfl, rfl⟩ := h
    obtain ⟨z, hz1, hz2⟩ := zero_ok (known_ok hE hk)
    refine ⟨p.put m.length w.heap.size z.cells.toList.length, .pointer (some ⟨w.heap.size, 0, none⟩), w.alloc (.cells z.cells.toList.toArray e), ?_, .put _ _ _ _, by simp, ?_, EOk.new hm (hz2 X m.length p) e, alloc_grow _ _⟩
    · simp only [Instr.alloc, Sem.run_bind, hz1, Result.andThen_ok, newVar, newRow, run_newObj, Sem.run_pure]
      rfl
    · rw [List.length_append]
      exact .one _ _ (VR.ptr_new _ _ _ _)
  · cases h

def evBox (m : Mem) (x : AV) : RE :=
  match cellsOf x with
  | some cs => snocF m (some cs) fun m' => some ([], .one (.ptr (lenF m) 0), m')
  | none => none

theorem evBox_ok {x : AV} {cs : List Prop} {v : AV} {m' : Mem} (h : evBox m x = some (cs, v, m')) {p : Pl} {w : World} (hm : MR X p m w) {vx : Value} (hx : VA X m.length p x vx) (e : TypeId) :
    EOkG X m (Instr.box e vx) p w v m' := by
  unfold evBox at h
  split at h
  · rename_i cs' hcs
    rw [snocF_eq, lenF_eq] at h
    simp only [Option.some.injEq, Prod.mk.injEq] at h
    obtain ⟨rfl, rfl, rfl⟩ := h
    have hl := cellsOf_ok hcs hx
    refine ⟨p.put m.length w.heap.size vx.cells.toList.length, .pointer (some ⟨w.heap.size, 0, none⟩), w.alloc (.cells vx.cells.toList.toArray e), ?_, .put _ _ _ _, by simp, ?_, EOk.new hm hl e, alloc_grow _ _⟩
    · simp only [Instr.box, Sem.run_bind, Result.andThen_ok, newVar, newRow, run_newObj, Sem.run_pure]
      rfl
    · rw [List.length_append]
      exact .one _ _ (VR.ptr_new _ _ _ _)
  · cases h

/-- cells over those of a row: one cell is set -/
def layS (row : List AC) (o : Nat) (cs : List AC) : List AC :=
  match cs with
  | [c] => row.set o c
  | _ => lay row o cs

theorem layS_eq {row : List AC} {o : Nat} {cs : List AC} (h : o + cs.length ≤ row.length) : layS row o cs = lay row o cs := by
  unfold layS
  split
  · rename_i c
    unfold lay
    simp at h
    rw [List.set_eq_take_append_cons_drop, if_pos (by omega)]
    simp
  · rfl

def evStore (E : Env) (m : Mem) (ty : TypeId) (x v : AV) : RE :=
  match x with
  | .one (.ptr i o) =>
    match gt none m i, E.esz ty, cellsOf v with
    | some row, some s, some cs =>
      (match E.sym ty with
      | false => if Nat.beq (lenF cs) s && Nat.ble (o + s) (lenF row) then layF row o cs fun row' => setF m i (some row') fun m' => some ([], .any, m') else none
      | true => some ([cs.length = s ∧ o + s ≤ row.length], .any, m.set i (some (layS row o cs))))
    | _, _, _ => none
  | _ => none

theorem evStore_ok {E : Env} (hE : EnvOk X.P E) {ty : TypeId} {x v : AV} {cs : List Prop} {r : AV} {m' : Mem} (h : evStore E m ty x v = some (cs, r, m')) (hc : AllC cs) {p : Pl} {w : World} (hm : MR X p m w) {vx vv : Value}
    (hx : VA X m.length p x vx) (hv : VA X m.length p v vv) : ∃ w', (Instr.storeAt ty vx vv).run X.P w = .ok () w' ∧ m'.length = m.length ∧ MR X p m' w' ∧ r = .any := by
  unfold evStore at h
  split at h
  · rename_i i o
    split at h
    · rename_i row s cs' hrow hs hcs
      obtain ⟨ht, hsz, h1⟩ := esz_ok hE hs
      obtain ⟨hlt, rfl⟩ := hx.one_inv.ptr_inv
      have hl := cellsOf_ok hcs hv
      have hall : cs'.length = s ∧ o + s ≤ row.length ∧ m' = m.set i (some (lay row o cs')) ∧ r = .any := by
        split at h
        · split at h
          · rename_i hb
            rw [Bool.and_eq_true] at hb
            have hb1 := beq_true hb.1
            have hb2 := Nat.le_of_ble_eq_true hb.2
            rw [lenF_eq] at hb1 hb2
            rw [layF_eq, setF_eq] at h
            simp only [Option.some.injEq, Prod.mk.injEq] at h
            obtain ⟨rfl, rfl, rfl⟩ := h
            exact ⟨hb1, hb2, rfl, rfl⟩
          · cases h
        · simp only [Option.some.injEq, Prod.mk.injEq] at h
          obtain ⟨rfl, rfl, rfl⟩ := h
          have := hc.1
          exact ⟨this.1, this.2, by rw [layS_eq (by omega)], rfl⟩
      obtain ⟨e1, e2, rfl, rfl⟩ := hall
      obtain ⟨w', g1, g2⟩ := hm.stores (gt_mem hrow) hl o (by omega)
      refine ⟨w', ?_, by simp, g2, rfl⟩
      have hsize : vv.cells.size = s := by have := hl.1; simp at this; omega
      simp only [Instr.storeAt, Instr.sureAddr, storeVar, Sem.run_bind, Sem.run_pure, Result.andThen_ok, ht.szrun]
      rw [if_neg (by rw [hsize, hsz]; simp)]
      exact g1
    · cases h
  · cases h

/-! slices that are made -/

def zeros (z : List AC) (n : Nat) : List AC := (List.replicate n z).flatten

theorem zeros_length (z : List AC) (n : Nat) : (zeros z n).length = n * z.length := by simp [zeros, List.length_flatten]

theorem zero_cells (z : Array Value) (s n : Nat) (hs : z.size = s) (h1 : 1 ≤ s) : ((Array.range (n * s)).map fun i => z[i % z.size]!) = (List.replicate n z.toList).flatten.toArray := by
  apply Array.ext'
  rw [Array.toList_map, Array.toList_range]
  show _ = (List.replicate n z.toList).flatten
  induction n with
  | zero => simp
  | succ n ih =>
    rw [List.replicate_succ', List.flatten_append, ← ih, Nat.add_mul, Nat.one_mul, List.range_add, List.map_append]
    congr 1
    simp only [List.flatten_cons, List.flatten_nil, List.append_nil, List.map_map]
    apply List.ext_getElem?
    intro i
    rw [List.getElem?_map]
    rcases Nat.lt_or_ge i s with hi | hi
    · rw [List.getElem?_range hi]
      have e : (n * s + i) % s = i := by rw [Nat.mul_comm, Nat.mul_add_mod, Nat.mod_eq_of_lt hi]
      have hi' : i < z.size := by omega
      simp only [Function.comp, Option.map_some, hs, e]
      rw [getElem!_pos z i hi', Array.getElem?_toList, Array.getElem?_eq_getElem hi']
    · rw [List.getElem?_eq_none (by simpa using hi), List.getElem?_eq_none (by simp; omega)]
      rfl

theorem VL_zeros {N : Nat} {p : Pl} {z : List AC} {l : List Value} (h : VL X N p z l) : ∀ n, VL X N p (zeros z n) (List.replicate n l).flatten
  | 0 => by simp [zeros, VL]
  | n + 1 => by
    have ih := VL_zeros h n
    unfold zeros at *
    rw [List.replicate_succ, List.replicate_succ, List.flatten_cons, List.flatten_cons]
    refine ⟨by simp [h.1, ih.1], fun j c u hj hu => ?_⟩
    rcases Nat.lt_or_ge j z.length with a | a
    · rw [List.getElem?_append_left a] at hj
      rw [List.getElem?_append_left (by rw [← h.1]; exact a)] at hu
      exact h.2 j c u hj hu
    · rw [List.getElem?_append_right a] at hj
      rw [List.getElem?_append_right (by rw [← h.1]; exact a), ← h.1] at hu
      exact ih.2 _ c u hj hu

/-- a literal of a slice: its cells laid over zeros -/
def evBuildSlice (E : Env) (t : List AV) (m : Mem) (ty : TypeId) (len : Nat) (parts : List (Nat × Operand)) : RE :=
  match (E.ti ty).d with
  | .slice e =>
    match E.esz e with
    | some s =>
      if Nat.beq (lenF (E.ti e).zero) s && Nat.ble (len * s) 16777216 then
        fillF E ⟨.array len e, 0, 0, [], true, false⟩ t parts (zeros (E.ti e).zero len) fun cs => snocF m (some cs) fun m' => some ([], .one (.gs (lenF m) len s), m')
      else none
    | none => none
  | _ => none

theorem evBuildSlice_ok {E : Env} (hE : EnvOk X.P E) {t : List AV} {ty : TypeId} {len : Nat} {parts : List (Nat × Operand)} {cs : List Prop} {v : AV} {m' : Mem}
    (h : evBuildSlice E t m ty len parts = some (cs, v, m')) {p : Pl} {w : World} (hm : MR X p m w) {ev : Operand → Value} (hev : ∀ x, VA X m.length p (getO t x) (ev x)) :
    EOkG X m (Instr.buildSlice ty len (parts.map fun (i, x) => (i, ev x)).toArray) p w v m' := by
  unfold evBuildSlice at h
  split at h
  · rename_i e hd
    have hu := und_slice (d_ok hE hd (by simp)) hd
    split at h
    · rename_i s hs
      obtain ⟨he, hsz, h1⟩ := esz_ok hE hs
      split at h
      · rename_i hb
        rw [Bool.and_eq_true] at hb
        have hb1 := beq_true hb.1
        have hb2 := Nat.le_of_ble_eq_true hb.2
        rw [lenF_eq] at hb1
        obtain ⟨qs, r, hf, hq, hk⟩ := fillF_eq h
        rw [snocF_eq, lenF_eq] at hk
        simp only [Option.some.injEq, Prod.mk.injEq] at hk
        obtain ⟨rfl, rfl, rfl⟩ := hk
        obtain ⟨z, hz1, hz2⟩ := zero_ok he
        have hzs : z.cells.size = s := by have := (hz2 X m.length p).1; simp at this; omega
        have hpl : ∀ i off s', place E ⟨.array len e, 0, 0, [], true, false⟩ i = some (off, s') → (fun i => some (i * s, s)) i = some (off, s') := by
          intro i off s' hp
          simp only [place, hs] at hp
          exact hp
        obtain ⟨l', g1, g2⟩ := fill_ok (pl := fun i => some (i * s, s)) hpl hev hf hq (VL_zeros (hz2 X m.length p) len)
        have hrun : ∀ w, (Go.sizeOf e).run X.P w = .ok s w := fun w => by rw [hsz]; exact he.szrun w
        have hlen : l'.length = len * s := by
          have hfl : ∀ (ps : List (Nat × Operand)) (cs : List AC) (qs : List Prop) (r : List AC), fillS E ⟨.array len e, 0, 0, [], true, false⟩ t ps cs = some (qs, r) → AllC qs → r.length = cs.length := by
            intro ps
            induction ps with
            | nil => intro cs qs r h _; simp only [fillS, Option.some.injEq, Prod.mk.injEq] at h; rw [h.2]
            | cons q ps ih =>
              intro cs qs r h hq
              obtain ⟨i, x⟩ := q
              unfold fillS at h
              split at h
              · split at h
                · rename_i h3
                  simp only [Option.some.injEq, Prod.mk.injEq] at h
                  obtain ⟨rfl, rfl⟩ := h
                  rw [ih _ _ _ h3 hq.2, lay_length _ _ _ (by have := hq.1; omega)]
                · cases h
              · cases h
          have := hfl _ _ _ _ hf hq
          rw [← g2.1, this, zeros_length, hb1]
        refine ⟨p.put m.length w.heap.size l'.length, .slice (some ⟨w.heap.size, 0, none⟩) len len, w.alloc (.cells l'.toArray e), ?_, .put _ _ _ _, by simp, ?_, EOk.new hm g2 e, alloc_grow _ _⟩
        · have hno : ¬ (len * s > 2 ^ 24) := by omega
          simp only [Instr.buildSlice, Sem.run_bind, run_underlying hu, Result.andThen_ok, hrun, hno, if_false]
          by_cases h0 : len * s = 0
          · have hl0 : len = 0 := by rcases Nat.mul_eq_zero.1 h0 with h | h <;> omega
            subst hl0
            simp only [Nat.zero_mul, if_true, Sem.run_pure, Sem.run_bind, Result.andThen_ok]
            simp only [List.replicate_zero, List.flatten_nil] at g1
            rw [show (Array.map (fun x => (#[] : Array Value)[x % (#[] : Array Value).size]!) (Array.range 0)) = ([] : List Value).toArray by simp, g1]
            simp only [newRow, Sem.run_bind, run_newObj, Result.andThen_ok, Sem.run_pure]
            rfl
          · simp only [h0, if_false, Sem.run_bind, hz1, Result.andThen_ok, Sem.run_pure]
            rw [zero_cells z.cells s len hzs h1, g1]
            simp only [newRow, Sem.run_bind, run_newObj, Result.andThen_ok, Sem.run_pure]
            rfl
        · rw [List.length_append]
          exact .one _ _ (VR.gs_new _ _ _ _ _ _ _ (Nat.le_refl _) (by rw [hlen]; exact Nat.le_refl _))
      · cases h
    · cases h
  · cases h
end
end DH
