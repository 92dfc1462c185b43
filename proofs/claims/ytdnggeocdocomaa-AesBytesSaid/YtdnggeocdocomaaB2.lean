/- The layer: operations that build, store and slice, and that the machine follows. -/
import Derived.Test.YtdnggeocdocomaaB1
set_option linter.unusedVariables false
set_option linter.unusedSimpArgs false
namespace DH
open Go

section
variable {X : Ctx} {p : Pl} {m : Mem} {wb : World}

def cellsOf : AV → Option (List AC)
  | .one c => some [c]
  | .agg cs => some cs
  | _ => none

theorem cellsOf_ok {N : Nat} {x : AV} {cs : List AC} (h : cellsOf x = some cs) {v : Value} (hx : VA X N p x v) : VL X N p cs v.cells.toList := by
  unfold cellsOf at h
  split at h
  · injection h with h; subst h
    have hv := hx.one_inv
    have : v.cells = #[v] := by
      have := hv.oneCell
      cases v <;> first | rfl | cases this
    rw [this]
    exact ⟨rfl, fun j c u h1 h2 => by
      cases j with
      | zero => simp at h1 h2; subst h1; subst h2; exact hv
      | succ j => simp at h1⟩
  · injection h with h; subst h
    cases hx with
    | agg _ l hl => simpa [Value.cells] using hl
  · cases h

/-! struct and array literals -/

def place (E : Env) (ti : TI) (i : Nat) : Option (Nat × Nat) :=
  match ti.d with
  | .struct fs => (match fs[i]? with | some (off, ft) => (match E.esz ft with | some s => some (off, s) | none => none) | none => none)
  | .array _ e => (match E.esz e with | some s => some (i * s, s) | none => none)
  | _ => none

/-- parts laid into cells; all are where they should be -/
def fillF {β : Type} (E : Env) (ti : TI) (t : List AV) : List (Nat × Operand) → List AC → (List AC → Option β) → Option β
  | [], cs, k => k cs
  | (i, x) :: rest, cs, k =>
    match place E ti i, cellsOf (getO t x) with
    | some (off, s), some vs => if Nat.beq (lenF vs) s && Nat.ble (off + s) (lenF cs) then layF cs off vs fun cs' => fillF E ti t rest cs' k else none
    | _, _ => none

/-- the same without laying out: what is asked is told -/
def fillS (E : Env) (ti : TI) (t : List AV) : List (Nat × Operand) → List AC → Option (List Prop × List AC)
  | [], cs => some ([], cs)
  | (i, x) :: rest, cs =>
    match place E ti i, cellsOf (getO t x) with
    | some (off, s), some vs => (match fillS E ti t rest (lay cs off vs) with | some (ps, r) => some ((vs.length = s ∧ off + s ≤ cs.length) :: ps, r) | none => none)
    | _, _ => none

def isAggD : TD → Bool
  | .struct _ => true
  | .array _ _ => true
  | _ => false

def evBuild (E : Env) (t : List AV) (ty : TypeId) (parts : List (Nat × Operand)) : RV :=
  match isAggD (E.ti ty).d, E.sym ty with
  | true, false => fillF E (E.ti ty) t parts (E.ti ty).zero fun cs => some ([], .agg cs)
  | true, true => (match fillS E (E.ti ty) t parts (E.ti ty).zero with | some (ps, cs) => some (ps, .agg cs) | none => none)
  | false, _ => none

theorem lay_length {α : Type} (l : List α) (o : Nat) (cs : List α) (h : o + cs.length ≤ l.length) : (lay l o cs).length = l.length := by
  simp [lay]; omega

theorem fillF_eq {β : Type} {E : Env} {ti : TI} {t : List AV} : ∀ {ps : List (Nat × Operand)} {cs : List AC} {k : List AC → Option β} {r : β}, fillF E ti t ps cs k = some r →
    ∃ qs cs', fillS E ti t ps cs = some (qs, cs') ∧ AllC qs ∧ k cs' = some r
  | [], cs, k, r, h => ⟨[], cs, rfl, trivial, h⟩
  | (i, x) :: rest, cs, k, r, h => by
    unfold fillF at h
    split at h
    · rename_i off s vs h1 h2
      split at h
      · rename_i hb
        rw [Bool.and_eq_true] at hb
        have hb1 := beq_true hb.1
        have hb2 := Nat.le_of_ble_eq_true hb.2
        rw [lenF_eq] at hb1 hb2
        rw [layF_eq] at h
        obtain ⟨qs, cs', g1, g2, g3⟩ := fillF_eq h
        refine ⟨(vs.length = s ∧ off + s ≤ cs.length) :: qs, cs', ?_, And.intro ⟨hb1, hb2⟩ g2, g3⟩
        unfold fillS
        simp only [h1, h2, g1]
      · cases h
    · cases h

/-- cells over those from off on -/
theorem foldl_set (vs : List Value) : ∀ (cs : Array Value) (off k : Nat), (vs.zipIdx k).foldl (fun cs (c, j) => cs.setIfInBounds (off + j) c) cs = ⟨(List.range cs.size).map fun i => if off + k ≤ i ∧ i < off + k + vs.length then vs.getD (i - off - k) undef else cs.getD i undef⟩ := by
  induction vs with
  | nil =>
    intro cs off k
    apply Array.ext'
    apply List.ext_getElem?
    intro i
    simp only [List.zipIdx_nil, List.foldl_nil, List.getElem?_map]
    rcases Nat.lt_or_ge i cs.size with h | h
    · have : ¬ (off + k ≤ i ∧ i < off + k) := by omega
      simp [h, this]
    · simp [h]
  | cons v vs ih =>
    intro cs off k
    rw [List.zipIdx_cons, List.foldl_cons, ih]
    apply Array.ext'
    apply List.ext_getElem?
    intro i
    simp only [List.getElem?_map, Array.size_setIfInBounds]
    rcases Nat.lt_or_ge i cs.size with h | h
    · simp only [List.getElem?_range h, Option.map_some, Option.some.injEq, List.length_cons]
      by_cases h1 : off + k = i
      · subst h1
        have h2 : ¬ (off + (k + 1) ≤ off + k ∧ off + k < off + (k + 1) + vs.length) := by omega
        have h3 : off + k ≤ off + k ∧ off + k < off + k + (vs.length + 1) := by omega
        rw [if_neg h2, if_pos h3]
        simp [Array.getD, h]
      · by_cases h2 : off + k ≤ i ∧ i < off + k + (vs.length + 1)
        · have h3 : off + (k + 1) ≤ i ∧ i < off + (k + 1) + vs.length := by omega
          rw [if_pos h2, if_pos h3]
          obtain ⟨d, hd⟩ : ∃ d, i - off - k = d + 1 := ⟨i - off - k - 1, by omega⟩
          rw [hd, show i - off - (k + 1) = d by omega]
          simp
        · have h3 : ¬ (off + (k + 1) ≤ i ∧ i < off + (k + 1) + vs.length) := by omega
          rw [if_neg h2, if_neg h3]
          simp [Array.getD, h, h1]
    · simp [h]

theorem VL_lay {N : Nat} {cs vs : List AC} {l r : List Value} (h1 : VL X N p cs l) (h2 : VL X N p vs r) (off : Nat) (hb : off + vs.length ≤ cs.length) : VL X N p (lay cs off vs) (lay l off r) := by
  refine ⟨by simp [lay, h1.1, h2.1], fun j c u hj hu => ?_⟩
  unfold lay at hj hu
  have e1 := h1.1
  have e2 := h2.1
  rcases Nat.lt_or_ge j off with h | h
  · rw [List.append_assoc, List.getElem?_append_left (by simp; omega), List.getElem?_take_of_lt h] at hj hu
    exact h1.2 j c u hj hu
  · rcases Nat.lt_or_ge j (off + vs.length) with h' | h'
    · rw [List.append_assoc, List.getElem?_append_right (by simp; omega), List.getElem?_append_left (by simp; omega)] at hj
      rw [List.append_assoc, List.getElem?_append_right (by simp; omega), List.getElem?_append_left (by simp; omega)] at hu
      have t1 : (cs.take off).length = off := by simp; omega
      have t2 : (l.take off).length = off := by simp; omega
      rw [t1] at hj
      rw [t2] at hu
      exact h2.2 _ c u hj hu
    · rw [List.append_assoc, List.getElem?_append_right (by simp; omega), List.getElem?_append_right (by simp; omega), List.getElem?_drop] at hj
      rw [List.append_assoc, List.getElem?_append_right (by simp; omega), List.getElem?_append_right (by simp; omega), List.getElem?_drop] at hu
      have t1 : (cs.take off).length = off := by simp; omega
      have t2 : (l.take off).length = off := by simp; omega
      rw [t1] at hj
      rw [t2] at hu
      rw [show off + vs.length + (j - off - vs.length) = j by omega] at hj
      rw [show off + r.length + (j - off - r.length) = j by omega] at hu
      exact h1.2 j c u hj hu

theorem foldl_lay (l r : List Value) (off : Nat) (hb : off + r.length ≤ l.length) : (r.zipIdx).foldl (fun (cs : Array Value) (c, j) => cs.setIfInBounds (off + j) c) l.toArray = (lay l off r).toArray := by
  have := foldl_set r l.toArray off 0
  rw [this]
  apply Array.ext'
  apply List.ext_getElem?
  intro i
  simp only [List.getElem?_map, List.size_toArray, Nat.add_zero, Nat.sub_zero]
  unfold lay
  rcases Nat.lt_or_ge i l.length with h | h
  · rw [List.getElem?_range h]
    simp only [Option.map_some]
    rcases Nat.lt_or_ge i off with h1 | h1
    · rw [if_neg (by omega), List.append_assoc, List.getElem?_append_left (by simp; omega), List.getElem?_take_of_lt h1, List.getElem?_eq_getElem h]
      simp [h]
    · rcases Nat.lt_or_ge i (off + r.length) with h2 | h2
      · have t1 : (l.take off).length = off := by simp; omega
        rw [if_pos ⟨h1, h2⟩, List.append_assoc, List.getElem?_append_right (by omega), List.getElem?_append_left (by omega), t1, List.getElem?_eq_getElem (by omega)]
        simp [show i - off < r.length by omega]
      · have t1 : (l.take off).length = off := by simp; omega
        rw [if_neg (by omega), List.append_assoc, List.getElem?_append_right (by omega), List.getElem?_append_right (by omega), List.getElem?_drop, t1,
          show off + r.length + (i - off - r.length) = i by omega, List.getElem?_eq_getElem h]
        simp [h]
  · simp [h]
    omega

theorem fill_ok {N : Nat} {E : Env} {ti : TI} {t : List AV} {ev : Operand → Value} {pl : Nat → Option (Nat × Nat)} (hpl : ∀ i off s, place E ti i = some (off, s) → pl i = some (off, s))
    (hev : ∀ x, VA X N p (getO t x) (ev x)) : ∀ {ps : List (Nat × Operand)} {cs : List AC} {qs : List Prop} {r : List AC} {l : List Value}, fillS E ti t ps cs = some (qs, r) → AllC qs → VL X N p cs l →
    ∃ l', Instr.fill pl l.toArray (ps.map fun (i, x) => (i, ev x)) = some l'.toArray ∧ VL X N p r l'
  | [], cs, qs, r, l, h, _, hl => by
    simp only [fillS, Option.some.injEq, Prod.mk.injEq] at h
    obtain ⟨rfl, rfl⟩ := h
    exact ⟨l, rfl, hl⟩
  | (i, x) :: rest, cs, qs, r, l, h, hq, hl => by
    unfold fillS at h
    split at h
    · rename_i off s vs h1 h2
      split at h
      · rename_i ps' r' h3
        simp only [Option.some.injEq, Prod.mk.injEq] at h
        obtain ⟨rfl, rfl⟩ := h
        obtain ⟨⟨q1, q2⟩, hq⟩ := hq
        have hc := cellsOf_ok h2 (hev x)
        have e1 : vs.length = (ev x).cells.size := by have := hc.1; simpa using this
        have e2 := hl.1
        obtain ⟨l', g1, g2⟩ := fill_ok hpl hev h3 hq (VL_lay hl hc off (by omega))
        refine ⟨l', ?_, g2⟩
        simp only [List.map_cons, Instr.fill, hpl i off s h1]
        rw [if_neg (by simp; omega)]
        have := foldl_lay l (ev x).cells.toList off (by simp; omega)
        rw [← g1, ← this]
        congr 1
        rw [← Array.foldl_toList]
        simp
      · cases h
    · cases h

theorem zero_ok {P : Program} {t : TypeId} {ti : TI} (h : TyOk P t ti) : ∃ z, (∀ w, (zeroValue t).run P w = .ok z w) ∧ ∀ (X : Ctx) (N : Nat) (p : Pl), VL X N p ti.zero z.cells.toList := by
  obtain ⟨i, h1, _, _, z, h2, h3⟩ := h.info
  exact ⟨z, fun w => by simp [zeroValue, typeInfo, h1, h2], h3⟩

theorem mapM_run {P : Program} {α β : Type} (f : α → Sem β) (g : α → β) (hf : ∀ x w, (f x).run P w = .ok (g x) w) : ∀ (l : List α) (w : World), (l.mapM f).run P w = .ok (l.map g) w
  | [], w => by simp
  | x :: l, w => by simp [List.mapM_cons, hf, mapM_run f g hf l]

theorem sizeOf_some {P : Program} {t : TypeId} (h : (P.info? t).isSome = true) (w : World) : (Go.sizeOf t).run P w = .ok (P.cellsOf t) w := by
  obtain ⟨i, hi⟩ := Option.isSome_iff_exists.1 h
  simp [Go.sizeOf, typeInfo, hi, Program.cellsOf]

theorem sz_cellsOf {P : Program} {t : TypeId} {ti : TI} (h : TyOk P t ti) : P.cellsOf t = ti.sz := by
  obtain ⟨i, h1, h2, _⟩ := h.info
  simp [Program.cellsOf, h1, h2]

theorem evBuild_ok {E : Env} (hE : EnvOk X.P E) {t : List AV} {ty : TypeId} {parts : List (Nat × Operand)} {cs : List Prop} {v : AV} (h : evBuild E t ty parts = some (cs, v)) (hc : AllC cs) {ev : Operand → Value}
    (hev : ∀ x, VA X m.length p (getO t x) (ev x)) : G1 X p m wb (Instr.build ty (parts.map fun (i, x) => (i, ev x)).toArray) v := by
  have hS : ∃ qs r, isAggD (E.ti ty).d = true ∧ fillS E (E.ti ty) t parts (E.ti ty).zero = some (qs, r) ∧ AllC qs ∧ v = .agg r := by
    unfold evBuild at h
    split at h
    · rename_i ha _
      obtain ⟨qs, r, h1, h2, h3⟩ := fillF_eq h
      simp only [Option.some.injEq, Prod.mk.injEq] at h3
      exact ⟨qs, r, ha, h1, h2, h3.2.symm⟩
    · rename_i ha _
      split at h
      · rename_i ps r hs
        simp only [Option.some.injEq, Prod.mk.injEq] at h
        obtain ⟨rfl, rfl⟩ := h
        exact ⟨_, _, ha, hs, hc, rfl⟩
      · cases h
    · cases h
  obtain ⟨qs, r, ha, hf, hq, rfl⟩ := hS
  have ht : TyOk X.P ty (E.ti ty) := d_ok hE rfl (by intro h0; rw [h0] at ha; cases ha)
  obtain ⟨z, hz1, hz2⟩ := zero_ok ht
  obtain ⟨d, hu, hd⟩ := ht.und
  have hparts := ht.parts d hu
  cases htd : (E.ti ty).d <;> rw [htd] at ha hd <;> first | cases ha; done | skip
  · rename_i n e
    cases d <;> simp only [tdOk] at hd
    obtain ⟨rfl, rfl⟩ := hd
    rename_i n e
    have he := hparts.2 n e rfl
    have hpl : ∀ i off s, place E (E.ti ty) i = some (off, s) → (fun i => some (i * X.P.cellsOf e, X.P.cellsOf e)) i = some (off, s) := by
      intro i off s hp
      unfold place at hp
      rw [htd] at hp
      dsimp only at hp
      split at hp
      · rename_i s' hs
        obtain ⟨g1, g2, _⟩ := esz_ok hE hs
        simp only [Option.some.injEq, Prod.mk.injEq] at hp
        obtain ⟨rfl, rfl⟩ := hp
        rw [sz_cellsOf g1, ← g2]
      · cases hp
    obtain ⟨l', g1, g2⟩ := fill_ok (pl := fun i => some (i * X.P.cellsOf e, X.P.cellsOf e)) hpl hev hf hq (hz2 X m.length p)
    refine ⟨.agg l'.toArray, .agg _ _ g2, fun w _ => ?_⟩
    simp only [Instr.build, Sem.run_bind, hz1, run_underlying hu, Result.andThen_ok, sizeOf_some he]
    rw [show z.cells = z.cells.toList.toArray by simp, g1]
    rfl
  · rename_i fs
    cases d <;> simp only [tdOk] at hd
    rename_i gs
    have hg := hparts.1 gs rfl
    have hpl : ∀ i off s, place E (E.ti ty) i = some (off, s) → (fun i => (gs.map fun g => (g.offset, X.P.cellsOf g.type))[i]?) i = some (off, s) := by
      intro i off s hp
      unfold place at hp
      rw [htd] at hp
      dsimp only at hp
      split at hp
      · rename_i off' ft hfs
        split at hp
        · rename_i s' hs
          obtain ⟨g1, g2, _⟩ := esz_ok hE hs
          simp only [Option.some.injEq, Prod.mk.injEq] at hp
          obtain ⟨rfl, rfl⟩ := hp
          obtain ⟨g, hgi, rfl, rfl⟩ := hd.2 i _ _ hfs
          simp [hgi, sz_cellsOf g1, ← g2]
        · cases hp
      · cases hp
    obtain ⟨l', g1, g2⟩ := fill_ok (pl := fun i => (gs.map fun g => (g.offset, X.P.cellsOf g.type))[i]?) hpl hev hf hq (hz2 X m.length p)
    refine ⟨.agg l'.toArray, .agg _ _ g2, fun w _ => ?_⟩
    have hmap : ∀ w, (gs.mapM fun f => do pure (f.offset, ← Go.sizeOf f.type) : Sem (Array (Nat × Nat))).run X.P w = .ok (gs.map fun g => (g.offset, X.P.cellsOf g.type)) w := by
      intro w
      rw [Array.mapM_eq_mapM_toList]
      have : ∀ (l : List Field), (∀ g ∈ l, (X.P.info? g.type).isSome = true) → ∀ w, (l.mapM fun f => do pure (f.offset, ← Go.sizeOf f.type) : Sem (List (Nat × Nat))).run X.P w = .ok (l.map fun g => (g.offset, X.P.cellsOf g.type)) w := by
        intro l
        induction l with
        | nil => intro _ w; simp
        | cons g l ih =>
          intro hl w
          rw [List.mapM_cons]
          simp only [Sem.run_bind, sizeOf_some (hl g (by simp)), Result.andThen_ok, Sem.run_pure, ih (fun g hg => hl g (by simp [hg])), List.map_cons]
      rw [Sem.run_map, this gs.toList hg w, Result.andThen_ok]
      congr 1
      apply Array.ext'
      simp
    simp only [Instr.build, Sem.run_bind, hz1, run_underlying hu, Result.andThen_ok, hmap]
    rw [show z.cells = z.cells.toList.toArray by simp, g1]
    rfl
end
end DH
