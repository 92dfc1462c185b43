/- Walks of functions, each by evaluation: what each returns; with the layer beneath. -/
import Derived.Test.YtkkaclgamhpalaaLA
import Derived.MapKept
import Derived.Laws.IdiomRangeMap
import Derived.Maps.RangeRun
import Derived.Deep.AppendSrc
import Derived.Laws.BytesArg
import Derived.Laws.MakeOwn
set_option linter.unusedVariables false
set_option linter.unusedSimpArgs false
namespace DH
open Go

section
variable {X : Ctx} {p : Pl} {m : Mem} {wb : World}

/-! parts of aggregates -/

/-- a part of type t of cells, from off on -/
theorem part_ok {N : Nat} {t : TypeId} {ti : TI} (ht : match ti.d with | .other => True | _ => TyOk X.P t ti) {sym : Bool} {row : List AC} {off : Nat} {cs : List Prop} {v : AV}
    (h : rd sym ti row off = some (cs, v)) (hc : AllC cs) {l : List Value} (hl : VL X N p row l) : ∃ u, VA X N p v u ∧ ∀ w, (part t l.toArray off).run X.P w = .ok u w := by
  have hd : TyOk X.P t ti := by
    unfold rd at h
    split at h
    · cases h
    · rename_i hne; revert ht; cases hd : ti.d <;> simp_all
  have h' : rdT sym ti row off = some (cs, v) := by
    unfold rd at h
    split at h
    · cases h
    · exact h
  have hagg : ti.agg = true → ∀ w, (part t l.toArray off).run X.P w = .ok (.agg ((l.drop off).take ti.sz).toArray) w := by
    intro ha w
    unfold part
    rw [Sem.run_bind, hd.isAgg]
    simp only [Result.andThen_ok, ha, if_true, Sem.run_bind, hd.szrun, Sem.run_pure]
    congr 2
    apply Array.ext'
    rw [Array.toList_extract]
    simp [List.extract]
  have hone : ti.agg = false → ∀ u, l[off]? = some u → ∀ w, (part t l.toArray off).run X.P w = .ok u w := by
    intro ha u hu w
    unfold part
    rw [Sem.run_bind, hd.isAgg]
    simp [ha, hu]
  have hcell : ∀ {o : Nat} {c : AC}, row[o]? = some c → ∃ u, l[o]? = some u ∧ VR X N p c u := by
    intro o c ho
    have hlt : o < l.length := by have := (List.getElem?_eq_some_iff.1 ho).1; have := hl.1; omega
    exact ⟨_, List.getElem?_eq_getElem hlt, hl.2 o c _ ho (List.getElem?_eq_getElem hlt)⟩
  have hsub : ∀ n, VL X N p ((row.drop off).take n) ((l.drop off).take n) := by
    intro n
    refine ⟨by simp [hl.1], fun j c u h1 h2 => ?_⟩
    have hj : j < n := by have := (List.getElem?_eq_some_iff.1 h1).1; simp at this; omega
    rw [List.getElem?_take_of_lt hj, List.getElem?_drop] at h1 h2
    exact hl.2 _ c u h1 h2
  unfold rdT at h'
  split at h'
  · rename_i ha
    split at h'
    · split at h'
      · simp only [Option.some.injEq, Prod.mk.injEq] at h'
        obtain ⟨rfl, rfl⟩ := h'
        exact ⟨_, .agg _ _ (hsub _), hagg ha⟩
      · split at h'
        · rename_i ps cs' hs
          split at h'
          · rename_i hb
            simp only [Option.some.injEq, Prod.mk.injEq] at h'
            obtain ⟨rfl, rfl⟩ := h'
            rw [Bool.and_eq_true] at hb
            have hpos := Nat.le_of_ble_eq_true hb.2
            have hb := beq_true hb.1
            rw [lenF_eq] at hb
            obtain ⟨g1, g2⟩ := shaped_ok (X := X) (N := N) (p := p) hs hc
            have hlen : off + ti.sz ≤ row.length := by
              have hlt : ti.sz - 1 < cs'.length := by omega
              have h3 := List.getElem?_eq_getElem hlt
              have h4 := gt_some (g2 _ _ h3) (shaped_ne hs _ _ h3)
              have := (List.getElem?_eq_some_iff.1 h4).1
              omega
            refine ⟨_, .agg _ ((l.drop off).take ti.sz) ⟨by have := hl.1; simp; omega, fun j c u hj hu => ?_⟩, hagg ha⟩
            have h4 := gt_some (g2 j c hj) (shaped_ne hs j c hj)
            have hjl : j < ti.sz := by have := (List.getElem?_eq_some_iff.1 hj).1; omega
            exact (hsub ti.sz).2 j c u (by rw [List.getElem?_take_of_lt hjl, List.getElem?_drop]; exact h4) hu
          · cases h'
        · cases h'
    · rw [takeF_eq, dropF_eq] at h'
      split at h'
      · simp only [Option.some.injEq, Prod.mk.injEq] at h'
        obtain ⟨rfl, rfl⟩ := h'
        exact ⟨_, .agg _ _ (hsub _), hagg ha⟩
      · cases h'
  · rename_i ha
    have ha : ti.agg = false := by simpa using ha
    split at h'
    · split at h'
      · split at h'
        · rename_i c hty
          simp only [Option.some.injEq, Prod.mk.injEq] at h'
          obtain ⟨rfl, rfl⟩ := h'
          obtain ⟨u, h1, h2⟩ := hcell (gt_some hc.1 (typed_ne hty))
          exact ⟨u, .one _ _ h2, hone ha u h1⟩
        · cases h'
      · cases h'
    · split at h'
      · rename_i c hrd
        simp only [Option.some.injEq, Prod.mk.injEq] at h'
        obtain ⟨rfl, rfl⟩ := h'
        have := rdC_eq hrd
        obtain ⟨u, h1, h2⟩ := hcell (gt_some this.symm (by rintro rfl; rw [← this] at hrd; cases hrd))
        exact ⟨u, .one _ _ h2, hone ha u h1⟩
      · cases h'

def evField (E : Env) (ty : TypeId) (x : AV) (f : Nat) : RV :=
  match (E.ti ty).d with
  | .struct fs =>
    match fs[f]?, x with
    | some (off, ft), .agg cs => rd (E.sym ft) (E.ti ft) cs off
    | _, _ => none
  | _ => none

theorem evField_ok {E : Env} (hE : EnvOk X.P E) {ty : TypeId} {x : AV} {f : Nat} {cs : List Prop} {v : AV} (h : evField E ty x f = some (cs, v)) (hc : AllC cs) {vx : Value}
    (hx : VA X m.length p x vx) : G1 X p m wb (Instr.field ty vx f) v := by
  unfold evField at h
  split at h
  · rename_i fs hd
    obtain ⟨gs, hu, hl, hf⟩ := und_struct (d_ok hE hd (by simp)) hd
    split at h
    · rename_i off ft row hfs
      obtain ⟨g, hg, rfl, rfl⟩ := hf _ _ _ hfs
      cases hx with
      | agg _ l hl =>
      obtain ⟨u, h1, h2⟩ := part_ok (hE.ti g.type) h hc hl
      exact ⟨u, h1, fun w _ => by simp [Instr.field, run_underlying hu, hg, asAgg, h2]⟩
    · cases h
  · cases h

def evIndex (E : Env) (ty : TypeId) (x ix : AV) : RV :=
  match ix with
  | .one ic =>
    match ixI ic with
    | some i =>
      match (E.ti ty).d, x with
      | .array n e, .agg cs =>
        (match E.esz e, ckIx E ic i n with
        | some s, some c1 => (match rd (E.sym e) (E.ti e) cs (i.toNat * s) with | some (c2, v) => some (c1 ++ c2, v) | none => none)
        | _, _ => none)
      | .str, .one (.s a) => w1 (ckIx E ic i a.length) (.u8 (gt 0 a i.toNat))
      | _, _ => none
    | none => none
  | _ => none

theorem AllC_app {a b : List Prop} : AllC (a ++ b) ↔ AllC a ∧ AllC b := by
  induction a with
  | nil => simp [AllC]
  | cons c a ih => simp [AllC, ih, and_assoc]

theorem evIndex_ok {E : Env} (hE : EnvOk X.P E) {ty : TypeId} {x ix : AV} {cs : List Prop} {v : AV} (h : evIndex E ty x ix = some (cs, v)) (hc : AllC cs) {vx vi : Value}
    (hx : VA X m.length p x vx) (hi : VA X m.length p ix vi) : G1 X p m wb (Instr.index ty vx vi) v := by
  unfold evIndex at h
  split at h
  · rename_i ic
    split at h
    · rename_i i hii
      obtain ⟨k, rfl⟩ := ixI_ok hii hi.one_inv
      split at h
      · rename_i n e row hd
        have hu := und_arr (d_ok hE hd (by simp)) hd
        split at h
        · rename_i s c1 hs hck
          obtain ⟨he, hsz, h1⟩ := esz_ok hE hs
          have hrun : ∀ w, (Go.sizeOf e).run X.P w = .ok s w := fun w => by rw [hsz]; exact he.szrun w
          split at h
          · rename_i c2 v' hrd
            simp only [Option.some.injEq, Prod.mk.injEq] at h; obtain ⟨rfl, rfl⟩ := h
            obtain ⟨hc1, hc2⟩ := AllC_app.1 hc
            have hb := ckIx_ok hck hii hc1
            cases hx with
            | agg _ l hl =>
            obtain ⟨u, g1, g2⟩ := part_ok (hE.ti e) hrd hc2 hl
            exact ⟨u, g1, fun w _ => by simp [Instr.index, asIntOf, run_underlying hu, hb, hrun, g2]⟩
          · cases h
        · cases h
      · rename_i a hd
        obtain ⟨d, hu, hd'⟩ := (d_ok hE hd (by simp)).und
        rw [hd] at hd'
        cases d <;> simp only [tdOk] at hd'
        obtain ⟨g, rfl⟩ := w1_eq h
        have hb := ckIx_ok g hii hc
        have hv := hx.one_inv
        cases hv with
        | s _ s hs =>
          have hlen : s.size = a.length := by rw [← hs]; simp
          have hlt : i.toNat < s.size := by omega
          have hget : s[i.toNat]? = some s[i.toNat] := getElem?_pos s i.toNat hlt
          have hbv : gt 0 a i.toNat = (s[i.toNat]).toBitVec := by
            rw [gt_eq, ← hs, List.getElem?_map, Array.getElem?_toList, Array.getElem?_eq_getElem (by exact hlt)]
            rfl
          refine ok1 (u := .int .u8 ((s[i.toNat]).toNat : Int)) ?_ (fun w => by simp [Instr.index, asIntOf, run_underlying hu, hb, hget])
          rw [hbv]
          exact .u8 _
      · cases h
    · cases h
  · cases h

def evExtract (x : AV) (i : Nat) : RV :=
  match x with
  | .tup vs => if Nat.blt i (lenF vs) then some ([], gt .any vs i) else none
  | _ => none

theorem evExtract_ok {x : AV} {i : Nat} {cs : List Prop} {v : AV} (h : evExtract x i = some (cs, v)) {vx : Value} (hx : VA X m.length p x vx) : G1 X p m wb (Instr.extract vx i) v := by
  unfold evExtract at h
  split at h
  · rename_i vs
    split at h
    · rename_i hb
      simp only [Option.some.injEq, Prod.mk.injEq] at h; obtain ⟨rfl, rfl⟩ := h
      have hlt : i < vs.length := by rw [← lenF_eq]; exact Nat.le_of_ble_eq_true hb
      cases hx with
      | tup _ l hl hh =>
      have h1 := List.getElem?_eq_getElem hlt
      have h2 := hh i _ h1
      have hlt2 : i < l.length := by omega
      have h3 := List.getElem?_eq_getElem hlt2
      rw [gt_eq, h1]
      simp only [List.getD_eq_getElem?_getD, h3, Option.getD_some] at h2 ⊢
      exact ⟨l[i], h2, fun w _ => by simp [Instr.extract, h3]⟩
    · cases h
  · cases h

/-! len, min, max -/

def evLen (E : Env) (ty : TypeId) (x : AV) : RV :=
  match (E.ti ty).d, x with
  | .str, .one (.s a) => some ([], .one (.i64 a.length))
  | .array n _, _ => some ([], .one (.i64 n))
  | .slice _, .one (.sv _ _ n) => some ([], .one (.i64 n))
  | .slice _, .one (.gs _ n _) => some ([], .one (.i64 n))
  | .slice _, .one (.xs _ _ n) => some ([], .one (.i64 n))
  | .slice _, .one .ns => some ([], .one (.i64 0))
  | _, _ => none

theorem evLen_ok {E : Env} (hE : EnvOk X.P E) {ty rt : TypeId} {x : AV} {cs : List Prop} {v : AV} (h : evLen E ty x = some (cs, v)) {vx : Value} (hx : VA X m.length p x vx) :
    G1 X p m wb (Builtin.len_ #[ty] rt #[vx]) v := by
  unfold evLen at h
  split at h
  · rename_i hd
    simp only [Option.some.injEq, Prod.mk.injEq] at h; obtain ⟨rfl, rfl⟩ := h
    obtain ⟨d, hu, hd'⟩ := (d_ok hE hd (by simp)).und
    rw [hd] at hd'
    cases d <;> simp only [tdOk] at hd'
    have hv := hx.one_inv
    cases hv with
    | s _ s hs =>
      rename_i a
      have hlen : a.length = s.size := by rw [← hs]; simp
      rw [hlen]
      exact ok1 (.i64 _) (fun w => by simp [Builtin.len_, run_underlying hu, goInt])
  · rename_i n e hd
    simp only [Option.some.injEq, Prod.mk.injEq] at h; obtain ⟨rfl, rfl⟩ := h
    have hu := und_arr (d_ok hE hd (by simp)) hd
    exact ok1 (.i64 _) (fun w => by simp [Builtin.len_, run_underlying hu, goInt])
  · rename_i e b o n hd
    simp only [Option.some.injEq, Prod.mk.injEq] at h; obtain ⟨rfl, rfl⟩ := h
    have hu := und_slice (d_ok hE hd (by simp)) hd
    have hv := hx.one_inv
    cases hv <;> exact ok1 (.i64 _) (fun w => by simp [Builtin.len_, run_underlying hu, goInt])
  · rename_i e b n q hd
    simp only [Option.some.injEq, Prod.mk.injEq] at h; obtain ⟨rfl, rfl⟩ := h
    have hu := und_slice (d_ok hE hd (by simp)) hd
    have hv := hx.one_inv
    cases hv <;> exact ok1 (.i64 _) (fun w => by simp [Builtin.len_, run_underlying hu, goInt])
  · rename_i e b o n hd
    simp only [Option.some.injEq, Prod.mk.injEq] at h; obtain ⟨rfl, rfl⟩ := h
    have hu := und_slice (d_ok hE hd (by simp)) hd
    have hv := hx.one_inv
    cases hv <;> exact ok1 (.i64 _) (fun w => by simp [Builtin.len_, run_underlying hu, goInt])
  · rename_i e hd
    simp only [Option.some.injEq, Prod.mk.injEq] at h; obtain ⟨rfl, rfl⟩ := h
    have hu := und_slice (d_ok hE hd (by simp)) hd
    have hv := hx.one_inv
    cases hv <;> exact ok1 (.i64 _) (fun w => by simp [Builtin.len_, run_underlying hu, goInt])
  · cases h

def minC (a b : AC) : Option AC :=
  match a, b with
  | .i64 x, .i64 y => some (.i64 (min x y))
  | .u8 x, .u8 y => some (.u8 (if y < x then y else x))
  | .u16 x, .u16 y => some (.u16 (if y < x then y else x))
  | .u32 x, .u32 y => some (.u32 (if y < x then y else x))
  | .u64 x, .u64 y => some (.u64 (if y < x then y else x))
  | _, _ => none

def maxC (a b : AC) : Option AC :=
  match a, b with
  | .i64 x, .i64 y => some (.i64 (max x y))
  | .u8 x, .u8 y => some (.u8 (if x < y then y else x))
  | .u16 x, .u16 y => some (.u16 (if x < y then y else x))
  | .u32 x, .u32 y => some (.u32 (if x < y then y else x))
  | .u64 x, .u64 y => some (.u64 (if x < y then y else x))
  | _, _ => none

def evMM (f : AC → AC → Option AC) (x y : AV) : RV :=
  match x, y with
  | .one a, .one b => (match f a b with | some c => some ([], .one c) | none => none)
  | _, _ => none

theorem evMin_ok {x y : AV} {cs : List Prop} {v : AV} (h : evMM minC x y = some (cs, v)) {ts : Array TypeId} {rt : TypeId} {vx vy : Value} (hx : VA X m.length p x vx) (hy : VA X m.length p y vy) :
    G1 X p m wb (Builtin.min_ ts rt #[vx, vy]) v := by
  unfold evMM at h
  split at h
  · split at h
    · rename_i a b c hc
      simp only [Option.some.injEq, Prod.mk.injEq] at h; obtain ⟨rfl, rfl⟩ := h
      have h1 := hx.one_inv
      have h2 := hy.one_inv
      have key : ∀ {n : Nat} (x y : BitVec n), ((y.toNat : Int) < x.toNat) ↔ y < x := fun x y => by rw [BitVec.lt_def]; omega
      unfold minC at hc
      split at hc <;> simp only [Option.some.injEq, reduceCtorEq] at hc <;> subst hc <;> cases h1 <;> cases h2
      · rename_i x y
        have e : (if y < x then y else x) = min x y := by omega
        exact ok1 (u := .int .i64 (min x y)) (.i64 _) (fun w => by simp [Builtin.min_, Builtin.min2, e])
      · exact ok1 (u := .int .u8 _) (.u8 _) (fun w => by simp [Builtin.min_, Builtin.min2, key]; split <;> rfl)
      · exact ok1 (u := .int .u16 _) (.u16 _) (fun w => by simp [Builtin.min_, Builtin.min2, key]; split <;> rfl)
      · exact ok1 (u := .int .u32 _) (.u32 _) (fun w => by simp [Builtin.min_, Builtin.min2, key]; split <;> rfl)
      · exact ok1 (u := .int .u64 _) (.u64 _) (fun w => by simp [Builtin.min_, Builtin.min2, key]; split <;> rfl)
    · cases h
  · cases h

theorem evMax_ok {x y : AV} {cs : List Prop} {v : AV} (h : evMM maxC x y = some (cs, v)) {ts : Array TypeId} {rt : TypeId} {vx vy : Value} (hx : VA X m.length p x vx) (hy : VA X m.length p y vy) :
    G1 X p m wb (Builtin.max_ ts rt #[vx, vy]) v := by
  unfold evMM at h
  split at h
  · split at h
    · rename_i a b c hc
      simp only [Option.some.injEq, Prod.mk.injEq] at h; obtain ⟨rfl, rfl⟩ := h
      have h1 := hx.one_inv
      have h2 := hy.one_inv
      have key : ∀ {n : Nat} (x y : BitVec n), ((x.toNat : Int) < y.toNat) ↔ x < y := fun x y => by rw [BitVec.lt_def]; omega
      unfold maxC at hc
      split at hc <;> simp only [Option.some.injEq, reduceCtorEq] at hc <;> subst hc <;> cases h1 <;> cases h2
      · rename_i x y
        have e : (if x < y then y else x) = max x y := by omega
        exact ok1 (u := .int .i64 (max x y)) (.i64 _) (fun w => by simp [Builtin.max_, Builtin.max2, e])
      · exact ok1 (u := .int .u8 _) (.u8 _) (fun w => by simp [Builtin.max_, Builtin.max2, key]; split <;> rfl)
      · exact ok1 (u := .int .u16 _) (.u16 _) (fun w => by simp [Builtin.max_, Builtin.max2, key]; split <;> rfl)
      · exact ok1 (u := .int .u32 _) (.u32 _) (fun w => by simp [Builtin.max_, Builtin.max2, key]; split <;> rfl)
      · exact ok1 (u := .int .u64 _) (.u64 _) (fun w => by simp [Builtin.max_, Builtin.max2, key]; split <;> rfl)
    · cases h
  · cases h
end
end DH

namespace DH
open Go

section
variable {X : Ctx} {p : Pl} {m : Mem} {wb : World}

def cellsOf : AV → Option (List AC)
  | .one c => some [c]
  | .agg cs => some cs
  | _ => none

theorem cellsOf_ok {N : Nat} {x : AV} {cs : List AC} (h : cellsOf x = some cs) {v : Value} (hx : VA X N p x v) : VL X N p cs v.cells.toList := by
  unfold cellsOf at h
  split at h
  · injection h with h; subst h
    have hv := hx.one_inv
    have : v.cells = #[v] := by
      have := hv.oneCell
      cases v <;> first | rfl | cases this
    rw [this]
    exact ⟨rfl, fun j c u h1 h2 => by
      cases j with
      | zero => simp at h1 h2; subst h1; subst h2; exact hv
      | succ j => simp at h1⟩
  · injection h with h; subst h
    cases hx with
    | agg _ l hl => simpa [Value.cells] using hl
  · cases h

/-! struct and array literals -/

def place (E : Env) (ti : TI) (i : Nat) : Option (Nat × Nat) :=
  match ti.d with
  | .struct fs => (match fs[i]? with | some (off, ft) => (match E.esz ft with | some s => some (off, s) | none => none) | none => none)
  | .array _ e => (match E.esz e with | some s => some (i * s, s) | none => none)
  | _ => none

/-- parts laid into cells; all are where they should be -/
def fillF {β : Type} (E : Env) (ti : TI) (t : List AV) : List (Nat × Operand) → List AC → (List AC → Option β) → Option β
  | [], cs, k => k cs
  | (i, x) :: rest, cs, k =>
    match place E ti i, cellsOf (getO t x) with
    | some (off, s), some vs => if Nat.beq (lenF vs) s && Nat.ble (off + s) (lenF cs) then layF cs off vs fun cs' => fillF E ti t rest cs' k else none
    | _, _ => none

/-- the same without laying out: what is asked is told -/
def fillS (E : Env) (ti : TI) (t : List AV) : List (Nat × Operand) → List AC → Option (List Prop × List AC)
  | [], cs => some ([], cs)
  | (i, x) :: rest, cs =>
    match place E ti i, cellsOf (getO t x) with
    | some (off, s), some vs => (match fillS E ti t rest (lay cs off vs) with | some (ps, r) => some ((vs.length = s ∧ off + s ≤ cs.length) :: ps, r) | none => none)
    | _, _ => none

def isAggD : TD → Bool
  | .struct _ => true
  | .array _ _ => true
  | _ => false

def evBuild (E : Env) (t : List AV) (ty : TypeId) (parts : List (Nat × Operand)) : RV :=
  match isAggD (E.ti ty).d, E.sym ty with
  | true, false => fillF E (E.ti ty) t parts (E.ti ty).zero fun cs => some ([], .agg cs)
  | true, true => (match fillS E (E.ti ty) t parts (E.ti ty).zero with | some (ps, cs) => some (ps, .agg cs) | none => none)
  | false, _ => none

theorem lay_length {α : Type} (l : List α) (o : Nat) (cs : List α) (h : o + cs.length ≤ l.length) : (lay l o cs).length = l.length := by
  simp [lay]; omega

theorem fillF_eq {β : Type} {E : Env} {ti : TI} {t : List AV} : ∀ {ps : List (Nat × Operand)} {cs : List AC} {k : List AC → Option β} {r : β}, fillF E ti t ps cs k = some r →
    ∃ qs cs', fillS E ti t ps cs = some (qs, cs') ∧ AllC qs ∧ k cs' = some r
  | [], cs, k, r, h => ⟨[], cs, rfl, trivial, h⟩
  | (i, x) :: rest, cs, k, r, h => by
    unfold fillF at h
    split at h
    · rename_i off s vs h1 h2
      split at h
      · rename_i hb
        rw [Bool.and_eq_true] at hb
        have hb1 := beq_true hb.1
        have hb2 := Nat.le_of_ble_eq_true hb.2
        rw [lenF_eq] at hb1 hb2
        rw [layF_eq] at h
        obtain ⟨qs, cs', g1, g2, g3⟩ := fillF_eq h
        refine ⟨(vs.length = s ∧ off + s ≤ cs.length) :: qs, cs', ?_, And.intro ⟨hb1, hb2⟩ g2, g3⟩
        unfold fillS
        simp only [h1, h2, g1]
      · cases h
    · cases h

/-- cells over those from off on -/
theorem foldl_set (vs : List Value) : ∀ (cs : Array Value) (off k : Nat), (vs.zipIdx k).foldl (fun cs (c, j) => cs.setIfInBounds (off + j) c) cs = ⟨(List.range cs.size).map fun i => if off + k ≤ i ∧ i < off + k + vs.length then vs.getD (i - off - k) undef else cs.getD i undef⟩ := by
  induction vs with
  | nil =>
    intro cs off k
    apply Array.ext'
    apply List.ext_getElem?
    intro i
    simp only [List.zipIdx_nil, List.foldl_nil, List.getElem?_map]
    rcases Nat.lt_or_ge i cs.size with h | h
    · have : ¬ (off + k ≤ i ∧ i < off + k) := by omega
      simp [h, this]
    · simp [h]
  | cons v vs ih =>
    intro cs off k
    rw [List.zipIdx_cons, List.foldl_cons, ih]
    apply Array.ext'
    apply List.ext_getElem?
    intro i
    simp only [List.getElem?_map, Array.size_setIfInBounds]
    rcases Nat.lt_or_ge i cs.size with h | h
    · simp only [List.getElem?_range h, Option.map_some, Option.some.injEq, List.length_cons]
      by_cases h1 : off + k = i
      · subst h1
        have h2 : ¬ (off + (k + 1) ≤ off + k ∧ off + k < off + (k + 1) + vs.length) := by omega
        have h3 : off + k ≤ off + k ∧ off + k < off + k + (vs.length + 1) := by omega
        rw [if_neg h2, if_pos h3]
        simp [Array.getD, h]
      · by_cases h2 : off + k ≤ i ∧ i < off + k + (vs.length + 1)
        · have h3 : off + (k + 1) ≤ i ∧ i < off + (k + 1) + vs.length := by omega
          rw [if_pos h2, if_pos h3]
          obtain ⟨d, hd⟩ : ∃ d, i - off - k = d + 1 := ⟨i - off - k - 1, by omega⟩
          rw [hd, show i - off - (k + 1) = d by omega]
          simp
        · have h3 : ¬ (off + (k + 1) ≤ i ∧ i < off + (k + 1) + vs.length) := by omega
          rw [if_neg h2, if_neg h3]
          simp [Array.getD, h, h1]
    · simp [h]

theorem VL_lay {N : Nat} {cs vs : List AC} {l r : List Value} (h1 : VL X N p cs l) (h2 : VL X N p vs r) (off : Nat) (hb : off + vs.length ≤ cs.length) : VL X N p (lay cs off vs) (lay l off r) := by
  refine ⟨by simp [lay, h1.1, h2.1], fun j c u hj hu => ?_⟩
  unfold lay at hj hu
  have e1 := h1.1
  have e2 := h2.1
  rcases Nat.lt_or_ge j off with h | h
  · rw [List.append_assoc, List.getElem?_append_left (by simp; omega), List.getElem?_take_of_lt h] at hj hu
    exact h1.2 j c u hj hu
  · rcases Nat.lt_or_ge j (off + vs.length) with h' | h'
    · rw [List.append_assoc, List.getElem?_append_right (by simp; omega), List.getElem?_append_left (by simp; omega)] at hj
      rw [List.append_assoc, List.getElem?_append_right (by simp; omega), List.getElem?_append_left (by simp; omega)] at hu
      have t1 : (cs.take off).length = off := by simp; omega
      have t2 : (l.take off).length = off := by simp; omega
      rw [t1] at hj
      rw [t2] at hu
      exact h2.2 _ c u hj hu
    · rw [List.append_assoc, List.getElem?_append_right (by simp; omega), List.getElem?_append_right (by simp; omega), List.getElem?_drop] at hj
      rw [List.append_assoc, List.getElem?_append_right (by simp; omega), List.getElem?_append_right (by simp; omega), List.getElem?_drop] at hu
      have t1 : (cs.take off).length = off := by simp; omega
      have t2 : (l.take off).length = off := by simp; omega
      rw [t1] at hj
      rw [t2] at hu
      rw [show off + vs.length + (j - off - vs.length) = j by omega] at hj
      rw [show off + r.length + (j - off - r.length) = j by omega] at hu
      exact h1.2 j c u hj hu

theorem foldl_lay (l r : List Value) (off : Nat) (hb : off + r.length ≤ l.length) : (r.zipIdx).foldl (fun (cs : Array Value) (c, j) => cs.setIfInBounds (off + j) c) l.toArray = (lay l off r).toArray := by
  have := foldl_set r l.toArray off 0
  rw [this]
  apply Array.ext'
  apply List.ext_getElem?
  intro i
  simp only [List.getElem?_map, List.size_toArray, Nat.add_zero, Nat.sub_zero]
  unfold lay
  rcases Nat.lt_or_ge i l.length with h | h
  · rw [List.getElem?_range h]
    simp only [Option.map_some]
    rcases Nat.lt_or_ge i off with h1 | h1
    · rw [if_neg (by omega), List.append_assoc, List.getElem?_append_left (by simp; omega), List.getElem?_take_of_lt h1, List.getElem?_eq_getElem h]
      simp [h]
    · rcases Nat.lt_or_ge i (off + r.length) with h2 | h2
      · have t1 : (l.take off).length = off := by simp; omega
        rw [if_pos ⟨h1, h2⟩, List.append_assoc, List.getElem?_append_right (by omega), List.getElem?_append_left (by omega), t1, List.getElem?_eq_getElem (by omega)]
        simp [show i - off < r.length by omega]
      · have t1 : (l.take off).length = off := by simp; omega
        rw [if_neg (by omega), List.append_assoc, List.getElem?_append_right (by omega), List.getElem?_append_right (by omega), List.getElem?_drop, t1,
          show off + r.length + (i - off - r.length) = i by omega, List.getElem?_eq_getElem h]
        simp [h]
  · simp [h]
    omega

theorem fill_ok {N : Nat} {E : Env} {ti : TI} {t : List AV} {ev : Operand → Value} {pl : Nat → Option (Nat × Nat)} (hpl : ∀ i off s, place E ti i = some (off, s) → pl i = some (off, s))
    (hev : ∀ x, VA X N p (getO t x) (ev x)) : ∀ {ps : List (Nat × Operand)} {cs : List AC} {qs : List Prop} {r : List AC} {l : List Value}, fillS E ti t ps cs = some (qs, r) → AllC qs → VL X N p cs l →
    ∃ l', Instr.fill pl l.toArray (ps.map fun (i, x) => (i, ev x)) = some l'.toArray ∧ VL X N p r l'
  | [], cs, qs, r, l, h, _, hl => by
    simp only [fillS, Option.some.injEq, Prod.mk.injEq] at h
    obtain ⟨rfl, rfl⟩ := h
    exact ⟨l, rfl, hl⟩
  | (i, x) :: rest, cs, qs, r, l, h, hq, hl => by
    unfold fillS at h
    split at h
    · rename_i off s vs h1 h2
      split at h
      · rename_i ps' r' h3
        simp only [Option.some.injEq, Prod.mk.injEq] at h
        obtain ⟨rfl, rfl⟩ := h
        obtain ⟨⟨q1, q2⟩, hq⟩ := hq
        have hc := cellsOf_ok h2 (hev x)
        have e1 : vs.length = (ev x).cells.size := by have := hc.1; simpa using this
        have e2 := hl.1
        obtain ⟨l', g1, g2⟩ := fill_ok hpl hev h3 hq (VL_lay hl hc off (by omega))
        refine ⟨l', ?_, g2⟩
        simp only [List.map_cons, Instr.fill, hpl i off s h1]
        rw [if_neg (by simp; omega)]
        have := foldl_lay l (ev x).cells.toList off (by simp; omega)
        rw [← g1, ← this]
        congr 1
        rw [← Array.foldl_toList]
        simp
      · cases h
    · cases h

theorem zero_ok {P : Program} {t : TypeId} {ti : TI} (h : TyOk P t ti) : ∃ z, (∀ w, (zeroValue t).run P w = .ok z w) ∧ ∀ (X : Ctx) (N : Nat) (p : Pl), VL X N p ti.zero z.cells.toList := by
  obtain ⟨i, h1, _, _, z, h2, h3⟩ := h.info
  exact ⟨z, fun w => by simp [zeroValue, typeInfo, h1, h2], h3⟩

theorem sizeOf_some {P : Program} {t : TypeId} (h : (P.info? t).isSome = true) (w : World) : (Go.sizeOf t).run P w = .ok (P.cellsOf t) w := by
  obtain ⟨i, hi⟩ := Option.isSome_iff_exists.1 h
  simp [Go.sizeOf, typeInfo, hi, Program.cellsOf]

theorem sz_cellsOf {P : Program} {t : TypeId} {ti : TI} (h : TyOk P t ti) : P.cellsOf t = ti.sz := by
  obtain ⟨i, h1, h2, _⟩ := h.info
  simp [Program.cellsOf, h1, h2]

theorem evBuild_ok {E : Env} (hE : EnvOk X.P E) {t : List AV} {ty : TypeId} {parts : List (Nat × Operand)} {cs : List Prop} {v : AV} (h : evBuild E t ty parts = some (cs, v)) (hc : AllC cs) {ev : Operand → Value}
    (hev : ∀ x, VA X m.length p (getO t x) (ev x)) : G1 X p m wb (Instr.build ty (parts.map fun (i, x) => (i, ev x)).toArray) v := by
  have hS : ∃ qs r, isAggD (E.ti ty).d = true ∧ fillS E (E.ti ty) t parts (E.ti ty).zero = some (qs, r) ∧ AllC qs ∧ v = .agg r := by
    unfold evBuild at h
    split at h
    · rename_i ha _
      obtain ⟨qs, r, h1, h2, h3⟩ := fillF_eq h
      simp only [Option.some.injEq, Prod.mk.injEq] at h3
      exact ⟨qs, r, ha, h1, h2, h3.2.symm⟩
    · rename_i ha _
      split at h
      · rename_i ps r hs
        simp only [Option.some.injEq, Prod.mk.injEq] at h
        obtain ⟨rfl, rfl⟩ := h
        exact ⟨_, _, ha, hs, hc, rfl⟩
      · cases h
    · cases h
  obtain ⟨qs, r, ha, hf, hq, rfl⟩ := hS
  have ht : TyOk X.P ty (E.ti ty) := d_ok hE rfl (by intro h0; rw [h0] at ha; cases ha)
  obtain ⟨z, hz1, hz2⟩ := zero_ok ht
  obtain ⟨d, hu, hd⟩ := ht.und
  have hparts := ht.parts d hu
  cases htd : (E.ti ty).d <;> rw [htd] at ha hd <;> first | cases ha; done | skip
  · rename_i n e
    cases d <;> simp only [tdOk] at hd
    obtain ⟨rfl, rfl⟩ := hd
    rename_i n e
    have he := hparts.2 n e rfl
    have hpl : ∀ i off s, place E (E.ti ty) i = some (off, s) → (fun i => some (i * X.P.cellsOf e, X.P.cellsOf e)) i = some (off, s) := by
      intro i off s hp
      unfold place at hp
      rw [htd] at hp
      dsimp only at hp
      split at hp
      · rename_i s' hs
        obtain ⟨g1, g2, _⟩ := esz_ok hE hs
        simp only [Option.some.injEq, Prod.mk.injEq] at hp
        obtain ⟨rfl, rfl⟩ := hp
        rw [sz_cellsOf g1, ← g2]
      · cases hp
    obtain ⟨l', g1, g2⟩ := fill_ok (pl := fun i => some (i * X.P.cellsOf e, X.P.cellsOf e)) hpl hev hf hq (hz2 X m.length p)
    refine ⟨.agg l'.toArray, .agg _ _ g2, fun w _ => ?_⟩
    simp only [Instr.build, Sem.run_bind, hz1, run_underlying hu, Result.andThen_ok, sizeOf_some he]
    rw [show z.cells = z.cells.toList.toArray by simp, g1]
    rfl
  · rename_i fs
    cases d <;> simp only [tdOk] at hd
    rename_i gs
    have hg := hparts.1 gs rfl
    have hpl : ∀ i off s, place E (E.ti ty) i = some (off, s) → (fun i => (gs.map fun g => (g.offset, X.P.cellsOf g.type))[i]?) i = some (off, s) := by
      intro i off s hp
      unfold place at hp
      rw [htd] at hp
      dsimp only at hp
      split at hp
      · rename_i off' ft hfs
        split at hp
        · rename_i s' hs
          obtain ⟨g1, g2, _⟩ := esz_ok hE hs
          simp only [Option.some.injEq, Prod.mk.injEq] at hp
          obtain ⟨rfl, rfl⟩ := hp
          obtain ⟨g, hgi, rfl, rfl⟩ := hd.2 i _ _ hfs
          simp [hgi, sz_cellsOf g1, ← g2]
        · cases hp
      · cases hp
    obtain ⟨l', g1, g2⟩ := fill_ok (pl := fun i => (gs.map fun g => (g.offset, X.P.cellsOf g.type))[i]?) hpl hev hf hq (hz2 X m.length p)
    refine ⟨.agg l'.toArray, .agg _ _ g2, fun w _ => ?_⟩
    have hmap : ∀ w, (gs.mapM fun f => do pure (f.offset, ← Go.sizeOf f.type) : Sem (Array (Nat × Nat))).run X.P w = .ok (gs.map fun g => (g.offset, X.P.cellsOf g.type)) w := by
      intro w
      rw [Array.mapM_eq_mapM_toList]
      have : ∀ (l : List Field), (∀ g ∈ l, (X.P.info? g.type).isSome = true) → ∀ w, (l.mapM fun f => do pure (f.offset, ← Go.sizeOf f.type) : Sem (List (Nat × Nat))).run X.P w = .ok (l.map fun g => (g.offset, X.P.cellsOf g.type)) w := by
        intro l
        induction l with
        | nil => intro _ w; simp
        | cons g l ih =>
          intro hl w
          rw [List.mapM_cons]
          simp only [Sem.run_bind, sizeOf_some (hl g (by simp)), Result.andThen_ok, Sem.run_pure, ih (fun g hg => hl g (by simp [hg])), List.map_cons]
      rw [Sem.run_map, this gs.toList hg w, Result.andThen_ok]
      congr 1
      apply Array.ext'
      simp
    simp only [Instr.build, Sem.run_bind, hz1, run_underlying hu, Result.andThen_ok, hmap]
    rw [show z.cells = z.cells.toList.toArray by simp, g1]
    rfl
end
end DH

namespace DH
open Go Go.MapKept

section
variable {X : Ctx} {p : Pl} {m : Mem} {wb : World}

/-! Maps: keys and values, and what is looked up -/

theorem fitC_exact {z c : AC} (h : fitC z c) : c.exact = true := by cases z <;> cases c <;> first | rfl | exact h.elim

theorem fitCs_exact : ∀ {zs cs : List AC}, fitCs zs cs → ExactL cs
  | [], [], _ => fun c h => by cases h
  | z :: zs, c :: cs, h => fun d hd => by
    rcases List.mem_cons.1 hd with rfl | hd
    · exact fitC_exact h.1
    · exact fitCs_exact h.2 d hd
  | [], _ :: _, h => h.elim
  | _ :: _, [], h => h.elim

def keyCs (a : Bool) (k : AV) : Option (List AC) :=
  match a, k with
  | true, .agg cs => some cs
  | false, .one c => some [c]
  | _, _ => none

theorem VE.of {a : Bool} {k : AV} {cs : List AC} (h : keyCs a k = some cs) (hx : ExactL cs) {N : Nat} {v : Value} (hv : VA X N p k v) : VE a cs v := by
  unfold keyCs at h
  split at h
  · injection h with h; subst h
    cases hv with
    | agg _ l hl => exact ⟨l, rfl, fun Y M q => hl.exact_any hx Y M q⟩
  · injection h with h; subst h
    exact ⟨_, rfl, fun Y M q => hv.one_inv.exact_any (hx _ (by simp)) Y M q⟩
  · cases h

def mkV (a : Bool) (cs : List AC) : AV := match a with | true => .agg cs | false => .one (gt .any cs 0)

theorem VE.va {a : Bool} {cs : List AC} {v : Value} (h : VE a cs v) (N : Nat) : VA X N p (mkV a cs) v := by
  cases a with
  | true => obtain ⟨l, rfl, hl⟩ := h; exact .agg _ _ (hl X N p)
  | false => obtain ⟨c, rfl, hc⟩ := h; exact .one _ _ (hc X N p)

theorem VE.det {a : Bool} {cs : List AC} {v u : Value} (h : VE a cs v) (k : VE a cs u) (hx : ExactL cs) (X : Ctx) : v = u := by
  cases a with
  | true => obtain ⟨l, rfl, hl⟩ := h; obtain ⟨r, rfl, hr⟩ := k; rw [(hl X 0 .zero).det (hr X 0 .zero) hx]
  | false =>
    obtain ⟨c, rfl, hc⟩ := h
    obtain ⟨d, e, hd⟩ := k
    injection e with e
    subst e
    exact (hc X 0 .zero).det (hd X 0 .zero) (hx c (by simp))

theorem VE.inj {a : Bool} {z cs ds : List AC} {v : Value} (h : VE a cs v) (k : VE a ds v) (f1 : fitCs z cs) (f2 : fitCs z ds) (X : Ctx) : cs = ds := by
  cases a with
  | true =>
    obtain ⟨l, rfl, hl⟩ := h
    obtain ⟨r, e, hr⟩ := k
    injection e with e
    have e : l = r := by simpa using e
    subst e
    exact (lit_inj f1 f2 (hl X 0 .zero) (hr X 0 .zero)).1 rfl
  | false =>
    obtain ⟨c, rfl, hc⟩ := h
    obtain ⟨d, rfl, hd⟩ := k
    match z, f1, f2 with
    | [z], f1, f2 => rw [(lit_inj1 f1.1 f2.1 (hc X 0 .zero) (hd X 0 .zero)).1 rfl]

theorem mapKey_bool {P : Program} {k : TypeId} (hu : P.underlying k = some .bool) {v : Value} (h : fitV .bool v) : ∃ l, mapKey P k v = some l := by
  cases v <;> first | exact h.elim | skip
  rename_i b
  exact ⟨.bool b, by simp [mapKey, hu]⟩
theorem mapKey_int {P : Program} {k : TypeId} {q : IntKind} (hu : P.underlying k = some (.int q)) {v : Value} (h : fitV (.int q) v) : ∃ l, mapKey P k v = some l := by
  cases v <;> first | exact h.elim | skip
  rename_i q' n
  obtain ⟨h1, h2⟩ := h
  subst h1
  exact ⟨.int q' n, by simp [mapKey, hu, h2]⟩
theorem mapKey_str {P : Program} {k : TypeId} (hu : P.underlying k = some .string) {v : Value} (h : fitV .str v) : ∃ l, mapKey P k v = some l := by
  cases v <;> first | exact h.elim | skip
  rename_i s
  have h : s.size ≤ maxLen := h
  exact ⟨.string s.data.toList, by simp [mapKey, hu, h]⟩

/-- a key that fits is read as one -/
theorem key_lit (X : Ctx) {k : TypeId} {ti : TI} (hk : KeyT X.P k) (ht : TyOk X.P k ti) (he : ti.eq = true) {kc : List AC} {v : Value} (hf : fitCs ti.zero kc) (hv : VE ti.agg kc v) : ∃ l, keyOf X.P k v = some l := by
  obtain ⟨hkd, hkey, _⟩ := ht.eq he
  cases hks : kindsT X.P 40 k with
  | none => rw [hks] at hkd; cases hkd
  | some ks =>
    rw [hks] at hkd
    simp only [Option.map_some, Option.some.injEq] at hkd
    obtain ⟨d, hu, hd⟩ := ht.und
    have hag := ht.agg
    cases ha : ti.agg with
    | true =>
      rw [ha] at hv hag
      obtain ⟨l, rfl, hl⟩ := hv
      have f1 := fitCs_ok hkd.symm hf (hl X 0 .zero)
      have hform := formed_ok ht ha hks f1
      have hw : (match X.P.underlying k with | some (.array _ _) | some (.struct _) => true | _ => false) = true := by
        rw [hu]
        revert hd hag
        cases htd : ti.d <;> intro hd hag <;> first | cases hag; done | skip
        · cases d <;> simp only [tdOk] at hd; rfl
        · cases d <;> simp only [tdOk] at hd; rfl
      obtain ⟨w1, w2⟩ := hk.wide hw
      have hlits := keyLits_of (X.P.types.size + 1) k ks l (w2.trans hks) f1
      refine ⟨.string (keyBytes (l.map litV)), ?_⟩
      unfold keyOf
      rw [hu] at hw ⊢
      revert hw
      cases d <;> intro hw <;> first | cases hw; done | skip
      · simp [w1, hform, Value.cells, hlits]
      · simp [w1, hform, Value.cells, hlits]
    | false =>
      rw [ha] at hv hag
      obtain ⟨c, rfl, hc⟩ := hv
      match hz : ti.zero, hf with
      | [z], hf =>
        rw [hz] at hkd
        match ks, hkd with
        | [], hkd => simp at hkd
        | _ :: _ :: _, hkd => simp at hkd
        | [e], hkd =>
          simp only [List.map_cons, List.map_nil, List.cons.injEq, and_true] at hkd
          have f1 := fitC_ok hkd.symm hf.1 (hc X 0 .zero)
          unfold kindsT at hks
          rw [hu] at hks
          unfold keyOf
          rw [hu]
          revert hd hag
          cases htd : ti.d <;> intro hd hag <;> first | cases hag; done | skip
          all_goals cases d <;> simp only [tdOk] at hd
          all_goals first
            | (simp at hks; done)
            | (simp only [Option.some.injEq, List.cons.injEq, and_true] at hks
               subst hks
               first | exact mapKey_bool hu f1 | exact mapKey_int hu f1 | exact mapKey_str hu f1)

/-- what is found -/
noncomputable def findE (kc : List AC) : List Ent → Option (List AC)
  | [] => none
  | r :: es => match sameCells kc r.2.1 with | true => some r.2.2 | false => findE kc es
noncomputable def hasE (kc : List AC) (es : List Ent) : Bool := (findE kc es).isSome
noncomputable def getE (kc : List AC) (es : List Ent) (z : List AC) : List AC := (findE kc es).getD z

theorem same_iff {cs ds : List AC} : sameCells cs ds = true ↔ cs = ds := by simp [sameCells]

theorem findE_none {kc : List AC} : ∀ {es : List Ent}, (∀ r, r ∈ es → r.2.1 ≠ kc) → findE kc es = none
  | [], _ => rfl
  | r :: es, h => by
    unfold findE
    have : sameCells kc r.2.1 = false := by
      rw [Bool.eq_false_iff]
      intro e
      exact h r (by simp) (same_iff.1 e).symm
    rw [this]
    exact findE_none fun q hq => h q (by simp [hq])

theorem findE_some {kc : List AC} : ∀ {es : List Ent} {j : Nat} {r : Ent}, es.Pairwise (fun a b => a.2.1 ≠ b.2.1) → es[j]? = some r → r.2.1 = kc → findE kc es = some r.2.2
  | [], j, r, _, h, _ => by simp at h
  | q :: es, j, r, hp, h, e => by
    unfold findE
    cases j with
    | zero =>
      simp at h
      subst h
      rw [same_iff.2 e.symm]
    | succ j =>
      simp at h
      have h1 := (List.pairwise_cons.1 hp).1 r (List.mem_of_getElem? h)
      have : sameCells kc q.2.1 = false := by
        rw [Bool.eq_false_iff]
        intro e2
        exact h1 ((same_iff.1 e2).symm.trans e.symm)
      rw [this]
      exact findE_some (List.pairwise_cons.1 hp).2 h e

def findK (kc : List AC) : List Ent → Option (List AC)
  | [] => none
  | r :: es => match eqCs kc r.2.1 with | true => some r.2.2 | false => findK kc es
theorem findK_eq {zs kc : List AC} (h : fitCs zs kc) : ∀ {es : List Ent}, (∀ r, r ∈ es → fitCs zs r.2.1) → findK kc es = findE kc es
  | [], _ => rfl
  | r :: es, he => by
    unfold findK findE
    have : eqCs kc r.2.1 = sameCells kc r.2.1 := by rw [Bool.eq_iff_iff, eqCs_ok h (he r (by simp)), same_iff]
    rw [this, findK_eq h fun q hq => he q (by simp [hq])]

/-- of one kind -/
def kin1 : AC → AC → Bool
  | .u8 _, .u8 _ => true
  | .u16 _, .u16 _ => true
  | .u32 _, .u32 _ => true
  | .u64 _, .u64 _ => true
  | .i64 _, .i64 _ => true
  | .b _, .b _ => true
  | _, _ => false
def kin : List AC → List AC → Bool
  | [], [] => true
  | c :: cs, d :: ds => kin1 c d && kin cs ds
  | _, _ => false
theorem kin_fit : ∀ {a b cs : List AC}, kin a b = true → (fitCs a cs ↔ fitCs b cs)
  | [], [], cs, _ => Iff.rfl
  | x :: a, y :: b, [], _ => Iff.rfl
  | x :: a, y :: b, c :: cs, h => by
    simp only [kin, Bool.and_eq_true] at h
    have h1 : fitC x c ↔ fitC y c := by
      have := h.1
      cases x <;> cases y <;> first | cases this; done | (cases c <;> exact Iff.rfl)
    exact and_congr h1 (kin_fit h.2)
  | [], _ :: _, _, h => by cases h
  | _ :: _, [], _, h => by cases h

/-- the entries of a map in the machine, against those told -/
def Ents (ka va : Bool) (es : List Ent) (arr : Array MapEntry) : Prop :=
  arr.size = es.length ∧ ∀ (j : Nat) (r : Ent) (e : MapEntry), es[j]? = some r → arr[j]? = some e → e.born = r.1 ∧ VE ka r.2.1 e.key ∧ VE va r.2.2 e.val

theorem Ents.at {ka va : Bool} {es : List Ent} {arr : Array MapEntry} (h : Ents ka va es arr) {j : Nat} {e : MapEntry} (he : arr.toList[j]? = some e) : ∃ r, es[j]? = some r ∧ e.born = r.1 ∧ VE ka r.2.1 e.key ∧ VE va r.2.2 e.val := by
  have he : arr[j]? = some e := by simpa using he
  have hlt : j < es.length := by rw [← h.1]; exact (Array.getElem?_eq_some_iff.1 he).1
  exact ⟨_, List.getElem?_eq_getElem hlt, h.2 j _ e (List.getElem?_eq_getElem hlt) he⟩

theorem find_ok (X : Ctx) {k : TypeId} {ti : TI} (hk : KeyT X.P k) (ht : TyOk X.P k ti) (he : ti.eq = true) {va : Bool} {clock : Nat} {vz : List AC} {es : List Ent} {arr : Array MapEntry} (hE : EntOk clock ti.zero vz es) (hA : Ents ti.agg va es arr)
    {kc : List AC} {v : Value} (hf : fitCs ti.zero kc) (hv : VE ti.agg kc v) (w : World) :
    ((Instr.findKey k v arr.toList).run X.P w = .ok none w ∧ (∀ r, r ∈ es → r.2.1 ≠ kc) ∧ findE kc es = none) ∨
      ∃ j r e, (Instr.findKey k v arr.toList).run X.P w = .ok (some (j, e.val)) w ∧ es[j]? = some r ∧ arr[j]? = some e ∧ r.2.1 = kc ∧ e.key = v ∧ findE kc es = some r.2.2 := by
  obtain ⟨l, hl⟩ := key_lit X hk ht he hf hv
  have hall : ∀ e ∈ arr.toList, ∃ l, keyOf X.P k e.key = some l := by
    intro e hm
    obtain ⟨j, hj⟩ := List.getElem?_of_mem hm
    obtain ⟨r, h1, _, h2, _⟩ := hA.at hj
    exact key_lit X hk ht he (hE.fit r (List.mem_of_getElem? h1)).1 h2
  rcases hk.law.find w hl arr.toList hall with ⟨h1, h2⟩ | ⟨j, e, h1, h2, h3⟩
  · have hne : ∀ r, r ∈ es → r.2.1 ≠ kc := by
      intro r hr hrk
      obtain ⟨j, hj⟩ := List.getElem?_of_mem hr
      have hlt : j < arr.size := by rw [hA.1]; exact (List.getElem?_eq_some_iff.1 hj).1
      obtain ⟨_, h4, _⟩ := hA.2 j r _ hj (Array.getElem?_eq_getElem hlt)
      rw [hrk] at h4
      exact h2 arr[j] (by simp) (h4.det hv (fitCs_exact hf) X)
    exact .inl ⟨h1, hne, findE_none hne⟩
  · obtain ⟨r, h4, _, h5, _⟩ := hA.at h2
    rw [h3] at h5
    have hrk := h5.inj hv (hE.fit r (List.mem_of_getElem? h4)).1 hf X
    exact .inr ⟨j, r, e, h1, h4, by simpa using h2, hrk, h3, findE_some hE.keys h4 hrk⟩

/-- a map's type: its keys', its values' -/
def mapTy (E : Env) (mt : TypeId) : Option (TypeId × TypeId) :=
  match (E.ti mt).d with
  | .map k e => (match (E.ti k).eq && known E k && known E e with | true => some (k, e) | false => none)
  | _ => none

theorem mapTy_ok {E : Env} (hE : EnvOk X.P E) {mt k e : TypeId} (h : mapTy E mt = some (k, e)) : X.P.underlying mt = some (.map k e) ∧ KeyT X.P k ∧ TyOk X.P k (E.ti k) ∧ (E.ti k).eq = true ∧ TyOk X.P e (E.ti e) := by
  unfold mapTy at h
  split at h
  · rename_i k' e' hd
    split at h
    · rename_i hb
      injection h with h
      obtain ⟨rfl, rfl⟩ := Prod.mk.inj h
      simp only [Bool.and_eq_true] at hb
      have ht := d_ok hE hd (by simp)
      obtain ⟨d, h1, h2⟩ := ht.und
      rw [hd] at h2
      cases d <;> simp only [tdOk] at h2
      obtain ⟨rfl, rfl⟩ := h2
      exact ⟨h1, ht.key _ _ hd, known_ok hE hb.1.2, hb.1.1, known_ok hE hb.2⟩
    · cases h
  · cases h

/-- a map that a value names: its number, what it holds -/
def mapOf (E : Env) (m : Mem) (kt et : TypeId) (x : AV) : Option (List Ent) :=
  match x with
  | .one .nm => some []
  | .one (.mp i) => (match gt none m i with
    | some row => (match row with
      | [c] => (match c with
        | .mo _ ka va kz vz es => (match (ka == (E.ti kt).agg) && (va == (E.ti et).agg) && kin kz (E.ti kt).zero && kin vz (E.ti et).zero with | true => some es | false => none)
        | _ => none)
      | _ => none)
    | none => none)
  | _ => none

theorem kin_ent {clock : Nat} {kz vz a b : List AC} {es : List Ent} (h : EntOk clock kz vz es) (h1 : kin kz a = true) (h2 : kin vz b = true) : EntOk clock a b es :=
  ⟨fun r hr => ⟨(kin_fit h1).1 (h.fit r hr).1, (kin_fit h2).1 (h.fit r hr).2⟩, h.keys, h.born, h.below⟩

/-- an object of one's own -/
theorem MR.obj {w : World} (h : MR X p m w) {i : Nat} {row : List AC} (hi : m[i]? = some (some row)) (ho : OwnO m.length p i) : ∃ c q, row = [c] ∧ w.heap[p.at_ i]? = some q ∧ ObjIs m.length p c q := by
  rcases h.blk i row hi with ⟨h0, _⟩ | ⟨_, hb⟩
  · exact absurd h0 ho.2.2
  · exact hb.ob ho.2.1

theorem mapOf_ok {E : Env} (hb : MR X p m wb) {kt et : TypeId} {x : AV} {es : List Ent} (h : mapOf E m kt et x = some es) {v : Value} (hx : VA X m.length p x v) :
    (v = .map none ∧ es = []) ∨ ∃ i arr clock, x = .one (.mp i) ∧ OwnO m.length p i ∧ v = .map (some (p.at_ i)) ∧ wb.heap[p.at_ i]? = some (.map arr clock) ∧ EntOk clock (E.ti kt).zero (E.ti et).zero es ∧ Ents (E.ti kt).agg (E.ti et).agg es arr ∧
      ∀ w, MRw X p m wb w → w.heap[p.at_ i]? = some (.map arr clock) := by
  unfold mapOf at h
  split at h
  · injection h with h
    have := hx.one_inv
    cases this
    exact .inl ⟨rfl, h.symm⟩
  · rename_i i
    split at h
    · rename_i row hrow
      split at h
      · rename_i c
        split at h
        · rename_i clock ka va kz vz es'
          split at h
          · rename_i hk
            injection h with h
            subst h
            simp only [Bool.and_eq_true, beq_iff_eq] at hk
            obtain ⟨⟨⟨rfl, rfl⟩, k1⟩, k2⟩ := hk
            have := hx.one_inv
            cases this with
            | mp _ ho =>
              obtain ⟨c, q, h1, h2, h3⟩ := hb.obj (gt_mem hrow) ho
              injection h1 with h1
              subst h1
              obtain ⟨g1, arr, rfl, g2, g3⟩ := h3
              exact .inr ⟨i, arr, clock, rfl, ho, rfl, h2, kin_ent g1 k1 k2, ⟨g2, g3⟩, fun w hw => by rw [hw.2 i _ (gt_mem hrow) ho.2.2]; exact h2⟩
          · cases h
        · cases h
      · cases h
    · cases h
  · cases h

def tupl (ok : Bool) (v : AV) (b : Bool) : AV := match ok with | true => .tup [v, .one (.b b)] | false => v

noncomputable def lookR (lit va : Bool) (kc : List AC) (es : List Ent) (z : List AC) (ok : Bool) : Option AV :=
  match lit with
  | true => (match findK kc es with | some vs => some (tupl ok (mkV va vs) true) | none => some (tupl ok (mkV va z) false))
  | false => (match va with
    | true => some (tupl ok (.agg (hide (getE kc es z))) (hide (hasE kc es)))
    | false => (match z with
      | [z0] => (match typed z0 (hide (gt .any (getE kc es z) 0)) with | some c => some (tupl ok (.one c) (hide (hasE kc es))) | none => none)
      | _ => none))

noncomputable def evLookup (E : Env) (m : Mem) (mt : TypeId) (x k : AV) (ok : Bool) : RV :=
  match mapTy E mt with
  | some (kt, et) =>
    (match keyCs (E.ti kt).agg k with
    | some kc =>
      (match ck E.lit (fitBs (E.ti kt).zero kc) (fitCs (E.ti kt).zero kc), mapOf E m kt et x with
      | some cs, some es => (match fitBs (E.ti et).zero (E.ti et).zero, lookR E.lit (E.ti et).agg kc es (E.ti et).zero ok with | true, some v => some (cs, v) | _, _ => none)
      | _, _ => none)
    | none => none)
  | none => none

theorem typed_fit {z c d : AC} (h : fitC z c) (k : typed z c = some d) : d = c := by
  cases z <;> cases c <;> first | exact h.elim | (simp only [typed, asU8, asU16, asU32, asU64, asI64, asB, Option.some.injEq] at k; exact k.symm)

theorem lookR_ok {lit va : Bool} {kz kc : List AC} {es : List Ent} {z : List AC} {ok : Bool} {v : AV} (h : lookR lit va kc es z ok = some v) (hk : fitCs kz kc) (hes : ∀ r, r ∈ es → fitCs kz r.2.1) (hvs : fitCs z (getE kc es z)) :
    v = tupl ok (mkV va (getE kc es z)) (hasE kc es) := by
  unfold lookR at h
  split at h
  · rw [findK_eq hk hes] at h
    unfold getE hasE
    split at h
    · rename_i vs hv
      injection h with h
      rw [hv, ← h]; rfl
    · rename_i hv
      injection h with h
      rw [hv, ← h]; rfl
  · split at h
    · injection h with h
      rw [← h, hide_eq, hide_eq]; rfl
    · split at h
      · rename_i z0
        split at h
        · rename_i c hc
          injection h with h
          rw [hide_eq] at hc
          rw [← h, hide_eq]
          match hg : getE kc es [z0], hvs with
          | [c0], hvs =>
            rw [hg] at hc
            have := typed_fit hvs.1 hc
            subst this
            rfl
        · cases h
      · cases h

theorem zeroE_ok {P : Program} {t : TypeId} {ti : TI} (h : TyOk P t ti) : ∃ z, (∀ w, (zeroValue t).run P w = .ok z w) ∧ VE ti.agg ti.zero z := by
  obtain ⟨i, h1, _, _, z, h2, h3⟩ := h.info
  obtain ⟨g1, g2⟩ := h.zag i z h1 h2
  refine ⟨z, fun w => by simp [zeroValue, typeInfo, h1, h2], ?_⟩
  cases ha : ti.agg with
  | true =>
    obtain ⟨cs, rfl⟩ := g1 ha
    exact ⟨cs.toList, by simp, fun X N p => by simpa [Value.cells] using h3 X N p⟩
  | false =>
    have hne := g2 ha
    have hcz : z.cells.toList = [z] := by cases z <;> first | rfl | exact absurd rfl (hne _)
    match hz : ti.zero with
    | [c] =>
      refine ⟨c, rfl, fun X N p => ?_⟩
      have := h3 X N p
      rw [hcz, hz] at this
      exact this.2 0 c z rfl rfl
    | [] =>
      exfalso
      have e : ∀ X N p, False := fun X N p => by have := (h3 X N p).1; rw [hcz, hz] at this; simp at this
      exact e ⟨P, default, [], fun _ => False, fun _ h => h.elim⟩ 0 .zero
    | _ :: _ :: _ =>
      exfalso
      have e : ∀ X N p, False := fun X N p => by have := (h3 X N p).1; rw [hcz, hz] at this; simp at this
      exact e ⟨P, default, [], fun _ => False, fun _ h => h.elim⟩ 0 .zero

theorem tupl_va {N : Nat} (ok b : Bool) {v : AV} {u : Value} (h : VA X N p v u) : VA X N p (tupl ok v b) (if ok = true then .tuple #[u, .bool b] else u) := by
  cases ok with
  | false => exact h
  | true =>
    refine .tup [v, .one (.b b)] [u, .bool b] rfl fun j c hj => ?_
    match j, hj with
    | 0, hj => simp at hj; subst hj; exact h
    | 1, hj => simp at hj; subst hj; exact .one _ _ (.b b)
    | j + 2, hj => simp at hj

theorem findE_mem {kc : List AC} : ∀ {es : List Ent} {vs : List AC}, findE kc es = some vs → ∃ r, r ∈ es ∧ r.2.2 = vs
  | [], vs, h => by cases h
  | r :: es, vs, h => by
    unfold findE at h
    split at h
    · injection h with h; exact ⟨r, by simp, h⟩
    · obtain ⟨q, h1, h2⟩ := findE_mem h
      exact ⟨q, by simp [h1], h2⟩

theorem evLookup_ok {E : Env} (hE : EnvOk X.P E) (hb : MR X p m wb) {mt : TypeId} {x k : AV} {ok : Bool} {cs : List Prop} {v : AV} (h : evLookup E m mt x k ok = some (cs, v)) (hc : AllC cs) {vx vk : Value}
    (hx : VA X m.length p x vx) (hk : VA X m.length p k vk) : G1 X p m wb (Instr.lookup mt vx vk ok) v := by
  unfold evLookup at h
  split at h
  · rename_i kt et hmt
    obtain ⟨hu, hK, htk, heq, hte⟩ := mapTy_ok (X := X) hE hmt
    split at h
    · rename_i kc hkc
      split at h
      · rename_i cs' es hck hmo
        split at h
        · rename_i v' hzz hlr
          simp only [Option.some.injEq, Prod.mk.injEq] at h
          obtain ⟨rfl, rfl⟩ := h
          have hf : fitCs (E.ti kt).zero kc := ck_ok hck fitBs_ok hc
          have hve : VE (E.ti kt).agg kc vk := VE.of hkc (fitCs_exact hf) hk
          obtain ⟨lk, hlk⟩ := key_lit X hK htk heq hf hve
          have hzf := fitBs_ok hzz
          obtain ⟨z, hz1, hz2⟩ := zeroE_ok hte
          have hget : ∀ es : List Ent, (∀ r, r ∈ es → fitCs (E.ti et).zero r.2.2) → fitCs (E.ti et).zero (getE kc es (E.ti et).zero) := by
            intro es hes
            unfold getE
            cases hfe : findE kc es with
            | none => exact hzf
            | some vs =>
              obtain ⟨r, h1, h2⟩ := findE_mem hfe
              rw [← h2]; exact hes r h1
          rcases mapOf_ok hb hmo hx with ⟨rfl, rfl⟩ | ⟨i, arr, clock, rfl, ho, rfl, hh, hEnt, hA, hw⟩
          · have e := lookR_ok hlr hf (fun r h => by cases h) (hget [] fun r h => by cases h)
            have e1 : getE kc [] (E.ti et).zero = (E.ti et).zero := rfl
            have e2 : hasE kc [] = false := rfl
            rw [e1, e2] at e
            subst e
            have hA0 : Ents (E.ti kt).agg (E.ti et).agg [] (#[] : Array MapEntry) := ⟨rfl, fun j r e h => by simp at h⟩
            have hE0 : EntOk 0 (E.ti kt).zero (E.ti et).zero [] := ⟨fun r h => (by cases h), .nil, .nil, fun r h => (by cases h)⟩
            refine ⟨_, tupl_va ok false (hz2.va m.length), fun w _ => ?_⟩
            have hchk := hK.law.check w true hlk
            have hfind : (Instr.findKey kt vk []).run X.P w = .ok none w := by
              rcases find_ok X hK htk heq hE0 hA0 hf hve w with ⟨h1, _⟩ | ⟨j, r, e, _, h2, _⟩
              · exact h1
              · simp at h2
            simp only [Instr.lookup, Sem.run_bind, run_underlying hu, Result.andThen_ok, Sem.run_pure]
            rw [show (#[] : Array MapEntry).isEmpty = true from rfl, hchk]
            simp only [Result.andThen_ok]
            rw [hfind]
            simp only [Result.andThen_ok, Sem.run_bind, hz1, Sem.run_pure]
          · have e := lookR_ok hlr hf (fun r h => (hEnt.fit r h).1) (hget es fun r h => (hEnt.fit r h).2)
            subst e
            rcases find_ok X hK htk heq hEnt hA hf hve wb with ⟨_, _, h2⟩ | ⟨j, r, e, _, h1, h2, _, _, h3⟩
            · have e1 : getE kc es (E.ti et).zero = (E.ti et).zero := by unfold getE; rw [h2]; rfl
              have e2 : hasE kc es = false := by unfold hasE; rw [h2]; rfl
              rw [e1, e2]
              refine ⟨_, tupl_va ok false (hz2.va m.length), fun w hwm => ?_⟩
              have hchk := hK.law.check w arr.isEmpty hlk
              have hfind : (Instr.findKey kt vk arr.toList).run X.P w = .ok none w := by
                rcases find_ok X hK htk heq hEnt hA hf hve w with ⟨h1, _⟩ | ⟨j, r, e, _, _, _, _, _, h3⟩
                · exact h1
                · rw [h2] at h3; cases h3
              simp only [Instr.lookup, Sem.run_bind, run_underlying hu, Result.andThen_ok, run_getObj_map (hw w hwm), Sem.run_pure, hchk, hfind, hz1]
            · have e1 : getE kc es (E.ti et).zero = r.2.2 := by unfold getE; rw [h3]; rfl
              have e2 : hasE kc es = true := by unfold hasE; rw [h3]; rfl
              rw [e1, e2]
              obtain ⟨_, _, hve2⟩ := hA.2 j r e h1 h2
              refine ⟨_, tupl_va ok true (hve2.va m.length), fun w hwm => ?_⟩
              have hchk := hK.law.check w arr.isEmpty hlk
              have hfind : ∃ j', (Instr.findKey kt vk arr.toList).run X.P w = .ok (some (j', e.val)) w := by
                rcases find_ok X hK htk heq hEnt hA hf hve w with ⟨_, _, h4⟩ | ⟨j', r', e', g1, g2, g3, g4, g5, g6⟩
                · rw [h3] at h4; cases h4
                · refine ⟨j', ?_⟩
                  have : e'.val = e.val := by
                    obtain ⟨_, _, hve3⟩ := hA.2 j' r' e' g2 g3
                    rw [h3] at g6
                    injection g6 with g6
                    rw [← g6] at hve3
                    exact hve3.det hve2 (fitCs_exact (hEnt.fit r (List.mem_of_getElem? h1)).2) X
                  rw [← this]; exact g1
              obtain ⟨j', hfind⟩ := hfind
              simp only [Instr.lookup, Sem.run_bind, run_underlying hu, Result.andThen_ok, run_getObj_map (hw w hwm), Sem.run_pure, hchk, hfind]
        · cases h
      · cases h
    · cases h
  · cases h
/-! what an iterator has handed out last -/
def lastL : List Nat → Option Nat
  | [] => none
  | [b] => some b
  | _ :: l => lastL l
theorem lastL_ok : ∀ {l : List Nat} {b : Nat}, lastL l = some b → ∃ s, l = s ++ [b]
  | [], _, h => by cases h
  | [c], b, h => by
    injection h with h
    exact ⟨[], by rw [h]; rfl⟩
  | c :: d :: l, b, h => by
    obtain ⟨s, e⟩ := lastL_ok (l := d :: l) h
    exact ⟨c :: s, by rw [e]; rfl⟩
def bornL (b : Nat) : List Ent → Option Ent
  | [] => none
  | r :: es => match Nat.beq r.1 b with | true => some r | false => bornL b es
theorem bornL_ok {b : Nat} : ∀ {es : List Ent} {r : Ent}, bornL b es = some r → r ∈ es ∧ r.1 = b
  | [], _, h => by cases h
  | q :: es, r, h => by
    unfold bornL at h
    split at h
    · rename_i e
      injection h with h
      subst h
      exact ⟨by simp, beq_true e⟩
    · obtain ⟨h1, h2⟩ := bornL_ok h
      exact ⟨by simp [h1], h2⟩

def evEntry (m : Mem) (it : AV) : RV :=
  match it with
  | .one (.po j) =>
    (match gt none m j with
    | some row => (match row with
      | [c] => (match c with
        | .it mi _ seen stepped => (match gt none m mi with
          | some rowm => (match rowm with
            | [cm] => (match cm with
              | .mo clock ka va _ _ es => (match Nat.beq clock stepped, lastL seen with
                | true, some b => (match bornL b es with
                  | some r => some ([], .tup [mkV ka r.2.1, mkV va r.2.2])
                  | none => none)
                | _, _ => none)
              | _ => none)
            | _ => none)
          | none => none)
        | _ => none)
      | _ => none)
    | none => none)
  | _ => none

theorem evEntry_ok {it : AV} {cs : List Prop} {v : AV} (hb : MR X p m wb) (h : evEntry m it = some (cs, v)) {vi : Value} (hi : VA X m.length p it vi) : G1 X p m wb (Instr.entry vi) v := by
  unfold evEntry at h
  split at h
  · rename_i j
    split at h
    · rename_i row hrow
      have hrow := gt_mem hrow
      split at h
      · rename_i c
        split at h
        · rename_i mi since seen stepped
          split at h
          · rename_i rowm hrowm
            have hrowm := gt_mem hrowm
            split at h
            · rename_i cm
              split at h
              · rename_i clock ka va kz vz es
                split at h
                · rename_i b hcl hlast
                  split at h
                  · rename_i r hborn
                    simp only [Option.some.injEq, Prod.mk.injEq] at h
                    obtain ⟨rfl, rfl⟩ := h
                    have hcl := beq_true hcl
                    subst hcl
                    obtain ⟨s, hs⟩ := lastL_ok hlast
                    obtain ⟨hr1, hr2⟩ := bornL_ok hborn
                    have := hi.one_inv
                    cases this with
                    | po _ ho =>
                      obtain ⟨c, q, h1, h2, h3⟩ := hb.obj hrow ho
                      injection h1 with h1
                      subst h1
                      obtain ⟨hom, rfl⟩ := h3
                      obtain ⟨c2, q2, g1, g2, g3⟩ := hb.obj hrowm hom
                      injection g1 with g1
                      subst g1
                      obtain ⟨hEnt, arr, rfl, g4, g5⟩ := g3
                      have hA : Ents ka va es arr := ⟨g4, g5⟩
                      obtain ⟨l, hl⟩ := List.getElem?_of_mem hr1
                      have hlt : l < arr.size := by rw [g4]; exact (List.getElem?_eq_some_iff.1 hl).1
                      have he := Array.getElem?_eq_getElem hlt
                      obtain ⟨b1, b2, b3⟩ := hA.2 l r arr[l] hl he
                      have hnd : (arr.toList.map (·.born)).Nodup := by
                        have e : arr.toList.map (·.born) = es.map (·.1) := by
                          apply List.ext_getElem?
                          intro j
                          rw [List.getElem?_map, List.getElem?_map]
                          rcases Nat.lt_or_ge j es.length with hj | hj
                          · have hj2 : j < arr.size := by rw [g4]; exact hj
                            rw [List.getElem?_eq_getElem hj, Array.getElem?_toList, Array.getElem?_eq_getElem hj2]
                            exact congrArg some (hA.2 j _ _ (List.getElem?_eq_getElem hj) (Array.getElem?_eq_getElem hj2)).1
                          · rw [List.getElem?_eq_none hj, Array.getElem?_toList, Array.getElem?_eq_none (by omega)]
                            rfl
                        rw [e, List.nodup_iff_pairwise_ne, List.pairwise_map]
                        exact hEnt.born.imp fun h => Nat.ne_of_lt h
                      refine ⟨.tuple #[arr[l].key, arr[l].val], ?_, fun w hw => ?_⟩
                      · refine .tup [mkV ka r.2.1, mkV va r.2.2] [arr[l].key, arr[l].val] rfl ?_
                        intro k c hk
                        match k, hk with
                        | 0, hk => simp at hk; subst hk; exact b2.va _
                        | 1, hk => simp at hk; subst hk; exact b3.va _
                        | k + 2, hk => simp at hk
                      · refine run_entry_at w (p.at_ j) (p.at_ mi) since s.toArray arr clock arr[l] ?_ ?_ (by simp) hnd
                        · rw [hw.2 j _ hrow ho.2.2, h2, hs, b1, hr2]
                          simp
                        · rw [hw.2 mi _ hrowm hom.2.2]
                          exact g2
                  · cases h
                · cases h
              · cases h
            · cases h
          · cases h
        · cases h
      · cases h
    · cases h
  · cases h
end
end DH

namespace DH
open Go Go.MapKept

section
variable {X : Ctx} {p : Pl} {m : Mem} {wb : World}

noncomputable def evBuiltin (E : Env) (t : List AV) (m : Mem) (b : Builtin) (args : List Operand) (tys : List TypeId) : RV :=
  match b, args, tys with
  | .len, [x], [ty] => (match mapTy E ty with | some (kt, et) => (match mapOf E m kt et (getO t x) with | some es => some ([], .one (.i64 es.length)) | none => none) | none => evLen E ty (getO t x))
  | .min, [x, y], _ => evMM minC (getO t x) (getO t y)
  | .max, [x, y], _ => evMM maxC (getO t x) (getO t y)
  | _, _, _ => none

theorem evBuiltin_ok {E : Env} (hE : EnvOk X.P E) (hb : MR X p m wb) {t : List AV} {b : Builtin} {args : Array Operand} {tys : Array TypeId} {ty : TypeId} {cs : List Prop} {v : AV} (h : evBuiltin E t m b args.toList tys.toList = some (cs, v))
    {ev : Operand → Value} (hev : ∀ x, VA X m.length p (getO t x) (ev x)) (consts : Array Bool) : E1 X p m wb (builtin b tys ty consts (args.map ev)) v := by
  obtain ⟨args⟩ := args
  obtain ⟨tys⟩ := tys
  simp only at h
  unfold evBuiltin at h
  split at h
  · rename_i x tt
    have e : Array.map ev ⟨[x]⟩ = #[ev x] := by simp
    rw [e]
    split at h
    · rename_i kt et hmt
      obtain ⟨hu, _⟩ := mapTy_ok (X := X) hE hmt
      split at h
      · rename_i es hmo
        simp only [Option.some.injEq, Prod.mk.injEq] at h
        obtain ⟨rfl, rfl⟩ := h
        rcases mapOf_ok hb hmo (hev x) with ⟨hv, rfl⟩ | ⟨i, arr, clock, _, _, hv, _, _, hA, hw⟩
        · refine E1.of_G1 ⟨.int .i64 0, .one _ _ (.i64 _), fun w _ => ?_⟩
          rw [hv]
          simp [Builtin.len_, run_underlying hu, goInt]
        · refine E1.of_G1 ⟨.int .i64 es.length, .one _ _ (.i64 _), fun w hwm => ?_⟩
          rw [hv, ← hA.1]
          simp [Builtin.len_, run_underlying hu, run_getObj_map (hw w hwm), goInt]
      · cases h
    · exact E1.of_G1 (evLen_ok hE h (hev _))
  · rename_i x y
    have e : Array.map ev ⟨[x, y]⟩ = #[ev x, ev y] := by simp
    rw [e]
    exact E1.of_G1 (evMin_ok h (hev _) (hev _))
  · rename_i x y
    have e : Array.map ev ⟨[x, y]⟩ = #[ev x, ev y] := by simp
    rw [e]
    exact E1.of_G1 (evMax_ok h (hev _) (hev _))
  · cases h

/-- what is caught by a function value -/
def caught (t : List AV) : List Operand → Option (List AC)
  | [] => some []
  | x :: l =>
    match getO t x, caught t l with
    | .one c, some cs => some (c :: cs)
    | _, _ => none

theorem caught_ok {N : Nat} {t : List AV} {ev : Operand → Value} (hev : ∀ x, VA X N p (getO t x) (ev x)) : ∀ {l : List Operand} {cs : List AC}, caught t l = some cs → VL X N p cs (l.map ev)
  | [], cs, h => by simp only [caught, Option.some.injEq] at h; subst h; exact ⟨rfl, fun j c u h1 _ => by simp at h1⟩
  | x :: l, cs, h => by
    unfold caught at h
    split at h
    · rename_i c cs' h1 h2
      injection h with h; subst h
      have ih := caught_ok hev h2
      refine ⟨by simp [ih.1], fun j c' u g1 g2 => ?_⟩
      cases j with
      | zero =>
        simp at g1 g2
        subst g1; subst g2
        have := hev x
        rw [h1] at this
        exact this.one_inv
      | succ j => exact ih.2 j c' u (by simpa using g1) (by simpa using g2)
    · cases h

def evMakeFunc (t : List AV) (fn : Fn) (first captured : List Operand) : RV :=
  match fn, first with
  | .func f, [] => (match caught t captured with | some cs => some ([], .one (.fn f cs)) | none => none)
  | _, _ => none

theorem VR.fn_of {N : Nat} {f : FuncId} {cs : List AC} {l : List Value} (h : VL X N p cs l) : VR X N p (.fn f cs) (.func (.func f) #[] l.toArray) := by
  have e : l.toArray = ((List.range cs.length).map fun j => l.getD j undef).toArray := by
    congr 1
    apply List.ext_getElem?
    intro j
    rw [List.getElem?_map]
    rcases Nat.lt_or_ge j l.length with hj | hj
    · rw [List.getElem?_range (by rw [h.1]; exact hj), List.getElem?_eq_getElem hj]
      simp [hj]
    · rw [List.getElem?_eq_none hj, List.getElem?_eq_none (by simp; rw [h.1]; exact hj)]
      rfl
  rw [e]
  refine .fn f cs _ (fun j c hj => ?_)
  have hlt : j < l.length := by have := (List.getElem?_eq_some_iff.1 hj).1; have := h.1; omega
  simpa [List.getD_eq_getElem?_getD, List.getElem?_eq_getElem hlt] using h.2 j c _ hj (List.getElem?_eq_getElem hlt)

/-- operations that only compute and read -/
noncomputable def evQ (E : Env) (t : List AV) (m : Mem) (op : Op) : RV :=
  match op with
  | .move x => some ([], getO t x)
  | .assign x => some ([], getO t x)
  | .pick c a b => evPick (getO t c) (getO t a) (getO t b)
  | .load ty a => evLoad E m ty (getO t a)
  | .nilCheck x => evNilCheck (getO t x)
  | .binOp op ty x y _ => evBinOp E ty op (getO t x) (getO t y)
  | .unOp op _ x => evUn E op (getO t x)
  | .convert s d x => evConv E s d (getO t x)
  | .sliceToArrayPointer ty x => evS2A E ty (getO t x)
  | .slice ty x lo hi mx => (match mx with | none => evSlice E ty (getO t x) (lo.map (getO t)) (hi.map (getO t)) | some k => (match hi with | some h => evSliceM E ty (getO t x) (lo.map (getO t)) (getO t h) (getO t k) | none => none))
  | .fieldAddr ty x f => evFieldAddr E ty (getO t x) f
  | .field ty x f => evField E ty (getO t x) f
  | .indexAddr ty x ix => evIxAddr E ty (getO t x) (getO t ix)
  | .index ty x ix => evIndex E ty (getO t x) (getO t ix)
  | .extract x i => evExtract (getO t x) i
  | .build ty parts => evBuild E t ty parts.toList
  | .makeFunc fn first captured => evMakeFunc t fn first.toList captured.toList
  | .lookup ty x k ok => evLookup E m ty (getO t x) (getO t k) ok
  | .entry x => evEntry m (getO t x)
  | .call c => (match c.callee with | .builtin b => evBuiltin E t m b c.args.toList c.argTypes.toList | _ => none)
  | _ => none

theorem bndV_map {N : Nat} {t : List AV} {ev : Operand → Value} (hev : ∀ x, VA X N p (getO t x) (ev x)) (o : Option Operand) : bndV X N p (o.map (getO t)) (o.map ev) := by
  cases o with
  | none => trivial
  | some x => exact hev x

theorem evQ_ok {E : Env} (hE : EnvOk X.P E) (hb : MR X p m wb) {t : List AV} {o : Oper} {cs : List Prop} {v : AV} (h : evQ E t m o.op = some (cs, v)) (hc : AllC cs) {ev : Operand → Value}
    (hev : ∀ x, VA X m.length p (getO t x) (ev x)) : E1 X p m wb (execOp ev o) v := by
  obtain ⟨dst, op, ty, pos, after, guard⟩ := o
  simp only at h
  unfold evQ at h
  split at h
  · simp only [Option.some.injEq, Prod.mk.injEq] at h; obtain ⟨rfl, rfl⟩ := h
    exact E1.pure (hev _)
  · simp only [Option.some.injEq, Prod.mk.injEq] at h; obtain ⟨rfl, rfl⟩ := h
    exact E1.pure (hev _)
  · rename_i c a b
    unfold evPick at h
    split at h
    · rename_i c' hcv
      have hv := hev c
      rw [hcv] at hv
      have hv := VA.bool hv
      split at h
      · simp only [Option.some.injEq, Prod.mk.injEq] at h; obtain ⟨rfl, rfl⟩ := h
        exact ⟨ev a, hev a, fun w _ => by simp [execOp, hv, asBool]⟩
      · simp only [Option.some.injEq, Prod.mk.injEq] at h; obtain ⟨rfl, rfl⟩ := h
        exact ⟨ev b, hev b, fun w _ => by simp [execOp, hv, asBool]⟩
    · cases h
  · exact E1.of_G1 (evLoad_ok hE hb h hc (hev _))
  · rename_i x
    have hv := hev x
    unfold evNilCheck at h
    split at h
    · rename_i i o hx
      rw [hx] at hv
      simp only [Option.some.injEq, Prod.mk.injEq] at h; obtain ⟨rfl, rfl⟩ := h
      have hv' := hv.one_inv.ptr_inv
      exact ⟨ev x, hv, fun w _ => by simp [execOp, hv'.2]⟩
    · rename_i r o hx
      rw [hx] at hv
      simp only [Option.some.injEq, Prod.mk.injEq] at h; obtain ⟨rfl, rfl⟩ := h
      have hv' := hv.one_inv
      generalize hz : ev x = z at hv hv'
      cases hv'
      exact ⟨_, hv, fun w _ => by simp [execOp, hz]⟩
    · cases h
  · exact E1.of_G1 (evBinOp_ok hE h hc _ _ (hev _) (hev _))
  · exact E1.of_G1 (evUn_ok h hc (hev _))
  · exact E1.of_G1 (evConv_ok hE h (hev _))
  · exact E1.of_G1 (evS2A_ok hE h hc (hev _))
  · split at h
    · exact E1.of_G1 (evSlice_ok hE h hc (hev _) (bndV_map hev _) (bndV_map hev _))
    · split at h
      · exact E1.of_G1 (evSliceM_ok hE h hc (hev _) (bndV_map hev _) (hev _) (hev _))
      · cases h
  · exact E1.of_G1 (evFieldAddr_ok hE h (hev _))
  · exact E1.of_G1 (evField_ok hE h hc (hev _))
  · exact E1.of_G1 (evIxAddr_ok hE h hc (hev _) (hev _))
  · exact E1.of_G1 (evIndex_ok hE h hc (hev _) (hev _))
  · exact E1.of_G1 (evExtract_ok h (hev _))
  · rename_i ty' parts
    have := evBuild_ok (wb := wb) hE h hc hev
    refine E1.of_G1 ?_
    have e : (parts.map fun (i, x) => (i, ev x)) = (parts.toList.map fun (i, x) => (i, ev x)).toArray := by
      apply Array.ext'; simp
    rw [e]
    exact this
  · rename_i fn first captured
    unfold evMakeFunc at h
    split at h
    · rename_i f hf
      split at h
      · rename_i cs' hcs
        simp only [Option.some.injEq, Prod.mk.injEq] at h; obtain ⟨rfl, rfl⟩ := h
        have hl := caught_ok hev hcs
        refine E1.of_G1 ?_
        refine ok1 (VR.fn_of hl) (fun w => ?_)
        have e1 : first.map ev = #[] := by apply Array.ext'; simp [hf]
        have e2 : captured.map ev = (captured.toList.map ev).toArray := by apply Array.ext'; simp
        rw [e1, e2]
        rfl
      · cases h
    · cases h
  · exact E1.of_G1 (evLookup_ok hE hb h hc (hev _) (hev _))
  · exact E1.of_G1 (evEntry_ok hb h (hev _))
  · rename_i c
    split at h
    · rename_i b hcal
      obtain ⟨u, h1, h2⟩ := evBuiltin_ok (wb := wb) (ty := ty) hE hb h hev (c.args.map fun | .const _ => true | _ => false)
      refine ⟨u, h1, fun w hw => ?_⟩
      have := h2 w hw
      simp only [execOp, resolve, hcal, Sem.run_bind, Sem.run_pure, Result.andThen_ok, invoke]
      exact this
    · cases h
  · cases h

theorem evQ_runs {E : Env} (hE : EnvOk X.P E) {t : List AV} {o : Oper} {cs : List Prop} {v : AV} (h : evQ E t m o.op = some (cs, v)) (hc : AllC cs) : OpRuns X o t m v m := by
  intro p a w hr
  obtain ⟨u, h1, h2⟩ := evQ_ok hE hr.mem h hc (getO_ok hr.slots)
  exact ⟨p, u, w, .inl (h2 w ⟨hr.mem, fun _ _ _ _ => rfl⟩), .refl _ _, Nat.le_refl _, h1, hr.mem⟩

theorem evQ_quiet {E : Env} (hE : EnvOk X.P E) (hb : MR X p m wb) {t : List AV} {o : Oper} {cs : List Prop} {v : AV} (h : evQ E t m o.op = some (cs, v)) (hc : AllC cs) : QRuns X p wb o t m v := by
  intro a hd hs
  obtain ⟨u, h1, h2⟩ := evQ_ok hE hb h hc (getO_ok hs)
  refine ⟨u, h1, fun w hw => ?_⟩
  unfold Oper.quietAt
  rw [h2 w hw]
  exact ⟨rfl, rfl⟩
end
end DH

namespace DH
open Go

section
variable {X : Ctx} {p : Pl} {m : Mem}

/-! New blocks, and stores -/

def Pl.put (p : Pl) (i b z : Nat) : Pl := ⟨fun j => if j = i then b else p.at_ j, fun j => if j = i then z else p.sz j, fun j => if j = i then false else p.ob j, p.fz⟩
/-- an object's place -/
def Pl.putO (p : Pl) (i b : Nat) : Pl := ⟨fun j => if j = i then b else p.at_ j, fun j => if j = i then 1 else p.sz j, fun j => if j = i then true else p.ob j, p.fz⟩

theorem Ext.put (p : Pl) (N b z : Nat) : Ext N p (p.put N b z) := ⟨fun i hi => by
  have : i ≠ N := by omega
  simp [Pl.put, this], fun _ _ h => h⟩
theorem Ext.putO (p : Pl) (N b : Nat) : Ext N p (p.putO N b) := ⟨fun i hi => by
  have : i ≠ N := by omega
  simp [Pl.putO, this], fun _ _ h => h⟩

theorem MR.live {w : World} (h : MR X p m w) {i : Nat} {row : List AC} (hi : m[i]? = some (some row)) (hz : p.sz i ≠ 0) : p.at_ i < w.heap.size := by
  rcases h.blk i row hi with ⟨h0, _⟩ | ⟨_, hb⟩
  · exact absurd h0 hz
  · cases ho : p.ob i with
    | false =>
      obtain ⟨cs, ty, fr, h1, _⟩ := hb.ex ho
      exact (Array.getElem?_eq_some_iff.1 h1).1
    | true =>
      obtain ⟨c, q, _, h1, _⟩ := hb.ob ho
      exact (Array.getElem?_eq_some_iff.1 h1).1

theorem ObjIs.mono {N N' : Nat} {p p' : Pl} {c : AC} {o : Obj} (h : ObjIs N p c o) (hn : N ≤ N') (he : Ext N p p') : ObjIs N' p' c o := by
  cases c <;> first | exact h | skip
  rename_i mi since seen stepped
  exact ⟨h.1.mono hn he, by rw [(he.own mi h.1.1).1]; exact h.2⟩

theorem BlkAt.mono {N N' : Nat} {p p' : Pl} {w w' : World} {b z : Nat} {o : Bool} {row : List AC} (h : BlkAt X N p w b z o row) (hn : N ≤ N') (he : Ext N p p') (hw : w'.heap[b]? = w.heap[b]?) : BlkAt X N' p' w' b z o row := by
  refine ⟨fun ho => ?_, fun ho => ?_⟩
  · obtain ⟨cs, ty, fr, h1, h2, h3, h4, h5⟩ := h.ex ho
    exact ⟨cs, ty, fr, by rw [hw]; exact h1, h2, h3, h4, fun j c u g1 g2 => (h5 j c u g1 g2).mono hn he⟩
  · obtain ⟨c, q, h1, h2, h3⟩ := h.ob ho
    exact ⟨c, q, h1, by rw [hw]; exact h2, h3.mono hn he⟩

theorem cell_of {w w' : World} {b : Nat} (h : w'.heap[b]? = w.heap[b]?) (o : Nat) : w'.cell? ⟨b, o, none⟩ = w.cell? ⟨b, o, none⟩ := by
  simp only [World.cell?]
  rw [h]

theorem MR.fzn_of {w : World} (h : MR X p m w) {p' : Pl} {m' : Mem} {w' : World} (hfz : p'.fz = p.fz) (hs : w.heap.size ≤ w'.heap.size) (hk : ∀ b G, p.fz b = some G → w'.heap[b]? = w.heap[b]?)
    (hd : ∀ b G, p.fz b = some G → ∀ (i : Nat) (row : List AC), m'[i]? = some (some row) → p'.sz i ≠ 0 → p'.at_ i ≠ b) :
    ∀ (b : Nat) (G : Nat → Option Value), p'.fz b = some G → ¬ X.old b ∧ b < w'.heap.size ∧ (∀ o, w'.cell? ⟨b, o, none⟩ = G o) ∧ ∀ (i : Nat) (row : List AC), m'[i]? = some (some row) → p'.sz i ≠ 0 → p'.at_ i ≠ b := by
  intro b G hG
  rw [hfz] at hG
  obtain ⟨q1, q2, q3, _⟩ := h.fzn b G hG
  exact ⟨q1, Nat.lt_of_lt_of_le q2 hs, fun o => by rw [cell_of (hk b G hG)]; exact q3 o, hd b G hG⟩

/-- one more block behind: what it is asked to be -/
theorem MR.push {w w' : World} (h : MR X p m w) {p' : Pl} {row : List AC} (he : Ext m.length p p') (hfz : p'.fz = p.fz)
    (ho : w'.os = w.os) (ht : w'.tape = w.tape) (hu : w'.output = w.output) (hs : w.heap.size ≤ w'.heap.size) (hold : ∀ b, b < w.heap.size → w'.heap[b]? = w.heap[b]?)
    (hb : (p'.sz m.length = 0 ∧ row = []) ∨ (p'.sz m.length ≠ 0 ∧ BlkAt X (m.length + 1) p' w' (p'.at_ m.length) (p'.sz m.length) (p'.ob m.length) row))
    (hnew : p'.sz m.length ≠ 0 → ¬ X.old (p'.at_ m.length)) (hdis : p'.sz m.length ≠ 0 → ∀ (i : Nat) (r : List AC), m[i]? = some (some r) → p.sz i ≠ 0 → p.at_ i ≠ p'.at_ m.length)
    (hdf : p'.sz m.length ≠ 0 → ∀ b G, p.fz b = some G → p'.at_ m.length ≠ b) : MR X p' (m ++ [some row]) w' := by
  have hN : (m ++ [some row]).length = m.length + 1 := by simp
  have hcase : ∀ (i : Nat) (r : List AC), (m ++ [some row])[i]? = some (some r) → (i < m.length ∧ m[i]? = some (some r)) ∨ (i = m.length ∧ r = row) := by
    intro i r hi
    rcases Nat.lt_or_ge i m.length with hlt | hge
    · rw [List.getElem?_append_left hlt] at hi; exact .inl ⟨hlt, hi⟩
    · rw [List.getElem?_append_right hge] at hi
      rcases Nat.eq_or_lt_of_le hge with e | hlt
      · subst e; simp at hi; exact .inr ⟨rfl, hi.symm⟩
      · rw [List.getElem?_eq_none (by simp; omega)] at hi; cases hi
  refine ⟨ho.trans h.os, ht.trans h.tape, hu.trans h.output, Nat.le_trans h.size hs, ?_, ?_, ?_, ?_, ?_⟩
  · intro b hb
    have := h.size
    rw [hold b (by have := hb.1; omega)]
    exact h.keep b hb
  · intro i r hi
    rw [hN]
    rcases hcase i r hi with ⟨hlt, hi⟩ | ⟨rfl, rfl⟩
    · rw [(he.own i hlt).1, (he.own i hlt).2.1, (he.own i hlt).2.2]
      rcases h.blk i r hi with h0 | ⟨hz, hb⟩
      · exact .inl h0
      · exact .inr ⟨hz, hb.mono (by omega) he (hold _ (h.live hi hz))⟩
    · exact hb
  · intro i r hi hz
    rcases hcase i r hi with ⟨hlt, hi⟩ | ⟨rfl, rfl⟩
    · rw [(he.own i hlt).1]; rw [(he.own i hlt).2.1] at hz; exact h.new i r hi hz
    · exact hnew hz
  · intro i j r s hi hj hzi hzj e
    rcases hcase i r hi with ⟨hlt, hi1⟩ | ⟨e1, _⟩ <;> rcases hcase j s hj with ⟨hlt', hj1⟩ | ⟨e2, _⟩
    · rw [(he.own i hlt).1, (he.own j hlt').1] at e; rw [(he.own i hlt).2.1] at hzi; rw [(he.own j hlt').2.1] at hzj
      exact h.inj i j r s hi1 hj1 hzi hzj e
    · rw [e2] at e hzj; rw [(he.own i hlt).1] at e; rw [(he.own i hlt).2.1] at hzi
      exact absurd e (hdis hzj i r hi1 hzi)
    · rw [e1] at e hzi; rw [(he.own j hlt').1] at e; rw [(he.own j hlt').2.1] at hzj
      exact absurd e.symm (hdis hzi j s hj1 hzj)
    · rw [e1, e2]
  · refine h.fzn_of hfz hs (fun b G hG => hold b (h.fzn b G hG).2.1) fun b G hG i r hi hz => ?_
    rcases hcase i r hi with ⟨hlt, hi⟩ | ⟨rfl, rfl⟩
    · rw [(he.own i hlt).1]; rw [(he.own i hlt).2.1] at hz; exact (h.fzn b G hG).2.2.2 i r hi hz
    · exact hdf hz b G hG

theorem MR.alloc {w w' : World} (h : MR X p m w) {cs : List AC} {l : List Value} {ty : TypeId} {fr : Nat × Nat} (hfr : fr.1 = fr.2 ∨ l.length ≤ fr.1)
    (hc : cs.length ≤ l.length) (hv : ∀ (j : Nat) (c : AC) (u : Value), cs[j]? = some c → l[j]? = some u → VR X m.length p c u)
    (ho : w'.os = w.os) (ht : w'.tape = w.tape) (hu : w'.output = w.output) (hh : w'.heap = w.heap.push (.cells l.toArray ty fr)) :
    MR X (p.put m.length w.heap.size l.length) (m ++ [some cs]) w' := by
  have hold : ∀ b, b < w.heap.size → w'.heap[b]? = w.heap[b]? := fun b hb => by rw [hh, Array.getElem?_push]; rw [if_neg (by omega)]
  have hat : (p.put m.length w.heap.size l.length).at_ m.length = w.heap.size := by simp [Pl.put]
  have hsz : (p.put m.length w.heap.size l.length).sz m.length = l.length := by simp [Pl.put]
  have hob : (p.put m.length w.heap.size l.length).ob m.length = false := by simp [Pl.put]
  refine h.push (Ext.put p _ _ _) rfl ho ht hu (by rw [hh, Array.size_push]; omega) hold ?_ ?_ ?_ ?_
  · rw [hsz, hat, hob]
    by_cases hz : l.length = 0
    · exact .inl ⟨hz, List.length_eq_zero_iff.1 (by omega)⟩
    · refine .inr ⟨hz, ⟨fun _ => ⟨l.toArray, ty, fr, by rw [hh]; simp, by simp, hc, hfr, fun j c u g1 g2 => ?_⟩, fun h => by cases h⟩⟩
      exact (hv j c u g1 (by simpa using g2)).mono (by omega) (Ext.put p _ _ _)
  · rw [hat]; intro _ hold; have := hold.1; have := h.size; omega
  · rw [hat]; intro _ i r hi hz e; have := h.live hi hz; omega
  · rw [hat]; intro _ b G hG e; have := (h.fzn b G hG).2.1; omega

/-- a new object -/
theorem MR.allocO {w w' : World} (h : MR X p m w) {c : AC} {q : Obj} (hq : ObjIs m.length p c q)
    (ho : w'.os = w.os) (ht : w'.tape = w.tape) (hu : w'.output = w.output) (hh : w'.heap = w.heap.push q) :
    MR X (p.putO m.length w.heap.size) (m ++ [some [c]]) w' := by
  have hold : ∀ b, b < w.heap.size → w'.heap[b]? = w.heap[b]? := fun b hb => by rw [hh, Array.getElem?_push]; rw [if_neg (by omega)]
  have hat : (p.putO m.length w.heap.size).at_ m.length = w.heap.size := by simp [Pl.putO]
  have hsz : (p.putO m.length w.heap.size).sz m.length = 1 := by simp [Pl.putO]
  have hob : (p.putO m.length w.heap.size).ob m.length = true := by simp [Pl.putO]
  refine h.push (Ext.putO p _ _) rfl ho ht hu (by rw [hh, Array.size_push]; omega) hold ?_ ?_ ?_ ?_
  · rw [hsz, hat, hob]
    exact .inr ⟨by decide, ⟨fun h => (by cases h), fun _ => ⟨c, q, rfl, by rw [hh]; simp, hq.mono (by omega) (Ext.putO p _ _)⟩⟩⟩
  · rw [hat]; intro _ hold; have := hold.1; have := h.size; omega
  · rw [hat]; intro _ i r hi hz e; have := h.live hi hz; omega
  · rw [hat]; intro _ b G hG e; have := (h.fzn b G hG).2.1; omega

theorem lay_lt {α : Type} (l : List α) (o : Nat) (cs : List α) (h : o + cs.length ≤ l.length) {i : Nat} (hi : i < o) : (lay l o cs)[i]? = l[i]? := by
  unfold lay
  rw [List.append_assoc, List.getElem?_append_left (by simp; omega), List.getElem?_take_of_lt hi]

theorem lay_mid {α : Type} (l : List α) (o : Nat) (cs : List α) (h : o + cs.length ≤ l.length) {i : Nat} (hi : o ≤ i) (hi2 : i < o + cs.length) : (lay l o cs)[i]? = cs[i - o]? := by
  have t : (l.take o).length = o := by simp; omega
  unfold lay
  rw [List.append_assoc, List.getElem?_append_right (by omega), t, List.getElem?_append_left (by omega)]

theorem lay_ge {α : Type} (l : List α) (o : Nat) (cs : List α) (h : o + cs.length ≤ l.length) {i : Nat} (hi : o + cs.length ≤ i) : (lay l o cs)[i]? = l[i]? := by
  have t : (l.take o).length = o := by simp; omega
  unfold lay
  rw [List.append_assoc, List.getElem?_append_right (by omega), t, List.getElem?_append_right (by omega), List.getElem?_drop]
  congr 1
  omega

/-- cells stored one by one into a block that is not frozen -/
theorem run_storeCells {P : Program} (b o : Nat) (ty : TypeId) (fr : Nat × Nat) : ∀ (l : List Value) (k : Nat) (w : World) (cs : Array Value), w.heap[b]? = some (.cells cs ty fr) →
    (∀ o, o < cs.size → ¬ (fr.1 ≤ o ∧ o < fr.2)) → (∀ u ∈ l, u.oneCell' = true) → o + k + l.length ≤ cs.size →
    ∃ w', (storeCells ⟨b, o, none⟩ l k).run P w = .ok () w' ∧ w'.os = w.os ∧ w'.tape = w.tape ∧ w'.output = w.output ∧ w'.heap.size = w.heap.size ∧
      w'.heap[b]? = some (.cells (lay cs.toList (o + k) l).toArray ty fr) ∧ ∀ c, c ≠ b → w'.heap[c]? = w.heap[c]?
  | [], k, w, cs, hb, _, _, _ => ⟨w, rfl, rfl, rfl, rfl, rfl, by simp [lay, hb], fun _ _ => rfl⟩
  | v :: l, k, w, cs, hb, hf, h1, hk => by
    have hlt : o + k < cs.size := by simp at hk; omega
    have hcell : w.cell? ⟨b, o + k, none⟩ = some cs[o + k] := by simp [World.cell?, hb, hlt]
    have hfro : w.frozen? ⟨b, o + k, none⟩ = false := by
      have := hf (o + k) hlt
      simp only [World.frozen?, hb]
      rw [Bool.eq_false_iff]
      intro h
      simp at h
      exact this h
    have hst : (store ⟨b, o + k, none⟩ v).run P w = .ok () (w.setCell ⟨b, o + k, none⟩ v) := by
      rw [run_store P w _ v _ (h1 v (by simp)), hcell]
      simp [hfro]
    have hb2 : (w.setCell ⟨b, o + k, none⟩ v).heap[b]? = some (.cells (cs.setIfInBounds (o + k) v) ty fr) := by
      simp [World.setCell, Array.getElem?_modify, hb]
    obtain ⟨w', g1, g2, g3, g4, g5, g6, g7⟩ := run_storeCells b o ty fr l (k + 1) (w.setCell ⟨b, o + k, none⟩ v) _ hb2 (by simpa using hf) (fun u hu => h1 u (by simp [hu])) (by simp at hk ⊢; omega)
    refine ⟨w', ?_, g2, g3, g4, by rw [g5]; simp [World.setCell], ?_, fun c hc => by rw [g7 c hc]; simp [World.setCell, Array.getElem?_modify]; intro e; exact absurd e.symm hc⟩
    · unfold storeCells
      rw [Sem.run_bind, Addr.add_lit, hst]
      exact g1
    · rw [g6]
      congr 3
      rw [Array.toList_setIfInBounds]
      apply List.ext_getElem?
      intro i
      have hlen : cs.toList.length = cs.size := by simp
      have hl1 : o + (k + 1) + l.length ≤ (cs.toList.set (o + k) v).length := by simp at hk ⊢; omega
      have hl2 : o + k + (v :: l).length ≤ cs.toList.length := by rw [hlen]; exact hk
      rcases Nat.lt_or_ge i (o + k) with hi | hi
      · rw [lay_lt _ _ _ hl1 (by omega), lay_lt _ _ _ hl2 hi, List.getElem?_set_ne (by omega)]
      · rcases Nat.eq_or_lt_of_le hi with e | hi2
        · subst e
          rw [lay_lt _ _ _ hl1 (by omega), lay_mid _ _ _ hl2 (by omega) (by simp), List.getElem?_set_self (by omega)]
          simp
        · rcases Nat.lt_or_ge i (o + k + 1 + l.length) with hd | hd
          · rw [lay_mid _ _ _ hl1 (by omega) (by omega), lay_mid _ _ _ hl2 (by omega) (by simp; omega), show i - (o + k) = (i - (o + (k + 1))) + 1 by omega, List.getElem?_cons_succ]
          · rw [lay_ge _ _ _ hl1 (by omega), lay_ge _ _ _ hl2 (by simp; omega), List.getElem?_set_ne (by omega)]

theorem MR.write {w w' : World} (h : MR X p m w) {i : Nat} {row row' : List AC} (hi : m[i]? = some (some row)) (hz : p.sz i ≠ 0) (hlen : row'.length ≤ p.sz i)
    (ho : w'.os = w.os) (ht : w'.tape = w.tape) (hu : w'.output = w.output) (hs : w'.heap.size = w.heap.size) (hother : ∀ c, c ≠ p.at_ i → w'.heap[c]? = w.heap[c]?)
    (hb : BlkAt X m.length p w' (p.at_ i) (p.sz i) (p.ob i) row') : MR X p (m.set i (some row')) w' := by
  have hN : (m.set i (some row')).length = m.length := by simp
  have hilt := (List.getElem?_eq_some_iff.1 hi).1
  have hcase : ∀ (j : Nat) (r : List AC), (m.set i (some row'))[j]? = some (some r) → (j = i ∧ r = row') ∨ (j ≠ i ∧ m[j]? = some (some r)) := by
    intro j r hj
    rw [List.getElem?_set] at hj
    by_cases e : i = j
    · subst e; rw [if_pos rfl, if_pos hilt] at hj; injection hj with hj; injection hj with hj; exact .inl ⟨rfl, hj.symm⟩
    · rw [if_neg e] at hj; exact .inr ⟨fun e' => e e'.symm, hj⟩
  refine ⟨ho.trans h.os, ht.trans h.tape, hu.trans h.output, by rw [hs]; exact h.size, ?_, ?_, ?_, ?_, ?_⟩
  · intro b hb'
    have hne : b ≠ p.at_ i := fun e => h.new i row hi hz (e ▸ hb')
    rw [hother b hne]; exact h.keep b hb'
  · intro j r hj
    rw [hN]
    rcases hcase j r hj with ⟨rfl, rfl⟩ | ⟨hne, hj⟩
    · exact .inr ⟨hz, hb⟩
    · rcases h.blk j r hj with h0 | ⟨hzj, hbj⟩
      · exact .inl h0
      · exact .inr ⟨hzj, hbj.mono (Nat.le_refl _) (.refl _ _) (hother _ (fun e => hne (h.inj j i r row hj hi hzj hz e)))⟩
  · intro j r hj hzj
    rcases hcase j r hj with ⟨rfl, rfl⟩ | ⟨hne, hj⟩
    · exact h.new j row hi hzj
    · exact h.new j r hj hzj
  · intro j k r s hj hk hzj hzk e
    rcases hcase j r hj with ⟨e1, _⟩ | ⟨_, hj1⟩ <;> rcases hcase k s hk with ⟨e2, _⟩ | ⟨_, hk1⟩
    · rw [e1, e2]
    · subst e1; exact h.inj _ _ _ _ hi hk1 hzj hzk e
    · subst e2; exact h.inj _ _ _ _ hj1 hi hzj hzk e
    · exact h.inj _ _ _ _ hj1 hk1 hzj hzk e
  · refine h.fzn_of rfl (by rw [hs]; exact Nat.le_refl _) (fun b G hG => hother b (fun e => (h.fzn b G hG).2.2.2 i row hi hz e.symm)) fun b G hG j r hj hzj => ?_
    rcases hcase j r hj with ⟨e1, _⟩ | ⟨_, hj1⟩
    · subst e1; exact (h.fzn b G hG).2.2.2 j row hi hzj
    · exact (h.fzn b G hG).2.2.2 j r hj1 hzj

/-- cells laid into a tracked block: the stores go through, and the memory is as it should be -/
theorem MR.stores {w : World} (h : MR X p m w) {i : Nat} {row cs : List AC} (hi : m[i]? = some (some row)) (hob : p.ob i = false) {l : List Value} (hl : VL X m.length p cs l) (o : Nat) (hb : o + cs.length ≤ row.length) :
    ∃ w', (storeCells ⟨p.at_ i, o, none⟩ l).run X.P w = .ok () w' ∧ MR X p (m.set i (some (lay row o cs))) w' := by
  have h1 : ∀ u ∈ l, u.oneCell' = true := by
    intro u hu
    obtain ⟨j, hj⟩ := List.getElem?_of_mem hu
    have hlt : j < cs.length := by have := (List.getElem?_eq_some_iff.1 hj).1; have := hl.1; omega
    exact (hl.2 j _ u (List.getElem?_eq_getElem hlt) hj).oneCell
  rcases h.blk i row hi with ⟨hz, rfl⟩ | ⟨hz, hblk⟩
  · have hc : cs = [] := List.length_eq_zero_iff.1 (by rw [List.length_nil] at hb; omega)
    have hl0 : l = [] := List.length_eq_zero_iff.1 (by have := hl.1; rw [hc] at this; simp at this; omega)
    subst hc; subst hl0
    refine ⟨w, rfl, ?_⟩
    have : m.set i (some (lay [] o [])) = m := by
      apply List.ext_getElem?
      intro j
      rw [List.getElem?_set]
      split
      · rename_i e; subst e; rw [hi]; simp [lay]; exact (List.getElem?_eq_some_iff.1 hi).1
      · rfl
    rw [this]; exact h
  · obtain ⟨vs, ty, fr, g1, g2, g3, g4, g5⟩ := hblk.ex hob
    have hlen := hl.1
    obtain ⟨w', k1, k2, k3, k4, k5, k6, k7⟩ := run_storeCells (P := X.P) (p.at_ i) o ty fr l 0 w vs g1 (by rw [g2]; exact frz g4) h1 (by omega)
    refine ⟨w', k1, h.write hi hz (by rw [lay_length _ _ _ hb]; exact g3) k2 k3 k4 k5 k7 ⟨fun _ => ⟨_, ty, fr, k6, ?_, by rw [lay_length _ _ _ hb]; exact g3, g4, ?_⟩, fun h => by rw [hob] at h; cases h⟩⟩
    · rw [Nat.add_zero]; simp; rw [lay_length _ _ _ (by simp; omega)]; simpa using g2
    · intro j c u hj hu
      have hlt : j < row.length := by have := (List.getElem?_eq_some_iff.1 hj).1; rwa [lay_length _ _ _ hb] at this
      have hvl : VL X m.length p row (vs.toList.take row.length) := ⟨by simp; omega, fun j c u a1 a2 => by
        have : j < row.length := (List.getElem?_eq_some_iff.1 a1).1
        rw [List.getElem?_take_of_lt this] at a2
        exact g5 j c u a1 (by simpa using a2)⟩
      have := (VL_lay hvl hl o hb).2 j c u hj
      apply this
      rw [Nat.add_zero] at hu
      simp only [List.getElem?_toArray] at hu
      have hl1 : o + l.length ≤ vs.toList.length := by simp; omega
      have hl2 : o + l.length ≤ (vs.toList.take row.length).length := by simp; omega
      rcases Nat.lt_or_ge j o with a | a
      · rw [lay_lt _ _ _ hl1 a] at hu
        rw [lay_lt _ _ _ hl2 a, List.getElem?_take_of_lt hlt]; exact hu
      · rcases Nat.lt_or_ge j (o + l.length) with b | b
        · rw [lay_mid _ _ _ hl1 a b] at hu
          rw [lay_mid _ _ _ hl2 a b]; exact hu
        · rw [lay_ge _ _ _ hl1 b] at hu
          rw [lay_ge _ _ _ hl2 b, List.getElem?_take_of_lt hlt]; exact hu
end
end DH

namespace DH
open Go

abbrev RE := Option (List Prop × AV × Mem)

section
variable {X : Ctx} {m : Mem}

/-- what an operation that may turn memory does -/
def EOk (X : Ctx) (m : Mem) (s : Sem Value) (p : Pl) (w : World) (v : AV) (m' : Mem) : Prop :=
  ∃ p' u w', s.run X.P w = .ok u w' ∧ Ext m.length p p' ∧ m.length ≤ m'.length ∧ VA X m'.length p' v u ∧ MR X p' m' w'

/-- and nothing else is turned -/
def EOkG (X : Ctx) (m : Mem) (s : Sem Value) (p : Pl) (w : World) (v : AV) (m' : Mem) : Prop :=
  ∃ p' u w', s.run X.P w = .ok u w' ∧ Ext m.length p p' ∧ m.length ≤ m'.length ∧ VA X m'.length p' v u ∧ MR X p' m' w' ∧ Grow w w'

theorem alloc_grow (w : World) (o : Obj) : Grow w (w.alloc o) := by
  refine ⟨rfl, rfl, rfl, ?_, fun b hb => ?_⟩
  · show _ ≤ (w.heap.push o).size
    simp
  · show (w.heap.push o)[b]? = _
    rw [Array.getElem?_push, if_neg (by omega)]

theorem VR.ptr_new (p : Pl) (N b z : Nat) : VR X (N + 1) (p.put N b z) (.ptr N 0) (.pointer (some ⟨b, 0, none⟩)) := by
  have h := VR.ptr (X := X) (N := N + 1) (p := p.put N b z) N 0 ⟨by omega, by simp [Pl.put]⟩
  have this : (p.put N b z).at_ N = b := by simp [Pl.put]
  rw [this] at h
  exact h

theorem VR.gs_new (p : Pl) (N b n e c z : Nat) (hc : n ≤ c) (hz : c * e ≤ z) : VR X (N + 1) (p.put N b z) (.gs N n e) (.slice (some ⟨b, 0, none⟩) n c) := by
  have h := VR.gs (X := X) (N := N + 1) (p := p.put N b z) N n e c ⟨by omega, by simp [Pl.put]⟩ hc (by simp [Pl.put]; exact hz)
  have : (p.put N b z).at_ N = b := by simp [Pl.put]
  rw [this] at h
  exact h

/-- a new block whose cells are all known -/
theorem EOk.new {p : Pl} {w : World} (h : MR X p m w) {cs : List AC} {l : List Value} (hl : VL X m.length p cs l) (ty : TypeId) :
    MR X (p.put m.length w.heap.size l.length) (m ++ [some cs]) (w.alloc (.cells l.toArray ty)) :=
  h.alloc (fr := (0, 0)) (.inl rfl) (by rw [hl.1]; exact Nat.le_refl _) hl.2 rfl rfl rfl rfl

/-! alloc, box, store -/

def evAlloc (E : Env) (m : Mem) (e : TypeId) : RE :=
  if known E e then snocF m (some (E.ti e).zero) fun m' => some ([], .one (.ptr (lenF m) 0), m') else none

theorem evAlloc_ok {E : Env} (hE : EnvOk X.P E) {e : TypeId} {cs : List Prop} {v : AV} {m' : Mem} (h : evAlloc E m e = some (cs, v, m')) {p : Pl} {w : World} (hm : MR X p m w) :
    EOkG X m (Instr.alloc e true (.tuple #[])) p w v m' := by
  unfold evAlloc at h
  split at h
  · rename_i hk
    rw [snocF_eq, lenF_eq] at h
    simp only [Option.some.injEq, Prod.mk.injEq] at h
    obtain ⟨rfl, rfl, rfl⟩ := h
    obtain ⟨z, hz1, hz2⟩ := zero_ok (known_ok hE hk)
    refine ⟨p.put m.length w.heap.size z.cells.toList.length, .pointer (some ⟨w.heap.size, 0, none⟩), w.alloc (.cells z.cells.toList.toArray e), ?_, .put _ _ _ _, by simp, ?_, EOk.new hm (hz2 X m.length p) e, alloc_grow _ _⟩
    · simp only [Instr.alloc, Sem.run_bind, hz1, Result.andThen_ok, newVar, newRow, run_newObj, Sem.run_pure]
      rfl
    · rw [List.length_append]
      exact .one _ _ (VR.ptr_new _ _ _ _)
  · cases h

def evBox (m : Mem) (x : AV) : RE :=
  match cellsOf x with
  | some cs => snocF m (some cs) fun m' => some ([], .one (.ptr (lenF m) 0), m')
  | none => none

theorem evBox_ok {x : AV} {cs : List Prop} {v : AV} {m' : Mem} (h : evBox m x = some (cs, v, m')) {p : Pl} {w : World} (hm : MR X p m w) {vx : Value} (hx : VA X m.length p x vx) (e : TypeId) :
    EOkG X m (Instr.box e vx) p w v m' := by
  unfold evBox at h
  split at h
  · rename_i cs' hcs
    rw [snocF_eq, lenF_eq] at h
    simp only [Option.some.injEq, Prod.mk.injEq] at h
    obtain ⟨rfl, rfl, rfl⟩ := h
    have hl := cellsOf_ok hcs hx
    refine ⟨p.put m.length w.heap.size vx.cells.toList.length, .pointer (some ⟨w.heap.size, 0, none⟩), w.alloc (.cells vx.cells.toList.toArray e), ?_, .put _ _ _ _, by simp, ?_, EOk.new hm hl e, alloc_grow _ _⟩
    · simp only [Instr.box, Sem.run_bind, Result.andThen_ok, newVar, newRow, run_newObj, Sem.run_pure]
      rfl
    · rw [List.length_append]
      exact .one _ _ (VR.ptr_new _ _ _ _)
  · cases h

/-- cells over those of a row: one cell is set -/
def layS (row : List AC) (o : Nat) (cs : List AC) : List AC :=
  match cs with
  | [c] => row.set o c
  | _ => lay row o cs

theorem layS_eq {row : List AC} {o : Nat} {cs : List AC} (h : o + cs.length ≤ row.length) : layS row o cs = lay row o cs := by
  unfold layS
  split
  · rename_i c
    unfold lay
    simp at h
    rw [List.set_eq_take_append_cons_drop, if_pos (by omega)]
    simp
  · rfl

def evStore (E : Env) (m : Mem) (ty : TypeId) (x v : AV) : RE :=
  match x with
  | .one (.ptr i o) =>
    match gt none m i, E.esz ty, cellsOf v with
    | some row, some s, some cs =>
      (match E.sym ty with
      | false => if Nat.beq (lenF cs) s && Nat.ble (o + s) (lenF row) then layF row o cs fun row' => setF m i (some row') fun m' => some ([], .any, m') else none
      | true => some ([cs.length = s ∧ o + s ≤ row.length], .any, m.set i (some (layS row o cs))))
    | _, _, _ => none
  | _ => none

theorem evStore_ok {E : Env} (hE : EnvOk X.P E) {ty : TypeId} {x v : AV} {cs : List Prop} {r : AV} {m' : Mem} (h : evStore E m ty x v = some (cs, r, m')) (hc : AllC cs) {p : Pl} {w : World} (hm : MR X p m w) {vx vv : Value}
    (hx : VA X m.length p x vx) (hv : VA X m.length p v vv) : ∃ w', (Instr.storeAt ty vx vv).run X.P w = .ok () w' ∧ m'.length = m.length ∧ MR X p m' w' ∧ r = .any := by
  unfold evStore at h
  split at h
  · rename_i i o
    split at h
    · rename_i row s cs' hrow hs hcs
      obtain ⟨ht, hsz, h1⟩ := esz_ok hE hs
      obtain ⟨hlt, rfl⟩ := hx.one_inv.ptr_inv
      have hl := cellsOf_ok hcs hv
      have hall : cs'.length = s ∧ o + s ≤ row.length ∧ m' = m.set i (some (lay row o cs')) ∧ r = .any := by
        split at h
        · split at h
          · rename_i hb
            rw [Bool.and_eq_true] at hb
            have hb1 := beq_true hb.1
            have hb2 := Nat.le_of_ble_eq_true hb.2
            rw [lenF_eq] at hb1 hb2
            rw [layF_eq, setF_eq] at h
            simp only [Option.some.injEq, Prod.mk.injEq] at h
            obtain ⟨rfl, rfl, rfl⟩ := h
            exact ⟨hb1, hb2, rfl, rfl⟩
          · cases h
        · simp only [Option.some.injEq, Prod.mk.injEq] at h
          obtain ⟨rfl, rfl, rfl⟩ := h
          have := hc.1
          exact ⟨this.1, this.2, by rw [layS_eq (by omega)], rfl⟩
      obtain ⟨e1, e2, rfl, rfl⟩ := hall
      obtain ⟨w', g1, g2⟩ := hm.stores (gt_mem hrow) hlt.2 hl o (by omega)
      refine ⟨w', ?_, by simp, g2, rfl⟩
      have hsize : vv.cells.size = s := by have := hl.1; simp at this; omega
      simp only [Instr.storeAt, Instr.sureAddr, storeVar, Sem.run_bind, Sem.run_pure, Result.andThen_ok, ht.szrun]
      rw [if_neg (by rw [hsize, hsz]; simp)]
      exact g1
    · cases h
  · cases h

/-! slices that are made -/

def zeros (z : List AC) (n : Nat) : List AC := (List.replicate n z).flatten

theorem zeros_length (z : List AC) (n : Nat) : (zeros z n).length = n * z.length := by simp [zeros, List.length_flatten]

theorem zero_cells (z : Array Value) (s n : Nat) (hs : z.size = s) (h1 : 1 ≤ s) : ((Array.range (n * s)).map fun i => z[i % z.size]!) = (List.replicate n z.toList).flatten.toArray := by
  apply Array.ext'
  rw [Array.toList_map, Array.toList_range]
  show _ = (List.replicate n z.toList).flatten
  induction n with
  | zero => simp
  | succ n ih =>
    rw [List.replicate_succ', List.flatten_append, ← ih, Nat.add_mul, Nat.one_mul, List.range_add, List.map_append]
    congr 1
    simp only [List.flatten_cons, List.flatten_nil, List.append_nil, List.map_map]
    apply List.ext_getElem?
    intro i
    rw [List.getElem?_map]
    rcases Nat.lt_or_ge i s with hi | hi
    · rw [List.getElem?_range hi]
      have e : (n * s + i) % s = i := by rw [Nat.mul_comm, Nat.mul_add_mod, Nat.mod_eq_of_lt hi]
      have hi' : i < z.size := by omega
      simp only [Function.comp, Option.map_some, hs, e]
      rw [getElem!_pos z i hi', Array.getElem?_toList, Array.getElem?_eq_getElem hi']
    · rw [List.getElem?_eq_none (by simpa using hi), List.getElem?_eq_none (by simp; omega)]
      rfl

theorem VL_zeros {N : Nat} {p : Pl} {z : List AC} {l : List Value} (h : VL X N p z l) : ∀ n, VL X N p (zeros z n) (List.replicate n l).flatten
  | 0 => by simp [zeros, VL]
  | n + 1 => by
    have ih := VL_zeros h n
    unfold zeros at *
    rw [List.replicate_succ, List.replicate_succ, List.flatten_cons, List.flatten_cons]
    refine ⟨by simp [h.1, ih.1], fun j c u hj hu => ?_⟩
    rcases Nat.lt_or_ge j z.length with a | a
    · rw [List.getElem?_append_left a] at hj
      rw [List.getElem?_append_left (by rw [← h.1]; exact a)] at hu
      exact h.2 j c u hj hu
    · rw [List.getElem?_append_right a] at hj
      rw [List.getElem?_append_right (by rw [← h.1]; exact a), ← h.1] at hu
      exact ih.2 _ c u hj hu

/-- a literal of a slice: its cells laid over zeros -/
def evBuildSlice (E : Env) (t : List AV) (m : Mem) (ty : TypeId) (len : Nat) (parts : List (Nat × Operand)) : RE :=
  match (E.ti ty).d with
  | .slice e =>
    match E.esz e with
    | some s =>
      if Nat.beq (lenF (E.ti e).zero) s && Nat.ble (len * s) 16777216 then
        fillF E ⟨.array len e, 0, 0, [], true, false⟩ t parts (zeros (E.ti e).zero len) fun cs => snocF m (some cs) fun m' => some ([], .one (.gs (lenF m) len s), m')
      else none
    | none => none
  | _ => none

theorem evBuildSlice_ok {E : Env} (hE : EnvOk X.P E) {t : List AV} {ty : TypeId} {len : Nat} {parts : List (Nat × Operand)} {cs : List Prop} {v : AV} {m' : Mem}
    (h : evBuildSlice E t m ty len parts = some (cs, v, m')) {p : Pl} {w : World} (hm : MR X p m w) {ev : Operand → Value} (hev : ∀ x, VA X m.length p (getO t x) (ev x)) :
    EOkG X m (Instr.buildSlice ty len (parts.map fun (i, x) => (i, ev x)).toArray) p w v m' := by
  unfold evBuildSlice at h
  split at h
  · rename_i e hd
    have hu := und_slice (d_ok hE hd (by simp)) hd
    split at h
    · rename_i s hs
      obtain ⟨he, hsz, h1⟩ := esz_ok hE hs
      split at h
      · rename_i hb
        rw [Bool.and_eq_true] at hb
        have hb1 := beq_true hb.1
        have hb2 := Nat.le_of_ble_eq_true hb.2
        rw [lenF_eq] at hb1
        obtain ⟨qs, r, hf, hq, hk⟩ := fillF_eq h
        rw [snocF_eq, lenF_eq] at hk
        simp only [Option.some.injEq, Prod.mk.injEq] at hk
        obtain ⟨rfl, rfl, rfl⟩ := hk
        obtain ⟨z, hz1, hz2⟩ := zero_ok he
        have hzs : z.cells.size = s := by have := (hz2 X m.length p).1; simp at this; omega
        have hpl : ∀ i off s', place E ⟨.array len e, 0, 0, [], true, false⟩ i = some (off, s') → (fun i => some (i * s, s)) i = some (off, s') := by
          intro i off s' hp
          simp only [place, hs] at hp
          exact hp
        obtain ⟨l', g1, g2⟩ := fill_ok (pl := fun i => some (i * s, s)) hpl hev hf hq (VL_zeros (hz2 X m.length p) len)
        have hrun : ∀ w, (Go.sizeOf e).run X.P w = .ok s w := fun w => by rw [hsz]; exact he.szrun w
        have hlen : l'.length = len * s := by
          have hfl : ∀ (ps : List (Nat × Operand)) (cs : List AC) (qs : List Prop) (r : List AC), fillS E ⟨.array len e, 0, 0, [], true, false⟩ t ps cs = some (qs, r) → AllC qs → r.length = cs.length := by
            intro ps
            induction ps with
            | nil => intro cs qs r h _; simp only [fillS, Option.some.injEq, Prod.mk.injEq] at h; rw [h.2]
            | cons q ps ih =>
              intro cs qs r h hq
              obtain ⟨i, x⟩ := q
              unfold fillS at h
              split at h
              · split at h
                · rename_i h3
                  simp only [Option.some.injEq, Prod.mk.injEq] at h
                  obtain ⟨rfl, rfl⟩ := h
                  rw [ih _ _ _ h3 hq.2, lay_length _ _ _ (by have := hq.1; omega)]
                · cases h
              · cases h
          have := hfl _ _ _ _ hf hq
          rw [← g2.1, this, zeros_length, hb1]
        refine ⟨p.put m.length w.heap.size l'.length, .slice (some ⟨w.heap.size, 0, none⟩) len len, w.alloc (.cells l'.toArray e), ?_, .put _ _ _ _, by simp, ?_, EOk.new hm g2 e, alloc_grow _ _⟩
        · have hno : ¬ (len * s > 2 ^ 24) := by omega
          simp only [Instr.buildSlice, Sem.run_bind, run_underlying hu, Result.andThen_ok, hrun, hno, if_false]
          by_cases h0 : len * s = 0
          · have hl0 : len = 0 := by rcases Nat.mul_eq_zero.1 h0 with h | h <;> omega
            subst hl0
            simp only [Nat.zero_mul, if_true, Sem.run_pure, Sem.run_bind, Result.andThen_ok]
            simp only [List.replicate_zero, List.flatten_nil] at g1
            rw [show (Array.map (fun x => (#[] : Array Value)[x % (#[] : Array Value).size]!) (Array.range 0)) = ([] : List Value).toArray by simp, g1]
            simp only [newRow, Sem.run_bind, run_newObj, Result.andThen_ok, Sem.run_pure]
            rfl
          · simp only [h0, if_false, Sem.run_bind, hz1, Result.andThen_ok, Sem.run_pure]
            rw [zero_cells z.cells s len hzs h1, g1]
            simp only [newRow, Sem.run_bind, run_newObj, Result.andThen_ok, Sem.run_pure]
            rfl
        · rw [List.length_append]
          exact .one _ _ (VR.gs_new _ _ _ _ _ _ _ (Nat.le_refl _) (by rw [hlen]; exact Nat.le_refl _))
      · cases h
    · cases h
  · cases h
end
end DH

namespace DH
open Go

section
variable {X : Ctx} {m : Mem} {p : Pl}

/-! What a slice holds -/

def wS (c : Option (List Prop)) (cells : List AC) (n : Nat) : Option (List Prop × List AC × Nat) :=
  match c with
  | some cs => some (cs, cells, n)
  | none => none

theorem wS_eq {c : Option (List Prop)} {cells cells' : List AC} {n n' : Nat} {cs : List Prop} (h : wS c cells n = some (cs, cells', n')) : c = some cs ∧ cells = cells' ∧ n = n' := by
  unfold wS at h
  split at h
  · simp only [Option.some.injEq, Prod.mk.injEq] at h; obtain ⟨rfl, rfl, rfl⟩ := h; exact ⟨rfl, rfl, rfl⟩
  · cases h

def ckLen (lit : Bool) (o n : Nat) (row : List AC) : Option (List Prop) := ck lit (Nat.ble (o + n) (lenF row)) (o + n ≤ row.length)

theorem ckLen_ok {lit : Bool} {o n : Nat} {row : List AC} {cs : List Prop} (h : ckLen lit o n row = some cs) (hc : AllC cs) : o + n ≤ row.length :=
  ck_ok h (fun hb => by have := Nat.le_of_ble_eq_true hb; rwa [lenF_eq] at this) hc

def srcC (lit : Bool) (m : Mem) (e : Nat) (x : AC) : Option (List Prop × List AC × Nat) :=
  match x with
  | .xs row o n => wS (ckLen lit o (n * e) row) ((row.drop o).take (n * e)) n
  | .sv i o n => (match gt none m i with | some row => wS (ckLen lit o (n * e) row) ((row.drop o).take (n * e)) n | none => none)
  | .gs i n _ => (match gt none m i with | some row => wS (ckLen lit 0 (n * e) row) ((row.drop 0).take (n * e)) n | none => none)
  | .ns => some ([], [], 0)
  | .s a => if Nat.beq e 1 then some ([], a.map .u8, a.length) else none
  | _ => none

theorem srcC_ok {wb : World} (hb : MR X p m wb) {lit : Bool} {e : Nat} {x : AC} {cs : List Prop} {cells : List AC} {n : Nat} (h : srcC lit m e x = some (cs, cells, n)) (hc : AllC cs) {v : Value} (hx : VR X m.length p x v) :
    (∀ w, (Builtin.lenOf v).run X.P w = .ok n w) ∧ cells.length = n * e ∧ ∀ k, k ≤ n → ∃ l, VL X m.length p (cells.take (k * e)) l ∧ ∀ w, MRw X p m wb w → (Builtin.firstCells e k v).run X.P w = .ok l.toArray w := by
  have rows : ∀ {row : List AC} {b k0 o n c : Nat}, RowAt X p m wb row b k0 → o + n * e ≤ row.length → ∀ k, k ≤ n →
      ∃ l, VL X m.length p (((row.drop o).take (n * e)).take (k * e)) l ∧ ∀ w, MRw X p m wb w → (Builtin.firstCells e k (.slice (some ⟨b, k0 + o, none⟩) n c)).run X.P w = .ok l.toArray w := by
    intro row b k0 o n c hr ho k hk
    have hle : k * e ≤ n * e := Nat.mul_le_mul_right e hk
    obtain ⟨l, h1, h2, h3⟩ := hr.cells o (k * e) (by omega)
    refine ⟨l, ?_, fun w hw => by simpa [Builtin.firstCells] using h3 w hw⟩
    rw [List.take_take, Nat.min_eq_left hle]
    exact h2
  have empty : ∀ (a : Option Addr) (c k : Nat), k ≤ 0 → ∀ cl : List AC, ∃ l, VL X m.length p ((cl.take (0 * e)).take (k * e)) l ∧ ∀ w, MRw X p m wb w → (Builtin.firstCells e k (.slice a 0 c)).run X.P w = .ok l.toArray w := by
    intro a c k hk cl
    obtain rfl : k = 0 := by omega
    refine ⟨[], by simp [VL], fun w _ => ?_⟩
    cases a with
    | none => rfl
    | some a => simp only [Builtin.firstCells, Nat.zero_mul]; rfl
  unfold srcC at h
  split at h
  · rename_i row o n'
    obtain ⟨hwk, rfl, rfl⟩ := wS_eq h
    have ho := ckLen_ok hwk hc
    cases hx with
    | xs _ _ _ c b k0 b' o' g hb' hr hv hcn =>
      refine ⟨fun w => rfl, by simp; omega, fun k hk => ?_⟩
      rcases hb' with h0 | ⟨hbk, rfl, rfl⟩
      · subst h0; exact empty _ _ _ hk _
      · rcases hr with h0 | hr
        · subst h0; exact empty _ _ _ hk _
        · exact rows (RowAt.old hr hv) ho k hk
    | xsn => exact ⟨fun w => rfl, by simp, fun k hk => empty _ _ _ hk _⟩
    | xs0 => exact ⟨fun w => rfl, by simp, fun k hk => empty _ _ _ hk _⟩
  · rename_i i o n'
    split at h
    · rename_i row hrow
      obtain ⟨hwk, rfl, rfl⟩ := wS_eq h
      have ho := ckLen_ok hwk hc
      cases hx with
      | sv _ _ _ c b o' hcn hor =>
        refine ⟨fun w => rfl, by simp; omega, fun k hk => ?_⟩
        rcases hor with h0 | ⟨hown, rfl, rfl⟩
        · subst h0; exact empty _ _ _ hk _
        · have := rows (c := c) (RowAt.own hb (gt_mem hrow) hown.2) ho k hk
          simpa using this
      | svn => exact ⟨fun w => rfl, by simp, fun k hk => empty _ _ _ hk _⟩
    · cases h
  · rename_i i n' e'
    split at h
    · rename_i row hrow
      obtain ⟨hwk, rfl, rfl⟩ := wS_eq h
      have ho := ckLen_ok hwk hc
      cases hx with
      | gs _ _ _ c hlt hcn hz =>
        refine ⟨fun w => rfl, by simp; omega, fun k hk => ?_⟩
        have := rows (c := c) (RowAt.own hb (gt_mem hrow) hlt.2) ho k hk
        simpa using this
      | gsn => exact ⟨fun w => rfl, by simp, fun k hk => empty _ _ _ hk _⟩
    · cases h
  · simp only [Option.some.injEq, Prod.mk.injEq] at h
    obtain ⟨rfl, rfl, rfl⟩ := h
    cases hx
    exact ⟨fun w => rfl, by simp, fun k hk => by simpa using empty none 0 k hk []⟩
  · rename_i a
    split at h
    · rename_i he
      have he := beq_true he
      subst he
      simp only [Option.some.injEq, Prod.mk.injEq] at h
      obtain ⟨rfl, rfl, rfl⟩ := h
      cases hx with
      | s _ s hs =>
        have hlen : a.length = s.size := by rw [← hs]; simp
        refine ⟨fun w => by rw [hlen]; rfl, by simp, fun k hk => ?_⟩
        refine ⟨((s.extract 0 k).data.map fun b => (.int .u8 b.toNat : Value)).toList, ⟨?_, fun j c u hj hu => ?_⟩, fun w _ => ?_⟩
        · rw [Array.toList_map]
          simp only [List.length_take, List.length_map, Nat.mul_one]
          rw [ByteArray.data_extract]
          simp [hlen]
        · rw [Array.toList_map, List.getElem?_map, ByteArray.data_extract, Array.toList_extract] at hu
          simp only [List.extract, Nat.sub_zero, List.drop_zero, Nat.mul_one] at hu hj
          have hjk : j < k := by have := (List.getElem?_eq_some_iff.1 hj).1; simp at this; omega
          rw [List.getElem?_take_of_lt hjk] at hu hj
          rw [← hs, List.map_map, List.getElem?_map] at hj
          cases hd : s.data.toList[j]? with
          | none => rw [hd] at hj; cases hj
          | some b =>
            rw [hd] at hj hu
            simp only [Option.map_some, Option.some.injEq, Function.comp] at hj hu
            subst hj; subst hu
            exact .u8 _
        · simp [Builtin.firstCells]
          apply Array.ext'
          simp
    · cases h
  · cases h

/-! Blocks that come and go -/

theorem MR.kill {w w' : World} (h : MR X p m w) (i : Nat) (ho : w'.os = w.os) (ht : w'.tape = w.tape) (hu : w'.output = w.output) (hs : w.heap.size ≤ w'.heap.size)
    (hother : ∀ c, c < w.heap.size → (∀ row, m[i]? = some (some row) → p.sz i ≠ 0 → c ≠ p.at_ i) → w'.heap[c]? = w.heap[c]?) : MR X p (m.set i none) w' := by
  have hN : (m.set i none).length = m.length := by simp
  have hcase : ∀ (j : Nat) (r : List AC), (m.set i none)[j]? = some (some r) → j ≠ i ∧ m[j]? = some (some r) := by
    intro j r hj
    rw [List.getElem?_set] at hj
    by_cases e : i = j
    · subst e; rw [if_pos rfl] at hj; split at hj <;> cases hj
    · rw [if_neg e] at hj; exact ⟨fun e' => e e'.symm, hj⟩
  refine ⟨ho.trans h.os, ht.trans h.tape, hu.trans h.output, Nat.le_trans h.size hs, ?_, ?_, ?_, ?_, ?_⟩
  · intro b hb
    rw [hother b (by have := hb.1; have := h.size; omega) (fun row hi hz e => h.new i row hi hz (e ▸ hb))]
    exact h.keep b hb
  · intro j r hj
    rw [hN]
    obtain ⟨hne, hj⟩ := hcase j r hj
    rcases h.blk j r hj with h0 | ⟨hzj, hbj⟩
    · exact .inl h0
    · exact .inr ⟨hzj, hbj.mono (Nat.le_refl _) (.refl _ _) (hother _ (h.live hj hzj) (fun row hi hz e => hne (h.inj j i r row hj hi hzj hz e)))⟩
  · intro j r hj hzj
    exact h.new j r (hcase j r hj).2 hzj
  · intro j k r s hj hk hzj hzk e
    exact h.inj _ _ _ _ (hcase j r hj).2 (hcase k s hk).2 hzj hzk e
  · exact h.fzn_of rfl hs (fun b G hG => hother b (h.fzn b G hG).2.1 fun row hi hz e => (h.fzn b G hG).2.2.2 i row hi hz e.symm) fun b G hG j r hj hzj => (h.fzn b G hG).2.2.2 j r (hcase j r hj).2 hzj

theorem MR.snoc {w : World} (h : MR X p m w) {b z : Nat} {row : List AC} (hz : z ≠ 0) (hb : BlkAt X m.length p w b z false row) (hnew : ¬ X.old b)
    (hdis : ∀ i r, m[i]? = some (some r) → p.sz i ≠ 0 → p.at_ i ≠ b) (hdf : ∀ c G, p.fz c = some G → b ≠ c) : MR X (p.put m.length b z) (m ++ [some row]) w := by
  have hat : (p.put m.length b z).at_ m.length = b := by simp [Pl.put]
  have hsz : (p.put m.length b z).sz m.length = z := by simp [Pl.put]
  have hob : (p.put m.length b z).ob m.length = false := by simp [Pl.put]
  refine h.push (Ext.put p _ _ _) rfl rfl rfl rfl (Nat.le_refl _) (fun _ _ => rfl) ?_ ?_ ?_ ?_
  · rw [hat, hsz, hob]
    exact .inr ⟨hz, hb.mono (by omega) (Ext.put p _ _ _) rfl⟩
  · rw [hat]; exact fun _ => hnew
  · rw [hat]; exact fun _ => hdis
  · rw [hat]; exact fun _ => hdf

theorem MR.snoc0 {w : World} (h : MR X p m w) (b : Nat) : MR X (p.put m.length b 0) (m ++ [some []]) w := by
  have hsz : (p.put m.length b 0).sz m.length = 0 := by simp [Pl.put]
  refine h.push (Ext.put p _ _ _) rfl rfl rfl rfl (Nat.le_refl _) (fun _ _ => rfl) (.inl ⟨hsz, rfl⟩) ?_ ?_ ?_
  · exact fun h => absurd hsz h
  · exact fun h => absurd hsz h
  · exact fun h => absurd hsz h
end
end DH

namespace DH
open Go

theorem AllC_append' {a b : List Prop} (h : AllC (a ++ b)) : AllC a ∧ AllC b := by
  induction a with
  | nil => exact ⟨trivial, h⟩
  | cons x a ih => exact ⟨⟨h.1, (ih h.2).1⟩, (ih h.2).2⟩

section
variable {X : Ctx} {m : Mem}

/-! make -/

def snocR (c : Option (List Prop)) (m : Mem) (row : List AC) (v : AV) : RE :=
  match c with
  | some cs => snocF m (some row) fun m' => some (cs, v, m')
  | none => none

theorem snocR_eq {c : Option (List Prop)} {m m' : Mem} {row : List AC} {v v' : AV} {cs : List Prop} (h : snocR c m row v = some (cs, v', m')) : c = some cs ∧ v = v' ∧ m' = m ++ [some row] := by
  unfold snocR at h
  split at h
  · rw [snocF_eq] at h
    simp only [Option.some.injEq, Prod.mk.injEq] at h
    obtain ⟨rfl, rfl, rfl⟩ := h
    exact ⟨rfl, rfl, rfl⟩
  · cases h

def evMake (E : Env) (m : Mem) (ty : TypeId) (l c : AV) : RE :=
  match (E.ti ty).d, l, c with
  | .slice e, .one lc, .one cc =>
    (match ixI lc, ixI cc, E.esz e with
    | some l, some c, some s =>
      if Nat.beq (lenF (E.ti e).zero) s then
        snocR (ck E.lit (decide (0 ≤ l ∧ l ≤ c ∧ c * (E.ti e).bytes ≤ 140737488355328 ∧ c < 4611686018427387904)) (0 ≤ l ∧ l ≤ c ∧ c * (E.ti e).bytes ≤ 140737488355328 ∧ c < 4611686018427387904)) m
          (zeros (E.ti e).zero l.toNat) (.one (.gs (lenF m) l.toNat s))
      else none
    | _, _, _ => none)
  | _, _, _ => none

theorem zeros_pre (z : List AC) {a b : Nat} (h : a ≤ b) {j : Nat} {c : AC} (hj : (zeros z a)[j]? = some c) : (zeros z b)[j]? = some c := by
  have : zeros z b = zeros z a ++ zeros z (b - a) := by
    unfold zeros
    rw [← List.flatten_append, List.replicate_append_replicate]
    congr 2
    omega
  rw [this, List.getElem?_append_left (List.getElem?_eq_some_iff.1 hj).1]
  exact hj

theorem evMake_ok {E : Env} (hE : EnvOk X.P E) {ty : TypeId} {l c : AV} {cs : List Prop} {v : AV} {m' : Mem} (h : evMake E m ty l c = some (cs, v, m')) (hc : AllC cs) {p : Pl} {w : World} (hm : MR X p m w) {vl vc : Value}
    (hl : VA X m.length p l vl) (hcv : VA X m.length p c vc) : EOk X m (Instr.makeSlice ty vl vc) p w v m' := by
  unfold evMake at h
  split at h
  · rename_i e lc cc hd
    have hu := und_slice (d_ok hE hd (by simp)) hd
    split at h
    · rename_i l c s h1 h2 hs
      obtain ⟨he, hsz, hs1⟩ := esz_ok hE hs
      obtain ⟨k1, rfl⟩ := ixI_ok h1 hl.one_inv
      obtain ⟨k2, rfl⟩ := ixI_ok h2 hcv.one_inv
      split at h
      · rename_i hb
        have hb := beq_true hb
        rw [lenF_eq] at hb
        obtain ⟨hck, rfl, rfl⟩ := snocR_eq h
        obtain ⟨c0, c1, c2, c3⟩ := ck_ok hck (fun h => of_decide_eq_true h) hc
        obtain ⟨i, hi1, hi2, hi3, z, hiz, hz2⟩ := he.info
        have hzs : z.cells.size = s := by have := (hz2 X m.length p).1; simp at this; omega
        have hbc : (i.bytes : Int) * c ≤ 140737488355328 := by rw [Int.mul_comm, hi3]; exact c2
        let L : List Value := (List.replicate c.toNat z.cells.toList).flatten
        have hL : L.length = c.toNat * s := by simp [L, List.length_flatten, hzs]
        have hvl := VL_zeros (hz2 X m.length p) c.toNat
        have hmade : madeCells z.cells (c.toNat * i.size) = L.toArray := by
          rw [hi2, ← hsz]
          exact zero_cells z.cells s c.toNat hzs hs1
        have hr := run_make (P := X.P) w ty e i z hu hi1 hiz k1 k2 l c c0 c1 (by omega) (by omega)
        rw [hmade] at hr
        refine ⟨p.put m.length w.heap.size L.length, .slice (some ⟨w.heap.size, 0, none⟩) l.toNat c.toNat, w.alloc (.cells L.toArray e), hr, .put _ _ _ _, by simp, ?_, ?_⟩
        · rw [List.length_append]
          exact .one _ _ (by rw [lenF_eq]; exact VR.gs_new _ _ _ _ _ _ _ (by omega) (by rw [hL]; exact Nat.le_refl _))
        · refine hm.alloc (fr := (0, 0)) (.inl rfl) ?_ ?_ rfl rfl rfl rfl
          · rw [zeros_length, hb, hL]; exact Nat.mul_le_mul_right _ (by omega)
          · intro j d u hj hu
            exact hvl.2 j d u (zeros_pre _ (by omega) hj) hu
      · cases h
    · cases h
  · cases h

/-! copy -/

def copyTo (E : Env) (m : Mem) (z i o n : Nat) (s : AC) : RE :=
  match gt none m i, srcC E.lit m z s with
  | some row, some (cs, cells, k) =>
    (match ckLen E.lit o (n * z) row with
    | some c2 => setF m i (some (lay row o (cells.take (min k n * z)))) fun m' => some (cs ++ c2, .one (.i64 ((min k n : Nat) : Int)), m')
    | none => none)
  | _, _ => none

def evCopy (E : Env) (m : Mem) (ty : TypeId) (d s : AV) : RE :=
  match (E.ti ty).d with
  | .slice e =>
    (match E.esz e, d, s with
    | some z, .one (.sv i o n), .one sc => copyTo E m z i o n sc
    | some z, .one (.gs i n _), .one sc => copyTo E m z i 0 n sc
    | _, _, _ => none)
  | _ => none

theorem min_nat (a b : Nat) : Nat.min a b = min a b := rfl

theorem copyTo_ok {E : Env} {ty ts rt e : TypeId} (hu : X.P.underlying ty = some (.slice e)) {z : Nat} (hz : ∀ w, (Go.sizeOf e).run X.P w = .ok z w) {i o n : Nat} {s : AC} {cs : List Prop} {v : AV} {m' : Mem} (h : copyTo E m z i o n s = some (cs, v, m')) (hc : AllC cs)
    {p : Pl} {w : World} (hm : MR X p m w) {vs : Value} (hs : VR X m.length p s vs) {a : Option Addr} {c : Nat} (ha : (n = 0) ∨ (Own m.length p i ∧ a = some ⟨p.at_ i, o, none⟩)) :
    EOk X m (Builtin.copy_ #[ty, ts] rt #[.slice a n c, vs]) p w v m' := by
  unfold copyTo at h
  split at h
  · rename_i row c1 cells k hrow hsrc
    split at h
    · rename_i c2 hck
      rw [setF_eq] at h
      simp only [Option.some.injEq, Prod.mk.injEq] at h
      obtain ⟨rfl, rfl, rfl⟩ := h
      obtain ⟨g1, g2⟩ := AllC_append' hc
      have ho := ckLen_ok hck g2
      obtain ⟨f1, f2, f3⟩ := srcC_ok hm hsrc g1 hs
      obtain ⟨l, l1, l2⟩ := f3 (min k n) (Nat.min_le_left _ _)
      have l3 := l2 w ⟨hm, fun _ _ _ _ => rfl⟩
      have hlen : (cells.take (min k n * z)).length = min k n * z := by
        rw [List.length_take, f2]
        exact Nat.min_eq_left (Nat.mul_le_mul_right _ (Nat.min_le_left _ _))
      have hfit : o + (cells.take (min k n * z)).length ≤ row.length := by
        rw [hlen]
        have : min k n * z ≤ n * z := Nat.mul_le_mul_right _ (Nat.min_le_right _ _)
        omega
      rcases ha with h0 | ⟨hown, rfl⟩
      · subst h0
        have hl0 : l = [] := List.length_eq_zero_iff.1 (by rw [← l1.1, hlen]; simp)
        subst hl0
        have hc0 : cells.take (min k 0 * z) = [] := List.length_eq_zero_iff.1 (by rw [hlen]; simp)
        have q2 : MR X p (m.set i (some (lay row o (cells.take (min k 0 * z))))) w := by
          rw [hc0]
          have : m.set i (some (lay row o [])) = m := by
            apply List.ext_getElem?
            intro j
            rw [List.getElem?_set]
            split
            · rename_i e; subst e
              have hi := gt_mem hrow
              rw [if_pos (List.getElem?_eq_some_iff.1 hi).1, hi]
              simp [lay]
            · rfl
          rw [this]; exact hm
        refine ⟨p, goInt ((min k 0 : Nat) : Int), w, ?_, .refl _ _, by simp, .one _ _ (.i64 _), q2⟩
        have l3' : (Builtin.firstCells z 0 vs).run X.P w = .ok #[] w := by simpa using l3
        cases a <;> simp [Builtin.copy_, run_underlying hu, f1, hz, l3', storeCells]
      · obtain ⟨w', q1, q2⟩ := hm.stores (gt_mem hrow) hown.2 l1 o hfit
        refine ⟨p, goInt ((min k n : Nat) : Int), w', ?_, .refl _ _, by simp, .one _ _ (.i64 _), q2⟩
        simp [Builtin.copy_, run_underlying hu, f1, hz, min_nat, l3, q1]
    · cases h
  · cases h

theorem evCopy_ok {E : Env} (hE : EnvOk X.P E) {ty ts rt : TypeId} {d s : AV} {cs : List Prop} {v : AV} {m' : Mem} (h : evCopy E m ty d s = some (cs, v, m')) (hc : AllC cs) {p : Pl} {w : World} (hm : MR X p m w) {vd vs : Value}
    (hd : VA X m.length p d vd) (hs : VA X m.length p s vs) : EOk X m (Builtin.copy_ #[ty, ts] rt #[vd, vs]) p w v m' := by
  unfold evCopy at h
  split at h
  · rename_i e hdt
    have hu := und_slice (d_ok hE hdt (by simp)) hdt
    split at h
    · rename_i z i o n sc hz
      obtain ⟨he, hsz, _⟩ := esz_ok hE hz
      have hd := hd.one_inv
      cases hd with
      | sv _ _ _ c b o' hcn hor =>
        refine copyTo_ok hu (fun w => by rw [hsz]; exact he.szrun w) h hc hm hs.one_inv (hor.imp id fun ⟨h1, h2, h3⟩ => ⟨h1, by rw [h2, h3]⟩)
      | svn => exact copyTo_ok hu (fun w => by rw [hsz]; exact he.szrun w) h hc hm hs.one_inv (.inl rfl)
    · rename_i z i n _ sc hz
      obtain ⟨he, hsz, _⟩ := esz_ok hE hz
      have hd := hd.one_inv
      cases hd with
      | gs _ _ _ c hlt hcn hcz => exact copyTo_ok hu (fun w => by rw [hsz]; exact he.szrun w) h hc hm hs.one_inv (.inr ⟨hlt, rfl⟩)
      | gsn => exact copyTo_ok hu (fun w => by rw [hsz]; exact he.szrun w) h hc hm hs.one_inv (.inl rfl)
    · cases h
  · cases h

/-! append -/

def ckRoom (E : Env) (e : TypeId) (need : Nat) : Option (List Prop) :=
  ck E.lit (Nat.ble (need * (E.ti e).bytes) 140737488355328 && Nat.ble need 4611686018427387904) (need * (E.ti e).bytes ≤ 140737488355328 ∧ need ≤ 4611686018427387904)

theorem ckRoom_ok {E : Env} {e : TypeId} {need : Nat} {cs : List Prop} (h : ckRoom E e need = some cs) (hc : AllC cs) : need * (E.ti e).bytes ≤ 140737488355328 ∧ need ≤ 4611686018427387904 :=
  ck_ok h (fun hb => by rw [Bool.and_eq_true] at hb; exact ⟨Nat.le_of_ble_eq_true hb.1, Nat.le_of_ble_eq_true hb.2⟩) hc

def srcTy (E : Env) (t : TypeId) : Bool :=
  match (E.ti t).d with
  | .slice _ => true
  | .str => true
  | _ => false

def evAppend (E : Env) (m : Mem) (ty tx : TypeId) (x y : AV) : RE :=
  match (E.ti ty).d with
  | .slice e =>
    (match srcTy E tx && Nat.beq (lenF (E.ti e).zero) (E.ti e).sz, E.esz e, y with
    | true, some z, .one yc =>
      (match srcC E.lit m z yc with
      | some (c1, cells, k) =>
        (match x with
        | .one .ns =>
          (match ckRoom E e k with
          | some c2 => snocF m (some cells) fun m' => some (c1 ++ c2, .one (.gs (lenF m) k z), m')
          | none => none)
        | .one (.gs i n z') =>
          (match Nat.beq z' z, gt none m i with
          | true, some row =>
            (match ckRoom E e (n + k), ck E.lit (Nat.beq (lenF row) (n * z)) (row.length = n * z) with
            | some c2, some c3 => setF m i none fun m1 => snocF m1 (some (row ++ cells)) fun m' => some (c1 ++ (c2 ++ c3), .one (.gs (lenF m) (n + k) z), m')
            | _, _ => none)
          | _, _ => none)
        | .one (.sc i o n) =>
          (match gt none m i with
          | some row =>
            (match ckLen E.lit o (n * z) row, ckRoom E e (n + k), ck E.lit (Nat.ble 1 k) (1 ≤ k) with
            | some c2, some c3, some c4 => snocF m (some ((row.drop o).take (n * z) ++ cells)) fun m' => some (c1 ++ (c2 ++ (c3 ++ c4)), .one (.gs (lenF m) (n + k) z), m')
            | _, _, _ => none)
          | none => none)
        | _ => none)
      | none => none)
    | _, _, _ => none)
  | _ => none

theorem srcTy_ok {E : Env} (hE : EnvOk X.P E) {t : TypeId} (h : srcTy E t = true) : (∃ e, X.P.underlying t = some (.slice e)) ∨ X.P.underlying t = some .string := by
  unfold srcTy at h
  split at h
  · rename_i e hd
    exact .inl ⟨e, und_slice (d_ok hE hd (by simp)) hd⟩
  · rename_i hd
    obtain ⟨d, h1, h2⟩ := (d_ok hE hd (by simp)).und
    rw [hd] at h2
    cases d <;> simp only [tdOk] at h2
    exact .inr h1
  · cases h

theorem one_cells {N : Nat} {p : Pl} {cs : List AC} {l : List Value} (h : VL X N p cs l) : ∀ u ∈ l, u.oneCell' = true := by
  intro u hu
  obtain ⟨j, hj⟩ := List.getElem?_of_mem hu
  have hlt : j < cs.length := by have := (List.getElem?_eq_some_iff.1 hj).1; have := h.1; omega
  exact (h.2 j _ u (List.getElem?_eq_getElem hlt) hj).oneCell

theorem VL_append {N : Nat} {p : Pl} {a b : List AC} {l k : List Value} (h : VL X N p a l) (g : VL X N p b k) : VL X N p (a ++ b) (l ++ k) := by
  refine ⟨by simp [h.1, g.1], fun j c u h1 h2 => ?_⟩
  rcases Nat.lt_or_ge j a.length with q | q
  · rw [List.getElem?_append_left q] at h1
    rw [List.getElem?_append_left (by rw [← h.1]; exact q)] at h2
    exact h.2 j c u h1 h2
  · rw [List.getElem?_append_right q] at h1
    rw [List.getElem?_append_right (by rw [← h.1]; exact q), ← h.1] at h2
    exact g.2 _ c u h1 h2

theorem grown_le (w : World) {need old : Nat} (e : TypeId) (h : need < 9223372036854775808) : need ≤ grownCap w need old e := by
  simp [grownCap, Question.cut]

/-- a new row: what was there, what is added, and zeros -/
theorem append_grows {ty tx rt e : TypeId} {i : TypeInfo} {z : Value} (ht : X.P.underlying ty = some (.slice e)) (hi : X.P.info? e = some i) (hz : i.zero = some z) {s : Nat} (hs : i.size = s) (hzs : z.cells.size = s)
    {m : Mem} {p : Pl} {w : World} (hm : MR X p m w) {base : Option Addr} {n c k : Nat} {olds cells : List AC} {lo ln : List Value} (h1 : VL X m.length p olds lo) (h2 : VL X m.length p cells ln) (hlo : lo.length = n * s) (hln : ln.length = k * s)
    (hold : (Builtin.firstCells s n (.slice base n c)).run X.P w.drew = .ok lo.toArray w.drew) {vy : Value} (hsrc : Src X.P s tx vy k ln w) (hg : c < n + k) (h63 : n + k ≤ 4611686018427387904) (hb : (n + k) * i.bytes ≤ 140737488355328) (m1 : Mem) (hl1 : m1.length = m.length)
    (hm1 : MR X p m1 w) : EOk X m (Builtin.append_ #[ty, tx] rt #[.slice base n c, vy]) p w (.one (.gs m.length (n + k) s)) (m1 ++ [some (olds ++ cells)]) := by
  subst hs
  have hr := run_append_grow_src (P := X.P) w ty tx rt e i z ht hi hz base n c lo hold vy k ln hsrc hg (by omega) (growslice_fits hg hb)
  have hcap : n + k ≤ grownCap w (n + k) c e := grown_le w e (by omega)
  generalize grownCap w (n + k) c e = g at hr hcap
  have hzl : (Builtin.zeroCells z.cells (g - (n + k))).size = (g - (n + k)) * i.size := by simp [Builtin.zeroCells, hzs]
  let L : List Value := lo ++ ln ++ (Builtin.zeroCells z.cells (g - (n + k))).toList
  have hL : L.toArray = (lo ++ ln).toArray ++ Builtin.zeroCells z.cells (g - (n + k)) := by
    apply Array.ext'
    simp [L]
  have hLl : L.length = g * i.size := by
    simp only [L, List.length_append, hlo, hln, Array.length_toList, hzl]
    rw [← Nat.add_mul, ← Nat.add_mul]
    congr 1
    omega
  rw [← hL] at hr
  have hv := VL_append h1 h2
  have hmr : MR X (p.put m1.length w.heap.size L.length) (m1 ++ [some (olds ++ cells)]) (w.drew.alloc (.cells L.toArray e)) := by
    refine hm1.alloc (fr := (0, 0)) (.inl rfl) ?_ ?_ rfl rfl rfl rfl
    · rw [hv.1]; simp [L]
    · intro j cc u hj hu
      have hlt : j < (lo ++ ln).length := by rw [← hv.1]; exact (List.getElem?_eq_some_iff.1 hj).1
      rw [hl1]
      refine hv.2 j cc u hj ?_
      rw [← hu]
      exact (List.getElem?_append_left hlt).symm
  rw [hl1] at hmr
  refine ⟨p.put m.length w.heap.size L.length, _, _, hr, .put _ _ _ _, by simp [hl1], ?_, hmr⟩
  rw [List.length_append, hl1]
  exact .one _ _ (VR.gs_new _ _ _ _ _ _ _ hcap (by rw [hLl]; exact Nat.le_refl _))

theorem evAppend_ok {E : Env} (hE : EnvOk X.P E) {ty tx rt : TypeId} {x y : AV} {cs : List Prop} {v : AV} {m' : Mem} (h : evAppend E m ty tx x y = some (cs, v, m')) (hc : AllC cs) {p : Pl} {w : World} (hm : MR X p m w) {vx vy : Value}
    (hx : VA X m.length p x vx) (hy : VA X m.length p y vy) : EOk X m (Builtin.append_ #[ty, tx] rt #[vx, vy]) p w v m' := by
  unfold evAppend at h
  split at h
  · rename_i e hd
    have hu := und_slice (d_ok hE hd (by simp)) hd
    split at h
    · rename_i z yc hst hz
      rw [Bool.and_eq_true] at hst
      obtain ⟨hst, hzl⟩ := hst
      have hzl := beq_true hzl
      rw [lenF_eq] at hzl
      obtain ⟨he, hsz, hz1⟩ := esz_ok hE hz
      obtain ⟨i, hi1, hi2, hi3, zv, hiz, hz2⟩ := he.info
      have his : i.size = z := by rw [hi2, hsz]
      have hw : ∀ w, (Go.sizeOf e).run X.P w = .ok z w := fun w => by rw [hsz]; exact he.szrun w
      have hkind := srcTy_ok hE hst
      split at h
      · rename_i c1 cells k hsrc
        have hsrcS : ∀ {c1 : List Prop}, AllC c1 → srcC E.lit m z yc = some (c1, cells, k) → ∃ ln, VL X m.length p cells ln ∧ ln.length = k * z ∧ Src X.P z tx vy k ln w := by
          intro c1 hc1 hsrc
          obtain ⟨f1, f2, f3⟩ := srcC_ok hm hsrc hc1 hy.one_inv
          obtain ⟨ln, l1, l2⟩ := f3 k (Nat.le_refl _)
          have ht : cells.take (k * z) = cells := List.take_of_length_le (by rw [f2]; exact Nat.le_refl _)
          rw [ht] at l1
          exact ⟨ln, l1, by rw [← l1.1, f2], hkind, f1, l2 w ⟨hm, fun _ _ _ _ => rfl⟩, l2 w.drew ⟨hm.drew, fun _ _ _ _ => rfl⟩, by rw [← l1.1, f2], one_cells l1⟩
        -- onto nothing
        have nilCase : ∀ {c2 : List Prop}, ckRoom E e k = some c2 → AllC c1 → AllC c2 → ∀ (m1 : Mem) (row : List AC), row = [] → m1.length = m.length → MR X p m1 w →
            EOk X m (Builtin.append_ #[ty, tx] rt #[.slice none 0 0, vy]) p w (.one (.gs m.length k z)) (m1 ++ [some (row ++ cells)]) := by
          intro c2 hr hc1 hc2 m1 row hrow hl1 hm1
          subst hrow
          obtain ⟨r1, r2⟩ := ckRoom_ok hr hc2
          obtain ⟨ln, l1, l2, l3⟩ := hsrcS hc1 hsrc
          rcases Nat.eq_zero_or_pos k with h0 | hpos
          · subst h0
            have hl0 : ln = [] := List.length_eq_zero_iff.1 (by rw [l2]; simp)
            have hc0 : cells = [] := List.length_eq_zero_iff.1 (by rw [l1.1, hl0]; rfl)
            subst hl0; subst hc0
            have hcells := l3.cells
            have hlen := l3.len
            have hmr := hm1.snoc0 0
            rw [hl1] at hmr
            refine ⟨p.put m.length 0 0, .slice none 0 0, w, ?_, .put _ _ _ _, by simp [hl1], .one _ _ (.gsn _ _), hmr⟩
            rcases l3.kind with ⟨e', hk⟩ | hk <;> simp [Builtin.append_, run_underlying hu, run_underlying hk, Go.sizeOf, typeInfo, hi1, his, hlen, hcells]
          · have := append_grows (rt := rt) hu hi1 hiz his (by have := (hz2 X m.length p).1; simp at this; omega) hm (base := none) (n := 0) (c := 0) (olds := []) (lo := []) ⟨rfl, fun j c u h => by simp at h⟩ l1 (by simp) l2
              (by simp [Builtin.firstCells]) l3 (by omega) (by omega) (by rw [hi3]; simpa using r1) m1 hl1 hm1
            simpa using this
        split at h
        · split at h
          · rename_i c2 hr
            rw [snocF_eq, lenF_eq] at h
            simp only [Option.some.injEq, Prod.mk.injEq] at h
            obtain ⟨rfl, rfl, rfl⟩ := h
            obtain ⟨g1, g2⟩ := AllC_append' hc
            have := hx.one_inv
            cases this
            exact nilCase hr g1 g2 m [] rfl rfl hm
          · cases h
        · rename_i i0 n z'
          split at h
          · rename_i row hzz hrow
            have hzz := beq_true hzz
            subst hzz
            split at h
            · rename_i c2 c3 hr hck
              rw [setF_eq, snocF_eq, lenF_eq] at h
              simp only [Option.some.injEq, Prod.mk.injEq] at h
              obtain ⟨rfl, rfl, rfl⟩ := h
              obtain ⟨g1, g2⟩ := AllC_append' hc
              obtain ⟨g3, g4⟩ := AllC_append' g2
              have hrl : row.length = n * z' := ck_ok hck (fun hb => by have := beq_true hb; rwa [lenF_eq] at this) g4
              obtain ⟨r1, r2⟩ := ckRoom_ok hr g3
              have hrow := gt_mem hrow
              have hkill : MR X p (m.set i0 none) w := hm.kill i0 rfl rfl rfl (Nat.le_refl _) (fun _ _ _ => rfl)
              have hlk : (m.set i0 none).length = m.length := by simp
              have hgs := hx.one_inv
              cases hgs with
              | gsn =>
                have hr0 : row = [] := List.length_eq_zero_iff.1 (by rw [hrl]; simp)
                have := nilCase (c2 := c2) (by simpa using hr) g1 g3 (m.set i0 none) row hr0 hlk hkill
                simpa using this
              | gs _ _ _ c hlt hcn hcz =>
                obtain ⟨ln, l1, l2, l3⟩ := hsrcS g1 hsrc
                rcases hm.blk i0 row hrow with ⟨hz0, hr0⟩ | ⟨hz0, hbk⟩
                · -- a block without cells
                  have hc0 : c = 0 := by
                    rcases Nat.eq_zero_or_pos c with h | h
                    · exact h
                    · have : 1 * 1 ≤ c * z' := Nat.mul_le_mul h hz1
                      omega
                  have hn0 : n = 0 := by omega
                  subst hc0; subst hn0; subst hr0
                  rcases Nat.eq_zero_or_pos k with h0 | hpos
                  · subst h0
                    have hl0 : ln = [] := List.length_eq_zero_iff.1 (by rw [l2]; simp)
                    have hcl : cells = [] := List.length_eq_zero_iff.1 (by rw [l1.1, hl0]; rfl)
                    subst hl0; subst hcl
                    have hcells := l3.cells
                    have hlen := l3.len
                    have hmr := hkill.snoc0 (p.at_ i0)
                    rw [hlk] at hmr
                    refine ⟨p.put m.length (p.at_ i0) 0, .slice (some ⟨p.at_ i0, 0, none⟩) 0 0, w, ?_, .put _ _ _ _, by simp, ?_, hmr⟩
                    · rcases l3.kind with ⟨e', hk⟩ | hk <;> simp [Builtin.append_, run_underlying hu, run_underlying hk, Go.sizeOf, typeInfo, hi1, his, hlen, hcells, storeCells]
                    · rw [List.length_append, hlk]
                      exact .one _ _ (VR.gs_new _ _ _ _ _ _ _ (Nat.le_refl _) (by simp))
                  · exact append_grows (rt := rt) hu hi1 hiz his (by have := (hz2 X m.length p).1; simp at this; omega) hm (n := 0) (c := 0) (olds := []) (lo := []) ⟨rfl, fun j c u h => by simp at h⟩ l1 (by simp) l2
                      (by simp [Builtin.firstCells, loadCells, loadCellsFrom]) l3 (by omega) (by omega) (by rw [hi3]; simpa using r1) _ hlk hkill
                · obtain ⟨vs, tyb, fr, b1, b2, b3, b4, b5⟩ := hbk.ex hlt.2
                  rcases Nat.lt_or_ge c (n + k) with hlt2 | hge
                  · -- no room
                    obtain ⟨lo, o1, o2, o3⟩ := (RowAt.own hm hrow hlt.2 (wb := w)).cells 0 (n * z') (by omega)
                    simp only [List.drop_zero, Nat.add_zero] at o2 o3
                    rw [List.take_of_length_le (by omega)] at o2
                    exact append_grows (rt := rt) hu hi1 hiz his (by have := (hz2 X m.length p).1; simp at this; omega) hm o2 l1 o1 l2 (by simpa [Builtin.firstCells] using o3 w.drew ⟨hm.drew, fun _ _ _ _ => rfl⟩) l3 hlt2 (by omega) (by rw [hi3]; exact r1) _ hlk hkill
                  · -- there is room
                    have hfit : n * z' + ln.length ≤ vs.size := by
                      rw [l2, b2, ← Nat.add_mul]
                      exact Nat.le_trans (Nat.mul_le_mul_right _ hge) hcz
                    obtain ⟨w', q1, q2, q3, q4, q5, q6, q7⟩ := run_storeCells (P := X.P) (p.at_ i0) (n * z') tyb fr ln 0 w vs b1 (by rw [b2]; exact frz b4) (one_cells l1) (by simpa using hfit)
                    rw [Nat.add_zero] at q6
                    have hkill' : MR X p (m.set i0 none) w' := hm.kill i0 q2 q3 q4 (by omega) (fun cc hcc hne => q7 cc (hne row hrow hz0))
                    have hlay : (lay vs.toList (n * z') ln).toArray.size = p.sz i0 := by simp; rw [lay_length _ _ _ (by simpa using hfit)]; simpa using b2
                    have hblk : BlkAt X (m.set i0 none).length p w' (p.at_ i0) (p.sz i0) false (row ++ cells) := by
                      rw [hlk]
                      refine ⟨fun _ => ⟨_, tyb, fr, q6, hlay, ?_, b4, ?_⟩, fun h => by cases h⟩
                      · rw [List.length_append, hrl, l1.1, ← b2]; exact hfit
                      · intro j cc u hj hu
                        simp only [List.getElem?_toArray] at hu
                        have hvl : VL X m.length p row (vs.toList.take row.length) := ⟨by simp; omega, fun j c u a1 a2 => by
                          have : j < row.length := (List.getElem?_eq_some_iff.1 a1).1
                          rw [List.getElem?_take_of_lt this] at a2
                          exact b5 j c u a1 (by simpa using a2)⟩
                        have hall := VL_append hvl l1
                        have hjl : j < (row ++ cells).length := (List.getElem?_eq_some_iff.1 hj).1
                        refine hall.2 j cc u hj ?_
                        rcases Nat.lt_or_ge j row.length with a | a
                        · rw [lay_lt _ _ _ (by simpa using hfit) (by omega)] at hu
                          rw [List.getElem?_append_left (by simp; omega), List.getElem?_take_of_lt a]
                          exact hu
                        · rw [lay_mid _ _ _ (by simpa using hfit) (by omega) (by rw [List.length_append, l1.1] at hjl; omega)] at hu
                          rw [List.getElem?_append_right (by simp; omega), ← hu]
                          congr 1
                          simp
                          omega
                    have hmr := hkill'.snoc hz0 hblk (hm.new i0 row hrow hz0) (by
                      intro j r hj hzj e0
                      rw [List.getElem?_set] at hj
                      by_cases ej : i0 = j
                      · subst ej; rw [if_pos rfl] at hj; split at hj <;> cases hj
                      · rw [if_neg ej] at hj
                        exact ej (hm.inj i0 j row r hrow hj hz0 hzj e0.symm)) (fun c G hG e => (hm.fzn c G hG).2.2.2 i0 row hrow hz0 e)
                    rw [hlk] at hmr
                    refine ⟨p.put m.length (p.at_ i0) (p.sz i0), .slice (some ⟨p.at_ i0, 0, none⟩) (n + k) c, w', ?_, .put _ _ _ _, by simp, ?_, hmr⟩
                    · have hcells := l3.cells
                      have hlen := l3.len
                      rcases l3.kind with ⟨e', hk⟩ | hk <;> simp [Builtin.append_, run_underlying hu, run_underlying hk, Go.sizeOf, typeInfo, hi1, his, hlen, hge, hcells, Addr.add_lit, q1]
                    · rw [List.length_append, hlk]
                      exact .one _ _ (VR.gs_new _ _ _ _ _ _ _ hge hcz)
            · cases h
          · cases h
        · rename_i i0 o0 n
          split at h
          · rename_i row hrow
            split at h
            · rename_i c2 c3 c4 hck hr hk1
              rw [snocF_eq, lenF_eq] at h
              simp only [Option.some.injEq, Prod.mk.injEq] at h
              obtain ⟨rfl, rfl, rfl⟩ := h
              obtain ⟨g1, g2⟩ := AllC_append' hc
              obtain ⟨g3, g4⟩ := AllC_append' g2
              obtain ⟨g4, g5⟩ := AllC_append' g4
              have ho := ckLen_ok hck g3
              have hk1 : 1 ≤ k := ck_ok hk1 (fun hb => Nat.le_of_ble_eq_true hb) g5
              obtain ⟨r1, r2⟩ := ckRoom_ok hr g4
              have hrow := gt_mem hrow
              obtain ⟨ln, l1, l2, l3⟩ := hsrcS g1 hsrc
              have zz : zv.cells.size = z := by have := (hz2 X m.length p).1; simp at this; omega
              have hsc := hx.one_inv
              cases hsc with
              | scn =>
                have := nilCase (c2 := c3) (by simpa using hr) g1 g4 m [] rfl rfl hm
                simpa using this
              | sc _ _ _ b o' hor =>
                rcases hor with h0 | ⟨hlt, rfl, rfl⟩
                · subst h0
                  have := append_grows (rt := rt) hu hi1 hiz his zz hm (base := some ⟨b, o', none⟩) (n := 0) (c := 0) (olds := []) (lo := []) ⟨rfl, fun j c u h => by simp at h⟩ l1 (by simp) l2
                    (by simp [Builtin.firstCells, loadCells, loadCellsFrom]) l3 (by omega) (by omega) (by rw [hi3]; simpa using r1) m rfl hm
                  simpa using this
                · obtain ⟨lo, o1, o2, o3⟩ := (RowAt.own hm hrow hlt.2 (wb := w)).cells o' (n * z) ho
                  have o3' := o3 w.drew ⟨hm.drew, fun _ _ _ _ => rfl⟩
                  rw [Nat.zero_add] at o3'
                  exact append_grows (rt := rt) hu hi1 hiz his zz hm o2 l1 o1 l2 (by simpa [Builtin.firstCells] using o3') l3 (by omega) (by omega) (by rw [hi3]; exact r1) m rfl hm
            · cases h
          · cases h
        · cases h
      · cases h
    · cases h
  · cases h
end
end DH

namespace DH
open Go

/-! append of zeros: append(b, make([]T, n)...) -/

section
variable {X : Ctx}

theorem run_append_grow_zeros {P : Program} (w : World) (t tx ty e : TypeId) (i : TypeInfo) (z : Value) (ht : P.underlying t = some (.slice e)) (hk : ∃ k, P.underlying tx = some (.int k)) (hi : P.info? e = some i) (hz : i.zero = some z) (base : Option Addr) (sLen sCap : Nat) (olds : List Value)
    (hold : (Builtin.firstCells i.size sLen (.slice base sLen sCap)).run P w.drew = .ok olds.toArray w.drew) (n : Nat) (hs : 1 ≤ i.size) (hn0 : 1 ≤ n) (hn48 : n * i.bytes ≤ 140737488355328) (hnn : n ≤ 4611686018427387904)
    (hg : sCap < sLen + n) (h63 : ((sLen + n : Nat) : Int) ≤ 9223372036854775807) (hfit : Builtin.nextslicecap (sLen + n) sCap * i.bytes ≤ 281474976710656) :
    (Builtin.append_ #[t, tx] ty #[.slice base sLen sCap, .int .i64 (n : Int)]).run P w =
      .ok (.slice (some ⟨w.heap.size, 0, none⟩) (sLen + n) (grownCap w (sLen + n) sCap e))
        (w.drew.alloc (.cells ((olds ++ (Builtin.zeroCells z.cells n).toList).toArray ++ Builtin.zeroCells z.cells (grownCap w (sLen + n) sCap e - (sLen + n))) e)) := by
  obtain ⟨k, hk⟩ := hk
  have hn : ¬ (sLen + n ≤ sCap) := by omega
  have h63' : ¬ (9223372036854775807 < ((sLen : Int) + (n : Int))) := by omega
  have h48' : ¬ (281474976710656 < Builtin.nextslicecap (sLen + n) sCap * i.bytes) := by omega
  have hw : IntKind.i64.wrap (n : Int) = n := by rw [IntKind.wrap_i64]; omega
  have hl0 : ¬ ((n : Int) < 0) := by omega
  have hl48 : ¬ (281474976710656 < (n : Int) * (i.bytes : Int)) := by
    have : ((n * i.bytes : Nat) : Int) ≤ 140737488355328 := by omega
    rw [Int.natCast_mul] at this
    omega
  have hns : ¬ (n = 0 ∨ i.size = 0) := by omega
  have hns2 : ¬ (n * i.size = 0) := by
    intro h
    rcases Nat.mul_eq_zero.1 h with h | h <;> omega
  simp [Builtin.append_, run_underlying ht, run_underlying hk, Go.sizeOf, typeInfo, zeroValue, hi, hz, asInt, asIntOf, hw, hl0, hl48, hn, h63', h48', hns, Question.forced, hold, newRow, grownCap]
  rw [if_neg hns2]
  congr 2
  congr 1
  apply Array.ext'
  simp [List.append_assoc]

theorem run_append_room_zeros {P : Program} (w w2 : World) (t tx ty e : TypeId) (i : TypeInfo) (z : Value) (ht : P.underlying t = some (.slice e)) (hk : ∃ k, P.underlying tx = some (.int k)) (hi : P.info? e = some i) (hz : i.zero = some z) (base : Option Addr) (sLen sCap : Nat) (n : Nat)
    (hn48 : n * i.bytes ≤ 140737488355328) (hnn : n ≤ 4611686018427387904) (hroom : sLen + n ≤ sCap)
    (hst : ∀ a, base = some a → (storeCells (a.add (sLen * i.size)) (Builtin.zeroCells z.cells n).toList).run P w = .ok () w2) (hb : base = none → w2 = w) (h0 : n * i.size = 0 → Builtin.zeroCells z.cells n = #[]) :
    (Builtin.append_ #[t, tx] ty #[.slice base sLen sCap, .int .i64 (n : Int)]).run P w = .ok (.slice base (sLen + n) sCap) w2 := by
  obtain ⟨k, hk⟩ := hk
  have hw : IntKind.i64.wrap (n : Int) = n := by rw [IntKind.wrap_i64]; omega
  have hl0 : ¬ ((n : Int) < 0) := by omega
  have hl48 : ¬ (281474976710656 < (n : Int) * (i.bytes : Int)) := by
    have : ((n * i.bytes : Nat) : Int) ≤ 140737488355328 := by omega
    rw [Int.natCast_mul] at this
    omega
  cases base with
  | none =>
    rw [hb rfl]
    simp [Builtin.append_, run_underlying ht, run_underlying hk, Go.sizeOf, typeInfo, zeroValue, hi, hz, asInt, asIntOf, hw, hl0, hl48, hroom]
  | some a =>
    have hst := hst a rfl
    simp [Builtin.append_, run_underlying ht, run_underlying hk, Go.sizeOf, typeInfo, zeroValue, hi, hz, asInt, asIntOf, hw, hl0, hl48, hroom]
    split
    · rename_i h
      have h : n * i.size = 0 := h
      rw [h0 h] at hst
      simp at hst
      simp [hst]
    · simp [hst]

def evAppendZ (E : Env) (m : Mem) (ty tx : TypeId) (x y : AV) : RE :=
  match (E.ti ty).d with
  | .slice e =>
    (match (match (E.ti tx).d with | .int _ => Nat.beq (lenF (E.ti e).zero) (E.ti e).sz | _ => false), E.esz e, y with
    | true, some z, .one (.i64 l) =>
      (match x with
      | .one (.gs i n z') =>
        (match Nat.beq z' z, gt none m i with
        | true, some row =>
          (match ckRoom E e (n + l.toNat), ck E.lit (Nat.beq (lenF row) (n * z)) (row.length = n * z) with
          | some c2, some c3 => setF m i none fun m1 => snocF m1 (some (row ++ zeros (E.ti e).zero l.toNat)) fun m' => some ((0 ≤ l) :: (c2 ++ c3), .one (.gs (lenF m) (n + l.toNat) z), m')
          | _, _ => none)
        | _, _ => none)
      | _ => none)
    | _, _, _ => none)
  | _ => none

theorem evAppendZ_ok {E : Env} (hE : EnvOk X.P E) {m : Mem} {ty tx rt : TypeId} {x y : AV} {cs : List Prop} {v : AV} {m' : Mem} (h : evAppendZ E m ty tx x y = some (cs, v, m')) (hc : AllC cs) {p : Pl} {w : World} (hm : MR X p m w) {vx vy : Value}
    (hx : VA X m.length p x vx) (hy : VA X m.length p y vy) : EOk X m (Builtin.append_ #[ty, tx] rt #[vx, vy]) p w v m' := by
  unfold evAppendZ at h
  split at h
  · rename_i e hd
    have hu := und_slice (d_ok hE hd (by simp)) hd
    split at h
    · rename_i z l hst hz
      have hkind : ∃ k, X.P.underlying tx = some (.int k) := by
        split at hst
        · rename_i k hk
          obtain ⟨d, h1, h2⟩ := (d_ok hE hk (by simp)).und
          rw [hk] at h2
          cases d <;> simp only [tdOk] at h2
          exact ⟨_, h1⟩
        · cases hst
      have hzl : (E.ti e).zero.length = (E.ti e).sz := by
        split at hst
        · have := beq_true hst; rwa [lenF_eq] at this
        · cases hst
      obtain ⟨he, hsz, hz1⟩ := esz_ok hE hz
      obtain ⟨i, hi1, hi2, hi3, zv, hiz, hz2⟩ := he.info
      have his : i.size = z := by rw [hi2, hsz]
      have hzs : zv.cells.size = z := by have := (hz2 X m.length p).1; simp at this; omega
      have hy := hy.one_inv
      cases hy with
      | i64 l =>
      split at h
      · rename_i i0 n z'
        split at h
        · rename_i row hzz hrow
          have hzz := beq_true hzz
          subst hzz
          split at h
          · rename_i c2 c3 hr hck
            rw [setF_eq, snocF_eq, lenF_eq] at h
            simp only [Option.some.injEq, Prod.mk.injEq] at h
            obtain ⟨rfl, rfl, rfl⟩ := h
            obtain ⟨hl0, g2⟩ := hc
            obtain ⟨g3, g4⟩ := AllC_append' g2
            obtain ⟨k, rfl⟩ : ∃ k : Nat, l = k := ⟨l.toNat, by omega⟩
            rw [Int.toNat_natCast]
            rw [Int.toNat_natCast] at hr
            have hrl : row.length = n * z' := ck_ok hck (fun hb => by have := beq_true hb; rwa [lenF_eq] at this) g4
            obtain ⟨r1, r2⟩ := ckRoom_ok hr g3
            have hrow := gt_mem hrow
            have hkill : MR X p (m.set i0 none) w := hm.kill i0 rfl rfl rfl (Nat.le_refl _) (fun _ _ _ => rfl)
            have hlk : (m.set i0 none).length = m.length := by simp
            have hzc : (Builtin.zeroCells zv.cells k).toList = (List.replicate k zv.cells.toList).flatten := by
              have := zero_cells zv.cells zv.cells.size k rfl (by omega)
              unfold Builtin.zeroCells
              rw [this]
            have hzv : VL X m.length p (zeros (E.ti e).zero k) (Builtin.zeroCells zv.cells k).toList := by
              rw [hzc]; exact VL_zeros (hz2 X m.length p) k
            have hzl2 : (Builtin.zeroCells zv.cells k).toList.length = k * z' := by rw [← hzv.1, zeros_length, hzl, ← hsz]
            have hz0 : k * i.size = 0 → Builtin.zeroCells zv.cells k = #[] := fun h => by
              apply Array.ext'
              have : (Builtin.zeroCells zv.cells k).toList.length = 0 := by rw [hzl2, ← his]; exact h
              exact List.length_eq_zero_iff.1 this
            have r1' : (n + k) * i.bytes ≤ 140737488355328 := by rw [hi3]; exact r1
            have hkb : k * i.bytes ≤ 140737488355328 := Nat.le_trans (Nat.mul_le_mul_right _ (by omega)) r1'
            -- a new row
            have grows : ∀ {base : Option Addr} {c : Nat} {lo : List Value}, VL X m.length p row lo → lo.length = n * z' → (Builtin.firstCells z' n (.slice base n c)).run X.P w.drew = .ok lo.toArray w.drew → c < n + k → n ≤ c →
                EOk X m (Builtin.append_ #[ty, tx] rt #[.slice base n c, .int .i64 (k : Int)]) p w (.one (.gs m.length (n + k) z')) (m.set i0 none ++ [some (row ++ zeros (E.ti e).zero k)]) := by
              intro base c lo h1 hlo hold hg hnc
              subst his
              have hr := run_append_grow_zeros (P := X.P) w ty tx rt e i zv hu hkind hi1 hiz base n c lo hold k hz1 (by omega) hkb (by omega) hg (by omega) (growslice_fits hg r1')
              have hcap : n + k ≤ grownCap w (n + k) c e := grown_le w e (by omega)
              generalize grownCap w (n + k) c e = g at hr hcap
              have hzl : (Builtin.zeroCells zv.cells (g - (n + k))).size = (g - (n + k)) * i.size := by simp [Builtin.zeroCells, hzs]
              let L : List Value := lo ++ (Builtin.zeroCells zv.cells k).toList ++ (Builtin.zeroCells zv.cells (g - (n + k))).toList
              have hL : L.toArray = (lo ++ (Builtin.zeroCells zv.cells k).toList).toArray ++ Builtin.zeroCells zv.cells (g - (n + k)) := by
                apply Array.ext'
                simp [L]
              have hLl : L.length = g * i.size := by
                simp only [L, List.length_append, hlo, hzl2, Array.length_toList, hzl]
                rw [← Nat.add_mul, ← Nat.add_mul]
                congr 1
                omega
              rw [← hL] at hr
              have hv := VL_append h1 hzv
              have hmr : MR X (p.put (m.set i0 none).length w.heap.size L.length) (m.set i0 none ++ [some (row ++ zeros (E.ti e).zero k)]) (w.drew.alloc (.cells L.toArray e)) := by
                refine hkill.alloc (fr := (0, 0)) (.inl rfl) ?_ ?_ rfl rfl rfl rfl
                · rw [hv.1]; simp [L]
                · intro j cc u hj hu
                  have hlt : j < (lo ++ (Builtin.zeroCells zv.cells k).toList).length := by rw [← hv.1]; exact (List.getElem?_eq_some_iff.1 hj).1
                  rw [hlk]
                  refine hv.2 j cc u hj ?_
                  rw [← hu]
                  exact (List.getElem?_append_left hlt).symm
              rw [hlk] at hmr
              refine ⟨p.put m.length w.heap.size L.length, _, _, hr, .put _ _ _ _, by simp, ?_, hmr⟩
              rw [List.length_append, hlk]
              exact .one _ _ (VR.gs_new _ _ _ _ _ _ _ hcap (by rw [hLl]; exact Nat.le_refl _))
            have hgs := hx.one_inv
            cases hgs with
            | gsn =>
              have hr0 : row = [] := List.length_eq_zero_iff.1 (by rw [hrl]; simp)
              subst hr0
              rcases Nat.eq_zero_or_pos k with h0 | hpos
              · subst h0
                have hmr := hkill.snoc0 0
                rw [hlk] at hmr
                exact ⟨p.put m.length 0 0, .slice none 0 0, w, run_append_room_zeros w w ty tx rt e i zv hu hkind hi1 hiz none 0 0 0 (by omega) (by omega) (Nat.le_refl _) (fun a h => by cases h) (fun _ => rfl) hz0, .put _ _ _ _, by simp, .one _ _ (.gsn _ _), hmr⟩
              · exact grows (base := none) (c := 0) (lo := []) ⟨rfl, fun j c u h => by simp at h⟩ (by simp) (by simp [Builtin.firstCells]) (by omega) (Nat.le_refl _)
            | gs _ _ _ c hlt hcn hcz =>
              rcases hm.blk i0 row hrow with ⟨hz0', hr0⟩ | ⟨hz0', hbk⟩
              · -- a block without cells
                have hc0 : c = 0 := by
                  rcases Nat.eq_zero_or_pos c with h | h
                  · exact h
                  · have : 1 * 1 ≤ c * z' := Nat.mul_le_mul h hz1
                    omega
                have hn0 : n = 0 := by omega
                subst hc0; subst hn0; subst hr0
                rcases Nat.eq_zero_or_pos k with h0 | hpos
                · subst h0
                  have hmr := hkill.snoc0 (p.at_ i0)
                  rw [hlk] at hmr
                  have hz00 := hz0 (by simp)
                  refine ⟨p.put m.length (p.at_ i0) 0, .slice (some ⟨p.at_ i0, 0, none⟩) 0 0, w, run_append_room_zeros w w ty tx rt e i zv hu hkind hi1 hiz (some ⟨p.at_ i0, 0, none⟩) 0 0 0 (by omega) (by omega) (Nat.le_refl _) (fun a h => by injection h with h; subst h; rw [hz00]; simp [storeCells]) (fun h => by cases h) hz0, .put _ _ _ _, by simp, ?_, hmr⟩
                  rw [List.length_append, hlk]
                  exact .one _ _ (VR.gs_new _ _ _ _ _ _ _ (Nat.le_refl _) (by simp))
                · exact grows (c := 0) (lo := []) ⟨rfl, fun j c u h => by simp at h⟩ (by simp) (by simp [Builtin.firstCells, loadCells, loadCellsFrom]) (by omega) (Nat.le_refl _)
              · obtain ⟨vs, tyb, fr, b1, b2, b3, b4, b5⟩ := hbk.ex hlt.2
                rcases Nat.lt_or_ge c (n + k) with hlt2 | hge
                · obtain ⟨lo, o1, o2, o3⟩ := (RowAt.own hm hrow hlt.2 (wb := w)).cells 0 (n * z') (by omega)
                  simp only [List.drop_zero, Nat.add_zero] at o2 o3
                  rw [List.take_of_length_le (by omega)] at o2
                  exact grows o2 o1 (by simpa [Builtin.firstCells] using o3 w.drew ⟨hm.drew, fun _ _ _ _ => rfl⟩) hlt2 hcn
                · -- there is room
                  have hfit : n * z' + (Builtin.zeroCells zv.cells k).toList.length ≤ vs.size := by
                    rw [hzl2, b2, ← Nat.add_mul]
                    exact Nat.le_trans (Nat.mul_le_mul_right _ hge) hcz
                  obtain ⟨w', q1, q2, q3, q4, q5, q6, q7⟩ := run_storeCells (P := X.P) (p.at_ i0) (n * z') tyb fr (Builtin.zeroCells zv.cells k).toList 0 w vs b1 (by rw [b2]; exact frz b4) (one_cells hzv) (by simpa using hfit)
                  rw [Nat.add_zero] at q6
                  have hkill' : MR X p (m.set i0 none) w' := hm.kill i0 q2 q3 q4 (by omega) (fun cc hcc hne => q7 cc (hne row hrow hz0'))
                  have hlay : (lay vs.toList (n * z') (Builtin.zeroCells zv.cells k).toList).toArray.size = p.sz i0 := by simp only [List.size_toArray]; rw [lay_length _ _ _ (by simpa using hfit)]; simpa using b2
                  have hblk : BlkAt X (m.set i0 none).length p w' (p.at_ i0) (p.sz i0) false (row ++ zeros (E.ti e).zero k) := by
                    rw [hlk]
                    refine ⟨fun _ => ⟨_, tyb, fr, q6, hlay, ?_, b4, ?_⟩, fun h => by cases h⟩
                    · rw [List.length_append, hrl, hzv.1, ← b2]; exact hfit
                    · intro j cc u hj hu
                      simp only [List.getElem?_toArray] at hu
                      have hvl : VL X m.length p row (vs.toList.take row.length) := ⟨by simp; omega, fun j c u a1 a2 => by
                        have : j < row.length := (List.getElem?_eq_some_iff.1 a1).1
                        rw [List.getElem?_take_of_lt this] at a2
                        exact b5 j c u a1 (by simpa using a2)⟩
                      have hall := VL_append hvl hzv
                      have hjl : j < (row ++ zeros (E.ti e).zero k).length := (List.getElem?_eq_some_iff.1 hj).1
                      refine hall.2 j cc u hj ?_
                      rcases Nat.lt_or_ge j row.length with a | a
                      · rw [lay_lt _ _ _ (by simpa using hfit) (by omega)] at hu
                        rw [List.getElem?_append_left (by simp; omega), List.getElem?_take_of_lt a]
                        exact hu
                      · rw [lay_mid _ _ _ (by simpa using hfit) (by omega) (by rw [List.length_append, hzv.1] at hjl; omega)] at hu
                        rw [List.getElem?_append_right (by simp; omega), ← hu]
                        congr 1
                        simp
                        omega
                  have hmr := hkill'.snoc hz0' hblk (hm.new i0 row hrow hz0') (by
                    intro j r hj hzj e0
                    rw [List.getElem?_set] at hj
                    by_cases ej : i0 = j
                    · subst ej; rw [if_pos rfl] at hj; split at hj <;> cases hj
                    · rw [if_neg ej] at hj
                      exact ej (hm.inj i0 j row r hrow hj hz0' hzj e0.symm)) (fun c G hG e => (hm.fzn c G hG).2.2.2 i0 row hrow hz0' e)
                  rw [hlk] at hmr
                  refine ⟨p.put m.length (p.at_ i0) (p.sz i0), .slice (some ⟨p.at_ i0, 0, none⟩) (n + k) c, w', run_append_room_zeros w w' ty tx rt e i zv hu hkind hi1 hiz (some ⟨p.at_ i0, 0, none⟩) n c k hkb (by omega) hge (fun a h => by
                    injection h with h; subst h; rw [his, Addr.add_lit]; simpa using q1) (fun h => by cases h) hz0, .put _ _ _ _, by simp, ?_, hmr⟩
                  rw [List.length_append, hlk]
                  exact .one _ _ (VR.gs_new _ _ _ _ _ _ _ hge hcz)
          · cases h
        · cases h
      · cases h
    · cases h
  · cases h
end
end DH

namespace DH
open Go

section
variable {X : Ctx} {m : Mem}

/-! bytes and strings -/

def allU8 (cs : List AC) : Prop := cs = (cs.map asU8).map .u8

def allU8B : List AC → Bool
  | [] => true
  | .u8 _ :: l => allU8B l
  | _ => false

theorem allU8B_ok : ∀ {l : List AC}, allU8B l = true → allU8 l
  | [], _ => rfl
  | c :: l, h => by
    cases c <;> simp only [allU8B, Bool.false_eq_true] at h
    rename_i x
    have := allU8B_ok h
    unfold allU8 at *
    simp only [List.map_cons]
    rw [← this]
    rfl

def isBytes (E : Env) (t : TypeId) : Bool :=
  match (E.ti t).d with
  | .slice e => (match (E.ti e).d with | .int .u8 => true | _ => false)
  | _ => false

def isStr (E : Env) (t : TypeId) : Bool := match (E.ti t).d with | .str => true | _ => false

theorem isBytes_ok {E : Env} (hE : EnvOk X.P E) {t : TypeId} (h : isBytes E t = true) : ∃ e, X.P.underlying t = some (.slice e) ∧ X.P.underlying e = some (.int .u8) ∧ TyOk X.P e (E.ti e) := by
  unfold isBytes at h
  split at h
  · rename_i e hd
    split at h
    · rename_i hd2
      have he := d_ok hE hd2 (by simp)
      obtain ⟨d, h1, h2⟩ := he.und
      rw [hd2] at h2
      cases d <;> simp only [tdOk] at h2
      subst h2
      exact ⟨e, und_slice (d_ok hE hd (by simp)) hd, h1, he⟩
    · cases h
  · cases h

theorem isStr_ok {E : Env} (hE : EnvOk X.P E) {t : TypeId} (h : isStr E t = true) : X.P.underlying t = some .string := by
  unfold isStr at h
  split at h
  · rename_i hd
    obtain ⟨d, h1, h2⟩ := (d_ok hE hd (by simp)).und
    rw [hd] at h2
    cases d <;> simp only [tdOk] at h2
    exact h1
  · cases h

def isSl : AC → Bool
  | .xs _ _ _ => true
  | .sv _ _ _ => true
  | .gs _ _ _ => true
  | .ns => true
  | _ => false

theorem isSl_ok {lit : Bool} {e : Nat} {c : AC} (h : isSl c = true) {cs : List Prop} {cells : List AC} {n : Nat} (hs : srcC lit m e c = some (cs, cells, n)) {p : Pl} {v : Value} (hv : VR X m.length p c v) : ∃ a k, v = .slice a n k ∧ (a = none → n = 0) := by
  cases c <;> simp only [isSl, Bool.false_eq_true] at h
  · cases hv
    simp only [srcC, Option.some.injEq, Prod.mk.injEq] at hs
    exact ⟨_, _, by rw [← hs.2.2], fun _ => hs.2.2.symm⟩
  · simp only [srcC] at hs
    split at hs
    · obtain ⟨_, _, rfl⟩ := wS_eq hs
      cases hv
      · exact ⟨_, _, rfl, fun h => by cases h⟩
      · exact ⟨_, _, rfl, fun _ => rfl⟩
    · cases hs
  · simp only [srcC] at hs
    split at hs
    · obtain ⟨_, _, rfl⟩ := wS_eq hs
      cases hv
      · exact ⟨_, _, rfl, fun h => by cases h⟩
      · exact ⟨_, _, rfl, fun _ => rfl⟩
    · cases hs
  · simp only [srcC] at hs
    obtain ⟨_, _, rfl⟩ := wS_eq hs
    cases hv
    · exact ⟨_, _, rfl, fun h => by cases h⟩
    · exact ⟨_, _, rfl, fun _ => rfl⟩
    · exact ⟨_, _, rfl, fun h => by cases h⟩

def evB2S (E : Env) (m : Mem) (src dst : TypeId) (x : AV) : RV :=
  match isBytes E src && isStr E dst, x with
  | true, .one c =>
    (match isSl c, srcC E.lit m 1 c with
    | true, some (c1, cells, _) =>
      (match ck E.lit (allU8B cells) (allU8 cells) with
      | some c2 => some (c1 ++ c2, .one (.s (cells.map asU8)))
      | none => none)
    | _, _ => none)
  | _, _ => none

theorem VL_u8 {N : Nat} {p : Pl} {xs : List (BitVec 8)} {l : List Value} (h : VL X N p (xs.map .u8) l) : l = (xs.map fun x => (x.toNat : Int)).map (Value.int .u8) := by
  apply List.ext_getElem?
  intro j
  rcases Nat.lt_or_ge j xs.length with hj | hj
  · have h1 : (xs.map AC.u8)[j]? = some (.u8 xs[j]) := by simp [hj]
    have h2 : l[j]? = some (l[j]'(by rw [← h.1]; simpa using hj)) := List.getElem?_eq_getElem _
    have h3 := h.2 j _ _ h1 h2
    rw [h2]
    generalize l[j]'_ = v at h3 ⊢
    cases h3
    simp [hj]
  · rw [List.getElem?_eq_none (by rw [← h.1]; simpa using hj), List.getElem?_eq_none (by simpa using hj)]

theorem evB2S_ok {E : Env} (hE : EnvOk X.P E) {src dst : TypeId} {x : AV} {cs : List Prop} {v : AV} (h : evB2S E m src dst x = some (cs, v)) (hc : AllC cs) {p : Pl} {wb : World} (hb : MR X p m wb) {vx : Value} (hx : VA X m.length p x vx) :
    G1 X p m wb (convert src dst vx) v := by
  unfold evB2S at h
  split at h
  · rename_i c hty
    rw [Bool.and_eq_true] at hty
    obtain ⟨e, hs, he, _⟩ := isBytes_ok hE hty.1
    have hd := isStr_ok hE hty.2
    split at h
    · rename_i c1 cells n hsl hsrc
      split at h
      · rename_i c2 hck
        simp only [Option.some.injEq, Prod.mk.injEq] at h
        obtain ⟨rfl, rfl⟩ := h
        obtain ⟨g1, g2⟩ := AllC_append' hc
        have hall : allU8 cells := ck_ok hck allU8B_ok g2
        obtain ⟨f1, f2, f3⟩ := srcC_ok hb hsrc g1 hx.one_inv
        obtain ⟨l, l1, l2⟩ := f3 n (Nat.le_refl _)
        rw [List.take_of_length_le (by rw [f2]; exact Nat.le_refl _), hall] at l1
        have hl := VL_u8 l1
        have hlen : cells.length = n := by simpa using f2
        obtain ⟨a, k, rfl, ha⟩ := isSl_ok hsl hsrc hx.one_inv
        cases a with
        | none =>
          have hn := ha rfl
          subst hn
          have : cells = [] := List.length_eq_zero_iff.1 hlen
          subst this
          exact ok1 (u := .string ByteArray.empty) (.s _ _ rfl) (fun w => by rw [run_convert_bytes_string w src dst e _ _ _ hs he hd]; simp [Conv.bytesToString])
        | some a =>
          refine ⟨.string (((cells.map asU8).map fun x => (x.toNat : Int)).foldl (fun r n => r.push (UInt8.ofNat n.toNat)) ByteArray.empty), .one _ _ (.s _ _ ?_), fun w hw => ?_⟩
          · rw [foldl_push_bytes]
            simp [ByteArray.empty, ByteArray.emptyWithCapacity, List.map_map, Function.comp_def]
            rfl
          · rw [run_convert_bytes_string w src dst e _ _ _ hs he hd, run_bytesToString w a n k ((cells.map asU8).map fun x => (x.toNat : Int))]
            have := l2 w hw
            rw [hl] at this
            simpa [Builtin.firstCells] using this
      · cases h
    · cases h
  · cases h

def evS2B (E : Env) (m : Mem) (src dst : TypeId) (x : AV) : RE :=
  match isStr E src && isBytes E dst, x with
  | true, .one (.s a) => snocF m (some (mapF8 a)) fun m' => some ([], .one (.gs (lenF m) (lenF a) 1), m')
  | _, _ => none
where mapF8 : List (BitVec 8) → List AC
  | [] => []
  | x :: l => .u8 x :: mapF8 l

theorem mapF8_eq : ∀ l : List (BitVec 8), evS2B.mapF8 l = l.map .u8
  | [] => rfl
  | x :: l => by simp [evS2B.mapF8, mapF8_eq l]

theorem push_modify {α : Type} (a : Array α) (o : α) (f : α → α) : (a.push o).modify a.size f = a.push (f o) := by
  apply Array.ext_getElem?
  intro i
  rw [Array.getElem?_modify, Array.getElem?_push, Array.getElem?_push]
  by_cases h : i = a.size
  · subst h; simp
  · simp [h, Ne.symm h]

theorem evS2B_ok {E : Env} (hE : EnvOk X.P E) {src dst : TypeId} {x : AV} {cs : List Prop} {v : AV} {m' : Mem} (h : evS2B E m src dst x = some (cs, v, m')) {p : Pl} {w : World} (hm : MR X p m w) {vx : Value} (hx : VA X m.length p x vx) :
    EOk X m (convert src dst vx) p w v m' := by
  unfold evS2B at h
  split at h
  · rename_i a hty
    rw [Bool.and_eq_true] at hty
    have hs := isStr_ok hE hty.1
    obtain ⟨e, hd, he, hte⟩ := isBytes_ok hE hty.2
    rw [snocF_eq, lenF_eq, lenF_eq, mapF8_eq] at h
    simp only [Option.some.injEq, Prod.mk.injEq] at h
    obtain ⟨rfl, rfl, rfl⟩ := h
    have hx := hx.one_inv
    cases hx with
    | s _ s hs' =>
      have hlen : a.length = s.size := by rw [← hs']; simp
      let g := if (Question.appendCap s.size 0 e).forced then 0 else (Question.appendCap s.size 0 e).cut (w.tape w.drawn (.appendCap s.size 0 e))
      have hsz : s.size < 9223372036854775808 ∨ ¬ s.size < 9223372036854775808 := Nat.lt_or_ge _ _ |>.imp id (by omega)
      have hg : s.size ≤ g := by simp [g, Question.forced, Question.cut]
      let L : List Value := (s.data.toList.map fun b => (.int .u8 b.toNat : Value)) ++ List.replicate (g - s.size) (.int .u8 0)
      have hLl : L.length = g := by
        have : s.data.toList.length = s.size := by simp
        simp only [L, List.length_append, List.length_map, this, List.length_replicate]
        omega
      refine ⟨p.put m.length w.heap.size L.length, .slice (some ⟨w.heap.size, 0, none⟩) s.size g, (w.drew.alloc (.cells L.toArray e)).freeze ⟨w.heap.size, L.length, none⟩ 1, ?_, .put _ _ _ _, by simp, ?_, ?_⟩
      · have e0 : (s.data.map fun b => (.int .u8 b.toNat : Value)) ++ Array.replicate (g - s.size) (.int .u8 0) = L.toArray := by
          apply Array.ext'
          simp [L]
        have hch : (choose (.appendCap s.size 0 e)).run X.P w = .ok g w.drew := by
          rw [run_choose_drew]
          simp [g, Question.forced]
        have hsh : (w.drew.alloc (.cells L.toArray e)).shape? w.heap.size = some (e, L.length) := by
          have hh : (w.drew.alloc (.cells L.toArray e)).heap[w.heap.size]? = some (.cells L.toArray e) := by
            show (w.heap.push (Obj.cells L.toArray e))[w.heap.size]? = _
            simp
          unfold World.shape?
          rw [hh]
          simp
        simp only [convert, Sem.run_bind, run_underlying hs, run_underlying hd, Result.andThen_ok, run_underlying he, Conv.stringToBytes, hch]
        rw [e0]
        simp only [newRow, Sem.run_bind, run_newObj_alloc, Result.andThen_ok, Sem.run_pure, markStringish]
        simp [hsh]
      · rw [List.length_append]
        rw [hlen]
        exact .one _ _ (VR.gs_new _ _ _ _ _ _ _ hg (by rw [hLl]; omega))
      · refine hm.alloc (ty := e) (fr := (L.length, L.length + 1)) (.inr (Nat.le_refl _)) ?_ ?_ ?_ ?_ ?_ ?_
        · rw [hLl]; simp; omega
        · intro j c u hj hu
          rw [List.getElem?_map] at hj
          cases hd : a[j]? with
          | none => rw [hd] at hj; cases hj
          | some b =>
            rw [hd] at hj
            simp only [Option.map_some, Option.some.injEq] at hj
            subst hj
            have hja : j < a.length := (List.getElem?_eq_some_iff.1 hd).1
            rw [List.getElem?_append_left (by simp; omega), List.getElem?_map] at hu
            rw [← hs', List.getElem?_map] at hd
            cases hq : s.data.toList[j]? with
            | none => rw [hq] at hd; cases hd
            | some q =>
              rw [hq] at hd hu
              simp only [Option.map_some, Option.some.injEq] at hd hu
              subst hd; subst hu
              exact .u8 _
        · rfl
        · rfl
        · rfl
        · have hp := push_modify w.heap (.cells L.toArray e) (fun
            | .cells c elem (lo, hi) => .cells c elem (if lo == hi then (L.length, L.length + 1) else (min lo L.length, max hi (L.length + 1)))
            | o => o)
          exact hp
  · cases h

/-! a row of bytes, told to be one that may lie at fixed places -/

theorem MR.mark {p : Pl} {w : World} (h : MR X p m w) {i : Nat} {row : List AC} (hi : m[i]? = some (some row)) (hz : p.sz i ≠ 0) (hob : p.ob i = false) : MR X p m (w.freeze ⟨p.at_ i, p.sz i, none⟩ 1) := by
  have hh : ∀ c, c ≠ p.at_ i → (w.freeze ⟨p.at_ i, p.sz i, none⟩ 1).heap[c]? = w.heap[c]? := fun c hc => by
    simp only [World.freeze, if_neg (show ¬ (1 : Nat) = 0 by decide), Array.getElem?_modify]
    rw [if_neg (Ne.symm hc)]
  have hsz : (w.freeze ⟨p.at_ i, p.sz i, none⟩ 1).heap.size = w.heap.size := by simp [World.freeze]
  have hnew := h.new i row hi hz
  refine ⟨h.os, h.tape, h.output, by rw [hsz]; exact h.size, fun b hb => ?_, fun j r hj => ?_, h.new, h.inj, ?_⟩
  · rw [hh b (fun e => hnew (e ▸ hb))]
    exact h.keep b hb
  · rcases h.blk j r hj with h0 | ⟨hzj, hb⟩
    · exact .inl h0
    · refine .inr ⟨hzj, ?_⟩
      by_cases e : p.at_ j = p.at_ i
      · have hij := h.inj j i r row hj hi hzj hz e
        subst hij
        refine ⟨fun ho => ?_, fun ho => by rw [hob] at ho; cases ho⟩
        obtain ⟨cs, ty, fr, h1, h2, h3, h4, h5⟩ := hb.ex ho
        refine ⟨cs, ty, (if fr.1 == fr.2 then (p.sz j, p.sz j + 1) else (min fr.1 (p.sz j), max fr.2 (p.sz j + 1))), ?_, h2, h3, ?_, h5⟩
        · simp only [World.freeze, if_neg (show ¬ (1 : Nat) = 0 by decide), Array.getElem?_modify, h1]
          simp
        · split
          · exact .inr (Nat.le_refl _)
          · rename_i hne
            have hne : fr.1 ≠ fr.2 := by simpa using hne
            rcases h4 with h4 | h4
            · exact absurd h4 hne
            · right; show _ ≤ min _ _; omega
      · exact hb.mono (Nat.le_refl _) (.refl _ _) (hh _ e)
  · exact h.fzn_of rfl (by rw [hsz]; exact Nat.le_refl _) (fun b G hG => hh b (fun e => (h.fzn b G hG).2.2.2 i row hi hz e.symm)) fun b G hG => (h.fzn b G hG).2.2.2

/-- bytes turned into bytes: the row stays -/
def evS2S (E : Env) (m : Mem) (src dst : TypeId) (x : AV) : RV :=
  match isBytes E dst && Nat.beq src dst, x with
  | true, .one (.gs i n e) =>
    (match gt none m i with
    | some _ => (match Nat.beq e 1 with
      | true => (match ck E.lit (Nat.ble 1 n) (1 ≤ n) with | some c => some (c, .one (.gs i n e)) | none => none)
      | false => none)
    | none => none)
  | _, _ => none

theorem evS2S_ok {E : Env} (hE : EnvOk X.P E) {src dst : TypeId} {x : AV} {cs : List Prop} {v : AV} (h : evS2S E m src dst x = some (cs, v)) (hc : AllC cs) {p : Pl} {w : World} (hm : MR X p m w) {vx : Value} (hx : VA X m.length p x vx) :
    EOk X m (convert src dst vx) p w v m := by
  unfold evS2S at h
  split at h
  · rename_i i n e hty
    rw [Bool.and_eq_true] at hty
    obtain ⟨el, hs, he, _⟩ := isBytes_ok hE hty.1
    have hsd : src = dst := Nat.eq_of_beq_eq_true hty.2
    subst hsd
    split at h
    · rename_i row hrow
      split at h
      · rename_i he1
        have he1 := Nat.eq_of_beq_eq_true he1
        subst he1
        split at h
        · rename_i c hck
          simp only [Option.some.injEq, Prod.mk.injEq] at h
          obtain ⟨rfl, rfl⟩ := h
          have hn : 1 ≤ n := ck_ok hck Nat.le_of_ble_eq_true hc
          have hv := hx.one_inv
          have hi := gt_mem hrow
          cases hv with
          | gs _ _ _ c hlt hcn hsz =>
            have hz : p.sz i ≠ 0 := by omega
            rcases hm.blk i row hi with ⟨h0, _⟩ | ⟨_, hb⟩
            · exact absurd h0 hz
            · obtain ⟨cs, ty, fr, h1, h2, h3, h4, h5⟩ := hb.ex hlt.2
              have hsh : w.shape? (p.at_ i) = some (ty, p.sz i) := by
                unfold World.shape?
                rw [h1]
                simp [h2]
              refine ⟨p, _, w.freeze ⟨p.at_ i, p.sz i, none⟩ 1, ?_, .refl _ _, Nat.le_refl _, .one _ _ (.gs i n 1 c hlt hcn hsz), hm.mark hi hz hlt.2⟩
              simp only [convert, Sem.run_bind, run_underlying hs, Result.andThen_ok, run_underlying he, markStringish]
              simp [hsh]
          | gsn => omega
        · cases h
      · cases h
    · cases h
  · cases h
end
end DH

namespace DH
open Go Go.MapKept

section
variable {X : Ctx} {m : Mem}

/-! Maps: what is made, laid in, taken out; iterators -/

theorem MR.writeO {p : Pl} {w w' : World} (h : MR X p m w) {i : Nat} {row : List AC} (hi : m[i]? = some (some row)) (ho : OwnO m.length p i) {c' : AC} {q' : Obj} (hq : ObjIs m.length p c' q')
    (h1 : w'.os = w.os) (h2 : w'.tape = w.tape) (h3 : w'.output = w.output) (hh : w'.heap = w.heap.setIfInBounds (p.at_ i) q') (hz : 1 ≤ p.sz i) : MR X p (m.set i (some [c'])) w' := by
  have hlt := h.live hi ho.2.2
  refine h.write hi ho.2.2 (by simpa using hz) h1 h2 h3 (by rw [hh]; simp) (fun c hc => by rw [hh]; simp [Ne.symm hc]) ⟨fun e => ?_, fun _ => ⟨c', q', rfl, by rw [hh]; simp [hlt], hq⟩⟩
  rw [ho.2.1] at e
  cases e

def evMakeMap (E : Env) (t : List AV) (m : Mem) (ty : TypeId) (r : Option Operand) : RE :=
  match mapTy E ty with
  | some (kt, et) =>
    (match (match r with | none => true | some x => (match getO t x with | .one (.i64 _) => true | _ => false)) with
    | true => snocF m (some [.mo 0 (E.ti kt).agg (E.ti et).agg (E.ti kt).zero (E.ti et).zero []]) fun m' => some ([], .one (.mp (lenF m)), m')
    | false => none)
  | none => none

theorem VR.mp_new (p : Pl) (N b : Nat) : VR X (N + 1) (p.putO N b) (.mp N) (.map (some b)) := by
  have h := VR.mp (X := X) (N := N + 1) (p := p.putO N b) N ⟨by omega, by simp [Pl.putO], by simp [Pl.putO]⟩
  have : (p.putO N b).at_ N = b := by simp [Pl.putO]
  rw [this] at h
  exact h
theorem VR.po_new (p : Pl) (N b : Nat) : VR X (N + 1) (p.putO N b) (.po N) (.pointer (some ⟨b, 0, none⟩)) := by
  have h := VR.po (X := X) (N := N + 1) (p := p.putO N b) N ⟨by omega, by simp [Pl.putO], by simp [Pl.putO]⟩
  have : (p.putO N b).at_ N = b := by simp [Pl.putO]
  rw [this] at h
  exact h

theorem evMakeMap_ok {E : Env} (hE : EnvOk X.P E) {t : List AV} {ty : TypeId} {r : Option Operand} {cs : List Prop} {v : AV} {m' : Mem} (h : evMakeMap E t m ty r = some (cs, v, m')) {p : Pl} {w : World} (hm : MR X p m w)
    {ev : Operand → Value} (hev : ∀ x, VA X m.length p (getO t x) (ev x)) : EOk X m (Instr.makeMap ty (r.map ev)) p w v m' := by
  unfold evMakeMap at h
  split at h
  · rename_i kt et hmt
    obtain ⟨hu, _⟩ := mapTy_ok (X := X) hE hmt
    split at h
    · rename_i hr
      rw [snocF_eq, lenF_eq] at h
      simp only [Option.some.injEq, Prod.mk.injEq] at h
      obtain ⟨rfl, rfl, rfl⟩ := h
      refine ⟨p.putO m.length w.heap.size, .map (some w.heap.size), w.alloc (.map #[] 0), ?_, .putO _ _ _, by simp, ?_, ?_⟩
      · cases r with
        | none => simp only [Instr.makeMap, Option.map_none, Sem.run_bind, Sem.run_pure, Result.andThen_ok, run_newObj_alloc]
        | some x =>
          dsimp only at hr
          split at hr
          · rename_i n hx
            have hv := hev x
            rw [hx] at hv
            have hv := hv.one_inv
            have hv : ev x = .int .i64 n := by
              generalize ev x = u at hv
              cases hv
              rfl
            simp only [Instr.makeMap, Option.map_some, hv, Sem.run_bind, run_underlying hu, Sem.run_pure, Result.andThen_ok, run_newObj_alloc, asInt, asIntOf]
          · cases hr
      · rw [List.length_append]
        exact .one _ _ (VR.mp_new _ _ _)
      · refine hm.allocO ?_ rfl rfl rfl rfl
        exact ⟨⟨fun r h => (by cases h), .nil, .nil, fun r h => (by cases h)⟩, #[], rfl, rfl, fun j r e h => by simp at h⟩
    · cases h
  · cases h

/-- an entry is laid in -/
noncomputable def setE (kc vc : List AC) (clock : Nat) (es : List Ent) : Nat × List Ent :=
  match hasE kc es with
  | true => (clock, es.map fun r => match sameCells kc r.2.1 with | true => (r.1, r.2.1, vc) | false => r)
  | false => (clock + 1, es ++ [(clock, kc, vc)])
def mapKey' (kc vc : List AC) : List Ent → List Ent
  | [] => []
  | r :: es => (match eqCs kc r.2.1 with | true => (r.1, r.2.1, vc) | false => r) :: mapKey' kc vc es
def setL {β : Type} (kc vc : List AC) (clock : Nat) (es : List Ent) (k : Nat → List Ent → β) : β :=
  match findK kc es with
  | some _ => k clock (mapKey' kc vc es)
  | none => k (clock + 1) (es ++ [(clock, kc, vc)])

theorem mapKey'_eq {zs kc vc : List AC} (h : fitCs zs kc) : ∀ {es : List Ent}, (∀ r, r ∈ es → fitCs zs r.2.1) → mapKey' kc vc es = es.map fun r => match sameCells kc r.2.1 with | true => (r.1, r.2.1, vc) | false => r
  | [], _ => rfl
  | r :: es, he => by
    unfold mapKey'
    have : eqCs kc r.2.1 = sameCells kc r.2.1 := by rw [Bool.eq_iff_iff, eqCs_ok h (he r (by simp)), same_iff]
    rw [this, mapKey'_eq h fun q hq => he q (by simp [hq])]
    rfl
theorem setL_eq {β : Type} {zs kc vc : List AC} (h : fitCs zs kc) {clock : Nat} {es : List Ent} (he : ∀ r, r ∈ es → fitCs zs r.2.1) (k : Nat → List Ent → β) : setL kc vc clock es k = k (setE kc vc clock es).1 (setE kc vc clock es).2 := by
  unfold setL setE hasE
  rw [findK_eq h he, mapKey'_eq h he]
  cases findE kc es <;> rfl

/-- a map of one's own: its number, its clock, what it holds -/
def ownMap (E : Env) (m : Mem) (kt et : TypeId) (x : AV) : Option (Nat × Nat × List AC × List AC × List Ent) :=
  match x with
  | .one (.mp i) => (match gt none m i with
    | some row => (match row with
      | [c] => (match c with
        | .mo clock ka va kz vz es => (match (ka == (E.ti kt).agg) && (va == (E.ti et).agg) && kin kz (E.ti kt).zero && kin vz (E.ti et).zero with | true => some (i, clock, kz, vz, es) | false => none)
        | _ => none)
      | _ => none)
    | none => none)
  | _ => none

theorem ownMap_ok {E : Env} {p : Pl} {w : World} (hm : MR X p m w) {kt et : TypeId} {x : AV} {i clock : Nat} {kz vz : List AC} {es : List Ent} (h : ownMap E m kt et x = some (i, clock, kz, vz, es)) {v : Value} (hx : VA X m.length p x v) :
    ∃ arr row, OwnO m.length p i ∧ v = .map (some (p.at_ i)) ∧ m[i]? = some (some row) ∧ w.heap[p.at_ i]? = some (.map arr clock) ∧ kin kz (E.ti kt).zero = true ∧ kin vz (E.ti et).zero = true ∧
      EntOk clock kz vz es ∧ EntOk clock (E.ti kt).zero (E.ti et).zero es ∧ Ents (E.ti kt).agg (E.ti et).agg es arr := by
  unfold ownMap at h
  split at h
  · rename_i i'
    split at h
    · rename_i row hrow
      split at h
      · rename_i c
        split at h
        · rename_i clock' ka va kz' vz' es'
          split at h
          · rename_i hk
            simp only [Option.some.injEq, Prod.mk.injEq] at h
            obtain ⟨rfl, rfl, rfl, rfl, rfl⟩ := h
            simp only [Bool.and_eq_true, beq_iff_eq] at hk
            obtain ⟨⟨⟨rfl, rfl⟩, k1⟩, k2⟩ := hk
            have := hx.one_inv
            cases this with
            | mp _ ho =>
              obtain ⟨c, q, h1, h2, h3⟩ := hm.obj (gt_mem hrow) ho
              injection h1 with h1
              subst h1
              obtain ⟨g1, arr, rfl, g2, g3⟩ := h3
              exact ⟨arr, _, ho, rfl, gt_mem hrow, h2, k1, k2, g1, kin_ent g1 k1 k2, g2, g3⟩
          · cases h
        · cases h
      · cases h
    · cases h
  · cases h

noncomputable def evMapSet (E : Env) (m : Mem) (mt : TypeId) (x k v : AV) : RE :=
  match mapTy E mt with
  | some (kt, et) =>
    (match keyCs (E.ti kt).agg k, keyCs (E.ti et).agg v, ownMap E m kt et x with
    | some kc, some vc, some (i, clock, kz, vz, es) =>
      (match ck E.lit (fitBs (E.ti kt).zero kc && fitBs (E.ti et).zero vc) (fitCs (E.ti kt).zero kc ∧ fitCs (E.ti et).zero vc) with
      | some cs => (match E.lit with
        | true => setL kc vc clock es fun c' es' => setF m i (some [.mo c' (E.ti kt).agg (E.ti et).agg kz vz es']) fun m' => some (cs, .any, m')
        | false => setF m i (some [.mo (hide (setE kc vc clock es).1) (E.ti kt).agg (E.ti et).agg kz vz (hide (setE kc vc clock es).2)]) fun m' => some (cs, .any, m'))
      | none => none)
    | _, _, _ => none)
  | none => none

theorem set_find_some {kc vc : List AC} {clock : Nat} {es : List Ent} {vs : List AC} (h : findE kc es = some vs) : setE kc vc clock es = (clock, es.map fun r => match sameCells kc r.2.1 with | true => (r.1, r.2.1, vc) | false => r) := by
  unfold setE hasE
  rw [h]; rfl
theorem set_find_none {kc vc : List AC} {clock : Nat} {es : List Ent} (h : findE kc es = none) : setE kc vc clock es = (clock + 1, es ++ [(clock, kc, vc)]) := by
  unfold setE hasE
  rw [h]; rfl

theorem EntOk.set {clock : Nat} {kz vz kc vc : List AC} {es : List Ent} (h : EntOk clock kz vz es) (hk : fitCs kz kc) (hv : fitCs vz vc) : EntOk (setE kc vc clock es).1 kz vz (setE kc vc clock es).2 := by
  cases hf : findE kc es with
  | some vs =>
    rw [set_find_some hf]
    have hq : ∀ r : Ent, (match sameCells kc r.2.1 with | true => (r.1, r.2.1, vc) | false => r).1 = r.1 ∧ (match sameCells kc r.2.1 with | true => ((r.1, r.2.1, vc) : Ent) | false => r).2.1 = r.2.1 := fun r => by split <;> exact ⟨rfl, rfl⟩
    refine ⟨fun r hr => ?_, ?_, ?_, fun r hr => ?_⟩
    · obtain ⟨q, hq1, rfl⟩ := List.mem_map.1 hr
      have := h.fit q hq1
      split
      · exact ⟨this.1, hv⟩
      · exact this
    · rw [List.pairwise_map]
      exact h.keys.imp fun {a b} hab => by rw [(hq a).2, (hq b).2]; exact hab
    · rw [List.pairwise_map]
      exact h.born.imp fun {a b} hab => by rw [(hq a).1, (hq b).1]; exact hab
    · obtain ⟨q, hq1, rfl⟩ := List.mem_map.1 hr
      rw [(hq q).1]
      exact h.below q hq1
  | none =>
    rw [set_find_none hf]
    have hne : ∀ r, r ∈ es → r.2.1 ≠ kc := fun r hr e => by
      obtain ⟨j, hj⟩ := List.getElem?_of_mem hr
      rw [findE_some h.keys hj e] at hf
      cases hf
    refine ⟨fun r hr => ?_, ?_, ?_, fun r hr => ?_⟩
    · rcases List.mem_append.1 hr with hr | hr
      · exact h.fit r hr
      · simp at hr; subst hr; exact ⟨hk, hv⟩
    · exact List.pairwise_append.2 ⟨h.keys, List.pairwise_singleton _ _, fun a ha b hb => by simp at hb; subst hb; exact hne a ha⟩
    · exact List.pairwise_append.2 ⟨h.born, List.pairwise_singleton _ _, fun a ha b hb => by simp at hb; subst hb; exact h.below a ha⟩
    · show r.1 < clock + 1
      rcases List.mem_append.1 hr with hr | hr
      · have := h.below r hr; omega
      · simp at hr; subst hr; show clock < clock + 1; omega

theorem evMapSet_ok {E : Env} (hE : EnvOk X.P E) {mt : TypeId} {x k v : AV} {cs : List Prop} {r : AV} {m' : Mem} (h : evMapSet E m mt x k v = some (cs, r, m')) (hc : AllC cs) {p : Pl} {w : World} (hm : MR X p m w) {vx vk vv : Value}
    (hx : VA X m.length p x vx) (hk : VA X m.length p k vk) (hv : VA X m.length p v vv) : ∃ w', (Instr.mapUpdate mt vx vk vv).run X.P w = .ok () w' ∧ m'.length = m.length ∧ MR X p m' w' ∧ r = .any := by
  unfold evMapSet at h
  split at h
  · rename_i kt et hmt
    obtain ⟨hu, hK, htk, heq, hte⟩ := mapTy_ok (X := X) hE hmt
    split at h
    · rename_i kc vc i clock kz vz es hkc hvc hom
      split at h
      · rename_i cs' hck
        have hall : cs = cs' ∧ (AllC cs' → fitCs (E.ti kt).zero kc ∧ fitCs (E.ti et).zero vc) := by
          refine ⟨?_, fun hc => ck_ok hck (fun h => by rw [Bool.and_eq_true] at h; exact ⟨fitBs_ok h.1, fitBs_ok h.2⟩) hc⟩
          split at h
          · unfold setL at h
            split at h <;> (dsimp only at h; rw [setF_eq] at h; simp only [Option.some.injEq, Prod.mk.injEq] at h; exact h.1.symm)
          · rw [setF_eq] at h; simp only [Option.some.injEq, Prod.mk.injEq] at h; exact h.1.symm
        obtain ⟨rfl, hfit⟩ := hall
        obtain ⟨hfk, hfv⟩ := hfit hc
        obtain ⟨arr, row, ho, rfl, hi, hh, k1, k2, hEnt0, hEnt, hA⟩ := ownMap_ok hm hom hx
        have hres : m' = m.set i (some [.mo (setE kc vc clock es).1 (E.ti kt).agg (E.ti et).agg kz vz (setE kc vc clock es).2]) ∧ r = .any := by
          split at h
          · rw [setL_eq hfk (fun r hr => (hEnt.fit r hr).1), setF_eq] at h
            simp only [Option.some.injEq, Prod.mk.injEq] at h
            exact ⟨h.2.2.symm, h.2.1.symm⟩
          · rw [setF_eq, hide_eq, hide_eq] at h
            simp only [Option.some.injEq, Prod.mk.injEq] at h
            exact ⟨h.2.2.symm, h.2.1.symm⟩
        obtain ⟨rfl, rfl⟩ := hres
        have hvk : VE (E.ti kt).agg kc vk := VE.of hkc (fitCs_exact hfk) hk
        have hvv : VE (E.ti et).agg vc vv := VE.of hvc (fitCs_exact hfv) hv
        obtain ⟨lk, hlk⟩ := key_lit X hK htk heq hfk hvk
        have hchk := hK.law.check w false hlk
        have hEnt' := (hEnt0.set ((kin_fit k1).2 hfk) ((kin_fit k2).2 hfv))
        have hz1 : 1 ≤ p.sz i := by have := ho.2.2; omega
        rcases find_ok X hK htk heq hEnt hA hfk hvk w with ⟨g1, g2, g3⟩ | ⟨j, q, e, g1, g2, g3, g4, g5, g6⟩
        · refine ⟨_, ?_, by simp, hm.writeO (w' := { w with heap := w.heap.setIfInBounds (p.at_ i) (.map (arr.push { key := vk, val := vv, born := clock }) (clock + 1)) }) hi ho ?_ rfl rfl rfl rfl hz1, rfl⟩
          · simp only [Instr.mapUpdate, Sem.run_bind, run_underlying hu, Result.andThen_ok, run_getObj_map hh, hchk, g1, run_setObj_map _ hh]
          · refine ⟨hEnt', arr.push { key := vk, val := vv, born := clock }, ?_, ?_, ?_⟩
            · rw [set_find_none g3]
            · rw [set_find_none g3]; simp [hA.1]
            · rw [set_find_none g3]
              intro j r e hj he
              rcases Nat.lt_or_ge j es.length with hlt | hge
              · rw [List.getElem?_append_left hlt] at hj
                rw [Array.getElem?_push, if_neg (by rw [hA.1]; omega)] at he
                exact hA.2 j r e hj he
              · rw [List.getElem?_append_right hge] at hj
                have hje : j = es.length := by
                  have := (List.getElem?_eq_some_iff.1 hj).1
                  simp at this
                  omega
                subst hje
                simp at hj
                rw [Array.getElem?_push, if_pos hA.1.symm] at he
                injection he with he
                subst hj; subst he
                exact ⟨rfl, hvk, hvv⟩
        · have hst := hK.law.stays w hlk
          have hkey : (((arr[j]?).map (·.key)).getD vk) = vk := by rw [g3]; exact g5
          refine ⟨_, ?_, by simp, hm.writeO (w' := { w with heap := w.heap.setIfInBounds (p.at_ i) (.map (arr.modify j fun e => { e with key := vk, val := vv }) clock) }) hi ho ?_ rfl rfl rfl rfl hz1, rfl⟩
          · simp only [Instr.mapUpdate, Sem.run_bind, run_underlying hu, Result.andThen_ok, run_getObj_map hh, hchk, g1, hkey, hst, run_setObj_map _ hh]
          · refine ⟨hEnt', arr.modify j fun e => { e with key := vk, val := vv }, ?_, ?_, ?_⟩
            · rw [set_find_some g6]
            · rw [set_find_some g6]; simp [hA.1]
            · rw [set_find_some g6]
              intro l r0 e0 hl he
              rw [List.getElem?_map] at hl
              cases hes : es[l]? with
              | none => rw [hes] at hl; cases hl
              | some r1 =>
                rw [hes] at hl
                simp only [Option.map_some, Option.some.injEq] at hl
                rw [Array.getElem?_modify] at he
                by_cases hjl : j = l
                · subst hjl
                  rw [g3, if_pos rfl] at he
                  rw [g2] at hes
                  injection hes with hes
                  subst hes
                  rw [same_iff.2 g4.symm] at hl
                  simp only [Option.map_some, Option.some.injEq] at he
                  subst hl; subst he
                  obtain ⟨q1, q2, q3⟩ := hA.2 j q e g2 g3
                  exact ⟨q1, by rw [g4]; exact hvk, hvv⟩
                · rw [if_neg hjl] at he
                  have hne : sameCells kc r1.2.1 = false := by
                    rw [Bool.eq_false_iff]
                    intro e2
                    have e2 := same_iff.1 e2
                    have hp := List.pairwise_iff_getElem.1 hEnt.keys
                    have hj1 := (List.getElem?_eq_some_iff.1 g2)
                    have hl1 := (List.getElem?_eq_some_iff.1 hes)
                    rcases Nat.lt_or_gt_of_ne hjl with hlt | hlt
                    · have := hp j l hj1.1 hl1.1 hlt
                      rw [hj1.2, hl1.2] at this
                      exact this (g4.trans e2)
                    · have := hp l j hl1.1 hj1.1 hlt
                      rw [hj1.2, hl1.2] at this
                      exact this (g4.trans e2).symm
                  rw [hne] at hl
                  subst hl
                  exact hA.2 l r1 e0 hes he
      · cases h
    · cases h
  · cases h

/-- an entry is taken out -/
noncomputable def delE (kc : List AC) (es : List Ent) : List Ent := es.filter fun r => !(sameCells kc r.2.1)
def delL (kc : List AC) : List Ent → List Ent
  | [] => []
  | r :: es => match eqCs kc r.2.1 with | true => delL kc es | false => r :: delL kc es
theorem delL_eq {zs kc : List AC} (h : fitCs zs kc) : ∀ {es : List Ent}, (∀ r, r ∈ es → fitCs zs r.2.1) → delL kc es = delE kc es
  | [], _ => rfl
  | r :: es, he => by
    unfold delL
    have : eqCs kc r.2.1 = sameCells kc r.2.1 := by rw [Bool.eq_iff_iff, eqCs_ok h (he r (by simp)), same_iff]
    have ih := delL_eq h (es := es) fun q hq => he q (by simp [hq])
    rw [this, ih]
    unfold delE
    rw [List.filter_cons]
    cases sameCells kc r.2.1 <;> rfl
theorem delE_none {kc : List AC} {es : List Ent} (h : ∀ r, r ∈ es → r.2.1 ≠ kc) : delE kc es = es := by
  unfold delE
  rw [List.filter_eq_self]
  intro r hr
  have : sameCells kc r.2.1 = false := by
    rw [Bool.eq_false_iff]
    intro e
    exact h r hr (same_iff.1 e).symm
  rw [this]; rfl
theorem delE_some {kc : List AC} : ∀ {es : List Ent} {j : Nat} {r : Ent}, es.Pairwise (fun a b => a.2.1 ≠ b.2.1) → es[j]? = some r → r.2.1 = kc → delE kc es = es.eraseIdx j
  | [], j, r, _, h, _ => by simp at h
  | q :: es, j, r, hp, h, e => by
    obtain ⟨h1, h2⟩ := List.pairwise_cons.1 hp
    unfold delE
    rw [List.filter_cons]
    cases j with
    | zero =>
      simp at h
      subst h
      rw [same_iff.2 e.symm]
      have := delE_none (kc := kc) (es := es) fun s hs hsk => h1 s hs (e.trans hsk.symm)
      unfold delE at this
      simpa using this
    | succ j =>
      simp at h
      have hne : sameCells kc q.2.1 = false := by
        rw [Bool.eq_false_iff]
        intro e2
        exact h1 r (List.mem_of_getElem? h) ((same_iff.1 e2).symm.trans e.symm)
      rw [hne]
      have := delE_some h2 h e
      unfold delE at this
      simp [this]

noncomputable def evMapDel (E : Env) (m : Mem) (mt : TypeId) (x k : AV) : RE :=
  match mapTy E mt with
  | some (kt, et) =>
    (match keyCs (E.ti kt).agg k, ownMap E m kt et x with
    | some kc, some (i, clock, kz, vz, es) =>
      (match ck E.lit (fitBs (E.ti kt).zero kc) (fitCs (E.ti kt).zero kc) with
      | some cs => (match E.lit with
        | true => setF m i (some [.mo clock (E.ti kt).agg (E.ti et).agg kz vz (delL kc es)]) fun m' => some (cs, .tup [], m')
        | false => setF m i (some [.mo clock (E.ti kt).agg (E.ti et).agg kz vz (hide (delE kc es))]) fun m' => some (cs, .tup [], m'))
      | none => none)
    | _, _ => none)
  | none => none

theorem EntOk.del {clock : Nat} {kz vz kc : List AC} {es : List Ent} (h : EntOk clock kz vz es) : EntOk clock kz vz (delE kc es) :=
  ⟨fun r hr => h.fit r (List.mem_filter.1 hr).1, h.keys.filter _, h.born.filter _, fun r hr => h.below r (List.mem_filter.1 hr).1⟩

theorem evMapDel_ok {E : Env} (hE : EnvOk X.P E) {mt rt kt' : TypeId} {x k : AV} {cs : List Prop} {r : AV} {m' : Mem} (h : evMapDel E m mt x k = some (cs, r, m')) (hc : AllC cs) {p : Pl} {w : World} (hm : MR X p m w) {vx vk : Value}
    (hx : VA X m.length p x vx) (hk : VA X m.length p k vk) : EOk X m (Builtin.delete_ #[mt, kt'] rt #[vx, vk]) p w r m' := by
  unfold evMapDel at h
  split at h
  · rename_i kt et hmt
    obtain ⟨hu, hK, htk, heq, hte⟩ := mapTy_ok (X := X) hE hmt
    split at h
    · rename_i kc i clock kz vz es hkc hom
      split at h
      · rename_i cs' hck
        have hcs : cs = cs' := by
          split at h <;> (rw [setF_eq] at h; simp only [Option.some.injEq, Prod.mk.injEq] at h; exact h.1.symm)
        subst hcs
        have hfk : fitCs (E.ti kt).zero kc := ck_ok hck fitBs_ok hc
        obtain ⟨arr, row, ho, rfl, hi, hh, k1, k2, hEnt0, hEnt, hA⟩ := ownMap_ok hm hom hx
        have hres : m' = m.set i (some [.mo clock (E.ti kt).agg (E.ti et).agg kz vz (delE kc es)]) ∧ r = .tup [] := by
          split at h
          · rw [delL_eq hfk (fun r hr => (hEnt.fit r hr).1), setF_eq] at h
            simp only [Option.some.injEq, Prod.mk.injEq] at h
            exact ⟨h.2.2.symm, h.2.1.symm⟩
          · rw [setF_eq, hide_eq] at h
            simp only [Option.some.injEq, Prod.mk.injEq] at h
            exact ⟨h.2.2.symm, h.2.1.symm⟩
        obtain ⟨rfl, rfl⟩ := hres
        have hvk : VE (E.ti kt).agg kc vk := VE.of hkc (fitCs_exact hfk) hk
        obtain ⟨lk, hlk⟩ := key_lit X hK htk heq hfk hvk
        have hchk := hK.law.check w arr.isEmpty hlk
        have hz1 : 1 ≤ p.sz i := by have := ho.2.2; omega
        rcases find_ok X hK htk heq hEnt hA hfk hvk w with ⟨g1, g2, g3⟩ | ⟨j, q, e, g1, g2, g3, g4, g5, g6⟩
        · refine ⟨p, .tuple #[], { w with heap := w.heap.setIfInBounds (p.at_ i) (.map arr clock) }, ?_, .refl _ _, by simp, .tup [] [] rfl (fun j c h => by simp at h), hm.writeO hi ho ⟨hEnt0.del, arr, rfl, ?_, ?_⟩ rfl rfl rfl rfl hz1⟩
          · simp [Builtin.delete_, run_underlying hu, run_getObj_map hh, hchk, g1, run_setObj_map _ hh]
          · rw [delE_none g2]; exact hA.1
          · rw [delE_none g2]; exact hA.2
        · refine ⟨p, .tuple #[], { w with heap := w.heap.setIfInBounds (p.at_ i) (.map (arr.eraseIdxIfInBounds j) clock) }, ?_, .refl _ _, by simp, .tup [] [] rfl (fun j c h => by simp at h), hm.writeO hi ho ⟨hEnt0.del, arr.eraseIdxIfInBounds j, rfl, ?_, ?_⟩ rfl rfl rfl rfl hz1⟩
          · simp [Builtin.delete_, run_underlying hu, run_getObj_map hh, hchk, g1, run_setObj_map _ hh]
          · have hlt := (Array.getElem?_eq_some_iff.1 g3).1
            have hlt2 := (List.getElem?_eq_some_iff.1 g2).1
            rw [delE_some hEnt.keys g2 g4, List.length_eraseIdx_of_lt hlt2]
            unfold Array.eraseIdxIfInBounds
            rw [dif_pos hlt, Array.size_eraseIdx, hA.1]
          · rw [delE_some hEnt.keys g2 g4]
            have hlt := (Array.getElem?_eq_some_iff.1 g3).1
            intro l r0 e0 hl he
            have he' : (arr.toList.eraseIdx j)[l]? = some e0 := by
              rw [← he]
              unfold Array.eraseIdxIfInBounds
              rw [dif_pos hlt, ← Array.getElem?_toList, Array.toList_eraseIdx]
            rw [List.getElem?_eraseIdx] at hl he'
            split at hl
            · rename_i h0
              rw [if_pos h0] at he'
              exact hA.2 l r0 e0 hl (by simpa using he')
            · rename_i h0
              rw [if_neg h0] at he'
              exact hA.2 (l + 1) r0 e0 hl (by simpa using he')
      · cases h
    · cases h
  · cases h

/-- an iterator -/
def evRange (E : Env) (m : Mem) (ty : TypeId) (x : AV) : RE :=
  match mapTy E ty with
  | some (kt, et) =>
    (match x with
    | .one .nm => snocF m (some [.itn]) fun m' => some ([], .one (.po (lenF m)), m')
    | _ => (match ownMap E m kt et x with
      | some (i, clock, _, _, _) => snocF m (some [.it i clock [] clock]) fun m' => some ([], .one (.po (lenF m)), m')
      | none => none))
  | none => none

theorem evRange_ok {E : Env} (hE : EnvOk X.P E) {ty : TypeId} {x : AV} {cs : List Prop} {v : AV} {m' : Mem} (h : evRange E m ty x = some (cs, v, m')) {p : Pl} {w : World} (hm : MR X p m w) {vx : Value}
    (hx : VA X m.length p x vx) : EOk X m (Instr.range ty vx) p w v m' := by
  unfold evRange at h
  split at h
  · rename_i kt et hmt
    obtain ⟨hu, _⟩ := mapTy_ok (X := X) hE hmt
    split at h
    · rw [snocF_eq, lenF_eq] at h
      simp only [Option.some.injEq, Prod.mk.injEq] at h
      obtain ⟨rfl, rfl, rfl⟩ := h
      have := hx.one_inv
      cases this
      refine ⟨p.putO m.length w.heap.size, _, _, run_range_nilMap w ty _ _ hu, .putO _ _ _, by simp, ?_, hm.allocO (c := .itn) ⟨_, _, _, rfl⟩ rfl rfl rfl rfl⟩
      rw [List.length_append]
      exact .one _ _ (VR.po_new _ _ _)
    · split at h
      · rename_i i clock kz vz es hom
        rw [snocF_eq, lenF_eq] at h
        simp only [Option.some.injEq, Prod.mk.injEq] at h
        obtain ⟨rfl, rfl, rfl⟩ := h
        obtain ⟨arr, row, ho, rfl, hi, hh, _⟩ := ownMap_ok hm hom hx
        refine ⟨p.putO m.length w.heap.size, _, _, run_range_map w ty _ _ _ _ _ hu hh, .putO _ _ _, by simp, ?_, hm.allocO (c := .it i clock [] clock) ⟨ho, rfl⟩ rfl rfl rfl rfl⟩
        rw [List.length_append]
        exact .one _ _ (VR.po_new _ _ _)
      · cases h
  · cases h

def memL (n : Nat) : List Nat → Bool
  | [] => false
  | k :: l => Nat.beq n k || memL n l
theorem memL_iff {n : Nat} : ∀ {l : List Nat}, memL n l = true ↔ n ∈ l
  | [] => by simp [memL]
  | k :: l => by
    unfold memL
    rw [Bool.or_eq_true, memL_iff (l := l), List.mem_cons]
    exact or_congr ⟨fun h => beq_true h, fun h => by subst h; simp⟩ Iff.rfl

/-- what an iterator has not handed out -/
def leftL (seen : List Nat) : List Ent → List Ent
  | [] => []
  | r :: es => match memL r.1 seen with | true => leftL seen es | false => r :: leftL seen es
theorem leftL_eq (seen : List Nat) : ∀ es : List Ent, leftL seen es = es.filter fun r => !(memL r.1 seen)
  | [] => rfl
  | r :: es => by
    unfold leftL
    rw [List.filter_cons, leftL_eq seen es]
    cases memL r.1 seen <;> rfl
def allLt (n : Nat) : List Ent → Bool
  | [] => true
  | r :: es => Nat.blt r.1 n && allLt n es
theorem allLt_ok {n : Nat} : ∀ {es : List Ent}, allLt n es = true → ∀ r, r ∈ es → r.1 < n
  | [], _, r, h => by cases h
  | q :: es, h, r, hr => by
    simp only [allLt, Bool.and_eq_true] at h
    rcases List.mem_cons.1 hr with rfl | hr
    · exact Nat.le_of_ble_eq_true h.1
    · exact allLt_ok h.2 r hr

/-- a step of an iterator, where at most one entry is left -/
def evNext (m : Mem) (it : AV) : RE :=
  match it with
  | .one (.po j) =>
    (match gt none m j with
    | some row => (match row with
      | [c] => (match c with
        | .itn => some ([], .tup [.one (.b false)], m)
        | .it mi since seen stepped => (match gt none m mi with
          | some rowm => (match rowm with
            | [cm] => (match cm with
              | .mo clock ka va _ _ es => (match allLt since es && Nat.ble since stepped with
                | true => (match leftL seen es with
                  | [] => some ([], .tup [.one (.b false)], m)
                  | [r] => setF m j (some [.it mi since (seen ++ [r.1]) clock]) fun m' => some ([], .tup [.one (.b true), mkV ka r.2.1, mkV va r.2.2], m')
                  | _ => none)
                | false => none)
              | _ => none)
            | _ => none)
          | none => none)
        | _ => none)
      | _ => none)
    | none => none)
  | _ => none

/-- side by side -/
inductive Two {α β : Type} (R : α → β → Prop) : List α → List β → Prop
  | nil : Two R [] []
  | cons {a : α} {b : β} {as : List α} {bs : List β} (h : R a b) (t : Two R as bs) : Two R (a :: as) (b :: bs)
theorem Two.of {α β : Type} {R : α → β → Prop} : ∀ {as : List α} {bs : List β}, as.length = bs.length → (∀ (j : Nat) (a : α) (b : β), as[j]? = some a → bs[j]? = some b → R a b) → Two R as bs
  | [], [], _, _ => .nil
  | a :: as, b :: bs, h, k => .cons (k 0 a b rfl rfl) (Two.of (by simpa using h) fun j x y h1 h2 => k (j + 1) x y (by simpa using h1) (by simpa using h2))
  | [], _ :: _, h, _ => by simp at h
  | _ :: _, [], h, _ => by simp at h

theorem filter_rel {es : List Ent} {arr : Array MapEntry} {ka va : Bool} (hA : Ents ka va es arr) (seen : List Nat) :
    Two (fun r e => e.born = r.1 ∧ VE ka r.2.1 e.key ∧ VE va r.2.2 e.val) (es.filter fun r => !(memL r.1 seen)) (leftOf arr seen.toArray).toList := by
  have key : ∀ (es : List Ent) (l : List MapEntry), Two (fun r (e : MapEntry) => e.born = r.1 ∧ VE ka r.2.1 e.key ∧ VE va r.2.2 e.val) es l →
      Two (fun r (e : MapEntry) => e.born = r.1 ∧ VE ka r.2.1 e.key ∧ VE va r.2.2 e.val) (es.filter fun r => !(memL r.1 seen)) (l.filter fun e => !(seen.toArray.contains e.born)) := by
    intro es l h
    induction h with
    | nil => exact .nil
    | cons h1 _ ih =>
      rename_i r e as bs hab
      have : (seen.toArray.contains e.born) = memL r.1 seen := by
        rw [h1.1, Bool.eq_iff_iff, memL_iff]
        simp
      rw [List.filter_cons, List.filter_cons, this]
      cases memL r.1 seen with
      | true => exact ih
      | false => exact .cons h1 ih
  have h0 : Two (fun r (e : MapEntry) => e.born = r.1 ∧ VE ka r.2.1 e.key ∧ VE va r.2.2 e.val) es arr.toList := by
    exact Two.of (by simpa using hA.1.symm) fun j r e h1 h2 => hA.2 j r e h1 (by simpa using h2)
  unfold leftOf
  rw [Array.toList_filter]
  exact key es arr.toList h0

theorem evNext_ok {it : AV} {cs : List Prop} {v : AV} {m' : Mem} (h : evNext m it = some (cs, v, m')) {p : Pl} {w : World} (hm : MR X p m w) {vi : Value} {ty : TypeId} (hi : VA X m.length p it vi) : EOk X m (Instr.next vi false ty) p w v m' := by
  unfold evNext at h
  split at h
  · rename_i j
    split at h
    · rename_i row hrow
      have hrow := gt_mem hrow
      split at h
      · rename_i c
        split at h
        · -- over no map
          simp only [Option.some.injEq, Prod.mk.injEq] at h
          obtain ⟨rfl, rfl, rfl⟩ := h
          have := hi.one_inv
          cases this with
          | po _ ho =>
            obtain ⟨c, q, h1, h2, h3⟩ := hm.obj hrow ho
            injection h1 with h1
            subst h1
            obtain ⟨a, b, s, rfl⟩ := h3
            refine ⟨p, .tuple #[.bool false], w, ?_, .refl _ _, Nat.le_refl _, .tup [.one (.b false)] [.bool false] rfl ?_, hm⟩
            · simp only [Instr.next, getObj, Sem.run_bind, Sem.run, h2, Result.andThen]
              rfl
            · intro k c hk
              match k, hk with
              | 0, hk => simp at hk; subst hk; exact .one _ _ (.b _)
              | k + 1, hk => simp at hk
        · rename_i mi since seen stepped
          split at h
          · rename_i rowm hrowm
            have hrowm := gt_mem hrowm
            split at h
            · rename_i cm
              split at h
              · rename_i clock ka va kz vz es
                split at h
                · rename_i hb
                  rw [Bool.and_eq_true] at hb
                  have hlt := allLt_ok hb.1
                  have hss := Nat.le_of_ble_eq_true hb.2
                  have := hi.one_inv
                  cases this with
                  | po _ ho =>
                    obtain ⟨c, q, h1, h2, h3⟩ := hm.obj hrow ho
                    injection h1 with h1
                    subst h1
                    obtain ⟨hom, rfl⟩ := h3
                    obtain ⟨c2, q2, g1, g2, g3⟩ := hm.obj hrowm hom
                    injection g1 with g1
                    subst g1
                    obtain ⟨hEnt, arr, rfl, g4, g5⟩ := g3
                    have hA : Ents ka va es arr := ⟨g4, g5⟩
                    have hold : ∀ x ∈ arr.toList, x.born < since := fun x hx => by
                      obtain ⟨l, hl⟩ := List.getElem?_of_mem hx
                      obtain ⟨r, q1, q2, _⟩ := hA.at hl
                      rw [q2]
                      exact hlt r (List.mem_of_getElem? q1)
                    have hrel := filter_rel hA seen
                    rw [← leftL_eq] at hrel
                    have hrun := run_next_at (P := X.P) w ty (p.at_ j) (p.at_ mi) since stepped seen.toArray arr clock h2 g2 hold hss
                    split at h
                    · rename_i hl
                      simp only [Option.some.injEq, Prod.mk.injEq] at h
                      obtain ⟨rfl, rfl, rfl⟩ := h
                      rw [hl] at hrel
                      have hnil : (leftOf arr seen.toArray).toList = [] := by
                        generalize (leftOf arr seen.toArray).toList = L at hrel
                        cases hrel
                        rfl
                      rcases hrun with ⟨_, hrun⟩ | ⟨e, he, _⟩
                      · refine ⟨p, .tuple #[.bool false], w, hrun, .refl _ _, Nat.le_refl _, .tup [.one (.b false)] [.bool false] rfl ?_, hm⟩
                        intro k c hk
                        match k, hk with
                        | 0, hk => simp at hk; subst hk; exact .one _ _ (.b _)
                        | k + 1, hk => simp at hk
                      · rw [hnil] at he; cases he
                    · rename_i r hl
                      rw [setF_eq] at h
                      simp only [Option.some.injEq, Prod.mk.injEq] at h
                      obtain ⟨rfl, rfl, rfl⟩ := h
                      rw [hl] at hrel
                      have hone : ∃ e0, (leftOf arr seen.toArray).toList = [e0] ∧ e0.born = r.1 ∧ VE ka r.2.1 e0.key ∧ VE va r.2.2 e0.val := by
                        generalize (leftOf arr seen.toArray).toList = L at hrel
                        match L, hrel with
                        | [e0], hrel => cases hrel with | cons h1 _ => exact ⟨e0, rfl, h1⟩
                      obtain ⟨e0, hL, b1, b2, b3⟩ := hone
                      rcases hrun with ⟨hz, _⟩ | ⟨e, he, w1, hw1, hrun⟩
                      · have : (leftOf arr seen.toArray).toList.length = 1 := by rw [hL]; rfl
                        simp at this
                        omega
                      · rw [hL] at he
                        simp at he
                        subst he
                        have hm1 : MR X p m w1 := by
                          rcases hw1 with rfl | rfl
                          · exact hm
                          · exact hm.drew
                        refine ⟨p, _, _, hrun, .refl _ _, by simp, ?_, hm1.writeO hrow ho ⟨hom, ?_⟩ rfl rfl rfl rfl (by have := ho.2.2; omega)⟩
                        · rw [List.length_set]
                          refine .tup [.one (.b true), mkV ka r.2.1, mkV va r.2.2] [.bool true, e.key, e.val] rfl ?_
                          intro k c hk
                          match k, hk with
                          | 0, hk => simp at hk; subst hk; exact .one _ _ (.b _)
                          | 1, hk => simp at hk; subst hk; exact b2.va _
                          | 2, hk => simp at hk; subst hk; exact b3.va _
                          | k + 3, hk => simp at hk
                        · rw [b1]
                          simp
                    · cases h
                · cases h
              · cases h
            · cases h
          · cases h
        · cases h
      · cases h
    · cases h
  · cases h
end
end DH
