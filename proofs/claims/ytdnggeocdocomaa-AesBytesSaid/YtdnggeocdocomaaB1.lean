/- The layer: operations that build, store and slice, and that the machine follows. -/
import Derived.Test.YtdnggeocdocomaaA9
set_option linter.unusedVariables false
set_option linter.unusedSimpArgs false
namespace DH
open Go

section
variable {X : Ctx} {p : Pl} {m : Mem} {wb : World}

/-! parts of aggregates -/

/-- a part of type t of cells, from off on -/
theorem part_ok {N : Nat} {t : TypeId} {ti : TI} (ht : match ti.d with | .other => True | _ => TyOk X.P t ti) {sym : Bool} {row : List AC} {off : Nat} {cs : List Prop} {v : AV}
    (h : rd sym ti row off = some (cs, v)) (hc : AllC cs) {l : List Value} (hl : VL X N p row l) : ∃ u, VA X N p v u ∧ ∀ w, (part t l.toArray off).run X.P w = .ok u w := by
  have hd : TyOk X.P t ti := by
    unfold rd at h
    split at h
    · cases h
    · rename_i hne; revert ht; cases hd : ti.d <;> simp_all
  have h' : rdT sym ti row off = some (cs, v) := by
    unfold rd at h
    split at h
    · cases h
    · exact h
  have hagg : ti.agg = true → ∀ w, (part t l.toArray off).run X.P w = .ok (.agg ((l.drop off).take ti.sz).toArray) w := by
    intro ha w
    unfold part
    rw [Sem.run_bind, hd.isAgg]
    simp only [Result.andThen_ok, ha, if_true, Sem.run_bind, hd.szrun, Sem.run_pure]
    congr 2
    apply Array.ext'
    rw [Array.toList_extract]
    simp [List.extract]
  have hone : ti.agg = false → ∀ u, l[off]? = some u → ∀ w, (part t l.toArray off).run X.P w = .ok u w := by
    intro ha u hu w
    unfold part
    rw [Sem.run_bind, hd.isAgg]
    simp [ha, hu]
  have hcell : ∀ {o : Nat} {c : AC}, row[o]? = some c → ∃ u, l[o]? = some u ∧ VR X N p c u := by
    intro o c ho
    have hlt : o < l.length := by have := (List.getElem?_eq_some_iff.1 ho).1; have := hl.1; omega
    exact ⟨_, List.getElem?_eq_getElem hlt, hl.2 o c _ ho (List.getElem?_eq_getElem hlt)⟩
  have hsub : ∀ n, VL X N p ((row.drop off).take n) ((l.drop off).take n) := by
    intro n
    refine ⟨by simp [hl.1], fun j c u h1 h2 => ?_⟩
    have hj : j < n := by have := (List.getElem?_eq_some_iff.1 h1).1; simp at this; omega
    rw [List.getElem?_take_of_lt hj, List.getElem?_drop] at h1 h2
    exact hl.2 _ c u h1 h2
  unfold rdT at h'
  split at h'
  · rename_i ha
    split at h'
    · split at h'
      · simp only [Option.some.injEq, Prod.mk.injEq] at h'
        obtain ⟨rfl, rfl⟩ := h'
        exact ⟨_, .agg _ _ (hsub _), hagg ha⟩
      · split at h'
        · rename_i ps cs' hs
          split at h'
          · rename_i hb
            simp only [Option.some.injEq, Prod.mk.injEq] at h'
            obtain ⟨rfl, rfl⟩ := h'
            rw [Bool.and_eq_true] at hb
            have hpos := Nat.le_of_ble_eq_true hb.2
            have hb := beq_true hb.1
            rw [lenF_eq] at hb
            obtain ⟨g1, g2⟩ := shaped_ok (X := X) (N := N) (p := p) hs hc
            have hlen : off + ti.sz ≤ row.length := by
              have hlt : ti.sz - 1 < cs'.length := by omega
              have h3 := List.getElem?_eq_getElem hlt
              have h4 := gt_some (g2 _ _ h3) (shaped_ne hs _ _ h3)
              have := (List.getElem?_eq_some_iff.1 h4).1
              omega
            refine ⟨_, .agg _ ((l.drop off).take ti.sz) ⟨by have := hl.1; simp; omega, fun j c u hj hu => ?_⟩, hagg ha⟩
            have h4 := gt_some (g2 j c hj) (shaped_ne hs j c hj)
            have hjl : j < ti.sz := by have := (List.getElem?_eq_some_iff.1 hj).1; omega
            exact (hsub ti.sz).2 j c u (by rw [List.getElem?_take_of_lt hjl, List.getElem?_drop]; exact h4) hu
          · cases h'
        · cases h'
    · rw [takeF_eq, dropF_eq] at h'
      split at h'
      · simp only [Option.some.injEq, Prod.mk.injEq] at h'
        obtain ⟨rfl, rfl⟩ := h'
        exact ⟨_, .agg _ _ (hsub _), hagg ha⟩
      · cases h'
  · rename_i ha
    have ha : ti.agg = false := by simpa using ha
    split at h'
    · split at h'
      · split at h'
        · rename_i c hty
          simp only [Option.some.injEq, Prod.mk.injEq] at h'
          obtain ⟨rfl, rfl⟩ := h'
          obtain ⟨u, h1, h2⟩ := hcell (gt_some hc.1 (typed_ne hty))
          exact ⟨u, .one _ _ h2, hone ha u h1⟩
        · cases h'
      · cases h'
    · split at h'
      · rename_i c hrd
        simp only [Option.some.injEq, Prod.mk.injEq] at h'
        obtain ⟨rfl, rfl⟩ := h'
        have := rdC_eq hrd
        obtain ⟨u, h1, h2⟩ := hcell (gt_some this.symm (by rintro rfl; rw [← this] at hrd; cases hrd))
        exact ⟨u, .one _ _ h2, hone ha u h1⟩
      · cases h'

def evField (E : Env) (ty : TypeId) (x : AV) (f : Nat) : RV :=
  match (E.ti ty).d with
  | .struct fs =>
    match fs[f]?, x with
    | some (off, ft), .agg cs => rd (E.sym ft) (E.ti ft) cs off
    | _, _ => none
  | _ => none

theorem evField_ok {E : Env} (hE : EnvOk X.P E) {ty : TypeId} {x : AV} {f : Nat} {cs : List Prop} {v : AV} (h : evField E ty x f = some (cs, v)) (hc : AllC cs) {vx : Value}
    (hx : VA X m.length p x vx) : G1 X p m wb (Instr.field ty vx f) v := by
  unfold evField at h
  split at h
  · rename_i fs hd
    obtain ⟨gs, hu, hl, hf⟩ := und_struct (d_ok hE hd (by simp)) hd
    split at h
    · rename_i off ft row hfs
      obtain ⟨g, hg, rfl, rfl⟩ := hf _ _ _ hfs
      cases hx with
      | agg _ l hl =>
      obtain ⟨u, h1, h2⟩ := part_ok (hE.ti g.type) h hc hl
      exact ⟨u, h1, fun w _ => by simp [Instr.field, run_underlying hu, hg, asAgg, h2]⟩
    · cases h
  · cases h

def evIndex (E : Env) (ty : TypeId) (x ix : AV) : RV :=
  match ix with
  | .one ic =>
    match ixI ic with
    | some i =>
      match (E.ti ty).d, x with
      | .array n e, .agg cs =>
        (match E.esz e, ckIx E ic i n with
        | some s, some c1 => (match rd (E.sym e) (E.ti e) cs (i.toNat * s) with | some (c2, v) => some (c1 ++ c2, v) | none => none)
        | _, _ => none)
      | .str, .one (.s a) => w1 (ckIx E ic i a.length) (.u8 (gt 0 a i.toNat))
      | _, _ => none
    | none => none
  | _ => none

theorem AllC_app {a b : List Prop} : AllC (a ++ b) ↔ AllC a ∧ AllC b := by
  induction a with
  | nil => simp [AllC]
  | cons c a ih => simp [AllC, ih, and_assoc]

theorem evIndex_ok {E : Env} (hE : EnvOk X.P E) {ty : TypeId} {x ix : AV} {cs : List Prop} {v : AV} (h : evIndex E ty x ix = some (cs, v)) (hc : AllC cs) {vx vi : Value}
    (hx : VA X m.length p x vx) (hi : VA X m.length p ix vi) : G1 X p m wb (Instr.index ty vx vi) v := by
  unfold evIndex at h
  split at h
  · rename_i ic
    split at h
    · rename_i i hii
      obtain ⟨k, rfl⟩ := ixI_ok hii hi.one_inv
      split at h
      · rename_i n e row hd
        have hu := und_arr (d_ok hE hd (by simp)) hd
        split at h
        · rename_i s c1 hs hck
          obtain ⟨he, hsz, h1⟩ := esz_ok hE hs
          have hrun : ∀ w, (Go.sizeOf e).run X.P w = .ok s w := fun w => by rw [hsz]; exact he.szrun w
          split at h
          · rename_i c2 v' hrd
            simp only [Option.some.injEq, Prod.mk.injEq] at h; obtain ⟨rfl, rfl⟩ := h
            obtain ⟨hc1, hc2⟩ := AllC_app.1 hc
            have hb := ckIx_ok hck hii hc1
            cases hx with
            | agg _ l hl =>
            obtain ⟨u, g1, g2⟩ := part_ok (hE.ti e) hrd hc2 hl
            exact ⟨u, g1, fun w _ => by simp [Instr.index, asIntOf, run_underlying hu, hb, hrun, g2]⟩
          · cases h
        · cases h
      · rename_i a hd
        obtain ⟨d, hu, hd'⟩ := (d_ok hE hd (by simp)).und
        rw [hd] at hd'
        cases d <;> simp only [tdOk] at hd'
        obtain ⟨g, rfl⟩ := w1_eq h
        have hb := ckIx_ok g hii hc
        have hv := hx.one_inv
        cases hv with
        | s _ s hs =>
          have hlen : s.size = a.length := by rw [← hs]; simp
          have hlt : i.toNat < s.size := by omega
          have hget : s[i.toNat]? = some s[i.toNat] := getElem?_pos s i.toNat hlt
          have hbv : gt 0 a i.toNat = (s[i.toNat]).toBitVec := by
            rw [gt_eq, ← hs, List.getElem?_map, Array.getElem?_toList, Array.getElem?_eq_getElem (by exact hlt)]
            rfl
          refine ok1 (u := .int .u8 ((s[i.toNat]).toNat : Int)) ?_ (fun w => by simp [Instr.index, asIntOf, run_underlying hu, hb, hget])
          rw [hbv]
          exact .u8 _
      · cases h
    · cases h
  · cases h

def evExtract (x : AV) (i : Nat) : RV :=
  match x with
  | .tup vs => if Nat.blt i (lenF vs) then some ([], gt .any vs i) else none
  | _ => none

theorem evExtract_ok {x : AV} {i : Nat} {cs : List Prop} {v : AV} (h : evExtract x i = some (cs, v)) {vx : Value} (hx : VA X m.length p x vx) : G1 X p m wb (Instr.extract vx i) v := by
  unfold evExtract at h
  split at h
  · rename_i vs
    split at h
    · rename_i hb
      simp only [Option.some.injEq, Prod.mk.injEq] at h; obtain ⟨rfl, rfl⟩ := h
      have hlt : i < vs.length := by rw [← lenF_eq]; exact Nat.le_of_ble_eq_true hb
      cases hx with
      | tup _ l hl hh =>
      have h1 := List.getElem?_eq_getElem hlt
      have h2 := hh i _ h1
      have hlt2 : i < l.length := by omega
      have h3 := List.getElem?_eq_getElem hlt2
      rw [gt_eq, h1]
      simp only [List.getD_eq_getElem?_getD, h3, Option.getD_some] at h2 ⊢
      exact ⟨l[i], h2, fun w _ => by simp [Instr.extract, h3]⟩
    · cases h
  · cases h

/-! len, min, max -/

def evLen (E : Env) (ty : TypeId) (x : AV) : RV :=
  match (E.ti ty).d, x with
  | .str, .one (.s a) => some ([], .one (.i64 a.length))
  | .array n _, _ => some ([], .one (.i64 n))
  | .slice _, .one (.sv _ _ n) => some ([], .one (.i64 n))
  | .slice _, .one (.gs _ n _) => some ([], .one (.i64 n))
  | .slice _, .one (.xs _ _ n) => some ([], .one (.i64 n))
  | .slice _, .one .ns => some ([], .one (.i64 0))
  | _, _ => none

theorem evLen_ok {E : Env} (hE : EnvOk X.P E) {ty rt : TypeId} {x : AV} {cs : List Prop} {v : AV} (h : evLen E ty x = some (cs, v)) {vx : Value} (hx : VA X m.length p x vx) :
    G1 X p m wb (Builtin.len_ #[ty] rt #[vx]) v := by
  unfold evLen at h
  split at h
  · rename_i hd
    simp only [Option.some.injEq, Prod.mk.injEq] at h; obtain ⟨rfl, rfl⟩ := h
    obtain ⟨d, hu, hd'⟩ := (d_ok hE hd (by simp)).und
    rw [hd] at hd'
    cases d <;> simp only [tdOk] at hd'
    have hv := hx.one_inv
    cases hv with
    | s _ s hs =>
      rename_i a
      have hlen : a.length = s.size := by rw [← hs]; simp
      rw [hlen]
      exact ok1 (.i64 _) (fun w => by simp [Builtin.len_, run_underlying hu, goInt])
  · rename_i n e hd
    simp only [Option.some.injEq, Prod.mk.injEq] at h; obtain ⟨rfl, rfl⟩ := h
    have hu := und_arr (d_ok hE hd (by simp)) hd
    exact ok1 (.i64 _) (fun w => by simp [Builtin.len_, run_underlying hu, goInt])
  · rename_i e b o n hd
    simp only [Option.some.injEq, Prod.mk.injEq] at h; obtain ⟨rfl, rfl⟩ := h
    have hu := und_slice (d_ok hE hd (by simp)) hd
    have hv := hx.one_inv
    cases hv <;> exact ok1 (.i64 _) (fun w => by simp [Builtin.len_, run_underlying hu, goInt])
  · rename_i e b n q hd
    simp only [Option.some.injEq, Prod.mk.injEq] at h; obtain ⟨rfl, rfl⟩ := h
    have hu := und_slice (d_ok hE hd (by simp)) hd
    have hv := hx.one_inv
    cases hv <;> exact ok1 (.i64 _) (fun w => by simp [Builtin.len_, run_underlying hu, goInt])
  · rename_i e b o n hd
    simp only [Option.some.injEq, Prod.mk.injEq] at h; obtain ⟨rfl, rfl⟩ := h
    have hu := und_slice (d_ok hE hd (by simp)) hd
    have hv := hx.one_inv
    cases hv <;> exact ok1 (.i64 _) (fun w => by simp [Builtin.len_, run_underlying hu, goInt])
  · rename_i e hd
    simp only [Option.some.injEq, Prod.mk.injEq] at h; obtain ⟨rfl, rfl⟩ := h
    have hu := und_slice (d_ok hE hd (by simp)) hd
    have hv := hx.one_inv
    cases hv <;> exact ok1 (.i64 _) (fun w => by simp [Builtin.len_, run_underlying hu, goInt])
  · cases h

def minC (a b : AC) : Option AC :=
  match a, b with
  | .i64 x, .i64 y => some (.i64 (min x y))
  | .u8 x, .u8 y => some (.u8 (if y < x then y else x))
  | .u16 x, .u16 y => some (.u16 (if y < x then y else x))
  | .u32 x, .u32 y => some (.u32 (if y < x then y else x))
  | .u64 x, .u64 y => some (.u64 (if y < x then y else x))
  | _, _ => none

def maxC (a b : AC) : Option AC :=
  match a, b with
  | .i64 x, .i64 y => some (.i64 (max x y))
  | .u8 x, .u8 y => some (.u8 (if x < y then y else x))
  | .u16 x, .u16 y => some (.u16 (if x < y then y else x))
  | .u32 x, .u32 y => some (.u32 (if x < y then y else x))
  | .u64 x, .u64 y => some (.u64 (if x < y then y else x))
  | _, _ => none

def evMM (f : AC → AC → Option AC) (x y : AV) : RV :=
  match x, y with
  | .one a, .one b => (match f a b with | some c => some ([], .one c) | none => none)
  | _, _ => none

theorem evMin_ok {x y : AV} {cs : List Prop} {v : AV} (h : evMM minC x y = some (cs, v)) {ts : Array TypeId} {rt : TypeId} {vx vy : Value} (hx : VA X m.length p x vx) (hy : VA X m.length p y vy) :
    G1 X p m wb (Builtin.min_ ts rt #[vx, vy]) v := by
  unfold evMM at h
  split at h
  · split at h
    · rename_i a b c hc
      simp only [Option.some.injEq, Prod.mk.injEq] at h; obtain ⟨rfl, rfl⟩ := h
      have h1 := hx.one_inv
      have h2 := hy.one_inv
      have key : ∀ {n : Nat} (x y : BitVec n), ((y.toNat : Int) < x.toNat) ↔ y < x := fun x y => by rw [BitVec.lt_def]; omega
      unfold minC at hc
      split at hc <;> simp only [Option.some.injEq, reduceCtorEq] at hc <;> subst hc <;> cases h1 <;> cases h2
      · rename_i x y
        have e : (if y < x then y else x) = min x y := by omega
        exact ok1 (u := .int .i64 (min x y)) (.i64 _) (fun w => by simp [Builtin.min_, Builtin.min2, e])
      · exact ok1 (u := .int .u8 _) (.u8 _) (fun w => by simp [Builtin.min_, Builtin.min2, key]; split <;> rfl)
      · exact ok1 (u := .int .u16 _) (.u16 _) (fun w => by simp [Builtin.min_, Builtin.min2, key]; split <;> rfl)
      · exact ok1 (u := .int .u32 _) (.u32 _) (fun w => by simp [Builtin.min_, Builtin.min2, key]; split <;> rfl)
      · exact ok1 (u := .int .u64 _) (.u64 _) (fun w => by simp [Builtin.min_, Builtin.min2, key]; split <;> rfl)
    · cases h
  · cases h

theorem evMax_ok {x y : AV} {cs : List Prop} {v : AV} (h : evMM maxC x y = some (cs, v)) {ts : Array TypeId} {rt : TypeId} {vx vy : Value} (hx : VA X m.length p x vx) (hy : VA X m.length p y vy) :
    G1 X p m wb (Builtin.max_ ts rt #[vx, vy]) v := by
  unfold evMM at h
  split at h
  · split at h
    · rename_i a b c hc
      simp only [Option.some.injEq, Prod.mk.injEq] at h; obtain ⟨rfl, rfl⟩ := h
      have h1 := hx.one_inv
      have h2 := hy.one_inv
      have key : ∀ {n : Nat} (x y : BitVec n), ((x.toNat : Int) < y.toNat) ↔ x < y := fun x y => by rw [BitVec.lt_def]; omega
      unfold maxC at hc
      split at hc <;> simp only [Option.some.injEq, reduceCtorEq] at hc <;> subst hc <;> cases h1 <;> cases h2
      · rename_i x y
        have e : (if x < y then y else x) = max x y := by omega
        exact ok1 (u := .int .i64 (max x y)) (.i64 _) (fun w => by simp [Builtin.max_, Builtin.max2, e])
      · exact ok1 (u := .int .u8 _) (.u8 _) (fun w => by simp [Builtin.max_, Builtin.max2, key]; split <;> rfl)
      · exact ok1 (u := .int .u16 _) (.u16 _) (fun w => by simp [Builtin.max_, Builtin.max2, key]; split <;> rfl)
      · exact ok1 (u := .int .u32 _) (.u32 _) (fun w => by simp [Builtin.max_, Builtin.max2, key]; split <;> rfl)
      · exact ok1 (u := .int .u64 _) (.u64 _) (fun w => by simp [Builtin.max_, Builtin.max2, key]; split <;> rfl)
    · cases h
  · cases h
end
end DH
