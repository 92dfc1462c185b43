/- The layer: abstract values, operations on them, and that the machine follows. -/
import Derived.Test.YtdnggeocdocomaaA4
set_option linter.unusedVariables false
set_option linter.unusedSimpArgs false
namespace DH
open Go

/-! Operations that only compute and read. -/

abbrev RV := Option (List Prop × AV)

/-- A computation that has one value, in the worlds that hold the tracked memory as wb does. -/
def G1 (X : Ctx) (p : Pl) (m : Mem) (wb : World) (s : Sem Value) (v : AV) : Prop :=
  ∃ u, VA X m.length p v u ∧ ∀ w, MRw X p m wb w → s.run X.P w = .ok u w

theorem G1.of_gives {X : Ctx} {p : Pl} {m : Mem} {wb : World} {s : Sem Value} {c : AC} (h : ∃ u, Gives X.P s u ∧ VR X m.length p c u) : G1 X p m wb s (.one c) :=
  let ⟨u, h1, h2⟩ := h
  ⟨u, .one _ _ h2, fun w _ => h1 w⟩

def asU8 : AC → BitVec 8 | .u8 x => x | _ => 0
def asU16 : AC → BitVec 16 | .u16 x => x | _ => 0
def asU32 : AC → BitVec 32 | .u32 x => x | _ => 0
def asU64 : AC → BitVec 64 | .u64 x => x | _ => 0
def asI64 : AC → Int | .i64 x => x | _ => 0
def asB : AC → Bool | .b x => x | _ => false
def asS : AC → List (BitVec 8) | .s x => x | _ => []
def asF : AC → Nat | .f x => x | _ => 0
def xsRow : AC → List AC | .xs r _ _ => r | _ => []
def xsOff : AC → Nat | .xs _ o _ => o | _ => 0
def xsLen : AC → Nat | .xs _ _ n => n | _ => 0

/-- a cell, read as one of the kind of z -/
def typed (z c : AC) : Option AC :=
  match z with
  | .u8 _ => some (.u8 (asU8 c))
  | .u16 _ => some (.u16 (asU16 c))
  | .u32 _ => some (.u32 (asU32 c))
  | .u64 _ => some (.u64 (asU64 c))
  | .i64 _ => some (.i64 (asI64 c))
  | .b _ => some (.b (asB c))
  | .s _ => some (.s (asS c))
  | .f _ => some (.f (asF c))
  | .ns => some (.xs (xsRow c) (xsOff c) (xsLen c))
  | _ => none

def shaped : List AC → List AC → Nat → Option (List Prop × List AC)
  | [], _, _ => some ([], [])
  | z :: zs, row, o =>
    match typed z (gt .any row o), shaped zs row (o + 1) with
    | some c, some (ps, cs) => some ((gt .any row o = c) :: ps, c :: cs)
    | _, _ => none

/-- a cell that is laid out -/
def rdC : AC → Option AC
  | .any => none
  | .u8 x => some (.u8 x)
  | .u16 x => some (.u16 x)
  | .u32 x => some (.u32 x)
  | .u64 x => some (.u64 x)
  | .i64 x => some (.i64 x)
  | .i32 x => some (.i32 x)
  | .b x => some (.b x)
  | .s x => some (.s x)
  | .f x => some (.f x)
  | .np => some .np
  | .ns => some .ns
  | .nf => some .nf
  | .ptr i o => some (.ptr i o)
  | .sv i o n => some (.sv i o n)
  | .gs i n e => some (.gs i n e)
  | .xp r o => some (.xp r o)
  | .xs r o n => some (.xs r o n)
  | .fn f c => some (.fn f c)

theorem rdC_eq {c d : AC} (h : rdC c = some d) : d = c := by cases c <;> simp_all [rdC]

def isArr : TD → Bool
  | .array _ _ => true
  | _ => false

def rdT (sym : Bool) (ti : TI) (row : List AC) (o : Nat) : RV :=
  match ti.agg with
  | true =>
    (match sym with
    | true =>
      (match isArr ti.d || Nat.ble 16 ti.sz with
      | true => some ([o + ti.sz ≤ row.length], .agg ((row.drop o).take ti.sz))
      | false => (match shaped ti.zero row o with | some (ps, cs) => if Nat.beq (lenF ti.zero) ti.sz && Nat.ble 1 ti.sz then some (ps, .agg cs) else none | none => none))
    | false => takeF (dropF row o) ti.sz fun cs => if Nat.beq (lenF cs) ti.sz then some ([], .agg cs) else none)
  | false =>
    (match sym with
    | true => (match ti.zero with | [z] => (match typed z (gt .any row o) with | some c => some ([gt .any row o = c], .one c) | none => none) | _ => none)
    | false => (match rdC (gt .any row o) with | some c => some ([], .one c) | none => none))

/-- a variable of a type, read out of a row -/
def rd (sym : Bool) (ti : TI) (row : List AC) (o : Nat) : RV :=
  match ti.d with
  | .other => none
  | _ => rdT sym ti row o

/-- what a row's cells read as -/
def RowAt (X : Ctx) (p : Pl) (m : Mem) (wb : World) (row : List AC) (b k : Nat) : Prop :=
  ∃ g : Nat → Value, ∀ (j : Nat) (c : AC), row[j]? = some c → VR X m.length p c (g j) ∧ ∀ w, MRw X p m wb w → w.cell? ⟨b, k + j, none⟩ = some (g j)

theorem RowAt.own {X : Ctx} {p : Pl} {m : Mem} {wb : World} {i : Nat} {row : List AC} (hb : MR X p m wb) (h : m[i]? = some (some row)) : RowAt X p m wb row (p.at_ i) 0 := by
  rcases hb.blk i row h with ⟨_, rfl⟩ | ⟨hz0, hb'⟩
  · exact ⟨fun _ => undef, fun j c hj => by simp at hj⟩
  obtain ⟨cs, ty, fr, h1, h2, h3, h4, h5⟩ := hb'.ex
  refine ⟨fun j => cs.getD j undef, fun j c hj => ?_⟩
  have hlt : j < cs.size := by have := (List.getElem?_eq_some_iff.1 hj).1; omega
  have h6 : cs[j]? = some cs[j] := Array.getElem?_eq_getElem hlt
  have h7 : cs.getD j undef = cs[j] := by simp [Array.getD, hlt]
  refine ⟨by show VR _ _ _ c (cs.getD j undef); rw [h7]; exact h5 j c _ hj h6, fun w hw => ?_⟩
  have h8 : w.heap[p.at_ i]? = some (.cells cs ty fr) := by rw [hw.2 i row h hz0, h1]
  simp [World.cell?, h8, h6, h7]

theorem RowAt.old {X : Ctx} {p : Pl} {m : Mem} {wb : World} {b k : Nat} {row : List AC} {g : Nat → Value} (hb : X.ext b) (hr : ∀ j c, row[j]? = some c → X.w0.cell? ⟨b, k + j, none⟩ = some (g j))
    {p0 : Pl} (hv : ∀ j c, row[j]? = some c → VR X 0 p0 c (g j)) : RowAt X p m wb row b k := by
  refine ⟨g, fun j c hj => ⟨(hv j c hj).mono (Nat.zero_le _) (fun i hi => absurd hi (Nat.not_lt_zero i)), fun w hw => ?_⟩⟩
  have := hr j c hj
  simp only [World.cell?] at this ⊢
  rw [hw.1.keep b (Ctx.ext_old hb)]
  exact this

theorem beq_true {a b : Nat} (h : Nat.beq a b = true) : a = b := Nat.eq_of_beq_eq_true h

theorem TyOk.isAgg {P : Program} {t : TypeId} {ti : TI} (h : TyOk P t ti) (w : World) : (isAgg t).run P w = .ok ti.agg w := by
  obtain ⟨d, h1, h2⟩ := h.und
  have h3 := h.agg
  unfold Go.isAgg
  rw [Sem.run_bind, run_underlying h1]
  rw [h3]
  revert h2
  cases ti.d <;> cases d <;> simp [tdOk]

theorem TyOk.szrun {P : Program} {t : TypeId} {ti : TI} (h : TyOk P t ti) (w : World) : (Go.sizeOf t).run P w = .ok ti.sz w := by
  obtain ⟨i, h1, h2, _⟩ := h.info
  simp [Go.sizeOf, typeInfo, h1, h2]

theorem add_addr (b k o j : Nat) : Addr.add ⟨b, k + o, none⟩ j = ⟨b, k + (o + j), none⟩ := by
  rw [Addr.add_lit, Nat.add_assoc]

/-- cells of a row, loaded one by one -/
theorem RowAt.cells {X : Ctx} {p : Pl} {m : Mem} {wb : World} {b k : Nat} {row : List AC} (h : RowAt X p m wb row b k) (o n : Nat) (hn : o + n ≤ row.length) :
    ∃ l : List Value, l.length = n ∧ VL X m.length p ((row.drop o).take n) l ∧ ∀ w, MRw X p m wb w → (loadCells ⟨b, k + o, none⟩ n).run X.P w = .ok l.toArray w := by
  obtain ⟨g, hg⟩ := h
  refine ⟨(List.range n).map fun j => g (o + j), by simp, ⟨by simp; omega, fun j c u h1 h2 => ?_⟩, fun w hw => ?_⟩
  · have hj : j < n := by have := (List.getElem?_eq_some_iff.1 h1).1; simp at this; omega
    rw [List.getElem?_take_of_lt hj, List.getElem?_drop] at h1
    simp only [List.getElem?_map, List.getElem?_range hj, Option.map_some, Option.some.injEq] at h2
    subst h2
    exact (hg _ c h1).1
  · have := run_loadCells_list (P := X.P) (w := w) ⟨b, k + o, none⟩ ((List.range n).map fun j => g (o + j)) (fun j v hj => by
      have hjn : j < n := by have := (List.getElem?_eq_some_iff.1 hj).1; simpa using this
      simp only [List.getElem?_map, List.getElem?_range hjn, Option.map_some, Option.some.injEq] at hj
      subst hj
      rw [add_addr]
      have hlt : o + j < row.length := by omega
      exact (hg (o + j) _ (List.getElem?_eq_getElem hlt)).2 w hw)
    simpa using this

theorem RowAt.cell {X : Ctx} {p : Pl} {m : Mem} {wb : World} {b k : Nat} {row : List AC} (h : RowAt X p m wb row b k) {o : Nat} {c : AC} (hc : row[o]? = some c) :
    ∃ u, VR X m.length p c u ∧ ∀ w, MRw X p m wb w → (load ⟨b, k + o, none⟩).run X.P w = .ok u w := by
  obtain ⟨g, hg⟩ := h
  refine ⟨g o, (hg o c hc).1, fun w hw => ?_⟩
  simp [run_load, (hg o c hc).2 w hw]

theorem shaped_ok {X : Ctx} {N : Nat} {p : Pl} : ∀ {zs : List AC} {row : List AC} {o : Nat} {ps : List Prop} {cs : List AC}, shaped zs row o = some (ps, cs) → AllC ps →
    cs.length = zs.length ∧ ∀ (j : Nat) (c : AC), cs[j]? = some c → gt .any row (o + j) = c
  | [], row, o, ps, cs, h, _ => by simp only [shaped, Option.some.injEq, Prod.mk.injEq] at h; obtain ⟨rfl, rfl⟩ := h; simp
  | z :: zs, row, o, ps, cs, h, hp => by
    unfold shaped at h
    split at h
    · rename_i c ps' cs' h1 h2
      simp only [Option.some.injEq, Prod.mk.injEq] at h
      obtain ⟨rfl, rfl⟩ := h
      obtain ⟨g1, g2⟩ := shaped_ok (X := X) (N := N) (p := p) h2 hp.2
      refine ⟨by simp [g1], fun j c' hj => ?_⟩
      cases j with
      | zero => simp at hj; subst hj; exact hp.1
      | succ j => simp at hj; have := g2 j c' hj; rw [show o + (j + 1) = o + 1 + j by omega]; exact this
    · cases h

theorem typed_ne {z c d : AC} (h : typed z c = some d) : d ≠ .any := by
  unfold typed at h
  split at h <;> simp only [Option.some.injEq, reduceCtorEq] at h <;> subst h <;> simp

theorem shaped_ne : ∀ {zs : List AC} {row : List AC} {o : Nat} {ps : List Prop} {cs : List AC}, shaped zs row o = some (ps, cs) → ∀ (j : Nat) (c : AC), cs[j]? = some c → c ≠ .any
  | [], row, o, ps, cs, h => by simp only [shaped, Option.some.injEq, Prod.mk.injEq] at h; obtain ⟨rfl, rfl⟩ := h; simp
  | z :: zs, row, o, ps, cs, h => by
    unfold shaped at h
    split at h
    · rename_i c ps' cs' h1 h2
      simp only [Option.some.injEq, Prod.mk.injEq] at h
      obtain ⟨rfl, rfl⟩ := h
      intro j c' hj
      cases j with
      | zero => simp at hj; subst hj; exact typed_ne h1
      | succ j => simp at hj; exact shaped_ne h2 j c' hj
    · cases h

theorem gt_some {row : List AC} {o : Nat} {c : AC} (h : gt .any row o = c) (hc : c ≠ .any) : row[o]? = some c := by
  rw [gt_eq] at h
  cases h1 : row[o]? with
  | none => rw [h1] at h; exact absurd h.symm hc
  | some d => rw [h1] at h; exact congrArg some h

theorem rd_ok {X : Ctx} {p : Pl} {m : Mem} {wb : World} {b k : Nat} {row : List AC} (hr : RowAt X p m wb row b k) {t : TypeId} {ti : TI} (ht : match ti.d with | .other => True | _ => TyOk X.P t ti)
    {sym : Bool} {o : Nat} {cs : List Prop} {v : AV} (h : rd sym ti row o = some (cs, v)) (hc : AllC cs) : G1 X p m wb (loadVar t ⟨b, k + o, none⟩) v := by
  have hd : TyOk X.P t ti := by
    unfold rd at h
    split at h
    · cases h
    · rename_i hne; revert ht; cases hd : ti.d <;> simp_all
  have h' : rdT sym ti row o = some (cs, v) := by
    unfold rd at h
    split at h
    · cases h
    · exact h
  have hagg : ti.agg = true → ∀ l : List Value, l.length = ti.sz → (∀ w, MRw X p m wb w → (loadCells ⟨b, k + o, none⟩ ti.sz).run X.P w = .ok l.toArray w) →
      ∀ w, MRw X p m wb w → (loadVar t ⟨b, k + o, none⟩).run X.P w = .ok (.agg l.toArray) w := by
    intro ha l hl hload w hw
    unfold loadVar
    rw [Sem.run_bind, hd.isAgg]
    simp only [Result.andThen_ok, ha, if_true, Sem.run_bind, hd.szrun, hload w hw, Sem.run_pure]
  have hone : ti.agg = false → ∀ u, (∀ w, MRw X p m wb w → (load ⟨b, k + o, none⟩).run X.P w = .ok u w) → ∀ w, MRw X p m wb w → (loadVar t ⟨b, k + o, none⟩).run X.P w = .ok u w := by
    intro ha u hload w hw
    unfold loadVar
    rw [Sem.run_bind, hd.isAgg]
    simp only [Result.andThen_ok, ha, Bool.false_eq_true, if_false]
    exact hload w hw
  unfold rdT at h'
  split at h'
  · rename_i ha
    split at h'
    · split at h'
      · simp only [Option.some.injEq, Prod.mk.injEq] at h'
        obtain ⟨rfl, rfl⟩ := h'
        obtain ⟨l, h1, h2, h3⟩ := hr.cells o ti.sz hc.1
        exact ⟨_, .agg _ l h2, hagg ha l h1 h3⟩
      · split at h'
        · rename_i ps cs' hs
          split at h'
          · rename_i hb
            simp only [Option.some.injEq, Prod.mk.injEq] at h'
            obtain ⟨rfl, rfl⟩ := h'
            rw [Bool.and_eq_true] at hb
            have hpos := Nat.le_of_ble_eq_true hb.2
            have hb := beq_true hb.1
            rw [lenF_eq] at hb
            obtain ⟨g1, g2⟩ := shaped_ok (X := X) (N := m.length) (p := p) hs hc
            have hlen : o + ti.sz ≤ row.length := by
              have hlt : ti.sz - 1 < cs'.length := by omega
              have h3 := List.getElem?_eq_getElem hlt
              have h4 := gt_some (g2 _ _ h3) (shaped_ne hs _ _ h3)
              have := (List.getElem?_eq_some_iff.1 h4).1
              omega
            obtain ⟨l, h1, h2, h3⟩ := hr.cells o ti.sz hlen
            refine ⟨_, .agg _ l ⟨by omega, fun j c u hj hu => ?_⟩, hagg ha l h1 h3⟩
            have h4 := gt_some (g2 j c hj) (shaped_ne hs j c hj)
            have hjl : j < ti.sz := by have := (List.getElem?_eq_some_iff.1 hj).1; omega
            exact h2.2 j c u (by rw [List.getElem?_take_of_lt hjl, List.getElem?_drop]; exact h4) hu
          · cases h'
        · cases h'
    · rw [takeF_eq, dropF_eq] at h'
      split at h'
      · rename_i hb
        simp only [Option.some.injEq, Prod.mk.injEq] at h'
        obtain ⟨rfl, rfl⟩ := h'
        have hb := beq_true hb
        rw [lenF_eq] at hb
        rcases Nat.lt_or_ge row.length (o + ti.sz) with hlt | hge
        · have h0 : ti.sz = 0 := by simp at hb; omega
          obtain ⟨l, h1, h2, h3⟩ := hr.cells row.length 0 (by omega)
          refine ⟨_, .agg _ [] ⟨by simp [h0], fun j c u _ hu => by simp at hu⟩, hagg ha [] (by simp [h0]) ?_⟩
          intro w _
          rw [h0]
          rfl
        · obtain ⟨l, h1, h2, h3⟩ := hr.cells o ti.sz hge
          exact ⟨_, .agg _ l h2, hagg ha l h1 h3⟩
      · cases h'
  · rename_i ha
    split at h'
    · split at h'
      · split at h'
        · rename_i c hty
          simp only [Option.some.injEq, Prod.mk.injEq] at h'
          obtain ⟨rfl, rfl⟩ := h'
          obtain ⟨u, h1, h2⟩ := hr.cell (gt_some hc.1 (typed_ne hty))
          exact ⟨u, .one _ _ h1, hone ha u h2⟩
        · cases h'
      · cases h'
    · split at h'
      · rename_i c hrd
        simp only [Option.some.injEq, Prod.mk.injEq] at h'
        obtain ⟨rfl, rfl⟩ := h'
        have := rdC_eq hrd
        obtain ⟨u, h1, h2⟩ := hr.cell (gt_some this.symm (by rintro rfl; rw [← this] at hrd; cases hrd))
        exact ⟨u, .one _ _ h1, hone ha u h2⟩
      · cases h'
end DH
