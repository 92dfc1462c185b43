/- The layer: abstract values, operations on them, and that the machine follows. -/
import Derived.Test.YtdnggeocdocomaaA5
set_option linter.unusedVariables false
set_option linter.unusedSimpArgs false
namespace DH
open Go

section
variable {X : Ctx} {p : Pl} {m : Mem} {wb : World}

/-- the number that an index is -/
def ixI : AC → Option Int
  | .u8 x => some x.toNat
  | .u16 x => some x.toNat
  | .u32 x => some x.toNat
  | .u64 x => some x.toNat
  | .i64 n => some n
  | .i32 n => some n
  | _ => none

theorem ixI_ok {N : Nat} {c : AC} {n : Int} (h : ixI c = some n) {v : Value} (hv : VR X N p c v) : ∃ k, v = .int k n := by
  cases hv <;> simp only [ixI, Option.some.injEq, reduceCtorEq] at h <;> subst h <;> exact ⟨_, rfl⟩

def w1 (c : Option (List Prop)) (v : AC) : RV :=
  match c with
  | some c => some (c, .one v)
  | none => none

theorem w1_eq {c : Option (List Prop)} {v : AC} {d : AV} {cs : List Prop} (h : w1 c v = some (cs, d)) : c = some cs ∧ d = .one v := by
  unfold w1 at h
  split at h
  · simp only [Option.some.injEq, Prod.mk.injEq] at h; obtain ⟨rfl, rfl⟩ := h; exact ⟨rfl, rfl⟩
  · cases h

/-- is an index in range? a byte is in any row of 256 -/
def ckIx (E : Env) (c : AC) (i : Int) (n : Nat) : Option (List Prop) :=
  match c with
  | .u8 x => if Nat.ble 256 n then some [] else ck E.lit (decide (x.toNat < n)) (x.toNat < n)
  | _ => ck E.lit (decide (0 ≤ i ∧ i < n)) (0 ≤ i ∧ i < n)

theorem ckIx_ok {E : Env} {c : AC} {i : Int} {n : Nat} {cs : List Prop} (h : ckIx E c i n = some cs) (hi : ixI c = some i) (hc : AllC cs) : 0 ≤ i ∧ i < n := by
  unfold ckIx at h
  split at h
  · rename_i x
    simp only [ixI, Option.some.injEq] at hi
    have := x.isLt
    split at h
    · rename_i h1
      have := Nat.le_of_ble_eq_true h1
      omega
    · have := ck_ok h (fun h => of_decide_eq_true h) hc
      omega
  · exact ck_ok h (fun h => of_decide_eq_true h) hc

/-- the size of a type that is known -/
def Env.esz (E : Env) (t : TypeId) : Option Nat :=
  match (E.ti t).d with
  | .other => none
  | _ => if Nat.ble 1 (E.ti t).sz then some (E.ti t).sz else none

theorem esz_ok {P : Program} {E : Env} (hE : EnvOk P E) {t : TypeId} {n : Nat} (h : E.esz t = some n) : TyOk P t (E.ti t) ∧ n = (E.ti t).sz ∧ 1 ≤ n := by
  have h0 := hE.ti t
  unfold Env.esz at h
  revert h0 h
  cases hd : (E.ti t).d <;> intro h h0 <;> first
    | cases h; done
    | (refine ⟨h0, ?_⟩
       dsimp only at h
       split at h
       · rename_i h1; injection h with h; exact ⟨h.symm, by rw [← h]; exact Nat.le_of_ble_eq_true h1⟩
       · cases h)

theorem d_ok {P : Program} {E : Env} (hE : EnvOk P E) {t : TypeId} {d : TD} (h : (E.ti t).d = d) (hd : d ≠ .other) : TyOk P t (E.ti t) := by
  have h0 := hE.ti t
  rw [h] at h0
  revert h0
  cases d <;> first | exact id | exact absurd rfl hd

/-- the address of an element -/
def evIxAddr (E : Env) (ty : TypeId) (x ix : AV) : RV :=
  match ix with
  | .one ic =>
    match ixI ic with
    | some i =>
      match (E.ti ty).d with
      | .array n e =>
        (match E.esz e with
        | some s =>
          (match x with
          | .one (.ptr b o) => w1 (ckIx E ic i n) (.ptr b (o + i.toNat * s))
          | .one (.xp r o) => w1 (ckIx E ic i n) (.xp r (o + i.toNat * s))
          | _ => none)
        | none => none)
      | .slice e =>
        (match E.esz e with
        | some s =>
          (match x with
          | .one (.sv b o n) => w1 (ckIx E ic i n) (.ptr b (o + i.toNat * s))
          | .one (.gs b n _) => w1 (ckIx E ic i n) (.ptr b (0 + i.toNat * s))
          | .one (.xs r o n) => w1 (ckIx E ic i n) (.xp r (o + i.toNat * s))
          | _ => none)
        | none => none)
      | _ => none
    | none => none
  | _ => none

theorem VR.ptr_inv {N : Nat} {i o : Nat} {v : Value} (h : VR X N p (.ptr i o) v) : i < N ∧ v = .pointer (some ⟨p.at_ i, o, none⟩) := by cases h; exact ⟨by assumption, rfl⟩

theorem ok1 {s : Sem Value} {c : AC} {u : Value} (h : VR X m.length p c u) (hr : ∀ w, s.run X.P w = .ok u w) : G1 X p m wb s (.one c) := ⟨u, .one _ _ h, fun w _ => hr w⟩

theorem VA.one_inv {N : Nat} {c : AC} {v : Value} (h : VA X N p (.one c) v) : VR X N p c v := by cases h; assumption

theorem und_arr {P : Program} {t : TypeId} {ti : TI} (h : TyOk P t ti) {n : Nat} {e : TypeId} (hd : ti.d = .array n e) : P.underlying t = some (.array n e) := by
  obtain ⟨d, h1, h2⟩ := h.und
  rw [hd] at h2
  cases d <;> simp only [tdOk] at h2
  obtain ⟨rfl, rfl⟩ := h2
  exact h1

theorem und_slice {P : Program} {t : TypeId} {ti : TI} (h : TyOk P t ti) {e : TypeId} (hd : ti.d = .slice e) : P.underlying t = some (.slice e) := by
  obtain ⟨d, h1, h2⟩ := h.und
  rw [hd] at h2
  cases d <;> simp only [tdOk] at h2
  subst h2
  exact h1

theorem run_ixArr {P : Program} {t e : TypeId} {n sz : Nat} (h : P.underlying t = some (.array n e)) (he : ∀ w, (Go.sizeOf e).run P w = .ok sz w) (b o : Nat) (k : IntKind) (i : Int) (hi : 0 ≤ i ∧ i < n) (w : World) :
    (Instr.indexAt t (.pointer (some ⟨b, o, none⟩)) (.int k i)).run P w = .ok (.pointer (some ⟨b, o + i.toNat * sz, none⟩)) w := by
  simp [Instr.indexAt, run_underlying h, asIntOf, Instr.sureAddr, hi, he, Addr.add_lit]

theorem run_ixSl {P : Program} {t e : TypeId} {n sz c : Nat} (h : P.underlying t = some (.slice e)) (he : ∀ w, (Go.sizeOf e).run P w = .ok sz w) (b o : Nat) (k : IntKind) (i : Int) (hi : 0 ≤ i ∧ i < n) (w : World) :
    (Instr.indexAt t (.slice (some ⟨b, o, none⟩) n c) (.int k i)).run P w = .ok (.pointer (some ⟨b, o + i.toNat * sz, none⟩)) w := by
  simp [Instr.indexAt, run_underlying h, asIntOf, hi, he, Addr.add_lit]

theorem evIxAddr_ok {E : Env} (hE : EnvOk X.P E) {ty : TypeId} {x ix : AV} {cs : List Prop} {v : AV} (h : evIxAddr E ty x ix = some (cs, v)) (hc : AllC cs) {vx vi : Value}
    (hx : VA X m.length p x vx) (hi : VA X m.length p ix vi) : G1 X p m wb (Instr.indexAt ty vx vi) v := by
  unfold evIxAddr at h
  split at h
  · rename_i ic
    split at h
    · rename_i i hii
      obtain ⟨k, rfl⟩ := ixI_ok hii hi.one_inv
      split at h
      · rename_i n e hd
        have hu := und_arr (d_ok hE hd (by simp)) hd
        split at h
        · rename_i s hs
          obtain ⟨he, hsz, h1⟩ := esz_ok hE hs
          have hrun : ∀ w, (Go.sizeOf e).run X.P w = .ok s w := fun w => by rw [hsz]; exact he.szrun w
          split at h
          · rename_i b o
            obtain ⟨g, rfl⟩ := w1_eq h
            have hb := ckIx_ok g hii hc
            obtain ⟨hlt, rfl⟩ := hx.one_inv.ptr_inv
            exact ok1 (.ptr b _ hlt) (run_ixArr hu hrun _ _ k i hb)
          · rename_i r o
            obtain ⟨g, rfl⟩ := w1_eq h
            have hb := ckIx_ok g hii hc
            have hv := hx.one_inv
            cases hv with
            | xp _ _ b k' g' p0 hbk hr hv => exact ok1 (.xp r _ b k' g' p0 hbk hr hv) (fun w => by rw [← Nat.add_assoc]; exact run_ixArr hu hrun _ _ k i hb w)
          · cases h
        · cases h
      · rename_i e hd
        have hu := und_slice (d_ok hE hd (by simp)) hd
        split at h
        · rename_i s hs
          obtain ⟨he, hsz, h1⟩ := esz_ok hE hs
          have hrun : ∀ w, (Go.sizeOf e).run X.P w = .ok s w := fun w => by rw [hsz]; exact he.szrun w
          split at h
          · rename_i b o n
            obtain ⟨g, rfl⟩ := w1_eq h
            have hb := ckIx_ok g hii hc
            have hv := hx.one_inv
            cases hv with
            | sv _ _ _ c b' o' hcn hor =>
              obtain ⟨hlt, rfl, rfl⟩ := hor.resolve_left (by omega)
              exact ok1 (.ptr b _ hlt) (run_ixSl hu hrun _ _ k i hb)
            | svn => omega
          · rename_i b n e'
            obtain ⟨g, rfl⟩ := w1_eq h
            have hb := ckIx_ok g hii hc
            have hv := hx.one_inv
            cases hv with
            | gs _ _ _ c hlt hcn hz => exact ok1 (.ptr b _ hlt) (run_ixSl hu hrun _ _ k i hb)
            | gsn => omega
          · rename_i r o n
            obtain ⟨g, rfl⟩ := w1_eq h
            have hb := ckIx_ok g hii hc
            have hv := hx.one_inv
            cases hv with
            | xs _ _ _ c b k' b' o' g' p0 hbk hr hv hcn =>
              obtain ⟨hbk2, rfl, rfl⟩ := hbk.resolve_left (by omega)
              exact ok1 (.xp r _ b' k' g' p0 hbk2 (hr.resolve_left (by omega)) hv) (fun w => by rw [← Nat.add_assoc]; exact run_ixSl hu hrun _ _ k i hb w)
            | xsn => omega
            | xs0 => omega
          · cases h
        · cases h
      · cases h
    · cases h
  · cases h

/-- the address of a field -/
def evFieldAddr (E : Env) (ty : TypeId) (x : AV) (f : Nat) : RV :=
  match (E.ti ty).d with
  | .struct fs =>
    match fs[f]? with
    | some (off, ft) =>
      match E.esz ft with
      | some _ =>
        (match x with
        | .one (.ptr b o) => some ([], .one (.ptr b (o + off)))
        | .one (.xp r o) => some ([], .one (.xp r (o + off)))
        | _ => none)
      | none => none
    | none => none
  | _ => none

theorem und_struct {P : Program} {t : TypeId} {ti : TI} (h : TyOk P t ti) {fs : List (Nat × TypeId)} (hd : ti.d = .struct fs) : ∃ gs, P.underlying t = some (.struct gs) ∧ fs.length = gs.size ∧
    ∀ (i o : Nat) (ty : TypeId), fs[i]? = some (o, ty) → ∃ g : Field, gs[i]? = some g ∧ g.offset = o ∧ g.type = ty := by
  obtain ⟨d, h1, h2⟩ := h.und
  rw [hd] at h2
  cases d <;> simp only [tdOk] at h2
  exact ⟨_, h1, h2⟩

theorem evFieldAddr_ok {E : Env} (hE : EnvOk X.P E) {ty : TypeId} {x : AV} {f : Nat} {cs : List Prop} {v : AV} (h : evFieldAddr E ty x f = some (cs, v)) {vx : Value}
    (hx : VA X m.length p x vx) : G1 X p m wb (Instr.fieldAt ty vx f) v := by
  unfold evFieldAddr at h
  split at h
  · rename_i fs hd
    obtain ⟨gs, hu, hl, hf⟩ := und_struct (d_ok hE hd (by simp)) hd
    split at h
    · rename_i off ft hfs
      obtain ⟨g, hg, rfl, rfl⟩ := hf _ _ _ hfs
      split at h
      · rename_i s hs
        obtain ⟨he, hsz, h1⟩ := esz_ok hE hs
        have hrun : ∀ w, (Go.sizeOf g.type).run X.P w = .ok s w := fun w => by rw [hsz]; exact he.szrun w
        have hr : ∀ (b o : Nat) (w : World), (Instr.fieldAt ty (.pointer (some ⟨b, o, none⟩)) f).run X.P w = .ok (.pointer (some ⟨b, o + g.offset, none⟩)) w := fun b o w => by
          have : s ≠ 0 := by omega
          simp [Instr.fieldAt, run_underlying hu, hg, Instr.sureAddr, fieldPlace, hrun, this, Addr.add_lit]
        split at h
        · rename_i b o
          simp only [Option.some.injEq, Prod.mk.injEq] at h; obtain ⟨rfl, rfl⟩ := h
          obtain ⟨hlt, rfl⟩ := hx.one_inv.ptr_inv
          exact ok1 (.ptr b _ hlt) (hr _ _)
        · rename_i r o
          simp only [Option.some.injEq, Prod.mk.injEq] at h; obtain ⟨rfl, rfl⟩ := h
          have hv := hx.one_inv
          cases hv with
          | xp _ _ b k' g' p0 hbk hr' hv => exact ok1 (.xp r _ b k' g' p0 hbk hr' hv) (fun w => by rw [← Nat.add_assoc]; exact hr _ _ w)
        · cases h
      · cases h
    · cases h
  · cases h

/-- a load -/
def evLoad (E : Env) (m : Mem) (ty : TypeId) (x : AV) : RV :=
  match x with
  | .one (.ptr b o) => (match gt none m b with | some row => rd (E.sym ty) (E.ti ty) row o | none => none)
  | .one (.xp r o) => rd (!E.lit) (E.ti ty) r o
  | _ => none

theorem gt_mem {m : Mem} {i : Nat} {row : List AC} (h : gt none m i = some row) : m[i]? = some (some row) := by
  rw [gt_eq] at h
  cases h1 : m[i]? with
  | none => rw [h1] at h; cases h
  | some r => rw [h1] at h; simp at h; rw [h]

theorem evLoad_ok {E : Env} (hE : EnvOk X.P E) (hb : MR X p m wb) {ty : TypeId} {x : AV} {cs : List Prop} {v : AV} (h : evLoad E m ty x = some (cs, v)) (hc : AllC cs) {vx : Value}
    (hx : VA X m.length p x vx) : G1 X p m wb (Instr.loadAt ty vx) v := by
  unfold evLoad at h
  split at h
  · rename_i b o
    split at h
    · rename_i row hrow
      obtain ⟨hlt, rfl⟩ := hx.one_inv.ptr_inv
      obtain ⟨u, h1, h2⟩ := rd_ok (RowAt.own hb (gt_mem hrow)) (hE.ti ty) h hc
      exact ⟨u, h1, fun w hw => by simp only [Instr.loadAt, Instr.sureAddr, Sem.run_bind, Sem.run_pure, Result.andThen_ok]; simpa using h2 w hw⟩
    · cases h
  · rename_i r o
    have hv := hx.one_inv
    cases hv with
    | xp _ _ b k' g' p0 hbk hr' hv =>
      obtain ⟨u, h1, h2⟩ := rd_ok (RowAt.old hbk hr' hv) (hE.ti ty) h hc
      exact ⟨u, h1, fun w hw => by simp only [Instr.loadAt, Instr.sureAddr, Sem.run_bind, Sem.run_pure, Result.andThen_ok]; exact h2 w hw⟩
  · cases h

end
end DH
