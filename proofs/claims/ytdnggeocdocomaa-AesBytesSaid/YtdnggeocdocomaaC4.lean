/- The layer: calls, contracts, walks of whole functions by evaluation. -/
import Derived.Test.YtdnggeocdocomaaC32
set_option linter.unusedVariables false
set_option linter.unusedSimpArgs false
namespace DH
open Go

/-! Whole rows of operations, and what a function returns. -/

/-- bytes to a string (1), a string to bytes (2), something else (0) -/
def strB (E : Env) (s d : TypeId) : Nat :=
  match isStr E d with
  | true => 1
  | false => (match isStr E s with | true => 2 | false => 0)

theorem two_arr {α β : Type} {a : Array α} {x y : α} (h : a.toList = [x, y]) (f : α → β) : a.map f = #[f x, f y] := by
  apply Array.ext'
  simp [h]

theorem append_run {P : Program} {ev : Operand → Value} {o : Oper} {c : Call} (ho : o.op = .call c) (hb : c.callee = .builtin .append) {x y : Operand} {ty tx : TypeId} (h1 : c.args.toList = [x, y]) (h2 : c.argTypes.toList = [ty, tx]) {u : Value} {w w' : World}
    (g : (Builtin.append_ #[ty, tx] o.type #[ev x, ev y]).run P w = .ok u w') : (execOp ev o).run P w = .ok (.value u) w' := by
  obtain ⟨dst, op, rt, pos, after, guard⟩ := o
  simp only at ho g
  subst ho
  have ha : c.argTypes = #[ty, tx] := by apply Array.ext'; simpa using h2
  have hx := two_arr h1 ev
  simp only [execOp, resolve, hb, Sem.run_bind, Sem.run_pure, Result.andThen_ok, invoke, builtin, ha, hx, g]

theorem copy_run {P : Program} {ev : Operand → Value} {o : Oper} {c : Call} (ho : o.op = .call c) (hb : c.callee = .builtin .copy) {x y : Operand} {ty tx : TypeId} (h1 : c.args.toList = [x, y]) (h2 : c.argTypes.toList = [ty, tx]) {u : Value} {w w' : World}
    (g : (Builtin.copy_ #[ty, tx] o.type #[ev x, ev y]).run P w = .ok u w') : (execOp ev o).run P w = .ok (.value u) w' := by
  obtain ⟨dst, op, rt, pos, after, guard⟩ := o
  simp only at ho g
  subst ho
  have ha : c.argTypes = #[ty, tx] := by apply Array.ext'; simpa using h2
  have hx := two_arr h1 ev
  simp only [execOp, resolve, hb, Sem.run_bind, Sem.run_pure, Result.andThen_ok, invoke, builtin, ha, hx, g]

noncomputable def evBuiltinM (E : Env) (t : List AV) (m : Mem) (b : Builtin) (args : List Operand) (tys : List TypeId) (op : Op) : RE :=
  match b, args, tys with
  | .append, [x, y], [ty, tx] => evAppend E m ty tx (getO t x) (getO t y)
  | .copy, [x, y], [ty, _] => evCopy E m ty (getO t x) (getO t y)
  | _, _, _ => match evQ E t m op with | some (cs, v) => some (cs, v, m) | none => none

noncomputable def evOp (E : Env) (t : List AV) (m : Mem) (op : Op) : RE :=
  match op with
  | .alloc e => evAlloc E m e
  | .box _ x => evBox m (getO t x)
  | .store ty a x => evStore E m ty (getO t a) (getO t x)
  | .buildSlice ty len parts => evBuildSlice E t m ty len parts.toList
  | .makeSlice ty l c => evMake E m ty (getO t l) (getO t c)
  | .convert sT dT x => (match strB E sT dT with
    | 0 => (match evConv E sT dT (getO t x) with | some (cs, v) => some (cs, v, m) | none => (match evS2S E m sT dT (getO t x) with | some (cs, v) => some (cs, v, m) | none => none))
    | 1 => (match evB2S E m sT dT (getO t x) with | some (cs, v) => some (cs, v, m) | none => none)
    | _ => evS2B E m sT dT (getO t x))
  | .call c => (match c.callee with
    | .builtin b => evBuiltinM E t m b c.args.toList c.argTypes.toList op
    | _ => none)
  | op => match evQ E t m op with | some (cs, v) => some (cs, v, m) | none => none

section
variable {X : Ctx} {p : Pl} {m : Mem} {w : World}

theorem evOp_runs {E : Env} (hE : EnvOk X.P E) {t : List AV} {o : Oper} {cs : List Prop} {v : AV} {m' : Mem} (h : evOp E t m o.op = some (cs, v, m')) (hc : AllC cs) : OpRuns X o t m v m' := by
  unfold evOp at h
  split at h
  · rename_i e ho
    intro p a w hr
    obtain ⟨p', u, w', h1, h2, h3, h4, h5, _⟩ := evAlloc_ok hE h hr.mem
    exact ⟨p', u, w', .inl (by simp [execOp, ho, h1]), h2, h3, h4, h5⟩
  · rename_i e x ho
    intro p a w hr
    obtain ⟨p', u, w', h1, h2, h3, h4, h5, _⟩ := evBox_ok h hr.mem (getO_ok hr.slots x) e
    exact ⟨p', u, w', .inl (by simp [execOp, ho, h1]), h2, h3, h4, h5⟩
  · rename_i ty x y ho
    intro p a w hr
    obtain ⟨w', h1, h2, h3, rfl⟩ := evStore_ok hE h hc hr.mem (getO_ok hr.slots x) (getO_ok hr.slots y)
    exact ⟨p, undef, w', .inr ⟨by simp [execOp, ho, h1], rfl⟩, .refl _ _, by omega, .any _, h3⟩
  · rename_i ty len parts ho
    intro p a w hr
    obtain ⟨p', u, w', h1, h2, h3, h4, h5, _⟩ := evBuildSlice_ok hE h hr.mem (getO_ok hr.slots)
    refine ⟨p', u, w', .inl ?_, h2, h3, h4, h5⟩
    have e : (parts.toList.map fun (i, x) => (i, a.eval x)).toArray = parts.map fun (i, x) => (i, a.eval x) := by
      rw [← Array.toList_map, Array.toArray_toList]
    rw [e] at h1
    simp [execOp, ho, h1]
  · rename_i ty l c ho
    intro p a w hr
    obtain ⟨p', u, w', h1, h2, h3, h4, h5⟩ := evMake_ok hE h hc hr.mem (getO_ok hr.slots l) (getO_ok hr.slots c)
    exact ⟨p', u, w', .inl (by simp [execOp, ho, h1]), h2, h3, h4, h5⟩
  · rename_i sT dT x ho
    intro p a w hr
    split at h
    · split at h
      · rename_i h1
        simp only [Option.some.injEq, Prod.mk.injEq] at h
        obtain ⟨rfl, rfl, rfl⟩ := h
        obtain ⟨u, g1, g2⟩ := evConv_ok hE h1 (getO_ok hr.slots x) (wb := w) (p := p) (m := m)
        exact ⟨p, u, w, .inl (by simp [execOp, ho, g2 w ⟨hr.mem, fun _ _ _ _ => rfl⟩]), .refl _ _, Nat.le_refl _, g1, hr.mem⟩
      · split at h
        · rename_i h1
          simp only [Option.some.injEq, Prod.mk.injEq] at h
          obtain ⟨rfl, rfl, rfl⟩ := h
          obtain ⟨p', u, w', h1, h2, h3, h4, h5⟩ := evS2S_ok hE h1 hc hr.mem (getO_ok hr.slots x)
          exact ⟨p', u, w', .inl (by simp [execOp, ho, h1]), h2, h3, h4, h5⟩
        · cases h
    · split at h
      · rename_i h1
        simp only [Option.some.injEq, Prod.mk.injEq] at h
        obtain ⟨rfl, rfl, rfl⟩ := h
        obtain ⟨u, g1, g2⟩ := evB2S_ok hE h1 hc hr.mem (getO_ok hr.slots x)
        exact ⟨p, u, w, .inl (by simp [execOp, ho, g2 w ⟨hr.mem, fun _ _ _ _ => rfl⟩]), .refl _ _, Nat.le_refl _, g1, hr.mem⟩
      · cases h
    · obtain ⟨p', u, w', h1, h2, h3, h4, h5⟩ := evS2B_ok hE h hr.mem (getO_ok hr.slots x)
      exact ⟨p', u, w', .inl (by simp [execOp, ho, h1]), h2, h3, h4, h5⟩
  · rename_i c ho
    split at h
    · rename_i b hb
      unfold evBuiltinM at h
      split at h
      · rename_i x y ty tx h1 h2
        intro p a w hr
        obtain ⟨p', u, w', g1, g2, g3, g4, g5⟩ := evAppend_ok (rt := o.type) hE h hc hr.mem (getO_ok hr.slots x) (getO_ok hr.slots y)
        refine ⟨p', u, w', .inl ?_, g2, g3, g4, g5⟩
        exact append_run ho hb h1 h2 g1
      · rename_i x y ty tx h1 h2
        intro p a w hr
        obtain ⟨p', u, w', g1, g2, g3, g4, g5⟩ := evCopy_ok (ts := tx) (rt := o.type) hE h hc hr.mem (getO_ok hr.slots x) (getO_ok hr.slots y)
        refine ⟨p', u, w', .inl ?_, g2, g3, g4, g5⟩
        exact copy_run ho hb h1 h2 g1
      · split at h
        · rename_i h1
          simp only [Option.some.injEq, Prod.mk.injEq] at h
          obtain ⟨rfl, rfl, rfl⟩ := h
          exact evQ_runs hE (ho ▸ h1) hc
        · cases h
    · cases h
  · split at h
    · rename_i h1
      simp only [Option.some.injEq, Prod.mk.injEq] at h
      obtain ⟨rfl, rfl, rfl⟩ := h
      exact evQ_runs hE h1 hc
    · cases h

def isMem (E : Env) (c : Call) : Bool :=
  match c.callee with
  | .value (.func f) => (match E.memf f with | some _ => true | none => false)
  | _ => false

noncomputable def evStep (E : Env) (t : List AV) (m : Mem) (op : Op) : RE :=
  match op with
  | .call c => (match c.callee with
    | .builtin _ => evOp E t m op
    | _ => (match isMem E c with
      | true => evCallM E t m c
      | false => (match evCall E t m c with | some (cs, v) => some (cs, v, m) | none => none)))
  | _ => evOp E t m op

theorem LRun.evStep {E : Env} (hE : EnvOk X.P E) (hC : CallOk X.P E) {all : List Oper} {t : List AV} {o : Oper} {l : List Oper} {cs : List Prop} {v : AV} {m' : Mem} {K : List AV → Mem → Prop} (h : evStep E t m o.op = some (cs, v, m')) (hc : AllC cs)
    (hg : gval all t o = some true) (hk : LRun X all.toArray l (putA t o.dst v) m' K) : LRun X all.toArray (o :: l) t m K := by
  unfold DH.evStep at h
  split at h
  · rename_i c ho
    split at h
    · exact LRun.op hg (evOp_runs hE h hc) hk
    · split at h
      · refine LRun.call hg (evCallM_runs hC ho h hc) ?_
        rintro r m' ⟨rfl, rfl⟩
        exact hk
      · split at h
        · rename_i h1
          simp only [Option.some.injEq, Prod.mk.injEq] at h
          obtain ⟨rfl, rfl, rfl⟩ := h
          refine LRun.call hg (evCall_runs hC ho h1 hc) ?_
          rintro r m' ⟨rfl, rfl⟩
          exact hk
        · cases h
  · exact LRun.op hg (evOp_runs hE h hc) hk

def putF {β : Type} (t : List AV) (d : Option Tmp) (v : AV) (k : List AV → β) : β := match d with | some d => setF t d v k | none => k t

theorem putF_eq {β : Type} (t : List AV) (d : Option Tmp) (v : AV) (k : List AV → β) : putF t d v k = k (putA t d v) := by
  cases d with
  | none => rfl
  | some d => exact setF_eq _ _ _ _

def findB : List (Nat × Bool) → Nat → Option Bool
  | [], _ => none
  | (i, b) :: l, d => if Nat.beq i d then some b else findB l d

/-- what the path takes a Bool to be -/
def assumeA (E : Env) (d : Option Tmp) (v : AV) : List Prop × AV :=
  match d with
  | some d => (match findB E.asm d with
    | some b => (match v with
      | .one (.b bv) => ([bv = b], .one (.b b))
      | v => ([], v))
    | none => ([], v))
  | none => ([], v)

theorem assumeA_ok {E : Env} {d : Option Tmp} {v v' : AV} {cs : List Prop} (h : assumeA E d v = (cs, v')) (hc : AllC cs) : v' = v := by
  unfold assumeA at h
  split at h
  · split at h
    · split at h
      · obtain ⟨rfl, rfl⟩ := Prod.mk.inj h
        rw [hc.1]
      · exact (Prod.mk.inj h).2.symm
    · exact (Prod.mk.inj h).2.symm
  · exact (Prod.mk.inj h).2.symm

/-- Operations in a row: at most n of them. -/
noncomputable def runOps (E : Env) (all : List Oper) : Nat → List Oper → List AV → Mem → List Prop → Option (List Prop × List Oper × List AV × Mem)
  | 0, l, t, m, cs => some (cs, l, t, m)
  | _ + 1, [], t, m, cs => some (cs, [], t, m)
  | n + 1, o :: l, t, m, cs =>
    match gval all t o with
    | some true => (match evStep E t m o.op with
      | some (c, v, m') => (match assumeA E o.dst v with
        | (c2, v') => putF t o.dst v' fun t' => appF c cs fun cs1 => appF c2 cs1 fun cs' => runOps E all n l t' m' cs')
      | none => none)
    | some false => putF t o.dst (.tup []) fun t' => runOps E all n l t' m cs
    | none => none

theorem runOps_ok {E : Env} (hE : EnvOk X.P E) (hC : CallOk X.P E) {all : List Oper} {K : List AV → Mem → Prop} : ∀ {n : Nat} {l : List Oper} {t : List AV} {m : Mem} {cs cs' : List Prop} {l' : List Oper} {t' : List AV} {m' : Mem},
    runOps E all n l t m cs = some (cs', l', t', m') → AllC cs' → AllC cs ∧ (LRun X all.toArray l' t' m' K → LRun X all.toArray l t m K)
  | 0, l, t, m, cs, cs', l', t', m', h, hc => by
    simp only [runOps, Option.some.injEq, Prod.mk.injEq] at h
    obtain ⟨rfl, rfl, rfl, rfl⟩ := h
    exact ⟨hc, id⟩
  | n + 1, [], t, m, cs, cs', l', t', m', h, hc => by
    simp only [runOps, Option.some.injEq, Prod.mk.injEq] at h
    obtain ⟨rfl, rfl, rfl, rfl⟩ := h
    exact ⟨hc, id⟩
  | n + 1, o :: l, t, m, cs, cs', l', t', m', h, hc => by
    unfold runOps at h
    split at h
    · rename_i hg
      split at h
      · rename_i c v m1 hs
        split at h
        rename_i c2 v' ha
        rw [putF_eq, appF_eq, appF_eq] at h
        obtain ⟨h1, h2⟩ := runOps_ok hE hC h hc
        obtain ⟨h0, h1⟩ := AllC_append h1
        obtain ⟨h3, h4⟩ := AllC_append h1
        have := assumeA_ok ha h0
        subst this
        exact ⟨h4, fun hk => LRun.evStep hE hC hs h3 hg (h2 hk)⟩
      · cases h
    · rename_i hg
      rw [putF_eq] at h
      obtain ⟨h1, h2⟩ := runOps_ok hE hC h hc
      exact ⟨h1, fun hk => LRun.skip hg (h2 hk)⟩
    · cases h

/-- Operations whose order is drawn. -/
noncomputable def evHead (E : Env) (t : List AV) (m : Mem) (op : Op) : RV :=
  match op with
  | .call c => (match c.callee with
    | .builtin _ => evQ E t m op
    | _ => evCall E t m c)
  | .convert sT dT x => (match isStr E dT with
    | true => evB2S E m sT dT (getO t x)
    | false => evQ E t m op)
  | _ => evQ E t m op

theorem QRun.evHead {E : Env} {wb : World} {p : Pl} (hE : EnvOk X.P E) (hC : CallOk X.P E) (hb : MR X p m wb) {all : List Oper} {t : List AV} {o : Oper} {l : List Oper} {cs : List Prop} {v : AV} {K : List AV → Prop} (h : evHead E t m o.op = some (cs, v)) (hc : AllC cs)
    (hg : gval all t o = some true) (hk : QRun X p wb all l (putA t o.dst v) m K) : QRun X p wb all (o :: l) t m K := by
  unfold DH.evHead at h
  split at h
  · rename_i c ho
    split at h
    · exact QRun.op hg (evQ_quiet hE hb h hc) hk
    · exact QRun.op hg (evCall_quiet hC hb ho h hc) hk
  · rename_i sT dT x ho
    split at h
    · refine QRun.op hg ?_ hk
      intro a hd hs
      obtain ⟨u, h1, h2⟩ := evB2S_ok hE h hc hb (getO_ok hs x)
      refine ⟨u, h1, fun w hw => ?_⟩
      unfold Oper.quietAt
      simp only [execOp, ho, Sem.run_bind, h2 w hw, Result.andThen_ok, Sem.run_pure]
      exact ⟨rfl, rfl⟩
    · exact QRun.op hg (evQ_quiet hE hb h hc) hk
  · exact QRun.op hg (evQ_quiet hE hb h hc) hk

noncomputable def runHead (E : Env) (all : List Oper) (m : Mem) : Nat → List Oper → List AV → List Prop → Option (List Prop × List Oper × List AV)
  | 0, l, t, cs => some (cs, l, t)
  | _ + 1, [], t, cs => some (cs, [], t)
  | n + 1, o :: l, t, cs =>
    match gval all t o with
    | some true => (match evHead E t m o.op with
      | some (c, v) => (match assumeA E o.dst v with
        | (c2, v') => putF t o.dst v' fun t' => appF c cs fun cs1 => appF c2 cs1 fun cs' => runHead E all m n l t' cs')
      | none => none)
    | some false => putF t o.dst (.tup []) fun t' => runHead E all m n l t' cs
    | none => none

theorem runHead_ok {E : Env} {wb : World} {p : Pl} (hE : EnvOk X.P E) (hC : CallOk X.P E) (hb : MR X p m wb) {all : List Oper} {K : List AV → Prop} : ∀ {n : Nat} {l : List Oper} {t : List AV} {cs cs' : List Prop} {l' : List Oper} {t' : List AV},
    runHead E all m n l t cs = some (cs', l', t') → AllC cs' → AllC cs ∧ (QRun X p wb all l' t' m K → QRun X p wb all l t m K)
  | 0, l, t, cs, cs', l', t', h, hc => by
    simp only [runHead, Option.some.injEq, Prod.mk.injEq] at h
    obtain ⟨rfl, rfl, rfl⟩ := h
    exact ⟨hc, id⟩
  | n + 1, [], t, cs, cs', l', t', h, hc => by
    simp only [runHead, Option.some.injEq, Prod.mk.injEq] at h
    obtain ⟨rfl, rfl, rfl⟩ := h
    exact ⟨hc, id⟩
  | n + 1, o :: l, t, cs, cs', l', t', h, hc => by
    unfold runHead at h
    split at h
    · rename_i hg
      split at h
      · rename_i c v hs
        split at h
        rename_i c2 v' ha
        rw [putF_eq, appF_eq, appF_eq] at h
        obtain ⟨h1, h2⟩ := runHead_ok hE hC hb h hc
        obtain ⟨h0, h1⟩ := AllC_append h1
        obtain ⟨h3, h4⟩ := AllC_append h1
        have := assumeA_ok ha h0
        subst this
        exact ⟨h4, fun hk => QRun.evHead hE hC hb hs h3 hg (h2 hk)⟩
      · cases h
    · rename_i hg
      rw [putF_eq] at h
      obtain ⟨h1, h2⟩ := runHead_ok hE hC hb h hc
      exact ⟨h1, fun hk => QRun.skip hg (h2 hk)⟩
    · cases h

/-! Results -/

def evRes (E : Env) (t : List AV) (m : Mem) (r : ResultVar) : RV :=
  match r with
  | .tmp n => some ([], gt .any t n)
  | .cell a ty => (match gt .any t a with
    | .one (.ptr b o) => (match gt none m b with | some row => rd (E.sym ty) (E.ti ty) row o | none => none)
    | _ => none)

def evResL (E : Env) (t : List AV) (m : Mem) : List ResultVar → Option (List Prop × List AV)
  | [] => some ([], [])
  | r :: l => match evRes E t m r, evResL E t m l with
    | some (c, v), some (cs, vs) => some (c ++ cs, v :: vs)
    | _, _ => none

def pack (vs : List AV) : AV := match vs with | [v] => v | vs => .tup vs

def resOf (tmps : Array Value) (r : ResultVar) : Sem Value :=
  match r with
  | .tmp n => pure (tmps.getD n undef)
  | .cell b ty => do loadVar ty (← asAddr (tmps.getD b undef))

theorem evRes_ok {E : Env} (hE : EnvOk X.P E) {t : List AV} {r : ResultVar} {cs : List Prop} {v : AV} (h : evRes E t m r = some (cs, v)) (hc : AllC cs) {a : Act} (hr : Rel X p t m a w) :
    ∃ u, VA X m.length p v u ∧ (resOf a.tmps r).run X.P w = .ok u w := by
  unfold evRes at h
  split at h
  · rename_i n
    simp only [Option.some.injEq, Prod.mk.injEq] at h
    obtain ⟨rfl, rfl⟩ := h
    exact ⟨_, hr.slots.get n, rfl⟩
  · rename_i b ty
    split at h
    · rename_i i o hx
      split at h
      · rename_i row hrow
        have hv := hr.slots.get b
        rw [hx] at hv
        obtain ⟨_, hv⟩ := hv.one_inv.ptr_inv
        obtain ⟨u, h1, h2⟩ := rd_ok (RowAt.own hr.mem (gt_mem hrow) (wb := w)) (hE.ti ty) h hc
        refine ⟨u, h1, ?_⟩
        have := h2 w ⟨hr.mem, fun _ _ _ _ => rfl⟩
        unfold resOf
        dsimp only
        rw [hv]
        simpa [asAddr] using this
      · cases h
    · cases h

theorem evResL_ok {E : Env} (hE : EnvOk X.P E) {t : List AV} {a : Act} (hr : Rel X p t m a w) : ∀ {rs : List ResultVar} {cs : List Prop} {vs : List AV}, evResL E t m rs = some (cs, vs) → AllC cs →
    ∃ us : List Value, us.length = vs.length ∧ (∀ (j : Nat) (v : AV), vs[j]? = some v → VA X m.length p v (us.getD j undef)) ∧
      (rs.mapM (resOf a.tmps)).run X.P w = .ok us w
  | [], cs, vs, h, _ => by
    simp only [evResL, Option.some.injEq, Prod.mk.injEq] at h
    obtain ⟨rfl, rfl⟩ := h
    exact ⟨[], rfl, fun j v hj => by simp at hj, rfl⟩
  | r :: rs, cs, vs, h, hc => by
    unfold evResL at h
    split at h
    · rename_i c v cs' vs' h1 h2
      simp only [Option.some.injEq, Prod.mk.injEq] at h
      obtain ⟨rfl, rfl⟩ := h
      obtain ⟨g1, g2⟩ := AllC_append hc
      obtain ⟨u, k1, k2⟩ := evRes_ok hE h1 g1 hr
      obtain ⟨us, k3, k4, k5⟩ := evResL_ok hE hr h2 g2
      refine ⟨u :: us, by simp [k3], fun j v' hj => ?_, ?_⟩
      · cases j with
        | zero => simp at hj; subst hj; exact k1
        | succ j => simpa using k4 j v' (by simpa using hj)
      · rw [List.mapM_cons]
        simp only [Sem.run_bind, k2, k5, Result.andThen_ok]
        rfl
    · cases h

theorem evResL_resOK {E : Env} (hE : EnvOk X.P E) {f : FuncId} {fn : Func} {c : Code} (hf : FnOk X.P f fn c) {t : List AV} {cs : List Prop} {vs : List AV} (h : evResL E t m fn.results.toList = some (cs, vs)) (hc : AllC cs) : resOK X f t m (pack vs) := by
  intro p a w hr
  obtain ⟨us, h1, h2, h3⟩ := evResL_ok hE hr h hc
  refine ⟨fn, if us.length = 1 then us.getD 0 undef else .tuple us.toArray, hf.func, ?_, ?_⟩
  · have e : results fn a.tmps = (do let vs ← fn.results.mapM (resOf a.tmps); pure (if h : vs.size = 1 then vs[0] else .tuple vs)) := by
      unfold results
      congr 1
    rw [e, Array.mapM_eq_mapM_toList, Sem.run_bind]
    have h4 : (List.toArray <$> fn.results.toList.mapM (resOf a.tmps) : Sem (Array Value)).run X.P w = .ok us.toArray w := by
      rw [map_eq_pure_bind, Sem.run_bind, h3]
      rfl
    rw [h4]
    show Sem.run X.P (pure _) w = _
    by_cases hl : us.length = 1
    · rw [if_pos hl, dif_pos (by simpa using hl)]
      match us, hl with
      | [u], _ => rfl
    · rw [if_neg hl, dif_neg (by simpa using hl)]
      rfl
  · unfold pack
    split
    · rename_i v
      rw [if_pos (by simpa using h1)]
      exact h2 0 v rfl
    · rename_i hne
      rw [if_neg (fun e => by
        have : vs.length = 1 := by omega
        match vs, this with
        | [v], _ => exact hne v rfl)]
      exact .tup _ _ (by omega) h2

/-- what is returned, and the memory as it is seen from there -/
def resOK2 (X : Ctx) (f : FuncId) (n0 : Nat) (t : List AV) (m : Mem) (r : AV) (m' : Mem) : Prop :=
  n0 ≤ m.length → ∀ (p : Pl) (a : Act) (w : World), Rel X p t m a w → ∃ fn v p', X.P.funcs[f]? = some fn ∧ (results fn a.tmps).run X.P w = .ok v w ∧ Ext n0 p p' ∧ n0 ≤ m'.length ∧ MR X p' m' w ∧ VA X m'.length p' r v

theorem KRun.ret2 {f n0 : Nat} {Q : AV → Mem → Prop} {k : List Item} {t : List AV} {m m' : Mem} {r : AV} (hr : resOK2 X f n0 t m r m') (hQ : Q r m') : KRun X f n0 Q (.code .ret :: k) t m := by
  intro hn p a w h b cs hb hk
  obtain ⟨fn, v, p', h1, h2, h3, h4, h5, h6⟩ := hr hn p a w h
  exact ⟨_, w, v, r, m', p', .one step_ret, hb, ⟨rfl, h.defers, hk, fn, by simpa [Frame.at, hb] using h1, h2⟩, h3, h4, h5, h6, hQ⟩

theorem KRun.nil2 {f n0 : Nat} {Q : AV → Mem → Prop} {t : List AV} {m m' : Mem} {r : AV} (hr : resOK2 X f n0 t m r m') (hQ : Q r m') : KRun X f n0 Q [] t m := by
  intro hn p a w h b cs hb hk
  obtain ⟨fn, v, p', h1, h2, h3, h4, h5, h6⟩ := hr hn p a w h
  exact ⟨_, w, v, r, m', p', .one step_end, hb, ⟨rfl, h.defers, hk, fn, by simpa [Frame.at, hb] using h1, h2⟩, h3, h4, h5, h6, hQ⟩

theorem results_run {P : Program} {fn : Func} {a : Act} {us : List Value} {w : World} (h3 : (fn.results.toList.mapM (resOf a.tmps)).run P w = .ok us w) :
    (results fn a.tmps).run P w = .ok (if us.length = 1 then us.getD 0 undef else .tuple us.toArray) w := by
  have e : results fn a.tmps = (do let vs ← fn.results.mapM (resOf a.tmps); pure (if h : vs.size = 1 then vs[0] else .tuple vs)) := by
    unfold results
    congr 1
  rw [e, Array.mapM_eq_mapM_toList, Sem.run_bind]
  have h4 : (List.toArray <$> fn.results.toList.mapM (resOf a.tmps) : Sem (Array Value)).run P w = .ok us.toArray w := by
    rw [map_eq_pure_bind, Sem.run_bind, h3]
    rfl
  rw [h4]
  show Sem.run P (pure _) w = _
  by_cases hl : us.length = 1
  · rw [if_pos hl, dif_pos (by simpa using hl)]
    match us, hl with
    | [u], _ => rfl
  · rw [if_neg hl, dif_neg (by simpa using hl)]
    rfl

theorem pack_ok {N : Nat} {p : Pl} {vs : List AV} {us : List Value} (h : SR X N p vs us.toArray) : VA X N p (pack vs) (if us.length = 1 then us.getD 0 undef else .tuple us.toArray) := by
  have h1 : vs.length = us.length := by simpa using h.1
  have h2 : ∀ (j : Nat) (v : AV), vs[j]? = some v → VA X N p v (us.getD j undef) := fun j v hj => by
    have hlt : j < us.length := by rw [← h1]; exact (List.getElem?_eq_some_iff.1 hj).1
    refine h.2 j v _ hj ?_
    simp [List.getD_eq_getElem?_getD, List.getElem?_eq_getElem hlt]
  unfold pack
  split
  · rename_i v
    rw [if_pos (by simpa using h1.symm)]
    exact h2 0 v rfl
  · rename_i hne
    rw [if_neg (fun e => by
      have : vs.length = 1 := by omega
      match vs, this with
      | [v], _ => exact hne v rfl)]
    exact .tup _ _ (by omega) h2

theorem evResL_res2 {E : Env} (hE : EnvOk X.P E) {f n0 : Nat} {fn : Func} {c : Code} (hf : FnOk X.P f fn c) {t : List AV} {m m' : Mem} {cs c2 : List Prop} {vs vs' : List AV} {d : Bool} {rc : CS}
    (h : evResL E t m fn.results.toList = some (cs, vs)) (hc : AllC cs) (h2 : canon d rc n0 vs m = some (c2, vs', m')) (hc2 : AllC c2) : resOK2 X f n0 t m (pack vs') m' := by
  intro hn p a w hr
  obtain ⟨us, g1, g2, g3⟩ := evResL_ok hE hr h hc
  have hs : SR X m.length p vs us.toArray := ⟨by simp [g1], fun j v u k1 k2 => by
    have := g2 j v k1
    have hlt : j < us.length := by rw [g1]; exact (List.getElem?_eq_some_iff.1 k1).1
    have e : us.getD j undef = u := by
      have : us[j]? = some u := by simpa using k2
      simp [List.getD_eq_getElem?_getD, this]
    rwa [e] at this⟩
  obtain ⟨p', k1, k2, k3, k4⟩ := canon_ok h2 hc2 hs hr.mem
  exact ⟨fn, _, p', hf.func, results_run g3, k2 hn, k1, k4, pack_ok k3⟩
end
end DH
