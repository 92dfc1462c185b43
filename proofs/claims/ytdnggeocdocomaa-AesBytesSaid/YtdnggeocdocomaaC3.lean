/- The layer: calls, contracts, walks of whole functions by evaluation. -/
import Derived.Test.YtdnggeocdocomaaC2
set_option linter.unusedVariables false
set_option linter.unusedSimpArgs false
namespace DH
open Go

def locA (E : Env) (m : Mem) (ty : TypeId) (a : AV) : Option (List Prop × AV) :=
  match a with
  | .one c => (match locC E m ty c with | some (cs, c') => some (cs, .one c') | none => none)
  | .agg cs => (match ckFlat (!(E.sym ty) || E.lit) cs with | some c => some (c, .agg cs) | none => none)
  | .any => some ([], .any)
  | .tup _ => none

def locs (E : Env) (m : Mem) (t : List AV) : List Operand → List TypeId → Option (List Prop × List AV)
  | [], [] => some ([], [])
  | x :: xs, ty :: tys =>
    match locA E m ty (getO t x), locs E m t xs tys with
    | some (c1, a), some (c2, as) => some (c1 ++ c2, a :: as)
    | _, _ => none
  | _, _ => none

theorem AllC_append {a b : List Prop} (h : AllC (a ++ b)) : AllC a ∧ AllC b := AllC_append' h

section
variable {X : Ctx} {p : Pl} {m : Mem} {w : World}

theorem locA_ok {E : Env} (h : MR X p m w) {ty : TypeId} {a a' : AV} {cs : List Prop} (hl : locA E m ty a = some (cs, a')) (hc : AllC cs) {v : Value} (hv : VA X m.length p a v) (M : Nat) (q : Pl) :
    VA (Ctx.all X.P w []) M q a' v := by
  unfold locA at hl
  split at hl
  · split at hl
    · rename_i h1
      simp only [Option.some.injEq, Prod.mk.injEq] at hl
      obtain ⟨rfl, rfl⟩ := hl
      exact .one _ _ (locC_ok h h1 hc hv.one_inv M q)
    · cases hl
  · split at hl
    · rename_i h1
      simp only [Option.some.injEq, Prod.mk.injEq] at hl
      obtain ⟨rfl, rfl⟩ := hl
      have hf := ck_ok h1 flatLB_ok hc
      cases hv with
      | agg cs l hv => exact .agg _ _ ⟨hv.1, fun j c u h1 h2 => (hv.2 j c u h1 h2).carry h.carries (hf c (List.mem_of_getElem? h1)) M q⟩
    · cases hl
  · simp only [Option.some.injEq, Prod.mk.injEq] at hl
    obtain ⟨rfl, rfl⟩ := hl
    exact .any _
  · cases hl

theorem locs_ok {E : Env} (h : MR X p m w) {t : List AV} {ev : Operand → Value} (hev : ∀ x, VA X m.length p (getO t x) (ev x)) (M : Nat) (q : Pl) :
    ∀ {xs : List Operand} {tys : List TypeId} {cs : List Prop} {as : List AV}, locs E m t xs tys = some (cs, as) → AllC cs → AL (Ctx.all X.P w []) M q as (xs.map ev)
  | [], [], cs, as, hl, _ => by
    simp only [locs, Option.some.injEq, Prod.mk.injEq] at hl
    obtain ⟨rfl, rfl⟩ := hl
    exact ⟨rfl, fun j a u h1 _ => by simp at h1⟩
  | x :: xs, ty :: tys, cs, as, hl, hc => by
    unfold locs at hl
    split at hl
    · rename_i c1 a c2 as' h1 h2
      simp only [Option.some.injEq, Prod.mk.injEq] at hl
      obtain ⟨rfl, rfl⟩ := hl
      obtain ⟨g1, g2⟩ := AllC_append hc
      have ih := locs_ok h hev M q h2 g2
      have hd := locA_ok h h1 g1 (hev x) M q
      refine ⟨by simp [ih.1], fun j a' u k1 k2 => ?_⟩
      cases j with
      | zero => simp at k1 k2; subst k1; subst k2; exact hd
      | succ j => exact ih.2 j a' u (by simpa using k1) (by simpa using k2)
    · cases hl
  | [], _ :: _, cs, as, hl, _ => by simp [locs] at hl
  | _ :: _, [], cs, as, hl, _ => by simp [locs] at hl

/-- calls, as the tables tell: those that only compute, and those that turn memory -/
structure CallOk (P : Program) (E : Env) : Prop where
  q : ∀ (f : FuncId) (as : List AV) (cs : List Prop) (r : AV), E.call f as = some (cs, r) → AllC cs → (∃ fn c, FnOk P f fn c) ∧ Spec P f as [] (fun r' _ => r' = r) ∧ r.exact
  m : ∀ (f : FuncId) (mf : MF) (as : List AV) (m0 : Mem) (cs : List Prop) (r : AV) (m1 : Mem), E.memf f = some mf → E.callM f as m0 = some (cs, r, m1) → AllC cs →
    (∃ fn c, FnOk P f fn c) ∧ Spec P f as m0 (fun r' m' => r' = r ∧ m' = m1)

def evCall (E : Env) (t : List AV) (m : Mem) (c : Call) : Option (List Prop × AV) :=
  match c.callee with
  | .value (.func f) =>
    match locs E m t c.args.toList c.argTypes.toList with
    | some (c1, as) => (match E.call f as with
      | some (c2, r) => some (c1 ++ c2, r)
      | none => none)
    | none => none
  | _ => none

theorem run_call {P : Program} {ev : Operand → Value} {o : Oper} {c : Call} (ho : o.op = .call c) {f : FuncId} (hf : c.callee = .value (.func f)) (hev : ev (.func f) = .func (.func f) #[] #[]) {fn : Func} {b : Code} (hfn : FnOk P f fn b) (w : World) :
    (execOp ev o).run P w = .ok (.enter f (c.args.toList.map ev).toArray) w := by
  have hne : fn.name ≠ "runtime.NumGoroutine" := by have := hfn.name; simpa using this
  simp [execOp, ho, resolve, hf, hev, Deferred.ofValue, invoke, callFunc, hfn.func, hfn.body, hne]
  rw [← Array.toList_map, Array.toArray_toList]

theorem MR.after {p' : Pl} {m' : Mem} {w' : World} (h : MR X p m w) (k : MR (Ctx.all X.P w []) p' m' w') : MR X p m w' := by
  have hk : ∀ b, b < w.heap.size → w'.heap[b]? = w.heap[b]? := fun b hb => k.keep b ⟨hb, by simp [Ctx.all]⟩
  refine ⟨k.os.trans h.os, k.tape.trans h.tape, k.output.trans h.output, Nat.le_trans h.size k.size, ?_, ?_, h.new, h.inj⟩
  · intro b hb
    rw [hk b (by have := hb.1; have := h.size; omega)]
    exact h.keep b hb
  · intro i row hi
    rcases h.blk i row hi with h0 | ⟨hz, hb⟩
    · exact .inl h0
    · exact .inr ⟨hz, hb.mono (Nat.le_refl _) (.refl _ _) (hk _ (h.live hi hz))⟩

theorem evCall_ok {E : Env} {wb : World} (hC : CallOk X.P E) {t : List AV} {o : Oper} {c : Call} (ho : o.op = .call c) {cs : List Prop} {r : AV} (h : evCall E t m c = some (cs, r)) (hc : AllC cs)
    {ev : Operand → Value} (hf : ∀ f, ev (.func f) = .func (.func f) #[] #[]) (hev : ∀ x, VA X m.length p (getO t x) (ev x)) (hb : MR X p m wb) :
    r.exact ∧ ∃ u, VA X m.length p r u ∧ ∀ w, MRw X p m wb w → ∃ f args, (execOp ev o).run X.P w = .ok (.enter f args) w ∧ Calls X.P f args w (fun e w' => e = .returned u ∧ MRw X p m wb w' ∧ Grow w w') := by
  unfold evCall at h
  split at h
  · rename_i f hcal
    split at h
    · rename_i c1 as hl
      split at h
      · rename_i c2 r' hcall
        simp only [Option.some.injEq, Prod.mk.injEq] at h
        obtain ⟨rfl, rfl⟩ := h
        obtain ⟨g1, g2⟩ := AllC_append hc
        obtain ⟨⟨fn, b, hfn⟩, hS, hex⟩ := hC.q f as c2 r' hcall g2
        refine ⟨hex, ?_⟩
        have hstep : ∀ w, MRw X p m wb w → (execOp ev o).run X.P w = .ok (.enter f (c.args.toList.map ev).toArray) w ∧
            Calls X.P f (c.args.toList.map ev).toArray w (fun e w' => ∃ v, e = .returned v ∧ VA X m.length p r' v ∧ MRw X p m wb w' ∧ Grow w w') := by
          intro w hw
          refine ⟨run_call ho hcal (hf f) hfn w, ?_⟩
          have hl0 := locs_ok hw.1 hev 0 p hl g1
          have hm0 : MR (Ctx.all X.P w []) p [] w := ⟨rfl, rfl, rfl, Nat.le_refl _, fun _ _ => rfl, fun i row hi => by simp at hi, fun i row hi => by simp at hi, fun i j r s hi => by simp at hi⟩
          refine (hS (Ctx.all X.P w []) p _ rfl hm0 hl0).mono ?_
          rintro e w' ⟨v, r2, m', p', rfl, k1, k2, k3, k4, k5⟩
          subst k5
          refine ⟨v, rfl, k3.exact_any hex X _ _, ⟨hw.1.after k4, fun i row hi hz => ?_⟩, ⟨k4.os, k4.tape, k4.output, k4.size, fun b hb => k4.keep b ⟨hb, by simp [Ctx.all]⟩⟩⟩
          rw [← hw.2 i row hi hz]
          exact k4.keep _ ⟨hw.1.live hi hz, by simp [Ctx.all]⟩
        obtain ⟨e, w', fr, ⟨u, _, hu, _⟩, _⟩ := (hstep wb ⟨hb, fun _ _ _ _ => rfl⟩).2 []
        refine ⟨u, hu, fun w hw => ⟨f, _, (hstep w hw).1, (hstep w hw).2.mono ?_⟩⟩
        rintro e w' ⟨v, rfl, k1, k2⟩
        exact ⟨by rw [VA.det k1 hu hex], k2⟩
      · cases h
    · cases h
  · cases h

theorem evCall_runs {E : Env} (hC : CallOk X.P E) {t : List AV} {o : Oper} {c : Call} (ho : o.op = .call c) {cs : List Prop} {r : AV} (h : evCall E t m c = some (cs, r)) (hc : AllC cs) :
    CallRuns X o t m (fun r' m' => r' = r ∧ m' = m) := by
  intro p a w hr
  obtain ⟨hex, u, h1, h2⟩ := evCall_ok hC ho h hc (fun _ => rfl) (getO_ok hr.slots) hr.mem
  obtain ⟨f, args, g1, g2⟩ := h2 w ⟨hr.mem, fun _ _ _ _ => rfl⟩
  refine ⟨f, args, g1, g2.mono ?_⟩
  rintro e w' ⟨rfl, hw, _⟩
  exact ⟨u, r, m, p, rfl, .refl _ _, Nat.le_refl _, h1, hw.1, rfl, rfl⟩

theorem evCall_quiet {E : Env} {wb : World} (hC : CallOk X.P E) (hb : MR X p m wb) {t : List AV} {o : Oper} {c : Call} (ho : o.op = .call c) {cs : List Prop} {r : AV} (h : evCall E t m c = some (cs, r)) (hc : AllC cs) : QRuns X p wb o t m r := by
  intro a hd hs
  obtain ⟨hex, u, h1, h2⟩ := evCall_ok hC ho h hc (fun _ => rfl) (getO_ok hs) hb
  refine ⟨u, h1, fun w hw => ?_⟩
  obtain ⟨f, args, g1, g2⟩ := h2 w hw
  unfold Oper.quietAt
  rw [g1]
  exact ⟨rfl, g2.mono fun e w' ⟨h1, h2, _⟩ => ⟨h1, h2⟩⟩
end
end DH
