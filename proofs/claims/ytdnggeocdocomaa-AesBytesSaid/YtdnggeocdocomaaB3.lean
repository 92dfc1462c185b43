/- The layer: operations that build, store and slice, and that the machine follows. -/
import Derived.Test.YtdnggeocdocomaaB2
set_option linter.unusedVariables false
set_option linter.unusedSimpArgs false
namespace DH
open Go

section
variable {X : Ctx} {p : Pl} {m : Mem} {wb : World}

def evBuiltin (E : Env) (t : List AV) (b : Builtin) (args : List Operand) (tys : List TypeId) : RV :=
  match b, args, tys with
  | .len, [x], [ty] => evLen E ty (getO t x)
  | .min, [x, y], _ => evMM minC (getO t x) (getO t y)
  | .max, [x, y], _ => evMM maxC (getO t x) (getO t y)
  | _, _, _ => none

theorem evBuiltin_ok {E : Env} (hE : EnvOk X.P E) {t : List AV} {b : Builtin} {args : Array Operand} {tys : Array TypeId} {ty : TypeId} {cs : List Prop} {v : AV} (h : evBuiltin E t b args.toList tys.toList = some (cs, v))
    {ev : Operand → Value} (hev : ∀ x, VA X m.length p (getO t x) (ev x)) (consts : Array Bool) : E1 X p m wb (builtin b tys ty consts (args.map ev)) v := by
  obtain ⟨args⟩ := args
  obtain ⟨tys⟩ := tys
  simp only at h
  unfold evBuiltin at h
  split at h
  · rename_i x tt
    have e : Array.map ev ⟨[x]⟩ = #[ev x] := by simp
    rw [e]
    exact E1.of_G1 (evLen_ok hE h (hev _))
  · rename_i x y
    have e : Array.map ev ⟨[x, y]⟩ = #[ev x, ev y] := by simp
    rw [e]
    exact E1.of_G1 (evMin_ok h (hev _) (hev _))
  · rename_i x y
    have e : Array.map ev ⟨[x, y]⟩ = #[ev x, ev y] := by simp
    rw [e]
    exact E1.of_G1 (evMax_ok h (hev _) (hev _))
  · cases h

/-- what is caught by a function value -/
def caught (t : List AV) : List Operand → Option (List AC)
  | [] => some []
  | x :: l =>
    match getO t x, caught t l with
    | .one c, some cs => some (c :: cs)
    | _, _ => none

theorem caught_ok {N : Nat} {t : List AV} {ev : Operand → Value} (hev : ∀ x, VA X N p (getO t x) (ev x)) : ∀ {l : List Operand} {cs : List AC}, caught t l = some cs → VL X N p cs (l.map ev)
  | [], cs, h => by simp only [caught, Option.some.injEq] at h; subst h; exact ⟨rfl, fun j c u h1 _ => by simp at h1⟩
  | x :: l, cs, h => by
    unfold caught at h
    split at h
    · rename_i c cs' h1 h2
      injection h with h; subst h
      have ih := caught_ok hev h2
      refine ⟨by simp [ih.1], fun j c' u g1 g2 => ?_⟩
      cases j with
      | zero =>
        simp at g1 g2
        subst g1; subst g2
        have := hev x
        rw [h1] at this
        exact this.one_inv
      | succ j => exact ih.2 j c' u (by simpa using g1) (by simpa using g2)
    · cases h

def evMakeFunc (t : List AV) (fn : Fn) (first captured : List Operand) : RV :=
  match fn, first with
  | .func f, [] => (match caught t captured with | some cs => some ([], .one (.fn f cs)) | none => none)
  | _, _ => none

theorem VR.fn_of {N : Nat} {f : FuncId} {cs : List AC} {l : List Value} (h : VL X N p cs l) : VR X N p (.fn f cs) (.func (.func f) #[] l.toArray) := by
  have e : l.toArray = ((List.range cs.length).map fun j => l.getD j undef).toArray := by
    congr 1
    apply List.ext_getElem?
    intro j
    rw [List.getElem?_map]
    rcases Nat.lt_or_ge j l.length with hj | hj
    · rw [List.getElem?_range (by rw [h.1]; exact hj), List.getElem?_eq_getElem hj]
      simp [hj]
    · rw [List.getElem?_eq_none hj, List.getElem?_eq_none (by simp; rw [h.1]; exact hj)]
      rfl
  rw [e]
  refine .fn f cs _ (fun j c hj => ?_)
  have hlt : j < l.length := by have := (List.getElem?_eq_some_iff.1 hj).1; have := h.1; omega
  simpa [List.getD_eq_getElem?_getD, List.getElem?_eq_getElem hlt] using h.2 j c _ hj (List.getElem?_eq_getElem hlt)

/-- operations that only compute and read -/
noncomputable def evQ (E : Env) (t : List AV) (m : Mem) (op : Op) : RV :=
  match op with
  | .move x => some ([], getO t x)
  | .assign x => some ([], getO t x)
  | .pick c a b => evPick (getO t c) (getO t a) (getO t b)
  | .load ty a => evLoad E m ty (getO t a)
  | .nilCheck x => evNilCheck (getO t x)
  | .binOp op ty x y _ => evBinOp E ty op (getO t x) (getO t y)
  | .unOp op _ x => evUn E op (getO t x)
  | .convert s d x => evConv E s d (getO t x)
  | .sliceToArrayPointer ty x => evS2A E ty (getO t x)
  | .slice ty x lo hi mx => (match mx with | none => evSlice E ty (getO t x) (lo.map (getO t)) (hi.map (getO t)) | some _ => none)
  | .fieldAddr ty x f => evFieldAddr E ty (getO t x) f
  | .field ty x f => evField E ty (getO t x) f
  | .indexAddr ty x ix => evIxAddr E ty (getO t x) (getO t ix)
  | .index ty x ix => evIndex E ty (getO t x) (getO t ix)
  | .extract x i => evExtract (getO t x) i
  | .build ty parts => evBuild E t ty parts.toList
  | .makeFunc fn first captured => evMakeFunc t fn first.toList captured.toList
  | .call c => (match c.callee with | .builtin b => evBuiltin E t b c.args.toList c.argTypes.toList | _ => none)
  | _ => none

theorem bndV_map {N : Nat} {t : List AV} {ev : Operand → Value} (hev : ∀ x, VA X N p (getO t x) (ev x)) (o : Option Operand) : bndV X N p (o.map (getO t)) (o.map ev) := by
  cases o with
  | none => trivial
  | some x => exact hev x

theorem evQ_ok {E : Env} (hE : EnvOk X.P E) (hb : MR X p m wb) {t : List AV} {o : Oper} {cs : List Prop} {v : AV} (h : evQ E t m o.op = some (cs, v)) (hc : AllC cs) {ev : Operand → Value}
    (hev : ∀ x, VA X m.length p (getO t x) (ev x)) : E1 X p m wb (execOp ev o) v := by
  obtain ⟨dst, op, ty, pos, after, guard⟩ := o
  simp only at h
  unfold evQ at h
  split at h
  · simp only [Option.some.injEq, Prod.mk.injEq] at h; obtain ⟨rfl, rfl⟩ := h
    exact E1.pure (hev _)
  · simp only [Option.some.injEq, Prod.mk.injEq] at h; obtain ⟨rfl, rfl⟩ := h
    exact E1.pure (hev _)
  · rename_i c a b
    unfold evPick at h
    split at h
    · rename_i c' hcv
      have hv := hev c
      rw [hcv] at hv
      have hv := VA.bool hv
      split at h
      · simp only [Option.some.injEq, Prod.mk.injEq] at h; obtain ⟨rfl, rfl⟩ := h
        exact ⟨ev a, hev a, fun w _ => by simp [execOp, hv, asBool]⟩
      · simp only [Option.some.injEq, Prod.mk.injEq] at h; obtain ⟨rfl, rfl⟩ := h
        exact ⟨ev b, hev b, fun w _ => by simp [execOp, hv, asBool]⟩
    · cases h
  · exact E1.of_G1 (evLoad_ok hE hb h hc (hev _))
  · rename_i x
    have hv := hev x
    unfold evNilCheck at h
    split at h
    · rename_i i o hx
      rw [hx] at hv
      simp only [Option.some.injEq, Prod.mk.injEq] at h; obtain ⟨rfl, rfl⟩ := h
      have hv' := hv.one_inv.ptr_inv
      exact ⟨ev x, hv, fun w _ => by simp [execOp, hv'.2]⟩
    · rename_i r o hx
      rw [hx] at hv
      simp only [Option.some.injEq, Prod.mk.injEq] at h; obtain ⟨rfl, rfl⟩ := h
      have hv' := hv.one_inv
      generalize hz : ev x = z at hv hv'
      cases hv'
      exact ⟨_, hv, fun w _ => by simp [execOp, hz]⟩
    · cases h
  · exact E1.of_G1 (evBinOp_ok hE h hc _ _ (hev _) (hev _))
  · exact E1.of_G1 (evUn_ok h hc (hev _))
  · exact E1.of_G1 (evConv_ok hE h (hev _))
  · exact E1.of_G1 (evS2A_ok hE h hc (hev _))
  · split at h
    · exact E1.of_G1 (evSlice_ok hE h hc (hev _) (bndV_map hev _) (bndV_map hev _))
    · cases h
  · exact E1.of_G1 (evFieldAddr_ok hE h (hev _))
  · exact E1.of_G1 (evField_ok hE h hc (hev _))
  · exact E1.of_G1 (evIxAddr_ok hE h hc (hev _) (hev _))
  · exact E1.of_G1 (evIndex_ok hE h hc (hev _) (hev _))
  · exact E1.of_G1 (evExtract_ok h (hev _))
  · rename_i ty' parts
    have := evBuild_ok (wb := wb) hE h hc hev
    refine E1.of_G1 ?_
    have e : (parts.map fun (i, x) => (i, ev x)) = (parts.toList.map fun (i, x) => (i, ev x)).toArray := by
      apply Array.ext'; simp
    rw [e]
    exact this
  · rename_i fn first captured
    unfold evMakeFunc at h
    split at h
    · rename_i f hf
      split at h
      · rename_i cs' hcs
        simp only [Option.some.injEq, Prod.mk.injEq] at h; obtain ⟨rfl, rfl⟩ := h
        have hl := caught_ok hev hcs
        refine E1.of_G1 ?_
        refine ok1 (VR.fn_of hl) (fun w => ?_)
        have e1 : first.map ev = #[] := by apply Array.ext'; simp [hf]
        have e2 : captured.map ev = (captured.toList.map ev).toArray := by apply Array.ext'; simp
        rw [e1, e2]
        rfl
      · cases h
    · cases h
  · rename_i c
    split at h
    · rename_i b hcal
      obtain ⟨u, h1, h2⟩ := evBuiltin_ok (wb := wb) (ty := ty) hE h hev (c.args.map fun | .const _ => true | _ => false)
      refine ⟨u, h1, fun w hw => ?_⟩
      have := h2 w hw
      simp only [execOp, resolve, hcal, Sem.run_bind, Sem.run_pure, Result.andThen_ok, invoke]
      exact this
    · cases h
  · cases h

theorem evQ_runs {E : Env} (hE : EnvOk X.P E) {t : List AV} {o : Oper} {cs : List Prop} {v : AV} (h : evQ E t m o.op = some (cs, v)) (hc : AllC cs) : OpRuns X o t m v m := by
  intro p a w hr
  obtain ⟨u, h1, h2⟩ := evQ_ok hE hr.mem h hc (getO_ok hr.slots)
  exact ⟨p, u, w, .inl (h2 w ⟨hr.mem, fun _ _ _ _ => rfl⟩), .refl _ _, Nat.le_refl _, h1, hr.mem⟩

theorem evQ_quiet {E : Env} (hE : EnvOk X.P E) (hb : MR X p m wb) {t : List AV} {o : Oper} {cs : List Prop} {v : AV} (h : evQ E t m o.op = some (cs, v)) (hc : AllC cs) : QRuns X p wb o t m v := by
  intro a hd hs
  obtain ⟨u, h1, h2⟩ := evQ_ok hE hb h hc (getO_ok hs)
  refine ⟨u, h1, fun w hw => ?_⟩
  unfold Oper.quietAt
  rw [h2 w hw]
  exact ⟨rfl, rfl⟩
end
end DH
