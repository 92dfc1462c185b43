/- The layer: calls, contracts, walks of whole functions by evaluation. -/
import Derived.Test.YtdnggeocdocomaaC1
set_option linter.unusedVariables false
set_option linter.unusedSimpArgs false
namespace DH
open Go

/-! Contracts of functions; calls that only compute. -/

structure FnOk (P : Program) (f : FuncId) (fn : Func) (c : Code) : Prop where
  func : P.funcs[f]? = some fn
  body : fn.body = some c
  name : (fn.name == "runtime.NumGoroutine") = false

def AL (X : Ctx) (N : Nat) (p : Pl) (as : List AV) (vs : List Value) : Prop := as.length = vs.length ∧ ∀ (j : Nat) (a : AV) (u : Value), as[j]? = some a → vs[j]? = some u → VA X N p a u

/-- What a call of 'f' gives, for arguments and written memory as told. -/
def Spec (P : Program) (f : FuncId) (as : List AV) (m0 : Mem) (R : AV → Mem → Prop) : Prop :=
  ∀ (X : Ctx) (p : Pl) (vs : List Value), X.P = P → MR X p m0 X.w0 → AL X m0.length p as vs →
    Calls P f vs.toArray X.w0 fun e w' => ∃ v r m' p', e = .returned v ∧ Ext m0.length p p' ∧ m0.length ≤ m'.length ∧ VA X m'.length p' r v ∧ MR X p' m' w' ∧ R r m'

theorem Spec.mono {P : Program} {f : FuncId} {as : List AV} {m0 : Mem} {R R' : AV → Mem → Prop} (h : Spec P f as m0 R) (hr : ∀ r m, R r m → R' r m) : Spec P f as m0 R' :=
  fun X p vs h0 h1 h2 => (h X p vs h0 h1 h2).mono fun _ _ ⟨v, r, m', p', g1, g2, g3, g4, g5, g6⟩ => ⟨v, r, m', p', g1, g2, g3, g4, g5, hr _ _ g6⟩

def slots (as : List AV) (n : Nat) : List AV := as ++ List.replicate (n - as.length) .any

theorem Spec.of_run {P : Program} {f : FuncId} {fn : Func} {c : Code} {as : List AV} {m0 : Mem} {R : AV → Mem → Prop} (hf : FnOk P f fn c)
    (h : ∀ X : Ctx, X.P = P → KRun X f m0.length R [.code c] (slots as fn.ntmps) m0) : Spec P f as m0 R := by
  intro X p vs hX hm ha cs
  subst hX
  let b : Frame := { (default : Frame) with fn := f, kind := .normal }
  have henter : Frame.enter X.P f vs.toArray .normal = b.at { tmps := vs.toArray ++ Array.replicate (fn.ntmps - vs.toArray.size) undef, defers := [] } [.code c] := by
    simp [Frame.enter, Frame.at, hf.func, hf.body, b]
  have hrel : Rel X p (slots as fn.ntmps) m0 { tmps := vs.toArray ++ Array.replicate (fn.ntmps - vs.toArray.size) undef, defers := [] } X.w0 := by
    refine ⟨rfl, ⟨by simp [slots, ha.1], fun j v u h1 h2 => ?_⟩, hm⟩
    unfold slots at h1
    rcases Nat.lt_or_ge j as.length with hlt | hge
    · rw [List.getElem?_append_left hlt] at h1
      rw [Array.getElem?_append_left (by simpa [ha.1] using hlt)] at h2
      exact ha.2 j v u h1 (by simpa using h2)
    · rw [List.getElem?_append_right hge] at h1
      have := List.mem_of_getElem? h1
      rw [List.eq_of_mem_replicate this]
      exact .any _
  obtain ⟨fr, w', v, r, m', p', h1, h2, h3, h4, h5, h6, h7, h8⟩ := h X rfl (Nat.le_refl _) p _ X.w0 hrel b cs rfl rfl
  rw [← henter] at h1
  exact ⟨.returned v, w', fr, ⟨v, r, m', p', rfl, h4, h5, h7, h6, h8⟩, h1, h2, h3⟩

/-! What tells its value -/

def AC.exact : AC → Bool
  | .u8 _ | .u16 _ | .u32 _ | .u64 _ | .i64 _ | .i32 _ | .b _ | .s _ | .f _ | .np | .ns | .nf => true
  | _ => false

theorem VR.det {X Y : Ctx} {N M : Nat} {p q : Pl} {c : AC} {v u : Value} (h : VR X N p c v) (k : VR Y M q c u) (hc : c.exact = true) : v = u := by
  cases h <;> cases k <;> first | rfl | (cases hc; done) | skip
  rename_i x s h s' h'
  have : s = s' := by
    have e : s.data.toList.map UInt8.toBitVec = s'.data.toList.map UInt8.toBitVec := h.trans h'.symm
    have e2 : s.data.toList = s'.data.toList := List.map_inj_right (fun x y => UInt8.toBitVec_inj.1) |>.1 e
    have e3 : s.data = s'.data := by
      cases hs : s.data; cases hs' : s'.data; rw [hs, hs'] at e2; simpa using e2
    cases s; cases s'; exact congrArg _ e3
  rw [this]

theorem VR.exact_any {X : Ctx} {N : Nat} {p : Pl} {c : AC} {v : Value} (h : VR X N p c v) (hc : c.exact = true) (Y : Ctx) (M : Nat) (q : Pl) : VR Y M q c v := by
  cases h with
  | u8 x => exact .u8 x
  | u16 x => exact .u16 x
  | u32 x => exact .u32 x
  | u64 x => exact .u64 x
  | i64 n => exact .i64 n
  | i32 n => exact .i32 n
  | b x => exact .b x
  | s x s h => exact .s x s h
  | f n => exact .f n
  | np => exact .np
  | ns => exact .ns
  | nf => exact .nf
  | any => cases hc
  | ptr => cases hc
  | sv => cases hc
  | svn => cases hc
  | gs => cases hc
  | gsn => cases hc
  | xp => cases hc
  | xs => cases hc
  | xsn => cases hc
  | xs0 => cases hc
  | fn => cases hc

def ExactL (cs : List AC) : Prop := ∀ c, c ∈ cs → c.exact = true

def AV.exact1 : AV → Prop
  | .one c => c.exact = true
  | .agg cs => ExactL cs
  | _ => False

def AV.exact : AV → Prop
  | .one c => c.exact = true
  | .agg cs => ExactL cs
  | .tup vs => ∀ v, v ∈ vs → v.exact1
  | .any => False

theorem VL.det {X Y : Ctx} {N M : Nat} {p q : Pl} {cs : List AC} {l l' : List Value} (h : VL X N p cs l) (k : VL Y M q cs l') (hc : ExactL cs) : l = l' := by
  apply List.ext_getElem? fun j => ?_
  rcases Nat.lt_or_ge j cs.length with hj | hj
  · have h1 : cs[j]? = some cs[j] := List.getElem?_eq_getElem hj
    have h2 : l[j]? = some (l[j]'(by rw [← h.1]; exact hj)) := List.getElem?_eq_getElem _
    have h3 : l'[j]? = some (l'[j]'(by rw [← k.1]; exact hj)) := List.getElem?_eq_getElem _
    rw [h2, h3]
    exact congrArg some (VR.det (h.2 _ _ _ h1 h2) (k.2 _ _ _ h1 h3) (hc _ (List.mem_of_getElem? h1)))
  · rw [List.getElem?_eq_none (by rw [← h.1]; exact hj), List.getElem?_eq_none (by rw [← k.1]; exact hj)]

theorem VL.exact_any {X : Ctx} {N : Nat} {p : Pl} {cs : List AC} {l : List Value} (h : VL X N p cs l) (hc : ExactL cs) (Y : Ctx) (M : Nat) (q : Pl) : VL Y M q cs l :=
  ⟨h.1, fun j c u h1 h2 => (h.2 j c u h1 h2).exact_any (hc c (List.mem_of_getElem? h1)) Y M q⟩

theorem VA.det1 {X Y : Ctx} {N M : Nat} {p q : Pl} {r : AV} {v u : Value} (h : VA X N p r v) (k : VA Y M q r u) (hc : r.exact1) : v = u := by
  cases h with
  | any => exact hc.elim
  | one c v h => cases k with | one _ _ k => exact h.det k hc
  | agg cs l h => cases k with | agg _ _ k => rw [h.det k hc]
  | tup => exact hc.elim

theorem VA.exact_any1 {X : Ctx} {N : Nat} {p : Pl} {r : AV} {v : Value} (h : VA X N p r v) (hc : r.exact1) (Y : Ctx) (M : Nat) (q : Pl) : VA Y M q r v := by
  cases h with
  | any => exact hc.elim
  | one c v h => exact .one _ _ (h.exact_any hc Y M q)
  | agg cs l h => exact .agg _ _ (h.exact_any hc Y M q)
  | tup => exact hc.elim

theorem VA.det {X Y : Ctx} {N M : Nat} {p q : Pl} {r : AV} {v u : Value} (h : VA X N p r v) (k : VA Y M q r u) (hc : r.exact) : v = u := by
  cases h with
  | any => exact hc.elim
  | one c v h => cases k with | one _ _ k => exact h.det k hc
  | agg cs l h => cases k with | agg _ _ k => rw [h.det k hc]
  | tup vs l hl h =>
    cases k with
    | tup _ l' hl' k =>
      have : l = l' := by
        apply List.ext_getElem? fun j => ?_
        rcases Nat.lt_or_ge j vs.length with hj | hj
        · have h1 : vs[j]? = some vs[j] := List.getElem?_eq_getElem hj
          have h2 := (h j _ h1).det1 (k j _ h1) (hc _ (List.mem_of_getElem? h1))
          rw [List.getElem?_eq_getElem (by rw [← hl]; exact hj), List.getElem?_eq_getElem (by rw [← hl']; exact hj)]
          have e1 : l.getD j undef = l[j]'(by rw [← hl]; exact hj) := by simp [List.getD_eq_getElem?_getD, List.getElem?_eq_getElem (show j < l.length by rw [← hl]; exact hj)]
          have e2 : l'.getD j undef = l'[j]'(by rw [← hl']; exact hj) := by simp [List.getD_eq_getElem?_getD, List.getElem?_eq_getElem (show j < l'.length by rw [← hl']; exact hj)]
          rw [e1, e2] at h2
          rw [h2]
        · rw [List.getElem?_eq_none (by rw [← hl]; exact hj), List.getElem?_eq_none (by rw [← hl']; exact hj)]
      rw [this]

theorem VA.exact_any {X : Ctx} {N : Nat} {p : Pl} {r : AV} {v : Value} (h : VA X N p r v) (hc : r.exact) (Y : Ctx) (M : Nat) (q : Pl) : VA Y M q r v := by
  cases h with
  | any => exact hc.elim
  | one c v h => exact .one _ _ (h.exact_any hc Y M q)
  | agg cs l h => exact .agg _ _ (h.exact_any hc Y M q)
  | tup vs l hl h => exact .tup _ _ hl fun j c hj => (h j c hj).exact_any1 (hc _ (List.mem_of_getElem? hj)) Y M q
end DH
