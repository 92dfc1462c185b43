/- The layer: calls, contracts, walks of whole functions by evaluation. -/
import Derived.Test.YtdnggeocdocomaaC6
set_option linter.unusedVariables false
set_option linter.unusedSimpArgs false
namespace DH
open Go

/-! Calls that are evaluated in place. -/

def exactL : List AC → Bool
  | [] => true
  | c :: l => c.exact && exactL l

def exact1B : AV → Bool
  | .one c => c.exact
  | .agg cs => exactL cs
  | _ => false

def exactVs : List AV → Bool
  | [] => true
  | v :: l => exact1B v && exactVs l

def exactB : AV → Bool
  | .one c => c.exact
  | .agg cs => exactL cs
  | .tup vs => exactVs vs
  | .any => false

theorem exactL_ok : ∀ {l : List AC}, exactL l = true → ExactL l
  | [], _ => fun c h => by cases h
  | a :: l, h => by
    simp only [exactL, Bool.and_eq_true] at h
    intro c hc
    rcases List.mem_cons.1 hc with rfl | hc
    · exact h.1
    · exact exactL_ok h.2 c hc

theorem exact1B_ok {v : AV} (h : exact1B v = true) : v.exact1 := by
  cases v with
  | one c => exact h
  | agg cs => exact exactL_ok h
  | any => cases h
  | tup vs => cases h

theorem exactVs_ok : ∀ {l : List AV}, exactVs l = true → ∀ v, v ∈ l → v.exact1
  | [], _ => fun v h => by cases h
  | a :: l, h => by
    simp only [exactVs, Bool.and_eq_true] at h
    intro v hv
    rcases List.mem_cons.1 hv with rfl | hv
    · exact exact1B_ok h.1
    · exact exactVs_ok h.2 v hv

theorem exactB_ok {v : AV} (h : exactB v = true) : v.exact := by
  cases v with
  | one c => exact h
  | agg cs => exact exactL_ok h
  | any => cases h
  | tup vs => exact exactVs_ok h

abbrev Inl := FuncId → Option (Func × List (Nat × Nat))
def InlOk (P : Program) (F : Inl) : Prop := ∀ f fn hs, F f = some (fn, hs) → FnOk P f fn (bodyOf fn)

theorem Spec.evalM {P : Program} {E : Env} (hE : EnvOk P E) (hC : CallOk P E) (hm : P.follows .mixedOrders = true) {f : FuncId} {fn : Func} {c : Code} (hf : FnOk P f fn c) {hs : List (Nat × Nat)} {n : Nat} {as : List AV} {m0 : Mem} {cs : List Prop} {r : AV} {m' : Mem}
    (h : evalFn E hs n fn.results.toList [.code c] (slots as fn.ntmps) m0 [] = some (cs, r, m')) (hc : AllC cs) : Spec P f as m0 (fun r' m1 => r' = r ∧ m1 = m') :=
  Spec.eval hE hC hm hf h hc ⟨rfl, rfl⟩

/-- functions evaluated in place that only compute -/
noncomputable def inlE (E : Env) (F : Inl) : Nat → Env
  | 0 => E
  | n + 1 => { E with call := fun f xs => match F f with
      | some (fn, hs) => (match evalFn (inlE E F n) hs 1000 fn.results.toList [.code (bodyOf fn)] (slots xs fn.ntmps) [] [] with
        | some (cs, r, _) => (match exactB r with | true => some (cs, r) | false => none)
        | none => none)
      | none => E.call f xs }

theorem inlE_ty (E : Env) (F : Inl) : ∀ n, (inlE E F n).ty = E.ty
  | 0 => rfl
  | _ + 1 => rfl
theorem inlE_memf (E : Env) (F : Inl) : ∀ n, (inlE E F n).memf = E.memf ∧ (inlE E F n).callM = E.callM
  | 0 => ⟨rfl, rfl⟩
  | _ + 1 => ⟨rfl, rfl⟩

theorem inlE_envOk {P : Program} {E : Env} (hE : EnvOk P E) (F : Inl) (n : Nat) : EnvOk P (inlE E F n) := by
  unfold EnvOk
  rw [inlE_ty]
  exact hE

theorem inlE_ok {P : Program} {E : Env} (hE : EnvOk P E) (hC : CallOk P E) (hm : P.follows .mixedOrders = true) {F : Inl} (hF : InlOk P F) : ∀ n, CallOk P (inlE E F n)
  | 0 => hC
  | n + 1 => by
    refine ⟨fun f as cs r h hc => ?_, fun f mf as m0 cs r m1 h1 h2 hc => hC.m f mf as m0 cs r m1 h1 h2 hc⟩
    unfold inlE at h
    dsimp only at h
    split at h
    · rename_i fn hs hf
      split at h
      · rename_i cs1 r1 m1 hev
        split at h
        · rename_i hx
          simp only [Option.some.injEq, Prod.mk.injEq] at h
          obtain ⟨rfl, rfl⟩ := h
          have hfn := hF f fn hs hf
          exact ⟨⟨_, _, hfn⟩, (Spec.evalM (inlE_envOk hE F n) (inlE_ok hE hC hm hF n) hm hfn hev hc).mono fun _ _ h => h.1, exactB_ok hx⟩
        · cases h
      · cases h
    · exact hC.q f as cs r h hc

/-- runs on numbers that are known: every function in place, with its memory -/
noncomputable def litE (E : Env) (F : Inl) : Nat → Env
  | 0 => { E with lit := true }
  | n + 1 => { E with
      lit := true
      call := fun f xs => match F f with
        | some (fn, hs) => (match evalFn (litE E F n) hs 100000 fn.results.toList [.code (bodyOf fn)] (slots xs fn.ntmps) [] [] with
          | some (cs, r, _) => (match exactB r with | true => some (cs, r) | false => none)
          | none => none)
        | none => E.call f xs
      memf := fun f => match F f with | some _ => some { cs := { kinds := [], fl := [] }, flo := [] } | none => E.memf f
      callM := fun f xs m0 => match F f with
        | some (fn, hs) => evalFn (litE E F n) hs 100000 fn.results.toList [.code (bodyOf fn)] (slots xs fn.ntmps) m0 []
        | none => E.callM f xs m0 }

theorem litE_ty (E : Env) (F : Inl) : ∀ n, (litE E F n).ty = E.ty
  | 0 => rfl
  | _ + 1 => rfl

theorem litE_envOk {P : Program} {E : Env} (hE : EnvOk P E) (F : Inl) (n : Nat) : EnvOk P (litE E F n) := by
  unfold EnvOk
  rw [litE_ty]
  exact hE

theorem litE_ok {P : Program} {E : Env} (hE : EnvOk P E) (hC : CallOk P E) (hm : P.follows .mixedOrders = true) {F : Inl} (hF : InlOk P F) : ∀ n, CallOk P (litE E F n)
  | 0 => ⟨hC.q, hC.m⟩
  | n + 1 => by
    refine ⟨fun f as cs r h hc => ?_, fun f mf as m0 cs r m1 h1 h2 hc => ?_⟩
    · unfold litE at h
      dsimp only at h
      split at h
      · rename_i fn hs hf
        split at h
        · rename_i cs1 r1 m1 hev
          split at h
          · rename_i hx
            simp only [Option.some.injEq, Prod.mk.injEq] at h
            obtain ⟨rfl, rfl⟩ := h
            have hfn := hF f fn hs hf
            exact ⟨⟨_, _, hfn⟩, (Spec.evalM (litE_envOk hE F n) (litE_ok hE hC hm hF n) hm hfn hev hc).mono fun _ _ h => h.1, exactB_ok hx⟩
          · cases h
        · cases h
      · exact hC.q f as cs r h hc
    · unfold litE at h1 h2
      dsimp only at h1 h2
      split at h2
      · rename_i fn hs hf
        have hfn := hF f fn hs hf
        exact ⟨⟨_, _, hfn⟩, Spec.evalM (litE_envOk hE F n) (litE_ok hE hC hm hF n) hm hfn h2 hc⟩
      · rename_i hf
        rw [hf] at h1
        exact hC.m f mf as m0 cs r m1 h1 h2 hc

def saysTrue : Option (List Prop × AV × Mem) → Bool
  | some ([], .one (.b true), _) => true
  | _ => false

/-- a run on numbers that are known answers true -/
theorem Spec.lit {P : Program} {E : Env} (hE : EnvOk P E) (hC : CallOk P E) (hm : P.follows .mixedOrders = true) {f : FuncId} {fn : Func} {c : Code} (hf : FnOk P f fn c) {hs : List (Nat × Nat)} {n : Nat} {xs : List AV} {m0 : Mem}
    (h : saysTrue (evalFn E hs n fn.results.toList [.code c] (slots xs fn.ntmps) m0 []) = true) : Spec P f xs m0 (fun r _ => r = .one (.b true)) := by
  unfold saysTrue at h
  split at h
  · rename_i m1 h1
    exact (Spec.evalM hE hC hm hf h1 trivial).mono fun _ _ h => h.1
  · cases h

theorem InlOk.none {P : Program} : InlOk P (fun _ => .none) := fun f fn hs h => by cases h

end DH
