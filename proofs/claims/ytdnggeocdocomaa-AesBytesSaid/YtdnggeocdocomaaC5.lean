/- The layer: calls, contracts, walks of whole functions by evaluation. -/
import Derived.Test.YtdnggeocdocomaaC4
set_option linter.unusedVariables false
set_option linter.unusedSimpArgs false
namespace DH
open Go

/-! The walk: a step of the list of what is left to do, as far as it can be reckoned. -/

/-- how many operations of a region that draws its order come first, in order; the rest has but one order -/
def headOf (hs : List (Nat × Nat)) (id : Nat) : Option Nat :=
  match hs with
  | [] => none
  | (i, n) :: hs => if Nat.beq i id then some n else headOf hs id

noncomputable def runDraw (E : Env) (hs : List (Nat × Nat)) (id : Nat) (ops : List Oper) (t : List AV) (m : Mem) (cs : List Prop) : Option (List Prop × List AV × Mem) :=
  match headOf hs id with
  | some n =>
    (match Region.lexTailB .any ops.toArray n with
    | true => (match runHead E ops m n (ops.take n) t cs with
      | some (cs', [], t') => (match runOps E ops (lenF ops) (ops.drop n) t' m cs' with
        | some (cs'', [], t'', m') => some (cs'', t'', m')
        | _ => none)
      | _ => none)
    | false => none)
  | none =>
    (match Region.lexB .any ops.toArray with
    | true => (match runHead E ops m (lenF ops) ops t cs with
      | some (cs', [], t') => some (cs', t', m)
      | _ => none)
    | false => none)

noncomputable def run (E : Env) (hs : List (Nat × Nat)) (u : Bool) : Nat → List Item → List AV → Mem → List Prop → Option (List Prop × List Item × List AV × Mem)
  | 0, k, t, m, cs => some (cs, k, t, m)
  | n + 1, k, t, m, cs =>
    match k with
    | [] => some (cs, [], t, m)
    | .inBlock _ :: k => run E hs u n k t m cs
    | .inLoop b :: k => (match u with
      | true => run E hs u n (.code b :: .inLoop b :: k) t m cs
      | false => some (cs, .inLoop b :: k, t, m))
    | .code c :: k =>
      (match c with
      | .ret => some (cs, .code .ret :: k, t, m)
      | .skip => run E hs u n k t m cs
      | .seq x y => run E hs u n (.code x :: .code y :: k) t m cs
      | .block id x => run E hs u n (.code x :: .inBlock id :: k) t m cs
      | .loop x => (match u with
        | true => run E hs u n (.code x :: .inLoop x :: k) t m cs
        | false => some (cs, .code (.loop x) :: k, t, m))
      | .exit id => (match exitTo id k with
        | some k' => run E hs u n k' t m cs
        | none => none)
      | .cond x a b => (match getO t x with
        | .one (.b bv) => (match bv with
          | true => run E hs u n (.code a :: k) t m cs
          | false => run E hs u n (.code b :: k) t m cs)
        | _ => none)
      | .region id ops dr => (match dr with
        | false => (match runOps E ops.toList (lenF ops.toList) ops.toList t m cs with
          | some (cs', [], t', m') => run E hs u n k t' m' cs'
          | _ => none)
        | true => (match runDraw E hs id ops.toList t m cs with
          | some (cs', t', m') => run E hs u n k t' m' cs'
          | none => none))
      | _ => none)
    | _ => none

section
variable {X : Ctx} {f n0 : Nat} {Q : AV → Mem → Prop}

theorem runHead_cs {E : Env} {all : List Oper} {m : Mem} : ∀ {n : Nat} {l : List Oper} {t : List AV} {cs cs' : List Prop} {l' : List Oper} {t' : List AV},
    runHead E all m n l t cs = some (cs', l', t') → AllC cs' → AllC cs
  | 0, l, t, cs, cs', l', t', h, hc => by
    simp only [runHead, Option.some.injEq, Prod.mk.injEq] at h
    obtain ⟨rfl, rfl, rfl⟩ := h
    exact hc
  | n + 1, [], t, cs, cs', l', t', h, hc => by
    simp only [runHead, Option.some.injEq, Prod.mk.injEq] at h
    obtain ⟨rfl, rfl, rfl⟩ := h
    exact hc
  | n + 1, o :: l, t, cs, cs', l', t', h, hc => by
    unfold runHead at h
    split at h
    · split at h
      · split at h
        rw [putF_eq, appF_eq, appF_eq] at h
        exact (AllC_append (AllC_append (runHead_cs h hc)).2).2
      · cases h
    · rw [putF_eq] at h
      exact runHead_cs h hc
    · cases h

theorem runDraw_ok {E : Env} (hE : EnvOk X.P E) (hC : CallOk X.P E) (hm : X.P.follows .mixedOrders = true) {hs : List (Nat × Nat)} {id : Nat} {ops : Array Oper} {k : List Item} {t t' : List AV} {m m' : Mem} {cs cs' : List Prop}
    (h : runDraw E hs id ops.toList t m cs = some (cs', t', m')) (hc : AllC cs') : AllC cs ∧ (KRun X f n0 Q k t' m' → KRun X f n0 Q (.code (.region id ops true) :: k) t m) := by
  have hops : ops.toList.toArray = ops := Array.toArray_toList
  unfold runDraw at h
  split at h
  · rename_i n _
    split at h
    · rename_i hB
      split at h
      · rename_i cs1 t1 h1
        split at h
        · rename_i cs2 t2 m2 h2
          simp only [Option.some.injEq, Prod.mk.injEq] at h
          obtain ⟨rfl, rfl, rfl⟩ := h
          have g2 := runOps_ok (K := KRun X f n0 Q k) hE hC h2 hc
          refine ⟨?_, fun hk => ?_⟩
          · exact runHead_cs h1 g2.1
          · rw [← hops]
            refine KRun.drawTail n hm hB fun p wb hb => ?_
            exact (runHead_ok hE hC hb h1 g2.1).2 (QRun.nil (g2.2 (LRun.nil hk)))
        · cases h
      · cases h
    · cases h
  · split at h
    · rename_i hB
      split at h
      · rename_i cs1 t1 h1
        simp only [Option.some.injEq, Prod.mk.injEq] at h
        obtain ⟨rfl, rfl, rfl⟩ := h
        refine ⟨runHead_cs h1 hc, fun hk => ?_⟩
        rw [← hops]
        exact KRun.drawAll hm hB fun p wb hb => (runHead_ok hE hC hb h1 hc).2 (QRun.nil hk)
      · cases h
    · cases h

theorem run_ok {E : Env} (hE : EnvOk X.P E) (hC : CallOk X.P E) (hm : X.P.follows .mixedOrders = true) {hs : List (Nat × Nat)} {u : Bool} : ∀ {n : Nat} {k : List Item} {t : List AV} {m : Mem} {cs cs' : List Prop} {k' : List Item} {t' : List AV} {m' : Mem},
    run E hs u n k t m cs = some (cs', k', t', m') → AllC cs' → AllC cs ∧ (KRun X f n0 Q k' t' m' → KRun X f n0 Q k t m)
  | 0, k, t, m, cs, cs', k', t', m', h, hc => by
    simp only [run, Option.some.injEq, Prod.mk.injEq] at h
    obtain ⟨rfl, rfl, rfl, rfl⟩ := h
    exact ⟨hc, id⟩
  | n + 1, k, t, m, cs, cs', k', t', m', h, hc => by
    unfold run at h
    split at h
    · simp only [Option.some.injEq, Prod.mk.injEq] at h
      obtain ⟨rfl, rfl, rfl, rfl⟩ := h
      exact ⟨hc, id⟩
    · obtain ⟨h1, h2⟩ := run_ok hE hC hm h hc
      exact ⟨h1, fun hk => KRun.inBlock (h2 hk)⟩
    · split at h
      · obtain ⟨h1, h2⟩ := run_ok hE hC hm h hc
        exact ⟨h1, fun hk => KRun.inLoop (h2 hk)⟩
      · simp only [Option.some.injEq, Prod.mk.injEq] at h
        obtain ⟨rfl, rfl, rfl, rfl⟩ := h
        exact ⟨hc, id⟩
    · rename_i c k
      split at h
      · simp only [Option.some.injEq, Prod.mk.injEq] at h
        obtain ⟨rfl, rfl, rfl, rfl⟩ := h
        exact ⟨hc, id⟩
      · obtain ⟨h1, h2⟩ := run_ok hE hC hm h hc
        exact ⟨h1, fun hk => KRun.skip (h2 hk)⟩
      · obtain ⟨h1, h2⟩ := run_ok hE hC hm h hc
        exact ⟨h1, fun hk => KRun.seq (h2 hk)⟩
      · obtain ⟨h1, h2⟩ := run_ok hE hC hm h hc
        exact ⟨h1, fun hk => KRun.block (h2 hk)⟩
      · split at h
        · obtain ⟨h1, h2⟩ := run_ok hE hC hm h hc
          exact ⟨h1, fun hk => KRun.loop1 (h2 hk)⟩
        · simp only [Option.some.injEq, Prod.mk.injEq] at h
          obtain ⟨rfl, rfl, rfl, rfl⟩ := h
          exact ⟨hc, id⟩
      · split at h
        · rename_i k1 he
          obtain ⟨h1, h2⟩ := run_ok hE hC hm h hc
          exact ⟨h1, fun hk => KRun.exit he (h2 hk)⟩
        · cases h
      · split at h
        · rename_i x a b _ bv hx
          have hcond : ∀ (p : Pl) (ac : Act) (w : World), Rel X p t m ac w → ac.eval x = .bool bv := fun p ac w hr => by
            have := getO_ok hr.slots x
            rw [hx] at this
            exact VA.bool this
          split at h
          · obtain ⟨h1, h2⟩ := run_ok hE hC hm h hc
            exact ⟨h1, fun hk => KRun.cond (bv := true) hcond (h2 hk)⟩
          · obtain ⟨h1, h2⟩ := run_ok hE hC hm h hc
            exact ⟨h1, fun hk => KRun.cond (bv := false) hcond (h2 hk)⟩
        · cases h
      · rename_i id ops dr
        split at h
        · split at h
          · rename_i cs1 t1 m1 h1
            obtain ⟨h2, h3⟩ := run_ok hE hC hm h hc
            have g := runOps_ok (K := KRun X f n0 Q k) hE hC h1 h2
            refine ⟨g.1, fun hk => KRun.region ?_⟩
            have := g.2 (LRun.nil (h3 hk))
            rwa [Array.toArray_toList] at this
          · cases h
        · split at h
          · rename_i cs1 t1 m1 h1
            obtain ⟨h2, h3⟩ := run_ok hE hC hm h hc
            have g := runDraw_ok hE hC hm h1 h2 (f := f) (n0 := n0) (Q := Q) (k := k)
            exact ⟨g.1, fun hk => g.2 (h3 hk)⟩
          · cases h
      · cases h
    · cases h

/-! The whole function -/

noncomputable def evalFn (E : Env) (hs : List (Nat × Nat)) (n : Nat) (rs : List ResultVar) (k : List Item) (t : List AV) (m : Mem) (cs : List Prop) : Option (List Prop × AV × Mem) :=
  match run E hs true n k t m cs with
  | some (cs1, [], t', m') => (match evResL E t' m' rs with | some (c2, vs) => some (c2 ++ cs1, pack vs, m') | none => none)
  | some (cs1, .code .ret :: _, t', m') => (match evResL E t' m' rs with | some (c2, vs) => some (c2 ++ cs1, pack vs, m') | none => none)
  | _ => none

theorem evalFn_ok {E : Env} (hE : EnvOk X.P E) (hC : CallOk X.P E) (hm : X.P.follows .mixedOrders = true) {fn : Func} {c : Code} (hf : FnOk X.P f fn c) {hs : List (Nat × Nat)} {n : Nat} {k : List Item} {t : List AV} {m : Mem} {cs cs' : List Prop} {r : AV} {m' : Mem}
    (h : evalFn E hs n fn.results.toList k t m cs = some (cs', r, m')) (hc : AllC cs') : AllC cs ∧ (Q r m' → KRun X f n0 Q k t m) := by
  unfold evalFn at h
  split at h
  · rename_i cs1 t1 m1 h1
    split at h
    · rename_i c2 vs h2
      simp only [Option.some.injEq, Prod.mk.injEq] at h
      obtain ⟨rfl, rfl, rfl⟩ := h
      obtain ⟨g1, g2⟩ := AllC_append hc
      obtain ⟨g3, g4⟩ := run_ok (f := f) (n0 := n0) (Q := Q) hE hC hm h1 g2
      exact ⟨g3, fun hq => g4 (KRun.nil (evResL_resOK hE hf h2 g1) hq)⟩
    · cases h
  · rename_i cs1 k1 t1 m1 h1
    split at h
    · rename_i c2 vs h2
      simp only [Option.some.injEq, Prod.mk.injEq] at h
      obtain ⟨rfl, rfl, rfl⟩ := h
      obtain ⟨g1, g2⟩ := AllC_append hc
      obtain ⟨g3, g4⟩ := run_ok (f := f) (n0 := n0) (Q := Q) hE hC hm h1 g2
      exact ⟨g3, fun hq => g4 (KRun.ret (evResL_resOK hE hf h2 g1) hq)⟩
    · cases h
  · cases h

/-! Up to the next loop, and only what lives on -/

def memB (n : Nat) : List Nat → Bool
  | [] => false
  | k :: l => if Nat.beq n k then true else memB n l

def keepF (live : List Nat) : List AV → Nat → List AV
  | [], _ => []
  | v :: l, n => (if memB n live then v else .any) :: keepF live l (n + 1)

theorem keepF_get {live : List Nat} : ∀ {l : List AV} {n j : Nat} {v : AV}, (keepF live l n)[j]? = some v → v = .any ∨ l[j]? = some v
  | [], n, j, v, h => by simp [keepF] at h
  | x :: l, n, j, v, h => by
    cases j with
    | zero =>
      simp only [keepF, List.getElem?_cons_zero, Option.some.injEq] at h
      split at h
      · exact .inr (by simp [h])
      · exact .inl h.symm
    | succ j => simpa using keepF_get (l := l) (n := n + 1) (by simpa [keepF] using h)

theorem keepF_length {live : List Nat} : ∀ (l : List AV) (n : Nat), (keepF live l n).length = l.length
  | [], _ => rfl
  | x :: l, n => by simp [keepF, keepF_length l]

theorem KRun.keep {k : List Item} {t : List AV} {m : Mem} (live : List Nat) (h : KRun X f n0 Q k (keepF live t 0) m) : KRun X f n0 Q k t m := by
  intro hn p a w hr
  refine h hn p a w ⟨hr.defers, ⟨by rw [keepF_length]; exact hr.slots.1, fun j v u h1 h2 => ?_⟩, hr.mem⟩
  rcases keepF_get h1 with rfl | h3
  · exact .any _
  · exact hr.slots.2 j v u h3 h2

noncomputable def runK (E : Env) (hs : List (Nat × Nat)) (live : List Nat) (n : Nat) (k : List Item) (t : List AV) (m : Mem) : Option (List Prop × List Item × List AV × Mem) :=
  match run E hs false n k t m [] with
  | some (cs, k', t', m') => some (cs, k', keepF live t' 0, m')
  | none => none

theorem KRun.path {E : Env} (hE : EnvOk X.P E) (hC : CallOk X.P E) (hm : X.P.follows .mixedOrders = true) {hs : List (Nat × Nat)} {live : List Nat} {n : Nat} {k k' : List Item} {t t' : List AV} {m m' : Mem} {cs : List Prop}
    (h : runK E hs live n k t m = some (cs, k', t', m')) (hc : AllC cs) (hk : KRun X f n0 Q k' t' m') : KRun X f n0 Q k t m := by
  unfold runK at h
  split at h
  · rename_i cs1 k1 t1 m1 h1
    simp only [Option.some.injEq, Prod.mk.injEq] at h
    obtain ⟨rfl, rfl, rfl, rfl⟩ := h
    exact (run_ok hE hC hm h1 hc).2 (KRun.keep live hk)
  · cases h

theorem KRun.mono {Q' : AV → Mem → Prop} {k : List Item} {t : List AV} {m : Mem} (h : KRun X f n0 Q k t m) (hq : ∀ r m, Q r m → Q' r m) : KRun X f n0 Q' k t m := by
  intro hn p a w hr b cs hb hk
  obtain ⟨fr, w', v, r, m', p', h1, h2, h3, h4, h5, h6, h7, h8⟩ := h hn p a w hr b cs hb hk
  exact ⟨fr, w', v, r, m', p', h1, h2, h3, h4, h5, h6, h7, hq _ _ h8⟩

/-- slots, by number -/
def lookS : List (Nat × AV) → Nat → AV
  | [], _ => .any
  | (k, v) :: l, n => if Nat.beq k n then v else lookS l n

def mkF (l : List (Nat × AV)) : Nat → Nat → List AV
  | 0, _ => []
  | n + 1, i => lookS l i :: mkF l n (i + 1)

def mkS (n : Nat) (l : List (Nat × AV)) : List AV := mkF l n 0
end

theorem Spec.eval {P : Program} {E : Env} (hE : EnvOk P E) (hC : CallOk P E) (hm : P.follows .mixedOrders = true) {f : FuncId} {fn : Func} {c : Code} (hf : FnOk P f fn c) {hs : List (Nat × Nat)} {n : Nat} {as : List AV} {m0 : Mem} {cs : List Prop} {r : AV} {m' : Mem} {R : AV → Mem → Prop}
    (h : evalFn E hs n fn.results.toList [.code c] (slots as fn.ntmps) m0 [] = some (cs, r, m')) (hc : AllC cs) (hR : R r m') : Spec P f as m0 R :=
  Spec.of_run hf fun X hX => by subst hX; exact (evalFn_ok hE hC hm hf h hc).2 hR
def bodyOf (f : Func) : Code := match f.body with | some c => c | none => .skip

theorem FnOk.of {P : Program} {f : FuncId} {fn : Func} (h : P.funcs[f]? = some fn) (hb : fn.body.isSome = true) (hn : (fn.name == "runtime.NumGoroutine") = false) : FnOk P f fn (bodyOf fn) := by
  refine ⟨h, ?_, hn⟩
  unfold bodyOf
  cases hc : fn.body with
  | none => rw [hc] at hb; cases hb
  | some c => rfl

theorem CallOk.none {P : Program} {E : Env} (h : ∀ f xs, E.call f xs = none) (h2 : ∀ f, E.memf f = none) : CallOk P E :=
  ⟨(fun f xs cs r hc => by rw [h] at hc; cases hc), (fun f mf as m0 cs r m1 hm => by rw [h2] at hm; cases hm)⟩

/-- the list of what is left to do at the first loop -/
def toLoop : Nat → List Item → List Item
  | 0, k => k
  | n + 1, .code (.seq x y) :: k => toLoop n (.code x :: .code y :: k)
  | n + 1, .code (.block id x) :: k => toLoop n (.code x :: .inBlock id :: k)
  | n + 1, .code (.region _ _ _) :: k => toLoop n k
  | n + 1, .code .skip :: k => toLoop n k
  | n + 1, .inBlock _ :: k => toLoop n k
  | _ + 1, k => k

/-- inside of a loop that stands first -/
def inside : List Item → List Item
  | .code (.loop b) :: k => .code b :: .inLoop b :: k
  | .inLoop b :: k => .code b :: .inLoop b :: k
  | k => k

theorem KRun.inside {X : Ctx} {f n0 : Nat} {Q : AV → Mem → Prop} {k : List Item} {t : List AV} {m : Mem} (h : KRun X f n0 Q (inside k) t m) : KRun X f n0 Q k t m := by
  unfold DH.inside at h
  split at h
  · exact KRun.loop1 h
  · exact KRun.inLoop h
  · exact h
end DH
