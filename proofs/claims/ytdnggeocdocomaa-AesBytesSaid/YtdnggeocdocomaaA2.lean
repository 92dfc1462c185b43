/- The layer: abstract values, operations on them, and that the machine follows. -/
import Derived.Test.YtdnggeocdocomaaA1
set_option linter.unusedVariables false
set_option linter.unusedSimpArgs false
namespace DH
open Go

/-- The rest of a call, from an abstract state on: it returns, and what it returns is as Q says. -/
def KRun (X : Ctx) (f : FuncId) (n0 : Nat) (Q : AV → Mem → Prop) (todo : List Item) (t : List AV) (m : Mem) : Prop :=
  n0 ≤ m.length → ∀ (p : Pl) (a : Act) (w : World), Rel X p t m a w → ∀ (b : Frame) (cs : List Frame), b.fn = f → b.kind = .normal →
    ∃ fr w' v r m' p', Steps X.P (lone (b.at a todo) cs w) (lone fr cs w') ∧ fr.fn = f ∧ fr.leaving X.P w' (.returned v) ∧ Ext n0 p p' ∧ n0 ≤ m'.length ∧
      MR X p' m' w' ∧ VA X m'.length p' r v ∧ Q r m'

/-- what holds behind operations -/
def LPost (X : Ctx) (N : Nat) (p : Pl) (K : List AV → Mem → Prop) : Exit → Act → World → Prop := fun e a' w' =>
  e = .normal ∧ ∃ p' t' m', Ext N p p' ∧ N ≤ m'.length ∧ Rel X p' t' m' a' w' ∧ K t' m'

theorem LPost.weaken {X : Ctx} {N N' : Nat} {p p' : Pl} {K : List AV → Mem → Prop} (h1 : N ≤ N') (h2 : Ext N p p') {e : Exit} {a : Act} {w : World} (h : LPost X N' p' K e a w) : LPost X N p K e a w := by
  obtain ⟨h, p2, t2, m2, g1, g2, g3, g4⟩ := h
  exact ⟨h, p2, t2, m2, h2.trans g1 h1, Nat.le_trans h1 g2, g3, g4⟩

/-- Operations in a row, then K. -/
def LRun (X : Ctx) (all : Array Oper) (l : List Oper) (t : List AV) (m : Mem) (K : List AV → Mem → Prop) : Prop :=
  ∀ (p : Pl) (a : Act) (w : World), Rel X p t m a w → wpList X.P all (LPost X m.length p K) l a w

section
variable {X : Ctx} {f n0 : Nat} {Q : AV → Mem → Prop} {k : List Item} {t : List AV} {m : Mem}

theorem KRun.of_step {todo todo' : List Item} (hs : ∀ (b : Frame) (a : Act) (cs : List Frame) (w : World), step X.P (lone (b.at a todo) cs w) = .next (lone (b.at a todo') cs w))
    (h : KRun X f n0 Q todo' t m) : KRun X f n0 Q todo t m := by
  intro hn p a w hr b cs hb hk
  obtain ⟨fr, w', v, r, m', p', h1, h2⟩ := h hn p a w hr b cs hb hk
  exact ⟨fr, w', v, r, m', p', .head (hs b a cs w) h1, h2⟩

theorem KRun.skip (h : KRun X f n0 Q k t m) : KRun X f n0 Q (.code .skip :: k) t m := KRun.of_step (fun _ _ _ _ => step_skip) h
theorem KRun.seq {x y : Code} (h : KRun X f n0 Q (.code x :: .code y :: k) t m) : KRun X f n0 Q (.code (.seq x y) :: k) t m := KRun.of_step (fun _ _ _ _ => step_seq) h
theorem KRun.block {id : Nat} {x : Code} (h : KRun X f n0 Q (.code x :: .inBlock id :: k) t m) : KRun X f n0 Q (.code (.block id x) :: k) t m := KRun.of_step (fun _ _ _ _ => step_block) h
theorem KRun.inBlock {id : Nat} (h : KRun X f n0 Q k t m) : KRun X f n0 Q (.inBlock id :: k) t m := KRun.of_step (fun _ _ _ _ => step_inBlock) h
theorem KRun.exit {id : Nat} {k' : List Item} (he : exitTo id k = some k') (h : KRun X f n0 Q k' t m) : KRun X f n0 Q (.code (.exit id) :: k) t m := KRun.of_step (fun _ _ _ _ => step_exit he) h
theorem KRun.loop1 {x : Code} (h : KRun X f n0 Q (.code x :: .inLoop x :: k) t m) : KRun X f n0 Q (.code (.loop x) :: k) t m := KRun.of_step (fun _ _ _ _ => step_loop) h
theorem KRun.inLoop {x : Code} (h : KRun X f n0 Q (.code x :: .inLoop x :: k) t m) : KRun X f n0 Q (.inLoop x :: k) t m := KRun.of_step (fun _ _ _ _ => step_inLoop) h

theorem SR.get {N : Nat} {p : Pl} {a : Array Value} (h : SR X N p t a) (n : Nat) : VA X N p (gt .any t n) (a.getD n undef) := by
  rw [gt_eq]
  rcases Nat.lt_or_ge n t.length with hn | hn
  · have hn' : n < a.size := by rw [← h.1]; exact hn
    have h1 : t[n]? = some t[n] := List.getElem?_eq_getElem hn
    have h2 : a[n]? = some a[n] := Array.getElem?_eq_getElem hn'
    have := h.2 n _ _ h1 h2
    simpa [h1, h2, Array.getD, hn'] using this
  · rw [List.getElem?_eq_none hn]; exact .any _

theorem SR.set {N : Nat} {p : Pl} {a : Array Value} (h : SR X N p t a) (n : Nat) {v : AV} {u : Value} (hv : VA X N p v u) : SR X N p (t.set n v) (a.setIfInBounds n u) := by
  refine ⟨by simp [h.1], fun j v' u' h1 h2 => ?_⟩
  rw [List.getElem?_set] at h1
  rw [Array.getElem?_setIfInBounds] at h2
  by_cases hj : n = j
  · subst hj
    simp only [if_true] at h1 h2
    split at h1
    · split at h2
      · injection h1 with h1; injection h2 with h2; subst h1; subst h2; exact hv
      · cases h2
    · cases h1
  · simp only [hj, if_false] at h1 h2
    exact h.2 j v' u' h1 h2

/-- what is put into a slot -/
def putA (t : List AV) (d : Option Tmp) (v : AV) : List AV := match d with | some d => t.set d v | none => t

theorem SR.put {N : Nat} {p : Pl} {a : Act} (h : SR X N p t a.tmps) (d : Option Tmp) {v : AV} {u : Value} (hv : VA X N p v u) : SR X N p (putA t d v) (a.put d u).tmps := by
  cases d with
  | none => exact h
  | some d => exact h.set d hv

theorem put_defers (a : Act) (d : Option Tmp) (u : Value) : (a.put d u).defers = a.defers := by cases d <;> rfl

theorem Rel.put {p : Pl} {a : Act} {w : World} (h : Rel X p t m a w) (d : Option Tmp) {v : AV} {u : Value} (hv : VA X m.length p v u) : Rel X p (putA t d v) m (a.put d u) w :=
  ⟨by rw [put_defers]; exact h.defers, h.slots.put d hv, h.mem⟩

theorem VA.und {N : Nat} {p : Pl} : VA X N p (.tup []) undef := .tup [] [] rfl (fun j c h => by simp at h)

theorem VA.bool {N : Nat} {p : Pl} {c : Bool} {v : Value} (h : VA X N p (.one (.b c)) v) : v = .bool c := by
  cases h with
  | one _ _ h => cases h; rfl

theorem KRun.cond {c : Operand} {x y : Code} {bv : Bool} (hc : ∀ (p : Pl) (a : Act) (w : World), Rel X p t m a w → a.eval c = .bool bv)
    (h : KRun X f n0 Q (.code (if bv then x else y) :: k) t m) : KRun X f n0 Q (.code (.cond c x y) :: k) t m := by
  intro hn p a w hr b cs hb hk
  obtain ⟨fr, w', v, r, m', p', h1, h2⟩ := h hn p a w hr b cs hb hk
  exact ⟨fr, w', v, r, m', p', .head (step_cond (hc p a w hr)) h1, h2⟩

/-- results of a function, out of its slots -/
def resOK (X : Ctx) (f : FuncId) (t : List AV) (m : Mem) (r : AV) : Prop :=
  ∀ (p : Pl) (a : Act) (w : World), Rel X p t m a w → ∃ fn v, X.P.funcs[f]? = some fn ∧ (results fn a.tmps).run X.P w = .ok v w ∧ VA X m.length p r v

theorem KRun.ret {r : AV} (hr : resOK X f t m r) (hQ : Q r m) : KRun X f n0 Q (.code .ret :: k) t m := by
  intro hn p a w h b cs hb hk
  obtain ⟨fn, v, h1, h2, h3⟩ := hr p a w h
  exact ⟨_, w, v, r, m, p, .one step_ret, hb, ⟨rfl, h.defers, hk, fn, by simpa [Frame.at, hb] using h1, h2⟩, .refl _ _, hn, h.mem, h3, hQ⟩

theorem KRun.nil {r : AV} (hr : resOK X f t m r) (hQ : Q r m) : KRun X f n0 Q [] t m := by
  intro hn p a w h b cs hb hk
  obtain ⟨fn, v, h1, h2, h3⟩ := hr p a w h
  exact ⟨_, w, v, r, m, p, .one step_end, hb, ⟨rfl, h.defers, hk, fn, by simpa [Frame.at, hb] using h1, h2⟩, .refl _ _, hn, h.mem, h3, hQ⟩

/-- a piece of code whose wp is known, then the rest -/
theorem KRun.of_wp {c : Code}
    (h : ∀ (p : Pl) (a : Act) (w : World), Rel X p t m a w →
      c.wp X.P (fun e a' w' => e = .normal ∧ ∃ p' t' m', Ext m.length p p' ∧ m.length ≤ m'.length ∧ Rel X p' t' m' a' w' ∧ KRun X f n0 Q k t' m') a w) :
    KRun X f n0 Q (.code c :: k) t m := by
  intro hn p a w hr b cs hb hk
  obtain ⟨e, a', w', ⟨rfl, p', t', m', h1, h2, h3, h4⟩, harr⟩ := h p a w hr b k cs
  obtain ⟨fr, w2, v, r, m2, p2, g1, g2, g3, g4, g5⟩ := h4 (by omega) p' a' w' h3 b cs hb hk
  exact ⟨fr, w2, v, r, m2, p2, Steps.trans harr g1, g2, g3, (h1.mono hn).trans g4 (Nat.le_refl _), g5⟩

theorem KRun.region {id : Nat} {ops : Array Oper} (h : LRun X ops ops.toList t m (KRun X f n0 Q k)) : KRun X f n0 Q (.code (.region id ops false) :: k) t m :=
  KRun.of_wp fun p a w hr => wp_region_list (h p a w hr)

theorem LRun.nil {all : Array Oper} {K : List AV → Mem → Prop} (h : K t m) : LRun X all [] t m K :=
  fun p _ _ hr => wpList_nil ⟨rfl, p, t, m, .refl _ _, Nat.le_refl _, hr, h⟩

theorem Oper_wp_mono2 {P : Program} {o : Oper} {a : Act} {w : World} {K K' : Act → World → Prop} {Q Q' : Exit → Act → World → Prop} (h : ∀ a w, K a w → K' a w) (hq : ∀ e a w, Q e a w → Q' e a w)
    (hh : o.wp P a w K Q) : o.wp P a w K' Q' := by
  unfold Oper.wp at *
  generalize (execOp a.eval o).run P w = r at *
  cases r with
  | ok n w' =>
    cases n <;> simp only [Oper.upon] at hh ⊢
    case value => exact h _ _ hh
    case skip => exact h _ _ hh
    case defer => exact h _ _ hh
    case enter f args => exact Calls.mono hh (fun e w'' he => by
      cases e with
      | returned v => exact h _ _ he
      | panicked c => exact hq _ _ _ he
      | outgrown => obtain ⟨a, w, he⟩ := he; exact ⟨a, w, hq _ _ _ he⟩)
    case row => exact Rows.mono hh (fun _ _ he => h _ _ he)
  | halt x w' => cases x <;> simp only [Oper.upon] at hh ⊢ <;> exact hq _ _ _ hh

theorem wpList_mono2 {P : Program} {ops : Array Oper} {Q Q' : Exit → Act → World → Prop} (hq : ∀ e a w, Q e a w → Q' e a w) : ∀ (l : List Oper) (a : Act) (w : World), wpList P ops Q l a w → wpList P ops Q' l a w
  | [], _, _, h => hq _ _ _ h
  | o :: l, a, w, h => by
    unfold wpList at h ⊢
    split
    · rename_i hw
      rw [if_pos hw] at h
      rcases h with h | ⟨h1, a', w', h2⟩
      · exact .inl (Oper_wp_mono2 (fun a w => wpList_mono2 hq l a w) hq h)
      · exact .inr ⟨h1, a', w', hq _ _ _ h2⟩
    · rename_i hw
      rw [if_neg hw] at h
      exact wpList_mono2 hq l _ _ h

theorem wpQuiet_mono {P : Program} {ops : Array Oper} {C : World → Prop} {Q Q' : Act → Prop} (hq : ∀ a, Q a → Q' a) : ∀ (l : List Oper) (a : Act), wpQuiet P ops C Q l a → wpQuiet P ops C Q' l a
  | [], _, h => hq _ h
  | o :: l, a, h => by
    unfold wpQuiet at h ⊢
    split
    · rename_i hw; rw [if_pos hw] at h; exact Oper.quiet_mono (fun a => wpQuiet_mono hq l a) h
    · rename_i hw; rw [if_neg hw] at h; exact wpQuiet_mono hq l _ h

theorem LRun.mono {all : Array Oper} {l : List Oper} {K K' : List AV → Mem → Prop} (h : LRun X all l t m K) (hk : ∀ t m, K t m → K' t m) : LRun X all l t m K' := by
  intro p a w hr
  exact wpList_mono2 (fun e a' w' ⟨h1, p', t', m', h2, h3, h4, h5⟩ => ⟨h1, p', t', m', h2, h3, h4, hk _ _ h5⟩) _ _ _ (h p a w hr)

/-- one operation that yields a value -/
def OpRuns (X : Ctx) (o : Oper) (t : List AV) (m : Mem) (v : AV) (m' : Mem) : Prop :=
  ∀ (p : Pl) (a : Act) (w : World), Rel X p t m a w → ∃ p' u w', ((execOp a.eval o).run X.P w = .ok (.value u) w' ∨ ((execOp a.eval o).run X.P w = .ok .skip w' ∧ u = undef)) ∧
    Ext m.length p p' ∧ m.length ≤ m'.length ∧ VA X m'.length p' v u ∧ MR X p' m' w'

/-- is an operation wanted? -/
def gval (all : List Oper) (t : List AV) (o : Oper) : Option Bool :=
  match o.guard with
  | none => some true
  | some (j, want) =>
    match all[j]? with
    | some oj =>
      match oj.dst with
      | some d =>
        match gt .any t d with
        | .one (.b c) => some (c == want)
        | .tup _ => some false
        | _ => none
      | none => none
    | none => none

theorem gval_sound {all : List Oper} {o : Oper} {g : Bool} (h : gval all t o = some g) {p : Pl} {a : Act} {w : World} (hr : Rel X p t m a w) :
    Region.wanted o (yielded all.toArray a.tmps) = g := by
  unfold gval at h
  unfold Region.wanted
  cases hg : o.guard with
  | none => rw [hg] at h; simpa using h
  | some jw =>
    obtain ⟨j, want⟩ := jw
    rw [hg] at h
    dsimp only at h ⊢
    cases hj : all[j]? with
    | none => rw [hj] at h; cases h
    | some oj =>
      rw [hj] at h
      dsimp only at h
      cases hd : oj.dst with
      | none => rw [hd] at h; cases h
      | some d =>
        rw [hd] at h
        dsimp only at h
        have hs := hr.slots.get d
        generalize hv : gt AV.any t d = v at h hs
        cases v with
        | one c =>
          cases c with
          | b c =>
            injection h with h
            have hb := VA.bool hs
            have hlt : d < a.tmps.size := by
              rcases Nat.lt_or_ge d a.tmps.size with h1 | h1
              · exact h1
              · rw [Array.getD] at hb; rw [dif_neg (by omega)] at hb; cases hb
            have : yielded all.toArray a.tmps j = some c := by
              have h2 : a.tmps[d]? = some (.bool c) := by
                rw [Array.getElem?_eq_getElem hlt]
                simp only [Array.getD, hlt, dif_pos] at hb
                exact congrArg some hb
              simp [yielded, hj, hd, h2]
            rw [this, ← h]
            cases c <;> cases want <;> rfl
          | _ => cases h
        | tup vs =>
          injection h with h
          have hno : yielded all.toArray a.tmps j = none := by
            have hnb : ∀ b, a.tmps[d]? ≠ some (.bool b) := by
              intro b hb
              have : a.tmps.getD d undef = .bool b := by
                obtain ⟨hlt, he⟩ := Array.getElem?_eq_some_iff.1 hb
                simp [Array.getD, hlt, he]
              rw [this] at hs
              cases hs
            simp only [yielded, List.getElem?_toArray, hj, hd, Option.bind_some]
          rw [hno]
          exact h
        | _ => cases h

theorem LRun.op {all : List Oper} {o : Oper} {l : List Oper} {v : AV} {m' : Mem} {K : List AV → Mem → Prop} (hg : gval all t o = some true) (ho : OpRuns X o t m v m')
    (h : LRun X all.toArray l (putA t o.dst v) m' K) : LRun X all.toArray (o :: l) t m K := by
  intro p a w hr
  unfold wpList
  rw [if_pos (gval_sound hg hr)]
  obtain ⟨p', u, w', h1, h2, h3, h4, h5⟩ := ho p a w hr
  have hr' : Rel X p' (putA t o.dst v) m' (a.put o.dst u) w' := ⟨by rw [put_defers]; exact hr.defers, (hr.slots.mono h3 h2).put o.dst h4, h5⟩
  have hK := wpList_mono2 (Q' := LPost X m.length p K) (fun e a' w' g => g.weaken h3 h2) _ _ _ (h p' _ _ hr')
  refine .inl ?_
  unfold Oper.wp
  rcases h1 with h1 | ⟨h1, rfl⟩
  · rw [h1]; exact hK
  · rw [h1]; exact hK

theorem LRun.skip {all : List Oper} {o : Oper} {l : List Oper} {K : List AV → Mem → Prop} (hg : gval all t o = some false)
    (h : LRun X all.toArray l (putA t o.dst (.tup [])) m K) : LRun X all.toArray (o :: l) t m K := by
  intro p a w hr
  unfold wpList
  rw [if_neg (by rw [gval_sound hg hr]; decide)]
  exact h p _ _ (hr.put o.dst VA.und)

/-- what a call does: from the caller's side -/
def CallRuns (X : Ctx) (o : Oper) (t : List AV) (m : Mem) (R : AV → Mem → Prop) : Prop :=
  ∀ (p : Pl) (a : Act) (w : World), Rel X p t m a w → ∃ f args, (execOp a.eval o).run X.P w = .ok (.enter f args) w ∧
    Calls X.P f args w (fun e w' => ∃ v r m' p', e = .returned v ∧ Ext m.length p p' ∧ m.length ≤ m'.length ∧ VA X m'.length p' r v ∧ MR X p' m' w' ∧ R r m')

theorem LRun.call {all : List Oper} {o : Oper} {l : List Oper} {R : AV → Mem → Prop} {K : List AV → Mem → Prop} (hg : gval all t o = some true) (ho : CallRuns X o t m R)
    (h : ∀ r m', R r m' → LRun X all.toArray l (putA t o.dst r) m' K) : LRun X all.toArray (o :: l) t m K := by
  intro p a w hr
  unfold wpList
  rw [if_pos (gval_sound hg hr)]
  obtain ⟨fn, args, h1, h2⟩ := ho p a w hr
  refine .inl ?_
  unfold Oper.wp
  rw [h1]
  refine Calls.mono h2 ?_
  rintro e w' ⟨v, r, m', p', rfl, g1, g2, g3, g4, g5⟩
  have hr' : Rel X p' (putA t o.dst r) m' (a.put o.dst v) w' := ⟨by rw [put_defers]; exact hr.defers, (hr.slots.mono g2 g1).put o.dst g3, g4⟩
  exact wpList_mono2 (fun e a' w' g => g.weaken g2 g1) _ _ _ (h r m' g5 p' _ _ hr')
end
end DH
