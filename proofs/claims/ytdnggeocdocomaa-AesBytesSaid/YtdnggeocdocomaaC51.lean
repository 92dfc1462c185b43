/- The layer: calls, contracts, walks of whole functions by evaluation. -/
import Derived.Test.YtdnggeocdocomaaC5
set_option linter.unusedVariables false
set_option linter.unusedSimpArgs false
namespace DH
open Go

/-! All orders of a region, from an abstract state on. -/
section
variable {X : Ctx} {f n0 : Nat} {Q : AV → Mem → Prop}

theorem MR.none {p q : Pl} {m : Mem} {w : World} (h : MR X p m w) : MR X q [] w :=
  ⟨h.os, h.tape, h.output, h.size, h.keep, fun i row hi => by simp at hi, fun i row hi => by simp at hi, fun i j r s hi => by simp at hi⟩

theorem MR.grow {p : Pl} {m : Mem} {w w' : World} (h : MR X p m w) (g : Grow w w') : MR X p m w' := by
  refine ⟨g.os.trans h.os, g.tape.trans h.tape, g.output.trans h.output, Nat.le_trans h.size g.size, fun b hb => ?_, fun i row hi => ?_, h.new, h.inj⟩
  · rw [g.keep b (Nat.lt_of_lt_of_le hb.1 h.size)]
    exact h.keep b hb
  · rcases h.blk i row hi with h0 | ⟨hz, hb⟩
    · exact .inl h0
    · exact .inr ⟨hz, hb.mono (Nat.le_refl _) (.refl _ _) (g.keep _ (h.live hi hz))⟩

theorem MRw.grow {p : Pl} {m : Mem} {wb w w' : World} (h : MRw X p m wb w) (g : Grow w w') : MRw X p m wb w' :=
  ⟨h.1.grow g, fun i row hi hz => by rw [g.keep _ (h.1.live hi hz)]; exact h.2 i row hi hz⟩

/-- does an operation leave all that is there as it is? -/
def softOp (q : FuncId → Bool) : Op → Bool
  | .alloc _ => true
  | .box _ _ => true
  | .buildSlice _ _ _ => true
  | .store _ _ _ => false
  | .makeSlice _ _ _ => false
  | .makeMap _ _ => false
  | .insert _ _ _ _ => false
  | .mapUpdate _ _ _ _ => false
  | .convert _ _ _ => false
  | .call c => (match c.callee with
    | .builtin .append => false
    | .builtin .copy => false
    | .builtin .delete => false
    | .builtin _ => true
    | .value (.func f) => q f
    | _ => false)
  | _ => true

/-- is an operation one that evQ tells? -/
def stillOp : Op → Bool
  | .alloc _ => false
  | .box _ _ => false
  | .buildSlice _ _ _ => false
  | .store _ _ _ => false
  | .makeSlice _ _ _ => false
  | .makeMap _ _ => false
  | .insert _ _ _ _ => false
  | .mapUpdate _ _ _ _ => false
  | .convert _ _ _ => false
  | .call c => (match c.callee with
    | .builtin .append => false
    | .builtin .copy => false
    | .builtin .delete => false
    | .builtin _ => true
    | _ => false)
  | _ => true

def softI (q : FuncId → Bool) (all : List Oper) (i : Nat) : Bool :=
  match all[i]? with
  | some o => softOp q o.op
  | none => false

def GRun (X : Ctx) (all : List Oper) (q : FuncId → Bool) (f : Nat) (listed : Array Bool) (t : List AV) (m : Mem) (K : List AV → Mem → Prop) : Prop :=
  ∀ p a w, Rel X p t m a w → anyG X.P .any all.toArray (softI q all) (fun w => MR X p [] w) (LPost X m.length p K .normal) f listed a w

theorem anyG_mono {P : Program} {md : Region.Mode} {ops : Array Oper} {soft : Nat → Bool} {I I' : World → Prop} (hI : ∀ w, I w → I' w) {L L' : Act → World → Prop} (h : ∀ a w, L a w → L' a w) : ∀ (f : Nat) (listed : Array Bool) (a : Act) (w : World),
    anyG P md ops soft I L f listed a w → anyG P md ops soft I' L' f listed a w
  | 0, _, _, _, g => ⟨g.1, fun w1 hw => h _ _ (g.2 w1 hw)⟩
  | f + 1, _, _, _, g => fun w1 hw => ⟨fun h0 => h _ _ ((g w1 hw).1 h0), fun i hi => gOp_mono (fun a' w' g' => ⟨g'.1, hI _ g'.2.1, anyG_mono hI h f _ a' w' g'.2.2⟩) ((g w1 hw).2 i hi)⟩

theorem GRun.done {all : List Oper} {q : FuncId → Bool} {f : Nat} {listed : Array Bool} {t : List AV} {m : Mem} {K : List AV → Mem → Prop} (hr : Region.ready .any all.toArray listed = []) (h : K t m) : GRun X all q f listed t m K := by
  intro p a w hrel
  have hL : ∀ w1, Grow w w1 → LPost X m.length p K .normal a w1 := fun w1 g => ⟨rfl, p, t, m, .refl _ _, Nat.le_refl _, ⟨hrel.defers, hrel.slots, hrel.mem.grow g⟩, h⟩
  cases f with
  | zero => exact ⟨hr, hL⟩
  | succ f => exact fun w1 g => ⟨fun _ => hL w1 g, fun i hi => (by rw [hr] at hi; cases hi)⟩

/-- what hangs on the operation i, if it is to come first -/
def firstB (q : FuncId → Bool) (all : List Oper) (listed : Array Bool) (i : Nat) (oi : Oper) : Bool :=
  (List.range all.length).all fun j => Nat.beq j i || listed.getD j true || (match all[j]? with
    | some oj => (oj.after.any fun e => Region.binds .any e && Nat.beq e.on i) || (oi.apart all.toArray oj && softOp q oj.op)
    | none => true)

theorem GRun.first {all : List Oper} {q : FuncId → Bool} {f : Nat} {listed : Array Bool} {t : List AV} {m : Mem} {K : List AV → Mem → Prop} {i : Nat} {oi : Oper} {v : AV}
    (hsel : Region.noSelect all.toArray = true) (hi : all[i]? = some oi) (hr : i ∈ Region.ready .any all.toArray listed) (hb : firstB q all listed i oi = true)
    (hy : ∀ p a w, Rel X p t m a w → ∃ u, VA X m.length p v u ∧ YieldsC X.P all.toArray (MRw X p m w) oi u a)
    (h : GRun X all q f (listed.setIfInBounds i true) (putA t oi.dst v) m K) : GRun X all q (f + 1) listed t m K := by
  intro p a w hrel
  obtain ⟨u, h1, h2⟩ := hy p a w hrel
  refine anyG_first (C := MRw X p m w) (fun w w' hw hg => hw.grow hg) (fun w hw => hw.1.none) (oi := oi) (v := u) (by simpa using hi) (Region.noSelect_spec hsel) f listed a w ?_ hr h2 ⟨hrel.mem, fun _ _ _ _ => rfl⟩ (h p _ w (hrel.put oi.dst h1))
  intro j oj hj hji hun hno
  have hj : all[j]? = some oj := by simpa using hj
  have hlt : j < all.length := (List.getElem?_eq_some_iff.1 hj).1
  have g := List.all_eq_true.1 hb j (List.mem_range.2 hlt)
  rw [hj] at g
  simp only [Bool.or_eq_true, Bool.and_eq_true] at g
  rcases g with (g | g) | (g | g)
  · exact absurd (Nat.eq_of_beq_eq_true g) hji
  · rw [hun] at g; cases g
  · obtain ⟨e, he, hb'⟩ := Array.any_eq_true'.1 g
    rw [Bool.and_eq_true] at hb'
    exact absurd (Nat.eq_of_beq_eq_true hb'.2) (hno e he hb'.1)
  · refine ⟨g.1, .inl ?_⟩
    unfold softI
    rw [hj]
    exact g.2

/-- what hangs on the operation i, if it looks at nothing that is turned -/
def firstB2 (all : List Oper) (listed : Array Bool) (i : Nat) (oi : Oper) : Bool :=
  (List.range all.length).all fun j => Nat.beq j i || listed.getD j true || (match all[j]? with
    | some oj => (oj.after.any fun e => Region.binds .any e && Nat.beq e.on i) || oi.apart all.toArray oj
    | none => true)

/-- the blocks, none of them told -/
def nones : Mem → Mem
  | [] => []
  | _ :: m => none :: nones m

theorem nones_len : ∀ m : Mem, (nones m).length = m.length
  | [] => rfl
  | _ :: m => by rw [nones, List.length_cons, List.length_cons, nones_len m]

theorem nones_get : ∀ (m : Mem) (i : Nat) (row : List AC), (nones m)[i]? ≠ some (some row)
  | [], i, row => by simp [nones]
  | _ :: m, 0, row => by simp [nones]
  | _ :: m, i + 1, row => by
    rw [nones, List.getElem?_cons_succ]
    exact nones_get m i row

theorem MR.nones {p q : Pl} {m n : Mem} {w : World} (h : MR X p m w) : MR X q (DH.nones n) w :=
  ⟨h.os, h.tape, h.output, h.size, h.keep, fun i row hi => absurd hi (nones_get _ _ _), fun i row hi => absurd hi (nones_get _ _ _), fun i j r s hi => absurd hi (nones_get _ _ _)⟩

theorem GRun.first2 {all : List Oper} {q : FuncId → Bool} {f : Nat} {listed : Array Bool} {t : List AV} {m : Mem} {K : List AV → Mem → Prop} {i : Nat} {oi : Oper} {v : AV}
    (hsel : Region.noSelect all.toArray = true) (hi : all[i]? = some oi) (hr : i ∈ Region.ready .any all.toArray listed) (hb : firstB2 all listed i oi = true)
    (hy : ∀ p a w, Rel X p t m a w → ∃ u, VA X m.length p v u ∧ YieldsC X.P all.toArray (MRw X p (nones m) w) oi u a)
    (h : GRun X all q f (listed.setIfInBounds i true) (putA t oi.dst v) m K) : GRun X all q (f + 1) listed t m K := by
  intro p a w hrel
  obtain ⟨u, h1, h2⟩ := hy p a w hrel
  have vac : ∀ w', MR X p [] w' → MRw X p (nones m) w w' := fun w' hw => ⟨hw.nones, fun i row hi => absurd hi (nones_get _ _ _)⟩
  refine anyG_first (C := MRw X p (nones m) w) (fun w w' hw hg => hw.grow hg) (fun w hw => hw.1.none) (oi := oi) (v := u) (by simpa using hi) (Region.noSelect_spec hsel) f listed a w ?_ hr h2 (vac w hrel.mem.none) (h p _ w (hrel.put oi.dst h1))
  intro j oj hj hji hun hno
  have hj : all[j]? = some oj := by simpa using hj
  have hlt : j < all.length := (List.getElem?_eq_some_iff.1 hj).1
  have g := List.all_eq_true.1 hb j (List.mem_range.2 hlt)
  rw [hj] at g
  simp only [Bool.or_eq_true] at g
  rcases g with (g | g) | (g | g)
  · exact absurd (Nat.eq_of_beq_eq_true g) hji
  · rw [hun] at g; cases g
  · obtain ⟨e, he, hb'⟩ := Array.any_eq_true'.1 g
    rw [Bool.and_eq_true] at hb'
    exact absurd (Nat.eq_of_beq_eq_true hb'.2) (hno e he hb'.1)
  · exact ⟨g, .inr vac⟩

/-- what an operation leaves, whatever world it meets -/
def GOp (X : Ctx) (soft : Bool) (o : Oper) (t : List AV) (m : Mem) (v : AV) (m' : Mem) : Prop :=
  ∀ p a w, Rel X p t m a w → gAt X.P o a (fun u w' => (soft = true → Grow w w') ∧ ∃ p', Ext m.length p p' ∧ m.length ≤ m'.length ∧ VA X m'.length p' v u ∧ MR X p' m' w') w

theorem GOp.of_runs {o : Oper} {t : List AV} {m m' : Mem} {v : AV} (h : OpRuns X o t m v m') : GOp X false o t m v m' := by
  intro p a w hr
  obtain ⟨p', u, w', h1, h2, h3, h4, h5⟩ := h p a w hr
  unfold gAt
  rcases h1 with h1 | ⟨h1, rfl⟩ <;> rw [h1] <;> exact ⟨nofun, p', h2, h3, h4, h5⟩

theorem GOp.of_call {o : Oper} {t : List AV} {m m' : Mem} {v : AV} (h : CallRuns X o t m (fun r' m1 => r' = v ∧ m1 = m')) : GOp X false o t m v m' := by
  intro p a w hr
  obtain ⟨f, args, h1, h2⟩ := h p a w hr
  unfold gAt
  rw [h1]
  refine h2.mono ?_
  rintro e w' ⟨u, r, m1, p', rfl, g1, g2, g3, g4, rfl, rfl⟩
  exact ⟨u, rfl, nofun, p', g1, g2, g3, g4⟩

theorem GOp.step {E : Env} (hE : EnvOk X.P E) (hC : CallOk X.P E) {t : List AV} {o : Oper} {m m' : Mem} {cs : List Prop} {v : AV} (h : evStep E t m o.op = some (cs, v, m')) (hc : AllC cs) : GOp X false o t m v m' := by
  unfold DH.evStep at h
  split at h
  · rename_i c ho
    split at h
    · exact .of_runs (evOp_runs hE h hc)
    · split at h
      · exact .of_call (evCallM_runs hC ho h hc)
      · split at h
        · rename_i h1
          simp only [Option.some.injEq, Prod.mk.injEq] at h
          obtain ⟨rfl, rfl, rfl⟩ := h
          exact .of_call (evCall_runs hC ho h1 hc)
        · cases h
  · exact .of_runs (evOp_runs hE h hc)

/-- operations that leave all that is there -/
noncomputable def evSoft (E : Env) (t : List AV) (m : Mem) (op : Op) : RE :=
  match op with
  | .alloc e => evAlloc E m e
  | .box _ x => evBox m (getO t x)
  | .buildSlice ty len parts => evBuildSlice E t m ty len parts.toList
  | .call c => (match c.callee with
    | .builtin _ => (match evQ E t m op with | some (cs, v) => some (cs, v, m) | none => none)
    | _ => (match evCall E t m c with | some (cs, v) => some (cs, v, m) | none => none))
  | _ => (match evQ E t m op with | some (cs, v) => some (cs, v, m) | none => none)

theorem GOp.of_q {E : Env} (hE : EnvOk X.P E) {t : List AV} {o : Oper} {m : Mem} {cs : List Prop} {v : AV} (h : evQ E t m o.op = some (cs, v)) (hc : AllC cs) : GOp X true o t m v m := by
  intro p a w hr
  obtain ⟨u, h1, h2⟩ := evQ_ok hE hr.mem h hc (getO_ok hr.slots)
  unfold gAt
  rw [h2 w ⟨hr.mem, fun _ _ _ _ => rfl⟩]
  exact ⟨fun _ => Grow.refl _, p, .refl _ _, Nat.le_refl _, h1, hr.mem⟩

theorem GOp.soft {E : Env} (hE : EnvOk X.P E) (hC : CallOk X.P E) {t : List AV} {o : Oper} {m m' : Mem} {cs : List Prop} {v : AV} (h : evSoft E t m o.op = some (cs, v, m')) (hc : AllC cs) : GOp X true o t m v m' := by
  unfold evSoft at h
  split at h
  · rename_i e ho
    intro p a w hr
    obtain ⟨p', u, w', h1, h2, h3, h4, h5, h6⟩ := evAlloc_ok hE h hr.mem
    unfold gAt
    rw [show (execOp a.eval o).run X.P w = .ok (.value u) w' by simp [execOp, ho, h1]]
    exact ⟨fun _ => h6, p', h2, h3, h4, h5⟩
  · rename_i e x ho
    intro p a w hr
    obtain ⟨p', u, w', h1, h2, h3, h4, h5, h6⟩ := evBox_ok h hr.mem (getO_ok hr.slots x) e
    unfold gAt
    rw [show (execOp a.eval o).run X.P w = .ok (.value u) w' by simp [execOp, ho, h1]]
    exact ⟨fun _ => h6, p', h2, h3, h4, h5⟩
  · rename_i ty len parts ho
    intro p a w hr
    obtain ⟨p', u, w', h1, h2, h3, h4, h5, h6⟩ := evBuildSlice_ok hE h hr.mem (getO_ok hr.slots)
    have e : (parts.toList.map fun (i, x) => (i, a.eval x)).toArray = parts.map fun (i, x) => (i, a.eval x) := by
      rw [← Array.toList_map, Array.toArray_toList]
    rw [e] at h1
    unfold gAt
    rw [show (execOp a.eval o).run X.P w = .ok (.value u) w' by simp [execOp, ho, h1]]
    exact ⟨fun _ => h6, p', h2, h3, h4, h5⟩
  · rename_i c ho
    split at h
    · split at h
      · rename_i h1
        simp only [Option.some.injEq, Prod.mk.injEq] at h
        obtain ⟨rfl, rfl, rfl⟩ := h
        exact .of_q hE h1 hc
      · cases h
    · split at h
      · rename_i h1
        simp only [Option.some.injEq, Prod.mk.injEq] at h
        obtain ⟨rfl, rfl, rfl⟩ := h
        intro p a w hr
        obtain ⟨hex, u, g1, g2⟩ := evCall_ok hC ho h1 hc (fun _ => rfl) (getO_ok hr.slots) hr.mem
        obtain ⟨f, args, k1, k2⟩ := g2 w ⟨hr.mem, fun _ _ _ _ => rfl⟩
        unfold gAt
        rw [k1]
        exact k2.mono fun e w' ⟨q1, q2, q3⟩ => ⟨u, q1, fun _ => q3, p, .refl _ _, Nat.le_refl _, g1, q2.1⟩
      · cases h
  · split at h
    · rename_i h1
      simp only [Option.some.injEq, Prod.mk.injEq] at h
      obtain ⟨rfl, rfl, rfl⟩ := h
      exact .of_q hE h1 hc
    · cases h

theorem GRun.each {all : List Oper} {q : FuncId → Bool} {f : Nat} {listed : Array Bool} {t : List AV} {m : Mem} {K : List AV → Mem → Prop} (hne : Region.ready .any all.toArray listed ≠ [])
    (h : ∀ i, i ∈ Region.ready .any all.toArray listed → ∃ o, all[i]? = some o ∧ ((gval all t o = some false ∧ GRun X all q f (listed.setIfInBounds i true) (putA t o.dst (.tup [])) m K) ∨
      (gval all t o = some true ∧ ∃ v m', GOp X (softOp q o.op) o t m v m' ∧ GRun X all q f (listed.setIfInBounds i true) (putA t o.dst v) m' K))) : GRun X all q (f + 1) listed t m K := by
  intro p a w0 hr w hg0
  have hr : Rel X p t m a w := ⟨hr.defers, hr.slots, hr.mem.grow hg0⟩
  refine ⟨fun h0 => absurd h0 hne, fun i hi => ?_⟩
  obtain ⟨o, ho, h⟩ := h i hi
  have hs : softI q all i = softOp q o.op := by unfold softI; rw [ho]
  have ho' : all.toArray[i]? = some o := by simpa using ho
  unfold gOp
  simp only [ho']
  rcases h with ⟨hg, h⟩ | ⟨hg, v, m', hO, h⟩
  · rw [if_neg (by rw [gval_sound hg hr]; decide)]
    exact ⟨fun _ => Grow.refl _, hr.mem.none, h p _ w (hr.put o.dst VA.und)⟩
  · rw [if_pos (gval_sound hg hr)]
    refine gAt_mono ?_ (hO p a w hr)
    rintro u w' ⟨g0, p', g1, g2, g3, g4⟩
    refine ⟨fun h => g0 (by rw [← hs]; exact h), g4.none, ?_⟩
    have hr' : Rel X p' (putA t o.dst v) m' (a.put o.dst u) w' := ⟨by rw [put_defers]; exact hr.defers, (hr.slots.mono g2 g1).put o.dst g3, g4⟩
    exact anyG_mono (fun w g => g.none) (fun a' w' g => g.weaken g2 g1) _ _ _ _ (h p' _ w' hr')

theorem KRun.free {id : Nat} {all : List Oper} {q : FuncId → Bool} {t : List AV} {m : Mem} {k : List Item} (hm : X.P.follows .mixedOrders = true)
    (h : GRun X all q all.length (Array.replicate all.length false) t m (KRun X f n0 Q k)) : KRun X f n0 Q (.code (.region id all.toArray true) :: k) t m := by
  refine KRun.of_wp fun p a w hr => ?_
  refine wp_region_any hm ?_
  have := h p a { w with drawn := w.drawn + 1 } ⟨hr.defers, hr.slots, hr.mem.drew⟩
  rw [show all.toArray.size = all.length by simp]
  exact wpAny_of_anyG (fun a w h => h) _ _ _ _ this

/-- a call that only reads, or an operation that evQ tells -/
def earlyOp (q : FuncId → Bool) (op : Op) : Bool :=
  stillOp op || (match op with
    | .call c => (match c.callee with
      | .value (.func f) => q f
      | _ => false)
    | _ => false)

noncomputable def evEarly (E : Env) (t : List AV) (m : Mem) (op : Op) : Option (List Prop × AV) :=
  match stillOp op with
  | true => evQ E t m op
  | false => (match op with
    | .call c => (match c.callee with
      | .value (.func _) => evCall E t m c
      | _ => none)
    | _ => none)

theorem evEarly_ok {E : Env} (hE : EnvOk X.P E) (hC : CallOk X.P E) {t : List AV} {m : Mem} {o : Oper} {cs : List Prop} {v : AV} (h : evEarly E t m o.op = some (cs, v)) (hc : AllC cs) {ops : Array Oper} {p : Pl} {a : Act} {w : World} (hr : Rel X p t m a w)
    (hw : Region.wanted o (yielded ops a.tmps) = true) : ∃ u, VA X m.length p v u ∧ YieldsC X.P ops (MRw X p m w) o u a := by
  unfold evEarly at h
  split at h
  · obtain ⟨u, g1, g2⟩ := evQ_ok hE hr.mem h hc (getO_ok hr.slots)
    exact ⟨u, g1, .quiet hw g2⟩
  · split at h
    · rename_i c ho
      split at h
      · obtain ⟨hex, u, g1, g2⟩ := evCall_ok hC ho h hc (fun _ => rfl) (getO_ok hr.slots) hr.mem
        refine ⟨u, g1, .inl ⟨hw, fun w' hw' => ?_⟩⟩
        obtain ⟨f, args, k1, k2⟩ := g2 w' hw'
        unfold gAt
        rw [k1]
        exact k2.mono fun e w'' ⟨q1, q2, q3⟩ => ⟨u, q1, rfl, q3⟩
      · cases h
    · cases h

/-- a call that reads none of the blocks -/
noncomputable def evAway (E : Env) (t : List AV) (m : Mem) (op : Op) : Option (List Prop × AV) :=
  match stillOp op with
  | true => evQ E t (nones m) op
  | false => (match op with
    | .call c => (match c.callee with
      | .value (.func _) => evCall E t (nones m) c
      | _ => none)
    | _ => none)

theorem evAway_ok {E : Env} (hE : EnvOk X.P E) (hC : CallOk X.P E) {t : List AV} {m : Mem} {o : Oper} {cs : List Prop} {v : AV} (h : evAway E t m o.op = some (cs, v)) (hc : AllC cs) {ops : Array Oper} {p : Pl} {a : Act} {w : World} (hr : Rel X p t m a w)
    (hw : Region.wanted o (yielded ops a.tmps) = true) : ∃ u, VA X m.length p v u ∧ YieldsC X.P ops (MRw X p (nones m) w) o u a := by
  unfold evAway at h
  split at h
  · obtain ⟨u, g1, g2⟩ := evQ_ok (p := p) (wb := w) hE hr.mem.nones h hc (ev := a.eval) (fun x => by rw [nones_len]; exact getO_ok hr.slots x)
    rw [nones_len] at g1
    exact ⟨u, g1, .quiet hw g2⟩
  · split at h
    · rename_i c ho
      split at h
      · obtain ⟨hex, u, g1, g2⟩ := evCall_ok (p := p) (wb := w) hC ho h hc (ev := a.eval) (fun _ => rfl) (fun x => by rw [nones_len]; exact getO_ok hr.slots x) hr.mem.nones
        rw [nones_len] at g1
        refine ⟨u, g1, .inl ⟨hw, fun w' hw' => ?_⟩⟩
        obtain ⟨f, args, k1, k2⟩ := g2 w' hw'
        unfold gAt
        rw [k1]
        exact k2.mono fun e w'' ⟨q1, q2, q3⟩ => ⟨u, q1, rfl, q3⟩
      · cases h
    · cases h

/-- the first of those ready that may come first, as a call that reads no block -/
noncomputable def pick2 (E : Env) (t : List AV) (m : Mem) (all : List Oper) (listed : Array Bool) : List Nat → Option (Nat × Oper)
  | [] => none
  | i :: l => (match all[i]? with
    | some o => (match firstB2 all listed i o with
      | true => (match evAway E t m o.op with
        | some _ => some (i, o)
        | none => pick2 E t m all listed l)
      | false => pick2 E t m all listed l)
    | none => pick2 E t m all listed l)

theorem pick2_ok {E : Env} {t : List AV} {m : Mem} {all : List Oper} {listed : Array Bool} : ∀ {l : List Nat} {i : Nat} {o : Oper}, pick2 E t m all listed l = some (i, o) → i ∈ l ∧ all[i]? = some o ∧ firstB2 all listed i o = true
  | [], _, _, h => by cases h
  | j :: l, i, o, h => by
    have rest : pick2 E t m all listed l = some (i, o) → i ∈ j :: l ∧ all[i]? = some o ∧ firstB2 all listed i o = true := fun h => by
      obtain ⟨h1, h2⟩ := pick2_ok h
      exact ⟨by simp [h1], h2⟩
    unfold pick2 at h
    split at h
    · rename_i o' ho
      split at h
      · rename_i hb
        split at h
        · simp only [Option.some.injEq, Prod.mk.injEq] at h
          obtain ⟨rfl, rfl⟩ := h
          exact ⟨by simp, ho, hb⟩
        · exact rest h
      · exact rest h
    · exact rest h

/-- the first of those ready that may come first -/
def pick1 (q : FuncId → Bool) (all : List Oper) (listed : Array Bool) : List Nat → Option (Nat × Oper)
  | [] => none
  | i :: l => (match all[i]? with
    | some o => (match earlyOp q o.op && firstB q all listed i o with
      | true => some (i, o)
      | false => pick1 q all listed l)
    | none => pick1 q all listed l)

theorem pick1_ok {q : FuncId → Bool} {all : List Oper} {listed : Array Bool} : ∀ {l : List Nat} {i : Nat} {o : Oper}, pick1 q all listed l = some (i, o) → i ∈ l ∧ all[i]? = some o ∧ firstB q all listed i o = true
  | [], _, _, h => by cases h
  | j :: l, i, o, h => by
    unfold pick1 at h
    split at h
    · rename_i o' ho
      split at h
      · rename_i hb
        simp only [Option.some.injEq, Prod.mk.injEq] at h
        obtain ⟨rfl, rfl⟩ := h
        rw [Bool.and_eq_true] at hb
        exact ⟨by simp, ho, hb.2⟩
      · obtain ⟨h1, h2⟩ := pick1_ok h
        exact ⟨by simp [h1], h2⟩
    · obtain ⟨h1, h2⟩ := pick1_ok h
      exact ⟨by simp [h1], h2⟩
end
end DH
