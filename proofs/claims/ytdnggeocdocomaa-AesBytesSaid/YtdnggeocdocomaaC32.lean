/- The layer: calls, contracts, walks of whole functions by evaluation. -/
import Derived.Test.YtdnggeocdocomaaC31
set_option linter.unusedVariables false
set_option linter.unusedSimpArgs false
namespace DH
open Go

/-! Calls that turn memory: the part that they are given is cut out, and laid back behind. -/

def argsF (t : List AV) : List Operand → List AV
  | [] => []
  | x :: l => getO t x :: argsF t l

def liveB (m : Mem) : List Nat → Bool
  | [] => true
  | i :: σ => (match gt none m i with | some _ => true | none => false) && liveB m σ

theorem liveB_ok {m : Mem} : ∀ {σ : List Nat}, liveB m σ = true → ∀ (j i : Nat), σ[j]? = some i → ∃ r, m[i]? = some (some r)
  | [], _, j, i, h => by simp at h
  | a :: σ, h, j, i, hj => by
    simp only [liveB, Bool.and_eq_true] at h
    cases j with
    | zero =>
      simp at hj
      subst hj
      have h1 := h.1
      split at h1
      · rename_i r hr; exact ⟨r, gt_mem hr⟩
      · cases h1
    | succ j => exact liveB_ok h.2 j i (by simpa using hj)

def backN (σ : List Nat) (n : Nat) (j : Nat) : Option Nat :=
  match σ[j]? with
  | some i => some i
  | none => some (n + (j - lenF σ))

def backRows (d : Bool) (flo : List Bool) (τ : Nat → Option Nat) : Mem → Nat → Mem
  | [], _ => []
  | r :: l, j => (match r with
    | some row => (match gt d flo j with | true => some row | false => some (mapF (renC τ) row))
    | none => none) :: backRows d flo τ l (j + 1)

def flatsQ (d : Bool) (flo : List Bool) : Mem → Nat → List Prop
  | [], _ => []
  | r :: l, j => match r with
    | some row => (match gt d flo j with | true => Flat row :: flatsQ d flo l (j + 1) | false => flatsQ d flo l (j + 1))
    | none => flatsQ d flo l (j + 1)

def putAll : Mem → List Nat → Mem → Mem
  | m, [], rest => m ++ rest
  | m, i :: σ, r :: rest => putAll (m.set i r) σ rest
  | m, _ :: _, [] => m

def flatR (b : Bool) (r : AV) : List Prop := match b with | true => [flatAV r] | false => []
def renR (b : Bool) (τ : Nat → Option Nat) (r : AV) : AV := match b with | true => r | false => renV τ r

theorem VA.renR {X Y : Ctx} (hXY : Carries X Y) {N N' : Nat} {p p' : Pl} {τ : Nat → Option Nat} (h : Goes N N' p p' τ) {b : Bool} {r : AV} {v : Value} (hf : AllC (flatR b r)) (hv : VA X N p r v) : VA Y N' p' (DH.renR b τ r) v := by
  cases b with
  | true => exact hv.flatTo hXY hf.1 _ _
  | false => exact hv.ren hXY h

def evCallM (E : Env) (t : List AV) (m : Mem) (c : Call) : Option (List Prop × AV × Mem) :=
  match c.callee with
  | .value (.func f) =>
    (match E.memf f with
    | some mf =>
      (match fixAll mf.cs (argsF t c.args.toList) m with
      | (a1, m1) =>
        forceL (closeS m1 (!E.lit) mf.cs.fl 100 0 (addVsF m1 mf.cs.fv a1 0 [])) fun σ =>
          (match nodupB σ && liveB m1 σ with
          | true =>
            (match E.callM f (renVs (fun i => posF σ i 0) mf.cs.fv a1 0) (pickB (!E.lit) m1 (fun i => posF σ i 0) mf.cs.fl σ 0) with
            | some (cs, r, m2) =>
              some (cs ++ (flatVs mf.cs.fv a1 0 ++ (flatsP (!E.lit) m1 mf.cs.fl σ 0 ++ (flatsQ (!E.lit) mf.flo m2 0 ++ flatR mf.rf r))), renR mf.rf (backN σ (lenF m1)) r, putAll m1 σ (backRows (!E.lit) mf.flo (backN σ (lenF m1)) m2 0))
            | none => none)
          | false => none))
    | none => none)
  | _ => none

theorem backRows_length {d : Bool} {flo : List Bool} {τ : Nat → Option Nat} : ∀ (l : Mem) (k : Nat), (backRows d flo τ l k).length = l.length
  | [], _ => rfl
  | r :: l, k => by simp [backRows, backRows_length l (k + 1)]

theorem backRows_get {d : Bool} {flo : List Bool} {τ : Nat → Option Nat} : ∀ {l : Mem} {k j : Nat} {row : List AC}, (backRows d flo τ l k)[j]? = some (some row) → AllC (flatsQ d flo l k) →
    ∃ r, l[j]? = some (some r) ∧ ((Flat r ∧ row = r) ∨ row = mapF (renC τ) r)
  | [], k, j, row, h, _ => by simp [backRows] at h
  | a :: l, k, j, row, h, hf => by
    unfold backRows at h
    unfold flatsQ at hf
    cases j with
    | zero =>
      simp only [List.getElem?_cons_zero, Option.some.injEq] at h
      split at h
      · rename_i r
        refine ⟨r, rfl, ?_⟩
        dsimp only at hf
        split at h
        · rename_i hb
          injection h with h
          rw [hb] at hf
          exact .inl ⟨hf.1, h.symm⟩
        · injection h with h
          exact .inr h.symm
      · cases h
    | succ j =>
      have hrest : AllC (flatsQ d flo l (k + 1)) := by
        split at hf
        · split at hf
          · exact hf.2
          · exact hf
        · exact hf
      obtain ⟨r, h1, h2⟩ := backRows_get (k := k + 1) (by simpa using h) hrest
      exact ⟨r, by simpa using h1, h2⟩

theorem putAll_length : ∀ (m : Mem) (σ : List Nat) (rows : Mem), σ.length ≤ rows.length → (putAll m σ rows).length = m.length + (rows.length - σ.length)
  | m, [], rows, _ => by simp [putAll]
  | m, i :: σ, r :: rest, h => by
    simp only [putAll]
    rw [putAll_length _ _ _ (by simpa using h)]
    simp
  | m, _ :: _, [], h => by simp at h

theorem putAll_new : ∀ {m : Mem} {σ : List Nat} {rows : Mem} {k : Nat}, σ.length ≤ rows.length → m.length ≤ k → (putAll m σ rows)[k]? = rows[σ.length + (k - m.length)]?
  | m, [], rows, k, _, hk => by simp [putAll, List.getElem?_append_right hk]
  | m, i :: σ, r :: rest, k, h, hk => by
    simp only [putAll]
    rw [putAll_new (by simpa using h) (by simpa using hk)]
    simp only [List.length_set, List.length_cons]
    rw [show σ.length + 1 + (k - m.length) = (σ.length + (k - m.length)) + 1 by omega, List.getElem?_cons_succ]
  | m, _ :: _, [], k, h, _ => by simp at h

theorem putAll_out : ∀ {m : Mem} {σ : List Nat} {rows : Mem} {k : Nat}, k < m.length → k ∉ σ → (putAll m σ rows)[k]? = m[k]?
  | m, [], rows, k, hk, _ => by simp [putAll, List.getElem?_append_left hk]
  | m, i :: σ, r :: rest, k, hk, hn => by
    simp only [List.mem_cons, not_or] at hn
    simp only [putAll]
    rw [putAll_out (by simpa using hk) hn.2, List.getElem?_set_ne (by omega)]
  | m, _ :: _, [], k, _, _ => rfl

theorem putAll_in : ∀ {m : Mem} {σ : List Nat} {rows : Mem} {j i : Nat}, nodupB σ = true → σ.length ≤ rows.length → σ[j]? = some i → i < m.length → (putAll m σ rows)[i]? = rows[j]?
  | m, [], rows, j, i, _, _, h, _ => by simp at h
  | m, a :: σ, r :: rest, j, i, hn, h, hj, hi => by
    simp only [nodupB, Bool.and_eq_true, Bool.not_eq_true'] at hn
    have ha : a ∉ σ := fun hk => by rw [memN_iff.2 hk] at hn; exact absurd hn.1 (by simp)
    simp only [putAll]
    cases j with
    | zero =>
      simp at hj
      subst hj
      rw [putAll_out (by simpa using hi) ha, List.getElem?_set_self hi]
      rfl
    | succ j =>
      rw [putAll_in hn.2 (by simpa using h) (by simpa using hj) (by simpa using hi)]
      simp
  | m, _ :: _, [], j, i, _, h, _, _ => by simp at h

theorem argsF_SR {X : Ctx} {N : Nat} {p : Pl} {t : List AV} {ev : Operand → Value} (hev : ∀ x, VA X N p (getO t x) (ev x)) : ∀ l : List Operand, SR X N p (argsF t l) (l.map ev).toArray
  | [] => ⟨rfl, fun j v u h => by simp [argsF] at h⟩
  | x :: l => by
    obtain ⟨h1, h2⟩ := argsF_SR hev l
    refine ⟨by simp [argsF] at h1 ⊢; omega, fun j v u g1 g2 => ?_⟩
    cases j with
    | zero => simp [argsF] at g1 g2; subst g1; subst g2; exact hev x
    | succ j => exact h2 j v u (by simpa [argsF] using g1) (by simpa using g2)

section
variable {X : Ctx} {m : Mem}

theorem evCallM_runs {E : Env} (hC : CallOk X.P E) {t : List AV} {o : Oper} {c : Call} (ho : o.op = .call c) {cs : List Prop} {r : AV} {m2 : Mem} (h : evCallM E t m c = some (cs, r, m2)) (hc : AllC cs) :
    CallRuns X o t m (fun r' m' => r' = r ∧ m' = m2) := by
  intro p a w hr
  unfold evCallM at h
  split at h
  · rename_i f hcal
    split at h
    · rename_i mf hmf
      split at h
      rename_i a1 m1 hnf
      rw [forceL_eq] at h
      generalize closeS m1 (!E.lit) mf.cs.fl 100 0 (addVsF m1 mf.cs.fv a1 0 []) = σ at h
      generalize (!E.lit) = d at h
      split at h
      · rename_i hb
        rw [Bool.and_eq_true] at hb
        split at h
        · rename_i c2 r0 m0' hcall
          simp only [Option.some.injEq, Prod.mk.injEq] at h
          obtain ⟨rfl, rfl, rfl⟩ := h
          obtain ⟨hc1, hc2⟩ := AllC_append hc
          obtain ⟨hcv, hc2⟩ := AllC_append hc2
          obtain ⟨hc3, hc4⟩ := AllC_append hc2
          obtain ⟨hc4, hcr⟩ := AllC_append hc4
          obtain ⟨⟨fn, body, hfn⟩, hS⟩ := hC.m f mf _ _ _ _ _ hmf hcall hc1
          have hsr := argsF_SR (getO_ok hr.slots) c.args.toList
          obtain ⟨p1, k1, k2, k3, k4⟩ := fixAll_ok hnf hsr hr.mem
          have hnd := nodupB_ok hb.1
          have hlv := liveB_ok hb.2
          -- what the call may not touch, and what it may read of what came in
          let W0 : List Nat := (σ.filter fun i => decide (p1.sz i ≠ 0)).map p1.at_
          have hW : ∀ b, b ∈ W0 ↔ ∃ i, i ∈ σ ∧ p1.sz i ≠ 0 ∧ p1.at_ i = b := by
            intro b
            simp only [W0, List.mem_map, List.mem_filter, decide_eq_true_eq, and_assoc]
          have hσ : ∀ i, i ∈ σ → ∃ row, m1[i]? = some (some row) := fun i hi => by
            obtain ⟨j, hj⟩ := List.getElem?_of_mem hi
            exact hlv j i hj
          have hext : ∀ b, X.ext b → b < w.heap.size ∧ b ∉ W0 := by
            intro b hb
            have hold := Ctx.ext_old hb
            refine ⟨by have := hold.1; have := k4.size; omega, fun hw => ?_⟩
            obtain ⟨i, hi, hz, rfl⟩ := (hW b).1 hw
            obtain ⟨row, hrow⟩ := hσ i hi
            exact k4.new i row hrow hz hold
          let Y : Ctx := ⟨X.P, w, W0, X.ext, hext⟩
          have hXY : Carries X Y := fun b hb => ⟨hb, k4.keep b (Ctx.ext_old hb)⟩
          have hYX : Carries Y X := fun b hb => ⟨hb, (k4.keep b (Ctx.ext_old hb)).symm⟩
          have hold : ∀ b, X.old b → Y.old b := by
            intro b hb
            refine ⟨by have := hb.1; have := k4.size; show b < w.heap.size; omega, fun hw => ?_⟩
            obtain ⟨i, hi, hz, rfl⟩ := (hW b).1 hw
            obtain ⟨row, hrow⟩ := hσ i hi
            exact k4.new i row hrow hz hb
          have hm0 : MR Y (p1.cut σ) (pickB d m1 (fun i => posF σ i 0) mf.cs.fl σ 0) w := by
            refine ⟨rfl, rfl, rfl, Nat.le_refl _, fun _ _ => rfl, ?_, ?_, ?_⟩
            · intro j row hj
              obtain ⟨i, rr, h1, h2, h3⟩ := pickB_get hj
              rw [pickB_length, (Pl.cut_at h1).1, (Pl.cut_at h1).2]
              rcases k4.blk i rr h2 with ⟨hz, rfl⟩ | ⟨hz, hbk⟩
              · refine .inl ⟨hz, ?_⟩
                rcases h3 with ⟨_, rfl⟩ | ⟨_, rfl⟩ <;> rfl
              · exact .inr ⟨hz, hbk.cut hXY h1 h2 hc3 h3⟩
            · intro j row hj hz
              obtain ⟨i, rr, h1, h2, h3⟩ := pickB_get hj
              rw [(Pl.cut_at h1).2] at hz
              rw [(Pl.cut_at h1).1]
              exact fun hold => hold.2 ((hW _).2 ⟨i, List.mem_of_getElem? h1, hz, rfl⟩)
            · intro j k rr s hj hk hzj hzk e
              obtain ⟨i, r1, h1, h2, _⟩ := pickB_get hj
              obtain ⟨l, r2, g1, g2, _⟩ := pickB_get hk
              rw [(Pl.cut_at h1).2] at hzj
              rw [(Pl.cut_at g1).2] at hzk
              rw [(Pl.cut_at h1).1, (Pl.cut_at g1).1] at e
              have := k4.inj i l r1 r2 h2 g2 hzj hzk e
              subst this
              exact hnd j k i h1 g1
          have hAL : AL Y (pickB d m1 (fun i => posF σ i 0) mf.cs.fl σ 0).length (p1.cut σ) (renVs (fun i => posF σ i 0) mf.cs.fv a1 0) (c.args.toList.map a.eval) := by
            rw [pickB_length]
            have := k3.renF hXY (Goes.cut _ p1 σ) hcv
            exact ⟨by have := this.1; simpa using this, fun j v u h1 h2 => this.2 j v u h1 (by simpa using h2)⟩
          refine ⟨f, _, run_call ho hcal rfl hfn w, ?_⟩
          refine (hS Y _ _ rfl hm0 hAL).mono ?_
          rintro e w' ⟨v, r', m0'', p0, rfl, g1, g2, g3, g4, rfl, rfl⟩
          rw [pickB_length] at g1 g2
          -- places behind
          let p2 : Pl := ⟨fun i => if i < m1.length then p1.at_ i else p0.at_ (σ.length + (i - m1.length)), fun i => if i < m1.length then p1.sz i else p0.sz (σ.length + (i - m1.length))⟩
          have hp2 : Ext m1.length p1 p2 := fun i hi => by simp [p2, hi]
          have hlen : (putAll m1 σ (backRows d mf.flo (backN σ (lenF m1)) m0'' 0)).length = m1.length + (m0''.length - σ.length) := by
            rw [putAll_length _ _ _ (by rw [backRows_length]; exact g2), backRows_length]
          have hσlt : ∀ j i, σ[j]? = some i → i < m1.length := fun j i hj => by
            obtain ⟨row, hrow⟩ := hlv j i hj
            exact (List.getElem?_eq_some_iff.1 hrow).1
          have hback : ∀ j i, backN σ (lenF m1) j = some i → j < m0''.length → i < m1.length + (m0''.length - σ.length) ∧ p2.at_ i = p0.at_ j ∧ p2.sz i = p0.sz j := by
            intro j i hj hjl
            unfold backN at hj
            split at hj
            · rename_i i' hs
              injection hj with hj
              subst hj
              have hi := hσlt j i' hs
              have hjσ : j < σ.length := (List.getElem?_eq_some_iff.1 hs).1
              refine ⟨by omega, ?_, ?_⟩
              · rw [(hp2 i' hi).1, (g1 j hjσ).1, (Pl.cut_at hs).1]
              · rw [(hp2 i' hi).2, (g1 j hjσ).2, (Pl.cut_at hs).2]
            · rename_i hs
              injection hj with hj
              rw [lenF_eq, lenF_eq] at hj
              have hge : σ.length ≤ j := by
                rcases Nat.lt_or_ge j σ.length with h | h
                · rw [List.getElem?_eq_getElem h] at hs; cases hs
                · exact h
              have hni : ¬ i < m1.length := by omega
              refine ⟨by omega, ?_, ?_⟩ <;> simp only [p2, if_neg hni] <;> congr 1 <;> omega
          have hgoes : Goes m0''.length (m1.length + (m0''.length - σ.length)) p0 p2 (backN σ (lenF m1)) := hback
          -- a row of the memory behind: one of the call's, or one that it has not seen
          have hrow : ∀ i row, (putAll m1 σ (backRows d mf.flo (backN σ (lenF m1)) m0'' 0))[i]? = some (some row) →
              (∃ j rr, backN σ (lenF m1) j = some i ∧ j < m0''.length ∧ m0''[j]? = some (some rr) ∧ ((Flat rr ∧ row = rr) ∨ row = mapF (renC (backN σ (lenF m1))) rr)) ∨ (i < m1.length ∧ i ∉ σ ∧ m1[i]? = some (some row)) := by
            intro i row hi
            rcases Nat.lt_or_ge i m1.length with hlt | hge
            · by_cases hin : i ∈ σ
              · obtain ⟨j, hj⟩ := List.getElem?_of_mem hin
                rw [putAll_in hb.1 (by rw [backRows_length]; exact g2) hj hlt] at hi
                obtain ⟨rr, h1, h2⟩ := backRows_get hi (AllC_append hc4).1
                exact .inl ⟨j, rr, by unfold backN; rw [hj], (List.getElem?_eq_some_iff.1 h1).1, h1, h2⟩
              · rw [putAll_out hlt hin] at hi
                exact .inr ⟨hlt, hin, hi⟩
            · rw [putAll_new (by rw [backRows_length]; exact g2) hge] at hi
              obtain ⟨rr, h1, h2⟩ := backRows_get hi (AllC_append hc4).1
              refine .inl ⟨σ.length + (i - m1.length), rr, ?_, (List.getElem?_eq_some_iff.1 h1).1, h1, h2⟩
              unfold backN
              rw [List.getElem?_eq_none (by omega), lenF_eq, lenF_eq]
              exact congrArg some (by omega)
          have hframe : ∀ i row, i < m1.length → i ∉ σ → m1[i]? = some (some row) → p1.sz i ≠ 0 → Y.old (p1.at_ i) := by
            intro i row hlt hin hi hz
            refine ⟨k4.live hi hz, fun hw => ?_⟩
            obtain ⟨l, hl, hzl, e⟩ := (hW _).1 hw
            obtain ⟨row', hrow'⟩ := hσ l hl
            have := k4.inj l i row' row hrow' hi hzl hz e
            exact hin (this ▸ hl)
          refine ⟨v, renR mf.rf (backN σ (lenF m1)) r', _, p2, rfl, ?_, ?_, ?_, ?_, rfl, rfl⟩
          · exact k1.trans hp2 k2
          · rw [hlen]; omega
          · rw [hlen]; exact g3.renR hYX hgoes hcr
          · refine ⟨g4.os.trans k4.os, g4.tape.trans k4.tape, g4.output.trans k4.output, Nat.le_trans k4.size g4.size, ?_, ?_, ?_, ?_⟩
            · intro b hb'
              exact (g4.keep b (hold b hb')).trans (k4.keep b hb')
            · intro i row hi
              rw [hlen]
              rcases hrow i row hi with ⟨j, rr, h1, h2, h3, h4⟩ | ⟨h1, h2, h3⟩
              · obtain ⟨e1, e2, e3⟩ := hback j i h1 h2
                rw [e2, e3]
                rcases g4.blk j rr h3 with ⟨hz, rfl⟩ | ⟨hz, hbk⟩
                · refine .inl ⟨hz, ?_⟩
                  rcases h4 with ⟨_, rfl⟩ | rfl <;> rfl
                · refine .inr ⟨hz, ?_⟩
                  obtain ⟨vs, ty, fr, q1, q2, q3, q4, q5⟩ := hbk.ex
                  rcases h4 with ⟨hf, rfl⟩ | rfl
                  · exact ⟨vs, ty, fr, q1, q2, q3, q4, fun k c' u b1 b2 => (q5 k c' u b1 b2).carry hYX (hf c' (List.mem_of_getElem? b1)) _ _⟩
                  · refine ⟨vs, ty, fr, q1, q2, by rw [mapF_eq]; simpa using q3, q4, fun k c' u b1 b2 => ?_⟩
                    rw [mapF_eq, List.getElem?_map] at b1
                    cases hk : rr[k]? with
                    | none => rw [hk] at b1; cases b1
                    | some e =>
                      rw [hk] at b1
                      simp only [Option.map_some, Option.some.injEq] at b1
                      subst b1
                      exact (q5 k e u hk b2).ren hYX hgoes
              · rw [(hp2 i h1).1, (hp2 i h1).2]
                rcases k4.blk i row h3 with h0 | ⟨hz, hbk⟩
                · exact .inl h0
                · exact .inr ⟨hz, hbk.mono (by omega) hp2 (g4.keep _ (hframe i row h1 h2 h3 hz))⟩
            · intro i row hi hz
              rcases hrow i row hi with ⟨j, rr, h1, h2, h3, _⟩ | ⟨h1, h2, h3⟩
              · obtain ⟨e1, e2, e3⟩ := hback j i h1 h2
                rw [e3] at hz
                rw [e2]
                exact fun ho => g4.new j rr h3 hz (hold _ ho)
              · rw [(hp2 i h1).2] at hz
                rw [(hp2 i h1).1]
                exact k4.new i row h3 hz
            · intro i l row s hi hl hzi hzl e
              rcases hrow i row hi with ⟨j, rr, h1, h2, h3, _⟩ | ⟨h1, h2, h3⟩ <;> rcases hrow l s hl with ⟨j', rr', h1', h2', h3', _⟩ | ⟨h1', h2', h3'⟩
              · obtain ⟨_, e2, e3⟩ := hback j i h1 h2
                obtain ⟨_, e2', e3'⟩ := hback j' l h1' h2'
                rw [e3] at hzi; rw [e3'] at hzl; rw [e2, e2'] at e
                have := g4.inj j j' rr rr' h3 h3' hzi hzl e
                subst this
                rw [h1] at h1'
                exact Option.some.inj h1'
              · obtain ⟨_, e2, e3⟩ := hback j i h1 h2
                rw [e3] at hzi; rw [(hp2 l h1').2] at hzl; rw [e2, (hp2 l h1').1] at e
                exact absurd (e ▸ hframe l s h1' h2' h3' hzl) (g4.new j rr h3 hzi)
              · obtain ⟨_, e2', e3'⟩ := hback j' l h1' h2'
                rw [e3'] at hzl; rw [(hp2 i h1).2] at hzi; rw [e2', (hp2 i h1).1] at e
                exact absurd (e ▸ hframe i row h1 h2 h3 hzi) (g4.new j' rr' h3' hzl)
              · rw [(hp2 i h1).1, (hp2 l h1').1] at e
                rw [(hp2 i h1).2] at hzi; rw [(hp2 l h1').2] at hzl
                exact k4.inj i l row s h3 h3' hzi hzl e
        · cases h
      · cases h
    · cases h
  · cases h
end
end DH
