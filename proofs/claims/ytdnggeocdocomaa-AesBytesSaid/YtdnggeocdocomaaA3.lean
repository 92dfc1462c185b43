/- The layer: abstract values, operations on them, and that the machine follows. -/
import Derived.Test.YtdnggeocdocomaaA2
import Derived.StillTail
set_option linter.unusedVariables false
set_option linter.unusedSimpArgs false
namespace DH
open Go

/-! A region that draws its order: the first operations leave the tracked memory alone, those behind them come one by one. -/
section
variable {P : Program} {ops : Array Oper} {md : Region.Mode} {C : World → Prop}

def anyL (P : Program) (md : Region.Mode) (ops : Array Oper) (C : World → Prop) (n : Nat) (L : Array Bool → Act → Prop) : Nat → Array Bool → Act → Prop
  | 0, listed, a => L listed a
  | f + 1, listed, a =>
    Region.ready md ops listed ≠ [] ∧ ∀ i ∈ Region.ready md ops listed, i < n ∧ qOp P ops C i (anyL P md ops C n L f (listed.setIfInBounds i true)) a

theorem any_of_head {n g : Nat} {L : Array Bool → Act → Prop} {Q' : Exit → Act → World → Prop} (hL : ∀ listed a w, C w → L listed a → wpAny P md ops Q' g listed a w) :
    ∀ (f : Nat) (listed : Array Bool) (a : Act) (w : World), C w → anyL P md ops C n L f listed a → wpAny P md ops Q' (f + g) listed a w
  | 0, listed, a, w, hw, h => by rw [Nat.zero_add]; exact hL _ _ _ hw h
  | f + 1, listed, a, w, hw, h => by
    rw [show f + 1 + g = (f + g) + 1 by omega]
    exact ⟨fun h0 => absurd h0 h.1, fun i hi => wpOp_of_qOp hw (fun a' w' hw' h' => any_of_head hL f _ a' w' hw' h') (h.2 i hi).2⟩

theorem anyL_first {n i : Nat} {oi : Oper} {v : Value} {L : Array Bool → Act → Prop} (hi : ops[i]? = some oi) (hsel : ∀ (j : Nat) (o : Oper) cs b, ops[j]? = some o → o.op ≠ .select cs b)
    (hs : Region.sinkB md ops n = true) (hc : Region.chainB md ops n = true) (hn : n < ops.size) (hin : i < n)
    (hdone : ∀ listed a, L listed a → ∀ j ∈ Region.ready md ops listed, n ≤ j) :
    ∀ (f : Nat) (listed : Array Bool) (a : Act), HeadInv md ops n listed →
      (∀ j oj, ops[j]? = some oj → j ≠ i → listed.getD j true = false → (∀ e ∈ oj.after, Region.binds md e = true → e.on ≠ i) → oi.apart ops oj = true) →
      i ∈ Region.ready md ops listed → YieldsIn P ops C oi v a →
      anyL P md ops C n L f (listed.setIfInBounds i true) (a.put oi.dst v) → anyL P md ops C n L (f + 1) listed a := by
  intro f
  induction f with
  | zero =>
    intro listed a inv _ hr hy H
    have hun := (mem_ready.1 hr).1
    refine ⟨fun h => (by rw [h] at hr; cases hr), fun j hj => ?_⟩
    have hjn : j < n := by
      rcases Nat.lt_or_ge j n with h | h
      · exact h
      · exact absurd hj (tail_waits hs hc hn inv _ i rfl hin hun j h)
    refine ⟨hjn, ?_⟩
    by_cases hji : j = i
    · subst hji; exact hy.qOp hi H
    · have := hdone _ _ H j (ready_mono hj hji)
      omega
  | succ f ih =>
    intro listed a inv hfree hr hy H
    have hun := (mem_ready.1 hr).1
    refine ⟨fun h => (by rw [h] at hr; cases hr), fun j hj => ?_⟩
    have hjn : j < n := by
      rcases Nat.lt_or_ge j n with h | h
      · exact h
      · exact absurd hj (tail_waits hs hc hn inv _ i rfl hin hun j h)
    refine ⟨hjn, ?_⟩
    by_cases hji : j = i
    · subst hji; exact hy.qOp hi H
    · have h1 := (H.2 j (ready_mono hj hji)).2
      obtain ⟨hjun, oj, hoj, hall⟩ := mem_ready.1 hj
      have hnot : ∀ e ∈ oj.after, Region.binds md e = true → e.on ≠ i := fun e he hb heq => by
        have h1 := hall e he hb
        rw [heq, getD_both hun] at h1
        cases h1
      have h2 := qOp_put hoj (hfree j oj hoj hji hjun hnot) (fun cs b => hsel i oi cs b hi) (fun cs b => hsel j oj cs b hoj) hy h1
      have hfree' : ∀ k ok, ops[k]? = some ok → k ≠ i → (listed.setIfInBounds j true).getD k true = false →
          (∀ e ∈ ok.after, Region.binds md e = true → e.on ≠ i) → oi.apart ops ok = true := fun k ok hk hki hun hno => by
        refine hfree k ok hk hki ?_ hno
        by_cases hjk : j = k
        · subst hjk; exact hjun
        · rw [getD_set_ne true hjk] at hun; exact hun
      refine qOp_mono (fun a' h3 => ih (listed.setIfInBounds j true) a' (inv.set hj hjn) hfree' (ready_mono hr (Ne.symm hji)) h3.1 ?_) h2
      rw [Array.setIfInBounds_comm _ _ hji]
      exact h3.2

theorem anyL_lex {n g : Nat} {Lq : Act → Prop} (hsel : Region.noSelect ops = true) (hs : Region.sinkB md ops n = true) (hc : Region.chainB md ops n = true) (hn : n < ops.size) :
    ∀ (l : List Oper) (k : Nat) (listed : Array Bool) (a : Act), (∀ j, j < l.length → l[j]? = ops[k + j]?) → k + l.length = n → HeadInv md ops n listed →
    Region.lexHead md ops g l.length k listed = true → wpQuiet P ops C Lq l a →
    anyL P md ops C n (fun listed' a' => Region.seqB md ops g n listed' = true ∧ Lq a') l.length listed a
  | [], k, listed, a, _, hk, _, hB, h => by
    have : k = n := by simpa using hk
    subst this
    exact ⟨by simpa [Region.lexHead] using hB, h⟩
  | o :: l, k, listed, a, hl, hk, inv, hB, h => by
    have h0 : ops[k]? = some o := by simpa using (hl 0 (by simp)).symm
    simp only [List.length_cons, Region.lexHead, Bool.and_eq_true] at hB
    obtain ⟨⟨hr, hf⟩, hB'⟩ := hB
    have hkn : k < n := by simp only [List.length_cons] at hk; omega
    have hr' : k ∈ Region.ready md ops listed := by simpa using hr
    have hst : qOp P ops C k (wpQuiet P ops C Lq l) a := by unfold qOp; simp only [h0]; exact h
    obtain ⟨v, hy, hK⟩ := yieldsIn_of_qOp h0 hst
    exact anyL_first h0 (Region.noSelect_spec hsel) hs hc hn hkn (fun listed' a' hL => seqB_ready hL.1) l.length listed a inv (Region.free_spec h0 hf) hr' hy
      (anyL_lex hsel hs hc hn l (k + 1) _ _ (fun j hj => by have := hl (j + 1) (by simp; omega); simpa [Nat.add_assoc, Nat.add_comm 1 j] using this) (by simp only [List.length_cons] at hk; omega) (inv.set hr' hkn) hB' hK)

theorem wp_draw_tail {id : Nat} {Q : Exit → Act → World → Prop} {a : Act} {w : World} {l : List Oper} (n : Nat) (hm : P.follows .mixedOrders = true) (hB : Region.lexTailB .any l.toArray n = true)
    (hC : C { w with drawn := w.drawn + 1 })
    (h : wpQuiet P l.toArray C (fun a' => ∀ w', C w' → wpList P l.toArray Q (l.drop n) a' w') (l.take n) a) : (Code.region id l.toArray true).wp P Q a w := by
  simp only [Region.lexTailB, Bool.and_eq_true, decide_eq_true_eq] at hB
  obtain ⟨⟨⟨⟨hsel, hn⟩, hs⟩, hc⟩, hlex⟩ := hB
  have hn' : n < l.length := by simpa using hn
  have htl : (l.take n).length = n := by simp; omega
  have hdl : (l.drop n).length = l.toArray.size - n := by simp
  have inv0 : HeadInv .any l.toArray n (Array.replicate l.toArray.size false) :=
    ⟨by simp, fun j oj _ hl => (by rw [getD_replicate_false] at hl; cases hl), fun t _ ht => getD_in (by simpa using ht) (getD_replicate_false _ _)⟩
  have H := anyL_lex (md := .any) (g := l.toArray.size - n) hsel hs hc hn (l.take n) 0 _ a (fun j hj => by
    have hj' : j < n := by rw [htl] at hj; exact hj
    simp [hj']) (by simpa using htl) inv0 (by rw [htl]; exact hlex) h
  refine wp_region_any hm ?_
  have := any_of_head (Q' := Q) (g := l.toArray.size - n) (fun listed a' w' hw' hL => by
    have := wpAny_of_seq (md := .any) (Q' := Q) (l.drop n) n listed a' w' (fun j => by simp [List.getElem?_drop]) (by rw [hdl]; exact hL.1) (hL.2 w' hw')
    rwa [hdl] at this) _ _ _ _ hC H
  rw [htl, show n + (l.toArray.size - n) = l.toArray.size by omega] at this
  exact this

end

/-- the worlds that hold the tracked memory just as wb does -/
def MRw (X : Ctx) (p : Pl) (m : Mem) (wb w : World) : Prop := MR X p m w ∧ ∀ (i : Nat) (row : List AC), m[i]? = some (some row) → p.sz i ≠ 0 → w.heap[p.at_ i]? = wb.heap[p.at_ i]?

/-- Operations that leave the tracked memory alone, then K: at fixed places. -/
def QRun (X : Ctx) (p : Pl) (wb : World) (all : List Oper) (l : List Oper) (t : List AV) (m : Mem) (K : List AV → Prop) : Prop :=
  ∀ (a : Act), a.defers = [] → SR X m.length p t a.tmps →
    wpQuiet X.P all.toArray (MRw X p m wb) (fun a' => ∃ t', a'.defers = [] ∧ SR X m.length p t' a'.tmps ∧ K t') l a

section
variable {X : Ctx} {f n0 : Nat} {Q : AV → Mem → Prop} {k : List Item} {t : List AV} {m : Mem} {p : Pl} {wb : World} {all : List Oper} {o : Oper} {l : List Oper} {K : List AV → Prop}

theorem MR.drew {w : World} (h : MR X p m w) : MR X p m { w with drawn := w.drawn + 1 } := ⟨h.os, h.tape, h.output, h.size, h.keep, fun i r h1 => (h.blk i r h1).imp id fun ⟨h2, h3⟩ => ⟨h2, ⟨h3.ex⟩⟩, h.new, h.inj⟩

theorem QRun.nil (h : K t) : QRun X p wb all [] t m K := fun a hd hs => ⟨t, hd, hs, h⟩

theorem gval_sound' {g : Bool} (h : gval all t o = some g) {a : Act} (hs : SR X m.length p t a.tmps) : Region.wanted o (yielded all.toArray a.tmps) = g := by
  unfold gval at h
  unfold Region.wanted
  cases hg : o.guard with
  | none => rw [hg] at h; simpa using h
  | some jw =>
    obtain ⟨j, want⟩ := jw
    rw [hg] at h
    dsimp only at h ⊢
    cases hj : all[j]? with
    | none => rw [hj] at h; cases h
    | some oj =>
      rw [hj] at h
      dsimp only at h
      cases hd : oj.dst with
      | none => rw [hd] at h; cases h
      | some d =>
        rw [hd] at h
        dsimp only at h
        have hs := hs.get d
        generalize hv : gt AV.any t d = v at h hs
        cases v with
        | one c =>
          cases c with
          | b c =>
            injection h with h
            have hb := VA.bool hs
            have hlt : d < a.tmps.size := by
              rcases Nat.lt_or_ge d a.tmps.size with h1 | h1
              · exact h1
              · rw [Array.getD] at hb; rw [dif_neg (by omega)] at hb; cases hb
            have : yielded all.toArray a.tmps j = some c := by
              have h2 : a.tmps[d]? = some (.bool c) := by
                rw [Array.getElem?_eq_getElem hlt]
                simp only [Array.getD, hlt, dif_pos] at hb
                exact congrArg some hb
              simp [yielded, hj, hd, h2]
            rw [this, ← h]
            cases c <;> cases want <;> rfl
          | _ => cases h
        | tup vs =>
          injection h with h
          have hno : yielded all.toArray a.tmps j = none := by
            have hnb : ∀ b, a.tmps[d]? ≠ some (.bool b) := by
              intro b hb
              have : a.tmps.getD d undef = .bool b := by
                obtain ⟨hlt, he⟩ := Array.getElem?_eq_some_iff.1 hb
                simp [Array.getD, hlt, he]
              rw [this] at hs
              cases hs
            simp only [yielded, List.getElem?_toArray, hj, hd, Option.bind_some]
          rw [hno]
          exact h
        | _ => cases h

/-- one operation that yields one value in every world that has the tracked memory -/
def QRuns (X : Ctx) (p : Pl) (wb : World) (o : Oper) (t : List AV) (m : Mem) (v : AV) : Prop :=
  ∀ (a : Act), a.defers = [] → SR X m.length p t a.tmps → ∃ u, VA X m.length p v u ∧ ∀ w, MRw X p m wb w → o.quietAt X.P a (MRw X p m wb) w u

theorem QRun.op {v : AV} (hg : gval all t o = some true) (ho : QRuns X p wb o t m v) (h : QRun X p wb all l (putA t o.dst v) m K) : QRun X p wb all (o :: l) t m K := by
  intro a hd hs
  unfold wpQuiet
  rw [if_pos (gval_sound' hg hs)]
  obtain ⟨u, h1, h2⟩ := ho a hd hs
  exact ⟨u, h2, h _ (by rw [put_defers]; exact hd) (hs.put o.dst h1)⟩

theorem QRun.skip (hg : gval all t o = some false) (h : QRun X p wb all l (putA t o.dst (.tup [])) m K) : QRun X p wb all (o :: l) t m K := by
  intro a hd hs
  unfold wpQuiet
  rw [if_neg (by rw [gval_sound' hg hs]; decide)]
  exact h _ (by rw [put_defers]; exact hd) (hs.put o.dst VA.und)

theorem KRun.drawTail {id : Nat} (n : Nat) (hm : X.P.follows .mixedOrders = true) (hB : Region.lexTailB .any all.toArray n = true)
    (h : ∀ p wb, MR X p m wb → QRun X p wb all (all.take n) t m (fun t' => LRun X all.toArray (all.drop n) t' m (KRun X f n0 Q k))) : KRun X f n0 Q (.code (.region id all.toArray true) :: k) t m := by
  refine KRun.of_wp fun p a w hr => ?_
  refine wp_draw_tail (C := MRw X p m w) n hm hB ⟨hr.mem.drew, fun _ _ _ _ => rfl⟩ ?_
  have := h p w hr.mem a hr.defers hr.slots
  refine wpQuiet_mono ?_ _ _ this
  rintro a' ⟨t', g1, g2, g3⟩ w' hw'
  exact g3 p a' w' ⟨g1, g2, hw'.1⟩

theorem KRun.drawAll {id : Nat} (hm : X.P.follows .mixedOrders = true) (hB : Region.lexB .any all.toArray = true)
    (h : ∀ p wb, MR X p m wb → QRun X p wb all all t m (fun t' => KRun X f n0 Q k t' m)) : KRun X f n0 Q (.code (.region id all.toArray true) :: k) t m := by
  refine KRun.of_wp fun p a w hr => ?_
  refine wp_region_quiet (C := MRw X p m w) hm hB ⟨hr.mem.drew, fun _ _ _ _ => rfl⟩ ?_
  have := h p w hr.mem a hr.defers hr.slots
  refine wpQuiet_mono ?_ _ _ this
  rintro a' ⟨t', g1, g2, g3⟩ w' hw'
  exact ⟨rfl, p, t', m, .refl _ _, Nat.le_refl _, ⟨g1, g2, hw'.1⟩, g3⟩
end
end DH
