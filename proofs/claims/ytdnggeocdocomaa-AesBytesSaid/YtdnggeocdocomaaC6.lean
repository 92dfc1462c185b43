/- The layer: calls, contracts, walks of whole functions by evaluation. -/
import Derived.Test.YtdnggeocdocomaaC51
set_option linter.unusedVariables false
set_option linter.unusedSimpArgs false
namespace DH
open Go

/-! What is to be shown of a walk: each Bool that a path hangs on is told apart; at a loop it stands still. -/

def andC : List Prop → Prop → Prop
  | [], P => P
  | c :: cs, P => c ∧ andC cs P

theorem andC_all : ∀ {cs : List Prop} {P : Prop}, andC cs P → AllC cs ∧ P
  | [], _, h => ⟨trivial, h⟩
  | _ :: _, _, h => ⟨⟨h.1, (andC_all h.2).1⟩, (andC_all h.2).2⟩

def splitB (S : List Nat) (d : Option Tmp) (v : AV) (k : AV → Prop) : Prop :=
  match d with
  | some d => (match memB d S with
    | true => (match v with
      | .one (.b bv) => (bv = true → k (.one (.b true))) ∧ (bv = false → k (.one (.b false)))
      | v => k v)
    | false => k v)
  | none => k v

theorem splitB_ok {S : List Nat} {d : Option Tmp} {v : AV} {k : AV → Prop} (h : splitB S d v k) : k v := by
  unfold splitB at h
  split at h
  · split at h
    · split at h
      · rename_i bv
        cases bv
        · exact h.2 rfl
        · exact h.1 rfl
      · exact h
    · exact h
  · exact h

noncomputable def wpOps (E : Env) (S : List Nat) (all : List Oper) : List Oper → List AV → Mem → (List AV → Mem → Prop) → Prop
  | [], t, m, K => K t m
  | o :: l, t, m, K =>
    match gval all t o with
    | some true => (match evStep E t m o.op with
      | some (c, v, m') => andC c (splitB S o.dst v fun v' => putF t o.dst v' fun t' => wpOps E S all l t' m' K)
      | none => False)
    | some false => putF t o.dst (.tup []) fun t' => wpOps E S all l t' m K
    | none => False

noncomputable def wpHead (E : Env) (S : List Nat) (all : List Oper) (m : Mem) : List Oper → List AV → (List AV → Prop) → Prop
  | [], t, K => K t
  | o :: l, t, K =>
    match gval all t o with
    | some true => (match evHead E t m o.op with
      | some (c, v) => andC c (splitB S o.dst v fun v' => putF t o.dst v' fun t' => wpHead E S all m l t' K)
      | none => False)
    | some false => putF t o.dst (.tup []) fun t' => wpHead E S all m l t' K
    | none => False

def quietOp (q : FuncId → Bool) : Op → Bool
  | .alloc _ => false
  | .box _ _ => false
  | .store _ _ _ => false
  | .buildSlice _ _ _ => false
  | .makeSlice _ _ _ => false
  | .makeMap _ _ => false
  | .insert _ _ _ _ => false
  | .mapUpdate _ _ _ _ => false
  | .call c => (match c.callee with
    | .builtin .append => false
    | .builtin .copy => false
    | .builtin .delete => false
    | .builtin _ => true
    | .value (.func f) => q f
    | _ => false)
  | .convert _ _ _ => true
  | _ => true

def quietN (q : FuncId → Bool) : List Oper → Nat
  | [] => 0
  | o :: l => match quietOp q o.op with | true => quietN q l + 1 | false => 0

def qOf (E : Env) (f : FuncId) : Bool := match E.memf f with | some _ => false | none => true

def allP : List Nat → (Nat → Prop) → Prop
  | [], _ => True
  | [i], g => g i
  | i :: l, g => g i ∧ allP l g

theorem allP_all : ∀ {l : List Nat} {g : Nat → Prop}, allP l g → ∀ i, i ∈ l → g i
  | [], _, _, i, hi => by cases hi
  | [j], g, h, i, hi => by
    have : i = j := by simpa using hi
    subst this
    exact h
  | j :: k :: l, g, h, i, hi => by
    rcases List.mem_cons.1 hi with rfl | hi
    · exact h.1
    · exact allP_all h.2 i hi

/-- a region whose operations come in any order -/
noncomputable def wpFree (E : Env) (S : List Nat) (all : List Oper) : Nat → Array Bool → List AV → Mem → (List AV → Mem → Prop) → Prop
  | 0, listed, t, m, K => (match Region.ready .any all.toArray listed with
    | [] => K t m
    | _ => False)
  | f + 1, listed, t, m, K => (match Region.ready .any all.toArray listed with
    | [] => K t m
    | r => (match pick1 (qOf E) all listed r with
      | some (i, o) => (match gval all t o with
        | some true => (match evEarly E t m o.op with
          | some (c, v) => andC c (splitB S o.dst v fun v' => putF t o.dst v' fun t' => wpFree E S all f (listed.setIfInBounds i true) t' m K)
          | none => False)
        | some false => putF t o.dst (.tup []) fun t' => wpFree E S all f (listed.setIfInBounds i true) t' m K
        | none => False)
      | none => (match pick2 E t m all listed r with
        | some (i, o) => (match gval all t o with
          | some true => (match evAway E t m o.op with
            | some (c, v) => andC c (splitB S o.dst v fun v' => putF t o.dst v' fun t' => wpFree E S all f (listed.setIfInBounds i true) t' m K)
            | none => False)
          | some false => putF t o.dst (.tup []) fun t' => wpFree E S all f (listed.setIfInBounds i true) t' m K
          | none => False)
        | none => allP r fun i => (match all[i]? with
          | some o => (match gval all t o with
            | some true => (match (match softOp (qOf E) o.op with | true => evSoft E t m o.op | false => evStep E t m o.op) with
              | some (c, v, m') => andC c (splitB S o.dst v fun v' => putF t o.dst v' fun t' => wpFree E S all f (listed.setIfInBounds i true) t' m' K)
              | none => False)
            | some false => putF t o.dst (.tup []) fun t' => wpFree E S all f (listed.setIfInBounds i true) t' m K
            | none => False)
          | none => False))))

noncomputable def wpDraw (E : Env) (S : List Nat) (hs : List (Nat × Nat)) (id : Nat) (ops : List Oper) (t : List AV) (m : Mem) (K : List AV → Mem → Prop) : Prop :=
  match headOf hs id with
  | some n =>
    (match Region.lexTailB .any ops.toArray n with
    | true => wpHead E S ops m (ops.take n) t fun t' => wpOps E S ops (ops.drop n) t' m K
    | false => (match Region.noSelect ops.toArray with
      | true => wpFree E S ops ops.length (Array.replicate ops.length false) t m K
      | false => False))
  | none =>
    (match Region.lexB .any ops.toArray with
    | true => wpHead E S ops m ops t fun t' => K t' m
    | false => (match Region.noSelect ops.toArray with
      | true => wpFree E S ops ops.length (Array.replicate ops.length false) t m K
      | false => False))

/-- how a function's results are told: its blocks that are given, and how what is returned is cut out -/
structure RS where
  rs : List ResultVar
  n0 : Nat
  rc : CS

noncomputable def wpRet (E : Env) (rs : RS) (t : List AV) (m : Mem) (Q : AV → Mem → Prop) : Prop :=
  match evResL E t m rs.rs with
  | some (c, vs) => (match canon (!E.lit) rs.rc rs.n0 vs m with
    | some (c2, vs', m') => andC c (andC c2 (Q (pack vs') m'))
    | none => False)
  | none => False

noncomputable def wpRun (E : Env) (S : List Nat) (hs : List (Nat × Nat)) (u : Bool) (rs : RS) (LF : List Item → List AV → Mem → Prop) (Q : AV → Mem → Prop) : Nat → List Item → List AV → Mem → Prop
  | 0, _, _, _ => False
  | n + 1, k, t, m =>
    match k with
    | [] => wpRet E rs t m Q
    | .inBlock _ :: k => wpRun E S hs u rs LF Q n k t m
    | .inLoop b :: k => (match u with
      | true => wpRun E S hs u rs LF Q n (.code b :: .inLoop b :: k) t m
      | false => LF (.code b :: .inLoop b :: k) t m)
    | .code c :: k =>
      (match c with
      | .ret => wpRet E rs t m Q
      | .skip => wpRun E S hs u rs LF Q n k t m
      | .seq x y => wpRun E S hs u rs LF Q n (.code x :: .code y :: k) t m
      | .block id x => wpRun E S hs u rs LF Q n (.code x :: .inBlock id :: k) t m
      | .loop x => (match u with
        | true => wpRun E S hs u rs LF Q n (.code x :: .inLoop x :: k) t m
        | false => LF (.code x :: .inLoop x :: k) t m)
      | .exit id => (match exitTo id k with
        | some k' => wpRun E S hs u rs LF Q n k' t m
        | none => False)
      | .cond x a b => (match getO t x with
        | .one (.b bv) => (match bv with
          | true => wpRun E S hs u rs LF Q n (.code a :: k) t m
          | false => wpRun E S hs u rs LF Q n (.code b :: k) t m)
        | _ => False)
      | .region id ops dr => (match dr with
        | false => (match headOf hs (id + 100000) with
          | some _ => wpOps E S ops.toList ops.toList t m (fun t' m' => LF k t' m')
          | none => wpOps E S ops.toList ops.toList t m (fun t' m' => wpRun E S hs u rs LF Q n k t' m'))
        | true => (match headOf hs (id + 100000) with
        | some _ => wpDraw E S hs id ops.toList t m (fun t' m' => LF k t' m')
        | none => wpDraw E S hs id ops.toList t m (fun t' m' => wpRun E S hs u rs LF Q n k t' m')))
      | _ => False)
    | _ => False

/-- a walk that is still to be made -/
structure KR (X : Ctx) (f n0 : Nat) (Q : AV → Mem → Prop) (k : List Item) (t : List AV) (m : Mem) : Prop where
  run : KRun X f n0 Q k t m

section
variable {X : Ctx} {f n0 : Nat} {Q : AV → Mem → Prop}

theorem wpOps_ok {E : Env} {S : List Nat} (hE : EnvOk X.P E) (hC : CallOk X.P E) {all : List Oper} {K K' : List AV → Mem → Prop} (hK : ∀ t m, K t m → K' t m) :
    ∀ {l : List Oper} {t : List AV} {m : Mem}, wpOps E S all l t m K → LRun X all.toArray l t m K'
  | [], t, m, h => LRun.nil (hK t m h)
  | o :: l, t, m, h => by
    unfold wpOps at h
    split at h
    · rename_i hg
      split at h
      · rename_i c v m' hs
        obtain ⟨h1, h2⟩ := andC_all h
        have h3 := splitB_ok h2
        rw [putF_eq] at h3
        exact LRun.evStep hE hC hs h1 hg (wpOps_ok hE hC hK h3)
      · exact h.elim
    · rename_i hg
      rw [putF_eq] at h
      exact LRun.skip hg (wpOps_ok hE hC hK h)
    · exact h.elim

theorem wpHead_ok {E : Env} {S : List Nat} {wb : World} {p : Pl} (hE : EnvOk X.P E) (hC : CallOk X.P E) {m : Mem} (hb : MR X p m wb) {all : List Oper} {K K' : List AV → Prop} (hK : ∀ t, K t → K' t) :
    ∀ {l : List Oper} {t : List AV}, wpHead E S all m l t K → QRun X p wb all l t m K'
  | [], t, h => QRun.nil (hK t h)
  | o :: l, t, h => by
    unfold wpHead at h
    split at h
    · rename_i hg
      split at h
      · rename_i c v hs
        obtain ⟨h1, h2⟩ := andC_all h
        have h3 := splitB_ok h2
        rw [putF_eq] at h3
        exact QRun.evHead hE hC hb hs h1 hg (wpHead_ok hE hC hb hK h3)
      · exact h.elim
    · rename_i hg
      rw [putF_eq] at h
      exact QRun.skip hg (wpHead_ok hE hC hb hK h)
    · exact h.elim

theorem wpFree_ok {E : Env} {S : List Nat} (hE : EnvOk X.P E) (hC : CallOk X.P E) {all : List Oper} (hsel : Region.noSelect all.toArray = true) {K K' : List AV → Mem → Prop} (hK : ∀ t m, K t m → K' t m) :
    ∀ {f : Nat} {listed : Array Bool} {t : List AV} {m : Mem}, wpFree E S all f listed t m K → GRun X all (qOf E) f listed t m K'
  | 0, listed, t, m, h => by
    unfold wpFree at h
    split at h
    · rename_i h0
      exact GRun.done h0 (hK _ _ h)
    · exact h.elim
  | f + 1, listed, t, m, h => by
    unfold wpFree at h
    split at h
    · rename_i h0
      exact GRun.done h0 (hK _ _ h)
    · rename_i h0
      split at h
      · rename_i i o hp
        obtain ⟨p1, p2, p3⟩ := pick1_ok hp
        split at h
        · rename_i hg
          split at h
          · rename_i c v hev
            obtain ⟨h1, h2⟩ := andC_all h
            have h3 := splitB_ok h2
            rw [putF_eq] at h3
            exact GRun.first hsel p2 p1 p3 (fun p a w hr => evEarly_ok hE hC hev h1 hr (gval_sound hg hr)) (wpFree_ok hE hC hsel hK h3)
          · exact h.elim
        · rename_i hg
          rw [putF_eq] at h
          refine GRun.first hsel p2 p1 p3 (fun p a w hr => ?_) (wpFree_ok hE hC hsel hK h)
          exact ⟨undef, VA.und, .inr ⟨gval_sound hg hr, rfl⟩⟩
        · exact h.elim
      · split at h
        · rename_i i o hp
          obtain ⟨p1, p2, p3⟩ := pick2_ok hp
          split at h
          · rename_i hg
            split at h
            · rename_i c v hev
              obtain ⟨h1, h2⟩ := andC_all h
              have h3 := splitB_ok h2
              rw [putF_eq] at h3
              exact GRun.first2 hsel p2 p1 p3 (fun p a w hr => evAway_ok hE hC hev h1 hr (gval_sound hg hr)) (wpFree_ok hE hC hsel hK h3)
            · exact h.elim
          · rename_i hg
            rw [putF_eq] at h
            refine GRun.first2 hsel p2 p1 p3 (fun p a w hr => ?_) (wpFree_ok hE hC hsel hK h)
            exact ⟨undef, VA.und, .inr ⟨gval_sound hg hr, rfl⟩⟩
          · exact h.elim
        · refine GRun.each (fun e => h0 e) fun i hi => ?_
          have h := allP_all h i hi
          split at h
          · rename_i o ho
            refine ⟨o, ho, ?_⟩
            split at h
            · rename_i hg
              split at h
              · rename_i c v m' hev
                obtain ⟨h1, h2⟩ := andC_all h
                have h3 := splitB_ok h2
                rw [putF_eq] at h3
                refine .inr ⟨hg, v, m', ?_, wpFree_ok hE hC hsel hK h3⟩
                split at hev
                · rename_i hs
                  rw [hs]
                  exact GOp.soft hE hC hev h1
                · rename_i hs
                  rw [hs]
                  exact GOp.step hE hC hev h1
              · exact h.elim
            · rename_i hg
              rw [putF_eq] at h
              exact .inl ⟨hg, wpFree_ok hE hC hsel hK h⟩
            · exact h.elim
          · exact h.elim

theorem wpDraw_ok {E : Env} {S : List Nat} (hE : EnvOk X.P E) (hC : CallOk X.P E) (hm : X.P.follows .mixedOrders = true) {hs : List (Nat × Nat)} {id : Nat} {ops : Array Oper} {k : List Item} {t : List AV} {m : Mem} {K : List AV → Mem → Prop}
    (hK : ∀ t m, K t m → KRun X f n0 Q k t m) (h : wpDraw E S hs id ops.toList t m K) : KRun X f n0 Q (.code (.region id ops true) :: k) t m := by
  have hops : ops.toList.toArray = ops := Array.toArray_toList
  unfold wpDraw at h
  split at h
  · rename_i n _
    split at h
    · rename_i hB
      rw [← hops]
      refine KRun.drawTail n hm hB fun p wb hb => ?_
      exact wpHead_ok hE hC hb (fun t h => wpOps_ok hE hC hK h) h
    · split at h
      · rename_i hs
        rw [← hops]
        exact KRun.free hm (wpFree_ok hE hC hs hK h)
      · exact h.elim
  · split at h
    · rename_i hB
      rw [← hops]
      exact KRun.drawAll hm hB fun p wb hb => wpHead_ok hE hC hb (fun t h => hK t m h) h
    · split at h
      · rename_i hs
        rw [← hops]
        exact KRun.free hm (wpFree_ok hE hC hs hK h)
      · exact h.elim

theorem wpRet_ok {E : Env} (hE : EnvOk X.P E) {fn : Func} {c : Code} (hf : FnOk X.P f fn c) {t : List AV} {m : Mem} {rc : CS} (h : wpRet E ⟨fn.results.toList, n0, rc⟩ t m Q) : ∃ r m', resOK2 X f n0 t m r m' ∧ Q r m' := by
  unfold wpRet at h
  split at h
  · rename_i c vs h1
    split at h
    · rename_i c2 vs' m' h4
      obtain ⟨h2, h3⟩ := andC_all h
      obtain ⟨h5, h6⟩ := andC_all h3
      exact ⟨_, _, evResL_res2 hE hf h1 h2 h4 h5, h6⟩
    · exact h.elim
  · exact h.elim

theorem wpRun_ok {E : Env} {S : List Nat} (hE : EnvOk X.P E) (hC : CallOk X.P E) (hm : X.P.follows .mixedOrders = true) {fn : Func} {c : Code} (hf : FnOk X.P f fn c) {hs : List (Nat × Nat)} {u : Bool} {LF : List Item → List AV → Mem → Prop} {rc : CS}
    (hL : ∀ k t m, LF k t m → KRun X f n0 Q k t m) : ∀ {n : Nat} {k : List Item} {t : List AV} {m : Mem}, wpRun E S hs u ⟨fn.results.toList, n0, rc⟩ LF Q n k t m → KRun X f n0 Q k t m
  | 0, k, t, m, h => h.elim
  | n + 1, k, t, m, h => by
    unfold wpRun at h
    split at h
    · obtain ⟨r, m', h1, h2⟩ := wpRet_ok hE hf h
      exact KRun.nil2 h1 h2
    · exact KRun.inBlock (wpRun_ok hE hC hm hf hL h)
    · split at h
      · exact KRun.inLoop (wpRun_ok hE hC hm hf hL h)
      · exact KRun.inLoop (hL _ _ _ h)
    · split at h
      · obtain ⟨r, m', h1, h2⟩ := wpRet_ok hE hf h
        exact KRun.ret2 h1 h2
      · exact KRun.skip (wpRun_ok hE hC hm hf hL h)
      · exact KRun.seq (wpRun_ok hE hC hm hf hL h)
      · exact KRun.block (wpRun_ok hE hC hm hf hL h)
      · split at h
        · exact KRun.loop1 (wpRun_ok hE hC hm hf hL h)
        · exact KRun.loop1 (hL _ _ _ h)
      · split at h
        · rename_i k1 he
          exact KRun.exit he (wpRun_ok hE hC hm hf hL h)
        · exact h.elim
      · split at h
        · rename_i x a b _ bv hx
          have hcond : ∀ (p : Pl) (ac : Act) (w : World), Rel X p t m ac w → ac.eval x = .bool bv := fun p ac w hr => by
            have := getO_ok hr.slots x
            rw [hx] at this
            exact VA.bool this
          split at h
          · exact KRun.cond (bv := true) hcond (wpRun_ok hE hC hm hf hL h)
          · exact KRun.cond (bv := false) hcond (wpRun_ok hE hC hm hf hL h)
        · exact h.elim
      · rename_i id ops dr
        split at h
        · split at h
          · refine KRun.region ?_
            have := wpOps_ok (K' := KRun X f n0 Q _) hE hC (fun t m h => hL _ _ _ h) h
            rwa [Array.toArray_toList] at this
          · refine KRun.region ?_
            have := wpOps_ok (K' := KRun X f n0 Q _) hE hC (fun t m h => wpRun_ok hE hC hm hf hL h) h
            rwa [Array.toArray_toList] at this
        · split at h
          · exact wpDraw_ok hE hC hm (fun t m h => hL _ _ _ h) h
          · exact wpDraw_ok hE hC hm (fun t m h => wpRun_ok hE hC hm hf hL h) h
      · exact h.elim
    · exact h.elim
end

/-! Loops, by number -/

def loopsC : Code → List Item → List (List Item)
  | .seq x y, k => loopsC x (.code y :: k) ++ loopsC y k
  | .block id x, k => loopsC x (.inBlock id :: k)
  | .cond _ x y, k => loopsC x k ++ loopsC y k
  | .loop x, k => (.code x :: .inLoop x :: k) :: loopsC x (.inLoop x :: k)
  | _, _ => []

noncomputable def kOf (f : Func) (i : Nat) : List Item := gt [] (loopsC (bodyOf f) []) i

/-- what comes behind each region -/
def regsC : Code → List Item → List (Nat × List Item)
  | .seq x y, k => regsC x (.code y :: k) ++ regsC y k
  | .block id x, k => regsC x (.inBlock id :: k)
  | .cond _ x y, k => regsC x k ++ regsC y k
  | .loop x, k => regsC x (.inLoop x :: k)
  | .region id _ _, k => [(id, k)]
  | _, _ => []

/-- the number of the region that stands first -/
def firstR : Code → Nat
  | .seq x _ => firstR x
  | .block _ x => firstR x
  | .loop x => firstR x
  | .region id _ _ => id
  | _ => 0

def firstK : List Item → Nat
  | .code c :: _ => firstR c
  | _ => 0

def findL {α : Type} (d : α) : List (Nat × α) → Nat → α
  | [], _ => d
  | (i, b) :: l, n => if Nat.beq i n then b else findL d l n

noncomputable def kCut (f : Func) (id : Nat) : List Item := findL [] (regsC (bodyOf f) []) id

/-- at a loop: what lives on, and how it is cut out -/
structure LS where
  live : List Nat
  cs : CS

def LK (X : Ctx) (f n0 : Nat) (Q : AV → Mem → Prop) (d : Bool) (lives : List (Nat × LS)) (k : List Item) (t : List AV) (m : Mem) : Prop :=
  match findL ⟨[], { kinds := [], fl := [] }⟩ lives (firstK k) with
  | ls => (match canon d ls.cs n0 (keepF ls.live t 0) m with
    | some (c, t', m') => andC c (KR X f n0 Q k t' m')
    | none => False)

theorem KRun.canon {X : Ctx} {f n0 : Nat} {Q : AV → Mem → Prop} {d : Bool} {c : CS} {k : List Item} {t t' : List AV} {m m' : Mem} {cs : List Prop} (h : canon d c n0 t m = some (cs, t', m')) (hc : AllC cs) (hk : KRun X f n0 Q k t' m') : KRun X f n0 Q k t m := by
  intro hn p a w hr b fs hb hkd
  obtain ⟨p', h1, h2, h3, h4⟩ := canon_ok h hc hr.slots hr.mem
  obtain ⟨fr, w', v, r, m2, p2, g1, g2, g3, g4, g5⟩ := hk h1 p' a w ⟨hr.defers, h3, h4⟩ b fs hb hkd
  exact ⟨fr, w', v, r, m2, p2, g1, g2, g3, (h2 hn).trans g4 (Nat.le_refl _), g5⟩

theorem LK_ok {X : Ctx} {f n0 : Nat} {Q : AV → Mem → Prop} {d : Bool} {lives : List (Nat × LS)} : ∀ k t m, LK X f n0 Q d lives k t m → KRun X f n0 Q k t m := by
  intro k t m h
  unfold LK at h
  dsimp only at h
  split at h
  · rename_i c t' m' hcn
    obtain ⟨h1, h2⟩ := andC_all h
    exact KRun.keep _ (KRun.canon hcn h1 h2.run)
  · exact h.elim

end DH
