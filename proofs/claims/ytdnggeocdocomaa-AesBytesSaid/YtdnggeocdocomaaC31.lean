/- The layer: calls, contracts, walks of whole functions by evaluation. -/
import Derived.Test.YtdnggeocdocomaaC3
set_option linter.unusedVariables false
set_option linter.unusedSimpArgs false
namespace DH
open Go

/-! A part of memory cut out, its blocks named anew. -/

def renC1 (τ : Nat → Option Nat) : AC → AC
  | .ptr i o => (match τ i with | some j => .ptr j o | none => .any)
  | .sv i o n => (match τ i with | some j => .sv j o n | none => .any)
  | .gs i n e => (match τ i with | some j => .gs j n e | none => .any)
  | .fn f [] => .fn f []
  | .fn _ _ => .any
  | .any => .any
  | .u8 x => .u8 x
  | .u16 x => .u16 x
  | .u32 x => .u32 x
  | .u64 x => .u64 x
  | .i64 n => .i64 n
  | .i32 n => .i32 n
  | .b x => .b x
  | .s x => .s x
  | .f n => .f n
  | .np => .np
  | .ns => .ns
  | .nf => .nf
  | .xp r o => .xp r o
  | .xs r o n => .xs r o n

def mapF {α β : Type} (f : α → β) : List α → List β
  | [] => []
  | x :: l => f x :: mapF f l

theorem mapF_eq {α β : Type} (f : α → β) : ∀ l : List α, mapF f l = l.map f
  | [] => rfl
  | x :: l => by simp [mapF, mapF_eq f l]

def renC (τ : Nat → Option Nat) : AC → AC
  | .fn f cap => .fn f (mapF (renC1 τ) cap)
  | c => renC1 τ c

def renV (τ : Nat → Option Nat) : AV → AV
  | .any => .any
  | .one c => .one (renC τ c)
  | .agg cs => .agg (mapF (renC τ) cs)
  | .tup vs => .tup (mapF (fun v => match v with | .one c => .one (renC τ c) | .agg cs => .agg (mapF (renC τ) cs) | _ => .any) vs)

/-- places that go together under a naming -/
def Goes (N N' : Nat) (p p' : Pl) (τ : Nat → Option Nat) : Prop := ∀ i j, τ i = some j → i < N → j < N' ∧ p'.at_ j = p.at_ i ∧ p'.sz j = p.sz i

theorem VR.ren1 {X Y : Ctx} (hXY : Carries X Y) {N N' : Nat} {p p' : Pl} {τ : Nat → Option Nat} (h : Goes N N' p p' τ) {c : AC} {v : Value} (hv : VR X N p c v) : VR Y N' p' (renC1 τ c) v := by
  cases hv with
  | any v h => exact .any v h
  | u8 x => exact .u8 x
  | u16 x => exact .u16 x
  | u32 x => exact .u32 x
  | u64 x => exact .u64 x
  | i64 n => exact .i64 n
  | i32 n => exact .i32 n
  | b x => exact .b x
  | s x s h => exact .s x s h
  | f n => exact .f n
  | np => exact .np
  | ns => exact .ns
  | nf => exact .nf
  | ptr i o hi =>
    cases hτ : τ i with
    | none => simp only [renC1, hτ]; exact .any _ rfl
    | some j => simp only [renC1, hτ]; obtain ⟨h1, h2, _⟩ := h i j hτ hi; rw [← h2]; exact .ptr j o h1
  | sv i o n c b o' hc hor =>
    cases hτ : τ i with
    | none => simp only [renC1, hτ]; exact .any _ rfl
    | some j => simp only [renC1, hτ]; exact .sv j o n c b o' hc (hor.imp id fun ⟨h1, h2, h3⟩ => ⟨(h i j hτ h1).1, by rw [(h i j hτ h1).2.1]; exact h2, h3⟩)
  | svn i o =>
    cases hτ : τ i with
    | none => simp only [renC1, hτ]; exact .any _ rfl
    | some j => simp only [renC1, hτ]; exact .svn j o
  | gs i n e c hi hc hz =>
    cases hτ : τ i with
    | none => simp only [renC1, hτ]; exact .any _ rfl
    | some j => simp only [renC1, hτ]; obtain ⟨h1, h2, h3⟩ := h i j hτ hi; rw [← h2]; exact .gs j n e c h1 hc (by rw [h3]; exact hz)
  | gsn i e =>
    cases hτ : τ i with
    | none => simp only [renC1, hτ]; exact .any _ rfl
    | some j => simp only [renC1, hτ]; exact .gsn j e
  | xp row o b k g p0 hb hr hv => exact .xp row o b k g p0 (hXY b hb).1 (fun j c hj => by rw [hXY.cell hb]; exact hr j c hj) (fun j c hj => (hv j c hj).carry0 hXY rfl 0 p0)
  | xs row o n c b k b' o' g p0 hb hr hv hc =>
    refine .xs row o n c b k b' o' g p0 (hb.imp id fun ⟨h1, h2⟩ => ⟨(hXY b h1).1, h2⟩) ?_ (fun j c hj => (hv j c hj).carry0 hXY rfl 0 p0) hc
    rcases hb with h0 | ⟨h1, _⟩
    · exact .inl h0
    · exact hr.imp id fun hr j c hj => by rw [hXY.cell h1]; exact hr j c hj
  | xsn row o => exact .xsn row o
  | xs0 row o c a => exact .xs0 row o c a
  | fn f cap g hv =>
    cases cap with
    | nil => exact .fn f [] g fun j c hj => by simp at hj
    | cons a l => exact .any _ rfl

theorem VR.ren {X Y : Ctx} (hXY : Carries X Y) {N N' : Nat} {p p' : Pl} {τ : Nat → Option Nat} (h : Goes N N' p p' τ) {c : AC} {v : Value} (hv : VR X N p c v) : VR Y N' p' (renC τ c) v := by
  cases c with
  | fn f cap =>
    cases hv with
    | fn _ _ g hv =>
      have : cap.length = (mapF (renC1 τ) cap).length := by rw [mapF_eq]; simp
      rw [this]
      refine .fn f (mapF (renC1 τ) cap) g fun j c hj => ?_
      rw [mapF_eq, List.getElem?_map] at hj
      cases hc : cap[j]? with
      | none => rw [hc] at hj; cases hj
      | some d =>
        rw [hc] at hj
        simp only [Option.map_some, Option.some.injEq] at hj
        subst hj
        exact (hv j d hc).ren1 hXY h
  | _ => exact hv.ren1 hXY h

/-- a row without names goes as it is -/
theorem VR.flatTo {X Y : Ctx} (hXY : Carries X Y) {N : Nat} {p : Pl} {c : AC} {v : Value} (hv : VR X N p c v) (hc : c.flat = true) (M : Nat) (q : Pl) : VR Y M q c v := hv.carry hXY hc M q

theorem VL.ren {X Y : Ctx} (hXY : Carries X Y) {N N' : Nat} {p p' : Pl} {τ : Nat → Option Nat} (h : Goes N N' p p' τ) {cs : List AC} {l : List Value} (hv : VL X N p cs l) : VL Y N' p' (mapF (renC τ) cs) l := by
  refine ⟨by rw [mapF_eq]; simp [hv.1], fun j c u h1 h2 => ?_⟩
  rw [mapF_eq, List.getElem?_map] at h1
  cases hc : cs[j]? with
  | none => rw [hc] at h1; cases h1
  | some d =>
    rw [hc] at h1
    simp only [Option.map_some, Option.some.injEq] at h1
    subst h1
    exact (hv.2 j d u hc h2).ren hXY h

theorem VA.ren {X Y : Ctx} (hXY : Carries X Y) {N N' : Nat} {p p' : Pl} {τ : Nat → Option Nat} (h : Goes N N' p p' τ) {a : AV} {v : Value} (hv : VA X N p a v) : VA Y N' p' (renV τ a) v := by
  cases hv with
  | any v => exact .any v
  | one c v hv => exact .one _ _ (hv.ren hXY h)
  | agg cs l hv => exact .agg _ _ (hv.ren hXY h)
  | tup vs l hl hv =>
    refine .tup _ l (by rw [mapF_eq]; simp [hl]) fun j c hj => ?_
    rw [mapF_eq, List.getElem?_map] at hj
    cases hc : vs[j]? with
    | none => rw [hc] at hj; cases hj
    | some d =>
      rw [hc] at hj
      simp only [Option.map_some, Option.some.injEq] at hj
      subst hj
      have := hv j d hc
      generalize l.getD j undef = u at this ⊢
      cases this with
      | any v => exact .any _
      | one c v hv => exact .one _ _ (hv.ren hXY h)
      | agg cs l hv => exact .agg _ _ (hv.ren hXY h)
      | tup => exact .any _

/-! Which blocks: those of some values, and what these name, in order. -/

def memN (n : Nat) : List Nat → Bool
  | [] => false
  | k :: l => if Nat.beq n k then true else memN n l

theorem memN_iff {n : Nat} : ∀ {l : List Nat}, memN n l = true ↔ n ∈ l
  | [] => by simp [memN]
  | k :: l => by
    unfold memN
    by_cases h : n = k
    · subst h; simp
    · have : Nat.beq n k = false := by rw [Bool.eq_false_iff]; intro e; exact h (beq_true e)
      simp [this, memN_iff, h]

def addId (m : Mem) (i : Nat) (σ : List Nat) : List Nat :=
  match memN i σ with
  | true => σ
  | false => (match gt none m i with | some _ => σ ++ [i] | none => σ)

def addC1 (m : Mem) (c : AC) (σ : List Nat) : List Nat :=
  match c with
  | .ptr i _ => addId m i σ
  | .sv i _ _ => addId m i σ
  | .gs i _ _ => addId m i σ
  | _ => σ

def addCs1 (m : Mem) : List AC → List Nat → List Nat
  | [], σ => σ
  | c :: l, σ => addCs1 m l (addC1 m c σ)

def addC (m : Mem) (c : AC) (σ : List Nat) : List Nat :=
  match c with
  | .fn _ cap => addCs1 m cap σ
  | c => addC1 m c σ

def addCs (m : Mem) : List AC → List Nat → List Nat
  | [], σ => σ
  | c :: l, σ => addCs m l (addC m c σ)

def addV (m : Mem) (v : AV) (σ : List Nat) : List Nat :=
  match v with
  | .one c => addC m c σ
  | .agg cs => addCs m cs σ
  | .tup vs => addT vs σ
  | .any => σ
where addT : List AV → List Nat → List Nat
  | [], σ => σ
  | v :: l, σ => addT l (match v with | .one c => addC m c σ | .agg cs => addCs m cs σ | _ => σ)

def addVs (m : Mem) : List AV → List Nat → List Nat
  | [], σ => σ
  | v :: l, σ => addVs m l (addV m v σ)

/-- n: how many more blocks; d: is a block without names where nothing is told? -/
def closeS (m : Mem) (d : Bool) (fl : List Bool) : Nat → Nat → List Nat → List Nat
  | 0, _, σ => σ
  | n + 1, j, σ =>
    match σ[j]? with
    | none => σ
    | some i => (match gt d fl j with
      | true => closeS m d fl n (j + 1) σ
      | false => (match gt none m i with
        | some row => closeS m d fl n (j + 1) (addCs m row σ)
        | none => closeS m d fl n (j + 1) σ))

def posF : List Nat → Nat → Nat → Option Nat
  | [], _, _ => none
  | k :: l, i, j => if Nat.beq k i then some j else posF l i (j + 1)

theorem posF_some : ∀ {l : List Nat} {i j n : Nat}, posF l i j = some n → j ≤ n ∧ l[n - j]? = some i
  | [], i, j, n, h => by cases h
  | k :: l, i, j, n, h => by
    unfold posF at h
    split at h
    · rename_i e
      injection h with h
      subst h
      exact ⟨Nat.le_refl _, by simp [beq_true e]⟩
    · obtain ⟨h1, h2⟩ := posF_some h
      refine ⟨by omega, ?_⟩
      rw [show n - j = (n - (j + 1)) + 1 by omega, List.getElem?_cons_succ]
      exact h2

theorem posF0 {l : List Nat} {i n : Nat} (h : posF l i 0 = some n) : l[n]? = some i := by simpa using (posF_some h).2

def nodupB : List Nat → Bool
  | [] => true
  | k :: l => !(memN k l) && nodupB l

theorem nodupB_ok : ∀ {l : List Nat}, nodupB l = true → ∀ (i j a : Nat), l[i]? = some a → l[j]? = some a → i = j
  | [], _, i, j, a, h, _ => by simp at h
  | k :: l, h, i, j, a, hi, hj => by
    simp only [nodupB, Bool.and_eq_true, Bool.not_eq_true'] at h
    have hn : k ∉ l := fun hk => by rw [memN_iff.2 hk] at h; exact absurd h.1 (by simp)
    cases i with
    | zero =>
      cases j with
      | zero => rfl
      | succ j =>
        simp at hi hj
        subst hi
        exact absurd (List.mem_of_getElem? hj) hn
    | succ i =>
      cases j with
      | zero =>
        simp at hi hj
        subst hj
        exact absurd (List.mem_of_getElem? hi) hn
      | succ j =>
        rw [nodupB_ok h.2 i j a (by simpa using hi) (by simpa using hj)]

def prefB : Nat → Nat → List Nat → Bool
  | 0, _, _ => true
  | n + 1, k, i :: l => Nat.beq i k && prefB n (k + 1) l
  | _ + 1, _, [] => false

theorem prefB_ok : ∀ {n k : Nat} {l : List Nat}, prefB n k l = true → ∀ j, j < n → l[j]? = some (k + j)
  | 0, k, l, _, j, hj => by omega
  | n + 1, k, [], h, j, hj => by cases h
  | n + 1, k, i :: l, h, j, hj => by
    simp only [prefB, Bool.and_eq_true] at h
    cases j with
    | zero => simp [beq_true h.1]
    | succ j => rw [List.getElem?_cons_succ, prefB_ok h.2 j (by omega)]; congr 1; omega

def iotaF : Nat → Nat → List Nat
  | 0, _ => []
  | n + 1, k => k :: iotaF n (k + 1)

/-- the blocks, named anew -/
def pickB (d : Bool) (m : Mem) (τ : Nat → Option Nat) (fl : List Bool) : List Nat → Nat → Mem
  | [], _ => []
  | i :: σ, j => (match gt none m i with
    | some row => (match gt d fl j with | true => some row | false => some (mapF (renC τ) row))
    | none => none) :: pickB d m τ fl σ (j + 1)

/-- what is asked of blocks that are told to hold no names -/
def flatsP (d : Bool) (m : Mem) (fl : List Bool) : List Nat → Nat → List Prop
  | [], _ => []
  | i :: σ, j => match gt none m i with
    | some row => (match gt d fl j with | true => Flat row :: flatsP d m fl σ (j + 1) | false => flatsP d m fl σ (j + 1))
    | none => flatsP d m fl σ (j + 1)

theorem flatsP_ok {d : Bool} {m : Mem} {fl : List Bool} : ∀ {σ : List Nat} {k : Nat}, AllC (flatsP d m fl σ k) → ∀ j i row, σ[j]? = some i → m[i]? = some (some row) → gt d fl (k + j) = true → Flat row
  | [], k, _, j, i, row, hj, _, _ => by simp at hj
  | a :: σ, k, h, j, i, row, hj, hm, hf => by
    unfold flatsP at h
    cases j with
    | zero =>
      simp at hj
      subst hj
      have : gt none m a = some row := by rw [gt_eq, hm]; rfl
      rw [this] at h
      simp only [Nat.add_zero] at hf
      rw [hf] at h
      exact h.1
    | succ j =>
      have hrest : AllC (flatsP d m fl σ (k + 1)) := by
        split at h
        · split at h
          · exact h.2
          · exact h
        · exact h
      exact flatsP_ok hrest j i row (by simpa using hj) hm (by rw [show k + 1 + j = k + (j + 1) by omega]; exact hf)

theorem pickB_get {d : Bool} {m : Mem} {τ : Nat → Option Nat} {fl : List Bool} : ∀ {σ : List Nat} {k j : Nat} {row : List AC}, (pickB d m τ fl σ k)[j]? = some (some row) →
    ∃ i r, σ[j]? = some i ∧ m[i]? = some (some r) ∧ ((gt d fl (k + j) = true ∧ row = r) ∨ (gt d fl (k + j) = false ∧ row = mapF (renC τ) r))
  | [], k, j, row, h => by simp [pickB] at h
  | a :: σ, k, j, row, h => by
    unfold pickB at h
    cases j with
    | zero =>
      simp only [List.getElem?_cons_zero, Option.some.injEq] at h
      split at h
      · rename_i r hr
        refine ⟨a, r, rfl, gt_mem hr, ?_⟩
        split at h
        · rename_i hf
          injection h with h
          exact .inl ⟨by simpa using hf, h.symm⟩
        · rename_i hf
          injection h with h
          exact .inr ⟨by simpa using hf, h.symm⟩
      · cases h
    | succ j =>
      obtain ⟨i, r, h1, h2, h3⟩ := pickB_get (k := k + 1) (by simpa using h)
      exact ⟨i, r, by simpa using h1, h2, by rw [show k + (j + 1) = k + 1 + j by omega]; exact h3⟩

theorem pickB_length {d : Bool} {m : Mem} {τ : Nat → Option Nat} {fl : List Bool} : ∀ (σ : List Nat) (k : Nat), (pickB d m τ fl σ k).length = σ.length
  | [], _ => rfl
  | a :: σ, k => by simp [pickB, pickB_length σ (k + 1)]

def Pl.cut (p : Pl) (σ : List Nat) : Pl := ⟨fun j => p.at_ (gt 0 σ j), fun j => p.sz (gt 0 σ j)⟩

theorem Pl.cut_at {p : Pl} {σ : List Nat} {j i : Nat} (h : σ[j]? = some i) : (p.cut σ).at_ j = p.at_ i ∧ (p.cut σ).sz j = p.sz i := by
  have : gt 0 σ j = i := by rw [gt_eq, h]; rfl
  simp [Pl.cut, this]

theorem Goes.cut (N : Nat) (p : Pl) (σ : List Nat) : Goes N σ.length p (p.cut σ) (fun i => posF σ i 0) := by
  intro i j hij _
  have h := posF0 hij
  exact ⟨(List.getElem?_eq_some_iff.1 h).1, (Pl.cut_at h).1, (Pl.cut_at h).2⟩

/-- rows of a cut: they are as they were -/
theorem BlkAt.cut {X Y : Ctx} (hXY : Carries X Y) {m : Mem} {p : Pl} {w : World} {d : Bool} {fl : List Bool} {σ : List Nat} {b z j i : Nat} {row r : List AC} (hb : BlkAt X m.length p w b z r) (hi : σ[j]? = some i) (hm : m[i]? = some (some r)) (hfl : AllC (flatsP d m fl σ 0))
    (h : (gt d fl (0 + j) = true ∧ row = r) ∨ (gt d fl (0 + j) = false ∧ row = mapF (renC fun i => posF σ i 0) r)) : BlkAt Y σ.length (p.cut σ) w b z row := by
  obtain ⟨cs, ty, fr, h1, h2, h3, h4, h5⟩ := hb.ex
  rcases h with ⟨hf, rfl⟩ | ⟨_, rfl⟩
  · refine ⟨cs, ty, fr, h1, h2, h3, h4, fun k c u g1 g2 => ?_⟩
    exact (h5 k c u g1 g2).carry hXY (flatsP_ok hfl j i row hi hm hf c (List.mem_of_getElem? g1)) _ _
  · refine ⟨cs, ty, fr, h1, h2, by rw [mapF_eq]; simpa using h3, h4, fun k c u g1 g2 => ?_⟩
    rw [mapF_eq, List.getElem?_map] at g1
    cases hc : r[k]? with
    | none => rw [hc] at g1; cases g1
    | some e =>
      rw [hc] at g1
      simp only [Option.map_some, Option.some.injEq] at g1
      subst g1
      exact (h5 k e u hc g2).ren hXY (Goes.cut _ p σ)

theorem Carries.refl (X : Ctx) : Carries X X := fun _ h => ⟨h, rfl⟩

theorem MR.cut {X : Ctx} {m : Mem} {p : Pl} {w : World} (h : MR X p m w) {d : Bool} {fl : List Bool} {σ : List Nat} (hn : nodupB σ = true) (hfl : AllC (flatsP d m fl σ 0)) : MR X (p.cut σ) (pickB d m (fun i => posF σ i 0) fl σ 0) w := by
  have hd := nodupB_ok hn
  refine ⟨h.os, h.tape, h.output, h.size, h.keep, ?_, ?_, ?_⟩
  · intro j row hj
    obtain ⟨i, r, h1, h2, h3⟩ := pickB_get hj
    rw [pickB_length, (Pl.cut_at h1).1, (Pl.cut_at h1).2]
    rcases h.blk i r h2 with ⟨hz, rfl⟩ | ⟨hz, hb⟩
    · refine .inl ⟨hz, ?_⟩
      rcases h3 with ⟨_, rfl⟩ | ⟨_, rfl⟩ <;> rfl
    · exact .inr ⟨hz, hb.cut (Carries.refl X) h1 h2 hfl h3⟩
  · intro j row hj hz
    obtain ⟨i, r, h1, h2, h3⟩ := pickB_get hj
    rw [(Pl.cut_at h1).2] at hz
    rw [(Pl.cut_at h1).1]
    exact h.new i r h2 hz
  · intro j k r s hj hk hzj hzk e
    obtain ⟨i, r1, h1, h2, _⟩ := pickB_get hj
    obtain ⟨l, r2, g1, g2, _⟩ := pickB_get hk
    rw [(Pl.cut_at h1).2] at hzj
    rw [(Pl.cut_at g1).2] at hzk
    rw [(Pl.cut_at h1).1, (Pl.cut_at g1).1] at e
    have := h.inj i l r1 r2 h2 g2 hzj hzk e
    subst this
    exact hd j k i h1 g1

/-! Nil slices that are to be rows -/

def nilFix (kinds : List (Nat × Nat)) (t : List AV) (m : Mem) : List AV × Mem :=
  match kinds with
  | [] => (t, m)
  | (s, k) :: l => (match gt .any t s with
    | .one .ns => (match k with
      | 0 => nilFix l (t.set s (.one (.xs [] 0 0))) m
      | e + 1 => nilFix l (t.set s (.one (.gs (lenF m) 0 e))) (m ++ [some []]))
    | _ => nilFix l t m)

theorem SR.set' {X : Ctx} {N : Nat} {p : Pl} {t : List AV} {a : Array Value} (h : SR X N p t a) (n : Nat) {v : AV} (hv : ∀ u, VA X N p (gt .any t n) u → VA X N p v u) : SR X N p (t.set n v) a := by
  refine ⟨by simp [h.1], fun j v' u' h1 h2 => ?_⟩
  rw [List.getElem?_set] at h1
  by_cases hj : n = j
  · subst hj
    simp only [if_true] at h1
    split at h1
    · injection h1 with h1
      subst h1
      rename_i hn
      have h3 : t[n]? = some t[n] := List.getElem?_eq_getElem hn
      have := h.2 n _ u' h3 h2
      apply hv
      rw [gt_eq, h3]
      exact this
    · cases h1
  · simp only [hj, if_false] at h1
    exact h.2 j v' u' h1 h2

theorem nilFix_ok {X : Ctx} {w : World} : ∀ {kinds : List (Nat × Nat)} {t t' : List AV} {m m' : Mem} {p : Pl} {a : Array Value}, nilFix kinds t m = (t', m') → SR X m.length p t a → MR X p m w →
    ∃ p', Ext m.length p p' ∧ m.length ≤ m'.length ∧ SR X m'.length p' t' a ∧ MR X p' m' w
  | [], t, t', m, m', p, a, h, hs, hm => by
    obtain ⟨rfl, rfl⟩ := Prod.mk.inj h
    exact ⟨p, .refl _ _, Nat.le_refl _, hs, hm⟩
  | (s, k) :: l, t, t', m, m', p, a, h, hs, hm => by
    unfold nilFix at h
    split at h
    · rename_i hv
      cases k with
      | zero =>
        exact nilFix_ok (kinds := l) h (hs.set' s (v := .one (.xs [] 0 0)) (fun u hu => by rw [hv] at hu; have := hu.one_inv; cases this; exact .one _ _ (.xsn _ _))) hm
      | succ e =>
        have hm2 := hm.snoc0 0
        have hE : Ext m.length p (p.put m.length 0 0) := .put _ _ _ _
        have hl : (m ++ [some ([] : List AC)]).length = m.length + 1 := by simp
        have hs2 : SR X (m ++ [some ([] : List AC)]).length (p.put m.length 0 0) (t.set s (.one (.gs (lenF m) 0 e))) a :=
          (hs.mono (by omega) hE).set' s (fun u hu => by rw [hv] at hu; have := hu.one_inv; cases this; exact .one _ _ (.gsn _ _))
        obtain ⟨p', h1, h2, h3, h4⟩ := nilFix_ok (kinds := l) h hs2 hm2
        exact ⟨p', hE.trans h1 (by omega), by omega, h3, h4⟩
    · exact nilFix_ok (kinds := l) h hs hm

def forceL {α β : Type} : List α → (List α → β) → β
  | [], k => k []
  | x :: l, k => forceL l fun l' => k (x :: l')

theorem forceL_eq {α β : Type} : ∀ (l : List α) (k : List α → β), forceL l k = k l
  | [], k => rfl
  | x :: l, k => by simp [forceL, forceL_eq l]

/-! Cells behind a pointer that are to be rows -/

theorem MR.recell {X : Ctx} {p : Pl} {m : Mem} {w : World} (h : MR X p m w) {i : Nat} {row : List AC} (hi : m[i]? = some (some row)) {j : Nat} {c : AC} (hc : ∀ v, VR X m.length p (gt .any row j) v → VR X m.length p c v) : MR X p (m.set i (some (row.set j c))) w := by
  have hN : (m.set i (some (row.set j c))).length = m.length := by simp
  have hilt := (List.getElem?_eq_some_iff.1 hi).1
  have hcase : ∀ (k : Nat) (r : List AC), (m.set i (some (row.set j c)))[k]? = some (some r) → (k = i ∧ r = row.set j c) ∨ (k ≠ i ∧ m[k]? = some (some r)) := by
    intro k r hk
    rw [List.getElem?_set] at hk
    by_cases e : i = k
    · subst e; rw [if_pos rfl, if_pos hilt] at hk; injection hk with hk; injection hk with hk; exact .inl ⟨rfl, hk.symm⟩
    · rw [if_neg e] at hk; exact .inr ⟨fun e' => e e'.symm, hk⟩
  have hold : ∀ (k : Nat) (r : List AC), (m.set i (some (row.set j c)))[k]? = some (some r) → ∃ r0, m[k]? = some (some r0) := by
    intro k r hk
    rcases hcase k r hk with ⟨rfl, _⟩ | ⟨_, hk⟩
    · exact ⟨row, hi⟩
    · exact ⟨r, hk⟩
  refine ⟨h.os, h.tape, h.output, h.size, h.keep, ?_, ?_, ?_⟩
  · intro k r hk
    rw [hN]
    rcases hcase k r hk with ⟨rfl, rfl⟩ | ⟨_, hk⟩
    · rcases h.blk k row hi with ⟨hz, rfl⟩ | ⟨hz, hb⟩
      · exact .inl ⟨hz, rfl⟩
      · obtain ⟨vs, ty, fr, h1, h2, h3, h4, h5⟩ := hb.ex
        refine .inr ⟨hz, ⟨vs, ty, fr, h1, h2, by rw [List.length_set]; exact h3, h4, fun l e u hl hu => ?_⟩⟩
        rw [List.getElem?_set] at hl
        by_cases e1 : j = l
        · subst e1
          rw [if_pos rfl] at hl
          split at hl
          · rename_i hlt
            injection hl with hl
            subst hl
            apply hc
            have h6 := h5 j _ u (List.getElem?_eq_getElem hlt) hu
            rw [gt_eq, List.getElem?_eq_getElem hlt]
            exact h6
          · cases hl
        · rw [if_neg e1] at hl
          exact h5 l e u hl hu
    · exact h.blk k r hk
  · intro k r hk hz
    obtain ⟨r0, h0⟩ := hold k r hk
    exact h.new k r0 h0 hz
  · intro k l r s hk hl hzk hzl e
    obtain ⟨r0, h0⟩ := hold k r hk
    obtain ⟨s0, g0⟩ := hold l s hl
    exact h.inj k l r0 s0 h0 g0 hzk hzl e

/-- what becomes of a cell: (its new form, is a block without cells added?) -/
def cellNew (n : Nat) (c : AC) (k : Nat) : Option (AC × Bool) :=
  match c, k with
  | .ns, 0 => some (.sv n 0 0, true)
  | .ns, e + 1 => some (.gs n 0 e, true)
  | .gs b l _, 0 => some (.sv b 0 l, false)
  | _, _ => none

theorem cellNew_ok {X : Ctx} {N : Nat} {p : Pl} {n k : Nat} {c c' : AC} {g : Bool} (h : cellNew n c k = some (c', g)) {v : Value} (hv : VR X N p c v) : VR X N p c' v := by
  unfold cellNew at h
  split at h
  · simp only [Option.some.injEq, Prod.mk.injEq] at h
    obtain ⟨rfl, _⟩ := h
    cases hv
    exact .svn _ _
  · simp only [Option.some.injEq, Prod.mk.injEq] at h
    obtain ⟨rfl, _⟩ := h
    cases hv
    exact .gsn _ _
  · simp only [Option.some.injEq, Prod.mk.injEq] at h
    obtain ⟨rfl, _⟩ := h
    cases hv with
    | gs _ _ _ c hlt hcn hz => exact .sv _ 0 _ c _ 0 hcn (.inr ⟨hlt, rfl, rfl⟩)
    | gsn => exact .svn _ _
  · cases h

def cellFix (cells : List (Nat × Nat × Nat)) (t : List AV) (m : Mem) : Mem :=
  match cells with
  | [] => m
  | (s, j, k) :: l => (match gt .any t s with
    | .one (.ptr i _) => (match gt none m i with
      | some row => (match cellNew (lenF m) (gt .any row j) k with
        | some (c, true) => cellFix l t (m.set i (some (row.set j c)) ++ [some []])
        | some (c, false) => cellFix l t (m.set i (some (row.set j c)))
        | none => cellFix l t m)
      | none => cellFix l t m)
    | _ => cellFix l t m)

theorem cellFix_ok {X : Ctx} {w : World} : ∀ {cells : List (Nat × Nat × Nat)} {t : List AV} {m : Mem} {p : Pl}, MR X p m w → ∃ p', Ext m.length p p' ∧ m.length ≤ (cellFix cells t m).length ∧ MR X p' (cellFix cells t m) w
  | [], t, m, p, hm => ⟨p, .refl _ _, Nat.le_refl _, hm⟩
  | (s, j, k) :: l, t, m, p, hm => by
    unfold cellFix
    split
    · split
      · rename_i row hrow
        split
        · rename_i c hcn
          have h1 := hm.recell (gt_mem hrow) (fun v hv => cellNew_ok hcn hv)
          have h2 := h1.snoc0 0
          have hl : ∀ i, (m.set i (some (row.set j c))).length = m.length := fun i => List.length_set
          obtain ⟨p', g1, g2, g3⟩ := cellFix_ok (cells := l) (t := t) h2
          rw [List.length_append, hl] at g1 g2
          refine ⟨p', ?_, ?_, g3⟩
          · have := Ext.put p m.length 0 0
            exact this.trans (g1.mono (Nat.le_add_right _ _)) (Nat.le_refl _)
          · exact Nat.le_trans (Nat.le_add_right _ _) g2
        · rename_i c hcn
          have h1 := hm.recell (gt_mem hrow) (fun v hv => cellNew_ok hcn hv)
          have hl : ∀ i, (m.set i (some (row.set j c))).length = m.length := fun i => List.length_set
          obtain ⟨p', g1, g2, g3⟩ := cellFix_ok (cells := l) (t := t) h1
          rw [hl] at g1 g2
          exact ⟨p', g1, g2, g3⟩
        · exact cellFix_ok hm
      · exact cellFix_ok hm
    · exact cellFix_ok hm

def fixAll (c : CS) (t : List AV) (m : Mem) : List AV × Mem :=
  match nilFix c.kinds t m with
  | (t1, m1) => (t1, cellFix c.cells t1 m1)

theorem fixAll_ok {X : Ctx} {w : World} {c : CS} {t t' : List AV} {m m' : Mem} {p : Pl} {a : Array Value} (h : fixAll c t m = (t', m')) (hs : SR X m.length p t a) (hm : MR X p m w) :
    ∃ p', Ext m.length p p' ∧ m.length ≤ m'.length ∧ SR X m'.length p' t' a ∧ MR X p' m' w := by
  unfold fixAll at h
  split at h
  rename_i t1 m1 h1
  obtain ⟨rfl, rfl⟩ := Prod.mk.inj h
  obtain ⟨p1, g1, g2, g3, g4⟩ := nilFix_ok h1 hs hm
  obtain ⟨p2, k1, k2, k3⟩ := cellFix_ok (cells := c.cells) (t := t1) g4
  exact ⟨p2, g1.trans k1 g2, Nat.le_trans g2 k2, g3.mono k2 k1, k3⟩

/-! Values that hold no names go as they are -/

def flatAV : AV → Prop
  | .any => True
  | .one c => c.flat = true
  | .agg cs => Flat cs
  | .tup _ => False

def addVsF (m : Mem) (fv : List Nat) : List AV → Nat → List Nat → List Nat
  | [], _, σ => σ
  | v :: l, n, σ => (match memN n fv with
    | true => addVsF m fv l (n + 1) σ
    | false => addVsF m fv l (n + 1) (addV m v σ))

def renVs (τ : Nat → Option Nat) (fv : List Nat) : List AV → Nat → List AV
  | [], _ => []
  | v :: l, n => (match memN n fv with | true => v | false => renV τ v) :: renVs τ fv l (n + 1)

def flatVs (fv : List Nat) : List AV → Nat → List Prop
  | [], _ => []
  | v :: l, n => (match memN n fv with | true => flatAV v :: flatVs fv l (n + 1) | false => flatVs fv l (n + 1))

theorem VA.flatTo {X Y : Ctx} (hXY : Carries X Y) {N : Nat} {p : Pl} {v : AV} {u : Value} (hv : VA X N p v u) (hf : flatAV v) (M : Nat) (q : Pl) : VA Y M q v u := by
  cases hv with
  | any u => exact .any u
  | one c u hv => exact .one _ _ (hv.carry hXY hf M q)
  | agg cs l hv => exact .agg _ _ ⟨hv.1, fun j c u h1 h2 => (hv.2 j c u h1 h2).carry hXY (hf c (List.mem_of_getElem? h1)) M q⟩
  | tup => exact hf.elim

theorem renVs_len (τ : Nat → Option Nat) (fv : List Nat) : ∀ (l : List AV) (n : Nat), (renVs τ fv l n).length = l.length
  | [], _ => rfl
  | v :: l, n => by simp [renVs, renVs_len τ fv l (n + 1)]

theorem renVs_get {X Y : Ctx} (hXY : Carries X Y) {N N' : Nat} {p p' : Pl} {τ : Nat → Option Nat} (h : Goes N N' p p' τ) {fv : List Nat} : ∀ {l : List AV} {n j : Nat} {v : AV} {u : Value}, (renVs τ fv l n)[j]? = some v → AllC (flatVs fv l n) →
    (∀ v0, l[j]? = some v0 → VA X N p v0 u) → VA Y N' p' v u
  | [], n, j, v, u, hv, _, _ => by simp [renVs] at hv
  | a :: l, n, j, v, u, hv, hf, hu => by
    unfold renVs at hv
    unfold flatVs at hf
    cases j with
    | zero =>
      simp only [List.getElem?_cons_zero, Option.some.injEq] at hv
      subst hv
      have h0 := hu a rfl
      split
      · rename_i hm
        rw [hm] at hf
        exact h0.flatTo hXY hf.1 _ _
      · exact h0.ren hXY h
    | succ j =>
      have hrest : AllC (flatVs fv l (n + 1)) := by
        split at hf
        · exact hf.2
        · exact hf
      exact renVs_get hXY h (l := l) (n := n + 1) (j := j) (by simpa using hv) hrest (fun v0 h0 => hu v0 (by simpa using h0))

theorem SR.renF {X Y : Ctx} (hXY : Carries X Y) {N N' : Nat} {p p' : Pl} {τ : Nat → Option Nat} (h : Goes N N' p p' τ) {fv : List Nat} {t : List AV} {a : Array Value} (hf : AllC (flatVs fv t 0)) (hs : SR X N p t a) : SR Y N' p' (renVs τ fv t 0) a :=
  ⟨by rw [renVs_len]; exact hs.1, fun j v u h1 h2 => renVs_get hXY h h1 hf (fun v0 h0 => hs.2 j v0 u h0 h2)⟩

/-- values and memory, as they are seen from these values alone; the first n0 blocks keep their names -/
def canon (d : Bool) (c : CS) (n0 : Nat) (t : List AV) (m : Mem) : Option (List Prop × List AV × Mem) :=
  match fixAll c t m with
  | (t1, m1) =>
    forceL (closeS m1 d c.fl 100 0 (addVsF m1 c.fv t1 0 (iotaF n0 0))) fun σ =>
      (match nodupB σ && prefB n0 0 σ with
      | true => some (flatVs c.fv t1 0 ++ flatsP d m1 c.fl σ 0, renVs (fun i => posF σ i 0) c.fv t1 0, pickB d m1 (fun i => posF σ i 0) c.fl σ 0)
      | false => none)

theorem SR.ren {X Y : Ctx} (hXY : Carries X Y) {N N' : Nat} {p p' : Pl} {τ : Nat → Option Nat} (h : Goes N N' p p' τ) {t : List AV} {a : Array Value} (hs : SR X N p t a) : SR Y N' p' (mapF (renV τ) t) a := by
  refine ⟨by rw [mapF_eq]; simp [hs.1], fun j v u h1 h2 => ?_⟩
  rw [mapF_eq, List.getElem?_map] at h1
  cases hc : t[j]? with
  | none => rw [hc] at h1; cases h1
  | some d =>
    rw [hc] at h1
    simp only [Option.map_some, Option.some.injEq] at h1
    subst h1
    exact (hs.2 j d u hc h2).ren hXY h

theorem canon_ok {X : Ctx} {d : Bool} {c : CS} {n0 : Nat} {t t' : List AV} {m m' : Mem} {cs : List Prop} (h : canon d c n0 t m = some (cs, t', m')) (hc : AllC cs) {p : Pl} {a : Array Value} {w : World} (hs : SR X m.length p t a) (hm : MR X p m w) :
    ∃ p', n0 ≤ m'.length ∧ (n0 ≤ m.length → Ext n0 p p') ∧ SR X m'.length p' t' a ∧ MR X p' m' w := by
  unfold canon at h
  split at h
  rename_i t1 m1 h1
  rw [forceL_eq] at h
  split at h
  · rename_i hb
    rw [Bool.and_eq_true] at hb
    simp only [Option.some.injEq, Prod.mk.injEq] at h
    obtain ⟨rfl, rfl, rfl⟩ := h
    obtain ⟨hcv, hc⟩ := AllC_append hc
    obtain ⟨p1, g1, g2, g3, g4⟩ := fixAll_ok h1 hs hm
    have hp := prefB_ok hb.2
    refine ⟨p1.cut _, ?_, fun hn0 i hi => ?_, ?_, g4.cut hb.1 hc⟩
    · rw [pickB_length]
      rcases Nat.eq_zero_or_pos n0 with h0 | h0
      · omega
      · have := (List.getElem?_eq_some_iff.1 (hp (n0 - 1) (by omega))).1
        omega
    · have h3 := hp i hi
      rw [Nat.zero_add] at h3
      rw [(Pl.cut_at h3).1, (Pl.cut_at h3).2]
      exact g1 i (by omega)
    · rw [pickB_length]
      exact g3.renF (Carries.refl X) (Goes.cut _ p1 _) hcv
  · cases h

end DH
