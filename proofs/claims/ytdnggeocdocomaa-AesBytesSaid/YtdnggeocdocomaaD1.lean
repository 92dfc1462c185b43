/- The layer: a table of types, checked against the program. -/
import Derived.Test.YtdnggeocdocomaaC5
set_option linter.unusedVariables false
set_option linter.unusedSimpArgs false
namespace DH
open Go

/-! The table of types is checked against the program, once. -/

def tdB : TD → TypeDesc → Bool
  | .bool, .bool => true
  | .int k, .int k' => k' == k
  | .str, .string => true
  | .flt, .float .f64 => true
  | .ptr e, .pointer e' => Nat.beq e' e
  | .slice e, .slice e' => Nat.beq e' e
  | .array n e, .array n' e' => Nat.beq n' n && Nat.beq e' e
  | .struct fs, .struct gs => fsB fs gs.toList
  | .fn, .func _ _ _ => true
  | _, _ => false
where fsB : List (Nat × TypeId) → List Field → Bool
  | [], [] => true
  | (o, ty) :: fs, g :: gs => Nat.beq g.offset o && Nat.beq g.type ty && fsB fs gs
  | _, _ => false

theorem fsB_ok : ∀ {fs : List (Nat × TypeId)} {gs : List Field}, tdB.fsB fs gs = true → fs.length = gs.length ∧ ∀ (i o : Nat) (ty : TypeId), fs[i]? = some (o, ty) → ∃ g : Field, gs[i]? = some g ∧ g.offset = o ∧ g.type = ty
  | [], [], _ => ⟨rfl, fun i o ty h => by simp at h⟩
  | (o, ty) :: fs, g :: gs, h => by
    simp only [tdB.fsB, Bool.and_eq_true] at h
    obtain ⟨⟨h1, h2⟩, h3⟩ := h
    obtain ⟨g1, g2⟩ := fsB_ok h3
    refine ⟨by simp [g1], fun i o' ty' hi => ?_⟩
    cases i with
    | zero =>
      simp only [List.getElem?_cons_zero, Option.some.injEq, Prod.mk.injEq] at hi
      obtain ⟨rfl, rfl⟩ := hi
      exact ⟨g, rfl, beq_true h1, beq_true h2⟩
    | succ i => simpa using g2 i o' ty' (by simpa using hi)
  | [], _ :: _, h => by simp [tdB.fsB] at h
  | _ :: _, [], h => by simp [tdB.fsB] at h

theorem tdB_ok {d : TD} {e : TypeDesc} (h : tdB d e = true) : tdOk d e := by
  unfold tdB at h
  split at h
  · trivial
  · exact eq_of_beq h
  · trivial
  · trivial
  · exact beq_true h
  · exact beq_true h
  · simp only [Bool.and_eq_true] at h; exact ⟨beq_true h.1, beq_true h.2⟩
  · obtain ⟨h1, h2⟩ := fsB_ok h
    refine ⟨by simpa using h1, fun i o ty hi => ?_⟩
    obtain ⟨g, g1, g2⟩ := h2 i o ty hi
    exact ⟨g, by simpa using g1, g2⟩
  · trivial
  · cases h

def acB : AC → Value → Bool
  | .any, v => v.oneCell'
  | .u8 x, .int .u8 n => n == (x.toNat : Int)
  | .u16 x, .int .u16 n => n == (x.toNat : Int)
  | .u32 x, .int .u32 n => n == (x.toNat : Int)
  | .u64 x, .int .u64 n => n == (x.toNat : Int)
  | .i64 m, .int .i64 n => n == m
  | .i32 m, .int .i32 n => n == m
  | .b x, .bool y => x == y
  | .s [], .string s => s.data.toList.isEmpty
  | .f n, .float .f64 k => Nat.beq n k
  | .np, .pointer none => true
  | .ns, .slice none 0 0 => true
  | .nf, .nilFunc => true
  | _, _ => false

theorem acB_ok {X : Ctx} {N : Nat} {p : Pl} {c : AC} {v : Value} (h : acB c v = true) : VR X N p c v := by
  unfold acB at h
  split at h
  · exact .any _ h
  · rw [eq_of_beq h]; exact .u8 _
  · rw [eq_of_beq h]; exact .u16 _
  · rw [eq_of_beq h]; exact .u32 _
  · rw [eq_of_beq h]; exact .u64 _
  · rw [eq_of_beq h]; exact .i64 _
  · rw [eq_of_beq h]; exact .i32 _
  · rw [eq_of_beq h]; exact .b _
  · exact .s _ _ (by have := List.isEmpty_iff.1 h; rw [this]; rfl)
  · rw [beq_true h]; exact .f _
  · exact .np
  · exact .ns
  · exact .nf
  · cases h

def zB : List AC → List Value → Bool
  | [], [] => true
  | c :: cs, v :: vs => acB c v && zB cs vs
  | _, _ => false

theorem zB_ok {X : Ctx} {N : Nat} {p : Pl} : ∀ {cs : List AC} {vs : List Value}, zB cs vs = true → VL X N p cs vs
  | [], [], _ => ⟨rfl, fun j c u h => by simp at h⟩
  | c :: cs, v :: vs, h => by
    simp only [zB, Bool.and_eq_true] at h
    have ih := zB_ok (X := X) (N := N) (p := p) h.2
    refine ⟨by simp [ih.1], fun j d u h1 h2 => ?_⟩
    cases j with
    | zero => simp at h1 h2; subst h1; subst h2; exact acB_ok h.1
    | succ j => exact ih.2 j d u (by simpa using h1) (by simpa using h2)
  | [], _ :: _, h => by simp [zB] at h
  | _ :: _, [], h => by simp [zB] at h

def partsB (P : Program) (d : TypeDesc) : Bool :=
  match d with
  | .struct gs => gs.toList.all fun g => (P.info? g.type).isSome
  | .array _ e => (P.info? e).isSome
  | _ => true

def tyB (P : Program) (t : TypeId) (ti : TI) : Bool :=
  (match P.underlying t with | some d => tdB ti.d d && partsB P d | none => false) &&
  (match P.info? t with
    | some i => Nat.beq i.size ti.sz && Nat.beq i.bytes ti.bytes && (match i.zero with | some z => zB ti.zero z.cells.toList | none => false)
    | none => false) &&
  (ti.agg == (match ti.d with | .array _ _ => true | .struct _ => true | _ => false)) &&
  (match ti.eq with
    | true => decide ((kindsT P 40 t).map (List.map some) = some (ti.zero.map ekOf)) && P.keyTypeAt 40 t && !(P.eqGuardType P.depth t)
    | false => true)

theorem tyB_ok {P : Program} {t : TypeId} {ti : TI} (h : tyB P t ti = true) : TyOk P t ti := by
  unfold tyB at h
  simp only [Bool.and_eq_true] at h
  obtain ⟨⟨⟨h1, h2⟩, h3⟩, h4⟩ := h
  split at h1
  · rename_i d hd
    simp only [Bool.and_eq_true] at h1
    refine ⟨⟨d, hd, tdB_ok h1.1⟩, ?_, (eq_of_beq h3).trans (by cases ti.d <;> rfl), ?_, ?_⟩
    · split at h2
      · rename_i i hi
        simp only [Bool.and_eq_true] at h2
        obtain ⟨⟨g1, g2⟩, g3⟩ := h2
        split at g3
        · rename_i z hz
          exact ⟨i, hi, beq_true g1, beq_true g2, z, hz, fun X N p => zB_ok g3⟩
        · cases g3
      · cases h2
    · intro d' hd'
      have : d' = d := by rw [hd] at hd'; exact (Option.some.inj hd').symm
      subst this
      have hp := h1.2
      refine ⟨fun gs e => ?_, fun n e e' => ?_⟩
      · subst e
        simp only [partsB, List.all_eq_true] at hp
        exact hp
      · subst e'
        exact hp
    · intro he
      rw [he] at h4
      simp only [Bool.and_eq_true, decide_eq_true_eq, Bool.not_eq_true'] at h4
      exact ⟨h4.1.1, h4.1.2, h4.2⟩
  · cases h1

def envB (P : Program) : List TI → Nat → Bool
  | [], _ => true
  | ti :: l, t => (match ti.d with | .other => true | _ => tyB P t ti) && envB P l (t + 1)

theorem envB_ok {P : Program} : ∀ {l : List TI} {k : Nat}, envB P l k = true → ∀ (t : TypeId) (ti : TI), l[t]? = some ti → (match ti.d with | .other => True | _ => TyOk P (k + t) ti)
  | [], k, _, t, ti, h => by simp at h
  | a :: l, k, h, t, ti, ht => by
    simp only [envB, Bool.and_eq_true] at h
    cases t with
    | zero =>
      simp at ht
      subst ht
      have h1 := h.1
      cases hd : a.d <;> rw [hd] at h1 <;> first | trivial | exact tyB_ok h1
    | succ t =>
      have := envB_ok h.2 t ti (by simpa using ht)
      have e : k + 1 + t = k + (t + 1) := by omega
      rw [e] at this
      exact this

theorem EnvOk.of {P : Program} {E : Env} (h : envB P E.ty 0 = true) : EnvOk P E := by
  intro t ti ht
  have := envB_ok h t ti ht
  rwa [Nat.zero_add] at this

/-! The table, out of a program (to be printed). -/

def tdOf : TypeDesc → TD
  | .bool => .bool
  | .int k => .int k
  | .string => .str
  | .float .f64 => .flt
  | .pointer e => .ptr e
  | .slice e => .slice e
  | .array n e => .array n e
  | .struct gs => .struct (gs.toList.map fun g => (g.offset, g.type))
  | .func _ _ _ => .fn
  | _ => .other

def acOf : Value → AC
  | .int .u8 n => .u8 (BitVec.ofInt 8 n)
  | .int .u16 n => .u16 (BitVec.ofInt 16 n)
  | .int .u32 n => .u32 (BitVec.ofInt 32 n)
  | .int .u64 n => .u64 (BitVec.ofInt 64 n)
  | .int .i64 n => .i64 n
  | .int .i32 n => .i32 n
  | .bool x => .b x
  | .string s => if s.size = 0 then .s [] else .any
  | .float .f64 k => .f k
  | .pointer none => .np
  | .slice none 0 0 => .ns
  | .nilFunc => .nf
  | _ => .any

def tiOf (P : Program) (t : TypeId) : TI :=
  match P.underlying t, P.info? t with
  | some d, some i =>
    match i.zero with
    | some z =>
      let zs := z.cells.toList.map acOf
      let agg := match d with | .array _ _ => true | .struct _ => true | _ => false
      let r : TI := ⟨tdOf d, i.size, i.bytes, zs, agg, true⟩
      let r : TI := if tyB P t r then r else { r with eq := false }
      if tyB P t r then r else .none
    | none => .none
  | _, _ => .none
end DH
