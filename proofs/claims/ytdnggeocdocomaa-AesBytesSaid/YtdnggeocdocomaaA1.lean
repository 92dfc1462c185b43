/- The layer: abstract values, operations on them, and that the machine follows. -/
import Derived.WalkKit
import Derived.Deep.Quiet
set_option linter.unusedVariables false
set_option linter.unusedSimpArgs false
namespace DH
open Go

/-! Abstract values: one cell; a value; memory of a call's own. -/

inductive AC where
  | any
  | u8 (x : BitVec 8)
  | u16 (x : BitVec 16)
  | u32 (x : BitVec 32)
  | u64 (x : BitVec 64)
  | i64 (n : Int)
  | i32 (n : Int)
  | b (x : Bool)
  | s (x : List (BitVec 8))
  | f (bits : Nat)
  | np | ns | nf
  | ptr (i o : Nat)
  | sv (i o n : Nat)
  | gs (i n e : Nat)
  | xp (row : List AC) (o : Nat)
  | xs (row : List AC) (o n : Nat)
  | fn (f : FuncId) (cap : List AC)

inductive AV where
  | any
  | one (c : AC)
  | agg (cs : List AC)
  | tup (vs : List AV)

abbrev Mem := List (Option (List AC))

/-- ext: blocks that rows from outside may lie in -/
structure Ctx where
  P : Program
  w0 : World
  W : List Nat
  ext : Nat → Prop
  hext : ∀ b, ext b → b < w0.heap.size ∧ b ∉ W

def Ctx.old (X : Ctx) (b : Nat) : Prop := b < X.w0.heap.size ∧ b ∉ X.W

theorem Ctx.ext_old {X : Ctx} {b : Nat} (h : X.ext b) : X.old b := X.hext b h

/-- all that lies there may be read -/
def Ctx.all (P : Program) (w : World) (W : List Nat) : Ctx := ⟨P, w, W, fun b => b < w.heap.size ∧ b ∉ W, fun _ h => h⟩

structure Pl where
  at_ : Nat → Nat
  sz : Nat → Nat

def Ext (N : Nat) (p p' : Pl) : Prop := ∀ i, i < N → p'.at_ i = p.at_ i ∧ p'.sz i = p.sz i

theorem Ext.refl (N : Nat) (p : Pl) : Ext N p p := fun _ _ => ⟨rfl, rfl⟩
theorem Ext.trans {N M : Nat} {p q r : Pl} (h : Ext N p q) (k : Ext M q r) (hn : N ≤ M) : Ext N p r :=
  fun i hi => ⟨(k i (by omega)).1.trans (h i hi).1, (k i (by omega)).2.trans (h i hi).2⟩
theorem Ext.mono {N M : Nat} {p q : Pl} (h : Ext M p q) (hn : N ≤ M) : Ext N p q := fun i hi => h i (by omega)

inductive VR (X : Ctx) : Nat → Pl → AC → Value → Prop
  | any {N : Nat} {p : Pl} (v : Value) (h : v.oneCell' = true) : VR X N p .any v
  | u8 {N : Nat} {p : Pl} (x : BitVec 8) : VR X N p (.u8 x) (.int .u8 x.toNat)
  | u16 {N : Nat} {p : Pl} (x : BitVec 16) : VR X N p (.u16 x) (.int .u16 x.toNat)
  | u32 {N : Nat} {p : Pl} (x : BitVec 32) : VR X N p (.u32 x) (.int .u32 x.toNat)
  | u64 {N : Nat} {p : Pl} (x : BitVec 64) : VR X N p (.u64 x) (.int .u64 x.toNat)
  | i64 {N : Nat} {p : Pl} (n : Int) : VR X N p (.i64 n) (.int .i64 n)
  | i32 {N : Nat} {p : Pl} (n : Int) : VR X N p (.i32 n) (.int .i32 n)
  | b {N : Nat} {p : Pl} (x : Bool) : VR X N p (.b x) (.bool x)
  | s {N : Nat} {p : Pl} (x : List (BitVec 8)) (s : ByteArray) (h : s.data.toList.map UInt8.toBitVec = x) : VR X N p (.s x) (.string s)
  | f {N : Nat} {p : Pl} (n : Nat) : VR X N p (.f n) (.float .f64 n)
  | np {N : Nat} {p : Pl} : VR X N p .np (.pointer none)
  | ns {N : Nat} {p : Pl} : VR X N p .ns (.slice none 0 0)
  | nf {N : Nat} {p : Pl} : VR X N p .nf .nilFunc
  | ptr {N : Nat} {p : Pl} (i o : Nat) (h : i < N) : VR X N p (.ptr i o) (.pointer (some ⟨p.at_ i, o, none⟩))
  | sv {N : Nat} {p : Pl} (i o n c b o' : Nat) (hc : n ≤ c) (h : n = 0 ∨ (i < N ∧ b = p.at_ i ∧ o' = o)) : VR X N p (.sv i o n) (.slice (some ⟨b, o', none⟩) n c)
  | svn {N : Nat} {p : Pl} (i o : Nat) : VR X N p (.sv i o 0) (.slice none 0 0)
  | gs {N : Nat} {p : Pl} (i n e c : Nat) (h : i < N) (hc : n ≤ c) (hz : c * e ≤ p.sz i) : VR X N p (.gs i n e) (.slice (some ⟨p.at_ i, 0, none⟩) n c)
  | gsn {N : Nat} {p : Pl} (i e : Nat) : VR X N p (.gs i 0 e) (.slice none 0 0)
  | xp {N : Nat} {p : Pl} (row : List AC) (o b k : Nat) (g : Nat → Value) (p0 : Pl) (hb : X.ext b) (hr : ∀ j c, row[j]? = some c → X.w0.cell? ⟨b, k + j, none⟩ = some (g j))
      (hv : ∀ j c, row[j]? = some c → VR X 0 p0 c (g j)) : VR X N p (.xp row o) (.pointer (some ⟨b, k + o, none⟩))
  | xs {N : Nat} {p : Pl} (row : List AC) (o n c b k b' o' : Nat) (g : Nat → Value) (p0 : Pl) (hb : n = 0 ∨ (X.ext b ∧ b' = b ∧ o' = k + o)) (hr : n = 0 ∨ ∀ j c, row[j]? = some c → X.w0.cell? ⟨b, k + j, none⟩ = some (g j))
      (hv : ∀ j c, row[j]? = some c → VR X 0 p0 c (g j)) (hc : n ≤ c) : VR X N p (.xs row o n) (.slice (some ⟨b', o', none⟩) n c)
  | xsn {N : Nat} {p : Pl} (row : List AC) (o : Nat) : VR X N p (.xs row o 0) (.slice none 0 0)
  | xs0 {N : Nat} {p : Pl} (row : List AC) (o c : Nat) (a : Addr) : VR X N p (.xs row o 0) (.slice (some a) 0 c)
  | fn {N : Nat} {p : Pl} (f : FuncId) (cap : List AC) (g : Nat → Value) (hv : ∀ j c, cap[j]? = some c → VR X N p c (g j)) :
      VR X N p (.fn f cap) (.func (.func f) #[] ((List.range cap.length).map g).toArray)

def VL (X : Ctx) (N : Nat) (p : Pl) (cs : List AC) (l : List Value) : Prop :=
  cs.length = l.length ∧ ∀ (j : Nat) (c : AC) (u : Value), cs[j]? = some c → l[j]? = some u → VR X N p c u

inductive VA (X : Ctx) (N : Nat) (p : Pl) : AV → Value → Prop
  | any (v : Value) : VA X N p .any v
  | one (c : AC) (v : Value) (h : VR X N p c v) : VA X N p (.one c) v
  | agg (cs : List AC) (l : List Value) (h : VL X N p cs l) : VA X N p (.agg cs) (.agg l.toArray)
  | tup (vs : List AV) (l : List Value) (hl : vs.length = l.length) (h : ∀ (j : Nat) (c : AV), vs[j]? = some c → VA X N p c (l.getD j undef)) : VA X N p (.tup vs) (.tuple l.toArray)

structure BlkAt (X : Ctx) (N : Nat) (p : Pl) (w : World) (b z : Nat) (row : List AC) : Prop where
  ex : ∃ cs ty fr, w.heap[b]? = some (.cells cs ty fr) ∧ cs.size = z ∧ row.length ≤ z ∧ (fr.1 = fr.2 ∨ z ≤ fr.1) ∧
    ∀ (j : Nat) (c : AC) (u : Value), row[j]? = some c → cs[j]? = some u → VR X N p c u

theorem frz {fr : Nat × Nat} {z : Nat} (h : fr.1 = fr.2 ∨ z ≤ fr.1) : ∀ o, o < z → ¬ (fr.1 ≤ o ∧ o < fr.2) := fun o ho => by rcases h with h | h <;> omega

structure MR (X : Ctx) (p : Pl) (m : Mem) (w : World) : Prop where
  os : w.os = X.w0.os
  tape : w.tape = X.w0.tape
  output : w.output = X.w0.output
  size : X.w0.heap.size ≤ w.heap.size
  keep : ∀ b, X.old b → w.heap[b]? = X.w0.heap[b]?
  blk : ∀ (i : Nat) (row : List AC), m[i]? = some (some row) → (p.sz i = 0 ∧ row = []) ∨ (p.sz i ≠ 0 ∧ BlkAt X m.length p w (p.at_ i) (p.sz i) row)
  new : ∀ (i : Nat) (row : List AC), m[i]? = some (some row) → p.sz i ≠ 0 → ¬ X.old (p.at_ i)
  inj : ∀ (i j : Nat) (r s : List AC), m[i]? = some (some r) → m[j]? = some (some s) → p.sz i ≠ 0 → p.sz j ≠ 0 → p.at_ i = p.at_ j → i = j

def SR (X : Ctx) (N : Nat) (p : Pl) (t : List AV) (a : Array Value) : Prop :=
  t.length = a.size ∧ ∀ (j : Nat) (v : AV) (u : Value), t[j]? = some v → a[j]? = some u → VA X N p v u

structure Rel (X : Ctx) (p : Pl) (t : List AV) (m : Mem) (a : Act) (w : World) : Prop where
  defers : a.defers = []
  slots : SR X m.length p t a.tmps
  mem : MR X p m w

theorem VR.mono {X : Ctx} {N N' : Nat} {p p' : Pl} (hn : N ≤ N') (he : Ext N p p') {c : AC} {v : Value} (h : VR X N p c v) : VR X N' p' c v := by
  induction h generalizing N' p' with
  | any v h => exact .any v h
  | u8 x => exact .u8 x
  | u16 x => exact .u16 x
  | u32 x => exact .u32 x
  | u64 x => exact .u64 x
  | i64 n => exact .i64 n
  | i32 n => exact .i32 n
  | b x => exact .b x
  | s x s h => exact .s x s h
  | f n => exact .f n
  | np => exact .np
  | ns => exact .ns
  | nf => exact .nf
  | ptr i o h => rw [← (he i h).1]; exact .ptr i o (by omega)
  | sv i o n c b o' hc h => exact .sv i o n c b o' hc (h.imp id fun ⟨h1, h2, h3⟩ => ⟨by omega, by rw [(he i h1).1]; exact h2, h3⟩)
  | svn i o => exact .svn i o
  | gs i n e c h hc hz => rw [← (he i h).1]; exact .gs i n e c (by omega) hc (by rw [(he i h).2]; exact hz)
  | gsn i e => exact .gsn i e
  | xp row o b k g p0 hb hr hv _ => exact .xp row o b k g p0 hb hr hv
  | xs row o n c b k b' o' g p0 hb hr hv hc _ => exact .xs row o n c b k b' o' g p0 hb hr hv hc
  | xsn row o => exact .xsn row o
  | xs0 row o c a => exact .xs0 row o c a
  | fn f cap g _ ih => exact .fn f cap g fun j c hj => ih j c hj hn he

theorem VL.mono {X : Ctx} {N N' : Nat} {p p' : Pl} (hn : N ≤ N') (he : Ext N p p') {cs : List AC} {l : List Value} (h : VL X N p cs l) : VL X N' p' cs l :=
  ⟨h.1, fun j c u h1 h2 => (h.2 j c u h1 h2).mono hn he⟩

theorem VA.mono {X : Ctx} {N N' : Nat} {p p' : Pl} (hn : N ≤ N') (he : Ext N p p') : ∀ {c : AV} {v : Value}, VA X N p c v → VA X N' p' c v := by
  intro c v h
  induction h with
  | any v => exact .any v
  | one c v h => exact .one c v (h.mono hn he)
  | agg cs l h => exact .agg cs l (h.mono hn he)
  | tup vs l hl _ ih => exact .tup vs l hl ih

theorem SR.mono {X : Ctx} {N N' : Nat} {p p' : Pl} (hn : N ≤ N') (he : Ext N p p') {t : List AV} {a : Array Value} (h : SR X N p t a) : SR X N' p' t a :=
  ⟨h.1, fun j v u h1 h2 => (h.2 j v u h1 h2).mono hn he⟩

theorem VR.oneCell {X : Ctx} {N : Nat} {p : Pl} {c : AC} {v : Value} (h : VR X N p c v) : v.oneCell' = true := by
  cases h <;> first | rfl | assumption

/-! Lists -/

def gt {α : Type} (d : α) : List α → Nat → α
  | [], _ => d
  | x :: _, 0 => x
  | _ :: l, n + 1 => gt d l n

theorem gt_eq {α : Type} (d : α) : ∀ (l : List α) (n : Nat), gt d l n = (l[n]?).getD d
  | [], n => by simp [gt]
  | x :: l, 0 => by simp [gt]
  | x :: l, n + 1 => by simp [gt, gt_eq d l n]

def setF {α β : Type} : List α → Nat → α → (List α → β) → β
  | [], _, _, k => k []
  | _ :: l, 0, v, k => k (v :: l)
  | x :: l, n + 1, v, k => setF l n v fun l' => k (x :: l')

theorem setF_eq {α β : Type} : ∀ (l : List α) (n : Nat) (v : α) (k : List α → β), setF l n v k = k (l.set n v)
  | [], n, v, k => by simp [setF]
  | x :: l, 0, v, k => by simp [setF]
  | x :: l, n + 1, v, k => by simp [setF, setF_eq l n v]

def takeF {α β : Type} : List α → Nat → (List α → β) → β
  | _, 0, k => k []
  | [], _ + 1, k => k []
  | x :: l, n + 1, k => takeF l n fun l' => k (x :: l')

theorem takeF_eq {α β : Type} : ∀ (l : List α) (n : Nat) (k : List α → β), takeF l n k = k (l.take n)
  | l, 0, k => by simp [takeF]
  | [], n + 1, k => by simp [takeF]
  | x :: l, n + 1, k => by simp [takeF, takeF_eq l n]

def dropF {α : Type} : List α → Nat → List α
  | l, 0 => l
  | [], _ + 1 => []
  | _ :: l, n + 1 => dropF l n

theorem dropF_eq {α : Type} : ∀ (l : List α) (n : Nat), dropF l n = l.drop n
  | l, 0 => by simp [dropF]
  | [], n + 1 => by simp [dropF]
  | x :: l, n + 1 => by simp [dropF, dropF_eq l n]

/-- cells over those from o on -/
def lay {α : Type} (l : List α) (o : Nat) (cs : List α) : List α := l.take o ++ cs ++ l.drop (o + cs.length)

def layF {α β : Type} : List α → Nat → List α → (List α → β) → β
  | l, _, [], k => k l
  | [], _, c :: cs, k => k (c :: cs)
  | _ :: l, 0, c :: cs, k => layF l 0 cs fun l' => k (c :: l')
  | x :: l, n + 1, c :: cs, k => layF l n (c :: cs) fun l' => k (x :: l')

theorem layF_eq {α β : Type} : ∀ (l : List α) (n : Nat) (cs : List α) (k : List α → β), layF l n cs k = k (lay l n cs)
  | l, n, [], k => by simp [layF, lay]
  | [], n, c :: cs, k => by simp [layF, lay]
  | x :: l, 0, c :: cs, k => by simp [layF, layF_eq l 0 cs, lay]
  | x :: l, n + 1, c :: cs, k => by
      rw [layF, layF_eq l n (c :: cs)]
      congr 1
      simp only [lay, List.take_succ_cons, List.cons_append, List.length_cons]
      congr 2
      rw [show n + 1 + (cs.length + 1) = (n + (cs.length + 1)) + 1 by omega, List.drop_succ_cons]

def snocF {α β : Type} : List α → α → (List α → β) → β
  | [], v, k => k [v]
  | x :: l, v, k => snocF l v fun l' => k (x :: l')

theorem snocF_eq {α β : Type} : ∀ (l : List α) (v : α) (k : List α → β), snocF l v k = k (l ++ [v])
  | [], v, k => by simp [snocF]
  | x :: l, v, k => by simp [snocF, snocF_eq l v]

def appF {α β : Type} : List α → List α → (List α → β) → β
  | [], l, k => k l
  | x :: l, l2, k => appF l l2 fun l' => k (x :: l')

theorem appF_eq {α β : Type} : ∀ (l l2 : List α) (k : List α → β), appF l l2 k = k (l ++ l2)
  | [], v, k => by simp [appF]
  | x :: l, v, k => by simp [appF, appF_eq l v]

def lenF {α : Type} : List α → Nat
  | [] => 0
  | _ :: l => lenF l + 1

theorem lenF_eq {α : Type} : ∀ l : List α, lenF l = l.length
  | [] => rfl
  | x :: l => by simp [lenF, lenF_eq l]

end DH
