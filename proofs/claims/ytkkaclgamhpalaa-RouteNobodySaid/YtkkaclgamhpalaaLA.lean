/- Walks of functions, each by evaluation: what each returns; with the layer beneath. -/
import Derived.WalkKit
import Derived.Deep.Quiet
import Derived.StillTail
import Derived.Maps.Keyed
import Derived.DeepKeys
set_option linter.unusedVariables false
set_option linter.unusedSimpArgs false
namespace DH
open Go

noncomputable def hideE {α : Type} (x : α) : {y : α // y = x} := Classical.choice ⟨⟨x, rfl⟩⟩
/-- a thing that is not opened -/
noncomputable def hide {α : Type} (x : α) : α := (hideE x).1
theorem hide_eq {α : Type} (x : α) : hide x = x := (hideE x).2

/-! Abstract values: one cell; a value; memory of a call's own. -/

inductive AC where
  | any
  | u8 (x : BitVec 8)
  | u16 (x : BitVec 16)
  | u32 (x : BitVec 32)
  | u64 (x : BitVec 64)
  | i64 (n : Int)
  | i32 (n : Int)
  | b (x : Bool)
  | s (x : List (BitVec 8))
  | f (bits : Nat)
  | np | ns | nf
  | ptr (i o : Nat)
  | sv (i o n : Nat)
  | gs (i n e : Nat)
  /-- a slice that has no room behind it -/
  | sc (i o n : Nat)
  | xp (row : List AC) (o : Nat)
  | xs (row : List AC) (o n : Nat)
  | fn (f : FuncId) (cap : List AC)
  /-- no map; a map, an iterator of one's own: its object's number -/
  | nm
  | mp (i : Nat)
  | po (i : Nat)
  /-- what an object holds: a map (are keys, values of several cells? what keys, values are like; entries: stamp, key, value), an iterator over a map -/
  | mo (clock : Nat) (ka va : Bool) (kz vz : List AC) (es : List (Nat × List AC × List AC))
  | it (mi since : Nat) (seen : List Nat) (stepped : Nat)
  | itn

inductive AV where
  | any
  | one (c : AC)
  | agg (cs : List AC)
  | tup (vs : List AV)

abbrev Mem := List (Option (List AC))

/-- ext: blocks that rows from outside may lie in -/
structure Ctx where
  P : Program
  w0 : World
  W : List Nat
  ext : Nat → Prop
  hext : ∀ b, ext b → b < w0.heap.size ∧ b ∉ W

def Ctx.old (X : Ctx) (b : Nat) : Prop := b < X.w0.heap.size ∧ b ∉ X.W

theorem Ctx.ext_old {X : Ctx} {b : Nat} (h : X.ext b) : X.old b := X.hext b h

/-- all that lies there may be read -/
def Ctx.all (P : Program) (w : World) (W : List Nat) : Ctx := ⟨P, w, W, fun b => b < w.heap.size ∧ b ∉ W, fun _ h => h⟩

/-- ob: is it an object, no cells? fz: blocks that stay as they are, and what they hold -/
structure Pl where
  at_ : Nat → Nat
  sz : Nat → Nat
  ob : Nat → Bool
  fz : Nat → Option (Nat → Option Value)

def Pl.zero : Pl := ⟨fun _ => 0, fun _ => 0, fun _ => false, fun _ => none⟩

structure Ext (N : Nat) (p p' : Pl) : Prop where
  own : ∀ i, i < N → p'.at_ i = p.at_ i ∧ p'.sz i = p.sz i ∧ p'.ob i = p.ob i
  fz : ∀ b G, p.fz b = some G → p'.fz b = some G

theorem Ext.refl (N : Nat) (p : Pl) : Ext N p p := ⟨fun _ _ => ⟨rfl, rfl, rfl⟩, fun _ _ h => h⟩
theorem Ext.trans {N M : Nat} {p q r : Pl} (h : Ext N p q) (k : Ext M q r) (hn : N ≤ M) : Ext N p r :=
  ⟨fun i hi => ⟨(k.own i (by omega)).1.trans (h.own i hi).1, (k.own i (by omega)).2.1.trans (h.own i hi).2.1, (k.own i (by omega)).2.2.trans (h.own i hi).2.2⟩, fun b G g => k.fz b G (h.fz b G g)⟩
theorem Ext.mono {N M : Nat} {p q : Pl} (h : Ext M p q) (hn : N ≤ M) : Ext N p q := ⟨fun i hi => h.own i (by omega), h.fz⟩

/-- a block of cells of one's own; an object of one's own -/
def Own (N : Nat) (p : Pl) (i : Nat) : Prop := i < N ∧ p.ob i = false
def OwnO (N : Nat) (p : Pl) (i : Nat) : Prop := i < N ∧ p.ob i = true ∧ p.sz i ≠ 0
theorem Own.mono {N N' : Nat} {p p' : Pl} {i : Nat} (h : Own N p i) (hn : N ≤ N') (he : Ext N p p') : Own N' p' i := ⟨Nat.lt_of_lt_of_le h.1 hn, (he.own i h.1).2.2.trans h.2⟩
theorem OwnO.mono {N N' : Nat} {p p' : Pl} {i : Nat} (h : OwnO N p i) (hn : N ≤ N') (he : Ext N p p') : OwnO N' p' i := ⟨Nat.lt_of_lt_of_le h.1 hn, (he.own i h.1).2.2.trans h.2.1, by rw [(he.own i h.1).2.1]; exact h.2.2⟩

/-- where a row from outside may lie, and what lies there -/
def Ctx.src (X : Ctx) (p : Pl) (b : Nat) : Prop := X.ext b ∨ ∃ G, p.fz b = some G
def Ctx.cel (X : Ctx) (p : Pl) (b o : Nat) (v : Value) : Prop := (X.ext b ∧ X.w0.cell? ⟨b, o, none⟩ = some v) ∨ ∃ G, p.fz b = some G ∧ G o = some v
theorem Ctx.src_mono {X : Ctx} {p p' : Pl} (h : ∀ b G, p.fz b = some G → p'.fz b = some G) {b : Nat} (k : X.src p b) : X.src p' b := k.imp id fun ⟨G, g⟩ => ⟨G, h b G g⟩
theorem Ctx.cel_mono {X : Ctx} {p p' : Pl} (h : ∀ b G, p.fz b = some G → p'.fz b = some G) {b o : Nat} {v : Value} (k : X.cel p b o v) : X.cel p' b o v := k.imp id fun ⟨G, g1, g2⟩ => ⟨G, h b G g1, g2⟩

inductive VR (X : Ctx) : Nat → Pl → AC → Value → Prop
  | any {N : Nat} {p : Pl} (v : Value) (h : v.oneCell' = true) : VR X N p .any v
  | u8 {N : Nat} {p : Pl} (x : BitVec 8) : VR X N p (.u8 x) (.int .u8 x.toNat)
  | u16 {N : Nat} {p : Pl} (x : BitVec 16) : VR X N p (.u16 x) (.int .u16 x.toNat)
  | u32 {N : Nat} {p : Pl} (x : BitVec 32) : VR X N p (.u32 x) (.int .u32 x.toNat)
  | u64 {N : Nat} {p : Pl} (x : BitVec 64) : VR X N p (.u64 x) (.int .u64 x.toNat)
  | i64 {N : Nat} {p : Pl} (n : Int) : VR X N p (.i64 n) (.int .i64 n)
  | i32 {N : Nat} {p : Pl} (n : Int) : VR X N p (.i32 n) (.int .i32 n)
  | b {N : Nat} {p : Pl} (x : Bool) : VR X N p (.b x) (.bool x)
  | s {N : Nat} {p : Pl} (x : List (BitVec 8)) (s : ByteArray) (h : s.data.toList.map UInt8.toBitVec = x) : VR X N p (.s x) (.string s)
  | f {N : Nat} {p : Pl} (n : Nat) : VR X N p (.f n) (.float .f64 n)
  | np {N : Nat} {p : Pl} : VR X N p .np (.pointer none)
  | ns {N : Nat} {p : Pl} : VR X N p .ns (.slice none 0 0)
  | nf {N : Nat} {p : Pl} : VR X N p .nf .nilFunc
  | ptr {N : Nat} {p : Pl} (i o : Nat) (h : Own N p i) : VR X N p (.ptr i o) (.pointer (some ⟨p.at_ i, o, none⟩))
  | sv {N : Nat} {p : Pl} (i o n c b o' : Nat) (hc : n ≤ c) (h : n = 0 ∨ (Own N p i ∧ b = p.at_ i ∧ o' = o)) : VR X N p (.sv i o n) (.slice (some ⟨b, o', none⟩) n c)
  | svn {N : Nat} {p : Pl} (i o : Nat) : VR X N p (.sv i o 0) (.slice none 0 0)
  | sc {N : Nat} {p : Pl} (i o n b o' : Nat) (h : n = 0 ∨ (Own N p i ∧ b = p.at_ i ∧ o' = o)) : VR X N p (.sc i o n) (.slice (some ⟨b, o', none⟩) n n)
  | scn {N : Nat} {p : Pl} (i o : Nat) : VR X N p (.sc i o 0) (.slice none 0 0)
  | gs {N : Nat} {p : Pl} (i n e c : Nat) (h : Own N p i) (hc : n ≤ c) (hz : c * e ≤ p.sz i) : VR X N p (.gs i n e) (.slice (some ⟨p.at_ i, 0, none⟩) n c)
  | gsn {N : Nat} {p : Pl} (i e : Nat) : VR X N p (.gs i 0 e) (.slice none 0 0)
  | xp {N : Nat} {p : Pl} (row : List AC) (o b k : Nat) (g : Nat → Value) (hb : X.src p b) (hr : ∀ j c, row[j]? = some c → X.cel p b (k + j) (g j))
      (hv : ∀ j c, row[j]? = some c → VR X 0 p c (g j)) : VR X N p (.xp row o) (.pointer (some ⟨b, k + o, none⟩))
  | xs {N : Nat} {p : Pl} (row : List AC) (o n c b k b' o' : Nat) (g : Nat → Value) (hb : n = 0 ∨ (X.src p b ∧ b' = b ∧ o' = k + o)) (hr : n = 0 ∨ ∀ j c, row[j]? = some c → X.cel p b (k + j) (g j))
      (hv : ∀ j c, row[j]? = some c → VR X 0 p c (g j)) (hc : n ≤ c) : VR X N p (.xs row o n) (.slice (some ⟨b', o', none⟩) n c)
  | xsn {N : Nat} {p : Pl} (row : List AC) (o : Nat) : VR X N p (.xs row o 0) (.slice none 0 0)
  | xs0 {N : Nat} {p : Pl} (row : List AC) (o c : Nat) (a : Addr) : VR X N p (.xs row o 0) (.slice (some a) 0 c)
  | fn {N : Nat} {p : Pl} (f : FuncId) (cap : List AC) (g : Nat → Value) (hv : ∀ j c, cap[j]? = some c → VR X N p c (g j)) :
      VR X N p (.fn f cap) (.func (.func f) #[] ((List.range cap.length).map g).toArray)
  | nm {N : Nat} {p : Pl} : VR X N p .nm (.map none)
  | mp {N : Nat} {p : Pl} (i : Nat) (h : OwnO N p i) : VR X N p (.mp i) (.map (some (p.at_ i)))
  | po {N : Nat} {p : Pl} (i : Nat) (h : OwnO N p i) : VR X N p (.po i) (.pointer (some ⟨p.at_ i, 0, none⟩))

def VL (X : Ctx) (N : Nat) (p : Pl) (cs : List AC) (l : List Value) : Prop :=
  cs.length = l.length ∧ ∀ (j : Nat) (c : AC) (u : Value), cs[j]? = some c → l[j]? = some u → VR X N p c u

inductive VA (X : Ctx) (N : Nat) (p : Pl) : AV → Value → Prop
  | any (v : Value) : VA X N p .any v
  | one (c : AC) (v : Value) (h : VR X N p c v) : VA X N p (.one c) v
  | agg (cs : List AC) (l : List Value) (h : VL X N p cs l) : VA X N p (.agg cs) (.agg l.toArray)
  | tup (vs : List AV) (l : List Value) (hl : vs.length = l.length) (h : ∀ (j : Nat) (c : AV), vs[j]? = some c → VA X N p c (l.getD j undef)) : VA X N p (.tup vs) (.tuple l.toArray)

/-- a key, or a value, of a map: cells that hang on nothing -/
def VE (a : Bool) (cs : List AC) (v : Value) : Prop :=
  match a with
  | true => ∃ l : List Value, v = .agg l.toArray ∧ ∀ (X : Ctx) (N : Nat) (p : Pl), VL X N p cs l
  | false => ∃ c, cs = [c] ∧ ∀ (X : Ctx) (N : Nat) (p : Pl), VR X N p c v

abbrev Ent := Nat × List AC × List AC

def in64 (n : Int) : Prop := -9223372036854775808 ≤ n ∧ n < 9223372036854775808

/-- do cells fit those of a type? -/
def fitC : AC → AC → Prop
  | .u8 _, .u8 _ => True
  | .u16 _, .u16 _ => True
  | .u32 _, .u32 _ => True
  | .u64 _, .u64 _ => True
  | .i64 _, .i64 n => in64 n
  | .b _, .b _ => True
  | _, _ => False

def fitCs : List AC → List AC → Prop
  | [], [] => True
  | z :: zs, c :: cs => fitC z c ∧ fitCs zs cs
  | _, _ => False

/-- entries: no key twice, stamps rise, all below the clock -/
structure EntOk (clock : Nat) (kz vz : List AC) (es : List Ent) : Prop where
  fit : ∀ r, r ∈ es → fitCs kz r.2.1 ∧ fitCs vz r.2.2
  keys : es.Pairwise fun a b => a.2.1 ≠ b.2.1
  born : es.Pairwise fun a b => a.1 < b.1
  below : ∀ r, r ∈ es → r.1 < clock

/-- what an object is in the machine -/
def ObjIs (N : Nat) (p : Pl) (c : AC) (o : Obj) : Prop :=
  match c with
  | .mo clock ka va kz vz es => EntOk clock kz vz es ∧ ∃ arr : Array MapEntry, o = .map arr clock ∧ arr.size = es.length ∧
      ∀ (j : Nat) (r : Ent) (e : MapEntry), es[j]? = some r → arr[j]? = some e → e.born = r.1 ∧ VE ka r.2.1 e.key ∧ VE va r.2.2 e.val
  | .it mi since seen stepped => OwnO N p mi ∧ o = .mapIter (some (p.at_ mi)) since seen.toArray stepped
  | .itn => ∃ since seen stepped, o = .mapIter none since seen stepped
  | .any => True
  | _ => False

structure BlkAt (X : Ctx) (N : Nat) (p : Pl) (w : World) (b z : Nat) (o : Bool) (row : List AC) : Prop where
  ex : o = false → ∃ cs ty fr, w.heap[b]? = some (.cells cs ty fr) ∧ cs.size = z ∧ row.length ≤ z ∧ (fr.1 = fr.2 ∨ z ≤ fr.1) ∧
    ∀ (j : Nat) (c : AC) (u : Value), row[j]? = some c → cs[j]? = some u → VR X N p c u
  ob : o = true → ∃ c h, row = [c] ∧ w.heap[b]? = some h ∧ ObjIs N p c h

theorem frz {fr : Nat × Nat} {z : Nat} (h : fr.1 = fr.2 ∨ z ≤ fr.1) : ∀ o, o < z → ¬ (fr.1 ≤ o ∧ o < fr.2) := fun o ho => by rcases h with h | h <;> omega

structure MR (X : Ctx) (p : Pl) (m : Mem) (w : World) : Prop where
  os : w.os = X.w0.os
  tape : w.tape = X.w0.tape
  output : w.output = X.w0.output
  size : X.w0.heap.size ≤ w.heap.size
  keep : ∀ b, X.old b → w.heap[b]? = X.w0.heap[b]?
  blk : ∀ (i : Nat) (row : List AC), m[i]? = some (some row) → (p.sz i = 0 ∧ row = []) ∨ (p.sz i ≠ 0 ∧ BlkAt X m.length p w (p.at_ i) (p.sz i) (p.ob i) row)
  new : ∀ (i : Nat) (row : List AC), m[i]? = some (some row) → p.sz i ≠ 0 → ¬ X.old (p.at_ i)
  inj : ∀ (i j : Nat) (r s : List AC), m[i]? = some (some r) → m[j]? = some (some s) → p.sz i ≠ 0 → p.sz j ≠ 0 → p.at_ i = p.at_ j → i = j
  fzn : ∀ (b : Nat) (G : Nat → Option Value), p.fz b = some G → ¬ X.old b ∧ b < w.heap.size ∧ (∀ o, w.cell? ⟨b, o, none⟩ = G o) ∧ ∀ (i : Nat) (row : List AC), m[i]? = some (some row) → p.sz i ≠ 0 → p.at_ i ≠ b

theorem MR.nil0 (X : Ctx) : MR X .zero [] X.w0 :=
  ⟨rfl, rfl, rfl, Nat.le_refl _, fun _ _ => rfl, fun i row hi => by simp at hi, fun i row hi => by simp at hi, fun i j r s hi => by simp at hi, fun b G h => by cases h⟩

def SR (X : Ctx) (N : Nat) (p : Pl) (t : List AV) (a : Array Value) : Prop :=
  t.length = a.size ∧ ∀ (j : Nat) (v : AV) (u : Value), t[j]? = some v → a[j]? = some u → VA X N p v u

structure Rel (X : Ctx) (p : Pl) (t : List AV) (m : Mem) (a : Act) (w : World) : Prop where
  defers : a.defers = []
  slots : SR X m.length p t a.tmps
  mem : MR X p m w

theorem VR.mono {X : Ctx} {N N' : Nat} {p p' : Pl} (hn : N ≤ N') (he : Ext N p p') {c : AC} {v : Value} (h : VR X N p c v) : VR X N' p' c v := by
  induction h generalizing N' p' with
  | any v h => exact .any v h
  | u8 x => exact .u8 x
  | u16 x => exact .u16 x
  | u32 x => exact .u32 x
  | u64 x => exact .u64 x
  | i64 n => exact .i64 n
  | i32 n => exact .i32 n
  | b x => exact .b x
  | s x s h => exact .s x s h
  | f n => exact .f n
  | np => exact .np
  | ns => exact .ns
  | nf => exact .nf
  | ptr i o h => rw [← (he.own i h.1).1]; exact .ptr i o (h.mono hn he)
  | sv i o n c b o' hc h => exact .sv i o n c b o' hc (h.imp id fun ⟨h1, h2, h3⟩ => ⟨h1.mono hn he, by rw [(he.own i h1.1).1]; exact h2, h3⟩)
  | svn i o => exact .svn i o
  | sc i o n b o' h => exact .sc i o n b o' (h.imp id fun ⟨h1, h2, h3⟩ => ⟨h1.mono hn he, by rw [(he.own i h1.1).1]; exact h2, h3⟩)
  | scn i o => exact .scn i o
  | gs i n e c h hc hz => rw [← (he.own i h.1).1]; exact .gs i n e c (h.mono hn he) hc (by rw [(he.own i h.1).2.1]; exact hz)
  | gsn i e => exact .gsn i e
  | xp row o b k g hb hr hv ih => exact .xp row o b k g (Ctx.src_mono he.fz hb) (fun j c hj => Ctx.cel_mono he.fz (hr j c hj)) (fun j c hj => ih j c hj (Nat.le_refl 0) ⟨fun i hi => absurd hi (Nat.not_lt_zero i), he.fz⟩)
  | xs row o n c b k b' o' g hb hr hv hc ih => exact .xs row o n c b k b' o' g (hb.imp id fun ⟨h1, h2⟩ => ⟨Ctx.src_mono he.fz h1, h2⟩) (hr.imp id fun hr j c hj => Ctx.cel_mono he.fz (hr j c hj)) (fun j c hj => ih j c hj (Nat.le_refl 0) ⟨fun i hi => absurd hi (Nat.not_lt_zero i), he.fz⟩) hc
  | xsn row o => exact .xsn row o
  | xs0 row o c a => exact .xs0 row o c a
  | fn f cap g _ ih => exact .fn f cap g fun j c hj => ih j c hj hn he
  | nm => exact .nm
  | mp i h => rw [← (he.own i h.1).1]; exact .mp i (h.mono hn he)
  | po i h => rw [← (he.own i h.1).1]; exact .po i (h.mono hn he)

theorem VL.mono {X : Ctx} {N N' : Nat} {p p' : Pl} (hn : N ≤ N') (he : Ext N p p') {cs : List AC} {l : List Value} (h : VL X N p cs l) : VL X N' p' cs l :=
  ⟨h.1, fun j c u h1 h2 => (h.2 j c u h1 h2).mono hn he⟩

theorem VA.mono {X : Ctx} {N N' : Nat} {p p' : Pl} (hn : N ≤ N') (he : Ext N p p') : ∀ {c : AV} {v : Value}, VA X N p c v → VA X N' p' c v := by
  intro c v h
  induction h with
  | any v => exact .any v
  | one c v h => exact .one c v (h.mono hn he)
  | agg cs l h => exact .agg cs l (h.mono hn he)
  | tup vs l hl _ ih => exact .tup vs l hl ih

theorem SR.mono {X : Ctx} {N N' : Nat} {p p' : Pl} (hn : N ≤ N') (he : Ext N p p') {t : List AV} {a : Array Value} (h : SR X N p t a) : SR X N' p' t a :=
  ⟨h.1, fun j v u h1 h2 => (h.2 j v u h1 h2).mono hn he⟩

theorem VR.oneCell {X : Ctx} {N : Nat} {p : Pl} {c : AC} {v : Value} (h : VR X N p c v) : v.oneCell' = true := by
  cases h <;> first | rfl | assumption

/-! Lists -/

def gt {α : Type} (d : α) : List α → Nat → α
  | [], _ => d
  | x :: _, 0 => x
  | _ :: l, n + 1 => gt d l n

theorem gt_eq {α : Type} (d : α) : ∀ (l : List α) (n : Nat), gt d l n = (l[n]?).getD d
  | [], n => by simp [gt]
  | x :: l, 0 => by simp [gt]
  | x :: l, n + 1 => by simp [gt, gt_eq d l n]

def setF {α β : Type} : List α → Nat → α → (List α → β) → β
  | [], _, _, k => k []
  | _ :: l, 0, v, k => k (v :: l)
  | x :: l, n + 1, v, k => setF l n v fun l' => k (x :: l')

theorem setF_eq {α β : Type} : ∀ (l : List α) (n : Nat) (v : α) (k : List α → β), setF l n v k = k (l.set n v)
  | [], n, v, k => by simp [setF]
  | x :: l, 0, v, k => by simp [setF]
  | x :: l, n + 1, v, k => by simp [setF, setF_eq l n v]

def takeF {α β : Type} : List α → Nat → (List α → β) → β
  | _, 0, k => k []
  | [], _ + 1, k => k []
  | x :: l, n + 1, k => takeF l n fun l' => k (x :: l')

theorem takeF_eq {α β : Type} : ∀ (l : List α) (n : Nat) (k : List α → β), takeF l n k = k (l.take n)
  | l, 0, k => by simp [takeF]
  | [], n + 1, k => by simp [takeF]
  | x :: l, n + 1, k => by simp [takeF, takeF_eq l n]

def dropF {α : Type} : List α → Nat → List α
  | l, 0 => l
  | [], _ + 1 => []
  | _ :: l, n + 1 => dropF l n

theorem dropF_eq {α : Type} : ∀ (l : List α) (n : Nat), dropF l n = l.drop n
  | l, 0 => by simp [dropF]
  | [], n + 1 => by simp [dropF]
  | x :: l, n + 1 => by simp [dropF, dropF_eq l n]

/-- cells over those from o on -/
def lay {α : Type} (l : List α) (o : Nat) (cs : List α) : List α := l.take o ++ cs ++ l.drop (o + cs.length)

def layF {α β : Type} : List α → Nat → List α → (List α → β) → β
  | l, _, [], k => k l
  | [], _, c :: cs, k => k (c :: cs)
  | _ :: l, 0, c :: cs, k => layF l 0 cs fun l' => k (c :: l')
  | x :: l, n + 1, c :: cs, k => layF l n (c :: cs) fun l' => k (x :: l')

theorem layF_eq {α β : Type} : ∀ (l : List α) (n : Nat) (cs : List α) (k : List α → β), layF l n cs k = k (lay l n cs)
  | l, n, [], k => by simp [layF, lay]
  | [], n, c :: cs, k => by simp [layF, lay]
  | x :: l, 0, c :: cs, k => by simp [layF, layF_eq l 0 cs, lay]
  | x :: l, n + 1, c :: cs, k => by
      rw [layF, layF_eq l n (c :: cs)]
      congr 1
      simp only [lay, List.take_succ_cons, List.cons_append, List.length_cons]
      congr 2
      rw [show n + 1 + (cs.length + 1) = (n + (cs.length + 1)) + 1 by omega, List.drop_succ_cons]

def snocF {α β : Type} : List α → α → (List α → β) → β
  | [], v, k => k [v]
  | x :: l, v, k => snocF l v fun l' => k (x :: l')

theorem snocF_eq {α β : Type} : ∀ (l : List α) (v : α) (k : List α → β), snocF l v k = k (l ++ [v])
  | [], v, k => by simp [snocF]
  | x :: l, v, k => by simp [snocF, snocF_eq l v]

def appF {α β : Type} : List α → List α → (List α → β) → β
  | [], l, k => k l
  | x :: l, l2, k => appF l l2 fun l' => k (x :: l')

theorem appF_eq {α β : Type} : ∀ (l l2 : List α) (k : List α → β), appF l l2 k = k (l ++ l2)
  | [], v, k => by simp [appF]
  | x :: l, v, k => by simp [appF, appF_eq l v]

def lenF {α : Type} : List α → Nat
  | [] => 0
  | _ :: l => lenF l + 1

theorem lenF_eq {α : Type} : ∀ l : List α, lenF l = l.length
  | [] => rfl
  | x :: l => by simp [lenF, lenF_eq l]

/-! What tells its value -/

def AC.exact : AC → Bool
  | .u8 _ | .u16 _ | .u32 _ | .u64 _ | .i64 _ | .i32 _ | .b _ | .s _ | .f _ | .np | .ns | .nf | .nm => true
  | _ => false

theorem VR.det {X Y : Ctx} {N M : Nat} {p q : Pl} {c : AC} {v u : Value} (h : VR X N p c v) (k : VR Y M q c u) (hc : c.exact = true) : v = u := by
  cases h <;> cases k <;> first | rfl | (cases hc; done) | skip
  rename_i x s h s' h'
  have : s = s' := by
    have e : s.data.toList.map UInt8.toBitVec = s'.data.toList.map UInt8.toBitVec := h.trans h'.symm
    have e2 : s.data.toList = s'.data.toList := List.map_inj_right (fun x y => UInt8.toBitVec_inj.1) |>.1 e
    have e3 : s.data = s'.data := by
      cases hs : s.data; cases hs' : s'.data; rw [hs, hs'] at e2; simpa using e2
    cases s; cases s'; exact congrArg _ e3
  rw [this]

theorem VR.exact_any {X : Ctx} {N : Nat} {p : Pl} {c : AC} {v : Value} (h : VR X N p c v) (hc : c.exact = true) (Y : Ctx) (M : Nat) (q : Pl) : VR Y M q c v := by
  cases h with
  | u8 x => exact .u8 x
  | u16 x => exact .u16 x
  | u32 x => exact .u32 x
  | u64 x => exact .u64 x
  | i64 n => exact .i64 n
  | i32 n => exact .i32 n
  | b x => exact .b x
  | s x s h => exact .s x s h
  | f n => exact .f n
  | np => exact .np
  | ns => exact .ns
  | nf => exact .nf
  | nm => exact .nm
  | mp => cases hc
  | po => cases hc
  | any => cases hc
  | ptr => cases hc
  | sv => cases hc
  | svn => cases hc
  | sc => cases hc
  | scn => cases hc
  | gs => cases hc
  | gsn => cases hc
  | xp => cases hc
  | xs => cases hc
  | xsn => cases hc
  | xs0 => cases hc
  | fn => cases hc

def ExactL (cs : List AC) : Prop := ∀ c, c ∈ cs → c.exact = true

def AV.exact1 : AV → Prop
  | .one c => c.exact = true
  | .agg cs => ExactL cs
  | _ => False

def AV.exact : AV → Prop
  | .one c => c.exact = true
  | .agg cs => ExactL cs
  | .tup vs => ∀ v, v ∈ vs → v.exact1
  | .any => False

theorem VL.det {X Y : Ctx} {N M : Nat} {p q : Pl} {cs : List AC} {l l' : List Value} (h : VL X N p cs l) (k : VL Y M q cs l') (hc : ExactL cs) : l = l' := by
  apply List.ext_getElem? fun j => ?_
  rcases Nat.lt_or_ge j cs.length with hj | hj
  · have h1 : cs[j]? = some cs[j] := List.getElem?_eq_getElem hj
    have h2 : l[j]? = some (l[j]'(by rw [← h.1]; exact hj)) := List.getElem?_eq_getElem _
    have h3 : l'[j]? = some (l'[j]'(by rw [← k.1]; exact hj)) := List.getElem?_eq_getElem _
    rw [h2, h3]
    exact congrArg some (VR.det (h.2 _ _ _ h1 h2) (k.2 _ _ _ h1 h3) (hc _ (List.mem_of_getElem? h1)))
  · rw [List.getElem?_eq_none (by rw [← h.1]; exact hj), List.getElem?_eq_none (by rw [← k.1]; exact hj)]

theorem VL.exact_any {X : Ctx} {N : Nat} {p : Pl} {cs : List AC} {l : List Value} (h : VL X N p cs l) (hc : ExactL cs) (Y : Ctx) (M : Nat) (q : Pl) : VL Y M q cs l :=
  ⟨h.1, fun j c u h1 h2 => (h.2 j c u h1 h2).exact_any (hc c (List.mem_of_getElem? h1)) Y M q⟩


def exactL : List AC → Bool
  | [] => true
  | c :: l => c.exact && exactL l

theorem exactL_ok : ∀ {l : List AC}, exactL l = true → ExactL l
  | [], _ => fun c h => by cases h
  | a :: l, h => by
    simp only [exactL, Bool.and_eq_true] at h
    intro c hc
    rcases List.mem_cons.1 hc with rfl | hc
    · exact h.1
    · exact exactL_ok h.2 c hc


end DH

namespace DH
open Go

/-- The rest of a call, from an abstract state on: it returns, and what it returns is as Q says. -/
def KRun (X : Ctx) (f : FuncId) (n0 : Nat) (Q : AV → Mem → Prop) (todo : List Item) (t : List AV) (m : Mem) : Prop :=
  n0 ≤ m.length → ∀ (p : Pl) (a : Act) (w : World), Rel X p t m a w → ∀ (b : Frame) (cs : List Frame), b.fn = f → b.kind = .normal →
    ∃ fr w' v r m' p', Steps X.P (lone (b.at a todo) cs w) (lone fr cs w') ∧ fr.fn = f ∧ fr.leaving X.P w' (.returned v) ∧ Ext n0 p p' ∧ n0 ≤ m'.length ∧
      MR X p' m' w' ∧ VA X m'.length p' r v ∧ Q r m'

/-- what holds behind operations -/
def LPost (X : Ctx) (N : Nat) (p : Pl) (K : List AV → Mem → Prop) : Exit → Act → World → Prop := fun e a' w' =>
  e = .normal ∧ ∃ p' t' m', Ext N p p' ∧ N ≤ m'.length ∧ Rel X p' t' m' a' w' ∧ K t' m'

theorem LPost.weaken {X : Ctx} {N N' : Nat} {p p' : Pl} {K : List AV → Mem → Prop} (h1 : N ≤ N') (h2 : Ext N p p') {e : Exit} {a : Act} {w : World} (h : LPost X N' p' K e a w) : LPost X N p K e a w := by
  obtain ⟨h, p2, t2, m2, g1, g2, g3, g4⟩ := h
  exact ⟨h, p2, t2, m2, h2.trans g1 h1, Nat.le_trans h1 g2, g3, g4⟩

/-- Operations in a row, then K. -/
def LRun (X : Ctx) (all : Array Oper) (l : List Oper) (t : List AV) (m : Mem) (K : List AV → Mem → Prop) : Prop :=
  ∀ (p : Pl) (a : Act) (w : World), Rel X p t m a w → wpList X.P all (LPost X m.length p K) l a w

section
variable {X : Ctx} {f n0 : Nat} {Q : AV → Mem → Prop} {k : List Item} {t : List AV} {m : Mem}

theorem KRun.of_step {todo todo' : List Item} (hs : ∀ (b : Frame) (a : Act) (cs : List Frame) (w : World), step X.P (lone (b.at a todo) cs w) = .next (lone (b.at a todo') cs w))
    (h : KRun X f n0 Q todo' t m) : KRun X f n0 Q todo t m := by
  intro hn p a w hr b cs hb hk
  obtain ⟨fr, w', v, r, m', p', h1, h2⟩ := h hn p a w hr b cs hb hk
  exact ⟨fr, w', v, r, m', p', .head (hs b a cs w) h1, h2⟩

theorem KRun.skip (h : KRun X f n0 Q k t m) : KRun X f n0 Q (.code .skip :: k) t m := KRun.of_step (fun _ _ _ _ => step_skip) h
theorem KRun.seq {x y : Code} (h : KRun X f n0 Q (.code x :: .code y :: k) t m) : KRun X f n0 Q (.code (.seq x y) :: k) t m := KRun.of_step (fun _ _ _ _ => step_seq) h
theorem KRun.block {id : Nat} {x : Code} (h : KRun X f n0 Q (.code x :: .inBlock id :: k) t m) : KRun X f n0 Q (.code (.block id x) :: k) t m := KRun.of_step (fun _ _ _ _ => step_block) h
theorem KRun.inBlock {id : Nat} (h : KRun X f n0 Q k t m) : KRun X f n0 Q (.inBlock id :: k) t m := KRun.of_step (fun _ _ _ _ => step_inBlock) h
theorem KRun.exit {id : Nat} {k' : List Item} (he : exitTo id k = some k') (h : KRun X f n0 Q k' t m) : KRun X f n0 Q (.code (.exit id) :: k) t m := KRun.of_step (fun _ _ _ _ => step_exit he) h
theorem KRun.loop1 {x : Code} (h : KRun X f n0 Q (.code x :: .inLoop x :: k) t m) : KRun X f n0 Q (.code (.loop x) :: k) t m := KRun.of_step (fun _ _ _ _ => step_loop) h
theorem KRun.inLoop {x : Code} (h : KRun X f n0 Q (.code x :: .inLoop x :: k) t m) : KRun X f n0 Q (.inLoop x :: k) t m := KRun.of_step (fun _ _ _ _ => step_inLoop) h

theorem SR.get {N : Nat} {p : Pl} {a : Array Value} (h : SR X N p t a) (n : Nat) : VA X N p (gt .any t n) (a.getD n undef) := by
  rw [gt_eq]
  rcases Nat.lt_or_ge n t.length with hn | hn
  · have hn' : n < a.size := by rw [← h.1]; exact hn
    have h1 : t[n]? = some t[n] := List.getElem?_eq_getElem hn
    have h2 : a[n]? = some a[n] := Array.getElem?_eq_getElem hn'
    have := h.2 n _ _ h1 h2
    simpa [h1, h2, Array.getD, hn'] using this
  · rw [List.getElem?_eq_none hn]; exact .any _

theorem SR.set {N : Nat} {p : Pl} {a : Array Value} (h : SR X N p t a) (n : Nat) {v : AV} {u : Value} (hv : VA X N p v u) : SR X N p (t.set n v) (a.setIfInBounds n u) := by
  refine ⟨by simp [h.1], fun j v' u' h1 h2 => ?_⟩
  rw [List.getElem?_set] at h1
  rw [Array.getElem?_setIfInBounds] at h2
  by_cases hj : n = j
  · subst hj
    simp only [if_true] at h1 h2
    split at h1
    · split at h2
      · injection h1 with h1; injection h2 with h2; subst h1; subst h2; exact hv
      · cases h2
    · cases h1
  · simp only [hj, if_false] at h1 h2
    exact h.2 j v' u' h1 h2

/-- what is put into a slot -/
def putA (t : List AV) (d : Option Tmp) (v : AV) : List AV := match d with | some d => t.set d v | none => t

theorem SR.put {N : Nat} {p : Pl} {a : Act} (h : SR X N p t a.tmps) (d : Option Tmp) {v : AV} {u : Value} (hv : VA X N p v u) : SR X N p (putA t d v) (a.put d u).tmps := by
  cases d with
  | none => exact h
  | some d => exact h.set d hv

theorem put_defers (a : Act) (d : Option Tmp) (u : Value) : (a.put d u).defers = a.defers := by cases d <;> rfl

theorem Rel.put {p : Pl} {a : Act} {w : World} (h : Rel X p t m a w) (d : Option Tmp) {v : AV} {u : Value} (hv : VA X m.length p v u) : Rel X p (putA t d v) m (a.put d u) w :=
  ⟨by rw [put_defers]; exact h.defers, h.slots.put d hv, h.mem⟩

theorem VA.und {N : Nat} {p : Pl} : VA X N p (.tup []) undef := .tup [] [] rfl (fun j c h => by simp at h)

theorem VA.bool {N : Nat} {p : Pl} {c : Bool} {v : Value} (h : VA X N p (.one (.b c)) v) : v = .bool c := by
  cases h with
  | one _ _ h => cases h; rfl

theorem KRun.cond {c : Operand} {x y : Code} {bv : Bool} (hc : ∀ (p : Pl) (a : Act) (w : World), Rel X p t m a w → a.eval c = .bool bv)
    (h : KRun X f n0 Q (.code (if bv then x else y) :: k) t m) : KRun X f n0 Q (.code (.cond c x y) :: k) t m := by
  intro hn p a w hr b cs hb hk
  obtain ⟨fr, w', v, r, m', p', h1, h2⟩ := h hn p a w hr b cs hb hk
  exact ⟨fr, w', v, r, m', p', .head (step_cond (hc p a w hr)) h1, h2⟩

/-- results of a function, out of its slots -/
def resOK (X : Ctx) (f : FuncId) (t : List AV) (m : Mem) (r : AV) : Prop :=
  ∀ (p : Pl) (a : Act) (w : World), Rel X p t m a w → ∃ fn v, X.P.funcs[f]? = some fn ∧ (results fn a.tmps).run X.P w = .ok v w ∧ VA X m.length p r v

theorem KRun.ret {r : AV} (hr : resOK X f t m r) (hQ : Q r m) : KRun X f n0 Q (.code .ret :: k) t m := by
  intro hn p a w h b cs hb hk
  obtain ⟨fn, v, h1, h2, h3⟩ := hr p a w h
  exact ⟨_, w, v, r, m, p, .one step_ret, hb, ⟨rfl, h.defers, hk, fn, by simpa [Frame.at, hb] using h1, h2⟩, .refl _ _, hn, h.mem, h3, hQ⟩

theorem KRun.nil {r : AV} (hr : resOK X f t m r) (hQ : Q r m) : KRun X f n0 Q [] t m := by
  intro hn p a w h b cs hb hk
  obtain ⟨fn, v, h1, h2, h3⟩ := hr p a w h
  exact ⟨_, w, v, r, m, p, .one step_end, hb, ⟨rfl, h.defers, hk, fn, by simpa [Frame.at, hb] using h1, h2⟩, .refl _ _, hn, h.mem, h3, hQ⟩

/-- a piece of code whose wp is known, then the rest -/
theorem KRun.of_wp {c : Code}
    (h : ∀ (p : Pl) (a : Act) (w : World), Rel X p t m a w →
      c.wp X.P (fun e a' w' => e = .normal ∧ ∃ p' t' m', Ext m.length p p' ∧ m.length ≤ m'.length ∧ Rel X p' t' m' a' w' ∧ KRun X f n0 Q k t' m') a w) :
    KRun X f n0 Q (.code c :: k) t m := by
  intro hn p a w hr b cs hb hk
  obtain ⟨e, a', w', ⟨rfl, p', t', m', h1, h2, h3, h4⟩, harr⟩ := h p a w hr b k cs
  obtain ⟨fr, w2, v, r, m2, p2, g1, g2, g3, g4, g5⟩ := h4 (by omega) p' a' w' h3 b cs hb hk
  exact ⟨fr, w2, v, r, m2, p2, Steps.trans harr g1, g2, g3, (h1.mono hn).trans g4 (Nat.le_refl _), g5⟩

theorem KRun.region {id : Nat} {ops : Array Oper} (h : LRun X ops ops.toList t m (KRun X f n0 Q k)) : KRun X f n0 Q (.code (.region id ops false) :: k) t m :=
  KRun.of_wp fun p a w hr => wp_region_list (h p a w hr)

theorem LRun.nil {all : Array Oper} {K : List AV → Mem → Prop} (h : K t m) : LRun X all [] t m K :=
  fun p _ _ hr => wpList_nil ⟨rfl, p, t, m, .refl _ _, Nat.le_refl _, hr, h⟩

theorem Oper_wp_mono2 {P : Program} {o : Oper} {a : Act} {w : World} {K K' : Act → World → Prop} {Q Q' : Exit → Act → World → Prop} (h : ∀ a w, K a w → K' a w) (hq : ∀ e a w, Q e a w → Q' e a w)
    (hh : o.wp P a w K Q) : o.wp P a w K' Q' := by
  unfold Oper.wp at *
  generalize (execOp a.eval o).run P w = r at *
  cases r with
  | ok n w' =>
    cases n <;> simp only [Oper.upon] at hh ⊢
    case value => exact h _ _ hh
    case skip => exact h _ _ hh
    case defer => exact h _ _ hh
    case enter f args => exact Calls.mono hh (fun e w'' he => by
      cases e with
      | returned v => exact h _ _ he
      | panicked c => exact hq _ _ _ he
      | outgrown => obtain ⟨a, w, he⟩ := he; exact ⟨a, w, hq _ _ _ he⟩)
    case row => exact Rows.mono hh (fun _ _ he => h _ _ he)
  | halt x w' => cases x <;> simp only [Oper.upon] at hh ⊢ <;> exact hq _ _ _ hh

theorem wpList_mono2 {P : Program} {ops : Array Oper} {Q Q' : Exit → Act → World → Prop} (hq : ∀ e a w, Q e a w → Q' e a w) : ∀ (l : List Oper) (a : Act) (w : World), wpList P ops Q l a w → wpList P ops Q' l a w
  | [], _, _, h => hq _ _ _ h
  | o :: l, a, w, h => by
    unfold wpList at h ⊢
    split
    · rename_i hw
      rw [if_pos hw] at h
      rcases h with h | ⟨h1, a', w', h2⟩
      · exact .inl (Oper_wp_mono2 (fun a w => wpList_mono2 hq l a w) hq h)
      · exact .inr ⟨h1, a', w', hq _ _ _ h2⟩
    · rename_i hw
      rw [if_neg hw] at h
      exact wpList_mono2 hq l _ _ h

theorem wpQuiet_mono {P : Program} {ops : Array Oper} {C : World → Prop} {Q Q' : Act → Prop} (hq : ∀ a, Q a → Q' a) : ∀ (l : List Oper) (a : Act), wpQuiet P ops C Q l a → wpQuiet P ops C Q' l a
  | [], _, h => hq _ h
  | o :: l, a, h => by
    unfold wpQuiet at h ⊢
    split
    · rename_i hw; rw [if_pos hw] at h; exact Oper.quiet_mono (fun a => wpQuiet_mono hq l a) h
    · rename_i hw; rw [if_neg hw] at h; exact wpQuiet_mono hq l _ h

theorem LRun.mono {all : Array Oper} {l : List Oper} {K K' : List AV → Mem → Prop} (h : LRun X all l t m K) (hk : ∀ t m, K t m → K' t m) : LRun X all l t m K' := by
  intro p a w hr
  exact wpList_mono2 (fun e a' w' ⟨h1, p', t', m', h2, h3, h4, h5⟩ => ⟨h1, p', t', m', h2, h3, h4, hk _ _ h5⟩) _ _ _ (h p a w hr)

/-- one operation that yields a value -/
def OpRuns (X : Ctx) (o : Oper) (t : List AV) (m : Mem) (v : AV) (m' : Mem) : Prop :=
  ∀ (p : Pl) (a : Act) (w : World), Rel X p t m a w → ∃ p' u w', ((execOp a.eval o).run X.P w = .ok (.value u) w' ∨ ((execOp a.eval o).run X.P w = .ok .skip w' ∧ u = undef)) ∧
    Ext m.length p p' ∧ m.length ≤ m'.length ∧ VA X m'.length p' v u ∧ MR X p' m' w'

/-- is an operation wanted? -/
def gval (all : List Oper) (t : List AV) (o : Oper) : Option Bool :=
  match o.guard with
  | none => some true
  | some (j, want) =>
    match all[j]? with
    | some oj =>
      match oj.dst with
      | some d =>
        match gt .any t d with
        | .one (.b c) => some (c == want)
        | .tup _ => some false
        | _ => none
      | none => none
    | none => none

theorem gval_sound {all : List Oper} {o : Oper} {g : Bool} (h : gval all t o = some g) {p : Pl} {a : Act} {w : World} (hr : Rel X p t m a w) :
    Region.wanted o (yielded all.toArray a.tmps) = g := by
  unfold gval at h
  unfold Region.wanted
  cases hg : o.guard with
  | none => rw [hg] at h; simpa using h
  | some jw =>
    obtain ⟨j, want⟩ := jw
    rw [hg] at h
    dsimp only at h ⊢
    cases hj : all[j]? with
    | none => rw [hj] at h; cases h
    | some oj =>
      rw [hj] at h
      dsimp only at h
      cases hd : oj.dst with
      | none => rw [hd] at h; cases h
      | some d =>
        rw [hd] at h
        dsimp only at h
        have hs := hr.slots.get d
        generalize hv : gt AV.any t d = v at h hs
        cases v with
        | one c =>
          cases c with
          | b c =>
            injection h with h
            have hb := VA.bool hs
            have hlt : d < a.tmps.size := by
              rcases Nat.lt_or_ge d a.tmps.size with h1 | h1
              · exact h1
              · rw [Array.getD] at hb; rw [dif_neg (by omega)] at hb; cases hb
            have : yielded all.toArray a.tmps j = some c := by
              have h2 : a.tmps[d]? = some (.bool c) := by
                rw [Array.getElem?_eq_getElem hlt]
                simp only [Array.getD, hlt, dif_pos] at hb
                exact congrArg some hb
              simp [yielded, hj, hd, h2]
            rw [this, ← h]
            cases c <;> cases want <;> rfl
          | _ => cases h
        | tup vs =>
          injection h with h
          have hno : yielded all.toArray a.tmps j = none := by
            have hnb : ∀ b, a.tmps[d]? ≠ some (.bool b) := by
              intro b hb
              have : a.tmps.getD d undef = .bool b := by
                obtain ⟨hlt, he⟩ := Array.getElem?_eq_some_iff.1 hb
                simp [Array.getD, hlt, he]
              rw [this] at hs
              cases hs
            simp only [yielded, List.getElem?_toArray, hj, hd, Option.bind_some]
          rw [hno]
          exact h
        | _ => cases h

theorem LRun.op {all : List Oper} {o : Oper} {l : List Oper} {v : AV} {m' : Mem} {K : List AV → Mem → Prop} (hg : gval all t o = some true) (ho : OpRuns X o t m v m')
    (h : LRun X all.toArray l (putA t o.dst v) m' K) : LRun X all.toArray (o :: l) t m K := by
  intro p a w hr
  unfold wpList
  rw [if_pos (gval_sound hg hr)]
  obtain ⟨p', u, w', h1, h2, h3, h4, h5⟩ := ho p a w hr
  have hr' : Rel X p' (putA t o.dst v) m' (a.put o.dst u) w' := ⟨by rw [put_defers]; exact hr.defers, (hr.slots.mono h3 h2).put o.dst h4, h5⟩
  have hK := wpList_mono2 (Q' := LPost X m.length p K) (fun e a' w' g => g.weaken h3 h2) _ _ _ (h p' _ _ hr')
  refine .inl ?_
  unfold Oper.wp
  rcases h1 with h1 | ⟨h1, rfl⟩
  · rw [h1]; exact hK
  · rw [h1]; exact hK

theorem LRun.skip {all : List Oper} {o : Oper} {l : List Oper} {K : List AV → Mem → Prop} (hg : gval all t o = some false)
    (h : LRun X all.toArray l (putA t o.dst (.tup [])) m K) : LRun X all.toArray (o :: l) t m K := by
  intro p a w hr
  unfold wpList
  rw [if_neg (by rw [gval_sound hg hr]; decide)]
  exact h p _ _ (hr.put o.dst VA.und)

/-- what a call does: from the caller's side -/
def CallRuns (X : Ctx) (o : Oper) (t : List AV) (m : Mem) (R : AV → Mem → Prop) : Prop :=
  ∀ (p : Pl) (a : Act) (w : World), Rel X p t m a w → ∃ f args, (execOp a.eval o).run X.P w = .ok (.enter f args) w ∧
    Calls X.P f args w (fun e w' => ∃ v r m' p', e = .returned v ∧ Ext m.length p p' ∧ m.length ≤ m'.length ∧ VA X m'.length p' r v ∧ MR X p' m' w' ∧ R r m')

theorem LRun.call {all : List Oper} {o : Oper} {l : List Oper} {R : AV → Mem → Prop} {K : List AV → Mem → Prop} (hg : gval all t o = some true) (ho : CallRuns X o t m R)
    (h : ∀ r m', R r m' → LRun X all.toArray l (putA t o.dst r) m' K) : LRun X all.toArray (o :: l) t m K := by
  intro p a w hr
  unfold wpList
  rw [if_pos (gval_sound hg hr)]
  obtain ⟨fn, args, h1, h2⟩ := ho p a w hr
  refine .inl ?_
  unfold Oper.wp
  rw [h1]
  refine Calls.mono h2 ?_
  rintro e w' ⟨v, r, m', p', rfl, g1, g2, g3, g4, g5⟩
  have hr' : Rel X p' (putA t o.dst r) m' (a.put o.dst v) w' := ⟨by rw [put_defers]; exact hr.defers, (hr.slots.mono g2 g1).put o.dst g3, g4⟩
  exact wpList_mono2 (fun e a' w' g => g.weaken g2 g1) _ _ _ (h r m' g5 p' _ _ hr')
end
end DH

namespace DH
open Go

/-! A region that draws its order: the first operations leave the tracked memory alone, those behind them come one by one. -/
section
variable {P : Program} {ops : Array Oper} {md : Region.Mode} {C : World → Prop}

def anyL (P : Program) (md : Region.Mode) (ops : Array Oper) (C : World → Prop) (n : Nat) (L : Array Bool → Act → Prop) : Nat → Array Bool → Act → Prop
  | 0, listed, a => L listed a
  | f + 1, listed, a =>
    Region.ready md ops listed ≠ [] ∧ ∀ i ∈ Region.ready md ops listed, i < n ∧ qOp P ops C i (anyL P md ops C n L f (listed.setIfInBounds i true)) a

theorem any_of_head {n g : Nat} {L : Array Bool → Act → Prop} {Q' : Exit → Act → World → Prop} (hL : ∀ listed a w, C w → L listed a → wpAny P md ops Q' g listed a w) :
    ∀ (f : Nat) (listed : Array Bool) (a : Act) (w : World), C w → anyL P md ops C n L f listed a → wpAny P md ops Q' (f + g) listed a w
  | 0, listed, a, w, hw, h => by rw [Nat.zero_add]; exact hL _ _ _ hw h
  | f + 1, listed, a, w, hw, h => by
    rw [show f + 1 + g = (f + g) + 1 by omega]
    exact ⟨fun h0 => absurd h0 h.1, fun i hi => wpOp_of_qOp hw (fun a' w' hw' h' => any_of_head hL f _ a' w' hw' h') (h.2 i hi).2⟩

theorem anyL_first {n i : Nat} {oi : Oper} {v : Value} {L : Array Bool → Act → Prop} (hi : ops[i]? = some oi) (hsel : ∀ (j : Nat) (o : Oper) cs b, ops[j]? = some o → o.op ≠ .select cs b)
    (hs : Region.sinkB md ops n = true) (hc : Region.chainB md ops n = true) (hn : n < ops.size) (hin : i < n)
    (hdone : ∀ listed a, L listed a → ∀ j ∈ Region.ready md ops listed, n ≤ j) :
    ∀ (f : Nat) (listed : Array Bool) (a : Act), HeadInv md ops n listed →
      (∀ j oj, ops[j]? = some oj → j ≠ i → listed.getD j true = false → (∀ e ∈ oj.after, Region.binds md e = true → e.on ≠ i) → oi.apart ops oj = true) →
      i ∈ Region.ready md ops listed → YieldsIn P ops C oi v a →
      anyL P md ops C n L f (listed.setIfInBounds i true) (a.put oi.dst v) → anyL P md ops C n L (f + 1) listed a := by
  intro f
  induction f with
  | zero =>
    intro listed a inv _ hr hy H
    have hun := (mem_ready.1 hr).1
    refine ⟨fun h => (by rw [h] at hr; cases hr), fun j hj => ?_⟩
    have hjn : j < n := by
      rcases Nat.lt_or_ge j n with h | h
      · exact h
      · exact absurd hj (tail_waits hs hc hn inv _ i rfl hin hun j h)
    refine ⟨hjn, ?_⟩
    by_cases hji : j = i
    · subst hji; exact hy.qOp hi H
    · have := hdone _ _ H j (ready_mono hj hji)
      omega
  | succ f ih =>
    intro listed a inv hfree hr hy H
    have hun := (mem_ready.1 hr).1
    refine ⟨fun h => (by rw [h] at hr; cases hr), fun j hj => ?_⟩
    have hjn : j < n := by
      rcases Nat.lt_or_ge j n with h | h
      · exact h
      · exact absurd hj (tail_waits hs hc hn inv _ i rfl hin hun j h)
    refine ⟨hjn, ?_⟩
    by_cases hji : j = i
    · subst hji; exact hy.qOp hi H
    · have h1 := (H.2 j (ready_mono hj hji)).2
      obtain ⟨hjun, oj, hoj, hall⟩ := mem_ready.1 hj
      have hnot : ∀ e ∈ oj.after, Region.binds md e = true → e.on ≠ i := fun e he hb heq => by
        have h1 := hall e he hb
        rw [heq, getD_both hun] at h1
        cases h1
      have h2 := qOp_put hoj (hfree j oj hoj hji hjun hnot) (fun cs b => hsel i oi cs b hi) (fun cs b => hsel j oj cs b hoj) hy h1
      have hfree' : ∀ k ok, ops[k]? = some ok → k ≠ i → (listed.setIfInBounds j true).getD k true = false →
          (∀ e ∈ ok.after, Region.binds md e = true → e.on ≠ i) → oi.apart ops ok = true := fun k ok hk hki hun hno => by
        refine hfree k ok hk hki ?_ hno
        by_cases hjk : j = k
        · subst hjk; exact hjun
        · rw [getD_set_ne true hjk] at hun; exact hun
      refine qOp_mono (fun a' h3 => ih (listed.setIfInBounds j true) a' (inv.set hj hjn) hfree' (ready_mono hr (Ne.symm hji)) h3.1 ?_) h2
      rw [Array.setIfInBounds_comm _ _ hji]
      exact h3.2

theorem anyL_lex {n g : Nat} {Lq : Act → Prop} (hsel : Region.noSelect ops = true) (hs : Region.sinkB md ops n = true) (hc : Region.chainB md ops n = true) (hn : n < ops.size) :
    ∀ (l : List Oper) (k : Nat) (listed : Array Bool) (a : Act), (∀ j, j < l.length → l[j]? = ops[k + j]?) → k + l.length = n → HeadInv md ops n listed →
    Region.lexHead md ops g l.length k listed = true → wpQuiet P ops C Lq l a →
    anyL P md ops C n (fun listed' a' => Region.seqB md ops g n listed' = true ∧ Lq a') l.length listed a
  | [], k, listed, a, _, hk, _, hB, h => by
    have : k = n := by simpa using hk
    subst this
    exact ⟨by simpa [Region.lexHead] using hB, h⟩
  | o :: l, k, listed, a, hl, hk, inv, hB, h => by
    have h0 : ops[k]? = some o := by simpa using (hl 0 (by simp)).symm
    simp only [List.length_cons, Region.lexHead, Bool.and_eq_true] at hB
    obtain ⟨⟨hr, hf⟩, hB'⟩ := hB
    have hkn : k < n := by simp only [List.length_cons] at hk; omega
    have hr' : k ∈ Region.ready md ops listed := by simpa using hr
    have hst : qOp P ops C k (wpQuiet P ops C Lq l) a := by unfold qOp; simp only [h0]; exact h
    obtain ⟨v, hy, hK⟩ := yieldsIn_of_qOp h0 hst
    exact anyL_first h0 (Region.noSelect_spec hsel) hs hc hn hkn (fun listed' a' hL => seqB_ready hL.1) l.length listed a inv (Region.free_spec h0 hf) hr' hy
      (anyL_lex hsel hs hc hn l (k + 1) _ _ (fun j hj => by have := hl (j + 1) (by simp; omega); simpa [Nat.add_assoc, Nat.add_comm 1 j] using this) (by simp only [List.length_cons] at hk; omega) (inv.set hr' hkn) hB' hK)

theorem wp_draw_tail {id : Nat} {Q : Exit → Act → World → Prop} {a : Act} {w : World} {l : List Oper} (n : Nat) (hm : P.follows .mixedOrders = true) (hB : Region.lexTailB .any l.toArray n = true)
    (hC : C { w with drawn := w.drawn + 1 })
    (h : wpQuiet P l.toArray C (fun a' => ∀ w', C w' → wpList P l.toArray Q (l.drop n) a' w') (l.take n) a) : (Code.region id l.toArray true).wp P Q a w := by
  simp only [Region.lexTailB, Bool.and_eq_true, decide_eq_true_eq] at hB
  obtain ⟨⟨⟨⟨hsel, hn⟩, hs⟩, hc⟩, hlex⟩ := hB
  have hn' : n < l.length := by simpa using hn
  have htl : (l.take n).length = n := by simp; omega
  have hdl : (l.drop n).length = l.toArray.size - n := by simp
  have inv0 : HeadInv .any l.toArray n (Array.replicate l.toArray.size false) :=
    ⟨by simp, fun j oj _ hl => (by rw [getD_replicate_false] at hl; cases hl), fun t _ ht => getD_in (by simpa using ht) (getD_replicate_false _ _)⟩
  have H := anyL_lex (md := .any) (g := l.toArray.size - n) hsel hs hc hn (l.take n) 0 _ a (fun j hj => by
    have hj' : j < n := by rw [htl] at hj; exact hj
    simp [hj']) (by simpa using htl) inv0 (by rw [htl]; exact hlex) h
  refine wp_region_any hm ?_
  have := any_of_head (Q' := Q) (g := l.toArray.size - n) (fun listed a' w' hw' hL => by
    have := wpAny_of_seq (md := .any) (Q' := Q) (l.drop n) n listed a' w' (fun j => by simp [List.getElem?_drop]) (by rw [hdl]; exact hL.1) (hL.2 w' hw')
    rwa [hdl] at this) _ _ _ _ hC H
  rw [htl, show n + (l.toArray.size - n) = l.toArray.size by omega] at this
  exact this

end

/-- the worlds that hold the tracked memory just as wb does -/
def MRw (X : Ctx) (p : Pl) (m : Mem) (wb w : World) : Prop := MR X p m w ∧ ∀ (i : Nat) (row : List AC), m[i]? = some (some row) → p.sz i ≠ 0 → w.heap[p.at_ i]? = wb.heap[p.at_ i]?

/-- Operations that leave the tracked memory alone, then K: at fixed places. -/
def QRun (X : Ctx) (p : Pl) (wb : World) (all : List Oper) (l : List Oper) (t : List AV) (m : Mem) (K : List AV → Prop) : Prop :=
  ∀ (a : Act), a.defers = [] → SR X m.length p t a.tmps →
    wpQuiet X.P all.toArray (MRw X p m wb) (fun a' => ∃ t', a'.defers = [] ∧ SR X m.length p t' a'.tmps ∧ K t') l a

section
variable {X : Ctx} {f n0 : Nat} {Q : AV → Mem → Prop} {k : List Item} {t : List AV} {m : Mem} {p : Pl} {wb : World} {all : List Oper} {o : Oper} {l : List Oper} {K : List AV → Prop}

theorem MR.drew {w : World} (h : MR X p m w) : MR X p m { w with drawn := w.drawn + 1 } := ⟨h.os, h.tape, h.output, h.size, h.keep, fun i r h1 => (h.blk i r h1).imp id fun ⟨h2, h3⟩ => ⟨h2, ⟨h3.ex, h3.ob⟩⟩, h.new, h.inj, h.fzn⟩

theorem QRun.nil (h : K t) : QRun X p wb all [] t m K := fun a hd hs => ⟨t, hd, hs, h⟩

theorem gval_sound' {g : Bool} (h : gval all t o = some g) {a : Act} (hs : SR X m.length p t a.tmps) : Region.wanted o (yielded all.toArray a.tmps) = g := by
  unfold gval at h
  unfold Region.wanted
  cases hg : o.guard with
  | none => rw [hg] at h; simpa using h
  | some jw =>
    obtain ⟨j, want⟩ := jw
    rw [hg] at h
    dsimp only at h ⊢
    cases hj : all[j]? with
    | none => rw [hj] at h; cases h
    | some oj =>
      rw [hj] at h
      dsimp only at h
      cases hd : oj.dst with
      | none => rw [hd] at h; cases h
      | some d =>
        rw [hd] at h
        dsimp only at h
        have hs := hs.get d
        generalize hv : gt AV.any t d = v at h hs
        cases v with
        | one c =>
          cases c with
          | b c =>
            injection h with h
            have hb := VA.bool hs
            have hlt : d < a.tmps.size := by
              rcases Nat.lt_or_ge d a.tmps.size with h1 | h1
              · exact h1
              · rw [Array.getD] at hb; rw [dif_neg (by omega)] at hb; cases hb
            have : yielded all.toArray a.tmps j = some c := by
              have h2 : a.tmps[d]? = some (.bool c) := by
                rw [Array.getElem?_eq_getElem hlt]
                simp only [Array.getD, hlt, dif_pos] at hb
                exact congrArg some hb
              simp [yielded, hj, hd, h2]
            rw [this, ← h]
            cases c <;> cases want <;> rfl
          | _ => cases h
        | tup vs =>
          injection h with h
          have hno : yielded all.toArray a.tmps j = none := by
            have hnb : ∀ b, a.tmps[d]? ≠ some (.bool b) := by
              intro b hb
              have : a.tmps.getD d undef = .bool b := by
                obtain ⟨hlt, he⟩ := Array.getElem?_eq_some_iff.1 hb
                simp [Array.getD, hlt, he]
              rw [this] at hs
              cases hs
            simp only [yielded, List.getElem?_toArray, hj, hd, Option.bind_some]
          rw [hno]
          exact h
        | _ => cases h

/-- one operation that yields one value in every world that has the tracked memory -/
def QRuns (X : Ctx) (p : Pl) (wb : World) (o : Oper) (t : List AV) (m : Mem) (v : AV) : Prop :=
  ∀ (a : Act), a.defers = [] → SR X m.length p t a.tmps → ∃ u, VA X m.length p v u ∧ ∀ w, MRw X p m wb w → o.quietAt X.P a (MRw X p m wb) w u

theorem QRun.op {v : AV} (hg : gval all t o = some true) (ho : QRuns X p wb o t m v) (h : QRun X p wb all l (putA t o.dst v) m K) : QRun X p wb all (o :: l) t m K := by
  intro a hd hs
  unfold wpQuiet
  rw [if_pos (gval_sound' hg hs)]
  obtain ⟨u, h1, h2⟩ := ho a hd hs
  exact ⟨u, h2, h _ (by rw [put_defers]; exact hd) (hs.put o.dst h1)⟩

theorem QRun.skip (hg : gval all t o = some false) (h : QRun X p wb all l (putA t o.dst (.tup [])) m K) : QRun X p wb all (o :: l) t m K := by
  intro a hd hs
  unfold wpQuiet
  rw [if_neg (by rw [gval_sound' hg hs]; decide)]
  exact h _ (by rw [put_defers]; exact hd) (hs.put o.dst VA.und)

theorem KRun.drawTail {id : Nat} (n : Nat) (hm : X.P.follows .mixedOrders = true) (hB : Region.lexTailB .any all.toArray n = true)
    (h : ∀ p wb, MR X p m wb → QRun X p wb all (all.take n) t m (fun t' => LRun X all.toArray (all.drop n) t' m (KRun X f n0 Q k))) : KRun X f n0 Q (.code (.region id all.toArray true) :: k) t m := by
  refine KRun.of_wp fun p a w hr => ?_
  refine wp_draw_tail (C := MRw X p m w) n hm hB ⟨hr.mem.drew, fun _ _ _ _ => rfl⟩ ?_
  have := h p w hr.mem a hr.defers hr.slots
  refine wpQuiet_mono ?_ _ _ this
  rintro a' ⟨t', g1, g2, g3⟩ w' hw'
  exact g3 p a' w' ⟨g1, g2, hw'.1⟩

theorem KRun.drawAll {id : Nat} (hm : X.P.follows .mixedOrders = true) (hB : Region.lexB .any all.toArray = true)
    (h : ∀ p wb, MR X p m wb → QRun X p wb all all t m (fun t' => KRun X f n0 Q k t' m)) : KRun X f n0 Q (.code (.region id all.toArray true) :: k) t m := by
  refine KRun.of_wp fun p a w hr => ?_
  refine wp_region_quiet (C := MRw X p m w) hm hB ⟨hr.mem.drew, fun _ _ _ _ => rfl⟩ ?_
  have := h p w hr.mem a hr.defers hr.slots
  refine wpQuiet_mono ?_ _ _ this
  rintro a' ⟨t', g1, g2, g3⟩ w' hw'
  exact ⟨rfl, p, t', m, .refl _ _, Nat.le_refl _, ⟨g1, g2, hw'.1⟩, g3⟩
end
end DH

namespace DH
open Go

/-! A region that draws its order, whatever its operations are: all orders, but for operations that look only at what stays. -/

/-- what is there stays, more may come -/
structure Grow (w w' : World) : Prop where
  os : w'.os = w.os
  tape : w'.tape = w.tape
  output : w'.output = w.output
  size : w.heap.size ≤ w'.heap.size
  keep : ∀ b, b < w.heap.size → w'.heap[b]? = w.heap[b]?

theorem Grow.refl (w : World) : Grow w w := ⟨rfl, rfl, rfl, Nat.le_refl _, fun _ _ => rfl⟩
theorem Grow.trans {u v w : World} (h : Grow u v) (k : Grow v w) : Grow u w :=
  ⟨k.os.trans h.os, k.tape.trans h.tape, k.output.trans h.output, Nat.le_trans h.size k.size, fun b hb => (k.keep b (Nat.lt_of_lt_of_le hb h.size)).trans (h.keep b hb)⟩

section
variable {P : Program} {ops : Array Oper} {md : Region.Mode}

/-- an operation that ends well -/
def gAt (P : Program) (o : Oper) (a : Act) (K : Value → World → Prop) (w : World) : Prop :=
  match (execOp a.eval o).run P w with
  | .ok (.value v) w' => K v w'
  | .ok .skip w' => K undef w'
  | .ok (.enter f args) w' => Calls P f args w' (fun e w'' => ∃ v, e = .returned v ∧ K v w'')
  | _ => False

theorem gAt_mono {o : Oper} {a : Act} {K K' : Value → World → Prop} {w : World} (h : ∀ v w', K v w' → K' v w') (hh : gAt P o a K w) : gAt P o a K' w := by
  unfold gAt at *
  split at hh
  · exact h _ _ hh
  · exact h _ _ hh
  · exact hh.mono fun e w'' ⟨v, h1, h2⟩ => ⟨v, h1, h _ _ h2⟩
  · exact hh

def gOp (P : Program) (ops : Array Oper) (i : Nat) (K : Act → World → Prop) (a : Act) (w : World) : Prop :=
  match ops[i]? with
  | none => K a w
  | some o => if Region.wanted o (yielded ops a.tmps) then gAt P o a (fun v w' => K (a.put o.dst v) w') w else K (a.put o.dst undef) w

theorem gOp_mono {i : Nat} {K K' : Act → World → Prop} {a : Act} {w : World} (h : ∀ a' w', K a' w' → K' a' w') (hh : gOp P ops i K a w) : gOp P ops i K' a w := by
  unfold gOp at *
  cases ho : ops[i]? with
  | none => simp only [ho] at hh ⊢; exact h _ _ hh
  | some o =>
    simp only [ho] at hh ⊢
    split
    · rename_i hw; rw [if_pos hw] at hh; exact gAt_mono (fun v w' => h _ _) hh
    · rename_i hw; rw [if_neg hw] at hh; exact h _ _ hh

theorem wpOp_of_gOp {i : Nat} {K : Act → World → Prop} {Q : Exit → Act → World → Prop} {a : Act} {w : World} (h : gOp P ops i K a w) : wpOp P ops Q i K a w := by
  unfold gOp at h
  unfold wpOp
  cases ho : ops[i]? with
  | none => simp only [ho] at h ⊢; exact h
  | some o =>
    simp only [ho] at h ⊢
    split
    · rename_i hw
      rw [if_pos hw] at h
      left
      unfold gAt at h
      unfold Oper.wp
      generalize (execOp a.eval o).run P w = r at *
      split at h
      · exact h
      · exact h
      · refine Calls.mono h fun e w'' ⟨v, h1, h2⟩ => ?_
        subst h1
        exact h2
      · exact h.elim
    · rename_i hw; rw [if_neg hw] at h; exact h

/-- all orders, with what the soft operations leave told; at any time more may come -/
def anyG (P : Program) (md : Region.Mode) (ops : Array Oper) (soft : Nat → Bool) (I : World → Prop) (L : Act → World → Prop) : Nat → Array Bool → Act → World → Prop
  | 0, listed, a, w => Region.ready md ops listed = [] ∧ ∀ w1, Grow w w1 → L a w1
  | f + 1, listed, a, w => ∀ w1, Grow w w1 → (Region.ready md ops listed = [] → L a w1) ∧
      ∀ i ∈ Region.ready md ops listed, gOp P ops i (fun a' w' => (soft i = true → Grow w1 w') ∧ I w' ∧ anyG P md ops soft I L f (listed.setIfInBounds i true) a' w') a w1

theorem anyG_grow {soft : Nat → Bool} {I : World → Prop} {L : Act → World → Prop} : ∀ {f : Nat} {listed : Array Bool} {a : Act} {w w1 : World}, anyG P md ops soft I L f listed a w → Grow w w1 → anyG P md ops soft I L f listed a w1
  | 0, _, _, _, _, h, g => ⟨h.1, fun w2 g2 => h.2 w2 (g.trans g2)⟩
  | _ + 1, _, _, _, _, h, g => fun w2 g2 => h w2 (g.trans g2)

theorem wpAny_of_anyG {soft : Nat → Bool} {I : World → Prop} {L : Act → World → Prop} {Q : Exit → Act → World → Prop} (hL : ∀ a w, L a w → Q .normal a w) : ∀ (f : Nat) (listed : Array Bool) (a : Act) (w : World),
    anyG P md ops soft I L f listed a w → wpAny P md ops Q f listed a w
  | 0, _, _, w, h => ⟨h.1, hL _ _ (h.2 w (.refl w))⟩
  | f + 1, _, _, w, h => ⟨fun h0 => hL _ _ ((h w (.refl w)).1 h0), fun i hi => wpOp_mono (fun a' w' h' => wpAny_of_anyG hL f _ a' w' h'.2.2) (wpOp_of_gOp ((h w (.refl w)).2 i hi))⟩

/-- one value in every world of a class, to which more may come -/
def YieldsC (P : Program) (ops : Array Oper) (C : World → Prop) (o : Oper) (v : Value) (a : Act) : Prop :=
  (Region.wanted o (yielded ops a.tmps) = true ∧ ∀ w, C w → gAt P o a (fun u w' => u = v ∧ Grow w w') w) ∨
  (Region.wanted o (yielded ops a.tmps) = false ∧ v = undef)

theorem YieldsC.quiet {C : World → Prop} {o : Oper} {v : Value} {a : Act} (h1 : Region.wanted o (yielded ops a.tmps) = true) (h2 : ∀ w, C w → (execOp a.eval o).run P w = .ok (.value v) w) : YieldsC P ops C o v a := by
  refine .inl ⟨h1, fun w hw => ?_⟩
  unfold gAt
  rw [h2 w hw]
  exact ⟨rfl, .refl w⟩

theorem YieldsC.gOp {C : World → Prop} {i : Nat} {o : Oper} {v : Value} {a : Act} (hi : ops[i]? = some o) (hy : YieldsC P ops C o v a) {K : Act → World → Prop} {w : World} (hw : C w) (h : ∀ w', Grow w w' → K (a.put o.dst v) w') : gOp P ops i K a w := by
  unfold DH.gOp
  simp only [hi]
  rcases hy with ⟨h1, h2⟩ | ⟨h1, rfl⟩
  · rw [if_pos h1]
    exact gAt_mono (fun u w' ⟨e, g⟩ => by rw [e]; exact h w' g) (h2 w hw)
  · rw [if_neg (by rw [h1]; decide)]
    exact h w (.refl w)

/-- another operation, whether or not the value is already there -/
theorem gOp_put {C : World → Prop} {j : Nat} {oi oj : Oper} {v : Value} (hj : ops[j]? = some oj) (hap : oi.apart ops oj = true)
    (hsi : ∀ cs b, oi.op ≠ .select cs b) (hsj : ∀ cs b, oj.op ≠ .select cs b) {K : Act → World → Prop} {a : Act} {w : World} (hy : YieldsC P ops C oi v a)
    (h : gOp P ops j K (a.put oi.dst v) w) : gOp P ops j (fun a' w' => YieldsC P ops C oi v a' ∧ K (a'.put oi.dst v) w') a w := by
  obtain ⟨h1, h2, h3⟩ := Oper.apart_spec hap
  have keep : ∀ u, YieldsC P ops C oi v (a.put oj.dst u) := fun u => by
    unfold YieldsC gAt at *
    rw [execOp_put oi hsi a oj.dst u h3, wanted_put oi a oj.dst u h3]
    exact hy
  have e : ∀ u, (a.put oi.dst v).put oj.dst u = (a.put oj.dst u).put oi.dst v := fun u => Act.put_comm a v u h2
  unfold gOp gAt at *
  simp only [hj] at *
  rw [wanted_put oj a oi.dst v h1] at h
  split
  · rename_i hw
    rw [if_pos hw] at h
    rw [execOp_put oj hsj a oi.dst v h1] at h
    generalize (execOp a.eval oj).run P w = r at *
    split at h
    · exact ⟨keep _, by rw [← e]; exact h⟩
    · exact ⟨keep _, by rw [← e]; exact h⟩
    · refine Calls.mono h fun x w'' ⟨u, g1, g2⟩ => ⟨u, g1, keep _, by rw [← e]; exact g2⟩
    · exact h.elim
  · rename_i hw
    rw [if_neg hw] at h
    exact ⟨keep _, by rw [← e]; exact h⟩

/-- an operation that looks only at what stays may come first -/
theorem anyG_first {soft : Nat → Bool} {I : World → Prop} {L : Act → World → Prop} {C : World → Prop} (hC : ∀ w w', C w → Grow w w' → C w') (hCI : ∀ w, C w → I w) {i : Nat} {oi : Oper} {v : Value} (hi : ops[i]? = some oi) (hsel : ∀ (j : Nat) (o : Oper) cs b, ops[j]? = some o → o.op ≠ .select cs b) :
    ∀ (f : Nat) (listed : Array Bool) (a : Act) (w : World),
      (∀ j oj, ops[j]? = some oj → j ≠ i → listed.getD j true = false → (∀ e ∈ oj.after, Region.binds md e = true → e.on ≠ i) → oi.apart ops oj = true ∧ (soft j = true ∨ ∀ w, I w → C w)) →
      i ∈ Region.ready md ops listed → YieldsC P ops C oi v a → C w →
      anyG P md ops soft I L f (listed.setIfInBounds i true) (a.put oi.dst v) w → anyG P md ops soft I L (f + 1) listed a w := by
  intro f
  induction f with
  | zero =>
    intro listed a w hfree hr hy hw H w1 hg
    refine ⟨fun h => (by rw [h] at hr; cases hr), fun j hj => ?_⟩
    by_cases hji : j = i
    · subst hji
      exact hy.gOp hi (hC _ _ hw hg) fun w' g => ⟨fun _ => g, hCI _ (hC _ _ (hC _ _ hw hg) g), anyG_grow H (hg.trans g)⟩
    · have := ready_mono hj hji
      rw [H.1] at this
      cases this
  | succ f ih =>
    intro listed a w hfree hr hy hw H w1 hg
    have hun := (mem_ready.1 hr).1
    refine ⟨fun h => (by rw [h] at hr; cases hr), fun j hj => ?_⟩
    by_cases hji : j = i
    · subst hji
      exact hy.gOp hi (hC _ _ hw hg) fun w' g => ⟨fun _ => g, hCI _ (hC _ _ (hC _ _ hw hg) g), anyG_grow H (hg.trans g)⟩
    · have h1 := (H w1 hg).2 j (ready_mono hj hji)
      obtain ⟨hjun, oj, hoj, hall⟩ := mem_ready.1 hj
      have hnot : ∀ e ∈ oj.after, Region.binds md e = true → e.on ≠ i := fun e he hb heq => by
        have h1 := hall e he hb
        rw [heq, getD_both hun] at h1
        cases h1
      obtain ⟨hap, hso⟩ := hfree j oj hoj hji hjun hnot
      have h2 := gOp_put hoj hap (fun cs b => hsel i oi cs b hi) (fun cs b => hsel j oj cs b hoj) hy h1
      have hfree' : ∀ k ok, ops[k]? = some ok → k ≠ i → (listed.setIfInBounds j true).getD k true = false →
          (∀ e ∈ ok.after, Region.binds md e = true → e.on ≠ i) → oi.apart ops ok = true ∧ (soft k = true ∨ ∀ w, I w → C w) := fun k ok hk hki hun hno => by
        refine hfree k ok hk hki ?_ hno
        by_cases hjk : j = k
        · subst hjk; exact hjun
        · rw [getD_set_ne true hjk] at hun; exact hun
      refine gOp_mono (fun a' w' ⟨g1, g2, g4, g3⟩ => ⟨g2, g4, ih (listed.setIfInBounds j true) a' w' hfree' (ready_mono hr (Ne.symm hji)) g1 ?_ ?_⟩) h2
      · rcases hso with h | h
        · exact hC _ _ (hC _ _ hw hg) (g2 h)
        · exact h _ g4
      · rw [Array.setIfInBounds_comm _ _ hji]
        exact g3
end
end DH

namespace DH
open Go

/-! What is known of types. -/

inductive TD where
  | bool | int (k : IntKind) | str | flt | ptr (e : TypeId) | slice (e : TypeId) | array (n : Nat) (e : TypeId)
  | struct (fs : List (Nat × TypeId)) | fn | map (k e : TypeId) | other

structure TI where
  d : TD
  sz : Nat
  bytes : Nat
  zero : List AC
  agg : Bool
  /-- may two be compared cell by cell? -/
  eq : Bool

def TI.none : TI := ⟨.other, 0, 0, [], false, false⟩

inductive EK where
  | bool | int (k : IntKind) | str
  deriving DecidableEq

def ekOf : AC → Option EK
  | .u8 _ => some (.int .u8)
  | .u16 _ => some (.int .u16)
  | .u32 _ => some (.int .u32)
  | .u64 _ => some (.int .u64)
  | .i64 _ => some (.int .i64)
  | .b _ => some .bool
  | .s _ => some .str
  | _ => none

def kindsF (P : Program) (K : TypeId → Option (List EK)) : List Field → Nat → Option (List EK)
  | [], _ => some []
  | f :: fs, o =>
    match K f.type, kindsF P K fs (o + P.cellsOf f.type) with
    | some ks, some rest => if f.offset = o ∧ ks.length = P.cellsOf f.type then some (ks ++ rest) else none
    | _, _ => none

def kindsT (P : Program) : Nat → TypeId → Option (List EK)
  | 0, _ => none
  | d + 1, t =>
    match P.underlying t with
    | some .bool => some [.bool]
    | some (.int k) => some [.int k]
    | some .string => some [.str]
    | some (.array n e) =>
      match kindsT P d e with
      | some ks => if ks.length = P.cellsOf e ∧ n * ks.length = P.cellsOf t then some (List.replicate n ks).flatten else none
      | none => none
    | some (.struct fs) =>
      match kindsF P (kindsT P d) fs.toList 0 with
      | some ks => if ks.length = P.cellsOf t ∧ fs.all (·.name != "_") = true then some ks else none
      | none => none
    | _ => none

def tdOk : TD → TypeDesc → Prop
  | .bool, .bool => True
  | .int k, .int k' => k' = k
  | .str, .string => True
  | .flt, .float .f64 => True
  | .ptr e, .pointer e' => e' = e
  | .slice e, .slice e' => e' = e
  | .array n e, .array n' e' => n' = n ∧ e' = e
  | .struct fs, .struct gs => fs.length = gs.size ∧ ∀ (i o : Nat) (ty : TypeId), fs[i]? = some (o, ty) → ∃ g : Field, gs[i]? = some g ∧ g.offset = o ∧ g.type = ty
  | .fn, .func _ _ _ => True
  | .map k e, .map k' e' => k' = k ∧ e' = e
  | _, _ => False

/-- keys of a map: what the laws ask of their type -/
structure KeyT (P : Program) (k : TypeId) : Prop where
  law : Go.Maps.Keyed P k
  wide : (match P.underlying k with | some (.array _ _) | some (.struct _) => true | _ => false) = true → P.keyType k = true ∧ kindsT P (P.types.size + 1) k = kindsT P 40 k

structure TyOk (P : Program) (t : TypeId) (ti : TI) : Prop where
  und : ∃ d, P.underlying t = some d ∧ tdOk ti.d d
  info : ∃ i, P.info? t = some i ∧ i.size = ti.sz ∧ i.bytes = ti.bytes ∧ ∃ z, i.zero = some z ∧ ∀ (X : Ctx) (N : Nat) (p : Pl), VL X N p ti.zero z.cells.toList
  agg : ti.agg = (match ti.d with | .array _ _ => true | .struct _ => true | _ => false)
  parts : ∀ d, P.underlying t = some d → (∀ gs, d = .struct gs → ∀ g ∈ gs.toList, (P.info? g.type).isSome = true) ∧ (∀ n e, d = .array n e → (P.info? e).isSome = true)
  eq : ti.eq = true → (kindsT P 40 t).map (List.map some) = some (ti.zero.map ekOf) ∧ P.keyTypeAt 40 t = true ∧ P.eqGuardType P.depth t = false
  key : ∀ k e, ti.d = .map k e → KeyT P k
  zag : ∀ i z, P.info? t = some i → i.zero = some z → (ti.agg = true → ∃ cs, z = .agg cs) ∧ (ti.agg = false → ∀ cs, z ≠ .agg cs)

/-- how a part of memory is cut out: nil slices that are to be rows (slot, 0: as one from outside, e + 1: as one of our own with elements of e cells); which blocks, in order, hold no names -/
structure CS where
  kinds : List (Nat × Nat)
  fl : List Bool
  /-- slots whose values hold no names -/
  fv : List Nat := []
  /-- cells of a row that a slot points to: (slot, cell, kind) -/
  cells : List (Nat × Nat × Nat) := []

/-- of a call: its arguments' cut, and which blocks hold no names behind it -/
structure MF where
  cs : CS
  flo : List Bool
  /-- does the result hold no names? -/
  rf : Bool := false
  /-- is it a call that only reads what it is given, and returns memory of its own? -/
  fresh : Bool := false

structure Env where
  ty : List TI
  /-- are variables of this type read and written without laying their row out? -/
  sym : TypeId → Bool
  /-- are all sizes and indexes numbers that can be reckoned? -/
  lit : Bool
  /-- what calls give that only compute -/
  call : FuncId → List AV → Option (List Prop × AV)
  /-- slots whose Bool is taken to be this, on the path in hand -/
  asm : List (Nat × Bool)
  /-- calls that turn memory: how their memory is cut out -/
  memf : FuncId → Option MF
  /-- what such calls do -/
  callM : FuncId → List AV → List (Option (List AC)) → Option (List Prop × AV × List (Option (List AC)))
  /-- functions that the machine does itself -/
  ext : FuncId → Option Nat := fun _ => none

def Env.ti (E : Env) (t : TypeId) : TI := gt TI.none E.ty t

def EnvOk (P : Program) (E : Env) : Prop := ∀ (t : TypeId) (ti : TI), E.ty[t]? = some ti → (match ti.d with | .other => True | _ => TyOk P t ti)

theorem EnvOk.ti {P : Program} {E : Env} (h : EnvOk P E) (t : TypeId) : (match (E.ti t).d with | .other => True | _ => TyOk P t (E.ti t)) := by
  unfold Env.ti
  rw [gt_eq]
  rcases Nat.lt_or_ge t E.ty.length with hn | hn
  · have h1 : E.ty[t]? = some E.ty[t] := List.getElem?_eq_getElem hn
    have := h t _ h1
    simpa [h1] using this
  · rw [List.getElem?_eq_none hn]
    simp [TI.none]

/-! Values that stand in the text. -/

def cvC : Value → AC
  | .int .u8 n => if decide (0 ≤ n ∧ n < 256) then .u8 (BitVec.ofInt 8 n) else .any
  | .int .u16 n => if decide (0 ≤ n ∧ n < 65536) then .u16 (BitVec.ofInt 16 n) else .any
  | .int .u32 n => if decide (0 ≤ n ∧ n < 4294967296) then .u32 (BitVec.ofInt 32 n) else .any
  | .int .u64 n => if decide (0 ≤ n ∧ n < 18446744073709551616) then .u64 (BitVec.ofInt 64 n) else .any
  | .int .i64 n => .i64 n
  | .int .i32 n => .i32 n
  | .bool b => .b b
  | .pointer none => .np
  | .slice none 0 0 => .ns
  | .string s => .s (s.data.toList.map UInt8.toBitVec)
  | .float .f64 b => .f b
  | .nilFunc => .nf
  | .map none => .nm
  | _ => .any

def cv : Value → AV
  | .agg cs => if cs.toList.all Value.oneCell' then .agg (cs.toList.map cvC) else .any
  | .tuple _ => .any
  | v => .one (cvC v)

theorem ofInt_toNat (n : Nat) (z : Int) (h0 : 0 ≤ z) (h1 : z < 2 ^ n) : ((BitVec.ofInt n z).toNat : Int) = z := by
  rw [BitVec.toNat_ofInt]
  have : z % (2 ^ n : Int) = z := Int.emod_eq_of_lt h0 h1
  have h2 : ((2 ^ n : Nat) : Int) = (2 : Int) ^ n := by simp
  rw [h2, this]
  omega

theorem cvC_ok (X : Ctx) (N : Nat) (p : Pl) (v : Value) (h : v.oneCell' = true) : VR X N p (cvC v) v := by
  unfold cvC
  split
  · split
    · rename_i n hc
      have hc := of_decide_eq_true hc
      have := ofInt_toNat 8 n hc.1 hc.2
      conv => rhs; rw [← this]
      exact .u8 _
    · exact .any _ rfl
  · split
    · rename_i n hc
      have hc := of_decide_eq_true hc
      have := ofInt_toNat 16 n hc.1 hc.2
      conv => rhs; rw [← this]
      exact .u16 _
    · exact .any _ rfl
  · split
    · rename_i n hc
      have hc := of_decide_eq_true hc
      have := ofInt_toNat 32 n hc.1 hc.2
      conv => rhs; rw [← this]
      exact .u32 _
    · exact .any _ rfl
  · split
    · rename_i n hc
      have hc := of_decide_eq_true hc
      have := ofInt_toNat 64 n hc.1 hc.2
      conv => rhs; rw [← this]
      exact .u64 _
    · exact .any _ rfl
  · exact .i64 _
  · exact .i32 _
  · exact .b _
  · exact .np
  · exact .ns
  · exact .s _ _ rfl
  · exact .f _
  · exact .nf
  · exact .nm
  · exact .any _ h

theorem cv_ok (X : Ctx) (N : Nat) (p : Pl) (v : Value) : VA X N p (cv v) v := by
  unfold cv
  split
  · rename_i cs
    split
    · rename_i h
      have := VA.agg (X := X) (N := N) (p := p) (cs.toList.map cvC) cs.toList ⟨by simp, fun j c u h1 h2 => by
        rw [List.getElem?_map, h2] at h1
        injection h1 with h1
        subst h1
        exact cvC_ok X N p u (List.all_eq_true.1 h u (List.mem_of_getElem? h2))⟩
      simpa using this
    · exact .any _
  · exact .any _
  · rename_i h1 h2
    exact .one _ _ (cvC_ok X N p v (by cases v <;> first | rfl | exact absurd rfl (h1 _) | exact absurd rfl (h2 _)))

def getO (t : List AV) : Operand → AV
  | .tmp n => gt .any t n
  | .const v => cv v
  | .func f => .one (.fn f [])
  | .global _ => .any

theorem getO_ok {X : Ctx} {N : Nat} {p : Pl} {t : List AV} {a : Act} (h : SR X N p t a.tmps) (x : Operand) : VA X N p (getO t x) (a.eval x) := by
  cases x with
  | tmp n => exact h.get n
  | const v => exact cv_ok X N p v
  | func f => exact .one _ _ (.fn f [] (fun _ => undef) (by simp))
  | global g => exact .any _

/-! Numbers -/

abbrev Res := Option (List Prop × AC)

def AllC : List Prop → Prop
  | [] => True
  | c :: cs => c ∧ AllC cs

def evU {n : Nat} (mk : BitVec n → AC) (op : BinOp) (a b : BitVec n) : Res :=
  match op with
  | .add => some ([], mk (a + b))
  | .sub => some ([], mk (a - b))
  | .mul => some ([], mk (a * b))
  | .quo => some ([b ≠ 0], mk (a / b))
  | .rem => some ([b ≠ 0], mk (a % b))
  | .and => some ([], mk (a &&& b))
  | .or => some ([], mk (a ||| b))
  | .xor => some ([], mk (a ^^^ b))
  | .andNot => some ([], mk (a &&& ~~~b))
  | .eql => some ([], .b (decide (a = b)))
  | .neq => some ([], .b (!decide (a = b)))
  | .lss => some ([], .b (decide (a < b)))
  | .leq => some ([], .b (decide (a ≤ b)))
  | .gtr => some ([], .b (decide (b < a)))
  | .geq => some ([], .b (decide (b ≤ a)))
  | .shl | .shr => none

/-- an operation that has one value wherever it is carried out -/
def Gives (P : Program) (s : Sem Value) (u : Value) : Prop := ∀ w, s.run P w = .ok u w

theorem wrapU (k : IntKind) (hk : k.signed = false) (z : Int) : k.wrap z = ((BitVec.ofInt k.bits z).toNat : Int) := by
  rw [BitVec.toNat_ofInt]
  unfold IntKind.wrap
  simp only [hk, Bool.false_and, Bool.false_eq_true, if_false]
  have h2 : ((2 ^ k.bits : Nat) : Int) = (2 : Int) ^ k.bits := by simp
  rw [h2]
  have : (0 : Int) < 2 ^ k.bits := Int.pow_pos (by decide)
  have := Int.emod_nonneg z (b := 2 ^ k.bits) (by omega)
  omega

theorem ofInt_natCast {n : Nat} (x : BitVec n) : BitVec.ofInt n (x.toNat : Int) = x := by
  apply BitVec.eq_of_toNat_eq
  simp

theorem cast_inj {n : Nat} (x y : BitVec n) : ((x.toNat : Int) = (y.toNat : Int)) ↔ x = y :=
  ⟨fun h => BitVec.eq_of_toNat_eq (by omega), fun h => by rw [h]⟩

theorem evU_ok {P : Program} {X : Ctx} {N : Nat} {p : Pl} (k : IntKind) (hk : k.signed = false) (mk : BitVec k.bits → AC) (hm : ∀ z, VR X N p (mk z) (.int k z.toNat)) {op : BinOp} {x y : BitVec k.bits}
    {cs : List Prop} {c : AC} (h : evU mk op x y = some (cs, c)) (hc : AllC cs) (ty : TypeId) :
    ∃ u, Gives P (binOp op ty (.int k x.toNat) (.int k y.toNat)) u ∧ VR X N p c u := by
  have key : ∀ z : BitVec k.bits, ∀ s : Sem Value, s = pure (.int k (z.toNat : Int)) → ∃ u, Gives P s u ∧ VR X N p (mk z) u :=
    fun z s hs => ⟨_, fun w => by rw [hs]; rfl, hm z⟩
  have keyb : ∀ (z : Bool) (s : Sem Value), s = pure (.bool z) → ∃ u, Gives P s u ∧ VR X N p (.b z) u :=
    fun z s hs => ⟨_, fun w => by rw [hs]; rfl, .b z⟩
  have hpos : ((2 ^ k.bits : Nat) : Int) = (2 : Int) ^ k.bits := by simp
  cases op <;> simp only [evU, Option.some.injEq, Prod.mk.injEq, reduceCtorEq] at h
  case add =>
    obtain ⟨rfl, rfl⟩ := h
    refine key _ _ ?_
    rw [binOp_add]
    simp only [Op.intArith]
    rw [wrapU k hk, BitVec.ofInt_add, ofInt_natCast, ofInt_natCast]
  case sub =>
    obtain ⟨rfl, rfl⟩ := h
    refine key _ _ ?_
    rw [binOp_sub]
    simp only [Op.intArith]
    rw [wrapU k hk, Int.sub_eq_add_neg, BitVec.ofInt_add, BitVec.ofInt_neg, ofInt_natCast, ofInt_natCast, BitVec.sub_eq_add_neg]
  case mul =>
    obtain ⟨rfl, rfl⟩ := h
    refine key _ _ ?_
    rw [binOp_mul]
    simp only [Op.intArith]
    rw [wrapU k hk, BitVec.ofInt_mul, ofInt_natCast, ofInt_natCast]
  case quo =>
    obtain ⟨rfl, rfl⟩ := h
    have hy : y.toNat ≠ 0 := fun h0 => hc.1 (BitVec.eq_of_toNat_eq (by simpa using h0))
    refine key _ _ ?_
    rw [binOp_quo]
    simp only [Op.intDiv]
    rw [if_neg (by omega), ← Int.ofNat_tdiv, wrapU k hk, BitVec.ofInt_natCast]
    congr 3
    rw [BitVec.toNat_ofNat, BitVec.toNat_udiv]
    exact Nat.mod_eq_of_lt (Nat.lt_of_le_of_lt (Nat.div_le_self _ _) x.isLt)
  case rem =>
    obtain ⟨rfl, rfl⟩ := h
    have hy : y.toNat ≠ 0 := fun h0 => hc.1 (BitVec.eq_of_toNat_eq (by simpa using h0))
    refine key _ _ ?_
    rw [binOp_rem]
    simp only [Op.intDiv]
    rw [if_neg (by omega), ← Int.ofNat_tmod, BitVec.toNat_umod]
  case and =>
    obtain ⟨rfl, rfl⟩ := h
    refine key _ _ ?_
    rw [binOp_and]
    simp only [Op.intBits]
    rw [wrapU k hk, ofInt_natCast, ofInt_natCast, ofInt_natCast]
  case or =>
    obtain ⟨rfl, rfl⟩ := h
    refine key _ _ ?_
    rw [binOp_or]
    simp only [Op.intBits]
    rw [wrapU k hk, ofInt_natCast, ofInt_natCast, ofInt_natCast]
  case xor =>
    obtain ⟨rfl, rfl⟩ := h
    refine key _ _ ?_
    rw [binOp_xor]
    simp only [Op.intBits]
    rw [wrapU k hk, ofInt_natCast, ofInt_natCast, ofInt_natCast]
  case andNot =>
    obtain ⟨rfl, rfl⟩ := h
    refine key _ _ ?_
    rw [binOp_andNot]
    simp only [Op.intBits]
    rw [wrapU k hk, ofInt_natCast, ofInt_natCast, ofInt_natCast]
  case eql =>
    obtain ⟨rfl, rfl⟩ := h
    refine keyb _ _ ?_
    rw [binOp_eql]
    congr 2
    rw [Bool.eq_iff_iff]
    simp [cast_inj]
  case neq =>
    obtain ⟨rfl, rfl⟩ := h
    refine keyb _ _ ?_
    rw [binOp_neq]
    congr 2
    rw [Bool.eq_iff_iff]
    simp [cast_inj]
  case lss =>
    obtain ⟨rfl, rfl⟩ := h
    refine keyb _ _ ?_
    rw [binOp_lss]
    simp [BitVec.lt_def]
  case leq =>
    obtain ⟨rfl, rfl⟩ := h
    refine keyb _ _ ?_
    rw [binOp_leq]
    simp [BitVec.le_def]
  case gtr =>
    obtain ⟨rfl, rfl⟩ := h
    refine keyb _ _ ?_
    rw [binOp_gtr]
    simp [BitVec.lt_def]
  case geq =>
    obtain ⟨rfl, rfl⟩ := h
    refine keyb _ _ ?_
    rw [binOp_geq]
    simp [BitVec.le_def]


def bits64 (op : BinOp) (a b : Int) : Int :=
  let x := BitVec.ofInt 64 a
  let y := BitVec.ofInt 64 b
  (match op with
  | .and => x &&& y
  | .or => x ||| y
  | .xor => x ^^^ y
  | _ => x &&& ~~~y).toInt

def in64B (n : Int) : Bool := decide (-9223372036854775808 ≤ n ∧ n < 9223372036854775808)

/-- what is asked: reckoned at once, or told -/
def ck (lit : Bool) (b : Bool) (q : Prop) : Option (List Prop) :=
  match lit with
  | true => if b then some [] else none
  | false => some [q]

theorem ck_ok {lit b : Bool} {q : Prop} {cs : List Prop} (h : ck lit b q = some cs) (hb : b = true → q) (hc : AllC cs) : q := by
  unfold ck at h
  split at h
  · split at h
    · rename_i h1; exact hb h1
    · cases h
  · injection h with h; subst h; exact hc.1

def wC (c : Option (List Prop)) (v : AC) : Res :=
  match c with
  | some c => some (c, v)
  | none => none

theorem wC_eq {c : Option (List Prop)} {v d : AC} {cs : List Prop} (h : wC c v = some (cs, d)) : c = some cs ∧ v = d := by
  unfold wC at h
  split at h
  · simp only [Option.some.injEq, Prod.mk.injEq] at h; obtain ⟨rfl, rfl⟩ := h; exact ⟨rfl, rfl⟩
  · cases h

def evI (lit : Bool) (op : BinOp) (a b : Int) : Res :=
  match op with
  | .add => wC (ck lit (in64B (a + b)) (in64 (a + b))) (.i64 (a + b))
  | .sub => wC (ck lit (in64B (a - b)) (in64 (a - b))) (.i64 (a - b))
  | .mul => wC (ck lit (in64B (a * b)) (in64 (a * b))) (.i64 (a * b))
  | .quo => wC (ck lit (decide (b ≠ 0) && in64B (a.tdiv b)) (b ≠ 0 ∧ in64 (a.tdiv b))) (.i64 (a.tdiv b))
  | .rem => wC (ck lit (decide (b ≠ 0)) (b ≠ 0)) (.i64 (a.tmod b))
  | .and => some ([], .i64 (bits64 .and a b))
  | .or => some ([], .i64 (bits64 .or a b))
  | .xor => some ([], .i64 (bits64 .xor a b))
  | .andNot => some ([], .i64 (bits64 .andNot a b))
  | .eql => some ([], .b (decide (a = b)))
  | .neq => some ([], .b (!decide (a = b)))
  | .lss => some ([], .b (decide (a < b)))
  | .leq => some ([], .b (decide (a ≤ b)))
  | .gtr => some ([], .b (decide (b < a)))
  | .geq => some ([], .b (decide (b ≤ a)))
  | .shl | .shr => none

def evI32 (op : BinOp) (a b : Int) : Res :=
  match op with
  | .eql => some ([], .b (decide (a = b)))
  | .neq => some ([], .b (!decide (a = b)))
  | .lss => some ([], .b (decide (a < b)))
  | .leq => some ([], .b (decide (a ≤ b)))
  | .gtr => some ([], .b (decide (b < a)))
  | .geq => some ([], .b (decide (b ≤ a)))
  | _ => none

theorem in64B_ok {n : Int} (h : in64B n = true) : in64 n := by unfold in64B at h; have := of_decide_eq_true h; exact this

theorem wrap64_in {n : Int} (h : in64 n) : IntKind.i64.wrap n = n := by
  unfold in64 at h
  unfold IntKind.wrap
  simp only [IntKind.bits, IntKind.signed, Bool.true_and]
  split <;> rename_i h1 <;> simp at h1 <;> omega

theorem wrap_toInt (x : BitVec 64) : IntKind.i64.wrap (x.toNat : Int) = x.toInt := by
  have := x.isLt
  rw [BitVec.toInt_eq_toNat_cond]
  unfold IntKind.wrap
  simp only [IntKind.bits, IntKind.signed, Bool.true_and]
  split <;> rename_i h1 <;> simp at h1 <;> split <;> omega

theorem evI_ok {P : Program} {X : Ctx} {N : Nat} {p : Pl} {lit : Bool} {op : BinOp} {x y : Int} {cs : List Prop} {c : AC} (h : evI lit op x y = some (cs, c)) (hc : AllC cs) (ty : TypeId) :
    ∃ u, Gives P (binOp op ty (.int .i64 x) (.int .i64 y)) u ∧ VR X N p c u := by
  have key : ∀ z : Int, ∀ s : Sem Value, s = pure (.int .i64 z) → ∃ u, Gives P s u ∧ VR X N p (.i64 z) u :=
    fun z s hs => ⟨_, fun w => by rw [hs]; rfl, .i64 z⟩
  have keyb : ∀ (z : Bool) (s : Sem Value), s = pure (.bool z) → ∃ u, Gives P s u ∧ VR X N p (.b z) u :=
    fun z s hs => ⟨_, fun w => by rw [hs]; rfl, .b z⟩
  cases op <;> simp only [evI, Option.some.injEq, Prod.mk.injEq, reduceCtorEq] at h
  case add =>
    obtain ⟨g, rfl⟩ := wC_eq h
    have hq := ck_ok g in64B_ok hc
    refine key _ _ ?_
    rw [binOp_add]; simp only [Op.intArith]; rw [wrap64_in hq]
  case sub =>
    obtain ⟨g, rfl⟩ := wC_eq h
    have hq := ck_ok g in64B_ok hc
    refine key _ _ ?_
    rw [binOp_sub]; simp only [Op.intArith]; rw [wrap64_in hq]
  case mul =>
    obtain ⟨g, rfl⟩ := wC_eq h
    have hq := ck_ok g in64B_ok hc
    refine key _ _ ?_
    rw [binOp_mul]; simp only [Op.intArith]; rw [wrap64_in hq]
  case quo =>
    obtain ⟨g, rfl⟩ := wC_eq h
    have hq := ck_ok g (fun h => by rw [Bool.and_eq_true] at h; exact ⟨of_decide_eq_true h.1, in64B_ok h.2⟩) hc
    refine key _ _ ?_
    rw [binOp_quo]; simp only [Op.intDiv]; rw [if_neg hq.1, wrap64_in hq.2]
  case rem =>
    obtain ⟨g, rfl⟩ := wC_eq h
    have hq := ck_ok g of_decide_eq_true hc
    refine key _ _ ?_
    rw [binOp_rem]; simp only [Op.intDiv]; rw [if_neg hq]
  case and =>
    obtain ⟨rfl, rfl⟩ := h
    refine key _ _ ?_
    rw [binOp_and]; simp only [Op.intBits]; exact congrArg (fun z => (pure (.int .i64 z) : Sem Value)) (wrap_toInt _)
  case or =>
    obtain ⟨rfl, rfl⟩ := h
    refine key _ _ ?_
    rw [binOp_or]; simp only [Op.intBits]; exact congrArg (fun z => (pure (.int .i64 z) : Sem Value)) (wrap_toInt _)
  case xor =>
    obtain ⟨rfl, rfl⟩ := h
    refine key _ _ ?_
    rw [binOp_xor]; simp only [Op.intBits]; exact congrArg (fun z => (pure (.int .i64 z) : Sem Value)) (wrap_toInt _)
  case andNot =>
    obtain ⟨rfl, rfl⟩ := h
    refine key _ _ ?_
    rw [binOp_andNot]; simp only [Op.intBits]; exact congrArg (fun z => (pure (.int .i64 z) : Sem Value)) (wrap_toInt _)
  case eql => obtain ⟨rfl, rfl⟩ := h; refine keyb _ _ ?_; rw [binOp_eql]; congr 2
  case neq => obtain ⟨rfl, rfl⟩ := h; refine keyb _ _ ?_; rw [binOp_neq]; congr 2
  case lss => obtain ⟨rfl, rfl⟩ := h; refine keyb _ _ ?_; rw [binOp_lss]
  case leq => obtain ⟨rfl, rfl⟩ := h; refine keyb _ _ ?_; rw [binOp_leq]
  case gtr => obtain ⟨rfl, rfl⟩ := h; refine keyb _ _ ?_; rw [binOp_gtr]
  case geq => obtain ⟨rfl, rfl⟩ := h; refine keyb _ _ ?_; rw [binOp_geq]

theorem evI32_ok {P : Program} {X : Ctx} {N : Nat} {p : Pl} {op : BinOp} {x y : Int} {cs : List Prop} {c : AC} (h : evI32 op x y = some (cs, c)) (hc : AllC cs) (ty : TypeId) :
    ∃ u, Gives P (binOp op ty (.int .i32 x) (.int .i32 y)) u ∧ VR X N p c u := by
  have keyb : ∀ (z : Bool) (s : Sem Value), s = pure (.bool z) → ∃ u, Gives P s u ∧ VR X N p (.b z) u :=
    fun z s hs => ⟨_, fun w => by rw [hs]; rfl, .b z⟩
  cases op <;> simp only [evI32, Option.some.injEq, Prod.mk.injEq, reduceCtorEq] at h
  case eql => obtain ⟨rfl, rfl⟩ := h; refine keyb _ _ ?_; rw [binOp_eql]; congr 2
  case neq => obtain ⟨rfl, rfl⟩ := h; refine keyb _ _ ?_; rw [binOp_neq]; congr 2
  case lss => obtain ⟨rfl, rfl⟩ := h; refine keyb _ _ ?_; rw [binOp_lss]
  case leq => obtain ⟨rfl, rfl⟩ := h; refine keyb _ _ ?_; rw [binOp_leq]
  case gtr => obtain ⟨rfl, rfl⟩ := h; refine keyb _ _ ?_; rw [binOp_gtr]
  case geq => obtain ⟨rfl, rfl⟩ := h; refine keyb _ _ ?_; rw [binOp_geq]

def evSh (op : BinOp) (x : AC) (c : List Prop) (k : Nat) : Res :=
  match op, x with
  | .shl, .u8 a => some (c, .u8 (a <<< k))
  | .shl, .u16 a => some (c, .u16 (a <<< k))
  | .shl, .u32 a => some (c, .u32 (a <<< k))
  | .shl, .u64 a => some (c, .u64 (a <<< k))
  | .shr, .u8 a => some (c, .u8 (a >>> k))
  | .shr, .u16 a => some (c, .u16 (a >>> k))
  | .shr, .u32 a => some (c, .u32 (a >>> k))
  | .shr, .u64 a => some (c, .u64 (a >>> k))
  | .shl, .i64 a => some (in64 (a * 2 ^ (min k 64)) :: c, .i64 (a * 2 ^ (min k 64)))
  | .shr, .i64 a => some (c, .i64 (a / 2 ^ (min k 64)))
  | _, _ => none

def evShY (op : BinOp) (x y : AC) : Res :=
  match y with
  | .u8 b => evSh op x [] b.toNat
  | .u32 b => evSh op x [] b.toNat
  | .u64 b => evSh op x [] b.toNat
  | .i64 n => evSh op x [0 ≤ n] n.toNat
  | _ => none

def evB (op : BinOp) (a c : Bool) : Res :=
  match op with
  | .eql => some ([], .b (a == c))
  | .neq => some ([], .b (a != c))
  | _ => none

def evS (op : BinOp) (a c : List (BitVec 8)) : Res :=
  match op with
  | .eql => some ([], .b (decide (a = c)))
  | .neq => some ([], .b (!decide (a = c)))
  | .add => some ([List.length a + List.length c < 4611686018427387904], .s (a ++ c))
  | _ => none

def evNum (lit : Bool) (op : BinOp) (x y : AC) : Res :=
  match x, y with
  | .u8 a, .u8 b => evU .u8 op a b
  | .u16 a, .u16 b => evU .u16 op a b
  | .u32 a, .u32 b => evU .u32 op a b
  | .u64 a, .u64 b => evU .u64 op a b
  | .i64 a, .i64 b => evI lit op a b
  | .i32 a, .i32 b => evI32 op a b
  | .b a, .b c => evB op a c
  | .s a, .s c => evS op a c
  | _, _ => none

def evBin (lit : Bool) (op : BinOp) (x y : AC) : Res :=
  match op with
  | .shl | .shr => evShY op x y
  | _ => evNum lit op x y

theorem shlU (k : IntKind) (hk : k.signed = false) (x : BitVec k.bits) (n : Nat) : k.wrap ((x.toNat : Int) * 2 ^ (min n k.bits)) = ((x <<< n).toNat : Int) := by
  rw [wrapU k hk, BitVec.toNat_ofInt, BitVec.toNat_shiftLeft, Nat.shiftLeft_eq]
  have h1 : ((x.toNat : Int) * 2 ^ (min n k.bits)) % ((2 ^ k.bits : Nat) : Int) = ((x.toNat * 2 ^ (min n k.bits) % 2 ^ k.bits : Nat) : Int) := by push_cast; rfl
  rw [h1]
  simp only [Int.toNat_natCast]
  congr 1
  rcases Nat.le_total n k.bits with h | h
  · rw [Nat.min_eq_left h]
  · rw [Nat.min_eq_right h]
    obtain ⟨d, rfl⟩ : ∃ d, n = k.bits + d := ⟨n - k.bits, by omega⟩
    rw [Nat.pow_add, ← Nat.mul_assoc, Nat.mul_mod_left, Nat.mul_right_comm, Nat.mul_mod_left]

theorem shrU {n : Nat} (x : BitVec n) (k : Nat) : ((x.toNat : Int).fdiv (2 ^ (min k n))) = ((x >>> k).toNat : Int) := by
  rw [BitVec.toNat_ushiftRight, Nat.shiftRight_eq_div_pow]
  have h1 : ((x.toNat : Int).fdiv (2 ^ (min k n))) = ((x.toNat / 2 ^ (min k n) : Nat) : Int) := by
    rw [show ((2 : Int) ^ (min k n)) = ((2 ^ (min k n) : Nat) : Int) by simp, ← Int.ofNat_fdiv]
  rw [h1]
  congr 1
  rcases Nat.le_total k n with h | h
  · rw [Nat.min_eq_left h]
  · rw [Nat.min_eq_right h, Nat.div_eq_of_lt x.isLt, Nat.div_eq_of_lt (Nat.lt_of_lt_of_le x.isLt (Nat.pow_le_pow_right (by decide) h))]

theorem evSh_ok {P : Program} {X : Ctx} {N : Nat} {p : Pl} {op : BinOp} {x : AC} {v : Value} {cs0 cs : List Prop} {c : AC} {k : Nat} (h : evSh op x cs0 k = some (cs, c)) (hc : AllC cs)
    (hx : VR X N p x v) (yk : IntKind) (y : Int) (hy : y = k) (ty : TypeId) : ∃ u, Gives P (binOp op ty v (.int yk y)) u ∧ VR X N p c u := by
  subst hy
  have h0 : ¬ ((k : Int) < 0) := by omega
  have hs : ∀ {kk : IntKind} {z : Int} {r : Int} {cc : AC}, (op = .shl ∧ r = kk.wrap (z * 2 ^ (min k kk.bits)) ∨ op = .shr ∧ r = z.fdiv (2 ^ (min k kk.bits))) → VR X N p cc (.int kk r) →
      ∃ u, Gives P (binOp op ty (.int kk z) (.int yk k)) u ∧ VR X N p cc u := by
    intro kk z r cc h hv
    rcases h with ⟨rfl, rfl⟩ | ⟨rfl, rfl⟩
    · exact ⟨_, fun w => by rw [binOp_shl]; simp only [Op.shift, if_neg h0, Int.toNat_natCast]; rfl, hv⟩
    · exact ⟨_, fun w => by rw [binOp_shr]; simp only [Op.shift, if_neg h0, Int.toNat_natCast]; rfl, hv⟩
  cases op <;> cases x <;> simp only [evSh, Option.some.injEq, Prod.mk.injEq, reduceCtorEq] at h <;> obtain ⟨rfl, rfl⟩ := h <;> cases hx
  · rename_i x; exact hs (.inl ⟨rfl, rfl⟩) (by have e := shlU .u8 rfl x k; exact e ▸ .u8 _)
  · rename_i x; exact hs (.inl ⟨rfl, rfl⟩) (by have e := shlU .u16 rfl x k; exact e ▸ .u16 _)
  · rename_i x; exact hs (.inl ⟨rfl, rfl⟩) (by have e := shlU .u32 rfl x k; exact e ▸ .u32 _)
  · rename_i x; exact hs (.inl ⟨rfl, rfl⟩) (by have e := shlU .u64 rfl x k; exact e ▸ .u64 _)
  · exact hs (.inl ⟨rfl, rfl⟩) (by rw [show min k (IntKind.bits .i64) = min k 64 from rfl, wrap64_in hc.1]; exact .i64 _)
  · rename_i x; exact hs (.inr ⟨rfl, rfl⟩) (by have e := shrU (n := 8) x k; exact e ▸ .u8 _)
  · rename_i x; exact hs (.inr ⟨rfl, rfl⟩) (by have e := shrU (n := 16) x k; exact e ▸ .u16 _)
  · rename_i x; exact hs (.inr ⟨rfl, rfl⟩) (by have e := shrU (n := 32) x k; exact e ▸ .u32 _)
  · rename_i x; exact hs (.inr ⟨rfl, rfl⟩) (by have e := shrU (n := 64) x k; exact e ▸ .u64 _)
  · exact hs (.inr ⟨rfl, rfl⟩) (by rw [show min k (IntKind.bits .i64) = min k 64 from rfl, Int.fdiv_eq_ediv_of_nonneg _ (by exact Int.le_of_lt (Int.pow_pos (by decide)))]; exact .i64 _)

theorem bytes_inj {s t : ByteArray} : s.data.toList.map UInt8.toBitVec = t.data.toList.map UInt8.toBitVec ↔ s.toList = t.toList := by
  rw [ByteArray.toList_eq, ByteArray.toList_eq]
  constructor
  · intro h
    have : ∀ l m : List UInt8, l.map UInt8.toBitVec = m.map UInt8.toBitVec → l = m := by
      intro l
      induction l with
      | nil => intro m h; cases m with | nil => rfl | cons => simp at h
      | cons x l ih =>
        intro m h
        cases m with
        | nil => simp at h
        | cons y m => simp only [List.map_cons, List.cons.injEq] at h; rw [UInt8.toBitVec_inj.1 h.1, ih m h.2]
    exact this _ _ h
  · intro h; rw [h]

theorem evShY_ok {P : Program} {X : Ctx} {N : Nat} {p : Pl} {op : BinOp} {x y : AC} {v z : Value} {cs : List Prop} {c : AC} (h : evShY op x y = some (cs, c)) (hc : AllC cs)
    (hx : VR X N p x v) (hy : VR X N p y z) (ty : TypeId) : ∃ u, Gives P (binOp op ty v z) u ∧ VR X N p c u := by
  unfold evShY at h
  cases hy <;> simp only [reduceCtorEq] at h
  · exact evSh_ok h hc hx _ _ rfl ty
  · exact evSh_ok h hc hx _ _ rfl ty
  · exact evSh_ok h hc hx _ _ rfl ty
  · rename_i n
    have hn : 0 ≤ n := by
      have : ∃ cs', cs = cs' ++ [0 ≤ n] := by
        cases op <;> cases x <;> simp only [evSh, Option.some.injEq, Prod.mk.injEq, reduceCtorEq] at h <;> obtain ⟨rfl, rfl⟩ := h <;> first | exact ⟨[], rfl⟩ | exact ⟨[_], rfl⟩
      obtain ⟨cs', rfl⟩ := this
      have hall : ∀ (l : List Prop) (q : Prop), AllC (l ++ [q]) → q := by
        intro l q
        induction l with
        | nil => exact fun h => h.1
        | cons a l ih => exact fun h => ih h.2
      exact hall _ _ hc
    exact evSh_ok h hc hx _ _ (by omega) ty

theorem equalIn_bool {P : Program} {ty : TypeId} (hu : P.underlying ty = some .bool) (d : Nat) (a c : Bool) (w : World) : (Op.equalIn (d + 1) ty (.bool a) (.bool c)).run P w = .ok (a == c) w := by
  simp [Op.equalIn, run_underlying hu]

theorem equal_bool {P : Program} {ty : TypeId} (hu : P.underlying ty = some .bool) (a c : Bool) (w : World) : (Op.equal ty (.bool a) (.bool c)).run P w = .ok (a == c) w := equalIn_bool hu 9999 a c w

theorem beq_dec (a b : List UInt8) : (a == b) = decide (a = b) := by rw [Bool.eq_iff_iff]; simp

theorem bne_not (a c : Bool) : (!(a == c)) = (a != c) := rfl

theorem evNum_ok {P : Program} {X : Ctx} {N : Nat} {p : Pl} {lit : Bool} {op : BinOp} {x y : AC} {v z : Value} {cs : List Prop} {c : AC} (h : evNum lit op x y = some (cs, c)) (hc : AllC cs)
    (hx : VR X N p x v) (hy : VR X N p y z) (ty : TypeId) (hb : ∀ a, x = .b a → P.underlying ty = some .bool) : ∃ u, Gives P (binOp op ty v z) u ∧ VR X N p c u := by
  unfold evNum at h
  split at h
  · cases hx; cases hy; exact evU_ok .u8 rfl AC.u8 (fun z => .u8 z) h hc ty
  · cases hx; cases hy; exact evU_ok .u16 rfl AC.u16 (fun z => .u16 z) h hc ty
  · cases hx; cases hy; exact evU_ok .u32 rfl AC.u32 (fun z => .u32 z) h hc ty
  · cases hx; cases hy; exact evU_ok .u64 rfl AC.u64 (fun z => .u64 z) h hc ty
  · cases hx; cases hy; exact evI_ok h hc ty
  · cases hx; cases hy; exact evI32_ok h hc ty
  · cases hx; cases hy
    have hb := hb _ rfl
    unfold evB at h
    split at h
    · simp only [Option.some.injEq, Prod.mk.injEq] at h; obtain ⟨rfl, rfl⟩ := h
      refine ⟨_, fun w => ?_, .b _⟩
      simp [binOp, equal_bool hb]
    · simp only [Option.some.injEq, Prod.mk.injEq] at h; obtain ⟨rfl, rfl⟩ := h
      refine ⟨_, fun w => ?_, .b _⟩
      simp only [binOp, Sem.run_bind, equal_bool hb, Result.andThen_ok, Sem.run_pure, bne_not]
    · cases h
  · cases hx; rename_i s1 hx; cases hy; rename_i s2 hy
    unfold evS at h
    split at h
    · simp only [Option.some.injEq, Prod.mk.injEq] at h; obtain ⟨rfl, rfl⟩ := h
      refine ⟨.bool _, fun w => ?_, .b _⟩
      simp only [binOp, Op.stringOp]
      rw [← hx, ← hy]
      simp only [bytes_inj, Sem.run_pure, beq_dec]
    · simp only [Option.some.injEq, Prod.mk.injEq] at h; obtain ⟨rfl, rfl⟩ := h
      refine ⟨.bool _, fun w => ?_, .b _⟩
      simp only [binOp, Op.stringOp]
      rw [← hx, ← hy]
      simp only [bytes_inj, Sem.run_pure, beq_dec]
    · simp only [Option.some.injEq, Prod.mk.injEq] at h; obtain ⟨rfl, rfl⟩ := h
      have hlen := hc.1
      have e1 : s1.size = s1.data.toList.length := by rw [Array.length_toList]; rfl
      have e2 : s2.size = s2.data.toList.length := by rw [Array.length_toList]; rfl
      refine ⟨.string (s1 ++ s2), fun w => ?_, .s _ _ ?_⟩
      · simp only [binOp, Op.stringOp]
        rw [if_neg (by rw [← hx, ← hy, List.length_map, List.length_map, ← e1, ← e2] at hlen; simp only [IntKind.max, IntKind.bits]; omega)]
        rfl
      · rw [← hx, ← hy, ← List.map_append]
        congr 1
    · cases h
  · cases h

theorem evBin_ok {P : Program} {X : Ctx} {N : Nat} {p : Pl} {lit : Bool} {op : BinOp} {x y : AC} {v z : Value} {cs : List Prop} {c : AC} (h : evBin lit op x y = some (cs, c)) (hc : AllC cs)
    (hx : VR X N p x v) (hy : VR X N p y z) (ty : TypeId) (hb : ∀ a, x = .b a → P.underlying ty = some .bool) : ∃ u, Gives P (binOp op ty v z) u ∧ VR X N p c u := by
  cases op <;> first | exact evShY_ok h hc hx hy ty | exact evNum_ok h hc hx hy ty hb
end DH

namespace DH
open Go

/-! Operations that only compute and read. -/

abbrev RV := Option (List Prop × AV)

/-- A computation that has one value, in the worlds that hold the tracked memory as wb does. -/
def G1 (X : Ctx) (p : Pl) (m : Mem) (wb : World) (s : Sem Value) (v : AV) : Prop :=
  ∃ u, VA X m.length p v u ∧ ∀ w, MRw X p m wb w → s.run X.P w = .ok u w

def asU8 : AC → BitVec 8 | .u8 x => x | _ => 0
def asU16 : AC → BitVec 16 | .u16 x => x | _ => 0
def asU32 : AC → BitVec 32 | .u32 x => x | _ => 0
def asU64 : AC → BitVec 64 | .u64 x => x | _ => 0
def asI64 : AC → Int | .i64 x => x | _ => 0
def asB : AC → Bool | .b x => x | _ => false
def asS : AC → List (BitVec 8) | .s x => x | _ => []
def asF : AC → Nat | .f x => x | _ => 0
def xsRow : AC → List AC | .xs r _ _ => r | _ => []
def xsOff : AC → Nat | .xs _ o _ => o | _ => 0
def xsLen : AC → Nat | .xs _ _ n => n | _ => 0

/-- a cell that is laid out -/
def rdC : AC → Option AC
  | .any => none
  | .u8 x => some (.u8 x)
  | .u16 x => some (.u16 x)
  | .u32 x => some (.u32 x)
  | .u64 x => some (.u64 x)
  | .i64 x => some (.i64 x)
  | .i32 x => some (.i32 x)
  | .b x => some (.b x)
  | .s x => some (.s x)
  | .f x => some (.f x)
  | .np => some .np
  | .ns => some .ns
  | .nf => some .nf
  | .ptr i o => some (.ptr i o)
  | .sv i o n => some (.sv i o n)
  | .gs i n e => some (.gs i n e)
  | .sc i o n => some (.sc i o n)
  | .xp r o => some (.xp r o)
  | .xs r o n => some (.xs r o n)
  | .fn f c => some (.fn f c)
  | .nm => some .nm
  | .mp i => some (.mp i)
  | .po i => some (.po i)
  | .mo _ _ _ _ _ _ => none
  | .it _ _ _ _ => none
  | .itn => none

theorem rdC_eq {c d : AC} (h : rdC c = some d) : d = c := by cases c <;> simp_all [rdC]

/-- a cell, read as one of the kind of z -/
def typed (z c : AC) : Option AC :=
  match z with
  | .u8 _ => some (.u8 (asU8 c))
  | .u16 _ => some (.u16 (asU16 c))
  | .u32 _ => some (.u32 (asU32 c))
  | .u64 _ => some (.u64 (asU64 c))
  | .i64 _ => some (.i64 (asI64 c))
  | .b _ => some (.b (asB c))
  | .s _ => some (.s (asS c))
  | .f _ => some (.f (asF c))
  | .ns => some (.xs (xsRow c) (xsOff c) (xsLen c))
  | .nm => rdC c
  | .np => rdC c
  | _ => none

def shaped : List AC → List AC → Nat → Option (List Prop × List AC)
  | [], _, _ => some ([], [])
  | z :: zs, row, o =>
    match typed z (gt .any row o), shaped zs row (o + 1) with
    | some c, some (ps, cs) => some ((gt .any row o = c) :: ps, c :: cs)
    | _, _ => none

def isArr : TD → Bool
  | .array _ _ => true
  | _ => false

def rdT (sym : Bool) (ti : TI) (row : List AC) (o : Nat) : RV :=
  match ti.agg with
  | true =>
    (match sym with
    | true =>
      (match isArr ti.d || Nat.ble 16 ti.sz with
      | true => some ([o + ti.sz ≤ row.length], .agg ((row.drop o).take ti.sz))
      | false => (match shaped ti.zero row o with | some (ps, cs) => if Nat.beq (lenF ti.zero) ti.sz && Nat.ble 1 ti.sz then some (ps, .agg cs) else none | none => none))
    | false => takeF (dropF row o) ti.sz fun cs => if Nat.beq (lenF cs) ti.sz then some ([], .agg cs) else none)
  | false =>
    (match sym with
    | true => (match ti.zero with | [z] => (match typed z (gt .any row o) with | some c => some ([gt .any row o = c], .one c) | none => none) | _ => none)
    | false => (match rdC (gt .any row o) with | some c => some ([], .one c) | none => none))

/-- a variable of a type, read out of a row -/
def rd (sym : Bool) (ti : TI) (row : List AC) (o : Nat) : RV :=
  match ti.d with
  | .other => none
  | _ => rdT sym ti row o

/-- what a row's cells read as -/
def RowAt (X : Ctx) (p : Pl) (m : Mem) (wb : World) (row : List AC) (b k : Nat) : Prop :=
  ∃ g : Nat → Value, ∀ (j : Nat) (c : AC), row[j]? = some c → VR X m.length p c (g j) ∧ ∀ w, MRw X p m wb w → w.cell? ⟨b, k + j, none⟩ = some (g j)

theorem RowAt.own {X : Ctx} {p : Pl} {m : Mem} {wb : World} {i : Nat} {row : List AC} (hb : MR X p m wb) (h : m[i]? = some (some row)) (ho : p.ob i = false) : RowAt X p m wb row (p.at_ i) 0 := by
  rcases hb.blk i row h with ⟨_, rfl⟩ | ⟨hz0, hb'⟩
  · exact ⟨fun _ => undef, fun j c hj => by simp at hj⟩
  obtain ⟨cs, ty, fr, h1, h2, h3, h4, h5⟩ := hb'.ex ho
  refine ⟨fun j => cs.getD j undef, fun j c hj => ?_⟩
  have hlt : j < cs.size := by have := (List.getElem?_eq_some_iff.1 hj).1; omega
  have h6 : cs[j]? = some cs[j] := Array.getElem?_eq_getElem hlt
  have h7 : cs.getD j undef = cs[j] := by simp [Array.getD, hlt]
  refine ⟨by show VR _ _ _ c (cs.getD j undef); rw [h7]; exact h5 j c _ hj h6, fun w hw => ?_⟩
  have h8 : w.heap[p.at_ i]? = some (.cells cs ty fr) := by rw [hw.2 i row h hz0, h1]
  simp [World.cell?, h8, h6, h7]

theorem MR.look {X : Ctx} {p : Pl} {m : Mem} {w : World} (h : MR X p m w) {b o : Nat} {v : Value} (k : X.cel p b o v) : w.cell? ⟨b, o, none⟩ = some v := by
  rcases k with ⟨hb, hr⟩ | ⟨G, h1, h2⟩
  · simp only [World.cell?] at hr ⊢
    rw [h.keep b (Ctx.ext_old hb)]
    exact hr
  · rw [(h.fzn b G h1).2.2.1 o]
    exact h2

theorem MR.src_lt {X : Ctx} {p : Pl} {m : Mem} {w : World} (h : MR X p m w) {b : Nat} (k : X.src p b) : b < w.heap.size := by
  rcases k with hb | ⟨G, h1⟩
  · exact Nat.lt_of_lt_of_le (Ctx.ext_old hb).1 h.size
  · exact (h.fzn b G h1).2.1

theorem Ext.zero {p p' : Pl} (h : ∀ b G, p.fz b = some G → p'.fz b = some G) : Ext 0 p p' := ⟨fun i hi => absurd hi (Nat.not_lt_zero i), h⟩

theorem RowAt.old {X : Ctx} {p : Pl} {m : Mem} {wb : World} {b k : Nat} {row : List AC} {g : Nat → Value} (hr : ∀ j c, row[j]? = some c → X.cel p b (k + j) (g j))
    (hv : ∀ j c, row[j]? = some c → VR X 0 p c (g j)) : RowAt X p m wb row b k :=
  ⟨g, fun j c hj => ⟨(hv j c hj).mono (Nat.zero_le _) (.zero fun _ _ h => h), fun w hw => hw.1.look (hr j c hj)⟩⟩

theorem beq_true {a b : Nat} (h : Nat.beq a b = true) : a = b := Nat.eq_of_beq_eq_true h

theorem TyOk.isAgg {P : Program} {t : TypeId} {ti : TI} (h : TyOk P t ti) (w : World) : (isAgg t).run P w = .ok ti.agg w := by
  obtain ⟨d, h1, h2⟩ := h.und
  have h3 := h.agg
  unfold Go.isAgg
  rw [Sem.run_bind, run_underlying h1]
  rw [h3]
  revert h2
  cases ti.d <;> cases d <;> simp [tdOk]

theorem TyOk.szrun {P : Program} {t : TypeId} {ti : TI} (h : TyOk P t ti) (w : World) : (Go.sizeOf t).run P w = .ok ti.sz w := by
  obtain ⟨i, h1, h2, _⟩ := h.info
  simp [Go.sizeOf, typeInfo, h1, h2]

theorem add_addr (b k o j : Nat) : Addr.add ⟨b, k + o, none⟩ j = ⟨b, k + (o + j), none⟩ := by
  rw [Addr.add_lit, Nat.add_assoc]

/-- cells of a row, loaded one by one -/
theorem RowAt.cells {X : Ctx} {p : Pl} {m : Mem} {wb : World} {b k : Nat} {row : List AC} (h : RowAt X p m wb row b k) (o n : Nat) (hn : o + n ≤ row.length) :
    ∃ l : List Value, l.length = n ∧ VL X m.length p ((row.drop o).take n) l ∧ ∀ w, MRw X p m wb w → (loadCells ⟨b, k + o, none⟩ n).run X.P w = .ok l.toArray w := by
  obtain ⟨g, hg⟩ := h
  refine ⟨(List.range n).map fun j => g (o + j), by simp, ⟨by simp; omega, fun j c u h1 h2 => ?_⟩, fun w hw => ?_⟩
  · have hj : j < n := by have := (List.getElem?_eq_some_iff.1 h1).1; simp at this; omega
    rw [List.getElem?_take_of_lt hj, List.getElem?_drop] at h1
    simp only [List.getElem?_map, List.getElem?_range hj, Option.map_some, Option.some.injEq] at h2
    subst h2
    exact (hg _ c h1).1
  · have := run_loadCells_list (P := X.P) (w := w) ⟨b, k + o, none⟩ ((List.range n).map fun j => g (o + j)) (fun j v hj => by
      have hjn : j < n := by have := (List.getElem?_eq_some_iff.1 hj).1; simpa using this
      simp only [List.getElem?_map, List.getElem?_range hjn, Option.map_some, Option.some.injEq] at hj
      subst hj
      rw [add_addr]
      have hlt : o + j < row.length := by omega
      exact (hg (o + j) _ (List.getElem?_eq_getElem hlt)).2 w hw)
    simpa using this

theorem RowAt.cell {X : Ctx} {p : Pl} {m : Mem} {wb : World} {b k : Nat} {row : List AC} (h : RowAt X p m wb row b k) {o : Nat} {c : AC} (hc : row[o]? = some c) :
    ∃ u, VR X m.length p c u ∧ ∀ w, MRw X p m wb w → (load ⟨b, k + o, none⟩).run X.P w = .ok u w := by
  obtain ⟨g, hg⟩ := h
  refine ⟨g o, (hg o c hc).1, fun w hw => ?_⟩
  simp [run_load, (hg o c hc).2 w hw]

theorem shaped_ok {X : Ctx} {N : Nat} {p : Pl} : ∀ {zs : List AC} {row : List AC} {o : Nat} {ps : List Prop} {cs : List AC}, shaped zs row o = some (ps, cs) → AllC ps →
    cs.length = zs.length ∧ ∀ (j : Nat) (c : AC), cs[j]? = some c → gt .any row (o + j) = c
  | [], row, o, ps, cs, h, _ => by simp only [shaped, Option.some.injEq, Prod.mk.injEq] at h; obtain ⟨rfl, rfl⟩ := h; simp
  | z :: zs, row, o, ps, cs, h, hp => by
    unfold shaped at h
    split at h
    · rename_i c ps' cs' h1 h2
      simp only [Option.some.injEq, Prod.mk.injEq] at h
      obtain ⟨rfl, rfl⟩ := h
      obtain ⟨g1, g2⟩ := shaped_ok (X := X) (N := N) (p := p) h2 hp.2
      refine ⟨by simp [g1], fun j c' hj => ?_⟩
      cases j with
      | zero => simp at hj; subst hj; exact hp.1
      | succ j => simp at hj; have := g2 j c' hj; rw [show o + (j + 1) = o + 1 + j by omega]; exact this
    · cases h

theorem typed_ne {z c d : AC} (h : typed z c = some d) : d ≠ .any := by
  unfold typed at h
  split at h <;> first | (simp only [Option.some.injEq, reduceCtorEq] at h; subst h; simp; done) | (cases c <;> simp only [rdC, Option.some.injEq, reduceCtorEq] at h <;> subst h <;> simp; done) | (simp at h; done)

theorem shaped_ne : ∀ {zs : List AC} {row : List AC} {o : Nat} {ps : List Prop} {cs : List AC}, shaped zs row o = some (ps, cs) → ∀ (j : Nat) (c : AC), cs[j]? = some c → c ≠ .any
  | [], row, o, ps, cs, h => by simp only [shaped, Option.some.injEq, Prod.mk.injEq] at h; obtain ⟨rfl, rfl⟩ := h; simp
  | z :: zs, row, o, ps, cs, h => by
    unfold shaped at h
    split at h
    · rename_i c ps' cs' h1 h2
      simp only [Option.some.injEq, Prod.mk.injEq] at h
      obtain ⟨rfl, rfl⟩ := h
      intro j c' hj
      cases j with
      | zero => simp at hj; subst hj; exact typed_ne h1
      | succ j => simp at hj; exact shaped_ne h2 j c' hj
    · cases h

theorem gt_some {row : List AC} {o : Nat} {c : AC} (h : gt .any row o = c) (hc : c ≠ .any) : row[o]? = some c := by
  rw [gt_eq] at h
  cases h1 : row[o]? with
  | none => rw [h1] at h; exact absurd h.symm hc
  | some d => rw [h1] at h; exact congrArg some h

theorem rd_ok {X : Ctx} {p : Pl} {m : Mem} {wb : World} {b k : Nat} {row : List AC} (hr : RowAt X p m wb row b k) {t : TypeId} {ti : TI} (ht : match ti.d with | .other => True | _ => TyOk X.P t ti)
    {sym : Bool} {o : Nat} {cs : List Prop} {v : AV} (h : rd sym ti row o = some (cs, v)) (hc : AllC cs) : G1 X p m wb (loadVar t ⟨b, k + o, none⟩) v := by
  have hd : TyOk X.P t ti := by
    unfold rd at h
    split at h
    · cases h
    · rename_i hne; revert ht; cases hd : ti.d <;> simp_all
  have h' : rdT sym ti row o = some (cs, v) := by
    unfold rd at h
    split at h
    · cases h
    · exact h
  have hagg : ti.agg = true → ∀ l : List Value, l.length = ti.sz → (∀ w, MRw X p m wb w → (loadCells ⟨b, k + o, none⟩ ti.sz).run X.P w = .ok l.toArray w) →
      ∀ w, MRw X p m wb w → (loadVar t ⟨b, k + o, none⟩).run X.P w = .ok (.agg l.toArray) w := by
    intro ha l hl hload w hw
    unfold loadVar
    rw [Sem.run_bind, hd.isAgg]
    simp only [Result.andThen_ok, ha, if_true, Sem.run_bind, hd.szrun, hload w hw, Sem.run_pure]
  have hone : ti.agg = false → ∀ u, (∀ w, MRw X p m wb w → (load ⟨b, k + o, none⟩).run X.P w = .ok u w) → ∀ w, MRw X p m wb w → (loadVar t ⟨b, k + o, none⟩).run X.P w = .ok u w := by
    intro ha u hload w hw
    unfold loadVar
    rw [Sem.run_bind, hd.isAgg]
    simp only [Result.andThen_ok, ha, Bool.false_eq_true, if_false]
    exact hload w hw
  unfold rdT at h'
  split at h'
  · rename_i ha
    split at h'
    · split at h'
      · simp only [Option.some.injEq, Prod.mk.injEq] at h'
        obtain ⟨rfl, rfl⟩ := h'
        obtain ⟨l, h1, h2, h3⟩ := hr.cells o ti.sz hc.1
        exact ⟨_, .agg _ l h2, hagg ha l h1 h3⟩
      · split at h'
        · rename_i ps cs' hs
          split at h'
          · rename_i hb
            simp only [Option.some.injEq, Prod.mk.injEq] at h'
            obtain ⟨rfl, rfl⟩ := h'
            rw [Bool.and_eq_true] at hb
            have hpos := Nat.le_of_ble_eq_true hb.2
            have hb := beq_true hb.1
            rw [lenF_eq] at hb
            obtain ⟨g1, g2⟩ := shaped_ok (X := X) (N := m.length) (p := p) hs hc
            have hlen : o + ti.sz ≤ row.length := by
              have hlt : ti.sz - 1 < cs'.length := by omega
              have h3 := List.getElem?_eq_getElem hlt
              have h4 := gt_some (g2 _ _ h3) (shaped_ne hs _ _ h3)
              have := (List.getElem?_eq_some_iff.1 h4).1
              omega
            obtain ⟨l, h1, h2, h3⟩ := hr.cells o ti.sz hlen
            refine ⟨_, .agg _ l ⟨by omega, fun j c u hj hu => ?_⟩, hagg ha l h1 h3⟩
            have h4 := gt_some (g2 j c hj) (shaped_ne hs j c hj)
            have hjl : j < ti.sz := by have := (List.getElem?_eq_some_iff.1 hj).1; omega
            exact h2.2 j c u (by rw [List.getElem?_take_of_lt hjl, List.getElem?_drop]; exact h4) hu
          · cases h'
        · cases h'
    · rw [takeF_eq, dropF_eq] at h'
      split at h'
      · rename_i hb
        simp only [Option.some.injEq, Prod.mk.injEq] at h'
        obtain ⟨rfl, rfl⟩ := h'
        have hb := beq_true hb
        rw [lenF_eq] at hb
        rcases Nat.lt_or_ge row.length (o + ti.sz) with hlt | hge
        · have h0 : ti.sz = 0 := by simp at hb; omega
          obtain ⟨l, h1, h2, h3⟩ := hr.cells row.length 0 (by omega)
          refine ⟨_, .agg _ [] ⟨by simp [h0], fun j c u _ hu => by simp at hu⟩, hagg ha [] (by simp [h0]) ?_⟩
          intro w _
          rw [h0]
          rfl
        · obtain ⟨l, h1, h2, h3⟩ := hr.cells o ti.sz hge
          exact ⟨_, .agg _ l h2, hagg ha l h1 h3⟩
      · cases h'
  · rename_i ha
    split at h'
    · split at h'
      · split at h'
        · rename_i c hty
          simp only [Option.some.injEq, Prod.mk.injEq] at h'
          obtain ⟨rfl, rfl⟩ := h'
          obtain ⟨u, h1, h2⟩ := hr.cell (gt_some hc.1 (typed_ne hty))
          exact ⟨u, .one _ _ h1, hone ha u h2⟩
        · cases h'
      · cases h'
    · split at h'
      · rename_i c hrd
        simp only [Option.some.injEq, Prod.mk.injEq] at h'
        obtain ⟨rfl, rfl⟩ := h'
        have := rdC_eq hrd
        obtain ⟨u, h1, h2⟩ := hr.cell (gt_some this.symm (by rintro rfl; rw [← this] at hrd; cases hrd))
        exact ⟨u, .one _ _ h1, hone ha u h2⟩
      · cases h'
end DH

namespace DH
open Go

section
variable {X : Ctx} {p : Pl} {m : Mem} {wb : World}

/-- the number that an index is -/
def ixI : AC → Option Int
  | .u8 x => some x.toNat
  | .u16 x => some x.toNat
  | .u32 x => some x.toNat
  | .u64 x => some x.toNat
  | .i64 n => some n
  | .i32 n => some n
  | _ => none

theorem ixI_ok {N : Nat} {c : AC} {n : Int} (h : ixI c = some n) {v : Value} (hv : VR X N p c v) : ∃ k, v = .int k n := by
  cases hv <;> simp only [ixI, Option.some.injEq, reduceCtorEq] at h <;> subst h <;> exact ⟨_, rfl⟩

def w1 (c : Option (List Prop)) (v : AC) : RV :=
  match c with
  | some c => some (c, .one v)
  | none => none

theorem w1_eq {c : Option (List Prop)} {v : AC} {d : AV} {cs : List Prop} (h : w1 c v = some (cs, d)) : c = some cs ∧ d = .one v := by
  unfold w1 at h
  split at h
  · simp only [Option.some.injEq, Prod.mk.injEq] at h; obtain ⟨rfl, rfl⟩ := h; exact ⟨rfl, rfl⟩
  · cases h

/-- is an index in range? a byte is in any row of 256 -/
def ckIx (E : Env) (c : AC) (i : Int) (n : Nat) : Option (List Prop) :=
  match c with
  | .u8 x => if Nat.ble 256 n then some [] else ck E.lit (decide (x.toNat < n)) (x.toNat < n)
  | _ => ck E.lit (decide (0 ≤ i ∧ i < n)) (0 ≤ i ∧ i < n)

theorem ckIx_ok {E : Env} {c : AC} {i : Int} {n : Nat} {cs : List Prop} (h : ckIx E c i n = some cs) (hi : ixI c = some i) (hc : AllC cs) : 0 ≤ i ∧ i < n := by
  unfold ckIx at h
  split at h
  · rename_i x
    simp only [ixI, Option.some.injEq] at hi
    have := x.isLt
    split at h
    · rename_i h1
      have := Nat.le_of_ble_eq_true h1
      omega
    · have := ck_ok h (fun h => of_decide_eq_true h) hc
      omega
  · exact ck_ok h (fun h => of_decide_eq_true h) hc

/-- the size of a type that is known -/
def Env.esz (E : Env) (t : TypeId) : Option Nat :=
  match (E.ti t).d with
  | .other => none
  | _ => if Nat.ble 1 (E.ti t).sz then some (E.ti t).sz else none

theorem esz_ok {P : Program} {E : Env} (hE : EnvOk P E) {t : TypeId} {n : Nat} (h : E.esz t = some n) : TyOk P t (E.ti t) ∧ n = (E.ti t).sz ∧ 1 ≤ n := by
  have h0 := hE.ti t
  unfold Env.esz at h
  revert h0 h
  cases hd : (E.ti t).d <;> intro h h0 <;> first
    | cases h; done
    | (refine ⟨h0, ?_⟩
       dsimp only at h
       split at h
       · rename_i h1; injection h with h; exact ⟨h.symm, by rw [← h]; exact Nat.le_of_ble_eq_true h1⟩
       · cases h)

theorem d_ok {P : Program} {E : Env} (hE : EnvOk P E) {t : TypeId} {d : TD} (h : (E.ti t).d = d) (hd : d ≠ .other) : TyOk P t (E.ti t) := by
  have h0 := hE.ti t
  rw [h] at h0
  revert h0
  cases d <;> first | exact id | exact absurd rfl hd

/-- the address of an element -/
def evIxAddr (E : Env) (ty : TypeId) (x ix : AV) : RV :=
  match ix with
  | .one ic =>
    match ixI ic with
    | some i =>
      match (E.ti ty).d with
      | .array n e =>
        (match E.esz e with
        | some s =>
          (match x with
          | .one (.ptr b o) => w1 (ckIx E ic i n) (.ptr b (o + i.toNat * s))
          | .one (.xp r o) => w1 (ckIx E ic i n) (.xp r (o + i.toNat * s))
          | _ => none)
        | none => none)
      | .slice e =>
        (match E.esz e with
        | some s =>
          (match x with
          | .one (.sv b o n) => w1 (ckIx E ic i n) (.ptr b (o + i.toNat * s))
          | .one (.gs b n _) => w1 (ckIx E ic i n) (.ptr b (0 + i.toNat * s))
          | .one (.xs r o n) => w1 (ckIx E ic i n) (.xp r (o + i.toNat * s))
          | _ => none)
        | none => none)
      | _ => none
    | none => none
  | _ => none

theorem VR.ptr_inv {N : Nat} {i o : Nat} {v : Value} (h : VR X N p (.ptr i o) v) : Own N p i ∧ v = .pointer (some ⟨p.at_ i, o, none⟩) := by cases h; exact ⟨by assumption, rfl⟩

theorem ok1 {s : Sem Value} {c : AC} {u : Value} (h : VR X m.length p c u) (hr : ∀ w, s.run X.P w = .ok u w) : G1 X p m wb s (.one c) := ⟨u, .one _ _ h, fun w _ => hr w⟩

theorem VA.one_inv {N : Nat} {c : AC} {v : Value} (h : VA X N p (.one c) v) : VR X N p c v := by cases h; assumption

theorem und_arr {P : Program} {t : TypeId} {ti : TI} (h : TyOk P t ti) {n : Nat} {e : TypeId} (hd : ti.d = .array n e) : P.underlying t = some (.array n e) := by
  obtain ⟨d, h1, h2⟩ := h.und
  rw [hd] at h2
  cases d <;> simp only [tdOk] at h2
  obtain ⟨rfl, rfl⟩ := h2
  exact h1

theorem und_slice {P : Program} {t : TypeId} {ti : TI} (h : TyOk P t ti) {e : TypeId} (hd : ti.d = .slice e) : P.underlying t = some (.slice e) := by
  obtain ⟨d, h1, h2⟩ := h.und
  rw [hd] at h2
  cases d <;> simp only [tdOk] at h2
  subst h2
  exact h1

theorem run_ixArr {P : Program} {t e : TypeId} {n sz : Nat} (h : P.underlying t = some (.array n e)) (he : ∀ w, (Go.sizeOf e).run P w = .ok sz w) (b o : Nat) (k : IntKind) (i : Int) (hi : 0 ≤ i ∧ i < n) (w : World) :
    (Instr.indexAt t (.pointer (some ⟨b, o, none⟩)) (.int k i)).run P w = .ok (.pointer (some ⟨b, o + i.toNat * sz, none⟩)) w := by
  simp [Instr.indexAt, run_underlying h, asIntOf, Instr.sureAddr, hi, he, Addr.add_lit]

theorem run_ixSl {P : Program} {t e : TypeId} {n sz c : Nat} (h : P.underlying t = some (.slice e)) (he : ∀ w, (Go.sizeOf e).run P w = .ok sz w) (b o : Nat) (k : IntKind) (i : Int) (hi : 0 ≤ i ∧ i < n) (w : World) :
    (Instr.indexAt t (.slice (some ⟨b, o, none⟩) n c) (.int k i)).run P w = .ok (.pointer (some ⟨b, o + i.toNat * sz, none⟩)) w := by
  simp [Instr.indexAt, run_underlying h, asIntOf, hi, he, Addr.add_lit]

theorem evIxAddr_ok {E : Env} (hE : EnvOk X.P E) {ty : TypeId} {x ix : AV} {cs : List Prop} {v : AV} (h : evIxAddr E ty x ix = some (cs, v)) (hc : AllC cs) {vx vi : Value}
    (hx : VA X m.length p x vx) (hi : VA X m.length p ix vi) : G1 X p m wb (Instr.indexAt ty vx vi) v := by
  unfold evIxAddr at h
  split at h
  · rename_i ic
    split at h
    · rename_i i hii
      obtain ⟨k, rfl⟩ := ixI_ok hii hi.one_inv
      split at h
      · rename_i n e hd
        have hu := und_arr (d_ok hE hd (by simp)) hd
        split at h
        · rename_i s hs
          obtain ⟨he, hsz, h1⟩ := esz_ok hE hs
          have hrun : ∀ w, (Go.sizeOf e).run X.P w = .ok s w := fun w => by rw [hsz]; exact he.szrun w
          split at h
          · rename_i b o
            obtain ⟨g, rfl⟩ := w1_eq h
            have hb := ckIx_ok g hii hc
            obtain ⟨hlt, rfl⟩ := hx.one_inv.ptr_inv
            exact ok1 (.ptr b _ hlt) (run_ixArr hu hrun _ _ k i hb)
          · rename_i r o
            obtain ⟨g, rfl⟩ := w1_eq h
            have hb := ckIx_ok g hii hc
            have hv := hx.one_inv
            cases hv with
            | xp _ _ b k' g' hbk hr hv => exact ok1 (.xp r _ b k' g' hbk hr hv) (fun w => by rw [← Nat.add_assoc]; exact run_ixArr hu hrun _ _ k i hb w)
          · cases h
        · cases h
      · rename_i e hd
        have hu := und_slice (d_ok hE hd (by simp)) hd
        split at h
        · rename_i s hs
          obtain ⟨he, hsz, h1⟩ := esz_ok hE hs
          have hrun : ∀ w, (Go.sizeOf e).run X.P w = .ok s w := fun w => by rw [hsz]; exact he.szrun w
          split at h
          · rename_i b o n
            obtain ⟨g, rfl⟩ := w1_eq h
            have hb := ckIx_ok g hii hc
            have hv := hx.one_inv
            cases hv with
            | sv _ _ _ c b' o' hcn hor =>
              obtain ⟨hlt, rfl, rfl⟩ := hor.resolve_left (by omega)
              exact ok1 (.ptr b _ hlt) (run_ixSl hu hrun _ _ k i hb)
            | svn => omega
          · rename_i b n e'
            obtain ⟨g, rfl⟩ := w1_eq h
            have hb := ckIx_ok g hii hc
            have hv := hx.one_inv
            cases hv with
            | gs _ _ _ c hlt hcn hz => exact ok1 (.ptr b _ hlt) (run_ixSl hu hrun _ _ k i hb)
            | gsn => omega
          · rename_i r o n
            obtain ⟨g, rfl⟩ := w1_eq h
            have hb := ckIx_ok g hii hc
            have hv := hx.one_inv
            cases hv with
            | xs _ _ _ c b k' b' o' g' hbk hr hv hcn =>
              obtain ⟨hbk2, rfl, rfl⟩ := hbk.resolve_left (by omega)
              exact ok1 (.xp r _ b' k' g' hbk2 (hr.resolve_left (by omega)) hv) (fun w => by rw [← Nat.add_assoc]; exact run_ixSl hu hrun _ _ k i hb w)
            | xsn => omega
            | xs0 => omega
          · cases h
        · cases h
      · cases h
    · cases h
  · cases h

/-- the address of a field -/
def evFieldAddr (E : Env) (ty : TypeId) (x : AV) (f : Nat) : RV :=
  match (E.ti ty).d with
  | .struct fs =>
    match fs[f]? with
    | some (off, ft) =>
      match E.esz ft with
      | some _ =>
        (match x with
        | .one (.ptr b o) => some ([], .one (.ptr b (o + off)))
        | .one (.xp r o) => some ([], .one (.xp r (o + off)))
        | _ => none)
      | none => none
    | none => none
  | _ => none

theorem und_struct {P : Program} {t : TypeId} {ti : TI} (h : TyOk P t ti) {fs : List (Nat × TypeId)} (hd : ti.d = .struct fs) : ∃ gs, P.underlying t = some (.struct gs) ∧ fs.length = gs.size ∧
    ∀ (i o : Nat) (ty : TypeId), fs[i]? = some (o, ty) → ∃ g : Field, gs[i]? = some g ∧ g.offset = o ∧ g.type = ty := by
  obtain ⟨d, h1, h2⟩ := h.und
  rw [hd] at h2
  cases d <;> simp only [tdOk] at h2
  exact ⟨_, h1, h2⟩

theorem evFieldAddr_ok {E : Env} (hE : EnvOk X.P E) {ty : TypeId} {x : AV} {f : Nat} {cs : List Prop} {v : AV} (h : evFieldAddr E ty x f = some (cs, v)) {vx : Value}
    (hx : VA X m.length p x vx) : G1 X p m wb (Instr.fieldAt ty vx f) v := by
  unfold evFieldAddr at h
  split at h
  · rename_i fs hd
    obtain ⟨gs, hu, hl, hf⟩ := und_struct (d_ok hE hd (by simp)) hd
    split at h
    · rename_i off ft hfs
      obtain ⟨g, hg, rfl, rfl⟩ := hf _ _ _ hfs
      split at h
      · rename_i s hs
        obtain ⟨he, hsz, h1⟩ := esz_ok hE hs
        have hrun : ∀ w, (Go.sizeOf g.type).run X.P w = .ok s w := fun w => by rw [hsz]; exact he.szrun w
        have hr : ∀ (b o : Nat) (w : World), (Instr.fieldAt ty (.pointer (some ⟨b, o, none⟩)) f).run X.P w = .ok (.pointer (some ⟨b, o + g.offset, none⟩)) w := fun b o w => by
          have : s ≠ 0 := by omega
          simp [Instr.fieldAt, run_underlying hu, hg, Instr.sureAddr, fieldPlace, hrun, this, Addr.add_lit]
        split at h
        · rename_i b o
          simp only [Option.some.injEq, Prod.mk.injEq] at h; obtain ⟨rfl, rfl⟩ := h
          obtain ⟨hlt, rfl⟩ := hx.one_inv.ptr_inv
          exact ok1 (.ptr b _ hlt) (hr _ _)
        · rename_i r o
          simp only [Option.some.injEq, Prod.mk.injEq] at h; obtain ⟨rfl, rfl⟩ := h
          have hv := hx.one_inv
          cases hv with
          | xp _ _ b k' g' hbk hr' hv => exact ok1 (.xp r _ b k' g' hbk hr' hv) (fun w => by rw [← Nat.add_assoc]; exact hr _ _ w)
        · cases h
      · cases h
    · cases h
  · cases h

/-- a load -/
def evLoad (E : Env) (m : Mem) (ty : TypeId) (x : AV) : RV :=
  match x with
  | .one (.ptr b o) => (match gt none m b with | some row => rd (E.sym ty) (E.ti ty) row o | none => none)
  | .one (.xp r o) => rd (!E.lit) (E.ti ty) r o
  | _ => none

theorem gt_mem {m : Mem} {i : Nat} {row : List AC} (h : gt none m i = some row) : m[i]? = some (some row) := by
  rw [gt_eq] at h
  cases h1 : m[i]? with
  | none => rw [h1] at h; cases h
  | some r => rw [h1] at h; simp at h; rw [h]

theorem evLoad_ok {E : Env} (hE : EnvOk X.P E) (hb : MR X p m wb) {ty : TypeId} {x : AV} {cs : List Prop} {v : AV} (h : evLoad E m ty x = some (cs, v)) (hc : AllC cs) {vx : Value}
    (hx : VA X m.length p x vx) : G1 X p m wb (Instr.loadAt ty vx) v := by
  unfold evLoad at h
  split at h
  · rename_i b o
    split at h
    · rename_i row hrow
      obtain ⟨hlt, rfl⟩ := hx.one_inv.ptr_inv
      obtain ⟨u, h1, h2⟩ := rd_ok (RowAt.own hb (gt_mem hrow) hlt.2) (hE.ti ty) h hc
      exact ⟨u, h1, fun w hw => by simp only [Instr.loadAt, Instr.sureAddr, Sem.run_bind, Sem.run_pure, Result.andThen_ok]; simpa using h2 w hw⟩
    · cases h
  · rename_i r o
    have hv := hx.one_inv
    cases hv with
    | xp _ _ b k' g' hbk hr' hv =>
      obtain ⟨u, h1, h2⟩ := rd_ok (RowAt.old hr' hv) (hE.ti ty) h hc
      exact ⟨u, h1, fun w hw => by simp only [Instr.loadAt, Instr.sureAddr, Sem.run_bind, Sem.run_pure, Result.andThen_ok]; exact h2 w hw⟩
  · cases h

end
end DH

namespace DH
open Go

/-! '==' of arrays and structs -/

def fitV : EK → Value → Prop
  | .bool, .bool _ => True
  | .int k, .int k' n => k' = k ∧ (Lit.int k n).wf = true
  | .str, .string s => s.size ≤ maxLen
  | _, _ => False

def fits : List EK → List Value → Prop
  | [], [] => True
  | k :: ks, v :: vs => fitV k v ∧ fits ks vs
  | _, _ => False

def litV : Value → Lit
  | .bool b => .bool b
  | .int k n => .int k n
  | .string s => .string s.data.toList
  | _ => .bool false

theorem fits_length : ∀ {ks : List EK} {l : List Value}, fits ks l → l.length = ks.length
  | [], [], _ => rfl
  | _ :: ks, _ :: l, h => by simp [fits_length h.2]
  | [], _ :: _, h => h.elim
  | _ :: _, [], h => h.elim

theorem fits_append : ∀ {a b : List EK} {l : List Value}, fits (a ++ b) l → fits a (l.take a.length) ∧ fits b (l.drop a.length)
  | [], b, l, h => by simpa [fits] using h
  | k :: a, b, [], h => h.elim
  | k :: a, b, v :: l, h => by
    obtain ⟨h1, h2⟩ := h
    obtain ⟨h3, h4⟩ := fits_append h2
    exact ⟨⟨h1, h3⟩, h4⟩

theorem mapM_some {α β : Type} (f : α → Option β) (g : α → β) : ∀ l : List α, (∀ x ∈ l, f x = some (g x)) → l.mapM f = some (l.map g)
  | [], _ => by simp
  | x :: l, h => by
    rw [List.mapM_cons, h x (by simp), mapM_some f g l (fun y hy => h y (by simp [hy]))]
    rfl

theorem flat_chunks (c : Nat) (l : List Value) : ∀ (n k : Nat), l.length = (k + n) * c → ((List.range' k n).map fun i => ((l.drop (i * c)).take c).map litV).flatten = (l.drop (k * c)).map litV
  | 0, k, h => by simp at h; rw [List.drop_eq_nil_of_le (by omega)]; simp
  | n + 1, k, h => by
    rw [List.range'_succ, List.map_cons, List.flatten_cons, flat_chunks c l n (k + 1) (by rw [h]; congr 1; omega), ← List.map_append]
    congr 1
    rw [show (k + 1) * c = k * c + c by rw [Nat.add_mul, Nat.one_mul], ← List.drop_drop, List.take_append_drop]

theorem fits_rep {ks : List EK} : ∀ {n : Nat} {l : List Value}, fits (List.replicate n ks).flatten l → ∀ i, i < n → fits ks ((l.drop (i * ks.length)).take ks.length)
  | 0, l, h, i, hi => by omega
  | n + 1, l, h, i, hi => by
    rw [List.replicate_succ, List.flatten_cons] at h
    obtain ⟨h1, h2⟩ := fits_append h
    cases i with
    | zero => simpa using h1
    | succ i =>
      have := fits_rep h2 i (by omega)
      rw [List.drop_drop] at this
      rw [show (i + 1) * ks.length = ks.length + i * ks.length by rw [Nat.add_mul, Nat.one_mul, Nat.add_comm]]
      exact this

theorem keyLits_of {P : Program} : ∀ (d : Nat) (t : TypeId) (ks : List EK) (l : List Value), kindsT P d t = some ks → fits ks l → P.keyLits d t l = some (l.map litV)
  | 0, t, ks, l, h, _ => by simp [kindsT] at h
  | d + 1, t, ks, l, h, hf => by
    unfold kindsT at h
    unfold Program.keyLits
    split at h
    · rename_i hu
      injection h with h; subst h
      match l, hf with
      | [v], hf =>
        cases v <;> simp only [fits, fitV] at hf <;> first | exact hf.1.elim | skip
        simp [hu, litV]
    · rename_i k hu
      injection h with h; subst h
      match l, hf with
      | [v], hf =>
        cases v <;> simp only [fits, fitV] at hf <;> first | exact hf.1.elim | skip
        obtain ⟨⟨rfl, hw⟩, _⟩ := hf
        simp [hu, litV, hw]
    · rename_i hu
      injection h with h; subst h
      match l, hf with
      | [v], hf =>
        cases v <;> simp only [fits, fitV] at hf <;> first | exact hf.1.elim | skip
        simp [hu, litV, hf.1]
    · rename_i n e hu
      split at h
      · rename_i ks' hk
        split at h
        · rename_i hl
          injection h with h; subst h
          have hlen := fits_length hf
          have hlen' : l.length = n * ks'.length := by rw [hlen]; simp [List.length_flatten]
          have hall : ∀ i ∈ List.range n, P.keyLits d e ((l.drop (i * P.cellsOf e)).take (P.cellsOf e)) = some (((l.drop (i * P.cellsOf e)).take (P.cellsOf e)).map litV) := by
            intro i hi
            rw [← hl.1]
            exact keyLits_of d e ks' _ hk (fits_rep hf i (List.mem_range.1 hi))
          simp only [hu]
          rw [if_pos (by rw [hlen', hl.2]), mapM_some _ _ _ hall]
          simp only [Option.map_some, Option.some.injEq]
          have := flat_chunks (P.cellsOf e) l n 0 (by rw [hlen', Nat.zero_add, hl.1])
          rw [List.range_eq_range', this]
          simp
        · cases h
      · cases h
    · rename_i fs hu
      split at h
      · rename_i ks' hk
        split at h
        · rename_i hl
          injection h with h; subst h
          have hlen := fits_length hf
          simp only [hu]
          rw [if_pos ⟨by rw [hlen]; exact hl.1, hl.2⟩]
          have key : ∀ (fl : List Field) (o : Nat) (kk : List EK), kindsF P (kindsT P d) fl o = some kk → o + kk.length = l.length → fits kk (l.drop o) →
              (fl.mapM fun f => P.keyLits d f.type ((l.drop f.offset).take (P.cellsOf f.type))).map List.flatten = some ((l.drop o).map litV) := by
            intro fl
            induction fl with
            | nil =>
              intro o kk h1 h2 h3
              simp only [kindsF, Option.some.injEq] at h1; subst h1
              have : l.drop o = [] := List.drop_eq_nil_of_le (by simp at h2; omega)
              simp [this]
            | cons f fl ih =>
              intro o kk h1 h2 h3
              unfold kindsF at h1
              split at h1
              · rename_i k1 k2 e1 e2
                split at h1
                · rename_i hc
                  injection h1 with h1; subst h1
                  obtain ⟨g1, g2⟩ := fits_append h3
                  rw [List.drop_drop, hc.2] at g2
                  have := ih (o + P.cellsOf f.type) k2 e2 (by rw [← h2, ← hc.2]; simp; omega) g2
                  rw [List.mapM_cons, hc.1, keyLits_of d f.type k1 _ e1 (by rw [← hc.2]; exact g1)]
                  simp only [Option.map_eq_some_iff] at this
                  obtain ⟨r, hr, hr2⟩ := this
                  rw [hr]
                  simp only [Option.pure_def, Option.bind_eq_bind, Option.bind_some, Option.map_some, List.flatten_cons, hr2]
                  rw [← List.map_append, ← List.drop_drop, List.take_append_drop]
                · cases h1
              · cases h1
          have := key fs.toList 0 ks' hk (by simpa using hlen.symm) (by simpa using hf)
          simpa using this
        · cases h
      · cases h
    · cases h

def fitB : AC → AC → Bool
  | .u8 _, .u8 _ => true
  | .u16 _, .u16 _ => true
  | .u32 _, .u32 _ => true
  | .u64 _, .u64 _ => true
  | .i64 _, .i64 n => in64B n
  | .b _, .b _ => true
  | _, _ => false

def fitBs : List AC → List AC → Bool
  | [], [] => true
  | z :: zs, c :: cs => fitB z c && fitBs zs cs
  | _, _ => false

theorem fitB_ok {z c : AC} (h : fitB z c = true) : fitC z c := by
  cases z <;> cases c <;> first | trivial | (simp only [fitB] at h; exact in64B_ok h) | cases h

theorem fitBs_ok : ∀ {zs cs : List AC}, fitBs zs cs = true → fitCs zs cs
  | [], [], _ => trivial
  | z :: zs, c :: cs, h => by simp only [fitBs, Bool.and_eq_true] at h; exact ⟨fitB_ok h.1, fitBs_ok h.2⟩
  | [], _ :: _, h => by cases h
  | _ :: _, [], h => by cases h

theorem wf_u {n : Nat} (k : IntKind) (hk : k.signed = false) (hn : k.bits = n) (x : BitVec n) : (Lit.int k (x.toNat : Int)).wf = true := by
  have := x.isLt
  have h1 : ((2 ^ n : Nat) : Int) = (2 : Int) ^ n := by simp
  subst hn
  simp [Lit.wf, IntKind.min, IntKind.max, hk]
  omega

theorem wf_i64 {n : Int} (h : in64 n) : (Lit.int .i64 n).wf = true := by
  unfold in64 at h
  simp [Lit.wf, IntKind.min, IntKind.max, IntKind.signed, IntKind.bits]
  omega

theorem fitC_ok {X : Ctx} {N : Nat} {p : Pl} {z c : AC} {k : EK} {v : Value} (hz : ekOf z = some k) (hc : fitC z c) (hv : VR X N p c v) : fitV k v := by
  cases z <;> cases c <;> first | exact hc.elim | skip
  all_goals simp only [ekOf, Option.some.injEq] at hz
  all_goals subst hz
  all_goals cases hv
  · exact ⟨rfl, wf_u .u8 rfl rfl _⟩
  · exact ⟨rfl, wf_u .u16 rfl rfl _⟩
  · exact ⟨rfl, wf_u .u32 rfl rfl _⟩
  · exact ⟨rfl, wf_u .u64 rfl rfl _⟩
  · exact ⟨rfl, wf_i64 hc⟩
  · trivial

theorem fitCs_ok {X : Ctx} {N : Nat} {p : Pl} : ∀ {zs cs : List AC} {ks : List EK} {l : List Value}, zs.map ekOf = ks.map some → fitCs zs cs → VL X N p cs l → fits ks l
  | [], [], [], [], _, _, _ => trivial
  | [], [], [], _ :: _, _, _, h => by have := h.1; simp at this
  | [], [], _ :: _, _, h, _, _ => by simp at h
  | [], _ :: _, _, _, _, h, _ => h.elim
  | _ :: _, [], _, _, _, h, _ => h.elim
  | _ :: _, _ :: _, [], _, h, _, _ => by simp at h
  | _ :: _, _ :: _, _ :: _, [], _, _, h => by have := h.1; simp at this
  | z :: zs, c :: cs, k :: ks, v :: l, h, hf, hv => by
    simp only [List.map_cons, List.cons.injEq] at h
    exact ⟨fitC_ok h.1 hf.1 (hv.2 0 c v rfl rfl), fitCs_ok h.2 hf.2 ⟨by have := hv.1; simp at this; exact this, fun j c u h1 h2 => hv.2 (j + 1) c u (by simpa using h1) (by simpa using h2)⟩⟩

theorem lit_inj1 {X : Ctx} {N : Nat} {p : Pl} {z c d : AC} {u v : Value} (h1 : fitC z c) (h2 : fitC z d) (hu : VR X N p c u) (hv : VR X N p d v) : litV u = litV v ↔ c = d := by
  cases z <;> cases c <;> first | exact h1.elim | skip
  all_goals cases d <;> first | exact h2.elim | skip
  all_goals cases hu
  all_goals cases hv
  all_goals simp [litV, cast_inj]

theorem lit_inj {X : Ctx} {N : Nat} {p : Pl} : ∀ {zs cs ds : List AC} {l r : List Value}, fitCs zs cs → fitCs zs ds → VL X N p cs l → VL X N p ds r → (l.map litV = r.map litV ↔ cs = ds)
  | [], [], [], l, r, _, _, hl, hr => by
    have h1 : l = [] := List.length_eq_zero_iff.1 hl.1.symm
    have h2 : r = [] := List.length_eq_zero_iff.1 hr.1.symm
    simp [h1, h2]
  | [], _ :: _, _, _, _, h, _, _, _ => h.elim
  | [], [], _ :: _, _, _, _, h, _, _ => h.elim
  | _ :: _, [], _, _, _, h, _, _, _ => h.elim
  | _ :: _, _ :: _, [], _, _, _, h, _, _ => h.elim
  | z :: zs, c :: cs, d :: ds, [], _, _, _, hl, _ => by have := hl.1; simp at this
  | z :: zs, c :: cs, d :: ds, _ :: _, [], _, _, _, hr => by have := hr.1; simp at this
  | z :: zs, c :: cs, d :: ds, u :: l, v :: r, h1, h2, hl, hr => by
    have g1 := lit_inj1 h1.1 h2.1 (hl.2 0 c u rfl rfl) (hr.2 0 d v rfl rfl)
    have g2 := lit_inj (l := l) (r := r) h1.2 h2.2 ⟨by have := hl.1; simp at this; exact this, fun j c u h1 h2 => hl.2 (j + 1) c u (by simpa using h1) (by simpa using h2)⟩
      ⟨by have := hr.1; simp at this; exact this, fun j c u h1 h2 => hr.2 (j + 1) c u (by simpa using h1) (by simpa using h2)⟩
    simp only [List.map_cons, List.cons.injEq, g1, g2]

open Classical in
noncomputable def sameCells (cs ds : List AC) : Bool := decide (cs = ds)

theorem formed_ok {P : Program} {t : TypeId} {ti : TI} (ht : TyOk P t ti) (hagg : ti.agg = true) {ks : List EK} (hks : kindsT P 40 t = some ks) {q : List Value} (hq : fits ks q) : Value.formed P t (.agg q.toArray) = true := by
  obtain ⟨d, hu, hd⟩ := ht.und
  have hlen := fits_length hq
  have hcell : ks.length = P.cellsOf t := by
    unfold kindsT at hks
    have hag := ht.agg
    rw [hagg] at hag
    rw [hu] at hks
    revert hd hag
    cases htd : ti.d <;> intro hd hag <;> first | cases hag; done | skip
    · cases d <;> simp only [tdOk] at hd
      dsimp only at hks
      split at hks
      · split at hks
        · rename_i hc; injection hks with hks; subst hks; simp [List.length_flatten]; exact hc.2
        · cases hks
      · cases hks
    · cases d <;> simp only [tdOk] at hd
      dsimp only at hks
      split at hks
      · split at hks
        · rename_i hc; injection hks with hks; subst hks; exact hc.1
        · cases hks
      · cases hks
  have hag := ht.agg
  rw [hagg] at hag
  simp only [Value.formed, hu]
  revert hd hag
  cases htd : ti.d <;> intro hd hag <;> first | cases hag; done | skip
  · cases d <;> simp only [tdOk] at hd
    simp [hlen, hcell]
  · cases d <;> simp only [tdOk] at hd
    simp [hlen, hcell]

theorem equal_agg {X : Ctx} {N : Nat} {p : Pl} {t : TypeId} {ti : TI} (ht : TyOk X.P t ti) (he : ti.eq = true) (hagg : ti.agg = true) {cs ds : List AC} {l r : List Value} (h1 : fitCs ti.zero cs) (h2 : fitCs ti.zero ds)
    (hl : VL X N p cs l) (hr : VL X N p ds r) (w : World) : (Op.equal t (.agg l.toArray) (.agg r.toArray)).run X.P w = .ok (sameCells cs ds) w := by
  obtain ⟨hk, hkey, _⟩ := ht.eq he
  cases hks : kindsT X.P 40 t with
  | none => rw [hks] at hk; cases hk
  | some ks =>
    rw [hks] at hk
    simp only [Option.map_some, Option.some.injEq] at hk
    have f1 := fitCs_ok hk.symm h1 hl
    have f2 := fitCs_ok hk.symm h2 hr
    obtain ⟨d, hu, hd⟩ := ht.und
    obtain ⟨i, hi, hsz, _⟩ := ht.info
    have hform : ∀ q : List Value, fits ks q → Value.formed X.P t (.agg q.toArray) = true := by
      intro q hq
      have hlen := fits_length hq
      have hcell : ks.length = X.P.cellsOf t := by
        unfold kindsT at hks
        have hag := ht.agg
        rw [hagg] at hag
        rw [hu] at hks
        revert hd hag
        cases htd : ti.d <;> intro hd hag <;> first | cases hag; done | skip
        · cases d <;> simp only [tdOk] at hd
          dsimp only at hks
          split at hks
          · split at hks
            · rename_i hc; injection hks with hks; subst hks; simp [List.length_flatten]; exact hc.2
            · cases hks
          · cases hks
        · cases d <;> simp only [tdOk] at hd
          dsimp only at hks
          split at hks
          · split at hks
            · rename_i hc; injection hks with hks; subst hks; exact hc.1
            · cases hks
          · cases hks
      have hag := ht.agg
      rw [hagg] at hag
      simp only [Value.formed, hu]
      revert hd hag
      cases htd : ti.d <;> intro hd hag <;> first | cases hag; done | skip
      · cases d <;> simp only [tdOk] at hd
        simp [hlen, hcell]
      · cases d <;> simp only [tdOk] at hd
        simp [hlen, hcell]
    obtain ⟨b, hb1, hb2⟩ := run_equalIn_deep (P := X.P) 9960 40 t hkey w 40 40 (.agg l.toArray) (.agg r.toArray) (l.map litV) (r.map litV) (hform l f1) (hform r f2)
      (by simpa [Value.cells] using keyLits_of 40 t ks l hks f1) (by simpa [Value.cells] using keyLits_of 40 t ks r hks f2)
    have : b = sameCells cs ds := by
      rw [Bool.eq_iff_iff, hb2, lit_inj h1 h2 hl hr]
      simp [sameCells]
    rw [← this]
    exact hb1
end DH

namespace DH
open Go

section
variable {X : Ctx} {p : Pl} {m : Mem} {wb : World}

/-- an operation that has one value, in the worlds that hold the tracked memory as wb does -/
def E1 (X : Ctx) (p : Pl) (m : Mem) (wb : World) (s : Sem Next) (v : AV) : Prop :=
  ∃ u, VA X m.length p v u ∧ ∀ w, MRw X p m wb w → s.run X.P w = .ok (.value u) w

theorem E1.of_G1 {s : Sem Value} {v : AV} (h : G1 X p m wb s v) : E1 X p m wb (do pure (.value (← s))) v := by
  obtain ⟨u, h1, h2⟩ := h
  exact ⟨u, h1, fun w hw => by rw [Sem.run_bind, h2 w hw]; rfl⟩

theorem E1.pure {u : Value} {v : AV} (h : VA X m.length p v u) : E1 X p m wb (Pure.pure (.value u)) v := ⟨u, h, fun _ _ => rfl⟩

/-! pick, nilCheck -/

def evPick (c a b : AV) : RV :=
  match c with
  | .one (.b c) => (match c with | true => some ([], a) | false => some ([], b))
  | _ => none

def evNilCheck (x : AV) : RV :=
  match x with
  | .one (.ptr i o) => some ([], .one (.ptr i o))
  | .one (.xp r o) => some ([], .one (.xp r o))
  | _ => none

/-! numbers, and what is equal -/

def bOk (E : Env) (ty : TypeId) (a : AC) : Bool :=
  match a with
  | .b _ => (match (E.ti ty).d with | .bool => true | _ => false)
  | _ => true

/-- in a run on numbers that are known: a slice that has elements is not nil -/
def someLen (lit : Bool) (a : AC) : Option Bool :=
  match lit with
  | true => (match a with
    | .sv _ _ n => (match Nat.ble 1 n with | true => some false | false => none)
    | .gs _ n _ => (match Nat.ble 1 n with | true => some false | false => none)
    | .sc _ _ n => (match Nat.ble 1 n with | true => some false | false => none)
    | .xs _ _ n => (match Nat.ble 1 n with | true => some false | false => none)
    | _ => none)
  | false => none
theorem someLen_ok {X : Ctx} {lit : Bool} {a : AC} {r : Bool} (h : someLen lit a = some r) {N : Nat} {p : Pl} {u : Value} (hu : VR X N p a u) : r = false ∧ ∃ x n c, u = .slice (some x) n c := by
  unfold someLen at h
  split at h
  · split at h
    all_goals first | (cases h; done) | skip
    all_goals
      split at h
      · rename_i hb
        have hb := Nat.le_of_ble_eq_true hb
        injection h with h
        subst h
        cases hu <;> first | (exact absurd hb (by decide)) | exact ⟨rfl, _, _, _, rfl⟩
      · cases h
  · cases h
def isNil (E : Env) (ty : TypeId) (a b : AC) : Option Bool :=
  match (E.ti ty).d with
  | .ptr _ =>
    (match a, b with
    | .ptr _ _, .np => some false
    | .xp _ _, .np => some false
    | .np, .ptr _ _ => some false
    | .np, .xp _ _ => some false
    | .np, .np => some true
    | _, _ => none)
  | .slice _ =>
    (match a, b with
    | .ns, .ns => some true
    | a, .ns => someLen E.lit a
    | _, _ => none)
  | .map _ _ =>
    (match a, b with
    | .nm, .nm => some true
    | .mp _, .nm => some false
    | .nm, .mp _ => some false
    | _, _ => none)
  | _ => none

def evCmp (E : Env) (ty : TypeId) (op : BinOp) (a b : AC) : RV :=
  match isNil E ty a b with
  | some r =>
    (match op with
    | .eql => some ([], .one (.b r))
    | .neq => some ([], .one (.b (!r)))
    | _ => none)
  | none => none

/-- cells that are reckoned -/
def eqC : AC → AC → Bool
  | .u8 x, .u8 y => x == y
  | .u16 x, .u16 y => x == y
  | .u32 x, .u32 y => x == y
  | .u64 x, .u64 y => x == y
  | .i64 x, .i64 y => x == y
  | .b x, .b y => x == y
  | _, _ => false
def eqCs : List AC → List AC → Bool
  | [], [] => true
  | c :: cs, d :: ds => eqC c d && eqCs cs ds
  | _, _ => false
theorem eqC_ok {z c d : AC} (h : fitC z c) (k : fitC z d) : eqC c d = true ↔ c = d := by
  cases z <;> cases c <;> first | exact h.elim | skip
  all_goals cases d <;> first | exact k.elim | simp [eqC]
theorem eqCs_ok : ∀ {zs cs ds : List AC}, fitCs zs cs → fitCs zs ds → (eqCs cs ds = true ↔ cs = ds)
  | [], [], [], _, _ => by simp [eqCs]
  | z :: zs, c :: cs, d :: ds, h, k => by simp [eqCs, eqC_ok h.1 k.1, eqCs_ok h.2 k.2]
  | [], _ :: _, _, h, _ => h.elim
  | [], [], _ :: _, _, k => k.elim
  | _ :: _, [], _, h, _ => h.elim
  | _ :: _, _ :: _, [], _, k => k.elim
noncomputable def evAggEq (E : Env) (ty : TypeId) (op : BinOp) (cs ds : List AC) : RV :=
  match (E.ti ty).d with
  | .other => none
  | _ =>
    if (E.ti ty).eq && (E.ti ty).agg then
      (match ck E.lit (fitBs (E.ti ty).zero cs && fitBs (E.ti ty).zero ds) (fitCs (E.ti ty).zero cs ∧ fitCs (E.ti ty).zero ds) with
      | some c =>
        (match E.lit with
        | true => (match op with
          | .eql => some (c, .one (.b (eqCs cs ds)))
          | .neq => some (c, .one (.b (!eqCs cs ds)))
          | _ => none)
        | false => (match op with
          | .eql => some (c, .one (.b (sameCells cs ds)))
          | .neq => some (c, .one (.b (!sameCells cs ds)))
          | _ => none))
      | none => none)
    else none

/-- are sums to be reckoned as they wrap? -/
def wOn : List (Nat × Bool) → Bool
  | [] => false
  | x :: l => Nat.beq x.1 1000000 || wOn l
/-- a sum of two ints as it wraps -/
def wrapC (E : Env) (op : BinOp) (a b : AC) : Option AC :=
  match wOn E.asm with
  | true => (match op, a, b with | .add, .i64 x, .i64 y => some (.i64 (IntKind.i64.wrap (x + y))) | _, _, _ => none)
  | false => none

noncomputable def evBinOp (E : Env) (ty : TypeId) (op : BinOp) (x y : AV) : RV :=
  match x, y with
  | .one a, .one b =>
    match wrapC E op a b with
    | some c => some ([], .one c)
    | none => if bOk E ty a then
      (match evBin E.lit op a b with
      | some (cs, c) => some (cs, .one c)
      | none => evCmp E ty op a b)
    else none
  | .agg cs, .agg ds => evAggEq E ty op cs ds
  | _, _ => none

theorem eqGuard_ok {P : Program} {op : BinOp} {t : TypeId} {x y : Operand} {u v : Value} (h1 : ∀ c, u ≠ .agg c) (h2 : u ≠ .nilIface) (w : World) : (eqGuard op t x y u v).run P w = .ok () w := by
  cases u <;> first
    | exact absurd rfl h2
    | exact absurd rfl (h1 _)
    | (simp only [eqGuard_at_bool, eqGuard_at_int, eqGuard_at_float, eqGuard_at_complex, eqGuard_at_string, eqGuard_at_pointer, eqGuard_at_slice, eqGuard_at_map, eqGuard_at_chan, eqGuard_at_func, eqGuard_at_nilFunc, eqGuard_at_iface, eqGuard_at_tuple, Sem.run_pure]; done)

theorem evBin_plain {lit : Bool} {op : BinOp} {a b : AC} {cs : List Prop} {c : AC} (h : evBin lit op a b = some (cs, c)) {N : Nat} {u : Value} (hu : VR X N p a u) : (∀ c, u ≠ .agg c) ∧ u ≠ .nilIface := by
  cases hu
  case any => exfalso; cases op <;> cases b <;> simp [evBin, evShY, evSh, evNum] at h
  all_goals exact ⟨fun _ h => (by cases h), fun h => (by cases h)⟩

theorem equal_nil {E : Env} (hE : EnvOk X.P E) {ty : TypeId} {a b : AC} {r : Bool} (h : isNil E ty a b = some r) {N : Nat} {u v : Value} (hu : VR X N p a u) (hv : VR X N p b v) (w : World) :
    (Op.equal ty u v).run X.P w = .ok r w ∧ (∀ c, u ≠ .agg c) ∧ u ≠ .nilIface ∧ (∀ op, op = .eql ∨ op = .neq → binOp op ty u v = (if op = .eql then do pure (.bool (← Op.equal ty u v)) else do pure (.bool (!(← Op.equal ty u v))))) := by
  unfold isNil at h
  split at h
  · rename_i e hd
    have ht := d_ok hE hd (by simp)
    obtain ⟨d, hu', hd'⟩ := ht.und
    rw [hd] at hd'
    cases d <;> simp only [tdOk] at hd'
    have key0 : ∀ (d : Nat) (x y : Option Addr), (x = none ∨ y = none) → (Op.equalIn (d + 1) ty (.pointer x) (.pointer y)).run X.P w = .ok (x.isNone && y.isNone) w := by
      intro d x y hxy
      cases x <;> cases y <;> simp [Op.equalIn, run_underlying hu'] at hxy ⊢
    have key := key0 9999
    split at h <;> simp only [Option.some.injEq, reduceCtorEq] at h <;> subst h <;> cases hu <;> cases hv
    · exact ⟨key _ _ (.inr rfl), by simp, by simp, by rintro op (rfl | rfl) <;> rfl⟩
    · exact ⟨key _ _ (.inr rfl), by simp, by simp, by rintro op (rfl | rfl) <;> rfl⟩
    · exact ⟨key _ _ (.inl rfl), by simp, by simp, by rintro op (rfl | rfl) <;> rfl⟩
    · exact ⟨key _ _ (.inl rfl), by simp, by simp, by rintro op (rfl | rfl) <;> rfl⟩
    · exact ⟨key _ _ (.inl rfl), by simp, by simp, by rintro op (rfl | rfl) <;> rfl⟩
  · rename_i e hd
    have ht := d_ok hE hd (by simp)
    have hu' := und_slice ht hd
    have key0 : ∀ (d : Nat) (x : Option Addr) (n c : Nat), (Op.equalIn (d + 1) ty (.slice x n c) (.slice none 0 0)).run X.P w = .ok (x.isNone) w := by
      intro d x n c
      cases x <;> simp [Op.equalIn, run_underlying hu']
    have key := key0 9999
    split at h
    · simp only [Option.some.injEq] at h; subst h; cases hu; cases hv
      exact ⟨key _ _ _, by simp, by simp, by rintro op (rfl | rfl) <;> rfl⟩
    · obtain ⟨rfl, x, n, c, rfl⟩ := someLen_ok h hu
      cases hv
      exact ⟨key _ _ _, by simp, by simp, by rintro op (rfl | rfl) <;> rfl⟩
    · cases h
  · rename_i k e hd
    have ht := d_ok hE hd (by simp)
    obtain ⟨d, hu', hd'⟩ := ht.und
    rw [hd] at hd'
    cases d <;> simp only [tdOk] at hd'
    have key0 : ∀ (d : Nat) (x y : Option Nat), (x = none ∨ y = none) → (Op.equalIn (d + 1) ty (.map x) (.map y)).run X.P w = .ok (x.isNone && y.isNone) w := by
      intro d x y hxy
      cases x <;> cases y <;> simp [Op.equalIn, run_underlying hu'] at hxy ⊢
    have key := key0 9999
    split at h <;> simp only [Option.some.injEq, reduceCtorEq] at h <;> subst h <;> cases hu <;> cases hv
    · exact ⟨key _ _ (.inr rfl), by simp, by simp, by rintro op (rfl | rfl) <;> rfl⟩
    · exact ⟨key _ _ (.inr rfl), by simp, by simp, by rintro op (rfl | rfl) <;> rfl⟩
    · exact ⟨key _ _ (.inl rfl), by simp, by simp, by rintro op (rfl | rfl) <;> rfl⟩
  · cases h

theorem evBinOp_ok {E : Env} (hE : EnvOk X.P E) {ty : TypeId} {op : BinOp} {x y : AV} {cs : List Prop} {v : AV} (h : evBinOp E ty op x y = some (cs, v)) (hc : AllC cs) (ox oy : Operand) {vx vy : Value}
    (hx : VA X m.length p x vx) (hy : VA X m.length p y vy) : G1 X p m wb (do eqGuard op ty ox oy vx vy; binOp op ty vx vy) v := by
  unfold evBinOp at h
  split at h
  · rename_i a b
    split at h
    · rename_i c0 hw0
      simp only [Option.some.injEq, Prod.mk.injEq] at h; obtain ⟨rfl, rfl⟩ := h
      unfold wrapC at hw0
      split at hw0
      · split at hw0
        · rename_i x0 y0
          injection hw0 with hw0
          subst hw0
          have e1 : vx = .int .i64 x0 := by have := hx.one_inv; cases this; rfl
          have e2 : vy = .int .i64 y0 := by have := hy.one_inv; cases this; rfl
          subst e1; subst e2
          refine ⟨.int .i64 (IntKind.i64.wrap (x0 + y0)), .one _ _ (.i64 _), fun w _ => ?_⟩
          rw [Sem.run_bind, eqGuard_ok (fun c hc0 => by cases hc0) (fun hc0 => by cases hc0), Result.andThen_ok, binOp_add]
          rfl
        · cases hw0
      · cases hw0
    split at h
    · rename_i hb
      split at h
      · rename_i cs' c hev
        simp only [Option.some.injEq, Prod.mk.injEq] at h; obtain ⟨rfl, rfl⟩ := h
        have hbool : ∀ q, a = .b q → X.P.underlying ty = some .bool := by
          rintro q rfl
          simp only [bOk] at hb
          split at hb
          · rename_i hd
            obtain ⟨d, hu, hd'⟩ := (d_ok hE hd (by simp)).und
            rw [hd] at hd'
            cases d <;> simp only [tdOk] at hd'
            exact hu
          · cases hb
        obtain ⟨u, h1, h2⟩ := evBin_ok (P := X.P) hev hc hx.one_inv hy.one_inv ty hbool
        obtain ⟨g1, g2⟩ := evBin_plain hev hx.one_inv
        exact ⟨u, .one _ _ h2, fun w _ => by rw [Sem.run_bind, eqGuard_ok g1 g2]; exact h1 w⟩
      · unfold evCmp at h
        split at h
        · rename_i r hn
          have key := fun w => equal_nil hE hn hx.one_inv hy.one_inv w
          split at h
          · simp only [Option.some.injEq, Prod.mk.injEq] at h; obtain ⟨rfl, rfl⟩ := h
            refine ⟨.bool r, .one _ _ (.b _), fun w _ => ?_⟩
            obtain ⟨k1, k2, k3, k4⟩ := key w
            rw [Sem.run_bind, eqGuard_ok k2 k3, Result.andThen_ok, k4 _ (.inl rfl), if_pos rfl, Sem.run_bind, k1]
            rfl
          · simp only [Option.some.injEq, Prod.mk.injEq] at h; obtain ⟨rfl, rfl⟩ := h
            refine ⟨.bool (!r), .one _ _ (.b _), fun w _ => ?_⟩
            obtain ⟨k1, k2, k3, k4⟩ := key w
            rw [Sem.run_bind, eqGuard_ok k2 k3, Result.andThen_ok, k4 _ (.inr rfl), if_neg (by simp), Sem.run_bind, k1]
            rfl
          · cases h
        · cases h
    · cases h
  · rename_i cs' ds
    unfold evAggEq at h
    split at h
    · cases h
    · rename_i hne
      split at h
      · rename_i he
        rw [Bool.and_eq_true] at he
        split at h
        · rename_i c hck
          have ht : TyOk X.P ty (E.ti ty) := d_ok hE rfl hne
          have hcc : AllC c → fitCs (E.ti ty).zero cs' ∧ fitCs (E.ti ty).zero ds := fun hc =>
            ck_ok hck (fun h => by rw [Bool.and_eq_true] at h; exact ⟨fitBs_ok h.1, fitBs_ok h.2⟩) hc
          have hg := (ht.eq he.1).2.2
          cases hx with
          | agg _ l hl =>
          cases hy with
          | agg _ r hr =>
          split at h
          · split at h
            · simp only [Option.some.injEq, Prod.mk.injEq] at h; obtain ⟨rfl, rfl⟩ := h
              obtain ⟨f1, f2⟩ := hcc hc
              rw [show eqCs cs' ds = sameCells cs' ds by rw [Bool.eq_iff_iff, eqCs_ok f1 f2]; simp [sameCells]]
              refine ⟨.bool (sameCells cs' ds), .one _ _ (.b _), fun w _ => ?_⟩
              rw [Sem.run_bind, run_eqGuard_agg w _ _ _ _ _ _ hg, Result.andThen_ok]
              simp only [binOp]
              rw [Sem.run_bind, equal_agg ht he.1 he.2 f1 f2 hl hr]
              rfl
            · simp only [Option.some.injEq, Prod.mk.injEq] at h; obtain ⟨rfl, rfl⟩ := h
              obtain ⟨f1, f2⟩ := hcc hc
              rw [show eqCs cs' ds = sameCells cs' ds by rw [Bool.eq_iff_iff, eqCs_ok f1 f2]; simp [sameCells]]
              refine ⟨.bool (!sameCells cs' ds), .one _ _ (.b _), fun w _ => ?_⟩
              rw [Sem.run_bind, run_eqGuard_agg w _ _ _ _ _ _ hg, Result.andThen_ok]
              simp only [binOp]
              rw [Sem.run_bind, equal_agg ht he.1 he.2 f1 f2 hl hr]
              rfl
            · cases h
          · split at h
            · simp only [Option.some.injEq, Prod.mk.injEq] at h; obtain ⟨rfl, rfl⟩ := h
              obtain ⟨f1, f2⟩ := hcc hc
              refine ⟨.bool (sameCells cs' ds), .one _ _ (.b _), fun w _ => ?_⟩
              rw [Sem.run_bind, run_eqGuard_agg w _ _ _ _ _ _ hg, Result.andThen_ok]
              simp only [binOp]
              rw [Sem.run_bind, equal_agg ht he.1 he.2 f1 f2 hl hr]
              rfl
            · simp only [Option.some.injEq, Prod.mk.injEq] at h; obtain ⟨rfl, rfl⟩ := h
              obtain ⟨f1, f2⟩ := hcc hc
              refine ⟨.bool (!sameCells cs' ds), .one _ _ (.b _), fun w _ => ?_⟩
              rw [Sem.run_bind, run_eqGuard_agg w _ _ _ _ _ _ hg, Result.andThen_ok]
              simp only [binOp]
              rw [Sem.run_bind, equal_agg ht he.1 he.2 f1 f2 hl hr]
              rfl
            · cases h
        · cases h
      · cases h
  · cases h

def evUn (E : Env) (op : UnOp) (x : AV) : RV :=
  match op, x with
  | .not, .one (.b c) => some ([], .one (.b (!c)))
  | .xor, .one (.u8 a) => some ([], .one (.u8 (~~~a)))
  | .xor, .one (.u16 a) => some ([], .one (.u16 (~~~a)))
  | .xor, .one (.u32 a) => some ([], .one (.u32 (~~~a)))
  | .xor, .one (.u64 a) => some ([], .one (.u64 (~~~a)))
  | .neg, .one (.i64 n) => w1 (ck E.lit (in64B (0 - n)) (in64 (0 - n))) (.i64 (0 - n))
  | _, _ => none

theorem xorMax (k : IntKind) (hk : k.signed = false) (x : BitVec k.bits) (w : World) {P : Program} : (Op.intBits .xor k (if k.signed then -1 else k.max) (x.toNat : Int)).run P w = .ok (.int k ((~~~x).toNat : Int)) w := by
  simp only [Op.intBits, hk, Bool.false_eq_true, if_false, Sem.run_pure]
  congr 2
  rw [wrapU k hk, ofInt_natCast, ofInt_natCast]
  have : BitVec.ofInt k.bits k.max = BitVec.allOnes k.bits := by
    have h1 : (((2 ^ k.bits - 1 : Nat)) : Int) = (2 : Int) ^ k.bits - 1 := by
      have := Nat.one_le_two_pow (n := k.bits)
      push_cast [this]
      rfl
    rw [IntKind.max, hk, if_neg (by decide), ← h1, BitVec.ofInt_natCast]
    apply BitVec.eq_of_toNat_eq
    rw [BitVec.toNat_ofNat, BitVec.toNat_allOnes]
    exact Nat.mod_eq_of_lt (by have := Nat.one_le_two_pow (n := k.bits); omega)
  rw [this, BitVec.allOnes_xor]

theorem evUn_ok {E : Env} {op : UnOp} {x : AV} {cs : List Prop} {v : AV} (h : evUn E op x = some (cs, v)) (hc : AllC cs) {vx : Value} (hx : VA X m.length p x vx) : G1 X p m wb (Op.unary op vx) v := by
  unfold evUn at h
  split at h
  · simp only [Option.some.injEq, Prod.mk.injEq] at h; obtain ⟨rfl, rfl⟩ := h
    have := hx.one_inv; cases this
    exact ok1 (.b _) (fun w => rfl)
  · simp only [Option.some.injEq, Prod.mk.injEq] at h; obtain ⟨rfl, rfl⟩ := h
    have := hx.one_inv; cases this
    exact ok1 (.u8 _) (fun w => xorMax .u8 rfl _ w)
  · simp only [Option.some.injEq, Prod.mk.injEq] at h; obtain ⟨rfl, rfl⟩ := h
    have := hx.one_inv; cases this
    exact ok1 (.u16 _) (fun w => xorMax .u16 rfl _ w)
  · simp only [Option.some.injEq, Prod.mk.injEq] at h; obtain ⟨rfl, rfl⟩ := h
    have := hx.one_inv; cases this
    exact ok1 (.u32 _) (fun w => xorMax .u32 rfl _ w)
  · simp only [Option.some.injEq, Prod.mk.injEq] at h; obtain ⟨rfl, rfl⟩ := h
    have := hx.one_inv; cases this
    exact ok1 (.u64 _) (fun w => xorMax .u64 rfl _ w)
  · obtain ⟨g, rfl⟩ := w1_eq h
    have hq := ck_ok g in64B_ok hc
    have := hx.one_inv; cases this
    exact ok1 (.i64 _) (fun w => by simp only [Op.unary, Op.intArith, Sem.run_pure]; rw [wrap64_in hq])
  · cases h

/-! conversions of numbers -/

def toK (k : IntKind) : AC → Option AC
  | .u8 x => (match k with | .u8 => some (.u8 x) | .u16 => some (.u16 (x.setWidth 16)) | .u32 => some (.u32 (x.setWidth 32)) | .u64 => some (.u64 (x.setWidth 64)) | .i64 => some (.i64 x.toNat) | _ => none)
  | .u16 x => (match k with | .u8 => some (.u8 (x.setWidth 8)) | .u16 => some (.u16 x) | .u32 => some (.u32 (x.setWidth 32)) | .u64 => some (.u64 (x.setWidth 64)) | .i64 => some (.i64 x.toNat) | _ => none)
  | .u32 x => (match k with | .u8 => some (.u8 (x.setWidth 8)) | .u16 => some (.u16 (x.setWidth 16)) | .u32 => some (.u32 x) | .u64 => some (.u64 (x.setWidth 64)) | .i64 => some (.i64 x.toNat) | .i32 => some (.i32 x.toInt) | _ => none)
  | .u64 x => (match k with | .u8 => some (.u8 (x.setWidth 8)) | .u16 => some (.u16 (x.setWidth 16)) | .u32 => some (.u32 (x.setWidth 32)) | .u64 => some (.u64 x) | .i64 => some (.i64 x.toInt) | _ => none)
  | .i64 n => (match k with | .u8 => some (.u8 (BitVec.ofInt 8 n)) | .u16 => some (.u16 (BitVec.ofInt 16 n)) | .u32 => some (.u32 (BitVec.ofInt 32 n)) | .u64 => some (.u64 (BitVec.ofInt 64 n)) | .i32 => some (.i32 (BitVec.ofInt 32 n).toInt) | .i64 => some (.i64 (BitVec.ofInt 64 n).toInt) | _ => none)
  | .i32 n => (match k with | .u32 => some (.u32 (BitVec.ofInt 32 n)) | .u64 => some (.u64 (BitVec.ofInt 64 n)) | .i64 => some (.i64 (BitVec.ofInt 64 n).toInt) | _ => none)
  | _ => none

theorem wrap_i32 (n : Int) : IntKind.i32.wrap n = (BitVec.ofInt 32 n).toInt := by
  rw [BitVec.toInt_ofInt]
  unfold IntKind.wrap
  simp only [IntKind.bits, IntKind.signed, Bool.true_and]
  rw [Int.bmod_def]
  split <;> rename_i h1 <;> simp at h1 ⊢ <;> omega

theorem wrap_i64 (n : Int) : IntKind.i64.wrap n = (BitVec.ofInt 64 n).toInt := by
  rw [BitVec.toInt_ofInt]
  unfold IntKind.wrap
  simp only [IntKind.bits, IntKind.signed, Bool.true_and]
  rw [Int.bmod_def]
  split <;> rename_i h1 <;> simp at h1 ⊢ <;> omega

theorem wrapW (k : IntKind) (hk : k.signed = false) {n : Nat} (x : BitVec n) : k.wrap (x.toNat : Int) = ((x.setWidth k.bits).toNat : Int) := by
  rw [wrapU k hk, BitVec.ofInt_natCast, BitVec.ofNat_toNat]

theorem vrk {N : Nat} {k : IntKind} {a b : Int} {c : AC} (e : a = b) (h : VR X N p c (.int k b)) : VR X N p c (.int k a) := by rw [e]; exact h

theorem wrapS (k : IntKind) (hk : k.signed = false) (x : BitVec k.bits) : k.wrap (x.toNat : Int) = (x.toNat : Int) := by
  rw [wrapU k hk, ofInt_natCast]

theorem toInt32 (x : BitVec 32) : (BitVec.ofInt 32 (x.toNat : Int)).toInt = x.toInt := by rw [ofInt_natCast]

theorem toK_ok {N : Nat} {k : IntKind} {a c : AC} (h : toK k a = some c) {v : Value} (hv : VR X N p a v) : ∃ kk n, v = .int kk n ∧ VR X N p c (.int k (k.wrap n)) := by
  have small : ∀ {n : Nat} (x : BitVec n), n ≤ 32 → IntKind.i64.wrap (x.toNat : Int) = x.toNat := fun {n} x hn => wrap64_in (by
    have := x.isLt
    have h2 : 2 ^ n ≤ 2 ^ 32 := Nat.pow_le_pow_right (by decide) hn
    unfold in64
    omega)
  cases hv <;> first | cases h; done | skip
  · rename_i x
    refine ⟨_, _, rfl, ?_⟩
    cases k <;> simp only [toK, Option.some.injEq, reduceCtorEq] at h <;> subst h
    · rw [small x (by decide)]; exact .i64 _
    · exact vrk (wrapS .u8 rfl x) (.u8 _)
    · exact vrk (wrapW .u16 rfl x) (.u16 _)
    · exact vrk (wrapW .u32 rfl x) (.u32 _)
    · exact vrk (wrapW .u64 rfl x) (.u64 _)
  · rename_i x
    refine ⟨_, _, rfl, ?_⟩
    cases k <;> simp only [toK, Option.some.injEq, reduceCtorEq] at h <;> subst h
    · rw [small x (by decide)]; exact .i64 _
    · exact vrk (wrapW .u8 rfl x) (.u8 _)
    · exact vrk (wrapS .u16 rfl x) (.u16 _)
    · exact vrk (wrapW .u32 rfl x) (.u32 _)
    · exact vrk (wrapW .u64 rfl x) (.u64 _)
  · rename_i x
    refine ⟨_, _, rfl, ?_⟩
    cases k <;> simp only [toK, Option.some.injEq, reduceCtorEq] at h <;> subst h
    · rw [wrap_i32, toInt32]; exact .i32 _
    · rw [small x (by decide)]; exact .i64 _
    · exact vrk (wrapW .u8 rfl x) (.u8 _)
    · exact vrk (wrapW .u16 rfl x) (.u16 _)
    · exact vrk (wrapS .u32 rfl x) (.u32 _)
    · exact vrk (wrapW .u64 rfl x) (.u64 _)
  · rename_i x
    refine ⟨_, _, rfl, ?_⟩
    cases k <;> simp only [toK, Option.some.injEq, reduceCtorEq] at h <;> subst h
    · rw [wrap_toInt]; exact .i64 _
    · exact vrk (wrapW .u8 rfl x) (.u8 _)
    · exact vrk (wrapW .u16 rfl x) (.u16 _)
    · exact vrk (wrapW .u32 rfl x) (.u32 _)
    · exact vrk (wrapS .u64 rfl x) (.u64 _)
  · rename_i n
    refine ⟨_, _, rfl, ?_⟩
    cases k <;> simp only [toK, Option.some.injEq, reduceCtorEq] at h <;> subst h
    · rw [wrap_i32]; exact .i32 _
    · rw [wrap_i64]; exact .i64 _
    · exact vrk (wrapU .u8 rfl n) (.u8 _)
    · exact vrk (wrapU .u16 rfl n) (.u16 _)
    · exact vrk (wrapU .u32 rfl n) (.u32 _)
    · exact vrk (wrapU .u64 rfl n) (.u64 _)
  · rename_i n
    refine ⟨_, _, rfl, ?_⟩
    cases k <;> simp only [toK, Option.some.injEq, reduceCtorEq] at h <;> subst h
    · rw [wrap_i64]; exact .i64 _
    · exact vrk (wrapU .u32 rfl n) (.u32 _)
    · exact vrk (wrapU .u64 rfl n) (.u64 _)

def known (E : Env) (t : TypeId) : Bool := match (E.ti t).d with | .other => false | _ => true

theorem known_ok {P : Program} {E : Env} (hE : EnvOk P E) {t : TypeId} (h : known E t = true) : TyOk P t (E.ti t) := by
  unfold known at h
  split at h
  · cases h
  · rename_i hne; exact d_ok hE rfl hne

def evConv (E : Env) (src dst : TypeId) (x : AV) : RV :=
  if known E src then
    match (E.ti dst).d, x with
    | .int k, .one a => (match toK k a with | some c => some ([], .one c) | none => none)
    | _, _ => none
  else none

theorem evConv_ok {E : Env} (hE : EnvOk X.P E) {src dst : TypeId} {x : AV} {cs : List Prop} {v : AV} (h : evConv E src dst x = some (cs, v)) {vx : Value} (hx : VA X m.length p x vx) :
    G1 X p m wb (convert src dst vx) v := by
  unfold evConv at h
  split at h
  · rename_i hk
    obtain ⟨ds, hs, _⟩ := (known_ok hE hk).und
    split at h
    · rename_i k a hd
      obtain ⟨dd, hu, hdd⟩ := (d_ok hE hd (by simp)).und
      rw [hd] at hdd
      cases dd <;> simp only [tdOk] at hdd
      subst hdd
      split at h
      · rename_i c hc
        simp only [Option.some.injEq, Prod.mk.injEq] at h; obtain ⟨rfl, rfl⟩ := h
        obtain ⟨kk, n, rfl, hv⟩ := toK_ok hc hx.one_inv
        exact ok1 hv (fun w => by simp [convert, run_underlying hs, run_underlying hu, Conv.intToInt])
      · cases h
    · cases h
  · cases h
end
end DH

namespace DH
open Go

section
variable {X : Ctx} {p : Pl} {m : Mem} {wb : World}

/-- an array out of a slice -/
def evS2A (E : Env) (ty : TypeId) (x : AV) : RV :=
  match (E.ti ty).d with
  | .array n _ =>
    (match x with
    | .one (.sv b o l) => if Nat.ble 1 n then w1 (ck E.lit (Nat.ble n l) (n ≤ l)) (.ptr b o) else none
    | .one (.gs b l _) => if Nat.ble 1 n then w1 (ck E.lit (Nat.ble n l) (n ≤ l)) (.ptr b 0) else none
    | .one (.xs r o l) => if Nat.ble 1 n then w1 (ck E.lit (Nat.ble n l) (n ≤ l)) (.xp r o) else none
    | _ => none)
  | _ => none

theorem evS2A_ok {E : Env} (hE : EnvOk X.P E) {ty : TypeId} {x : AV} {cs : List Prop} {v : AV} (h : evS2A E ty x = some (cs, v)) (hc : AllC cs) {vx : Value} (hx : VA X m.length p x vx) :
    G1 X p m wb (Instr.arrayAt ty vx) v := by
  unfold evS2A at h
  split at h
  · rename_i n e hd
    have hu := und_arr (d_ok hE hd (by simp)) hd
    have hr : ∀ (a : Addr) (l c : Nat), n ≤ l → ∀ w, (Instr.arrayAt ty (.slice (some a) l c)).run X.P w = .ok (.pointer (some a)) w := fun a l c hl w => by
      have : ¬ l < n := by omega
      simp [Instr.arrayAt, run_underlying hu, this]
    split at h
    · split at h
      · rename_i b o l h1
        have h1 := Nat.le_of_ble_eq_true h1
        obtain ⟨g, rfl⟩ := w1_eq h
        have hq := ck_ok g Nat.le_of_ble_eq_true hc
        have hv := hx.one_inv
        cases hv with
        | sv _ _ _ c b' o' hcn hor =>
          obtain ⟨hlt, rfl, rfl⟩ := hor.resolve_left (by omega)
          exact ok1 (.ptr b _ hlt) (hr _ _ _ hq)
        | svn => omega
      · cases h
    · split at h
      · rename_i b l e h1
        have h1 := Nat.le_of_ble_eq_true h1
        obtain ⟨g, rfl⟩ := w1_eq h
        have hq := ck_ok g Nat.le_of_ble_eq_true hc
        have hv := hx.one_inv
        cases hv with
        | gs _ _ _ c hlt hcn hz => exact ok1 (.ptr b _ hlt) (hr _ _ _ hq)
        | gsn => omega
      · cases h
    · split at h
      · rename_i r o l h1
        have h1 := Nat.le_of_ble_eq_true h1
        obtain ⟨g, rfl⟩ := w1_eq h
        have hq := ck_ok g Nat.le_of_ble_eq_true hc
        have hv := hx.one_inv
        cases hv with
        | xs _ _ _ c b k' b' o' g' hbk hr' hv hcn =>
          obtain ⟨hbk2, rfl, rfl⟩ := hbk.resolve_left (by omega)
          exact ok1 (.xp r _ b' k' g' hbk2 (hr'.resolve_left (by omega)) hv) (hr _ _ _ hq)
        | xsn => omega
        | xs0 => omega
      · cases h
    · cases h
  · cases h

/-! slices of slices, arrays, strings -/

/-- a bound: none is d -/
def bnd (x : Option AV) (d : Nat) : Option Int :=
  match x with
  | none => some d
  | some (.one c) => ixI c
  | some _ => none

def ckSl (E : Env) (l h : Int) (n : Nat) : Option (List Prop) := ck E.lit (decide (0 ≤ l ∧ l ≤ h ∧ h ≤ n)) (0 ≤ l ∧ l ≤ h ∧ h ≤ n)

def evSlice (E : Env) (ty : TypeId) (x : AV) (lo hi : Option AV) : RV :=
  match (E.ti ty).d with
  | .array n e =>
    (match E.esz e, bnd lo 0, bnd hi n with
    | some s, some l, some h =>
      (match x with
      | .one (.ptr b o) => w1 (ckSl E l h n) (.sv b (o + l.toNat * s) (h.toNat - l.toNat))
      | .one (.xp r o) => w1 (ckSl E l h n) (.xs r (o + l.toNat * s) (h.toNat - l.toNat))
      | _ => none)
    | _, _, _ => none)
  | .slice e =>
    (match x with
    | .one (.sv b o n) => (match E.esz e, bnd lo 0, bnd hi n with | some s, some l, some h => w1 (ckSl E l h n) (.sv b (o + l.toNat * s) (h.toNat - l.toNat)) | _, _, _ => none)
    | .one (.gs b n _) => (match E.esz e, bnd lo 0, bnd hi n with | some s, some l, some h => w1 (ckSl E l h n) (.sv b (0 + l.toNat * s) (h.toNat - l.toNat)) | _, _, _ => none)
    | .one (.xs r o n) => (match E.esz e, bnd lo 0, bnd hi n with | some s, some l, some h => w1 (ckSl E l h n) (.xs r (o + l.toNat * s) (h.toNat - l.toNat)) | _, _, _ => none)
    | .one .ns => (match E.esz e, bnd lo 0, bnd hi 0 with | some _, some l, some h => w1 (ckSl E l h 0) .ns | _, _, _ => none)
    | _ => none)
  | .str =>
    (match x with
    | .one (.s a) => (match bnd lo 0, bnd hi a.length with | some l, some h => w1 (ckSl E l h a.length) (.s ((a.drop l.toNat).take (h.toNat - l.toNat))) | _, _ => none)
    | _ => none)
  | _ => none

/-- what a bound is in the machine -/
def bndV (X : Ctx) (N : Nat) (p : Pl) (x : Option AV) (v : Option Value) : Prop :=
  match x, v with
  | none, none => True
  | some a, some u => VA X N p a u
  | _, _ => False

theorem bnd_ok {N : Nat} {x : Option AV} {v : Option Value} {d : Nat} {i : Int} (h : bnd x d = some i) (hv : bndV X N p x v) : (v = none ∧ i = d) ∨ ∃ k, v = some (.int k i) := by
  unfold bnd at h
  split at h
  · injection h with h; subst h
    cases v with
    | none => exact .inl ⟨rfl, rfl⟩
    | some u => exact hv.elim
  · cases v with
    | none => exact hv.elim
    | some u =>
      obtain ⟨k, rfl⟩ := ixI_ok h (VA.one_inv hv)
      exact .inr ⟨k, rfl⟩
  · cases h

theorem run_bounds {P : Program} {isS : Bool} {len cap : Nat} {lo hi : Option Value} {l h : Int} (hlo : (lo = none ∧ l = (0 : Nat)) ∨ ∃ k, lo = some (.int k l)) (hhi : (hi = none ∧ h = len) ∨ ∃ k, hi = some (.int k h))
    (hb : 0 ≤ l ∧ l ≤ h ∧ h ≤ len) (hc : len ≤ cap) (w : World) : (Instr.sliceBounds isS len cap lo hi none).run P w = .ok (l.toNat, h.toNat, cap) w := by
  have h1 : 0 ≤ h ∧ h ≤ cap := ⟨by omega, by omega⟩
  have h2 : 0 ≤ l ∧ l ≤ h.toNat := ⟨by omega, by omega⟩
  rcases hlo with ⟨rfl, rfl⟩ | ⟨k, rfl⟩ <;> rcases hhi with ⟨rfl, rfl⟩ | ⟨k', rfl⟩
  · simp [Instr.sliceBounds]
  · simp [Instr.sliceBounds, Instr.sliceBound, asIntOf, h1]
  · have h3 : 0 ≤ l ∧ l ≤ (len : Int) := ⟨by omega, by omega⟩
    simp [Instr.sliceBounds, Instr.sliceBound, asIntOf, h3]
  · have h4 : ¬ (max h 0 < l) := by omega
    simp [Instr.sliceBounds, Instr.sliceBound, asIntOf, h1, h2, h4]

theorem run_slArr {P : Program} {t e : TypeId} {n s : Nat} (hu : P.underlying t = some (.array n e)) (he : ∀ w, (Go.sizeOf e).run P w = .ok s w) {lo hi : Option Value} {l h : Int}
    (hlo : (lo = none ∧ l = (0 : Nat)) ∨ ∃ k, lo = some (.int k l)) (hhi : (hi = none ∧ h = n) ∨ ∃ k, hi = some (.int k h)) (hb : 0 ≤ l ∧ l ≤ h ∧ h ≤ n) (b o : Nat) (w : World) :
    (Instr.sliceAt t (.pointer (some ⟨b, o, none⟩)) lo hi none).run P w = .ok (.slice (some ⟨b, if n = l.toNat then o else o + l.toNat * s, none⟩) (h.toNat - l.toNat) (n - l.toNat)) w := by
  have h1 := fun w => run_bounds (P := P) (isS := false) hlo hhi hb (Nat.le_refl _) w
  simp only [Instr.sliceAt, Sem.run_bind, run_underlying hu, Result.andThen_ok, Instr.sureAddr, Sem.run_pure, h1, he]
  by_cases hm : n = l.toNat
  · rw [if_pos hm, if_pos hm]
  · rw [if_neg hm, if_neg hm, Addr.add_lit]

theorem run_slSl {P : Program} {t e : TypeId} {n c s : Nat} (hu : P.underlying t = some (.slice e)) (he : ∀ w, (Go.sizeOf e).run P w = .ok s w) {lo hi : Option Value} {l h : Int}
    (hlo : (lo = none ∧ l = (0 : Nat)) ∨ ∃ k, lo = some (.int k l)) (hhi : (hi = none ∧ h = n) ∨ ∃ k, hi = some (.int k h)) (hb : 0 ≤ l ∧ l ≤ h ∧ h ≤ n) (hc : n ≤ c) (b o : Nat) (w : World) :
    (Instr.sliceAt t (.slice (some ⟨b, o, none⟩) n c) lo hi none).run P w = .ok (.slice (some ⟨b, if c = l.toNat then o else o + l.toNat * s, none⟩) (h.toNat - l.toNat) (c - l.toNat)) w := by
  have h1 := fun w => run_bounds (P := P) (isS := true) hlo hhi hb hc w
  simp only [Instr.sliceAt, Instr.slice, Sem.run_bind, run_underlying hu, Result.andThen_ok, Sem.run_pure, h1, he]
  by_cases hm : c = l.toNat
  · rw [if_pos hm, if_pos hm]
  · rw [if_neg hm, if_neg hm, Option.map_some, Addr.add_lit]

theorem run_sl0 {P : Program} {t e : TypeId} {s : Nat} (hu : P.underlying t = some (.slice e)) (he : ∀ w, (Go.sizeOf e).run P w = .ok s w) {lo hi : Option Value} {l h : Int}
    (hlo : (lo = none ∧ l = (0 : Nat)) ∨ ∃ k, lo = some (.int k l)) (hhi : (hi = none ∧ h = (0 : Nat)) ∨ ∃ k, hi = some (.int k h)) (hb : 0 ≤ l ∧ l ≤ h ∧ h ≤ (0 : Nat)) (c : Nat) (a : Addr) (w : World) :
    (Instr.sliceAt t (.slice (some a) 0 c) lo hi none).run P w = .ok (.slice (some a) 0 c) w := by
  have h1 := fun w => run_bounds (P := P) (isS := true) (len := 0) hlo hhi hb (Nat.zero_le c) w
  have h0 : l.toNat = 0 := by omega
  have h2 : h.toNat = 0 := by omega
  simp only [Instr.sliceAt, Instr.slice, Sem.run_bind, run_underlying hu, Result.andThen_ok, Sem.run_pure, h1, he, h0, h2]
  by_cases hm : c = 0
  · rw [if_pos hm]; subst hm; rfl
  · rw [if_neg hm, Option.map_some, Nat.zero_mul]; rfl

theorem run_slNil {P : Program} {t e : TypeId} {s : Nat} (hu : P.underlying t = some (.slice e)) (he : ∀ w, (Go.sizeOf e).run P w = .ok s w) {lo hi : Option Value} {l h : Int}
    (hlo : (lo = none ∧ l = (0 : Nat)) ∨ ∃ k, lo = some (.int k l)) (hhi : (hi = none ∧ h = (0 : Nat)) ∨ ∃ k, hi = some (.int k h)) (hb : 0 ≤ l ∧ l ≤ h ∧ h ≤ (0 : Nat)) (w : World) :
    (Instr.sliceAt t (.slice none 0 0) lo hi none).run P w = .ok (.slice none 0 0) w := by
  have h1 := fun w => run_bounds (P := P) (isS := true) (len := 0) hlo hhi hb (Nat.le_refl _) w
  have h0 : l.toNat = 0 := by omega
  have h2 : h.toNat = 0 := by omega
  simp only [Instr.sliceAt, Instr.slice, Sem.run_bind, run_underlying hu, Result.andThen_ok, Sem.run_pure, h1, he, h0, h2]
  rfl

theorem extract_bytes (s : ByteArray) (l h : Nat) : (s.extract l h).data.toList.map UInt8.toBitVec = ((s.data.toList.map UInt8.toBitVec).drop l).take (h - l) := by
  rw [ByteArray.data_extract, Array.toList_extract]
  simp [List.extract, List.map_take, List.map_drop]

theorem ckSl_ok {E : Env} {l h : Int} {n : Nat} {cs : List Prop} (hk : ckSl E l h n = some cs) (hc : AllC cs) : 0 ≤ l ∧ l ≤ h ∧ h ≤ n := ck_ok hk (fun h => of_decide_eq_true h) hc

theorem evSlice_ok {E : Env} (hE : EnvOk X.P E) {ty : TypeId} {x : AV} {lo hi : Option AV} {cs : List Prop} {v : AV} (h : evSlice E ty x lo hi = some (cs, v)) (hc : AllC cs) {vx : Value} {vl vh : Option Value}
    (hx : VA X m.length p x vx) (hl : bndV X m.length p lo vl) (hh : bndV X m.length p hi vh) : G1 X p m wb (Instr.sliceAt ty vx vl vh none) v := by
  unfold evSlice at h
  split at h
  · rename_i n e hd
    have hu := und_arr (d_ok hE hd (by simp)) hd
    split at h
    · rename_i s l hh' hs hbl hbh
      obtain ⟨he, hsz, h1⟩ := esz_ok hE hs
      have hrun : ∀ w, (Go.sizeOf e).run X.P w = .ok s w := fun w => by rw [hsz]; exact he.szrun w
      have hlo := bnd_ok hbl hl
      have hhi := bnd_ok hbh hh
      split at h
      · rename_i b o
        obtain ⟨g, rfl⟩ := w1_eq h
        have hq := ckSl_ok g hc
        obtain ⟨hlt, rfl⟩ := hx.one_inv.ptr_inv
        exact ok1 (.sv _ _ _ _ _ _ (by omega) (by split <;> first | exact .inl (by omega) | exact .inr ⟨hlt, rfl, rfl⟩)) (run_slArr hu hrun hlo hhi hq _ _)
      · rename_i r o
        obtain ⟨g, rfl⟩ := w1_eq h
        have hq := ckSl_ok g hc
        have hv := hx.one_inv
        cases hv with
        | xp _ _ b k' g' hbk hr hv =>
          exact ok1 (.xs _ _ _ _ b k' _ _ g' (by split <;> first | exact .inl (by omega) | exact .inr ⟨hbk, rfl, by omega⟩) (.inr hr) hv (by omega)) (run_slArr hu hrun hlo hhi hq _ _)
      · cases h
    · cases h
  · rename_i e hd
    have hu := und_slice (d_ok hE hd (by simp)) hd
    split at h
    · rename_i b o n
      split at h
      · rename_i s l hh' hs hbl hbh
        obtain ⟨he, hsz, h1⟩ := esz_ok hE hs
        have hrun : ∀ w, (Go.sizeOf e).run X.P w = .ok s w := fun w => by rw [hsz]; exact he.szrun w
        have hlo := bnd_ok hbl hl
        have hhi := bnd_ok hbh hh
        obtain ⟨g, rfl⟩ := w1_eq h
        have hq := ckSl_ok g hc
        have hv := hx.one_inv
        cases hv with
        | sv _ _ _ c b' o' hcn hor =>
          exact ok1 (.sv _ _ _ _ _ _ (by omega) (by
            rcases hor with h0 | ⟨hlt, rfl, rfl⟩
            · exact .inl (by omega)
            · split <;> first | exact .inl (by omega) | exact .inr ⟨hlt, rfl, rfl⟩)) (run_slSl hu hrun hlo hhi hq hcn _ _)
        | svn =>
          have e : hh'.toNat - l.toNat = 0 := by omega
          rw [e]
          exact ok1 (.svn _ _) (run_slNil hu hrun hlo hhi hq)
      · cases h
    · rename_i b n e'
      split at h
      · rename_i s l hh' hs hbl hbh
        obtain ⟨he, hsz, h1⟩ := esz_ok hE hs
        have hrun : ∀ w, (Go.sizeOf e).run X.P w = .ok s w := fun w => by rw [hsz]; exact he.szrun w
        have hlo := bnd_ok hbl hl
        have hhi := bnd_ok hbh hh
        obtain ⟨g, rfl⟩ := w1_eq h
        have hq := ckSl_ok g hc
        have hv := hx.one_inv
        cases hv with
        | gs _ _ _ c hlt hcn hz =>
          exact ok1 (.sv _ _ _ _ _ _ (by omega) (by split <;> first | exact .inl (by omega) | exact .inr ⟨hlt, rfl, rfl⟩)) (run_slSl hu hrun hlo hhi hq hcn _ _)
        | gsn =>
          have e : hh'.toNat - l.toNat = 0 := by omega
          rw [e]
          exact ok1 (.svn _ _) (run_slNil hu hrun hlo hhi hq)
      · cases h
    · rename_i r o n
      split at h
      · rename_i s l hh' hs hbl hbh
        obtain ⟨he, hsz, h1⟩ := esz_ok hE hs
        have hrun : ∀ w, (Go.sizeOf e).run X.P w = .ok s w := fun w => by rw [hsz]; exact he.szrun w
        have hlo := bnd_ok hbl hl
        have hhi := bnd_ok hbh hh
        obtain ⟨g, rfl⟩ := w1_eq h
        have hq := ckSl_ok g hc
        have hv := hx.one_inv
        cases hv with
        | xs _ _ _ c b k' b' o' g' hbk hr hv hcn =>
          exact ok1 (.xs _ _ _ _ b k' _ _ g' (by
            rcases hbk with h0 | ⟨hbk, rfl, rfl⟩
            · exact .inl (by omega)
            · split <;> first | exact .inl (by omega) | exact .inr ⟨hbk, rfl, by omega⟩) (by
            rcases hr with h0 | hr
            · exact .inl (by omega)
            · exact .inr hr) hv (by omega)) (run_slSl hu hrun hlo hhi hq hcn _ _)
        | xsn =>
          have e : hh'.toNat - l.toNat = 0 := by omega
          rw [e]
          exact ok1 (.xsn _ _) (run_slNil hu hrun hlo hhi hq)
        | xs0 _ _ c a =>
          have e : hh'.toNat - l.toNat = 0 := by omega
          rw [e]
          exact ok1 (.xs0 _ _ c a) (run_sl0 hu hrun hlo hhi hq c a)
      · cases h
    · split at h
      · rename_i s l hh' hs hbl hbh
        obtain ⟨he, hsz, h1⟩ := esz_ok hE hs
        have hrun : ∀ w, (Go.sizeOf e).run X.P w = .ok s w := fun w => by rw [hsz]; exact he.szrun w
        have hlo := bnd_ok hbl hl
        have hhi := bnd_ok hbh hh
        obtain ⟨g, rfl⟩ := w1_eq h
        have hq := ckSl_ok g hc
        have hv := hx.one_inv
        cases hv
        exact ok1 .ns (run_slNil hu hrun hlo hhi hq)
      · cases h
    · cases h
  · rename_i hd
    obtain ⟨d, hu, hd'⟩ := (d_ok hE hd (by simp)).und
    rw [hd] at hd'
    cases d <;> simp only [tdOk] at hd'
    split at h
    · rename_i a
      split at h
      · rename_i l hh' hbl hbh
        have hlo := bnd_ok hbl hl
        have hhi := bnd_ok hbh hh
        obtain ⟨g, rfl⟩ := w1_eq h
        have hq := ckSl_ok g hc
        have hv := hx.one_inv
        cases hv with
        | s _ s hs =>
          have hlen : s.size = a.length := by rw [← hs]; simp
          rw [← hlen] at hhi hq
          have hb := fun w => run_bounds (P := X.P) (isS := false) hlo hhi hq (Nat.le_refl _) w
          refine ok1 (u := .string (s.extract l.toNat hh'.toNat)) (.s _ _ (by rw [extract_bytes, hs])) (fun w => ?_)
          simp only [Instr.sliceAt, Instr.slice, Sem.run_bind, run_underlying hu, Result.andThen_ok, Option.isSome_none, Bool.false_eq_true, if_false, Sem.run_pure, hb]
      · cases h
    · cases h
  · cases h
/-! x[l:h:h] of an array: a slice that has no room behind it -/
theorem run_slArrM {P : Program} {t e : TypeId} {n s : Nat} (hu : P.underlying t = some (.array n e)) (he : ∀ w, (Go.sizeOf e).run P w = .ok s w) {lo : Option Value} {l h : Int} {k k' : IntKind}
    (hlo : (lo = none ∧ l = (0 : Nat)) ∨ ∃ k, lo = some (.int k l)) (hb : 0 ≤ l ∧ l ≤ h ∧ h ≤ n) (b o : Nat) (w : World) :
    (Instr.sliceAt t (.pointer (some ⟨b, o, none⟩)) lo (some (.int k h)) (some (.int k' h))).run P w = .ok (.slice (some ⟨b, if h.toNat = l.toNat then o else o + l.toNat * s, none⟩) (h.toNat - l.toNat) (h.toNat - l.toNat)) w := by
  have h1 : 0 ≤ h ∧ h ≤ n := ⟨by omega, by omega⟩
  have h2 : 0 ≤ h ∧ h ≤ h.toNat := ⟨by omega, by omega⟩
  have h3 : 0 ≤ l ∧ l ≤ h.toNat := ⟨by omega, by omega⟩
  have hbd : ∀ w, (Instr.sliceBounds false n n lo (some (.int k h)) (some (.int k' h))).run P w = .ok (l.toNat, h.toNat, h.toNat) w := by
    intro w
    have q1 : (Instr.sliceBound (.int k' h) n .slice3Alen).run P w = .ok h.toNat w := by
      simp only [Instr.sliceBound, asIntOf, Sem.run_bind, Sem.run_pure, Result.andThen_ok, if_pos h1]
    have q2 : (Instr.sliceBound (.int k h) h.toNat .slice3B).run P w = .ok h.toNat w := by
      simp only [Instr.sliceBound, asIntOf, Sem.run_bind, Sem.run_pure, Result.andThen_ok, if_pos h2]
    rcases hlo with ⟨rfl, rfl⟩ | ⟨k2, rfl⟩
    · simp [Instr.sliceBounds, q1, q2]
    · have q3 : (Instr.sliceBound (.int k2 l) h.toNat .slice3C).run P w = .ok l.toNat w := by
        simp only [Instr.sliceBound, asIntOf, Sem.run_bind, Sem.run_pure, Result.andThen_ok, if_pos h3]
      simp [Instr.sliceBounds, q1, q2, q3]
  simp only [Instr.sliceAt, Sem.run_bind, run_underlying hu, Result.andThen_ok, Instr.sureAddr, Sem.run_pure, hbd, he]
  by_cases hm : h.toNat = l.toNat
  · rw [if_pos hm, if_pos hm]
  · rw [if_neg hm, if_neg hm, Addr.add_lit]
def evSliceM (E : Env) (ty : TypeId) (x : AV) (lo : Option AV) (hi mx : AV) : RV :=
  match (E.ti ty).d with
  | .array n e =>
    (match E.esz e, bnd lo 0, hi, mx with
    | some s, some l, .one hc, .one mc => (match ixI hc, ixI mc, x with
      | some h, some k, .one (.ptr b o) => w1 (ck E.lit (decide (0 ≤ l ∧ l ≤ h ∧ h ≤ n ∧ h = k)) (0 ≤ l ∧ l ≤ h ∧ h ≤ n ∧ h = k)) (.sc b (o + l.toNat * s) (h.toNat - l.toNat))
      | _, _, _ => none)
    | _, _, _, _ => none)
  | _ => none
theorem evSliceM_ok {E : Env} (hE : EnvOk X.P E) {ty : TypeId} {x : AV} {lo : Option AV} {hi mx : AV} {cs : List Prop} {v : AV} (h : evSliceM E ty x lo hi mx = some (cs, v)) (hc : AllC cs) {vx : Value} {vl : Option Value} {vh vm : Value}
    (hx : VA X m.length p x vx) (hl : bndV X m.length p lo vl) (hh : VA X m.length p hi vh) (hm : VA X m.length p mx vm) : G1 X p m wb (Instr.sliceAt ty vx vl (some vh) (some vm)) v := by
  unfold evSliceM at h
  split at h
  · rename_i n e hd
    have hu := und_arr (d_ok hE hd (by simp)) hd
    split at h
    · rename_i s l hcc mc hs hbl
      obtain ⟨he, hsz, h1⟩ := esz_ok hE hs
      have hrun : ∀ w, (Go.sizeOf e).run X.P w = .ok s w := fun w => by rw [hsz]; exact he.szrun w
      have hlo := bnd_ok hbl hl
      split at h
      · rename_i hv kv b o q1 q2
        obtain ⟨k1, rfl⟩ := ixI_ok q1 hh.one_inv
        obtain ⟨k2, rfl⟩ := ixI_ok q2 hm.one_inv
        obtain ⟨g, rfl⟩ := w1_eq h
        have hq : 0 ≤ l ∧ l ≤ hv ∧ hv ≤ n ∧ hv = kv := ck_ok g (fun h => of_decide_eq_true h) hc
        obtain ⟨q3, q4, q5, rfl⟩ := hq
        obtain ⟨hlt, rfl⟩ := hx.one_inv.ptr_inv
        exact ok1 (.sc _ _ _ _ _ (by split <;> first | exact .inl (by omega) | exact .inr ⟨hlt, rfl, rfl⟩)) (run_slArrM hu hrun hlo ⟨q3, q4, q5⟩ _ _)
      · cases h
    · cases h
  · cases h
end
end DH
