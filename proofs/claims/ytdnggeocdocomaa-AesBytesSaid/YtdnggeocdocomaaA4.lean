/- The layer: abstract values, operations on them, and that the machine follows. -/
import Derived.Test.YtdnggeocdocomaaA31
set_option linter.unusedVariables false
set_option linter.unusedSimpArgs false
namespace DH
open Go

/-! What is known of types. -/

inductive TD where
  | bool | int (k : IntKind) | str | flt | ptr (e : TypeId) | slice (e : TypeId) | array (n : Nat) (e : TypeId)
  | struct (fs : List (Nat × TypeId)) | fn | other

structure TI where
  d : TD
  sz : Nat
  bytes : Nat
  zero : List AC
  agg : Bool
  /-- may two be compared cell by cell? -/
  eq : Bool

def TI.none : TI := ⟨.other, 0, 0, [], false, false⟩

inductive EK where
  | bool | int (k : IntKind) | str
  deriving DecidableEq

def ekOf : AC → Option EK
  | .u8 _ => some (.int .u8)
  | .u16 _ => some (.int .u16)
  | .u32 _ => some (.int .u32)
  | .u64 _ => some (.int .u64)
  | .i64 _ => some (.int .i64)
  | .b _ => some .bool
  | .s _ => some .str
  | _ => none

def kindsF (P : Program) (K : TypeId → Option (List EK)) : List Field → Nat → Option (List EK)
  | [], _ => some []
  | f :: fs, o =>
    match K f.type, kindsF P K fs (o + P.cellsOf f.type) with
    | some ks, some rest => if f.offset = o ∧ ks.length = P.cellsOf f.type then some (ks ++ rest) else none
    | _, _ => none

def kindsT (P : Program) : Nat → TypeId → Option (List EK)
  | 0, _ => none
  | d + 1, t =>
    match P.underlying t with
    | some .bool => some [.bool]
    | some (.int k) => some [.int k]
    | some .string => some [.str]
    | some (.array n e) =>
      match kindsT P d e with
      | some ks => if ks.length = P.cellsOf e ∧ n * ks.length = P.cellsOf t then some (List.replicate n ks).flatten else none
      | none => none
    | some (.struct fs) =>
      match kindsF P (kindsT P d) fs.toList 0 with
      | some ks => if ks.length = P.cellsOf t ∧ fs.all (·.name != "_") = true then some ks else none
      | none => none
    | _ => none

def tdOk : TD → TypeDesc → Prop
  | .bool, .bool => True
  | .int k, .int k' => k' = k
  | .str, .string => True
  | .flt, .float .f64 => True
  | .ptr e, .pointer e' => e' = e
  | .slice e, .slice e' => e' = e
  | .array n e, .array n' e' => n' = n ∧ e' = e
  | .struct fs, .struct gs => fs.length = gs.size ∧ ∀ (i o : Nat) (ty : TypeId), fs[i]? = some (o, ty) → ∃ g : Field, gs[i]? = some g ∧ g.offset = o ∧ g.type = ty
  | .fn, .func _ _ _ => True
  | _, _ => False

structure TyOk (P : Program) (t : TypeId) (ti : TI) : Prop where
  und : ∃ d, P.underlying t = some d ∧ tdOk ti.d d
  info : ∃ i, P.info? t = some i ∧ i.size = ti.sz ∧ i.bytes = ti.bytes ∧ ∃ z, i.zero = some z ∧ ∀ (X : Ctx) (N : Nat) (p : Pl), VL X N p ti.zero z.cells.toList
  agg : ti.agg = (match ti.d with | .array _ _ => true | .struct _ => true | _ => false)
  parts : ∀ d, P.underlying t = some d → (∀ gs, d = .struct gs → ∀ g ∈ gs.toList, (P.info? g.type).isSome = true) ∧ (∀ n e, d = .array n e → (P.info? e).isSome = true)
  eq : ti.eq = true → (kindsT P 40 t).map (List.map some) = some (ti.zero.map ekOf) ∧ P.keyTypeAt 40 t = true ∧ P.eqGuardType P.depth t = false

/-- how a part of memory is cut out: nil slices that are to be rows (slot, 0: as one from outside, e + 1: as one of our own with elements of e cells); which blocks, in order, hold no names -/
structure CS where
  kinds : List (Nat × Nat)
  fl : List Bool
  /-- slots whose values hold no names -/
  fv : List Nat := []
  /-- cells of a row that a slot points to: (slot, cell, kind) -/
  cells : List (Nat × Nat × Nat) := []

/-- of a call: its arguments' cut, and which blocks hold no names behind it -/
structure MF where
  cs : CS
  flo : List Bool
  /-- does the result hold no names? -/
  rf : Bool := false

structure Env where
  ty : List TI
  /-- are variables of this type read and written without laying their row out? -/
  sym : TypeId → Bool
  /-- are all sizes and indexes numbers that can be reckoned? -/
  lit : Bool
  /-- what calls give that only compute -/
  call : FuncId → List AV → Option (List Prop × AV)
  /-- slots whose Bool is taken to be this, on the path in hand -/
  asm : List (Nat × Bool)
  /-- calls that turn memory: how their memory is cut out -/
  memf : FuncId → Option MF
  /-- what such calls do -/
  callM : FuncId → List AV → List (Option (List AC)) → Option (List Prop × AV × List (Option (List AC)))

def Env.ti (E : Env) (t : TypeId) : TI := gt TI.none E.ty t

def EnvOk (P : Program) (E : Env) : Prop := ∀ (t : TypeId) (ti : TI), E.ty[t]? = some ti → (match ti.d with | .other => True | _ => TyOk P t ti)

theorem EnvOk.ti {P : Program} {E : Env} (h : EnvOk P E) (t : TypeId) : (match (E.ti t).d with | .other => True | _ => TyOk P t (E.ti t)) := by
  unfold Env.ti
  rw [gt_eq]
  rcases Nat.lt_or_ge t E.ty.length with hn | hn
  · have h1 : E.ty[t]? = some E.ty[t] := List.getElem?_eq_getElem hn
    have := h t _ h1
    simpa [h1] using this
  · rw [List.getElem?_eq_none hn]
    simp [TI.none]

/-! Values that stand in the text. -/

def cvC : Value → AC
  | .int .u8 n => if decide (0 ≤ n ∧ n < 256) then .u8 (BitVec.ofInt 8 n) else .any
  | .int .u16 n => if decide (0 ≤ n ∧ n < 65536) then .u16 (BitVec.ofInt 16 n) else .any
  | .int .u32 n => if decide (0 ≤ n ∧ n < 4294967296) then .u32 (BitVec.ofInt 32 n) else .any
  | .int .u64 n => if decide (0 ≤ n ∧ n < 18446744073709551616) then .u64 (BitVec.ofInt 64 n) else .any
  | .int .i64 n => .i64 n
  | .int .i32 n => .i32 n
  | .bool b => .b b
  | .pointer none => .np
  | .slice none 0 0 => .ns
  | .string s => .s (s.data.toList.map UInt8.toBitVec)
  | .float .f64 b => .f b
  | .nilFunc => .nf
  | _ => .any

def cv : Value → AV
  | .agg cs => if cs.toList.all Value.oneCell' then .agg (cs.toList.map cvC) else .any
  | .tuple _ => .any
  | v => .one (cvC v)

theorem ofInt_toNat (n : Nat) (z : Int) (h0 : 0 ≤ z) (h1 : z < 2 ^ n) : ((BitVec.ofInt n z).toNat : Int) = z := by
  rw [BitVec.toNat_ofInt]
  have : z % (2 ^ n : Int) = z := Int.emod_eq_of_lt h0 h1
  have h2 : ((2 ^ n : Nat) : Int) = (2 : Int) ^ n := by simp
  rw [h2, this]
  omega

theorem cvC_ok (X : Ctx) (N : Nat) (p : Pl) (v : Value) (h : v.oneCell' = true) : VR X N p (cvC v) v := by
  unfold cvC
  split
  · split
    · rename_i n hc
      have hc := of_decide_eq_true hc
      have := ofInt_toNat 8 n hc.1 hc.2
      conv => rhs; rw [← this]
      exact .u8 _
    · exact .any _ rfl
  · split
    · rename_i n hc
      have hc := of_decide_eq_true hc
      have := ofInt_toNat 16 n hc.1 hc.2
      conv => rhs; rw [← this]
      exact .u16 _
    · exact .any _ rfl
  · split
    · rename_i n hc
      have hc := of_decide_eq_true hc
      have := ofInt_toNat 32 n hc.1 hc.2
      conv => rhs; rw [← this]
      exact .u32 _
    · exact .any _ rfl
  · split
    · rename_i n hc
      have hc := of_decide_eq_true hc
      have := ofInt_toNat 64 n hc.1 hc.2
      conv => rhs; rw [← this]
      exact .u64 _
    · exact .any _ rfl
  · exact .i64 _
  · exact .i32 _
  · exact .b _
  · exact .np
  · exact .ns
  · exact .s _ _ rfl
  · exact .f _
  · exact .nf
  · exact .any _ h

theorem cv_ok (X : Ctx) (N : Nat) (p : Pl) (v : Value) : VA X N p (cv v) v := by
  unfold cv
  split
  · rename_i cs
    split
    · rename_i h
      have := VA.agg (X := X) (N := N) (p := p) (cs.toList.map cvC) cs.toList ⟨by simp, fun j c u h1 h2 => by
        rw [List.getElem?_map, h2] at h1
        injection h1 with h1
        subst h1
        exact cvC_ok X N p u (List.all_eq_true.1 h u (List.mem_of_getElem? h2))⟩
      simpa using this
    · exact .any _
  · exact .any _
  · rename_i h1 h2
    exact .one _ _ (cvC_ok X N p v (by cases v <;> first | rfl | exact absurd rfl (h1 _) | exact absurd rfl (h2 _)))

def getO (t : List AV) : Operand → AV
  | .tmp n => gt .any t n
  | .const v => cv v
  | .func f => .one (.fn f [])
  | .global _ => .any

theorem getO_ok {X : Ctx} {N : Nat} {p : Pl} {t : List AV} {a : Act} (h : SR X N p t a.tmps) (x : Operand) : VA X N p (getO t x) (a.eval x) := by
  cases x with
  | tmp n => exact h.get n
  | const v => exact cv_ok X N p v
  | func f => exact .one _ _ (.fn f [] (fun _ => undef) (by simp))
  | global g => exact .any _

/-! Numbers -/

abbrev Res := Option (List Prop × AC)

def AllC : List Prop → Prop
  | [] => True
  | c :: cs => c ∧ AllC cs

def evU {n : Nat} (mk : BitVec n → AC) (op : BinOp) (a b : BitVec n) : Res :=
  match op with
  | .add => some ([], mk (a + b))
  | .sub => some ([], mk (a - b))
  | .mul => some ([], mk (a * b))
  | .quo => some ([b ≠ 0], mk (a / b))
  | .rem => some ([b ≠ 0], mk (a % b))
  | .and => some ([], mk (a &&& b))
  | .or => some ([], mk (a ||| b))
  | .xor => some ([], mk (a ^^^ b))
  | .andNot => some ([], mk (a &&& ~~~b))
  | .eql => some ([], .b (decide (a = b)))
  | .neq => some ([], .b (!decide (a = b)))
  | .lss => some ([], .b (decide (a < b)))
  | .leq => some ([], .b (decide (a ≤ b)))
  | .gtr => some ([], .b (decide (b < a)))
  | .geq => some ([], .b (decide (b ≤ a)))
  | .shl | .shr => none

/-- an operation that has one value wherever it is carried out -/
def Gives (P : Program) (s : Sem Value) (u : Value) : Prop := ∀ w, s.run P w = .ok u w

theorem wrapU (k : IntKind) (hk : k.signed = false) (z : Int) : k.wrap z = ((BitVec.ofInt k.bits z).toNat : Int) := by
  rw [BitVec.toNat_ofInt]
  unfold IntKind.wrap
  simp only [hk, Bool.false_and, Bool.false_eq_true, if_false]
  have h2 : ((2 ^ k.bits : Nat) : Int) = (2 : Int) ^ k.bits := by simp
  rw [h2]
  have : (0 : Int) < 2 ^ k.bits := Int.pow_pos (by decide)
  have := Int.emod_nonneg z (b := 2 ^ k.bits) (by omega)
  omega

theorem ofInt_natCast {n : Nat} (x : BitVec n) : BitVec.ofInt n (x.toNat : Int) = x := by
  apply BitVec.eq_of_toNat_eq
  simp

theorem cast_inj {n : Nat} (x y : BitVec n) : ((x.toNat : Int) = (y.toNat : Int)) ↔ x = y :=
  ⟨fun h => BitVec.eq_of_toNat_eq (by omega), fun h => by rw [h]⟩

theorem evU_ok {P : Program} {X : Ctx} {N : Nat} {p : Pl} (k : IntKind) (hk : k.signed = false) (mk : BitVec k.bits → AC) (hm : ∀ z, VR X N p (mk z) (.int k z.toNat)) {op : BinOp} {x y : BitVec k.bits}
    {cs : List Prop} {c : AC} (h : evU mk op x y = some (cs, c)) (hc : AllC cs) (ty : TypeId) :
    ∃ u, Gives P (binOp op ty (.int k x.toNat) (.int k y.toNat)) u ∧ VR X N p c u := by
  have key : ∀ z : BitVec k.bits, ∀ s : Sem Value, s = pure (.int k (z.toNat : Int)) → ∃ u, Gives P s u ∧ VR X N p (mk z) u :=
    fun z s hs => ⟨_, fun w => by rw [hs]; rfl, hm z⟩
  have keyb : ∀ (z : Bool) (s : Sem Value), s = pure (.bool z) → ∃ u, Gives P s u ∧ VR X N p (.b z) u :=
    fun z s hs => ⟨_, fun w => by rw [hs]; rfl, .b z⟩
  have hpos : ((2 ^ k.bits : Nat) : Int) = (2 : Int) ^ k.bits := by simp
  cases op <;> simp only [evU, Option.some.injEq, Prod.mk.injEq, reduceCtorEq] at h
  case add =>
    obtain ⟨rfl, rfl⟩ := h
    refine key _ _ ?_
    rw [binOp_add]
    simp only [Op.intArith]
    rw [wrapU k hk, BitVec.ofInt_add, ofInt_natCast, ofInt_natCast]
  case sub =>
    obtain ⟨rfl, rfl⟩ := h
    refine key _ _ ?_
    rw [binOp_sub]
    simp only [Op.intArith]
    rw [wrapU k hk, Int.sub_eq_add_neg, BitVec.ofInt_add, BitVec.ofInt_neg, ofInt_natCast, ofInt_natCast, BitVec.sub_eq_add_neg]
  case mul =>
    obtain ⟨rfl, rfl⟩ := h
    refine key _ _ ?_
    rw [binOp_mul]
    simp only [Op.intArith]
    rw [wrapU k hk, BitVec.ofInt_mul, ofInt_natCast, ofInt_natCast]
  case quo =>
    obtain ⟨rfl, rfl⟩ := h
    have hy : y.toNat ≠ 0 := fun h0 => hc.1 (BitVec.eq_of_toNat_eq (by simpa using h0))
    refine key _ _ ?_
    rw [binOp_quo]
    simp only [Op.intDiv]
    rw [if_neg (by omega), ← Int.ofNat_tdiv, wrapU k hk, BitVec.ofInt_natCast]
    congr 3
    rw [BitVec.toNat_ofNat, BitVec.toNat_udiv]
    exact Nat.mod_eq_of_lt (Nat.lt_of_le_of_lt (Nat.div_le_self _ _) x.isLt)
  case rem =>
    obtain ⟨rfl, rfl⟩ := h
    have hy : y.toNat ≠ 0 := fun h0 => hc.1 (BitVec.eq_of_toNat_eq (by simpa using h0))
    refine key _ _ ?_
    rw [binOp_rem]
    simp only [Op.intDiv]
    rw [if_neg (by omega), ← Int.ofNat_tmod, BitVec.toNat_umod]
  case and =>
    obtain ⟨rfl, rfl⟩ := h
    refine key _ _ ?_
    rw [binOp_and]
    simp only [Op.intBits]
    rw [wrapU k hk, ofInt_natCast, ofInt_natCast, ofInt_natCast]
  case or =>
    obtain ⟨rfl, rfl⟩ := h
    refine key _ _ ?_
    rw [binOp_or]
    simp only [Op.intBits]
    rw [wrapU k hk, ofInt_natCast, ofInt_natCast, ofInt_natCast]
  case xor =>
    obtain ⟨rfl, rfl⟩ := h
    refine key _ _ ?_
    rw [binOp_xor]
    simp only [Op.intBits]
    rw [wrapU k hk, ofInt_natCast, ofInt_natCast, ofInt_natCast]
  case andNot =>
    obtain ⟨rfl, rfl⟩ := h
    refine key _ _ ?_
    rw [binOp_andNot]
    simp only [Op.intBits]
    rw [wrapU k hk, ofInt_natCast, ofInt_natCast, ofInt_natCast]
  case eql =>
    obtain ⟨rfl, rfl⟩ := h
    refine keyb _ _ ?_
    rw [binOp_eql]
    congr 2
    rw [Bool.eq_iff_iff]
    simp [cast_inj]
  case neq =>
    obtain ⟨rfl, rfl⟩ := h
    refine keyb _ _ ?_
    rw [binOp_neq]
    congr 2
    rw [Bool.eq_iff_iff]
    simp [cast_inj]
  case lss =>
    obtain ⟨rfl, rfl⟩ := h
    refine keyb _ _ ?_
    rw [binOp_lss]
    simp [BitVec.lt_def]
  case leq =>
    obtain ⟨rfl, rfl⟩ := h
    refine keyb _ _ ?_
    rw [binOp_leq]
    simp [BitVec.le_def]
  case gtr =>
    obtain ⟨rfl, rfl⟩ := h
    refine keyb _ _ ?_
    rw [binOp_gtr]
    simp [BitVec.lt_def]
  case geq =>
    obtain ⟨rfl, rfl⟩ := h
    refine keyb _ _ ?_
    rw [binOp_geq]
    simp [BitVec.le_def]

def in64 (n : Int) : Prop := -9223372036854775808 ≤ n ∧ n < 9223372036854775808

def bits64 (op : BinOp) (a b : Int) : Int :=
  let x := BitVec.ofInt 64 a
  let y := BitVec.ofInt 64 b
  (match op with
  | .and => x &&& y
  | .or => x ||| y
  | .xor => x ^^^ y
  | _ => x &&& ~~~y).toInt

def in64B (n : Int) : Bool := decide (-9223372036854775808 ≤ n ∧ n < 9223372036854775808)

/-- what is asked: reckoned at once, or told -/
def ck (lit : Bool) (b : Bool) (q : Prop) : Option (List Prop) :=
  match lit with
  | true => if b then some [] else none
  | false => some [q]

theorem ck_ok {lit b : Bool} {q : Prop} {cs : List Prop} (h : ck lit b q = some cs) (hb : b = true → q) (hc : AllC cs) : q := by
  unfold ck at h
  split at h
  · split at h
    · rename_i h1; exact hb h1
    · cases h
  · injection h with h; subst h; exact hc.1

def wC (c : Option (List Prop)) (v : AC) : Res :=
  match c with
  | some c => some (c, v)
  | none => none

theorem wC_eq {c : Option (List Prop)} {v d : AC} {cs : List Prop} (h : wC c v = some (cs, d)) : c = some cs ∧ v = d := by
  unfold wC at h
  split at h
  · simp only [Option.some.injEq, Prod.mk.injEq] at h; obtain ⟨rfl, rfl⟩ := h; exact ⟨rfl, rfl⟩
  · cases h

def evI (lit : Bool) (op : BinOp) (a b : Int) : Res :=
  match op with
  | .add => wC (ck lit (in64B (a + b)) (in64 (a + b))) (.i64 (a + b))
  | .sub => wC (ck lit (in64B (a - b)) (in64 (a - b))) (.i64 (a - b))
  | .mul => wC (ck lit (in64B (a * b)) (in64 (a * b))) (.i64 (a * b))
  | .quo => wC (ck lit (decide (b ≠ 0) && in64B (a.tdiv b)) (b ≠ 0 ∧ in64 (a.tdiv b))) (.i64 (a.tdiv b))
  | .rem => wC (ck lit (decide (b ≠ 0)) (b ≠ 0)) (.i64 (a.tmod b))
  | .and => some ([], .i64 (bits64 .and a b))
  | .or => some ([], .i64 (bits64 .or a b))
  | .xor => some ([], .i64 (bits64 .xor a b))
  | .andNot => some ([], .i64 (bits64 .andNot a b))
  | .eql => some ([], .b (decide (a = b)))
  | .neq => some ([], .b (!decide (a = b)))
  | .lss => some ([], .b (decide (a < b)))
  | .leq => some ([], .b (decide (a ≤ b)))
  | .gtr => some ([], .b (decide (b < a)))
  | .geq => some ([], .b (decide (b ≤ a)))
  | .shl | .shr => none

def evI32 (op : BinOp) (a b : Int) : Res :=
  match op with
  | .eql => some ([], .b (decide (a = b)))
  | .neq => some ([], .b (!decide (a = b)))
  | .lss => some ([], .b (decide (a < b)))
  | .leq => some ([], .b (decide (a ≤ b)))
  | .gtr => some ([], .b (decide (b < a)))
  | .geq => some ([], .b (decide (b ≤ a)))
  | _ => none

theorem in64B_ok {n : Int} (h : in64B n = true) : in64 n := by unfold in64B at h; have := of_decide_eq_true h; exact this

theorem wrap64_in {n : Int} (h : in64 n) : IntKind.i64.wrap n = n := by
  unfold in64 at h
  unfold IntKind.wrap
  simp only [IntKind.bits, IntKind.signed, Bool.true_and]
  split <;> rename_i h1 <;> simp at h1 <;> omega

theorem wrap_toInt (x : BitVec 64) : IntKind.i64.wrap (x.toNat : Int) = x.toInt := by
  have := x.isLt
  rw [BitVec.toInt_eq_toNat_cond]
  unfold IntKind.wrap
  simp only [IntKind.bits, IntKind.signed, Bool.true_and]
  split <;> rename_i h1 <;> simp at h1 <;> split <;> omega

theorem evI_ok {P : Program} {X : Ctx} {N : Nat} {p : Pl} {lit : Bool} {op : BinOp} {x y : Int} {cs : List Prop} {c : AC} (h : evI lit op x y = some (cs, c)) (hc : AllC cs) (ty : TypeId) :
    ∃ u, Gives P (binOp op ty (.int .i64 x) (.int .i64 y)) u ∧ VR X N p c u := by
  have key : ∀ z : Int, ∀ s : Sem Value, s = pure (.int .i64 z) → ∃ u, Gives P s u ∧ VR X N p (.i64 z) u :=
    fun z s hs => ⟨_, fun w => by rw [hs]; rfl, .i64 z⟩
  have keyb : ∀ (z : Bool) (s : Sem Value), s = pure (.bool z) → ∃ u, Gives P s u ∧ VR X N p (.b z) u :=
    fun z s hs => ⟨_, fun w => by rw [hs]; rfl, .b z⟩
  cases op <;> simp only [evI, Option.some.injEq, Prod.mk.injEq, reduceCtorEq] at h
  case add =>
    obtain ⟨g, rfl⟩ := wC_eq h
    have hq := ck_ok g in64B_ok hc
    refine key _ _ ?_
    rw [binOp_add]; simp only [Op.intArith]; rw [wrap64_in hq]
  case sub =>
    obtain ⟨g, rfl⟩ := wC_eq h
    have hq := ck_ok g in64B_ok hc
    refine key _ _ ?_
    rw [binOp_sub]; simp only [Op.intArith]; rw [wrap64_in hq]
  case mul =>
    obtain ⟨g, rfl⟩ := wC_eq h
    have hq := ck_ok g in64B_ok hc
    refine key _ _ ?_
    rw [binOp_mul]; simp only [Op.intArith]; rw [wrap64_in hq]
  case quo =>
    obtain ⟨g, rfl⟩ := wC_eq h
    have hq := ck_ok g (fun h => by rw [Bool.and_eq_true] at h; exact ⟨of_decide_eq_true h.1, in64B_ok h.2⟩) hc
    refine key _ _ ?_
    rw [binOp_quo]; simp only [Op.intDiv]; rw [if_neg hq.1, wrap64_in hq.2]
  case rem =>
    obtain ⟨g, rfl⟩ := wC_eq h
    have hq := ck_ok g of_decide_eq_true hc
    refine key _ _ ?_
    rw [binOp_rem]; simp only [Op.intDiv]; rw [if_neg hq]
  case and =>
    obtain ⟨rfl, rfl⟩ := h
    refine key _ _ ?_
    rw [binOp_and]; simp only [Op.intBits]; exact congrArg (fun z => (pure (.int .i64 z) : Sem Value)) (wrap_toInt _)
  case or =>
    obtain ⟨rfl, rfl⟩ := h
    refine key _ _ ?_
    rw [binOp_or]; simp only [Op.intBits]; exact congrArg (fun z => (pure (.int .i64 z) : Sem Value)) (wrap_toInt _)
  case xor =>
    obtain ⟨rfl, rfl⟩ := h
    refine key _ _ ?_
    rw [binOp_xor]; simp only [Op.intBits]; exact congrArg (fun z => (pure (.int .i64 z) : Sem Value)) (wrap_toInt _)
  case andNot =>
    obtain ⟨rfl, rfl⟩ := h
    refine key _ _ ?_
    rw [binOp_andNot]; simp only [Op.intBits]; exact congrArg (fun z => (pure (.int .i64 z) : Sem Value)) (wrap_toInt _)
  case eql => obtain ⟨rfl, rfl⟩ := h; refine keyb _ _ ?_; rw [binOp_eql]; congr 2
  case neq => obtain ⟨rfl, rfl⟩ := h; refine keyb _ _ ?_; rw [binOp_neq]; congr 2
  case lss => obtain ⟨rfl, rfl⟩ := h; refine keyb _ _ ?_; rw [binOp_lss]
  case leq => obtain ⟨rfl, rfl⟩ := h; refine keyb _ _ ?_; rw [binOp_leq]
  case gtr => obtain ⟨rfl, rfl⟩ := h; refine keyb _ _ ?_; rw [binOp_gtr]
  case geq => obtain ⟨rfl, rfl⟩ := h; refine keyb _ _ ?_; rw [binOp_geq]

theorem evI32_ok {P : Program} {X : Ctx} {N : Nat} {p : Pl} {op : BinOp} {x y : Int} {cs : List Prop} {c : AC} (h : evI32 op x y = some (cs, c)) (hc : AllC cs) (ty : TypeId) :
    ∃ u, Gives P (binOp op ty (.int .i32 x) (.int .i32 y)) u ∧ VR X N p c u := by
  have keyb : ∀ (z : Bool) (s : Sem Value), s = pure (.bool z) → ∃ u, Gives P s u ∧ VR X N p (.b z) u :=
    fun z s hs => ⟨_, fun w => by rw [hs]; rfl, .b z⟩
  cases op <;> simp only [evI32, Option.some.injEq, Prod.mk.injEq, reduceCtorEq] at h
  case eql => obtain ⟨rfl, rfl⟩ := h; refine keyb _ _ ?_; rw [binOp_eql]; congr 2
  case neq => obtain ⟨rfl, rfl⟩ := h; refine keyb _ _ ?_; rw [binOp_neq]; congr 2
  case lss => obtain ⟨rfl, rfl⟩ := h; refine keyb _ _ ?_; rw [binOp_lss]
  case leq => obtain ⟨rfl, rfl⟩ := h; refine keyb _ _ ?_; rw [binOp_leq]
  case gtr => obtain ⟨rfl, rfl⟩ := h; refine keyb _ _ ?_; rw [binOp_gtr]
  case geq => obtain ⟨rfl, rfl⟩ := h; refine keyb _ _ ?_; rw [binOp_geq]

def evSh (op : BinOp) (x : AC) (c : List Prop) (k : Nat) : Res :=
  match op, x with
  | .shl, .u8 a => some (c, .u8 (a <<< k))
  | .shl, .u16 a => some (c, .u16 (a <<< k))
  | .shl, .u32 a => some (c, .u32 (a <<< k))
  | .shl, .u64 a => some (c, .u64 (a <<< k))
  | .shr, .u8 a => some (c, .u8 (a >>> k))
  | .shr, .u16 a => some (c, .u16 (a >>> k))
  | .shr, .u32 a => some (c, .u32 (a >>> k))
  | .shr, .u64 a => some (c, .u64 (a >>> k))
  | .shl, .i64 a => some (in64 (a * 2 ^ (min k 64)) :: c, .i64 (a * 2 ^ (min k 64)))
  | .shr, .i64 a => some (c, .i64 (a / 2 ^ (min k 64)))
  | _, _ => none

def evShY (op : BinOp) (x y : AC) : Res :=
  match y with
  | .u8 b => evSh op x [] b.toNat
  | .u32 b => evSh op x [] b.toNat
  | .u64 b => evSh op x [] b.toNat
  | .i64 n => evSh op x [0 ≤ n] n.toNat
  | _ => none

def evB (op : BinOp) (a c : Bool) : Res :=
  match op with
  | .eql => some ([], .b (a == c))
  | .neq => some ([], .b (a != c))
  | _ => none

def evS (op : BinOp) (a c : List (BitVec 8)) : Res :=
  match op with
  | .eql => some ([], .b (decide (a = c)))
  | .neq => some ([], .b (!decide (a = c)))
  | _ => none

def evNum (lit : Bool) (op : BinOp) (x y : AC) : Res :=
  match x, y with
  | .u8 a, .u8 b => evU .u8 op a b
  | .u16 a, .u16 b => evU .u16 op a b
  | .u32 a, .u32 b => evU .u32 op a b
  | .u64 a, .u64 b => evU .u64 op a b
  | .i64 a, .i64 b => evI lit op a b
  | .i32 a, .i32 b => evI32 op a b
  | .b a, .b c => evB op a c
  | .s a, .s c => evS op a c
  | _, _ => none

def evBin (lit : Bool) (op : BinOp) (x y : AC) : Res :=
  match op with
  | .shl | .shr => evShY op x y
  | _ => evNum lit op x y

theorem shlU (k : IntKind) (hk : k.signed = false) (x : BitVec k.bits) (n : Nat) : k.wrap ((x.toNat : Int) * 2 ^ (min n k.bits)) = ((x <<< n).toNat : Int) := by
  rw [wrapU k hk, BitVec.toNat_ofInt, BitVec.toNat_shiftLeft, Nat.shiftLeft_eq]
  have h1 : ((x.toNat : Int) * 2 ^ (min n k.bits)) % ((2 ^ k.bits : Nat) : Int) = ((x.toNat * 2 ^ (min n k.bits) % 2 ^ k.bits : Nat) : Int) := by push_cast; rfl
  rw [h1]
  simp only [Int.toNat_natCast]
  congr 1
  rcases Nat.le_total n k.bits with h | h
  · rw [Nat.min_eq_left h]
  · rw [Nat.min_eq_right h]
    obtain ⟨d, rfl⟩ : ∃ d, n = k.bits + d := ⟨n - k.bits, by omega⟩
    rw [Nat.pow_add, ← Nat.mul_assoc, Nat.mul_mod_left, Nat.mul_right_comm, Nat.mul_mod_left]

theorem shrU {n : Nat} (x : BitVec n) (k : Nat) : ((x.toNat : Int).fdiv (2 ^ (min k n))) = ((x >>> k).toNat : Int) := by
  rw [BitVec.toNat_ushiftRight, Nat.shiftRight_eq_div_pow]
  have h1 : ((x.toNat : Int).fdiv (2 ^ (min k n))) = ((x.toNat / 2 ^ (min k n) : Nat) : Int) := by
    rw [show ((2 : Int) ^ (min k n)) = ((2 ^ (min k n) : Nat) : Int) by simp, ← Int.ofNat_fdiv]
  rw [h1]
  congr 1
  rcases Nat.le_total k n with h | h
  · rw [Nat.min_eq_left h]
  · rw [Nat.min_eq_right h, Nat.div_eq_of_lt x.isLt, Nat.div_eq_of_lt (Nat.lt_of_lt_of_le x.isLt (Nat.pow_le_pow_right (by decide) h))]

theorem evSh_ok {P : Program} {X : Ctx} {N : Nat} {p : Pl} {op : BinOp} {x : AC} {v : Value} {cs0 cs : List Prop} {c : AC} {k : Nat} (h : evSh op x cs0 k = some (cs, c)) (hc : AllC cs)
    (hx : VR X N p x v) (yk : IntKind) (y : Int) (hy : y = k) (ty : TypeId) : ∃ u, Gives P (binOp op ty v (.int yk y)) u ∧ VR X N p c u := by
  subst hy
  have h0 : ¬ ((k : Int) < 0) := by omega
  have hs : ∀ {kk : IntKind} {z : Int} {r : Int} {cc : AC}, (op = .shl ∧ r = kk.wrap (z * 2 ^ (min k kk.bits)) ∨ op = .shr ∧ r = z.fdiv (2 ^ (min k kk.bits))) → VR X N p cc (.int kk r) →
      ∃ u, Gives P (binOp op ty (.int kk z) (.int yk k)) u ∧ VR X N p cc u := by
    intro kk z r cc h hv
    rcases h with ⟨rfl, rfl⟩ | ⟨rfl, rfl⟩
    · exact ⟨_, fun w => by rw [binOp_shl]; simp only [Op.shift, if_neg h0, Int.toNat_natCast]; rfl, hv⟩
    · exact ⟨_, fun w => by rw [binOp_shr]; simp only [Op.shift, if_neg h0, Int.toNat_natCast]; rfl, hv⟩
  cases op <;> cases x <;> simp only [evSh, Option.some.injEq, Prod.mk.injEq, reduceCtorEq] at h <;> obtain ⟨rfl, rfl⟩ := h <;> cases hx
  · rename_i x; exact hs (.inl ⟨rfl, rfl⟩) (by have e := shlU .u8 rfl x k; exact e ▸ .u8 _)
  · rename_i x; exact hs (.inl ⟨rfl, rfl⟩) (by have e := shlU .u16 rfl x k; exact e ▸ .u16 _)
  · rename_i x; exact hs (.inl ⟨rfl, rfl⟩) (by have e := shlU .u32 rfl x k; exact e ▸ .u32 _)
  · rename_i x; exact hs (.inl ⟨rfl, rfl⟩) (by have e := shlU .u64 rfl x k; exact e ▸ .u64 _)
  · exact hs (.inl ⟨rfl, rfl⟩) (by rw [show min k (IntKind.bits .i64) = min k 64 from rfl, wrap64_in hc.1]; exact .i64 _)
  · rename_i x; exact hs (.inr ⟨rfl, rfl⟩) (by have e := shrU (n := 8) x k; exact e ▸ .u8 _)
  · rename_i x; exact hs (.inr ⟨rfl, rfl⟩) (by have e := shrU (n := 16) x k; exact e ▸ .u16 _)
  · rename_i x; exact hs (.inr ⟨rfl, rfl⟩) (by have e := shrU (n := 32) x k; exact e ▸ .u32 _)
  · rename_i x; exact hs (.inr ⟨rfl, rfl⟩) (by have e := shrU (n := 64) x k; exact e ▸ .u64 _)
  · exact hs (.inr ⟨rfl, rfl⟩) (by rw [show min k (IntKind.bits .i64) = min k 64 from rfl, Int.fdiv_eq_ediv_of_nonneg _ (by exact Int.le_of_lt (Int.pow_pos (by decide)))]; exact .i64 _)

theorem bytes_inj {s t : ByteArray} : s.data.toList.map UInt8.toBitVec = t.data.toList.map UInt8.toBitVec ↔ s.toList = t.toList := by
  rw [ByteArray.toList_eq, ByteArray.toList_eq]
  constructor
  · intro h
    have : ∀ l m : List UInt8, l.map UInt8.toBitVec = m.map UInt8.toBitVec → l = m := by
      intro l
      induction l with
      | nil => intro m h; cases m with | nil => rfl | cons => simp at h
      | cons x l ih =>
        intro m h
        cases m with
        | nil => simp at h
        | cons y m => simp only [List.map_cons, List.cons.injEq] at h; rw [UInt8.toBitVec_inj.1 h.1, ih m h.2]
    exact this _ _ h
  · intro h; rw [h]

theorem evShY_ok {P : Program} {X : Ctx} {N : Nat} {p : Pl} {op : BinOp} {x y : AC} {v z : Value} {cs : List Prop} {c : AC} (h : evShY op x y = some (cs, c)) (hc : AllC cs)
    (hx : VR X N p x v) (hy : VR X N p y z) (ty : TypeId) : ∃ u, Gives P (binOp op ty v z) u ∧ VR X N p c u := by
  unfold evShY at h
  cases hy <;> simp only [reduceCtorEq] at h
  · exact evSh_ok h hc hx _ _ rfl ty
  · exact evSh_ok h hc hx _ _ rfl ty
  · exact evSh_ok h hc hx _ _ rfl ty
  · rename_i n
    have hn : 0 ≤ n := by
      have : ∃ cs', cs = cs' ++ [0 ≤ n] := by
        cases op <;> cases x <;> simp only [evSh, Option.some.injEq, Prod.mk.injEq, reduceCtorEq] at h <;> obtain ⟨rfl, rfl⟩ := h <;> first | exact ⟨[], rfl⟩ | exact ⟨[_], rfl⟩
      obtain ⟨cs', rfl⟩ := this
      have hall : ∀ (l : List Prop) (q : Prop), AllC (l ++ [q]) → q := by
        intro l q
        induction l with
        | nil => exact fun h => h.1
        | cons a l ih => exact fun h => ih h.2
      exact hall _ _ hc
    exact evSh_ok h hc hx _ _ (by omega) ty

theorem equalIn_bool {P : Program} {ty : TypeId} (hu : P.underlying ty = some .bool) (d : Nat) (a c : Bool) (w : World) : (Op.equalIn (d + 1) ty (.bool a) (.bool c)).run P w = .ok (a == c) w := by
  simp [Op.equalIn, run_underlying hu]

theorem equal_bool {P : Program} {ty : TypeId} (hu : P.underlying ty = some .bool) (a c : Bool) (w : World) : (Op.equal ty (.bool a) (.bool c)).run P w = .ok (a == c) w := equalIn_bool hu 9999 a c w

theorem beq_dec (a b : List UInt8) : (a == b) = decide (a = b) := by rw [Bool.eq_iff_iff]; simp

theorem bne_not (a c : Bool) : (!(a == c)) = (a != c) := rfl

theorem evNum_ok {P : Program} {X : Ctx} {N : Nat} {p : Pl} {lit : Bool} {op : BinOp} {x y : AC} {v z : Value} {cs : List Prop} {c : AC} (h : evNum lit op x y = some (cs, c)) (hc : AllC cs)
    (hx : VR X N p x v) (hy : VR X N p y z) (ty : TypeId) (hb : ∀ a, x = .b a → P.underlying ty = some .bool) : ∃ u, Gives P (binOp op ty v z) u ∧ VR X N p c u := by
  unfold evNum at h
  split at h
  · cases hx; cases hy; exact evU_ok .u8 rfl AC.u8 (fun z => .u8 z) h hc ty
  · cases hx; cases hy; exact evU_ok .u16 rfl AC.u16 (fun z => .u16 z) h hc ty
  · cases hx; cases hy; exact evU_ok .u32 rfl AC.u32 (fun z => .u32 z) h hc ty
  · cases hx; cases hy; exact evU_ok .u64 rfl AC.u64 (fun z => .u64 z) h hc ty
  · cases hx; cases hy; exact evI_ok h hc ty
  · cases hx; cases hy; exact evI32_ok h hc ty
  · cases hx; cases hy
    have hb := hb _ rfl
    unfold evB at h
    split at h
    · simp only [Option.some.injEq, Prod.mk.injEq] at h; obtain ⟨rfl, rfl⟩ := h
      refine ⟨_, fun w => ?_, .b _⟩
      simp [binOp, equal_bool hb]
    · simp only [Option.some.injEq, Prod.mk.injEq] at h; obtain ⟨rfl, rfl⟩ := h
      refine ⟨_, fun w => ?_, .b _⟩
      simp only [binOp, Sem.run_bind, equal_bool hb, Result.andThen_ok, Sem.run_pure, bne_not]
    · cases h
  · cases hx; rename_i hx; cases hy; rename_i hy
    unfold evS at h
    split at h
    · simp only [Option.some.injEq, Prod.mk.injEq] at h; obtain ⟨rfl, rfl⟩ := h
      refine ⟨.bool _, fun w => ?_, .b _⟩
      simp only [binOp, Op.stringOp]
      rw [← hx, ← hy]
      simp only [bytes_inj, Sem.run_pure, beq_dec]
    · simp only [Option.some.injEq, Prod.mk.injEq] at h; obtain ⟨rfl, rfl⟩ := h
      refine ⟨.bool _, fun w => ?_, .b _⟩
      simp only [binOp, Op.stringOp]
      rw [← hx, ← hy]
      simp only [bytes_inj, Sem.run_pure, beq_dec]
    · cases h
  · cases h

theorem evBin_ok {P : Program} {X : Ctx} {N : Nat} {p : Pl} {lit : Bool} {op : BinOp} {x y : AC} {v z : Value} {cs : List Prop} {c : AC} (h : evBin lit op x y = some (cs, c)) (hc : AllC cs)
    (hx : VR X N p x v) (hy : VR X N p y z) (ty : TypeId) (hb : ∀ a, x = .b a → P.underlying ty = some .bool) : ∃ u, Gives P (binOp op ty v z) u ∧ VR X N p c u := by
  cases op <;> first | exact evShY_ok h hc hx hy ty | exact evNum_ok h hc hx hy ty hb
end DH
