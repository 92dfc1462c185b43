/- The layer: abstract values, operations on them, and that the machine follows. -/
import Derived.Test.YtdnggeocdocomaaA7
set_option linter.unusedVariables false
set_option linter.unusedSimpArgs false
namespace DH
open Go

section
variable {X : Ctx} {p : Pl} {m : Mem} {wb : World}

/-- an operation that has one value, in the worlds that hold the tracked memory as wb does -/
def E1 (X : Ctx) (p : Pl) (m : Mem) (wb : World) (s : Sem Next) (v : AV) : Prop :=
  ∃ u, VA X m.length p v u ∧ ∀ w, MRw X p m wb w → s.run X.P w = .ok (.value u) w

theorem E1.of_G1 {s : Sem Value} {v : AV} (h : G1 X p m wb s v) : E1 X p m wb (do pure (.value (← s))) v := by
  obtain ⟨u, h1, h2⟩ := h
  exact ⟨u, h1, fun w hw => by rw [Sem.run_bind, h2 w hw]; rfl⟩

theorem E1.pure {u : Value} {v : AV} (h : VA X m.length p v u) : E1 X p m wb (Pure.pure (.value u)) v := ⟨u, h, fun _ _ => rfl⟩

/-! pick, nilCheck -/

def evPick (c a b : AV) : RV :=
  match c with
  | .one (.b c) => (match c with | true => some ([], a) | false => some ([], b))
  | _ => none

def evNilCheck (x : AV) : RV :=
  match x with
  | .one (.ptr i o) => some ([], .one (.ptr i o))
  | .one (.xp r o) => some ([], .one (.xp r o))
  | _ => none

/-! numbers, and what is equal -/

def bOk (E : Env) (ty : TypeId) (a : AC) : Bool :=
  match a with
  | .b _ => (match (E.ti ty).d with | .bool => true | _ => false)
  | _ => true

def isNil (E : Env) (ty : TypeId) (a b : AC) : Option Bool :=
  match (E.ti ty).d with
  | .ptr _ =>
    (match a, b with
    | .ptr _ _, .np => some false
    | .xp _ _, .np => some false
    | .np, .ptr _ _ => some false
    | .np, .xp _ _ => some false
    | .np, .np => some true
    | _, _ => none)
  | .slice _ =>
    (match a, b with
    | .ns, .ns => some true
    | _, _ => none)
  | _ => none

def evCmp (E : Env) (ty : TypeId) (op : BinOp) (a b : AC) : RV :=
  match isNil E ty a b with
  | some r =>
    (match op with
    | .eql => some ([], .one (.b r))
    | .neq => some ([], .one (.b (!r)))
    | _ => none)
  | none => none

noncomputable def evAggEq (E : Env) (ty : TypeId) (op : BinOp) (cs ds : List AC) : RV :=
  match (E.ti ty).d with
  | .other => none
  | _ =>
    if (E.ti ty).eq && (E.ti ty).agg then
      (match ck E.lit (fitBs (E.ti ty).zero cs && fitBs (E.ti ty).zero ds) (fitCs (E.ti ty).zero cs ∧ fitCs (E.ti ty).zero ds) with
      | some c =>
        (match op with
        | .eql => some (c, .one (.b (sameCells cs ds)))
        | .neq => some (c, .one (.b (!sameCells cs ds)))
        | _ => none)
      | none => none)
    else none

noncomputable def evBinOp (E : Env) (ty : TypeId) (op : BinOp) (x y : AV) : RV :=
  match x, y with
  | .one a, .one b =>
    if bOk E ty a then
      (match evBin E.lit op a b with
      | some (cs, c) => some (cs, .one c)
      | none => evCmp E ty op a b)
    else none
  | .agg cs, .agg ds => evAggEq E ty op cs ds
  | _, _ => none

theorem eqGuard_ok {P : Program} {op : BinOp} {t : TypeId} {x y : Operand} {u v : Value} (h1 : ∀ c, u ≠ .agg c) (h2 : u ≠ .nilIface) (w : World) : (eqGuard op t x y u v).run P w = .ok () w := by
  cases u <;> first
    | exact absurd rfl h2
    | exact absurd rfl (h1 _)
    | (simp only [eqGuard_at_bool, eqGuard_at_int, eqGuard_at_float, eqGuard_at_complex, eqGuard_at_string, eqGuard_at_pointer, eqGuard_at_slice, eqGuard_at_map, eqGuard_at_chan, eqGuard_at_func, eqGuard_at_nilFunc, eqGuard_at_iface, eqGuard_at_tuple, Sem.run_pure]; done)

theorem evBin_plain {lit : Bool} {op : BinOp} {a b : AC} {cs : List Prop} {c : AC} (h : evBin lit op a b = some (cs, c)) {N : Nat} {u : Value} (hu : VR X N p a u) : (∀ c, u ≠ .agg c) ∧ u ≠ .nilIface := by
  cases hu
  case any => exfalso; cases op <;> cases b <;> simp [evBin, evShY, evSh, evNum] at h
  all_goals exact ⟨fun _ h => (by cases h), fun h => (by cases h)⟩

theorem equal_nil {E : Env} (hE : EnvOk X.P E) {ty : TypeId} {a b : AC} {r : Bool} (h : isNil E ty a b = some r) {N : Nat} {u v : Value} (hu : VR X N p a u) (hv : VR X N p b v) (w : World) :
    (Op.equal ty u v).run X.P w = .ok r w ∧ (∀ c, u ≠ .agg c) ∧ u ≠ .nilIface ∧ (∀ op, op = .eql ∨ op = .neq → binOp op ty u v = (if op = .eql then do pure (.bool (← Op.equal ty u v)) else do pure (.bool (!(← Op.equal ty u v))))) := by
  unfold isNil at h
  split at h
  · rename_i e hd
    have ht := d_ok hE hd (by simp)
    obtain ⟨d, hu', hd'⟩ := ht.und
    rw [hd] at hd'
    cases d <;> simp only [tdOk] at hd'
    have key0 : ∀ (d : Nat) (x y : Option Addr), (x = none ∨ y = none) → (Op.equalIn (d + 1) ty (.pointer x) (.pointer y)).run X.P w = .ok (x.isNone && y.isNone) w := by
      intro d x y hxy
      cases x <;> cases y <;> simp [Op.equalIn, run_underlying hu'] at hxy ⊢
    have key := key0 9999
    split at h <;> simp only [Option.some.injEq, reduceCtorEq] at h <;> subst h <;> cases hu <;> cases hv
    · exact ⟨key _ _ (.inr rfl), by simp, by simp, by rintro op (rfl | rfl) <;> rfl⟩
    · exact ⟨key _ _ (.inr rfl), by simp, by simp, by rintro op (rfl | rfl) <;> rfl⟩
    · exact ⟨key _ _ (.inl rfl), by simp, by simp, by rintro op (rfl | rfl) <;> rfl⟩
    · exact ⟨key _ _ (.inl rfl), by simp, by simp, by rintro op (rfl | rfl) <;> rfl⟩
    · exact ⟨key _ _ (.inl rfl), by simp, by simp, by rintro op (rfl | rfl) <;> rfl⟩
  · rename_i e hd
    have ht := d_ok hE hd (by simp)
    have hu' := und_slice ht hd
    have key0 : ∀ (d : Nat) (x : Option Addr) (n c : Nat), (Op.equalIn (d + 1) ty (.slice x n c) (.slice none 0 0)).run X.P w = .ok (x.isNone) w := by
      intro d x n c
      cases x <;> simp [Op.equalIn, run_underlying hu']
    have key := key0 9999
    split at h <;> simp only [Option.some.injEq, reduceCtorEq] at h <;> subst h <;> cases hu <;> cases hv
    · exact ⟨key _ _ _, by simp, by simp, by rintro op (rfl | rfl) <;> rfl⟩
  · cases h

theorem evBinOp_ok {E : Env} (hE : EnvOk X.P E) {ty : TypeId} {op : BinOp} {x y : AV} {cs : List Prop} {v : AV} (h : evBinOp E ty op x y = some (cs, v)) (hc : AllC cs) (ox oy : Operand) {vx vy : Value}
    (hx : VA X m.length p x vx) (hy : VA X m.length p y vy) : G1 X p m wb (do eqGuard op ty ox oy vx vy; binOp op ty vx vy) v := by
  unfold evBinOp at h
  split at h
  · rename_i a b
    split at h
    · rename_i hb
      split at h
      · rename_i cs' c hev
        simp only [Option.some.injEq, Prod.mk.injEq] at h; obtain ⟨rfl, rfl⟩ := h
        have hbool : ∀ q, a = .b q → X.P.underlying ty = some .bool := by
          rintro q rfl
          simp only [bOk] at hb
          split at hb
          · rename_i hd
            obtain ⟨d, hu, hd'⟩ := (d_ok hE hd (by simp)).und
            rw [hd] at hd'
            cases d <;> simp only [tdOk] at hd'
            exact hu
          · cases hb
        obtain ⟨u, h1, h2⟩ := evBin_ok (P := X.P) hev hc hx.one_inv hy.one_inv ty hbool
        obtain ⟨g1, g2⟩ := evBin_plain hev hx.one_inv
        exact ⟨u, .one _ _ h2, fun w _ => by rw [Sem.run_bind, eqGuard_ok g1 g2]; exact h1 w⟩
      · unfold evCmp at h
        split at h
        · rename_i r hn
          have key := fun w => equal_nil hE hn hx.one_inv hy.one_inv w
          split at h
          · simp only [Option.some.injEq, Prod.mk.injEq] at h; obtain ⟨rfl, rfl⟩ := h
            refine ⟨.bool r, .one _ _ (.b _), fun w _ => ?_⟩
            obtain ⟨k1, k2, k3, k4⟩ := key w
            rw [Sem.run_bind, eqGuard_ok k2 k3, Result.andThen_ok, k4 _ (.inl rfl), if_pos rfl, Sem.run_bind, k1]
            rfl
          · simp only [Option.some.injEq, Prod.mk.injEq] at h; obtain ⟨rfl, rfl⟩ := h
            refine ⟨.bool (!r), .one _ _ (.b _), fun w _ => ?_⟩
            obtain ⟨k1, k2, k3, k4⟩ := key w
            rw [Sem.run_bind, eqGuard_ok k2 k3, Result.andThen_ok, k4 _ (.inr rfl), if_neg (by simp), Sem.run_bind, k1]
            rfl
          · cases h
        · cases h
    · cases h
  · rename_i cs' ds
    unfold evAggEq at h
    split at h
    · cases h
    · rename_i hne
      split at h
      · rename_i he
        rw [Bool.and_eq_true] at he
        split at h
        · rename_i c hck
          have ht : TyOk X.P ty (E.ti ty) := d_ok hE rfl hne
          have hcc : AllC c → fitCs (E.ti ty).zero cs' ∧ fitCs (E.ti ty).zero ds := fun hc =>
            ck_ok hck (fun h => by rw [Bool.and_eq_true] at h; exact ⟨fitBs_ok h.1, fitBs_ok h.2⟩) hc
          have hg := (ht.eq he.1).2.2
          cases hx with
          | agg _ l hl =>
          cases hy with
          | agg _ r hr =>
          split at h
          · simp only [Option.some.injEq, Prod.mk.injEq] at h; obtain ⟨rfl, rfl⟩ := h
            obtain ⟨f1, f2⟩ := hcc hc
            refine ⟨.bool (sameCells cs' ds), .one _ _ (.b _), fun w _ => ?_⟩
            rw [Sem.run_bind, run_eqGuard_agg w _ _ _ _ _ _ hg, Result.andThen_ok]
            simp only [binOp]
            rw [Sem.run_bind, equal_agg ht he.1 he.2 f1 f2 hl hr]
            rfl
          · simp only [Option.some.injEq, Prod.mk.injEq] at h; obtain ⟨rfl, rfl⟩ := h
            obtain ⟨f1, f2⟩ := hcc hc
            refine ⟨.bool (!sameCells cs' ds), .one _ _ (.b _), fun w _ => ?_⟩
            rw [Sem.run_bind, run_eqGuard_agg w _ _ _ _ _ _ hg, Result.andThen_ok]
            simp only [binOp]
            rw [Sem.run_bind, equal_agg ht he.1 he.2 f1 f2 hl hr]
            rfl
          · cases h
        · cases h
      · cases h
  · cases h

def evUn (E : Env) (op : UnOp) (x : AV) : RV :=
  match op, x with
  | .not, .one (.b c) => some ([], .one (.b (!c)))
  | .xor, .one (.u8 a) => some ([], .one (.u8 (~~~a)))
  | .xor, .one (.u16 a) => some ([], .one (.u16 (~~~a)))
  | .xor, .one (.u32 a) => some ([], .one (.u32 (~~~a)))
  | .xor, .one (.u64 a) => some ([], .one (.u64 (~~~a)))
  | .neg, .one (.i64 n) => w1 (ck E.lit (in64B (0 - n)) (in64 (0 - n))) (.i64 (0 - n))
  | _, _ => none

theorem xorMax (k : IntKind) (hk : k.signed = false) (x : BitVec k.bits) (w : World) {P : Program} : (Op.intBits .xor k (if k.signed then -1 else k.max) (x.toNat : Int)).run P w = .ok (.int k ((~~~x).toNat : Int)) w := by
  simp only [Op.intBits, hk, Bool.false_eq_true, if_false, Sem.run_pure]
  congr 2
  rw [wrapU k hk, ofInt_natCast, ofInt_natCast]
  have : BitVec.ofInt k.bits k.max = BitVec.allOnes k.bits := by
    have h1 : (((2 ^ k.bits - 1 : Nat)) : Int) = (2 : Int) ^ k.bits - 1 := by
      have := Nat.one_le_two_pow (n := k.bits)
      push_cast [this]
      rfl
    rw [IntKind.max, hk, if_neg (by decide), ← h1, BitVec.ofInt_natCast]
    apply BitVec.eq_of_toNat_eq
    rw [BitVec.toNat_ofNat, BitVec.toNat_allOnes]
    exact Nat.mod_eq_of_lt (by have := Nat.one_le_two_pow (n := k.bits); omega)
  rw [this, BitVec.allOnes_xor]

theorem evUn_ok {E : Env} {op : UnOp} {x : AV} {cs : List Prop} {v : AV} (h : evUn E op x = some (cs, v)) (hc : AllC cs) {vx : Value} (hx : VA X m.length p x vx) : G1 X p m wb (Op.unary op vx) v := by
  unfold evUn at h
  split at h
  · simp only [Option.some.injEq, Prod.mk.injEq] at h; obtain ⟨rfl, rfl⟩ := h
    have := hx.one_inv; cases this
    exact ok1 (.b _) (fun w => rfl)
  · simp only [Option.some.injEq, Prod.mk.injEq] at h; obtain ⟨rfl, rfl⟩ := h
    have := hx.one_inv; cases this
    exact ok1 (.u8 _) (fun w => xorMax .u8 rfl _ w)
  · simp only [Option.some.injEq, Prod.mk.injEq] at h; obtain ⟨rfl, rfl⟩ := h
    have := hx.one_inv; cases this
    exact ok1 (.u16 _) (fun w => xorMax .u16 rfl _ w)
  · simp only [Option.some.injEq, Prod.mk.injEq] at h; obtain ⟨rfl, rfl⟩ := h
    have := hx.one_inv; cases this
    exact ok1 (.u32 _) (fun w => xorMax .u32 rfl _ w)
  · simp only [Option.some.injEq, Prod.mk.injEq] at h; obtain ⟨rfl, rfl⟩ := h
    have := hx.one_inv; cases this
    exact ok1 (.u64 _) (fun w => xorMax .u64 rfl _ w)
  · obtain ⟨g, rfl⟩ := w1_eq h
    have hq := ck_ok g in64B_ok hc
    have := hx.one_inv; cases this
    exact ok1 (.i64 _) (fun w => by simp only [Op.unary, Op.intArith, Sem.run_pure]; rw [wrap64_in hq])
  · cases h

/-! conversions of numbers -/

def toK (k : IntKind) : AC → Option AC
  | .u8 x => (match k with | .u8 => some (.u8 x) | .u16 => some (.u16 (x.setWidth 16)) | .u32 => some (.u32 (x.setWidth 32)) | .u64 => some (.u64 (x.setWidth 64)) | .i64 => some (.i64 x.toNat) | _ => none)
  | .u16 x => (match k with | .u8 => some (.u8 (x.setWidth 8)) | .u16 => some (.u16 x) | .u32 => some (.u32 (x.setWidth 32)) | .u64 => some (.u64 (x.setWidth 64)) | .i64 => some (.i64 x.toNat) | _ => none)
  | .u32 x => (match k with | .u8 => some (.u8 (x.setWidth 8)) | .u16 => some (.u16 (x.setWidth 16)) | .u32 => some (.u32 x) | .u64 => some (.u64 (x.setWidth 64)) | .i64 => some (.i64 x.toNat) | .i32 => some (.i32 x.toInt) | _ => none)
  | .u64 x => (match k with | .u8 => some (.u8 (x.setWidth 8)) | .u16 => some (.u16 (x.setWidth 16)) | .u32 => some (.u32 (x.setWidth 32)) | .u64 => some (.u64 x) | .i64 => some (.i64 x.toInt) | _ => none)
  | .i64 n => (match k with | .u8 => some (.u8 (BitVec.ofInt 8 n)) | .u16 => some (.u16 (BitVec.ofInt 16 n)) | .u32 => some (.u32 (BitVec.ofInt 32 n)) | .u64 => some (.u64 (BitVec.ofInt 64 n)) | .i32 => some (.i32 (BitVec.ofInt 32 n).toInt) | .i64 => some (.i64 (BitVec.ofInt 64 n).toInt) | _ => none)
  | .i32 n => (match k with | .u32 => some (.u32 (BitVec.ofInt 32 n)) | .u64 => some (.u64 (BitVec.ofInt 64 n)) | .i64 => some (.i64 (BitVec.ofInt 64 n).toInt) | _ => none)
  | _ => none

theorem wrap_i32 (n : Int) : IntKind.i32.wrap n = (BitVec.ofInt 32 n).toInt := by
  rw [BitVec.toInt_ofInt]
  unfold IntKind.wrap
  simp only [IntKind.bits, IntKind.signed, Bool.true_and]
  rw [Int.bmod_def]
  split <;> rename_i h1 <;> simp at h1 ⊢ <;> omega

theorem wrap_i64 (n : Int) : IntKind.i64.wrap n = (BitVec.ofInt 64 n).toInt := by
  rw [BitVec.toInt_ofInt]
  unfold IntKind.wrap
  simp only [IntKind.bits, IntKind.signed, Bool.true_and]
  rw [Int.bmod_def]
  split <;> rename_i h1 <;> simp at h1 ⊢ <;> omega

theorem wrapW (k : IntKind) (hk : k.signed = false) {n : Nat} (x : BitVec n) : k.wrap (x.toNat : Int) = ((x.setWidth k.bits).toNat : Int) := by
  rw [wrapU k hk, BitVec.ofInt_natCast, BitVec.ofNat_toNat]

theorem vrk {N : Nat} {k : IntKind} {a b : Int} {c : AC} (e : a = b) (h : VR X N p c (.int k b)) : VR X N p c (.int k a) := by rw [e]; exact h

theorem wrapS (k : IntKind) (hk : k.signed = false) (x : BitVec k.bits) : k.wrap (x.toNat : Int) = (x.toNat : Int) := by
  rw [wrapU k hk, ofInt_natCast]

theorem toInt32 (x : BitVec 32) : (BitVec.ofInt 32 (x.toNat : Int)).toInt = x.toInt := by rw [ofInt_natCast]

theorem toK_ok {N : Nat} {k : IntKind} {a c : AC} (h : toK k a = some c) {v : Value} (hv : VR X N p a v) : ∃ kk n, v = .int kk n ∧ VR X N p c (.int k (k.wrap n)) := by
  have small : ∀ {n : Nat} (x : BitVec n), n ≤ 32 → IntKind.i64.wrap (x.toNat : Int) = x.toNat := fun {n} x hn => wrap64_in (by
    have := x.isLt
    have h2 : 2 ^ n ≤ 2 ^ 32 := Nat.pow_le_pow_right (by decide) hn
    unfold in64
    omega)
  cases hv <;> first | cases h; done | skip
  · rename_i x
    refine ⟨_, _, rfl, ?_⟩
    cases k <;> simp only [toK, Option.some.injEq, reduceCtorEq] at h <;> subst h
    · rw [small x (by decide)]; exact .i64 _
    · exact vrk (wrapS .u8 rfl x) (.u8 _)
    · exact vrk (wrapW .u16 rfl x) (.u16 _)
    · exact vrk (wrapW .u32 rfl x) (.u32 _)
    · exact vrk (wrapW .u64 rfl x) (.u64 _)
  · rename_i x
    refine ⟨_, _, rfl, ?_⟩
    cases k <;> simp only [toK, Option.some.injEq, reduceCtorEq] at h <;> subst h
    · rw [small x (by decide)]; exact .i64 _
    · exact vrk (wrapW .u8 rfl x) (.u8 _)
    · exact vrk (wrapS .u16 rfl x) (.u16 _)
    · exact vrk (wrapW .u32 rfl x) (.u32 _)
    · exact vrk (wrapW .u64 rfl x) (.u64 _)
  · rename_i x
    refine ⟨_, _, rfl, ?_⟩
    cases k <;> simp only [toK, Option.some.injEq, reduceCtorEq] at h <;> subst h
    · rw [wrap_i32, toInt32]; exact .i32 _
    · rw [small x (by decide)]; exact .i64 _
    · exact vrk (wrapW .u8 rfl x) (.u8 _)
    · exact vrk (wrapW .u16 rfl x) (.u16 _)
    · exact vrk (wrapS .u32 rfl x) (.u32 _)
    · exact vrk (wrapW .u64 rfl x) (.u64 _)
  · rename_i x
    refine ⟨_, _, rfl, ?_⟩
    cases k <;> simp only [toK, Option.some.injEq, reduceCtorEq] at h <;> subst h
    · rw [wrap_toInt]; exact .i64 _
    · exact vrk (wrapW .u8 rfl x) (.u8 _)
    · exact vrk (wrapW .u16 rfl x) (.u16 _)
    · exact vrk (wrapW .u32 rfl x) (.u32 _)
    · exact vrk (wrapS .u64 rfl x) (.u64 _)
  · rename_i n
    refine ⟨_, _, rfl, ?_⟩
    cases k <;> simp only [toK, Option.some.injEq, reduceCtorEq] at h <;> subst h
    · rw [wrap_i32]; exact .i32 _
    · rw [wrap_i64]; exact .i64 _
    · exact vrk (wrapU .u8 rfl n) (.u8 _)
    · exact vrk (wrapU .u16 rfl n) (.u16 _)
    · exact vrk (wrapU .u32 rfl n) (.u32 _)
    · exact vrk (wrapU .u64 rfl n) (.u64 _)
  · rename_i n
    refine ⟨_, _, rfl, ?_⟩
    cases k <;> simp only [toK, Option.some.injEq, reduceCtorEq] at h <;> subst h
    · rw [wrap_i64]; exact .i64 _
    · exact vrk (wrapU .u32 rfl n) (.u32 _)
    · exact vrk (wrapU .u64 rfl n) (.u64 _)

def known (E : Env) (t : TypeId) : Bool := match (E.ti t).d with | .other => false | _ => true

theorem known_ok {P : Program} {E : Env} (hE : EnvOk P E) {t : TypeId} (h : known E t = true) : TyOk P t (E.ti t) := by
  unfold known at h
  split at h
  · cases h
  · rename_i hne; exact d_ok hE rfl hne

def evConv (E : Env) (src dst : TypeId) (x : AV) : RV :=
  if known E src then
    match (E.ti dst).d, x with
    | .int k, .one a => (match toK k a with | some c => some ([], .one c) | none => none)
    | _, _ => none
  else none

theorem evConv_ok {E : Env} (hE : EnvOk X.P E) {src dst : TypeId} {x : AV} {cs : List Prop} {v : AV} (h : evConv E src dst x = some (cs, v)) {vx : Value} (hx : VA X m.length p x vx) :
    G1 X p m wb (convert src dst vx) v := by
  unfold evConv at h
  split at h
  · rename_i hk
    obtain ⟨ds, hs, _⟩ := (known_ok hE hk).und
    split at h
    · rename_i k a hd
      obtain ⟨dd, hu, hdd⟩ := (d_ok hE hd (by simp)).und
      rw [hd] at hdd
      cases dd <;> simp only [tdOk] at hdd
      subst hdd
      split at h
      · rename_i c hc
        simp only [Option.some.injEq, Prod.mk.injEq] at h; obtain ⟨rfl, rfl⟩ := h
        obtain ⟨kk, n, rfl, hv⟩ := toK_ok hc hx.one_inv
        exact ok1 hv (fun w => by simp [convert, run_underlying hs, run_underlying hu, Conv.intToInt])
      · cases h
    · cases h
  · cases h
end
end DH
