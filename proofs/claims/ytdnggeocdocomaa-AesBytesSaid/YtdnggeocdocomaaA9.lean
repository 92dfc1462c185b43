/- The layer: abstract values, operations on them, and that the machine follows. -/
import Derived.Test.YtdnggeocdocomaaA8
set_option linter.unusedVariables false
set_option linter.unusedSimpArgs false
namespace DH
open Go

section
variable {X : Ctx} {p : Pl} {m : Mem} {wb : World}

/-- an array out of a slice -/
def evS2A (E : Env) (ty : TypeId) (x : AV) : RV :=
  match (E.ti ty).d with
  | .array n _ =>
    (match x with
    | .one (.sv b o l) => if Nat.ble 1 n then w1 (ck E.lit (Nat.ble n l) (n ≤ l)) (.ptr b o) else none
    | .one (.gs b l _) => if Nat.ble 1 n then w1 (ck E.lit (Nat.ble n l) (n ≤ l)) (.ptr b 0) else none
    | .one (.xs r o l) => if Nat.ble 1 n then w1 (ck E.lit (Nat.ble n l) (n ≤ l)) (.xp r o) else none
    | _ => none)
  | _ => none

theorem evS2A_ok {E : Env} (hE : EnvOk X.P E) {ty : TypeId} {x : AV} {cs : List Prop} {v : AV} (h : evS2A E ty x = some (cs, v)) (hc : AllC cs) {vx : Value} (hx : VA X m.length p x vx) :
    G1 X p m wb (Instr.arrayAt ty vx) v := by
  unfold evS2A at h
  split at h
  · rename_i n e hd
    have hu := und_arr (d_ok hE hd (by simp)) hd
    have hr : ∀ (a : Addr) (l c : Nat), n ≤ l → ∀ w, (Instr.arrayAt ty (.slice (some a) l c)).run X.P w = .ok (.pointer (some a)) w := fun a l c hl w => by
      have : ¬ l < n := by omega
      simp [Instr.arrayAt, run_underlying hu, this]
    split at h
    · split at h
      · rename_i b o l h1
        have h1 := Nat.le_of_ble_eq_true h1
        obtain ⟨g, rfl⟩ := w1_eq h
        have hq := ck_ok g Nat.le_of_ble_eq_true hc
        have hv := hx.one_inv
        cases hv with
        | sv _ _ _ c b' o' hcn hor =>
          obtain ⟨hlt, rfl, rfl⟩ := hor.resolve_left (by omega)
          exact ok1 (.ptr b _ hlt) (hr _ _ _ hq)
        | svn => omega
      · cases h
    · split at h
      · rename_i b l e h1
        have h1 := Nat.le_of_ble_eq_true h1
        obtain ⟨g, rfl⟩ := w1_eq h
        have hq := ck_ok g Nat.le_of_ble_eq_true hc
        have hv := hx.one_inv
        cases hv with
        | gs _ _ _ c hlt hcn hz => exact ok1 (.ptr b _ hlt) (hr _ _ _ hq)
        | gsn => omega
      · cases h
    · split at h
      · rename_i r o l h1
        have h1 := Nat.le_of_ble_eq_true h1
        obtain ⟨g, rfl⟩ := w1_eq h
        have hq := ck_ok g Nat.le_of_ble_eq_true hc
        have hv := hx.one_inv
        cases hv with
        | xs _ _ _ c b k' b' o' g' p0 hbk hr' hv hcn =>
          obtain ⟨hbk2, rfl, rfl⟩ := hbk.resolve_left (by omega)
          exact ok1 (.xp r _ b' k' g' p0 hbk2 (hr'.resolve_left (by omega)) hv) (hr _ _ _ hq)
        | xsn => omega
        | xs0 => omega
      · cases h
    · cases h
  · cases h

/-! slices of slices, arrays, strings -/

/-- a bound: none is d -/
def bnd (x : Option AV) (d : Nat) : Option Int :=
  match x with
  | none => some d
  | some (.one c) => ixI c
  | some _ => none

def ckSl (E : Env) (l h : Int) (n : Nat) : Option (List Prop) := ck E.lit (decide (0 ≤ l ∧ l ≤ h ∧ h ≤ n)) (0 ≤ l ∧ l ≤ h ∧ h ≤ n)

def evSlice (E : Env) (ty : TypeId) (x : AV) (lo hi : Option AV) : RV :=
  match (E.ti ty).d with
  | .array n e =>
    (match E.esz e, bnd lo 0, bnd hi n with
    | some s, some l, some h =>
      (match x with
      | .one (.ptr b o) => w1 (ckSl E l h n) (.sv b (o + l.toNat * s) (h.toNat - l.toNat))
      | .one (.xp r o) => w1 (ckSl E l h n) (.xs r (o + l.toNat * s) (h.toNat - l.toNat))
      | _ => none)
    | _, _, _ => none)
  | .slice e =>
    (match x with
    | .one (.sv b o n) => (match E.esz e, bnd lo 0, bnd hi n with | some s, some l, some h => w1 (ckSl E l h n) (.sv b (o + l.toNat * s) (h.toNat - l.toNat)) | _, _, _ => none)
    | .one (.gs b n _) => (match E.esz e, bnd lo 0, bnd hi n with | some s, some l, some h => w1 (ckSl E l h n) (.sv b (0 + l.toNat * s) (h.toNat - l.toNat)) | _, _, _ => none)
    | .one (.xs r o n) => (match E.esz e, bnd lo 0, bnd hi n with | some s, some l, some h => w1 (ckSl E l h n) (.xs r (o + l.toNat * s) (h.toNat - l.toNat)) | _, _, _ => none)
    | .one .ns => (match E.esz e, bnd lo 0, bnd hi 0 with | some _, some l, some h => w1 (ckSl E l h 0) .ns | _, _, _ => none)
    | _ => none)
  | .str =>
    (match x with
    | .one (.s a) => (match bnd lo 0, bnd hi a.length with | some l, some h => w1 (ckSl E l h a.length) (.s ((a.drop l.toNat).take (h.toNat - l.toNat))) | _, _ => none)
    | _ => none)
  | _ => none

/-- what a bound is in the machine -/
def bndV (X : Ctx) (N : Nat) (p : Pl) (x : Option AV) (v : Option Value) : Prop :=
  match x, v with
  | none, none => True
  | some a, some u => VA X N p a u
  | _, _ => False

theorem bnd_ok {N : Nat} {x : Option AV} {v : Option Value} {d : Nat} {i : Int} (h : bnd x d = some i) (hv : bndV X N p x v) : (v = none ∧ i = d) ∨ ∃ k, v = some (.int k i) := by
  unfold bnd at h
  split at h
  · injection h with h; subst h
    cases v with
    | none => exact .inl ⟨rfl, rfl⟩
    | some u => exact hv.elim
  · cases v with
    | none => exact hv.elim
    | some u =>
      obtain ⟨k, rfl⟩ := ixI_ok h (VA.one_inv hv)
      exact .inr ⟨k, rfl⟩
  · cases h

theorem run_bounds {P : Program} {isS : Bool} {len cap : Nat} {lo hi : Option Value} {l h : Int} (hlo : (lo = none ∧ l = (0 : Nat)) ∨ ∃ k, lo = some (.int k l)) (hhi : (hi = none ∧ h = len) ∨ ∃ k, hi = some (.int k h))
    (hb : 0 ≤ l ∧ l ≤ h ∧ h ≤ len) (hc : len ≤ cap) (w : World) : (Instr.sliceBounds isS len cap lo hi none).run P w = .ok (l.toNat, h.toNat, cap) w := by
  have h1 : 0 ≤ h ∧ h ≤ cap := ⟨by omega, by omega⟩
  have h2 : 0 ≤ l ∧ l ≤ h.toNat := ⟨by omega, by omega⟩
  rcases hlo with ⟨rfl, rfl⟩ | ⟨k, rfl⟩ <;> rcases hhi with ⟨rfl, rfl⟩ | ⟨k', rfl⟩
  · simp [Instr.sliceBounds]
  · simp [Instr.sliceBounds, Instr.sliceBound, asIntOf, h1]
  · have h3 : 0 ≤ l ∧ l ≤ (len : Int) := ⟨by omega, by omega⟩
    simp [Instr.sliceBounds, Instr.sliceBound, asIntOf, h3]
  · have h4 : ¬ (max h 0 < l) := by omega
    simp [Instr.sliceBounds, Instr.sliceBound, asIntOf, h1, h2, h4]

theorem run_slArr {P : Program} {t e : TypeId} {n s : Nat} (hu : P.underlying t = some (.array n e)) (he : ∀ w, (Go.sizeOf e).run P w = .ok s w) {lo hi : Option Value} {l h : Int}
    (hlo : (lo = none ∧ l = (0 : Nat)) ∨ ∃ k, lo = some (.int k l)) (hhi : (hi = none ∧ h = n) ∨ ∃ k, hi = some (.int k h)) (hb : 0 ≤ l ∧ l ≤ h ∧ h ≤ n) (b o : Nat) (w : World) :
    (Instr.sliceAt t (.pointer (some ⟨b, o, none⟩)) lo hi none).run P w = .ok (.slice (some ⟨b, if n = l.toNat then o else o + l.toNat * s, none⟩) (h.toNat - l.toNat) (n - l.toNat)) w := by
  have h1 := fun w => run_bounds (P := P) (isS := false) hlo hhi hb (Nat.le_refl _) w
  simp only [Instr.sliceAt, Sem.run_bind, run_underlying hu, Result.andThen_ok, Instr.sureAddr, Sem.run_pure, h1, he]
  by_cases hm : n = l.toNat
  · rw [if_pos hm, if_pos hm]
  · rw [if_neg hm, if_neg hm, Addr.add_lit]

theorem run_slSl {P : Program} {t e : TypeId} {n c s : Nat} (hu : P.underlying t = some (.slice e)) (he : ∀ w, (Go.sizeOf e).run P w = .ok s w) {lo hi : Option Value} {l h : Int}
    (hlo : (lo = none ∧ l = (0 : Nat)) ∨ ∃ k, lo = some (.int k l)) (hhi : (hi = none ∧ h = n) ∨ ∃ k, hi = some (.int k h)) (hb : 0 ≤ l ∧ l ≤ h ∧ h ≤ n) (hc : n ≤ c) (b o : Nat) (w : World) :
    (Instr.sliceAt t (.slice (some ⟨b, o, none⟩) n c) lo hi none).run P w = .ok (.slice (some ⟨b, if c = l.toNat then o else o + l.toNat * s, none⟩) (h.toNat - l.toNat) (c - l.toNat)) w := by
  have h1 := fun w => run_bounds (P := P) (isS := true) hlo hhi hb hc w
  simp only [Instr.sliceAt, Instr.slice, Sem.run_bind, run_underlying hu, Result.andThen_ok, Sem.run_pure, h1, he]
  by_cases hm : c = l.toNat
  · rw [if_pos hm, if_pos hm]
  · rw [if_neg hm, if_neg hm, Option.map_some, Addr.add_lit]

theorem run_sl0 {P : Program} {t e : TypeId} {s : Nat} (hu : P.underlying t = some (.slice e)) (he : ∀ w, (Go.sizeOf e).run P w = .ok s w) {lo hi : Option Value} {l h : Int}
    (hlo : (lo = none ∧ l = (0 : Nat)) ∨ ∃ k, lo = some (.int k l)) (hhi : (hi = none ∧ h = (0 : Nat)) ∨ ∃ k, hi = some (.int k h)) (hb : 0 ≤ l ∧ l ≤ h ∧ h ≤ (0 : Nat)) (c : Nat) (a : Addr) (w : World) :
    (Instr.sliceAt t (.slice (some a) 0 c) lo hi none).run P w = .ok (.slice (some a) 0 c) w := by
  have h1 := fun w => run_bounds (P := P) (isS := true) (len := 0) hlo hhi hb (Nat.zero_le c) w
  have h0 : l.toNat = 0 := by omega
  have h2 : h.toNat = 0 := by omega
  simp only [Instr.sliceAt, Instr.slice, Sem.run_bind, run_underlying hu, Result.andThen_ok, Sem.run_pure, h1, he, h0, h2]
  by_cases hm : c = 0
  · rw [if_pos hm]; subst hm; rfl
  · rw [if_neg hm, Option.map_some, Nat.zero_mul]; rfl

theorem run_slNil {P : Program} {t e : TypeId} {s : Nat} (hu : P.underlying t = some (.slice e)) (he : ∀ w, (Go.sizeOf e).run P w = .ok s w) {lo hi : Option Value} {l h : Int}
    (hlo : (lo = none ∧ l = (0 : Nat)) ∨ ∃ k, lo = some (.int k l)) (hhi : (hi = none ∧ h = (0 : Nat)) ∨ ∃ k, hi = some (.int k h)) (hb : 0 ≤ l ∧ l ≤ h ∧ h ≤ (0 : Nat)) (w : World) :
    (Instr.sliceAt t (.slice none 0 0) lo hi none).run P w = .ok (.slice none 0 0) w := by
  have h1 := fun w => run_bounds (P := P) (isS := true) (len := 0) hlo hhi hb (Nat.le_refl _) w
  have h0 : l.toNat = 0 := by omega
  have h2 : h.toNat = 0 := by omega
  simp only [Instr.sliceAt, Instr.slice, Sem.run_bind, run_underlying hu, Result.andThen_ok, Sem.run_pure, h1, he, h0, h2]
  rfl

theorem extract_bytes (s : ByteArray) (l h : Nat) : (s.extract l h).data.toList.map UInt8.toBitVec = ((s.data.toList.map UInt8.toBitVec).drop l).take (h - l) := by
  rw [ByteArray.data_extract, Array.toList_extract]
  simp [List.extract, List.map_take, List.map_drop]

theorem ckSl_ok {E : Env} {l h : Int} {n : Nat} {cs : List Prop} (hk : ckSl E l h n = some cs) (hc : AllC cs) : 0 ≤ l ∧ l ≤ h ∧ h ≤ n := ck_ok hk (fun h => of_decide_eq_true h) hc

theorem evSlice_ok {E : Env} (hE : EnvOk X.P E) {ty : TypeId} {x : AV} {lo hi : Option AV} {cs : List Prop} {v : AV} (h : evSlice E ty x lo hi = some (cs, v)) (hc : AllC cs) {vx : Value} {vl vh : Option Value}
    (hx : VA X m.length p x vx) (hl : bndV X m.length p lo vl) (hh : bndV X m.length p hi vh) : G1 X p m wb (Instr.sliceAt ty vx vl vh none) v := by
  unfold evSlice at h
  split at h
  · rename_i n e hd
    have hu := und_arr (d_ok hE hd (by simp)) hd
    split at h
    · rename_i s l hh' hs hbl hbh
      obtain ⟨he, hsz, h1⟩ := esz_ok hE hs
      have hrun : ∀ w, (Go.sizeOf e).run X.P w = .ok s w := fun w => by rw [hsz]; exact he.szrun w
      have hlo := bnd_ok hbl hl
      have hhi := bnd_ok hbh hh
      split at h
      · rename_i b o
        obtain ⟨g, rfl⟩ := w1_eq h
        have hq := ckSl_ok g hc
        obtain ⟨hlt, rfl⟩ := hx.one_inv.ptr_inv
        exact ok1 (.sv _ _ _ _ _ _ (by omega) (by split <;> first | exact .inl (by omega) | exact .inr ⟨hlt, rfl, rfl⟩)) (run_slArr hu hrun hlo hhi hq _ _)
      · rename_i r o
        obtain ⟨g, rfl⟩ := w1_eq h
        have hq := ckSl_ok g hc
        have hv := hx.one_inv
        cases hv with
        | xp _ _ b k' g' p0 hbk hr hv =>
          exact ok1 (.xs _ _ _ _ b k' _ _ g' p0 (by split <;> first | exact .inl (by omega) | exact .inr ⟨hbk, rfl, by omega⟩) (.inr hr) hv (by omega)) (run_slArr hu hrun hlo hhi hq _ _)
      · cases h
    · cases h
  · rename_i e hd
    have hu := und_slice (d_ok hE hd (by simp)) hd
    split at h
    · rename_i b o n
      split at h
      · rename_i s l hh' hs hbl hbh
        obtain ⟨he, hsz, h1⟩ := esz_ok hE hs
        have hrun : ∀ w, (Go.sizeOf e).run X.P w = .ok s w := fun w => by rw [hsz]; exact he.szrun w
        have hlo := bnd_ok hbl hl
        have hhi := bnd_ok hbh hh
        obtain ⟨g, rfl⟩ := w1_eq h
        have hq := ckSl_ok g hc
        have hv := hx.one_inv
        cases hv with
        | sv _ _ _ c b' o' hcn hor =>
          exact ok1 (.sv _ _ _ _ _ _ (by omega) (by
            rcases hor with h0 | ⟨hlt, rfl, rfl⟩
            · exact .inl (by omega)
            · split <;> first | exact .inl (by omega) | exact .inr ⟨hlt, rfl, rfl⟩)) (run_slSl hu hrun hlo hhi hq hcn _ _)
        | svn =>
          have e : hh'.toNat - l.toNat = 0 := by omega
          rw [e]
          exact ok1 (.svn _ _) (run_slNil hu hrun hlo hhi hq)
      · cases h
    · rename_i b n e'
      split at h
      · rename_i s l hh' hs hbl hbh
        obtain ⟨he, hsz, h1⟩ := esz_ok hE hs
        have hrun : ∀ w, (Go.sizeOf e).run X.P w = .ok s w := fun w => by rw [hsz]; exact he.szrun w
        have hlo := bnd_ok hbl hl
        have hhi := bnd_ok hbh hh
        obtain ⟨g, rfl⟩ := w1_eq h
        have hq := ckSl_ok g hc
        have hv := hx.one_inv
        cases hv with
        | gs _ _ _ c hlt hcn hz =>
          exact ok1 (.sv _ _ _ _ _ _ (by omega) (by split <;> first | exact .inl (by omega) | exact .inr ⟨hlt, rfl, rfl⟩)) (run_slSl hu hrun hlo hhi hq hcn _ _)
        | gsn =>
          have e : hh'.toNat - l.toNat = 0 := by omega
          rw [e]
          exact ok1 (.svn _ _) (run_slNil hu hrun hlo hhi hq)
      · cases h
    · rename_i r o n
      split at h
      · rename_i s l hh' hs hbl hbh
        obtain ⟨he, hsz, h1⟩ := esz_ok hE hs
        have hrun : ∀ w, (Go.sizeOf e).run X.P w = .ok s w := fun w => by rw [hsz]; exact he.szrun w
        have hlo := bnd_ok hbl hl
        have hhi := bnd_ok hbh hh
        obtain ⟨g, rfl⟩ := w1_eq h
        have hq := ckSl_ok g hc
        have hv := hx.one_inv
        cases hv with
        | xs _ _ _ c b k' b' o' g' p0 hbk hr hv hcn =>
          exact ok1 (.xs _ _ _ _ b k' _ _ g' p0 (by
            rcases hbk with h0 | ⟨hbk, rfl, rfl⟩
            · exact .inl (by omega)
            · split <;> first | exact .inl (by omega) | exact .inr ⟨hbk, rfl, by omega⟩) (by
            rcases hr with h0 | hr
            · exact .inl (by omega)
            · exact .inr hr) hv (by omega)) (run_slSl hu hrun hlo hhi hq hcn _ _)
        | xsn =>
          have e : hh'.toNat - l.toNat = 0 := by omega
          rw [e]
          exact ok1 (.xsn _ _) (run_slNil hu hrun hlo hhi hq)
        | xs0 _ _ c a =>
          have e : hh'.toNat - l.toNat = 0 := by omega
          rw [e]
          exact ok1 (.xs0 _ _ c a) (run_sl0 hu hrun hlo hhi hq c a)
      · cases h
    · split at h
      · rename_i s l hh' hs hbl hbh
        obtain ⟨he, hsz, h1⟩ := esz_ok hE hs
        have hrun : ∀ w, (Go.sizeOf e).run X.P w = .ok s w := fun w => by rw [hsz]; exact he.szrun w
        have hlo := bnd_ok hbl hl
        have hhi := bnd_ok hbh hh
        obtain ⟨g, rfl⟩ := w1_eq h
        have hq := ckSl_ok g hc
        have hv := hx.one_inv
        cases hv
        exact ok1 .ns (run_slNil hu hrun hlo hhi hq)
      · cases h
    · cases h
  · rename_i hd
    obtain ⟨d, hu, hd'⟩ := (d_ok hE hd (by simp)).und
    rw [hd] at hd'
    cases d <;> simp only [tdOk] at hd'
    split at h
    · rename_i a
      split at h
      · rename_i l hh' hbl hbh
        have hlo := bnd_ok hbl hl
        have hhi := bnd_ok hbh hh
        obtain ⟨g, rfl⟩ := w1_eq h
        have hq := ckSl_ok g hc
        have hv := hx.one_inv
        cases hv with
        | s _ s hs =>
          have hlen : s.size = a.length := by rw [← hs]; simp
          rw [← hlen] at hhi hq
          have hb := fun w => run_bounds (P := X.P) (isS := false) hlo hhi hq (Nat.le_refl _) w
          refine ok1 (u := .string (s.extract l.toNat hh'.toNat)) (.s _ _ (by rw [extract_bytes, hs])) (fun w => ?_)
          simp only [Instr.sliceAt, Instr.slice, Sem.run_bind, run_underlying hu, Result.andThen_ok, Option.isSome_none, Bool.false_eq_true, if_false, Sem.run_pure, hb]
      · cases h
    · cases h
  · cases h
end
end DH
