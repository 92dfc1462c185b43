/- The layer: operations that build, store and slice, and that the machine follows. -/
import Derived.Test.YtdnggeocdocomaaB6
import Derived.Deep.AppendSrc
import Derived.Laws.BytesArg
import Derived.Laws.MakeOwn
set_option linter.unusedVariables false
set_option linter.unusedSimpArgs false
namespace DH
open Go

theorem AllC_append' {a b : List Prop} (h : AllC (a ++ b)) : AllC a ∧ AllC b := by
  induction a with
  | nil => exact ⟨trivial, h⟩
  | cons x a ih => exact ⟨⟨h.1, (ih h.2).1⟩, (ih h.2).2⟩

section
variable {X : Ctx} {m : Mem}

/-! make -/

def snocR (c : Option (List Prop)) (m : Mem) (row : List AC) (v : AV) : RE :=
  match c with
  | some cs => snocF m (some row) fun m' => some (cs, v, m')
  | none => none

theorem snocR_eq {c : Option (List Prop)} {m m' : Mem} {row : List AC} {v v' : AV} {cs : List Prop} (h : snocR c m row v = some (cs, v', m')) : c = some cs ∧ v = v' ∧ m' = m ++ [some row] := by
  unfold snocR at h
  split at h
  · rw [snocF_eq] at h
    simp only [Option.some.injEq, Prod.mk.injEq] at h
    obtain ⟨rfl, rfl, rfl⟩ := h
    exact ⟨rfl, rfl, rfl⟩
  · cases h

def evMake (E : Env) (m : Mem) (ty : TypeId) (l c : AV) : RE :=
  match (E.ti ty).d, l, c with
  | .slice e, .one lc, .one cc =>
    (match ixI lc, ixI cc, E.esz e with
    | some l, some c, some s =>
      if Nat.beq (lenF (E.ti e).zero) s then
        snocR (ck E.lit (decide (0 ≤ l ∧ l ≤ c ∧ c * (E.ti e).bytes ≤ 140737488355328 ∧ c < 4611686018427387904)) (0 ≤ l ∧ l ≤ c ∧ c * (E.ti e).bytes ≤ 140737488355328 ∧ c < 4611686018427387904)) m
          (zeros (E.ti e).zero l.toNat) (.one (.gs (lenF m) l.toNat s))
      else none
    | _, _, _ => none)
  | _, _, _ => none

theorem zeros_pre (z : List AC) {a b : Nat} (h : a ≤ b) {j : Nat} {c : AC} (hj : (zeros z a)[j]? = some c) : (zeros z b)[j]? = some c := by
  have : zeros z b = zeros z a ++ zeros z (b - a) := by
    unfold zeros
    rw [← List.flatten_append, List.replicate_append_replicate]
    congr 2
    omega
  rw [this, List.getElem?_append_left (List.getElem?_eq_some_iff.1 hj).1]
  exact hj

theorem evMake_ok {E : Env} (hE : EnvOk X.P E) {ty : TypeId} {l c : AV} {cs : List Prop} {v : AV} {m' : Mem} (h : evMake E m ty l c = some (cs, v, m')) (hc : AllC cs) {p : Pl} {w : World} (hm : MR X p m w) {vl vc : Value}
    (hl : VA X m.length p l vl) (hcv : VA X m.length p c vc) : EOk X m (Instr.makeSlice ty vl vc) p w v m' := by
  unfold evMake at h
  split at h
  · rename_i e lc cc hd
    have hu := und_slice (d_ok hE hd (by simp)) hd
    split at h
    · rename_i l c s h1 h2 hs
      obtain ⟨he, hsz, hs1⟩ := esz_ok hE hs
      obtain ⟨k1, rfl⟩ := ixI_ok h1 hl.one_inv
      obtain ⟨k2, rfl⟩ := ixI_ok h2 hcv.one_inv
      split at h
      · rename_i hb
        have hb := beq_true hb
        rw [lenF_eq] at hb
        obtain ⟨hck, rfl, rfl⟩ := snocR_eq h
        obtain ⟨c0, c1, c2, c3⟩ := ck_ok hck (fun h => of_decide_eq_true h) hc
        obtain ⟨i, hi1, hi2, hi3, z, hiz, hz2⟩ := he.info
        have hzs : z.cells.size = s := by have := (hz2 X m.length p).1; simp at this; omega
        have hbc : (i.bytes : Int) * c ≤ 140737488355328 := by rw [Int.mul_comm, hi3]; exact c2
        let L : List Value := (List.replicate c.toNat z.cells.toList).flatten
        have hL : L.length = c.toNat * s := by simp [L, List.length_flatten, hzs]
        have hvl := VL_zeros (hz2 X m.length p) c.toNat
        have hmade : madeCells z.cells (c.toNat * i.size) = L.toArray := by
          rw [hi2, ← hsz]
          exact zero_cells z.cells s c.toNat hzs hs1
        have hr := run_make (P := X.P) w ty e i z hu hi1 hiz k1 k2 l c c0 c1 (by omega) (by omega)
        rw [hmade] at hr
        refine ⟨p.put m.length w.heap.size L.length, .slice (some ⟨w.heap.size, 0, none⟩) l.toNat c.toNat, w.alloc (.cells L.toArray e), hr, .put _ _ _ _, by simp, ?_, ?_⟩
        · rw [List.length_append]
          exact .one _ _ (by rw [lenF_eq]; exact VR.gs_new _ _ _ _ _ _ _ (by omega) (by rw [hL]; exact Nat.le_refl _))
        · refine hm.alloc (fr := (0, 0)) (.inl rfl) ?_ ?_ rfl rfl rfl rfl
          · rw [zeros_length, hb, hL]; exact Nat.mul_le_mul_right _ (by omega)
          · intro j d u hj hu
            exact hvl.2 j d u (zeros_pre _ (by omega) hj) hu
      · cases h
    · cases h
  · cases h

/-! copy -/

def copyTo (E : Env) (m : Mem) (z i o n : Nat) (s : AC) : RE :=
  match gt none m i, srcC E.lit m z s with
  | some row, some (cs, cells, k) =>
    (match ckLen E.lit o (n * z) row with
    | some c2 => setF m i (some (lay row o (cells.take (min k n * z)))) fun m' => some (cs ++ c2, .one (.i64 ((min k n : Nat) : Int)), m')
    | none => none)
  | _, _ => none

def evCopy (E : Env) (m : Mem) (ty : TypeId) (d s : AV) : RE :=
  match (E.ti ty).d with
  | .slice e =>
    (match E.esz e, d, s with
    | some z, .one (.sv i o n), .one sc => copyTo E m z i o n sc
    | some z, .one (.gs i n _), .one sc => copyTo E m z i 0 n sc
    | _, _, _ => none)
  | _ => none

theorem min_nat (a b : Nat) : Nat.min a b = min a b := rfl

theorem copyTo_ok {E : Env} {ty ts rt e : TypeId} (hu : X.P.underlying ty = some (.slice e)) {z : Nat} (hz : ∀ w, (Go.sizeOf e).run X.P w = .ok z w) {i o n : Nat} {s : AC} {cs : List Prop} {v : AV} {m' : Mem} (h : copyTo E m z i o n s = some (cs, v, m')) (hc : AllC cs)
    {p : Pl} {w : World} (hm : MR X p m w) {vs : Value} (hs : VR X m.length p s vs) {a : Option Addr} {c : Nat} (ha : (n = 0) ∨ (i < m.length ∧ a = some ⟨p.at_ i, o, none⟩)) :
    EOk X m (Builtin.copy_ #[ty, ts] rt #[.slice a n c, vs]) p w v m' := by
  unfold copyTo at h
  split at h
  · rename_i row c1 cells k hrow hsrc
    split at h
    · rename_i c2 hck
      rw [setF_eq] at h
      simp only [Option.some.injEq, Prod.mk.injEq] at h
      obtain ⟨rfl, rfl, rfl⟩ := h
      obtain ⟨g1, g2⟩ := AllC_append' hc
      have ho := ckLen_ok hck g2
      obtain ⟨f1, f2, f3⟩ := srcC_ok hm hsrc g1 hs
      obtain ⟨l, l1, l2⟩ := f3 (min k n) (Nat.min_le_left _ _)
      have l3 := l2 w ⟨hm, fun _ _ _ _ => rfl⟩
      have hlen : (cells.take (min k n * z)).length = min k n * z := by
        rw [List.length_take, f2]
        exact Nat.min_eq_left (Nat.mul_le_mul_right _ (Nat.min_le_left _ _))
      have hfit : o + (cells.take (min k n * z)).length ≤ row.length := by
        rw [hlen]
        have : min k n * z ≤ n * z := Nat.mul_le_mul_right _ (Nat.min_le_right _ _)
        omega
      obtain ⟨w', q1, q2⟩ := hm.stores (gt_mem hrow) l1 o hfit
      rcases ha with h0 | ⟨_, rfl⟩
      · subst h0
        have hl0 : l = [] := List.length_eq_zero_iff.1 (by rw [← l1.1, hlen]; simp)
        subst hl0
        have hw : w' = w := by simpa [storeCells] using q1.symm
        subst hw
        refine ⟨p, goInt ((min k 0 : Nat) : Int), w', ?_, .refl _ _, by simp, .one _ _ (.i64 _), q2⟩
        have l3' : (Builtin.firstCells z 0 vs).run X.P w' = .ok #[] w' := by simpa using l3
        cases a <;> simp [Builtin.copy_, run_underlying hu, f1, hz, l3', storeCells]
      · refine ⟨p, goInt ((min k n : Nat) : Int), w', ?_, .refl _ _, by simp, .one _ _ (.i64 _), q2⟩
        simp [Builtin.copy_, run_underlying hu, f1, hz, min_nat, l3, q1]
    · cases h
  · cases h

theorem evCopy_ok {E : Env} (hE : EnvOk X.P E) {ty ts rt : TypeId} {d s : AV} {cs : List Prop} {v : AV} {m' : Mem} (h : evCopy E m ty d s = some (cs, v, m')) (hc : AllC cs) {p : Pl} {w : World} (hm : MR X p m w) {vd vs : Value}
    (hd : VA X m.length p d vd) (hs : VA X m.length p s vs) : EOk X m (Builtin.copy_ #[ty, ts] rt #[vd, vs]) p w v m' := by
  unfold evCopy at h
  split at h
  · rename_i e hdt
    have hu := und_slice (d_ok hE hdt (by simp)) hdt
    split at h
    · rename_i z i o n sc hz
      obtain ⟨he, hsz, _⟩ := esz_ok hE hz
      have hd := hd.one_inv
      cases hd with
      | sv _ _ _ c b o' hcn hor =>
        refine copyTo_ok hu (fun w => by rw [hsz]; exact he.szrun w) h hc hm hs.one_inv (hor.imp id fun ⟨h1, h2, h3⟩ => ⟨h1, by rw [h2, h3]⟩)
      | svn => exact copyTo_ok hu (fun w => by rw [hsz]; exact he.szrun w) h hc hm hs.one_inv (.inl rfl)
    · rename_i z i n _ sc hz
      obtain ⟨he, hsz, _⟩ := esz_ok hE hz
      have hd := hd.one_inv
      cases hd with
      | gs _ _ _ c hlt hcn hcz => exact copyTo_ok hu (fun w => by rw [hsz]; exact he.szrun w) h hc hm hs.one_inv (.inr ⟨hlt, rfl⟩)
      | gsn => exact copyTo_ok hu (fun w => by rw [hsz]; exact he.szrun w) h hc hm hs.one_inv (.inl rfl)
    · cases h
  · cases h

/-! append -/

def ckRoom (E : Env) (e : TypeId) (need : Nat) : Option (List Prop) :=
  ck E.lit (Nat.ble (need * (E.ti e).bytes) 140737488355328 && Nat.ble need 4611686018427387904) (need * (E.ti e).bytes ≤ 140737488355328 ∧ need ≤ 4611686018427387904)

theorem ckRoom_ok {E : Env} {e : TypeId} {need : Nat} {cs : List Prop} (h : ckRoom E e need = some cs) (hc : AllC cs) : need * (E.ti e).bytes ≤ 140737488355328 ∧ need ≤ 4611686018427387904 :=
  ck_ok h (fun hb => by rw [Bool.and_eq_true] at hb; exact ⟨Nat.le_of_ble_eq_true hb.1, Nat.le_of_ble_eq_true hb.2⟩) hc

def srcTy (E : Env) (t : TypeId) : Bool :=
  match (E.ti t).d with
  | .slice _ => true
  | .str => true
  | _ => false

def evAppend (E : Env) (m : Mem) (ty tx : TypeId) (x y : AV) : RE :=
  match (E.ti ty).d with
  | .slice e =>
    (match srcTy E tx && Nat.beq (lenF (E.ti e).zero) (E.ti e).sz, E.esz e, y with
    | true, some z, .one yc =>
      (match srcC E.lit m z yc with
      | some (c1, cells, k) =>
        (match x with
        | .one .ns =>
          (match ckRoom E e k with
          | some c2 => snocF m (some cells) fun m' => some (c1 ++ c2, .one (.gs (lenF m) k z), m')
          | none => none)
        | .one (.gs i n z') =>
          (match Nat.beq z' z, gt none m i with
          | true, some row =>
            (match ckRoom E e (n + k), ck E.lit (Nat.beq (lenF row) (n * z)) (row.length = n * z) with
            | some c2, some c3 => setF m i none fun m1 => snocF m1 (some (row ++ cells)) fun m' => some (c1 ++ (c2 ++ c3), .one (.gs (lenF m) (n + k) z), m')
            | _, _ => none)
          | _, _ => none)
        | _ => none)
      | none => none)
    | _, _, _ => none)
  | _ => none

theorem srcTy_ok {E : Env} (hE : EnvOk X.P E) {t : TypeId} (h : srcTy E t = true) : (∃ e, X.P.underlying t = some (.slice e)) ∨ X.P.underlying t = some .string := by
  unfold srcTy at h
  split at h
  · rename_i e hd
    exact .inl ⟨e, und_slice (d_ok hE hd (by simp)) hd⟩
  · rename_i hd
    obtain ⟨d, h1, h2⟩ := (d_ok hE hd (by simp)).und
    rw [hd] at h2
    cases d <;> simp only [tdOk] at h2
    exact .inr h1
  · cases h

theorem one_cells {N : Nat} {p : Pl} {cs : List AC} {l : List Value} (h : VL X N p cs l) : ∀ u ∈ l, u.oneCell' = true := by
  intro u hu
  obtain ⟨j, hj⟩ := List.getElem?_of_mem hu
  have hlt : j < cs.length := by have := (List.getElem?_eq_some_iff.1 hj).1; have := h.1; omega
  exact (h.2 j _ u (List.getElem?_eq_getElem hlt) hj).oneCell

theorem VL_append {N : Nat} {p : Pl} {a b : List AC} {l k : List Value} (h : VL X N p a l) (g : VL X N p b k) : VL X N p (a ++ b) (l ++ k) := by
  refine ⟨by simp [h.1, g.1], fun j c u h1 h2 => ?_⟩
  rcases Nat.lt_or_ge j a.length with q | q
  · rw [List.getElem?_append_left q] at h1
    rw [List.getElem?_append_left (by rw [← h.1]; exact q)] at h2
    exact h.2 j c u h1 h2
  · rw [List.getElem?_append_right q] at h1
    rw [List.getElem?_append_right (by rw [← h.1]; exact q), ← h.1] at h2
    exact g.2 _ c u h1 h2

theorem grown_le (w : World) {need old : Nat} (e : TypeId) (h : need < 9223372036854775808) : need ≤ grownCap w need old e := by
  simp [grownCap, Question.cut]

/-- a new row: what was there, what is added, and zeros -/
theorem append_grows {ty tx rt e : TypeId} {i : TypeInfo} {z : Value} (ht : X.P.underlying ty = some (.slice e)) (hi : X.P.info? e = some i) (hz : i.zero = some z) {s : Nat} (hs : i.size = s) (hzs : z.cells.size = s)
    {m : Mem} {p : Pl} {w : World} (hm : MR X p m w) {base : Option Addr} {n c k : Nat} {olds cells : List AC} {lo ln : List Value} (h1 : VL X m.length p olds lo) (h2 : VL X m.length p cells ln) (hlo : lo.length = n * s) (hln : ln.length = k * s)
    (hold : (Builtin.firstCells s n (.slice base n c)).run X.P w.drew = .ok lo.toArray w.drew) {vy : Value} (hsrc : Src X.P s tx vy k ln w) (hg : c < n + k) (h63 : n + k ≤ 4611686018427387904) (hb : (n + k) * i.bytes ≤ 140737488355328) (m1 : Mem) (hl1 : m1.length = m.length)
    (hm1 : MR X p m1 w) : EOk X m (Builtin.append_ #[ty, tx] rt #[.slice base n c, vy]) p w (.one (.gs m.length (n + k) s)) (m1 ++ [some (olds ++ cells)]) := by
  subst hs
  have hr := run_append_grow_src (P := X.P) w ty tx rt e i z ht hi hz base n c lo hold vy k ln hsrc hg (by omega) (growslice_fits hg hb)
  have hcap : n + k ≤ grownCap w (n + k) c e := grown_le w e (by omega)
  generalize grownCap w (n + k) c e = g at hr hcap
  have hzl : (Builtin.zeroCells z.cells (g - (n + k))).size = (g - (n + k)) * i.size := by simp [Builtin.zeroCells, hzs]
  let L : List Value := lo ++ ln ++ (Builtin.zeroCells z.cells (g - (n + k))).toList
  have hL : L.toArray = (lo ++ ln).toArray ++ Builtin.zeroCells z.cells (g - (n + k)) := by
    apply Array.ext'
    simp [L]
  have hLl : L.length = g * i.size := by
    simp only [L, List.length_append, hlo, hln, Array.length_toList, hzl]
    rw [← Nat.add_mul, ← Nat.add_mul]
    congr 1
    omega
  rw [← hL] at hr
  have hv := VL_append h1 h2
  have hmr : MR X (p.put m1.length w.heap.size L.length) (m1 ++ [some (olds ++ cells)]) (w.drew.alloc (.cells L.toArray e)) := by
    refine hm1.alloc (fr := (0, 0)) (.inl rfl) ?_ ?_ rfl rfl rfl rfl
    · rw [hv.1]; simp [L]
    · intro j cc u hj hu
      have hlt : j < (lo ++ ln).length := by rw [← hv.1]; exact (List.getElem?_eq_some_iff.1 hj).1
      rw [hl1]
      refine hv.2 j cc u hj ?_
      rw [← hu]
      exact (List.getElem?_append_left hlt).symm
  rw [hl1] at hmr
  refine ⟨p.put m.length w.heap.size L.length, _, _, hr, .put _ _ _ _, by simp [hl1], ?_, hmr⟩
  rw [List.length_append, hl1]
  exact .one _ _ (VR.gs_new _ _ _ _ _ _ _ hcap (by rw [hLl]; exact Nat.le_refl _))

theorem evAppend_ok {E : Env} (hE : EnvOk X.P E) {ty tx rt : TypeId} {x y : AV} {cs : List Prop} {v : AV} {m' : Mem} (h : evAppend E m ty tx x y = some (cs, v, m')) (hc : AllC cs) {p : Pl} {w : World} (hm : MR X p m w) {vx vy : Value}
    (hx : VA X m.length p x vx) (hy : VA X m.length p y vy) : EOk X m (Builtin.append_ #[ty, tx] rt #[vx, vy]) p w v m' := by
  unfold evAppend at h
  split at h
  · rename_i e hd
    have hu := und_slice (d_ok hE hd (by simp)) hd
    split at h
    · rename_i z yc hst hz
      rw [Bool.and_eq_true] at hst
      obtain ⟨hst, hzl⟩ := hst
      have hzl := beq_true hzl
      rw [lenF_eq] at hzl
      obtain ⟨he, hsz, hz1⟩ := esz_ok hE hz
      obtain ⟨i, hi1, hi2, hi3, zv, hiz, hz2⟩ := he.info
      have his : i.size = z := by rw [hi2, hsz]
      have hw : ∀ w, (Go.sizeOf e).run X.P w = .ok z w := fun w => by rw [hsz]; exact he.szrun w
      have hkind := srcTy_ok hE hst
      split at h
      · rename_i c1 cells k hsrc
        have hsrcS : ∀ {c1 : List Prop}, AllC c1 → srcC E.lit m z yc = some (c1, cells, k) → ∃ ln, VL X m.length p cells ln ∧ ln.length = k * z ∧ Src X.P z tx vy k ln w := by
          intro c1 hc1 hsrc
          obtain ⟨f1, f2, f3⟩ := srcC_ok hm hsrc hc1 hy.one_inv
          obtain ⟨ln, l1, l2⟩ := f3 k (Nat.le_refl _)
          have ht : cells.take (k * z) = cells := List.take_of_length_le (by rw [f2]; exact Nat.le_refl _)
          rw [ht] at l1
          exact ⟨ln, l1, by rw [← l1.1, f2], hkind, f1, l2 w ⟨hm, fun _ _ _ _ => rfl⟩, l2 w.drew ⟨hm.drew, fun _ _ _ _ => rfl⟩, by rw [← l1.1, f2], one_cells l1⟩
        -- onto nothing
        have nilCase : ∀ {c2 : List Prop}, ckRoom E e k = some c2 → AllC c1 → AllC c2 → ∀ (m1 : Mem) (row : List AC), row = [] → m1.length = m.length → MR X p m1 w →
            EOk X m (Builtin.append_ #[ty, tx] rt #[.slice none 0 0, vy]) p w (.one (.gs m.length k z)) (m1 ++ [some (row ++ cells)]) := by
          intro c2 hr hc1 hc2 m1 row hrow hl1 hm1
          subst hrow
          obtain ⟨r1, r2⟩ := ckRoom_ok hr hc2
          obtain ⟨ln, l1, l2, l3⟩ := hsrcS hc1 hsrc
          rcases Nat.eq_zero_or_pos k with h0 | hpos
          · subst h0
            have hl0 : ln = [] := List.length_eq_zero_iff.1 (by rw [l2]; simp)
            have hc0 : cells = [] := List.length_eq_zero_iff.1 (by rw [l1.1, hl0]; rfl)
            subst hl0; subst hc0
            have hcells := l3.cells
            have hlen := l3.len
            have hmr := hm1.snoc0 0
            rw [hl1] at hmr
            refine ⟨p.put m.length 0 0, .slice none 0 0, w, ?_, .put _ _ _ _, by simp [hl1], .one _ _ (.gsn _ _), hmr⟩
            rcases l3.kind with ⟨e', hk⟩ | hk <;> simp [Builtin.append_, run_underlying hu, run_underlying hk, Go.sizeOf, typeInfo, hi1, his, hlen, hcells]
          · have := append_grows (rt := rt) hu hi1 hiz his (by have := (hz2 X m.length p).1; simp at this; omega) hm (base := none) (n := 0) (c := 0) (olds := []) (lo := []) ⟨rfl, fun j c u h => by simp at h⟩ l1 (by simp) l2
              (by simp [Builtin.firstCells]) l3 (by omega) (by omega) (by rw [hi3]; simpa using r1) m1 hl1 hm1
            simpa using this
        split at h
        · split at h
          · rename_i c2 hr
            rw [snocF_eq, lenF_eq] at h
            simp only [Option.some.injEq, Prod.mk.injEq] at h
            obtain ⟨rfl, rfl, rfl⟩ := h
            obtain ⟨g1, g2⟩ := AllC_append' hc
            have := hx.one_inv
            cases this
            exact nilCase hr g1 g2 m [] rfl rfl hm
          · cases h
        · rename_i i0 n z'
          split at h
          · rename_i row hzz hrow
            have hzz := beq_true hzz
            subst hzz
            split at h
            · rename_i c2 c3 hr hck
              rw [setF_eq, snocF_eq, lenF_eq] at h
              simp only [Option.some.injEq, Prod.mk.injEq] at h
              obtain ⟨rfl, rfl, rfl⟩ := h
              obtain ⟨g1, g2⟩ := AllC_append' hc
              obtain ⟨g3, g4⟩ := AllC_append' g2
              have hrl : row.length = n * z' := ck_ok hck (fun hb => by have := beq_true hb; rwa [lenF_eq] at this) g4
              obtain ⟨r1, r2⟩ := ckRoom_ok hr g3
              have hrow := gt_mem hrow
              have hkill : MR X p (m.set i0 none) w := hm.kill i0 rfl rfl rfl (Nat.le_refl _) (fun _ _ _ => rfl)
              have hlk : (m.set i0 none).length = m.length := by simp
              have hgs := hx.one_inv
              cases hgs with
              | gsn =>
                have hr0 : row = [] := List.length_eq_zero_iff.1 (by rw [hrl]; simp)
                have := nilCase (c2 := c2) (by simpa using hr) g1 g3 (m.set i0 none) row hr0 hlk hkill
                simpa using this
              | gs _ _ _ c hlt hcn hcz =>
                obtain ⟨ln, l1, l2, l3⟩ := hsrcS g1 hsrc
                rcases hm.blk i0 row hrow with ⟨hz0, hr0⟩ | ⟨hz0, hbk⟩
                · -- a block without cells
                  have hc0 : c = 0 := by
                    rcases Nat.eq_zero_or_pos c with h | h
                    · exact h
                    · have : 1 * 1 ≤ c * z' := Nat.mul_le_mul h hz1
                      omega
                  have hn0 : n = 0 := by omega
                  subst hc0; subst hn0; subst hr0
                  rcases Nat.eq_zero_or_pos k with h0 | hpos
                  · subst h0
                    have hl0 : ln = [] := List.length_eq_zero_iff.1 (by rw [l2]; simp)
                    have hcl : cells = [] := List.length_eq_zero_iff.1 (by rw [l1.1, hl0]; rfl)
                    subst hl0; subst hcl
                    have hcells := l3.cells
                    have hlen := l3.len
                    have hmr := hkill.snoc0 (p.at_ i0)
                    rw [hlk] at hmr
                    refine ⟨p.put m.length (p.at_ i0) 0, .slice (some ⟨p.at_ i0, 0, none⟩) 0 0, w, ?_, .put _ _ _ _, by simp, ?_, hmr⟩
                    · rcases l3.kind with ⟨e', hk⟩ | hk <;> simp [Builtin.append_, run_underlying hu, run_underlying hk, Go.sizeOf, typeInfo, hi1, his, hlen, hcells, storeCells]
                    · rw [List.length_append, hlk]
                      exact .one _ _ (VR.gs_new _ _ _ _ _ _ _ (Nat.le_refl _) (by simp))
                  · exact append_grows (rt := rt) hu hi1 hiz his (by have := (hz2 X m.length p).1; simp at this; omega) hm (n := 0) (c := 0) (olds := []) (lo := []) ⟨rfl, fun j c u h => by simp at h⟩ l1 (by simp) l2
                      (by simp [Builtin.firstCells, loadCells, loadCellsFrom]) l3 (by omega) (by omega) (by rw [hi3]; simpa using r1) _ hlk hkill
                · obtain ⟨vs, tyb, fr, b1, b2, b3, b4, b5⟩ := hbk.ex
                  rcases Nat.lt_or_ge c (n + k) with hlt2 | hge
                  · -- no room
                    obtain ⟨lo, o1, o2, o3⟩ := (RowAt.own hm hrow (wb := w)).cells 0 (n * z') (by omega)
                    simp only [List.drop_zero, Nat.add_zero] at o2 o3
                    rw [List.take_of_length_le (by omega)] at o2
                    exact append_grows (rt := rt) hu hi1 hiz his (by have := (hz2 X m.length p).1; simp at this; omega) hm o2 l1 o1 l2 (by simpa [Builtin.firstCells] using o3 w.drew ⟨hm.drew, fun _ _ _ _ => rfl⟩) l3 hlt2 (by omega) (by rw [hi3]; exact r1) _ hlk hkill
                  · -- there is room
                    have hfit : n * z' + ln.length ≤ vs.size := by
                      rw [l2, b2, ← Nat.add_mul]
                      exact Nat.le_trans (Nat.mul_le_mul_right _ hge) hcz
                    obtain ⟨w', q1, q2, q3, q4, q5, q6, q7⟩ := run_storeCells (P := X.P) (p.at_ i0) (n * z') tyb fr ln 0 w vs b1 (by rw [b2]; exact frz b4) (one_cells l1) (by simpa using hfit)
                    rw [Nat.add_zero] at q6
                    have hkill' : MR X p (m.set i0 none) w' := hm.kill i0 q2 q3 q4 (by omega) (fun cc hcc hne => q7 cc (hne row hrow hz0))
                    have hlay : (lay vs.toList (n * z') ln).toArray.size = p.sz i0 := by simp; rw [lay_length _ _ _ (by simpa using hfit)]; simpa using b2
                    have hblk : BlkAt X (m.set i0 none).length p w' (p.at_ i0) (p.sz i0) (row ++ cells) := by
                      rw [hlk]
                      refine ⟨_, tyb, fr, q6, hlay, ?_, b4, ?_⟩
                      · rw [List.length_append, hrl, l1.1, ← b2]; exact hfit
                      · intro j cc u hj hu
                        simp only [List.getElem?_toArray] at hu
                        have hvl : VL X m.length p row (vs.toList.take row.length) := ⟨by simp; omega, fun j c u a1 a2 => by
                          have : j < row.length := (List.getElem?_eq_some_iff.1 a1).1
                          rw [List.getElem?_take_of_lt this] at a2
                          exact b5 j c u a1 (by simpa using a2)⟩
                        have hall := VL_append hvl l1
                        have hjl : j < (row ++ cells).length := (List.getElem?_eq_some_iff.1 hj).1
                        refine hall.2 j cc u hj ?_
                        rcases Nat.lt_or_ge j row.length with a | a
                        · rw [lay_lt _ _ _ (by simpa using hfit) (by omega)] at hu
                          rw [List.getElem?_append_left (by simp; omega), List.getElem?_take_of_lt a]
                          exact hu
                        · rw [lay_mid _ _ _ (by simpa using hfit) (by omega) (by rw [List.length_append, l1.1] at hjl; omega)] at hu
                          rw [List.getElem?_append_right (by simp; omega), ← hu]
                          congr 1
                          simp
                          omega
                    have hmr := hkill'.snoc hz0 hblk (hm.new i0 row hrow hz0) (by
                      intro j r hj hzj e0
                      rw [List.getElem?_set] at hj
                      by_cases ej : i0 = j
                      · subst ej; rw [if_pos rfl] at hj; split at hj <;> cases hj
                      · rw [if_neg ej] at hj
                        exact ej (hm.inj i0 j row r hrow hj hz0 hzj e0.symm))
                    rw [hlk] at hmr
                    refine ⟨p.put m.length (p.at_ i0) (p.sz i0), .slice (some ⟨p.at_ i0, 0, none⟩) (n + k) c, w', ?_, .put _ _ _ _, by simp, ?_, hmr⟩
                    · have hcells := l3.cells
                      have hlen := l3.len
                      rcases l3.kind with ⟨e', hk⟩ | hk <;> simp [Builtin.append_, run_underlying hu, run_underlying hk, Go.sizeOf, typeInfo, hi1, his, hlen, hge, hcells, Addr.add_lit, q1]
                    · rw [List.length_append, hlk]
                      exact .one _ _ (VR.gs_new _ _ _ _ _ _ _ hge hcz)
            · cases h
          · cases h
        · cases h
      · cases h
    · cases h
  · cases h
end
end DH
