/- The layer: abstract values, operations on them, and that the machine follows. -/
import Derived.Test.YtdnggeocdocomaaA6
import Derived.DeepKeys
set_option linter.unusedVariables false
set_option linter.unusedSimpArgs false
namespace DH
open Go

/-! '==' of arrays and structs -/

def fitV : EK → Value → Prop
  | .bool, .bool _ => True
  | .int k, .int k' n => k' = k ∧ (Lit.int k n).wf = true
  | .str, .string s => s.size ≤ maxLen
  | _, _ => False

def fits : List EK → List Value → Prop
  | [], [] => True
  | k :: ks, v :: vs => fitV k v ∧ fits ks vs
  | _, _ => False

def litV : Value → Lit
  | .bool b => .bool b
  | .int k n => .int k n
  | .string s => .string s.data.toList
  | _ => .bool false

theorem fits_length : ∀ {ks : List EK} {l : List Value}, fits ks l → l.length = ks.length
  | [], [], _ => rfl
  | _ :: ks, _ :: l, h => by simp [fits_length h.2]
  | [], _ :: _, h => h.elim
  | _ :: _, [], h => h.elim

theorem fits_append : ∀ {a b : List EK} {l : List Value}, fits (a ++ b) l → fits a (l.take a.length) ∧ fits b (l.drop a.length)
  | [], b, l, h => by simpa [fits] using h
  | k :: a, b, [], h => h.elim
  | k :: a, b, v :: l, h => by
    obtain ⟨h1, h2⟩ := h
    obtain ⟨h3, h4⟩ := fits_append h2
    exact ⟨⟨h1, h3⟩, h4⟩

theorem take_drop_append (l : List Lit) : ∀ (o n : Nat), ((l.drop o).take n) ++ (l.drop (o + n)) = l.drop o := by
  intro o n
  rw [← List.drop_drop, List.take_append_drop]

theorem mapM_some {α β : Type} (f : α → Option β) (g : α → β) : ∀ l : List α, (∀ x ∈ l, f x = some (g x)) → l.mapM f = some (l.map g)
  | [], _ => by simp
  | x :: l, h => by
    rw [List.mapM_cons, h x (by simp), mapM_some f g l (fun y hy => h y (by simp [hy]))]
    rfl

theorem flat_chunks (c : Nat) (l : List Value) : ∀ (n k : Nat), l.length = (k + n) * c → ((List.range' k n).map fun i => ((l.drop (i * c)).take c).map litV).flatten = (l.drop (k * c)).map litV
  | 0, k, h => by simp at h; rw [List.drop_eq_nil_of_le (by omega)]; simp
  | n + 1, k, h => by
    rw [List.range'_succ, List.map_cons, List.flatten_cons, flat_chunks c l n (k + 1) (by rw [h]; congr 1; omega), ← List.map_append]
    congr 1
    rw [show (k + 1) * c = k * c + c by rw [Nat.add_mul, Nat.one_mul], ← List.drop_drop, List.take_append_drop]

theorem fits_rep {ks : List EK} : ∀ {n : Nat} {l : List Value}, fits (List.replicate n ks).flatten l → ∀ i, i < n → fits ks ((l.drop (i * ks.length)).take ks.length)
  | 0, l, h, i, hi => by omega
  | n + 1, l, h, i, hi => by
    rw [List.replicate_succ, List.flatten_cons] at h
    obtain ⟨h1, h2⟩ := fits_append h
    cases i with
    | zero => simpa using h1
    | succ i =>
      have := fits_rep h2 i (by omega)
      rw [List.drop_drop] at this
      rw [show (i + 1) * ks.length = ks.length + i * ks.length by rw [Nat.add_mul, Nat.one_mul, Nat.add_comm]]
      exact this

theorem keyLits_of {P : Program} : ∀ (d : Nat) (t : TypeId) (ks : List EK) (l : List Value), kindsT P d t = some ks → fits ks l → P.keyLits d t l = some (l.map litV)
  | 0, t, ks, l, h, _ => by simp [kindsT] at h
  | d + 1, t, ks, l, h, hf => by
    unfold kindsT at h
    unfold Program.keyLits
    split at h
    · rename_i hu
      injection h with h; subst h
      match l, hf with
      | [v], hf =>
        cases v <;> simp only [fits, fitV] at hf <;> first | exact hf.1.elim | skip
        simp [hu, litV]
    · rename_i k hu
      injection h with h; subst h
      match l, hf with
      | [v], hf =>
        cases v <;> simp only [fits, fitV] at hf <;> first | exact hf.1.elim | skip
        obtain ⟨⟨rfl, hw⟩, _⟩ := hf
        simp [hu, litV, hw]
    · rename_i hu
      injection h with h; subst h
      match l, hf with
      | [v], hf =>
        cases v <;> simp only [fits, fitV] at hf <;> first | exact hf.1.elim | skip
        simp [hu, litV, hf.1]
    · rename_i n e hu
      split at h
      · rename_i ks' hk
        split at h
        · rename_i hl
          injection h with h; subst h
          have hlen := fits_length hf
          have hlen' : l.length = n * ks'.length := by rw [hlen]; simp [List.length_flatten]
          have hall : ∀ i ∈ List.range n, P.keyLits d e ((l.drop (i * P.cellsOf e)).take (P.cellsOf e)) = some (((l.drop (i * P.cellsOf e)).take (P.cellsOf e)).map litV) := by
            intro i hi
            rw [← hl.1]
            exact keyLits_of d e ks' _ hk (fits_rep hf i (List.mem_range.1 hi))
          simp only [hu]
          rw [if_pos (by rw [hlen', hl.2]), mapM_some _ _ _ hall]
          simp only [Option.map_some, Option.some.injEq]
          have := flat_chunks (P.cellsOf e) l n 0 (by rw [hlen', Nat.zero_add, hl.1])
          rw [List.range_eq_range', this]
          simp
        · cases h
      · cases h
    · rename_i fs hu
      split at h
      · rename_i ks' hk
        split at h
        · rename_i hl
          injection h with h; subst h
          have hlen := fits_length hf
          simp only [hu]
          rw [if_pos ⟨by rw [hlen]; exact hl.1, hl.2⟩]
          have key : ∀ (fl : List Field) (o : Nat) (kk : List EK), kindsF P (kindsT P d) fl o = some kk → o + kk.length = l.length → fits kk (l.drop o) →
              (fl.mapM fun f => P.keyLits d f.type ((l.drop f.offset).take (P.cellsOf f.type))).map List.flatten = some ((l.drop o).map litV) := by
            intro fl
            induction fl with
            | nil =>
              intro o kk h1 h2 h3
              simp only [kindsF, Option.some.injEq] at h1; subst h1
              have : l.drop o = [] := List.drop_eq_nil_of_le (by simp at h2; omega)
              simp [this]
            | cons f fl ih =>
              intro o kk h1 h2 h3
              unfold kindsF at h1
              split at h1
              · rename_i k1 k2 e1 e2
                split at h1
                · rename_i hc
                  injection h1 with h1; subst h1
                  obtain ⟨g1, g2⟩ := fits_append h3
                  rw [List.drop_drop, hc.2] at g2
                  have := ih (o + P.cellsOf f.type) k2 e2 (by rw [← h2, ← hc.2]; simp; omega) g2
                  rw [List.mapM_cons, hc.1, keyLits_of d f.type k1 _ e1 (by rw [← hc.2]; exact g1)]
                  simp only [Option.map_eq_some_iff] at this
                  obtain ⟨r, hr, hr2⟩ := this
                  rw [hr]
                  simp only [Option.pure_def, Option.bind_eq_bind, Option.bind_some, Option.map_some, List.flatten_cons, hr2]
                  rw [← List.map_append, ← List.drop_drop, List.take_append_drop]
                · cases h1
              · cases h1
          have := key fs.toList 0 ks' hk (by simpa using hlen.symm) (by simpa using hf)
          simpa using this
        · cases h
      · cases h
    · cases h

/-- do cells fit those of a type? -/
def fitC : AC → AC → Prop
  | .u8 _, .u8 _ => True
  | .u16 _, .u16 _ => True
  | .u32 _, .u32 _ => True
  | .u64 _, .u64 _ => True
  | .i64 _, .i64 n => in64 n
  | .b _, .b _ => True
  | _, _ => False

def fitCs : List AC → List AC → Prop
  | [], [] => True
  | z :: zs, c :: cs => fitC z c ∧ fitCs zs cs
  | _, _ => False

def fitB : AC → AC → Bool
  | .u8 _, .u8 _ => true
  | .u16 _, .u16 _ => true
  | .u32 _, .u32 _ => true
  | .u64 _, .u64 _ => true
  | .i64 _, .i64 n => in64B n
  | .b _, .b _ => true
  | _, _ => false

def fitBs : List AC → List AC → Bool
  | [], [] => true
  | z :: zs, c :: cs => fitB z c && fitBs zs cs
  | _, _ => false

theorem fitB_ok {z c : AC} (h : fitB z c = true) : fitC z c := by
  cases z <;> cases c <;> first | trivial | (simp only [fitB] at h; exact in64B_ok h) | cases h

theorem fitBs_ok : ∀ {zs cs : List AC}, fitBs zs cs = true → fitCs zs cs
  | [], [], _ => trivial
  | z :: zs, c :: cs, h => by simp only [fitBs, Bool.and_eq_true] at h; exact ⟨fitB_ok h.1, fitBs_ok h.2⟩
  | [], _ :: _, h => by cases h
  | _ :: _, [], h => by cases h

theorem wf_u {n : Nat} (k : IntKind) (hk : k.signed = false) (hn : k.bits = n) (x : BitVec n) : (Lit.int k (x.toNat : Int)).wf = true := by
  have := x.isLt
  have h1 : ((2 ^ n : Nat) : Int) = (2 : Int) ^ n := by simp
  subst hn
  simp [Lit.wf, IntKind.min, IntKind.max, hk]
  omega

theorem wf_i64 {n : Int} (h : in64 n) : (Lit.int .i64 n).wf = true := by
  unfold in64 at h
  simp [Lit.wf, IntKind.min, IntKind.max, IntKind.signed, IntKind.bits]
  omega

theorem fitC_ok {X : Ctx} {N : Nat} {p : Pl} {z c : AC} {k : EK} {v : Value} (hz : ekOf z = some k) (hc : fitC z c) (hv : VR X N p c v) : fitV k v := by
  cases z <;> cases c <;> first | exact hc.elim | skip
  all_goals simp only [ekOf, Option.some.injEq] at hz
  all_goals subst hz
  all_goals cases hv
  · exact ⟨rfl, wf_u .u8 rfl rfl _⟩
  · exact ⟨rfl, wf_u .u16 rfl rfl _⟩
  · exact ⟨rfl, wf_u .u32 rfl rfl _⟩
  · exact ⟨rfl, wf_u .u64 rfl rfl _⟩
  · exact ⟨rfl, wf_i64 hc⟩
  · trivial

theorem fitCs_ok {X : Ctx} {N : Nat} {p : Pl} : ∀ {zs cs : List AC} {ks : List EK} {l : List Value}, zs.map ekOf = ks.map some → fitCs zs cs → VL X N p cs l → fits ks l
  | [], [], [], [], _, _, _ => trivial
  | [], [], [], _ :: _, _, _, h => by have := h.1; simp at this
  | [], [], _ :: _, _, h, _, _ => by simp at h
  | [], _ :: _, _, _, _, h, _ => h.elim
  | _ :: _, [], _, _, _, h, _ => h.elim
  | _ :: _, _ :: _, [], _, h, _, _ => by simp at h
  | _ :: _, _ :: _, _ :: _, [], _, _, h => by have := h.1; simp at this
  | z :: zs, c :: cs, k :: ks, v :: l, h, hf, hv => by
    simp only [List.map_cons, List.cons.injEq] at h
    exact ⟨fitC_ok h.1 hf.1 (hv.2 0 c v rfl rfl), fitCs_ok h.2 hf.2 ⟨by have := hv.1; simp at this; exact this, fun j c u h1 h2 => hv.2 (j + 1) c u (by simpa using h1) (by simpa using h2)⟩⟩

theorem lit_inj1 {X : Ctx} {N : Nat} {p : Pl} {z c d : AC} {u v : Value} (h1 : fitC z c) (h2 : fitC z d) (hu : VR X N p c u) (hv : VR X N p d v) : litV u = litV v ↔ c = d := by
  cases z <;> cases c <;> first | exact h1.elim | skip
  all_goals cases d <;> first | exact h2.elim | skip
  all_goals cases hu
  all_goals cases hv
  all_goals simp [litV, cast_inj]

theorem lit_inj {X : Ctx} {N : Nat} {p : Pl} : ∀ {zs cs ds : List AC} {l r : List Value}, fitCs zs cs → fitCs zs ds → VL X N p cs l → VL X N p ds r → (l.map litV = r.map litV ↔ cs = ds)
  | [], [], [], l, r, _, _, hl, hr => by
    have h1 : l = [] := List.length_eq_zero_iff.1 hl.1.symm
    have h2 : r = [] := List.length_eq_zero_iff.1 hr.1.symm
    simp [h1, h2]
  | [], _ :: _, _, _, _, h, _, _, _ => h.elim
  | [], [], _ :: _, _, _, _, h, _, _ => h.elim
  | _ :: _, [], _, _, _, h, _, _, _ => h.elim
  | _ :: _, _ :: _, [], _, _, _, h, _, _ => h.elim
  | z :: zs, c :: cs, d :: ds, [], _, _, _, hl, _ => by have := hl.1; simp at this
  | z :: zs, c :: cs, d :: ds, _ :: _, [], _, _, _, hr => by have := hr.1; simp at this
  | z :: zs, c :: cs, d :: ds, u :: l, v :: r, h1, h2, hl, hr => by
    have g1 := lit_inj1 h1.1 h2.1 (hl.2 0 c u rfl rfl) (hr.2 0 d v rfl rfl)
    have g2 := lit_inj (l := l) (r := r) h1.2 h2.2 ⟨by have := hl.1; simp at this; exact this, fun j c u h1 h2 => hl.2 (j + 1) c u (by simpa using h1) (by simpa using h2)⟩
      ⟨by have := hr.1; simp at this; exact this, fun j c u h1 h2 => hr.2 (j + 1) c u (by simpa using h1) (by simpa using h2)⟩
    simp only [List.map_cons, List.cons.injEq, g1, g2]

open Classical in
noncomputable def sameCells (cs ds : List AC) : Bool := decide (cs = ds)

theorem equal_agg {X : Ctx} {N : Nat} {p : Pl} {t : TypeId} {ti : TI} (ht : TyOk X.P t ti) (he : ti.eq = true) (hagg : ti.agg = true) {cs ds : List AC} {l r : List Value} (h1 : fitCs ti.zero cs) (h2 : fitCs ti.zero ds)
    (hl : VL X N p cs l) (hr : VL X N p ds r) (w : World) : (Op.equal t (.agg l.toArray) (.agg r.toArray)).run X.P w = .ok (sameCells cs ds) w := by
  obtain ⟨hk, hkey, _⟩ := ht.eq he
  cases hks : kindsT X.P 40 t with
  | none => rw [hks] at hk; cases hk
  | some ks =>
    rw [hks] at hk
    simp only [Option.map_some, Option.some.injEq] at hk
    have f1 := fitCs_ok hk.symm h1 hl
    have f2 := fitCs_ok hk.symm h2 hr
    obtain ⟨d, hu, hd⟩ := ht.und
    obtain ⟨i, hi, hsz, _⟩ := ht.info
    have hform : ∀ q : List Value, fits ks q → Value.formed X.P t (.agg q.toArray) = true := by
      intro q hq
      have hlen := fits_length hq
      have hcell : ks.length = X.P.cellsOf t := by
        unfold kindsT at hks
        have hag := ht.agg
        rw [hagg] at hag
        rw [hu] at hks
        revert hd hag
        cases htd : ti.d <;> intro hd hag <;> first | cases hag; done | skip
        · cases d <;> simp only [tdOk] at hd
          dsimp only at hks
          split at hks
          · split at hks
            · rename_i hc; injection hks with hks; subst hks; simp [List.length_flatten]; exact hc.2
            · cases hks
          · cases hks
        · cases d <;> simp only [tdOk] at hd
          dsimp only at hks
          split at hks
          · split at hks
            · rename_i hc; injection hks with hks; subst hks; exact hc.1
            · cases hks
          · cases hks
      have hag := ht.agg
      rw [hagg] at hag
      simp only [Value.formed, hu]
      revert hd hag
      cases htd : ti.d <;> intro hd hag <;> first | cases hag; done | skip
      · cases d <;> simp only [tdOk] at hd
        simp [hlen, hcell]
      · cases d <;> simp only [tdOk] at hd
        simp [hlen, hcell]
    obtain ⟨b, hb1, hb2⟩ := run_equalIn_deep (P := X.P) 9960 40 t hkey w 40 40 (.agg l.toArray) (.agg r.toArray) (l.map litV) (r.map litV) (hform l f1) (hform r f2)
      (by simpa [Value.cells] using keyLits_of 40 t ks l hks f1) (by simpa [Value.cells] using keyLits_of 40 t ks r hks f2)
    have : b = sameCells cs ds := by
      rw [Bool.eq_iff_iff, hb2, lit_inj h1 h2 hl hr]
      simp [sameCells]
    rw [← this]
    exact hb1
end DH
