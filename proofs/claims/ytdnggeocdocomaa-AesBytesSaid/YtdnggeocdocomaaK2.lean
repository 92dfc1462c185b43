/- Walks of functions, each by evaluation: what each returns. -/
import Derived.Test.YtdnggeocdocomaaK1
import Derived.Deep.Slices
import Derived.ChangeArms
import Derived.OpenShut
set_option linter.unusedVariables false
set_option linter.unusedSimpArgs false
namespace DH
open Go Go.ChangeShapes Go.WideShapes Go.Deep

/-! What comes in: data of a shape, and the cells that it lies in. -/

inductive Sh where
  | bool | u8 | u16 | u32 | u64 | i64 | i32 | str | flt
  | sl (s : Sh) | ar (n : Nat) (s : Sh) | st (l : Sh) | nil | cons (s t : Sh)

def Sh.T : Sh → Type
  | .bool => Bool
  | .u8 => BitVec 8
  | .u16 => BitVec 16
  | .u32 => BitVec 32
  | .u64 => BitVec 64
  | .i64 => Int
  | .i32 => Int
  | .str => List (BitVec 8)
  | .flt => Nat
  | .sl s => List s.T
  | .ar _ s => List s.T
  | .st l => l.T
  | .nil => Unit
  | .cons s t => s.T × t.T

def Sh.enc : (s : Sh) → s.T → List AC
  | .bool, b => [.b b]
  | .u8, x => [.u8 x]
  | .u16, x => [.u16 x]
  | .u32, x => [.u32 x]
  | .u64, x => [.u64 x]
  | .i64, n => [.i64 n]
  | .i32, n => [.i32 n]
  | .str, l => [.s l]
  | .flt, n => [.f n]
  | .sl s, l => [.xs (List.flatMap s.enc l) 0 (List.length l)]
  | .ar _ s, l => List.flatMap s.enc l
  | .st l, x => l.enc x
  | .nil, _ => []
  | .cons s t, x => s.enc x.1 ++ t.enc x.2

def Sh.wf : (s : Sh) → s.T → Prop
  | .i64, n => -9223372036854775808 ≤ (show Int from n) ∧ (show Int from n) < 9223372036854775808
  | .i32, n => -2147483648 ≤ (show Int from n) ∧ (show Int from n) < 2147483648
  | .flt, n => (show Nat from n) < 18446744073709551616
  | .str, l => (List.length (α := BitVec 8) l) ≤ maxLen
  | .sl s, l => (List.length (α := s.T) l) ≤ maxLen ∧ ∀ x : s.T, List.Mem x l → s.wf x
  | .ar n s, l => (List.length (α := s.T) l) = n ∧ ∀ x : s.T, List.Mem x l → s.wf x
  | .st l, x => l.wf x
  | .cons s t, x => s.wf x.1 ∧ t.wf x.2
  | .bool, _ => True
  | .u8, _ => True
  | .u16, _ => True
  | .u32, _ => True
  | .u64, _ => True
  | .nil, _ => True

def Sh.sz : Sh → Nat
  | .ar n s => n * s.sz
  | .st l => l.sz
  | .nil => 0
  | .cons s t => s.sz + t.sz
  | _ => 1

theorem flatMap_len {α : Type} (f : α → List AC) (k : Nat) : ∀ (l : List α), (∀ x, x ∈ l → (f x).length = k) → (l.flatMap f).length = l.length * k
  | [], _ => by simp
  | x :: l, h => by rw [List.flatMap_cons, List.length_append, h x (by simp), flatMap_len f k l (fun y hy => h y (by simp [hy])), List.length_cons, Nat.add_mul]; omega

theorem Sh.enc_len : ∀ (s : Sh) (x : s.T), s.wf x → (s.enc x).length = s.sz
  | .bool, _, _ => rfl
  | .u8, _, _ => rfl
  | .u16, _, _ => rfl
  | .u32, _, _ => rfl
  | .u64, _, _ => rfl
  | .i64, _, _ => rfl
  | .i32, _, _ => rfl
  | .str, _, _ => rfl
  | .flt, _, _ => rfl
  | .sl _, _, _ => rfl
  | .ar n s, l, h => by
    have := flatMap_len s.enc s.sz l (fun x hx => Sh.enc_len s x (h.2 x hx))
    have h1 : List.length (α := s.T) l = n := h.1
    show (List.flatMap s.enc l).length = n * s.sz
    rw [this, h1]
  | .st l, x, h => Sh.enc_len l x h
  | .nil, _, _ => rfl
  | .cons s t, x, h => by
    show (s.enc x.1 ++ t.enc x.2).length = s.sz + t.sz
    rw [List.length_append, Sh.enc_len s x.1 h.1, Sh.enc_len t x.2 h.2]

mutual
def fitsB (P : Program) : Sh → TypeId → Bool
  | .bool, t => (match P.underlying t with | some .bool => true | _ => false)
  | .u8, t => (match P.underlying t with | some (.int .u8) => true | _ => false)
  | .u16, t => (match P.underlying t with | some (.int .u16) => true | _ => false)
  | .u32, t => (match P.underlying t with | some (.int .u32) => true | _ => false)
  | .u64, t => (match P.underlying t with | some (.int .u64) => true | _ => false)
  | .i64, t => (match P.underlying t with | some (.int .i64) => true | _ => false)
  | .i32, t => (match P.underlying t with | some (.int .i32) => true | _ => false)
  | .str, t => (match P.underlying t with | some .string => true | _ => false)
  | .flt, t => (match P.underlying t with | some (.float .f64) => true | _ => false)
  | .sl s, t => (match P.underlying t with | some (.slice e) => fitsB P s e && (Nat.beq (P.cellsOf e) s.sz && Nat.ble 1 s.sz) | _ => false)
  | .ar n s, t => (match P.underlying t with | some (.array m e) => Nat.beq m n && (fitsB P s e && (Nat.beq (P.cellsOf e) s.sz && Nat.beq (P.cellsOf t) (n * s.sz))) | _ => false)
  | .st l, t => (match P.underlying t with | some (.struct fs) => fieldsB P l fs.toList 0 && Nat.beq (P.cellsOf t) l.sz | _ => false)
  | .nil, _ => false
  | .cons _ _, _ => false
def fieldsB (P : Program) : Sh → List Field → Nat → Bool
  | .nil, [], _ => true
  | .cons s r, f :: fs, o => fitsB P s f.type && (Nat.beq f.offset o && (Nat.beq (P.cellsOf f.type) s.sz && fieldsB P r fs (o + s.sz)))
  | _, _, _ => false
end

section
variable {H : Type} {enc : TypeId × Value → H} {P : Program} {w : World} {spare : Nat → Bool} {held : Bool} {q : Pl}

theorem toBV {n : Nat} {k : IntKind} (hb : k.bits = n) (hs : k.signed = false) {z : Int} (h : (Lit.int k z).wf = true) : z = ((BitVec.ofInt n z).toNat : Int) := by
  subst hb
  simp [Lit.wf, IntKind.min, IntKind.max, hs] at h
  have hp : ((2 ^ k.bits : Nat) : Int) = (2 : Int) ^ k.bits := by simp
  rw [BitVec.toNat_ofInt, hp, Int.emod_eq_of_lt h.1 (by omega)]
  omega

theorem VL_one {X : Ctx} {N : Nat} {p : Pl} {c : AC} {v : Value} (h : VR X N p c v) : VL X N p [c] [v] :=
  ⟨rfl, fun j d u h1 h2 => by cases j with | zero => simp at h1 h2; subst h1; subst h2; exact h | succ j => simp at h1⟩

theorem VL_nil {X : Ctx} {N : Nat} {p : Pl} : VL X N p [] [] := ⟨rfl, fun j d u h1 _ => by simp at h1⟩

/-- pieces of equal length, one behind another -/
theorem VL_flat {α : Type} {X : Ctx} {N : Nat} {p : Pl} (f : α → List AC) (k : Nat) : ∀ (l : List α) (cs : List Value), cs.length = l.length * k →
    (∀ (i : Nat) (x : α), l[i]? = some x → VL X N p (f x) ((cs.drop (i * k)).take k)) → VL X N p (l.flatMap f) cs
  | [], cs, h, _ => by
    have : cs = [] := List.length_eq_zero_iff.1 (by simpa using h)
    subst this
    exact VL_nil
  | x :: l, cs, h, hf => by
    rw [List.length_cons, Nat.add_mul, Nat.one_mul] at h
    have h0 := hf 0 x rfl
    simp only [Nat.zero_mul, List.drop_zero] at h0
    have ih := VL_flat f k l (cs.drop k) (by rw [List.length_drop]; omega) (fun i y hy => by
      have := hf (i + 1) y (by simpa using hy)
      rw [List.drop_drop, show k + i * k = (i + 1) * k by rw [Nat.add_mul]; omega]
      exact this)
    rw [List.flatMap_cons]
    have := VL_append h0 ih
    rwa [List.take_append_drop] at this

theorem cells_take {cs : List Value} {a : Addr} {n k i : Nat} (h : ∀ j, j < n → w.cell? (a.add j) = cs[j]?) (hi : i + k ≤ n) (hl : cs.length = n) : ∀ j, j < k → w.cell? (a.add (i + j)) = ((cs.drop i).take k)[j]? := by
  intro j hj
  rw [h (i + j) (by omega), List.getElem?_take_of_lt hj, List.getElem?_drop]

theorem add_off {a : Addr} (hs : a.spot = none) (j : Nat) : a.add j = ⟨a.block, a.off + j, none⟩ := by
  obtain ⟨b, o, s⟩ := a
  simp only at hs
  subst hs
  exact Addr.add_lit b o j

theorem list_choice {α : Type} {R : Nat → α → Prop} : ∀ (n : Nat), (∀ i, i < n → ∃ y, R i y) → ∃ l : List α, l.length = n ∧ ∀ (i : Nat) (x : α), l[i]? = some x → R i x
  | 0, _ => ⟨[], rfl, fun i x h => by simp at h⟩
  | n + 1, h => by
    obtain ⟨l, hl, hr⟩ := list_choice n (fun i hi => h i (by omega))
    obtain ⟨y, hy⟩ := h n (by omega)
    refine ⟨l ++ [y], by simp [hl], fun i x hx => ?_⟩
    rcases Nat.lt_or_ge i n with g | g
    · rw [List.getElem?_append_left (by omega)] at hx; exact hr i x hx
    · rw [List.getElem?_append_right (by omega)] at hx
      have h1 := (List.getElem?_eq_some_iff.1 hx).1
      simp at h1
      have : i = n := by omega
      subst this
      rw [hl, Nat.sub_self] at hx
      simp at hx
      subst hx
      exact hy

theorem flat_get {α : Type} (f : α → List AC) (k : Nat) (hk : 1 ≤ k) : ∀ (l : List α) (j : Nat), (∀ x, x ∈ l → (f x).length = k) → j < l.length * k → ∃ x, l[j / k]? = some x ∧ (l.flatMap f)[j]? = (f x)[j % k]?
  | [], j, _, h => by simp at h
  | x :: l, j, h, hj => by
    have hx := h x (by simp)
    rw [List.flatMap_cons]
    rcases Nat.lt_or_ge j k with g | g
    · refine ⟨x, by rw [Nat.div_eq_of_lt g]; rfl, ?_⟩
      rw [List.getElem?_append_left (by omega), Nat.mod_eq_of_lt g]
    · rw [List.length_cons, Nat.add_mul, Nat.one_mul] at hj
      obtain ⟨y, h1, h2⟩ := flat_get f k hk l (j - k) (fun y hy => h y (by simp [hy])) (by omega)
      refine ⟨y, ?_, ?_⟩
      · rw [Nat.div_eq_sub_div hk g, List.getElem?_cons_succ]; exact h1
      · rw [List.getElem?_append_right (by omega), hx, h2, Nat.mod_eq_sub_mod g]

theorem in64_wf {n : Int} (h : (Lit.int .i64 n).wf = true) : -9223372036854775808 ≤ n ∧ n < 9223372036854775808 := by
  simp [Lit.wf, IntKind.min, IntKind.max, IntKind.bits, IntKind.signed] at h
  omega

theorem in32_wf {n : Int} (h : (Lit.int .i32 n).wf = true) : -2147483648 ≤ n ∧ n < 2147483648 := by
  simp [Lit.wf, IntKind.min, IntKind.max, IntKind.bits, IntKind.signed] at h
  omega

theorem trod_flt {t : TypeId} {fuel : Nat} {cs : List Value} {x : DataW H × List MemPlace} (ht : P.underlying t = some (.float .f64)) (h : DataW.trod enc P w 0 spare held fuel t cs = some x) : ∃ b, cs = [.float .f64 b] ∧ (Lit.float .f64 b).wf = true := by
  cases fuel with
  | zero => simp [DataW.trod] at h
  | succ n =>
    unfold DataW.trod at h
    simp only [ht] at h
    split at h <;> simp_all

theorem slice_row {e : TypeId} {s : Sh} {a : Addr} {len cap : Nat} (hs : 1 ≤ s.sz) (hlc : len ≤ cap) (l : List s.T) (hl : l.length = len) (hwf : ∀ x, x ∈ l → s.wf x)
    (hc : ∀ (i : Nat) (x : s.T), l[i]? = some x → ∃ cs', w.cells? 0 (a.add (i * s.sz)) s.sz = some cs' ∧ VL (Ctx.all P w []) 0 q (s.enc x) cs') :
    VR (Ctx.all P w []) 0 q (.xs (l.flatMap s.enc) 0 len) (.slice (some a) len cap) := by
  rcases Nat.eq_zero_or_pos len with h0 | hpos
  · subst h0
    exact .xs0 _ _ _ _
  · have hlen : ∀ x, x ∈ l → (s.enc x).length = s.sz := fun x hx => Sh.enc_len s x (hwf x hx)
    -- the address is a plain one, in a block that is there
    obtain ⟨x0, hx0⟩ : ∃ x, l[0]? = some x := ⟨l[0]'(by omega), List.getElem?_eq_getElem _⟩
    obtain ⟨c0, hc0, hv0⟩ := hc 0 x0 hx0
    obtain ⟨_, hl0, hg0⟩ := World.cells?_some hc0
    have hcell0 : ∃ v, w.cell? a = some v := by
      have := hg0 0 (by omega)
      rw [Nat.zero_mul] at this
      have ha : (a.add 0).add 0 = a := rfl
      rw [ha, List.getElem?_eq_getElem (by omega)] at this
      exact ⟨_, this⟩
    obtain ⟨v, hv⟩ := hcell0
    have hspot : a.spot = none := by
      unfold World.cell? at hv
      split at hv
      · split at hv
        · cases hv
        · rename_i hs; cases hsp : a.spot with | none => rfl | some _ => rw [hsp] at hs; exact absurd rfl hs
      · cases hv
    have hblk : a.block < w.heap.size := by
      unfold World.cell? at hv
      split at hv
      · rename_i hh; exact (Array.getElem?_eq_some_iff.1 hh).1
      · cases hv
    have hfact : ∀ (j : Nat) (c : AC), (l.flatMap s.enc)[j]? = some c → ∃ u, w.cell? ⟨a.block, a.off + j, none⟩ = some u ∧ VR (Ctx.all P w []) 0 q c u := by
      intro j c hj
      have hjl : j < l.length * s.sz := by
        have := (List.getElem?_eq_some_iff.1 hj).1
        rwa [flatMap_len s.enc s.sz l hlen] at this
      obtain ⟨x, h1, h2⟩ := flat_get s.enc s.sz hs l j hlen hjl
      obtain ⟨cs', hcs, hvl⟩ := hc _ x h1
      obtain ⟨_, hl', hg'⟩ := World.cells?_some hcs
      have hmod : j % s.sz < s.sz := Nat.mod_lt _ hs
      have h3 := hg' (j % s.sz) hmod
      rw [List.getElem?_eq_getElem (by omega)] at h3
      have haddr : (a.add (j / s.sz * s.sz)).add (j % s.sz) = ⟨a.block, a.off + j, none⟩ := by
        rw [add_off hspot, Addr.add_lit]
        congr 1
        have := Nat.div_add_mod j s.sz
        rw [Nat.mul_comm] at this
        omega
      rw [haddr] at h3
      rw [h2] at hj
      exact ⟨_, h3, hvl.2 _ c _ hj (List.getElem?_eq_getElem _)⟩
    have ha : a = ⟨a.block, a.off, none⟩ := by
      obtain ⟨b, o, sp⟩ := a
      simp only at hspot
      subst hspot
      rfl
    rw [ha]
    refine .xs _ 0 len cap a.block a.off a.block a.off (fun j => (w.cell? ⟨a.block, a.off + j, none⟩).getD undef) q (.inr ⟨⟨hblk, by simp⟩, rfl, rfl⟩) (.inr fun j c hj => ?_) (fun j c hj => ?_) hlc
    · obtain ⟨u, h1, _⟩ := hfact j c hj
      show w.cell? _ = some ((w.cell? _).getD undef)
      rw [h1]
      rfl
    · obtain ⟨u, h1, h2⟩ := hfact j c hj
      show VR _ _ _ c ((w.cell? _).getD undef)
      rw [h1]
      exact h2

theorem uInv {k : IntKind} {n : Nat} (hb : k.bits = n) (hs : k.signed = false) {t : TypeId} {fuel : Nat} {cs : List Value} {x : DataW H × List MemPlace} (hu : P.underlying t = some (.int k)) (h : DataW.trod enc P w 0 spare held fuel t cs = some x) : ∃ y : BitVec n, cs = [.int k y.toNat] := by
  obtain ⟨z, rfl, _, hw⟩ := DataW.trod_int hu h
  exact ⟨BitVec.ofInt n z, by rw [← toBV hb hs hw]⟩

mutual
theorem Sh.opens : ∀ (s : Sh) (t : TypeId) (fuel : Nat) (cs : List Value) (x : DataW H × List MemPlace), fitsB P s t = true → DataW.trod enc P w 0 spare held fuel t cs = some x → ∃ y : s.T, s.wf y ∧ VL (Ctx.all P w []) 0 q (s.enc y) cs
  | .bool, t, fuel, cs, x, hf, h => by
    unfold fitsB at hf
    split at hf
    · rename_i hu
      obtain ⟨b, rfl, _⟩ := DataW.trod_bool hu h
      exact ⟨b, trivial, VL_one (.b b)⟩
    · cases hf
  | .u8, t, fuel, cs, x, hf, h => by
    unfold fitsB at hf
    split at hf
    · rename_i hu
      obtain ⟨y, rfl⟩ := uInv rfl rfl hu h
      exact ⟨y, trivial, VL_one (.u8 y)⟩
    · cases hf
  | .u16, t, fuel, cs, x, hf, h => by
    unfold fitsB at hf
    split at hf
    · rename_i hu
      obtain ⟨y, rfl⟩ := uInv rfl rfl hu h
      exact ⟨y, trivial, VL_one (.u16 y)⟩
    · cases hf
  | .u32, t, fuel, cs, x, hf, h => by
    unfold fitsB at hf
    split at hf
    · rename_i hu
      obtain ⟨y, rfl⟩ := uInv rfl rfl hu h
      exact ⟨y, trivial, VL_one (.u32 y)⟩
    · cases hf
  | .u64, t, fuel, cs, x, hf, h => by
    unfold fitsB at hf
    split at hf
    · rename_i hu
      obtain ⟨y, rfl⟩ := uInv rfl rfl hu h
      exact ⟨y, trivial, VL_one (.u64 y)⟩
    · cases hf
  | .i64, t, fuel, cs, x, hf, h => by
    unfold fitsB at hf
    split at hf
    · rename_i hu
      obtain ⟨z, rfl, _, hw⟩ := DataW.trod_int hu h
      exact ⟨z, in64_wf hw, VL_one (.i64 z)⟩
    · cases hf
  | .i32, t, fuel, cs, x, hf, h => by
    unfold fitsB at hf
    split at hf
    · rename_i hu
      obtain ⟨z, rfl, _, hw⟩ := DataW.trod_int hu h
      exact ⟨z, in32_wf hw, VL_one (.i32 z)⟩
    · cases hf
  | .str, t, fuel, cs, x, hf, h => by
    unfold fitsB at hf
    split at hf
    · rename_i hu
      obtain ⟨b, rfl, _, hb⟩ := DataW.trod_string hu h
      refine ⟨b.data.toList.map UInt8.toBitVec, ?_, VL_one (.s _ b rfl)⟩
      show (b.data.toList.map UInt8.toBitVec).length ≤ maxLen
      simpa using hb
    · cases hf
  | .flt, t, fuel, cs, x, hf, h => by
    unfold fitsB at hf
    split at hf
    · rename_i hu
      obtain ⟨b, rfl, hb⟩ := trod_flt hu h
      refine ⟨b, ?_, VL_one (.f b)⟩
      show b < 18446744073709551616
      simpa [Lit.wf] using hb
    · cases hf
  | .sl s, t, fuel, cs, x, hf, h => by
    unfold fitsB at hf
    split at hf
    · rename_i e hu
      simp only [Bool.and_eq_true] at hf
      obtain ⟨hfe, hce, h1⟩ := hf
      have hce := beq_true hce
      have h1 := Nat.le_of_ble_eq_true h1
      rcases open_slice hu h with ⟨rfl, _⟩ | ⟨a, len, cap, m, n, D, Pl, rfl, _, hlc, hcm, hm, _, hel⟩
      · exact ⟨[], ⟨Nat.zero_le _, fun x hx => by cases hx⟩, VL_one (.xsn _ _)⟩
      · have hlm : len ≤ m := by rw [hm]; split <;> omega
        obtain ⟨l, hl, hr⟩ := list_choice (R := fun i (y : s.T) => s.wf y ∧ ∃ cs', w.cells? 0 (a.add (i * s.sz)) s.sz = some cs' ∧ VL (Ctx.all P w []) 0 q (s.enc y) cs') len (fun i hi => by
          obtain ⟨cs', hc1, hc2⟩ := hel i (by omega)
          rw [hce] at hc1
          obtain ⟨y, hy1, hy2⟩ := Sh.opens s e n cs' _ hfe hc2
          exact ⟨y, hy1, cs', hc1, hy2⟩)
        have hwf : ∀ x, x ∈ l → s.wf x := fun x hx => by
          obtain ⟨i, hi⟩ := List.getElem?_of_mem hx
          exact (hr i x hi).1
        refine ⟨l, ⟨by show l.length ≤ maxLen; omega, hwf⟩, ?_⟩
        have := slice_row (e := e) (a := a) (q := q) (P := P) h1 hlc l hl hwf (fun i x hx => (hr i x hx).2)
        rw [← hl] at this ⊢
        exact VL_one this
    · cases hf
  | .ar n s, t, fuel, cs, x, hf, h => by
    unfold fitsB at hf
    split at hf
    · rename_i m e hu
      simp only [Bool.and_eq_true] at hf
      obtain ⟨hnm, hfe, hce, hct⟩ := hf
      have hnm := beq_true hnm
      have hce := beq_true hce
      have hct := beq_true hct
      subst hnm
      obtain ⟨xs, fu, _, _, hlen, hxs, hel⟩ := DataW.trod_array hu h
      obtain ⟨l, hl, hr⟩ := list_choice (R := fun i (y : s.T) => s.wf y ∧ VL (Ctx.all P w []) 0 q (s.enc y) ((cs.drop (i * s.sz)).take s.sz)) m (fun i hi => by
        have h1 := hel i hi
        rw [hce, List.getElem?_eq_getElem (by omega)] at h1
        exact Sh.opens s e fu _ _ hfe h1)
      have hwf : ∀ x, x ∈ l → s.wf x := fun x hx => by
        obtain ⟨i, hi⟩ := List.getElem?_of_mem hx
        exact (hr i x hi).1
      exact ⟨l, ⟨hl, hwf⟩, VL_flat s.enc s.sz l cs (by rw [hl, hlen, hct]) (fun i x hx => (hr i x hx).2)⟩
    · cases hf
  | .st l, t, fuel, cs, x, hf, h => by
    unfold fitsB at hf
    split at hf
    · rename_i fs hu
      simp only [Bool.and_eq_true] at hf
      have hct := beq_true hf.2
      obtain ⟨xs, fu, _, _, hlen, hxs, hel⟩ := DataW.trod_struct hu h
      have := Sh.fields l fs.toList 0 fu cs hf.1 (by rw [hlen, hct, Nat.zero_add]) (fun i f hi => by
        have h1 := hel i f (by simpa using hi)
        have hlt : i < xs.length := by rw [hxs]; have := (List.getElem?_eq_some_iff.1 hi).1; simpa using this
        rw [List.getElem?_eq_getElem hlt] at h1
        exact ⟨_, h1⟩)
      rw [List.drop_zero] at this
      exact this
    · cases hf
  | .nil, t, fuel, cs, x, hf, h => by simp [fitsB] at hf
  | .cons a b, t, fuel, cs, x, hf, h => by simp [fitsB] at hf
theorem Sh.fields : ∀ (s : Sh) (fs : List Field) (o : Nat) (fuel : Nat) (cs : List Value), fieldsB P s fs o = true → cs.length = o + s.sz →
    (∀ (i : Nat) (f : Field), fs[i]? = some f → ∃ x, DataW.trod enc P w 0 spare held fuel f.type ((cs.drop f.offset).take (P.cellsOf f.type)) = some x) →
    ∃ y : s.T, s.wf y ∧ VL (Ctx.all P w []) 0 q (s.enc y) (cs.drop o)
  | .nil, fs, o, fuel, cs, hf, hl, h => by
    refine ⟨(), trivial, ?_⟩
    have : cs.drop o = [] := List.drop_eq_nil_of_le (by rw [hl]; exact Nat.le_refl _)
    rw [this]
    exact VL_nil
  | .cons s r, fs, o, fuel, cs, hf, hl, h => by
    cases fs with
    | nil => simp [fieldsB] at hf
    | cons f fs =>
      unfold fieldsB at hf
      simp only [Bool.and_eq_true] at hf
      obtain ⟨hf1, hf2, hf3, hf4⟩ := hf
      have hf2 := beq_true hf2
      have hf3 := beq_true hf3
      obtain ⟨x, hx⟩ := h 0 f rfl
      rw [hf2, hf3] at hx
      obtain ⟨y, hy1, hy2⟩ := Sh.opens s f.type fuel _ _ hf1 hx
      have hl' : cs.length = (o + s.sz) + r.sz := by rw [hl]; show o + (s.sz + r.sz) = _; omega
      obtain ⟨z, hz1, hz2⟩ := Sh.fields r fs (o + s.sz) fuel cs hf4 hl' (fun i g hi => h (i + 1) g (by simpa using hi))
      refine ⟨(y, z), ⟨hy1, hz1⟩, ?_⟩
      have := VL_append hy2 hz2
      rw [← List.drop_drop, List.take_append_drop] at this
      exact this
  | .bool, fs, o, fuel, cs, hf, hl, h => by simp [fieldsB] at hf
  | .u8, fs, o, fuel, cs, hf, hl, h => by simp [fieldsB] at hf
  | .u16, fs, o, fuel, cs, hf, hl, h => by simp [fieldsB] at hf
  | .u32, fs, o, fuel, cs, hf, hl, h => by simp [fieldsB] at hf
  | .u64, fs, o, fuel, cs, hf, hl, h => by simp [fieldsB] at hf
  | .i64, fs, o, fuel, cs, hf, hl, h => by simp [fieldsB] at hf
  | .i32, fs, o, fuel, cs, hf, hl, h => by simp [fieldsB] at hf
  | .str, fs, o, fuel, cs, hf, hl, h => by simp [fieldsB] at hf
  | .flt, fs, o, fuel, cs, hf, hl, h => by simp [fieldsB] at hf
  | .sl _, fs, o, fuel, cs, hf, hl, h => by simp [fieldsB] at hf
  | .ar _ _, fs, o, fuel, cs, hf, hl, h => by simp [fieldsB] at hf
  | .st _, fs, o, fuel, cs, hf, hl, h => by simp [fieldsB] at hf
end

/-- is it one that lies in several cells by value? -/
def Sh.agg : Sh → Bool
  | .ar _ _ => true
  | .st _ => true
  | _ => false

def Sh.av (s : Sh) (x : s.T) : AV :=
  match s.agg with
  | true => .agg (s.enc x)
  | false => (match s.enc x with | [c] => .one c | _ => .any)

theorem VA_of_VL {X : Ctx} {N : Nat} {p : Pl} (s : Sh) (x : s.T) {v : Value} (h : VL X N p (s.enc x) v.cells.toList) (hv : s.agg = true → ∃ cs, v = .agg cs) (hn : s.agg = false → ∀ cs, v ≠ .agg cs) : VA X N p (s.av x) v := by
  unfold Sh.av
  cases hs : s.agg with
  | true =>
    obtain ⟨cs, rfl⟩ := hv hs
    have := VA.agg (X := X) (N := N) (p := p) _ _ h
    dsimp only
    simpa [Value.cells] using this
  | false =>
    have hn := hn hs
    have hcells : v.cells = #[v] := by
      cases v <;> first | rfl | exact absurd rfl (hn _)
    rw [hcells] at h
    dsimp only
    split
    · rename_i c he
      rw [he] at h
      exact .one _ _ (h.2 0 c v rfl rfl)
    · exact .any _
end

section
variable {H : Type} {enc : TypeId × Value → H} {P : Program} {w : World} {spare : Nat → Bool} {held : Bool}

theorem okWide_agg {r : Reach} {b : Nat} {s : Sh} {t : TypeId} {v : Value} (hf : fitsB P s t = true) (h : Value.okWide P w r b t v) : (s.agg = true → ∃ cs, v = .agg cs) ∧ (s.agg = false → ∀ cs, v ≠ .agg cs) := by
  unfold Value.okWide at h
  cases s <;> unfold fitsB at hf <;> first | (cases hf; done) | (split at hf <;> first | (cases hf; done) | skip)
  all_goals (rename_i hu; rw [hu] at h; dsimp only at h)
  all_goals first
    | (obtain ⟨cs, hv, _⟩ := h; exact ⟨fun _ => ⟨cs, hv⟩, fun hn => (by cases hn)⟩)
    | (refine ⟨fun hn => (by cases hn), fun _ cs hv => ?_⟩
       subst hv
       unfold Cell.okWide at h
       rw [hu] at h
       dsimp only at h
       unfold Cell.ok at h
       rw [hu] at h
       exact h)

/-- an argument, opened -/
theorem Sh.arg {r : Reach} {b : Nat} (s : Sh) {t : TypeId} {v : Value} {d : DataW H} {ps : List MemPlace} (hf : fitsB P s t = true) (hv : Value.okWide P w r b t v) (h : DataW.Trod enc P w 0 spare held t v d ps) :
    ∃ y : s.T, s.wf y ∧ VA (Ctx.all P w []) 0 ⟨fun _ => 0, fun _ => 0⟩ (s.av y) v := by
  obtain ⟨fuel, h⟩ := h
  obtain ⟨y, h1, h2⟩ := Sh.opens (q := ⟨fun _ => 0, fun _ => 0⟩) s t fuel _ _ hf h
  have := okWide_agg hf hv
  exact ⟨y, h1, VA_of_VL s y h2 this.1 this.2⟩

theorem AL_nil {X : Ctx} {N : Nat} {p : Pl} : AL X N p [] [] := ⟨rfl, fun j a u h _ => by simp at h⟩
theorem AL_cons {X : Ctx} {N : Nat} {p : Pl} {a : AV} {v : Value} {xs : List AV} {vs : List Value} (h : VA X N p a v) (g : AL X N p xs vs) : AL X N p (a :: xs) (v :: vs) :=
  ⟨by simp [g.1], fun j b u h1 h2 => by
    cases j with
    | zero => simp at h1 h2; subst h1; subst h2; exact h
    | succ j => exact g.2 j b u (by simpa using h1) (by simpa using h2)⟩
end

theorem fm1 {α : Type} (f : α → AC) : ∀ l : List α, l.flatMap (fun x => [f x]) = l.map f
  | [] => rfl
  | x :: l => by rw [List.flatMap_cons, fm1 f l]; rfl
theorem fm_u8 (l : List (BitVec 8)) : List.flatMap (Sh.enc .u8) l = l.map .u8 := fm1 AC.u8 l
theorem fm_u32 (l : List (BitVec 32)) : List.flatMap (Sh.enc .u32) l = l.map .u32 := fm1 AC.u32 l
theorem fm_i64 (l : List Int) : List.flatMap (Sh.enc .i64) l = l.map .i64 := fm1 AC.i64 l
theorem two_of {α : Type} {l : List α} (h : l.length = 2) : ∃ a b, l = [a, b] := by
  match l, h with
  | [a, b], _ => exact ⟨a, b, rfl⟩
theorem three_of {α : Type} {l : List α} (h : l.length = 3) : ∃ a b c, l = [a, b, c] := by
  match l, h with
  | [a, b, c], _ => exact ⟨a, b, c, rfl⟩
theorem four_of {α : Type} {l : List α} (h : l.length = 4) : ∃ a b c d, l = [a, b, c, d] := by
  match l, h with
  | [a, b, c, d], _ => exact ⟨a, b, c, d, rfl⟩
end DH
