/- Walks of functions, each by evaluation: what each returns. -/
import Derived.Test.YtdnggeocdocomaaK1
set_option linter.unusedVariables false
set_option linter.unusedSimpArgs false
noncomputable section
namespace DH
open Go

/-! SHA-1, in numbers alone. -/

def rol (x : BitVec 32) (k : Nat) : BitVec 32 := x <<< k ||| x >>> (32 - k)
def mixF (t : Nat) (b c d : BitVec 32) : BitVec 32 :=
  if t < 20 then (b &&& (c ^^^ d) ^^^ d) + 1518500249#32 else if t < 40 then (b ^^^ c ^^^ d) + 1859775393#32 else if t < 60 then (b &&& c ||| d &&& (b ||| c)) + 2400959708#32 else (b ^^^ c ^^^ d) + 3395469782#32

def be32 (b : List (BitVec 8)) (i : Nat) : BitVec 32 :=
  (b.getD (4 * i) 0).setWidth 32 <<< 24 ||| (b.getD (4 * i + 1) 0).setWidth 32 <<< 16 ||| (b.getD (4 * i + 2) 0).setWidth 32 <<< 8 ||| (b.getD (4 * i + 3) 0).setWidth 32

def wnext (l : List (BitVec 32)) (n : Nat) : BitVec 32 := rol (l.getD (n - 3) 0 ^^^ l.getD (n - 8) 0 ^^^ l.getD (n - 14) 0 ^^^ l.getD (n - 16) 0) 1

def wl (b : List (BitVec 8)) : Nat → List (BitVec 32)
  | 0 => []
  | n + 1 => wl b n ++ [if n < 16 then be32 b n else wnext (wl b n) n]

def Wt (b : List (BitVec 8)) (t : Nat) : BitVec 32 := (wl b (t + 1)).getD t 0

theorem wl_len (b : List (BitVec 8)) : ∀ n, (wl b n).length = n
  | 0 => rfl
  | n + 1 => by rw [wl, List.length_append, wl_len b n]; rfl

theorem getD_app_l {α : Type} (l m : List α) (d : α) {i : Nat} (h : i < l.length) : (l ++ m).getD i d = l.getD i d := by
  simp only [List.getD_eq_getElem?_getD]
  rw [List.getElem?_append_left h]
theorem getD_app_r {α : Type} (l : List α) (x d : α) : (l ++ [x]).getD l.length d = x := by
  simp [List.getD_eq_getElem?_getD]

theorem wl_get (b : List (BitVec 8)) (t : Nat) : ∀ n, t < n → (wl b n).getD t 0 = Wt b t
  | 0, h => by omega
  | n + 1, h => by
    rcases Nat.eq_or_lt_of_le (Nat.lt_succ_iff.1 h) with e | h'
    · subst e; rfl
    · rw [wl, getD_app_l _ _ _ (by rw [wl_len]; exact h')]
      exact wl_get b t n h'

theorem Wt_lo (b : List (BitVec 8)) {t : Nat} (h : t < 16) : Wt b t = be32 b t := by
  unfold Wt
  rw [wl]
  have := getD_app_r (wl b t) (if t < 16 then be32 b t else wnext (wl b t) t) 0
  rw [wl_len] at this
  rw [this, if_pos h]
theorem Wt_hi (b : List (BitVec 8)) {t : Nat} (h : ¬ t < 16) : Wt b t = rol (Wt b (t - 3) ^^^ Wt b (t - 8) ^^^ Wt b (t - 14) ^^^ Wt b (t - 16)) 1 := by
  have h1 : Wt b t = wnext (wl b t) t := by
    unfold Wt
    rw [wl]
    have := getD_app_r (wl b t) (if t < 16 then be32 b t else wnext (wl b t) t) 0
    rw [wl_len] at this
    rw [this, if_neg h]
  rw [h1]
  unfold wnext
  rw [wl_get b _ t (by omega), wl_get b _ t (by omega), wl_get b _ t (by omega), wl_get b _ t (by omega)]

structure St where
  a : BitVec 32
  b : BitVec 32
  c : BitVec 32
  d : BitVec 32
  e : BitVec 32

def stepF (t : Nat) (w : BitVec 32) (s : St) : St := ⟨rol s.a 5 + mixF t s.b s.c s.d + s.e + w, s.a, rol s.b 30, s.c, s.d⟩
def rnds (b : List (BitVec 8)) : Nat → St → St
  | 0, s => s
  | t + 1, s => stepF t (Wt b t) (rnds b t s)
def St.list (s : St) : List (BitVec 32) := [s.a, s.b, s.c, s.d, s.e]
def St.add (s t : St) : St := ⟨s.a + t.a, s.b + t.b, s.c + t.c, s.d + t.d, s.e + t.e⟩
def blockF (s : St) (b : List (BitVec 8)) : St := s.add (rnds b 80 s)

/-- where the sixteen numbers kept stand, at step t -/
def circ (t j : Nat) : Nat := if t < 16 then j else t - 16 + ((j + 16 - t % 16) % 16)
def Kept (b : List (BitVec 8)) (t : Nat) (ws : List (BitVec 32)) : Prop := ws.length = 16 ∧ ∀ j, j < 16 → ws.getD j 0 = Wt b (circ t j)

theorem getD_set_eq {α : Type} (l : List α) (i : Nat) (x d : α) (h : i < l.length) : (l.set i x).getD i d = x := by
  simp [List.getD_eq_getElem?_getD, h]
theorem getD_set_ne {α : Type} (l : List α) (i j : Nat) (x d : α) (h : i ≠ j) : (l.set i x).getD j d = l.getD j d := by
  simp only [List.getD_eq_getElem?_getD]
  rw [List.getElem?_set_ne h]

theorem Kept.lo {b : List (BitVec 8)} {t : Nat} {ws : List (BitVec 32)} (h : Kept b t ws) (ht : t < 16) : Kept b (t + 1) ws ∧ ws.getD (t % 16) 0 = Wt b t := by
  refine ⟨⟨h.1, fun j hj => ?_⟩, ?_⟩
  · rw [h.2 j hj]
    unfold circ
    rw [if_pos ht]
    split
    · rfl
    · have : t = 15 := by omega
      subst this
      congr 1
      omega
  · rw [h.2 _ (Nat.mod_lt _ (by decide))]
    unfold circ
    rw [if_pos ht, Nat.mod_eq_of_lt ht]

theorem Kept.get {b : List (BitVec 8)} {t k : Nat} {ws : List (BitVec 32)} (h : Kept b t ws) (ht : ¬ t < 16) (hk : k < 16) : ws.getD ((t + k) % 16) 0 = Wt b (t - 16 + k) := by
  rw [h.2 _ (Nat.mod_lt _ (by decide))]
  unfold circ
  rw [if_neg ht]
  congr 1
  omega

theorem Kept.hi {b : List (BitVec 8)} {t : Nat} {ws : List (BitVec 32)} (h : Kept b t ws) (ht : ¬ t < 16) : Kept b (t + 1) (ws.set (t % 16) (rol (ws.getD ((t + 13) % 16) 0 ^^^ ws.getD ((t + 8) % 16) 0 ^^^ ws.getD ((t + 2) % 16) 0 ^^^ ws.getD (t % 16) 0) 1)) ∧
    rol (ws.getD ((t + 13) % 16) 0 ^^^ ws.getD ((t + 8) % 16) 0 ^^^ ws.getD ((t + 2) % 16) 0 ^^^ ws.getD (t % 16) 0) 1 = Wt b t := by
  have e : rol (ws.getD ((t + 13) % 16) 0 ^^^ ws.getD ((t + 8) % 16) 0 ^^^ ws.getD ((t + 2) % 16) 0 ^^^ ws.getD (t % 16) 0) 1 = Wt b t := by
    rw [Wt_hi b ht, h.get ht (by decide), h.get ht (by decide), h.get ht (by decide)]
    have := h.get (k := 0) ht (by decide)
    rw [Nat.add_zero] at this
    rw [this, show t - 16 + 13 = t - 3 by omega, show t - 16 + 8 = t - 8 by omega, show t - 16 + 2 = t - 14 by omega, Nat.add_zero]
  refine ⟨⟨by rw [List.length_set]; exact h.1, fun j hj => ?_⟩, e⟩
  rw [e]
  by_cases hj2 : t % 16 = j
  · subst hj2
    rw [getD_set_eq _ _ _ _ (by rw [h.1]; exact hj)]
    unfold circ
    rw [if_neg (by omega)]
    congr 1
    omega
  · rw [getD_set_ne _ _ _ _ _ hj2, h.2 j hj]
    unfold circ
    rw [if_neg ht, if_neg (by omega)]
    congr 1
    omega

theorem and15 (i : Nat) (h : i < 9223372036854775808) : bits64 .and (i : Int) 15 = ((i % 16 : Nat) : Int) := by
  unfold bits64
  dsimp only
  have e : BitVec.ofInt 64 (i : Int) &&& BitVec.ofInt 64 15 = BitVec.ofNat 64 (i % 16) := by
    apply BitVec.eq_of_toNat_eq
    rw [BitVec.toNat_and, BitVec.ofInt_natCast, BitVec.toNat_ofNat, BitVec.toNat_ofNat]
    have h1 : (BitVec.ofInt 64 15).toNat = 15 := rfl
    rw [h1, Nat.mod_eq_of_lt (show i < 2 ^ 64 by omega), Nat.mod_eq_of_lt (show i % 16 < 2 ^ 64 by omega)]
    exact Nat.and_two_pow_sub_one_eq_mod i 4
  rw [e, BitVec.toInt_eq_toNat_cond, BitVec.toNat_ofNat, Nat.mod_eq_of_lt (show i % 16 < 2 ^ 64 by omega), if_pos (by omega)]

theorem layS_u32 (ws : List (BitVec 32)) (k : Nat) (x : BitVec 32) : layS (ws.map AC.u32) k [AC.u32 x] = (ws.set k x).map AC.u32 := by
  rw [List.map_set]
  rfl
theorem layS_u8 (ws : List (BitVec 8)) (k : Nat) (x : BitVec 8) : layS (ws.map AC.u8) k [AC.u8 x] = (ws.set k x).map AC.u8 := by
  rw [List.map_set]
  rfl
end DH
