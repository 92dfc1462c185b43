/- Walks of functions, each by evaluation: what each returns; with the layer beneath. -/
import Derived.Test.YtdnggeocdocomaaLC
import Derived.Test.YtdnggeocdocomaaTr3
set_option linter.unusedVariables false
set_option linter.unusedSimpArgs false
noncomputable section
namespace DH
set_option maxRecDepth 100000
open List (take drop replicate)
open AC renaming u8 → U8, u16 → Va, u32 → Fa, u64 → Nc, i64 → I64, b → Bb, xs → XS, gs → GS, sv → SV, ptr → PT, any → AY, ns → NS
open AV renaming one → O1, agg → AG, Ec → TU
open Go
def rol (x:BitVec 32) (k:Nat) : BitVec 32 := x <<< k ||| x >>> (32 - k)
def mixF (t:Nat) (b c d:BitVec 32) : BitVec 32 :=
 if t < 20 then (b &&& (c ^^^ d) ^^^ d) + 1518500249#32 else if t < 40 then (b ^^^ c ^^^ d) + 1859775393#32 else if t < 60 then (b &&& c ||| d &&& (b ||| c)) + 2400959708#32 else (b ^^^ c ^^^ d) + 3395469782#32
def be32 (b : List (BitVec 8)) (i:Nat) : BitVec 32 :=
 (b.getD (4 * i) 0).setWidth 32 <<< 24 ||| (b.getD (4 * i + 1) 0).setWidth 32 <<< 16 ||| (b.getD (4 * i + 2) 0).setWidth 32 <<< 8 ||| (b.getD (4 * i + 3) 0).setWidth 32
def wnext (l : List (BitVec 32)) (n:Nat) : BitVec 32 := rol (l.getD (n - 3) 0 ^^^ l.getD (n - 8) 0 ^^^ l.getD (n - 14) 0 ^^^ l.getD (n - 16) 0) 1
def wl (b : List (BitVec 8)) : Nat → List (BitVec 32)
 | 0 => []
 | n + 1 => wl b n ++ [if n < 16 then be32 b n else wnext (wl b n) n]
def Wt (b : List (BitVec 8)) (t:Nat) : BitVec 32 := (wl b (t + 1)).getD t 0
theorem wl_len (b : List (BitVec 8)) : ∀ n, (wl b n).length = n
 | 0 => rfl
 | n + 1 => by rw [wl, List.length_append, wl_len b n]; rfl
theorem getD_app_l {α : Type} (l m : List α) (d : α) {i : Nat} (h : i < l.length) : (l ++ m).getD i d = l.getD i d := by
 simp only [List.getD_eq_getElem?_getD]
 rw [List.getElem?_append_left h]
theorem getD_app_r {α : Type} (l : List α) (x d : α) : (l ++ [x]).getD l.length d = x := by
 simp [List.getD_eq_getElem?_getD]
theorem wl_get (b : List (BitVec 8)) (t:Nat) : ∀ n, t < n → (wl b n).getD t 0 = Wt b t
 | 0, h => by omega
 | n + 1, h => by
  rcases Nat.eq_or_lt_of_le (Nat.lt_succ_iff.1 h) with e | h'
  ·subst e; rfl
  ·rw [wl, getD_app_l _ _ _ (by rw [wl_len]; exact h')]
   exact wl_get b t n h'
theorem Wt_lo (b : List (BitVec 8)) {t : Nat} (h : t < 16) : Wt b t = be32 b t := by
 unfold Wt
 rw [wl]
 have := getD_app_r (wl b t) (if t < 16 then be32 b t else wnext (wl b t) t) 0
 rw [wl_len] at this
 rw [this, if_pos h]
theorem Wt_hi (b : List (BitVec 8)) {t : Nat} (h : ¬ t < 16) : Wt b t = rol (Wt b (t - 3) ^^^ Wt b (t - 8) ^^^ Wt b (t - 14) ^^^ Wt b (t - 16)) 1 := by
 have h1 : Wt b t = wnext (wl b t) t := by
  unfold Wt
  rw [wl]
  have := getD_app_r (wl b t) (if t < 16 then be32 b t else wnext (wl b t) t) 0
  rw [wl_len] at this
  rw [this, if_neg h]
 rw [h1]
 unfold wnext
 rw [wl_get b _ t (by omega), wl_get b _ t (by omega), wl_get b _ t (by omega), wl_get b _ t (by omega)]
structure St where
 a : BitVec 32
 b : BitVec 32
 c : BitVec 32
 d : BitVec 32
 e : BitVec 32
def stepF (t:Nat) (w:BitVec 32) (s : St) : St := ⟨rol s.a 5 + mixF t s.b s.c s.d + s.e + w, s.a, rol s.b 30, s.c, s.d⟩
def rnds (b : List (BitVec 8)) : Nat → St → St
 | 0, s => s
 | t + 1, s => stepF t (Wt b t) (rnds b t s)
def St.list (s : St) : List (BitVec 32) := [s.a, s.b, s.c, s.d, s.e]
def St.add (s t : St) : St := ⟨s.a + t.a, s.b + t.b, s.c + t.c, s.d + t.d, s.e + t.e⟩
def Ce (s : St) (b : List (BitVec 8)) : St := s.add (rnds b 80 s)
def circ (t j:Nat) : Nat := if t < 16 then j else t - 16 + ((j + 16 - t % 16) % 16)
def Kept (b : List (BitVec 8)) (t:Nat) (ws : List (BitVec 32)) : Prop := ws.length = 16 ∧ ∀ j, j < 16 → ws.getD j 0 = Wt b (circ t j)
theorem getD_set_eq {α : Type} (l : List α) (i:Nat) (x d : α) (h : i < l.length) : (l.set i x).getD i d = x := by
 simp [List.getD_eq_getElem?_getD, h]
theorem getD_set_ne {α : Type} (l : List α) (i j:Nat) (x d : α) (h : i ≠ j) : (l.set i x).getD j d = l.getD j d := by
 simp only [List.getD_eq_getElem?_getD]
 rw [List.getElem?_set_ne h]
theorem Kept.lo {b : List (BitVec 8)} {t : Nat} {ws : List (BitVec 32)} (h : Kept b t ws) (ht : t < 16) : Kept b (t + 1) ws ∧ ws.getD (t % 16) 0 = Wt b t := by
 refine ⟨⟨h.1, fun j hj => ?_⟩, ?_⟩
 ·rw [h.2 j hj]
  unfold circ
  rw [if_pos ht]
  split
  ·rfl
  ·have : t = 15 := by omega
   subst this
   congr 1
   omega
 ·rw [h.2 _ (Nat.mod_lt _ (by decide))]
  unfold circ
  rw [if_pos ht, Nat.mod_eq_of_lt ht]
theorem Kept.get {b : List (BitVec 8)} {t k : Nat} {ws : List (BitVec 32)} (h : Kept b t ws) (ht : ¬ t < 16) (hk : k < 16) : ws.getD ((t + k) % 16) 0 = Wt b (t - 16 + k) := by
 rw [h.2 _ (Nat.mod_lt _ (by decide))]
 unfold circ
 rw [if_neg ht]
 congr 1
 omega
theorem Kept.hi {b : List (BitVec 8)} {t : Nat} {ws : List (BitVec 32)} (h : Kept b t ws) (ht : ¬ t < 16) : Kept b (t + 1) (ws.set (t % 16) (rol (ws.getD ((t + 13) % 16) 0 ^^^ ws.getD ((t + 8) % 16) 0 ^^^ ws.getD ((t + 2) % 16) 0 ^^^ ws.getD (t % 16) 0) 1)) ∧
  rol (ws.getD ((t + 13) % 16) 0 ^^^ ws.getD ((t + 8) % 16) 0 ^^^ ws.getD ((t + 2) % 16) 0 ^^^ ws.getD (t % 16) 0) 1 = Wt b t := by
 have e : rol (ws.getD ((t + 13) % 16) 0 ^^^ ws.getD ((t + 8) % 16) 0 ^^^ ws.getD ((t + 2) % 16) 0 ^^^ ws.getD (t % 16) 0) 1 = Wt b t := by
  rw [Wt_hi b ht, h.get ht (by decide), h.get ht (by decide), h.get ht (by decide)]
  have := h.get (k := 0) ht (by decide)
  rw [Nat.add_zero] at this
  rw [this, show t - 16 + 13 = t - 3 by omega, show t - 16 + 8 = t - 8 by omega, show t - 16 + 2 = t - 14 by omega, Nat.add_zero]
 refine ⟨⟨by rw [List.length_set]; exact h.1, fun j hj => ?_⟩, e⟩
 rw [e]
 by_cases hj2 : t % 16 = j
 ·subst hj2
  rw [getD_set_eq _ _ _ _ (by rw [h.1]; exact hj)]
  unfold circ
  rw [if_neg (by omega)]
  congr 1
  omega
 ·rw [getD_set_ne _ _ _ _ _ hj2, h.2 j hj]
  unfold circ
  rw [if_neg ht, if_neg (by omega)]
  congr 1
  omega
theorem and15 (i:Nat) (h : i < 9223372036854775808) : Mc .and (i:Int) 15 = ((i % 16:Nat):Int) := by
 unfold Mc
 dsimp only
 have e : BitVec.ofInt 64 (i:Int) &&& BitVec.ofInt 64 15 = BitVec.ofNat 64 (i % 16) := by
  apply BitVec.eq_of_toNat_eq
  rw [BitVec.toNat_and, BitVec.ofInt_natCast, BitVec.toNat_ofNat, BitVec.toNat_ofNat]
  have h1 : (BitVec.ofInt 64 15).toNat = 15 := rfl
  rw [h1, Nat.mod_eq_of_lt (show i < 2 ^ 64 by omega), Nat.mod_eq_of_lt (show i % 16 < 2 ^ 64 by omega)]
  exact Nat.and_two_pow_sub_one_eq_mod i 4
 rw [e, BitVec.toInt_eq_toNat_cond, BitVec.toNat_ofNat, Nat.mod_eq_of_lt (show i % 16 < 2 ^ 64 by omega), if_pos (by omega)]
theorem layS_u32 (ws : List (BitVec 32)) (k:Nat) (x:BitVec 32) : Qa (ws.map Fa) k [Fa x] = (ws.set k x).map Fa := by
 rw [List.map_set]
 rfl
theorem layS_u8 (ws : List (BitVec 8)) (k:Nat) (x:BitVec 8) : Qa (ws.map U8) k [U8 x] = (ws.set k x).map U8 := by
 rw [List.map_set]
 rfl
open Go Go.Proofs
theorem ok36 : Ac Try.prog 36 Try.f36 (Na Try.f36) := .of Try.func36 (by kernel_rfl) (by kernel_rfl)
theorem ok38 : Ac Try.prog 38 Try.f38 (Na Try.f38) := .of Try.func38 (by kernel_rfl) (by kernel_rfl)
theorem ok39 : Ac Try.prog 39 Try.f39 (Na Try.f39) := .of Try.func39 (by kernel_rfl) (by kernel_rfl)
theorem ok40 : Ac Try.prog 40 Try.f40 (Na Try.f40) := .of Try.func40 (by kernel_rfl) (by kernel_rfl)
theorem ok41 : Ac Try.prog 41 Try.f41 (Na Try.f41) := .of Try.func41 (by kernel_rfl) (by kernel_rfl)
theorem ok42 : Ac Try.prog 42 Try.f42 (Na Try.f42) := .of Try.func42 (by kernel_rfl) (by kernel_rfl)
theorem ok93 : Ac Try.prog 93 Try.f93 (Na Try.f93) := .of Try.func93 (by kernel_rfl) (by kernel_rfl)
theorem ok94 : Ac Try.prog 94 Try.f94 (Na Try.f94) := .of Try.func94 (by kernel_rfl) (by kernel_rfl)
theorem ok95 : Ac Try.prog 95 Try.f95 (Na Try.f95) := .of Try.func95 (by kernel_rfl) (by kernel_rfl)
theorem ok96 : Ac Try.prog 96 Try.f96 (Na Try.f96) := .of Try.func96 (by kernel_rfl) (by kernel_rfl)
theorem ok121 : Ac Try.prog 121 Try.f121 (Na Try.f121) := .of Try.func121 (by kernel_rfl) (by kernel_rfl)
theorem ok122 : Ac Try.prog 122 Try.f122 (Na Try.f122) := .of Try.func122 (by kernel_rfl) (by kernel_rfl)
theorem ok123 : Ac Try.prog 123 Try.f123 (Na Try.f123) := .of Try.func123 (by kernel_rfl) (by kernel_rfl)
def symS (t : TypeId) : Bool :=
 match t with
 | 5 => true
 | 26 => true
 | 50 => true
 | 53 => true
 | 160 => true
 | 162 => true
 | _ => false
noncomputable def baseS (T : Tab) (mf : FuncId → Option MF) (M : Ad) : Env := ⟨tys, symS, false, T, [], mf, M, fun _ => none⟩
theorem baseS_ok (T : Tab) (mf : FuncId → Option MF) (M : Ad) : Eb Try.prog (baseS T mf M) := Eb.of tysOk
theorem baseS_call {T : Tab} {mf : FuncId → Option MF} {M : Ad} (hT : Oc Try.prog T) (hM : Xc Try.prog M) : Bc Try.prog (baseS T mf M) :=
 ⟨hT, fun f mf xs m0 cs r m1 _ h hc => hM f xs m0 cs r m1 h hc, (by intro f k h; cases h)⟩
noncomputable def T0 : Tab := fun _ _ => none
theorem T0_ok : Oc Try.prog T0 := fun f xs cs r h => by cases h
noncomputable def M0 : Ad := fun _ _ _ => none
theorem M0_ok : Xc Try.prog M0 := fun f xs m cs r m1 h => by cases h
noncomputable def mf0 : FuncId → Option MF := fun _ => none
def WHA0 : WC := ⟨baseS T0 mf0 M0,baseS_ok T0 mf0 M0,baseS_call T0_ok M0_ok⟩
theorem vc121 {X} {Q : QT} (hX : PX X) (x:BitVec 32) (k:Int) (h : (0:Int)<=k/\La ((32:Int) - k)/\(0:Int)<=(32:Int) - k/\Q (O1 (Fa (x<<<Int.toNat k|||x>>>Int.toNat ((32:Int) - k)))) []) : Ia X 121 0 Q ([.code (Na Try.f121)]) (slots [.one (.u32 x),.one (.i64 k)] Try.f121.ntmps) [] :=
 wR hX WHA0 ok121 [] [] [] [] h (by kernel_rfl)
theorem vc122a {X} {Q : QT} (hX : PX X) (x:BitVec 32) (h : Q (O1 (Fa (x<<<1|||x>>>31))) []) : Ia X 122 0 Q ([.code (Na Try.f122)]) (slots [.one (.u32 x),.one (.i64 1)] Try.f122.ntmps) [] :=
 wR hX WHA0 ok122 [] [] [] [] h (by kernel_rfl)
theorem vc122b {X} {Q : QT} (hX : PX X) (x:BitVec 32) (h : Q (O1 (Fa (x<<<5|||x>>>27))) []) : Ia X 122 0 Q ([.code (Na Try.f122)]) (slots [.one (.u32 x),.one (.i64 5)] Try.f122.ntmps) [] :=
 wR hX WHA0 ok122 [] [] [] [] h (by kernel_rfl)
theorem vc122c {X} {Q : QT} (hX : PX X) (x:BitVec 32) (h : Q (O1 (Fa (x<<<30|||x>>>2))) []) : Ia X 122 0 Q ([.code (Na Try.f122)]) (slots [.one (.u32 x),.one (.i64 30)] Try.f122.ntmps) [] :=
 wR hX WHA0 ok122 [] [] [] [] h (by kernel_rfl)
theorem vc123 {X} {Q : QT} (hX : PX X) (t:Int) (b c d:BitVec 32) (h : ((20:Int) ≠ (0:Int)/\La (Int.tdiv t (20:Int)))/\(decide (Int.tdiv t (20:Int)=(0:Int))=true->Q (O1 (Fa ((b&&&(c^^^d)^^^d)+BitVec.ofInt 32 1518500249))) [])/\(decide (Int.tdiv t (20:Int)=(0:Int))=false->(decide (Int.tdiv t (20:Int)=(1:Int))=true->Q (O1 (Fa ((b^^^c^^^d)+BitVec.ofInt 32 1859775393))) [])/\(decide (Int.tdiv t (20:Int)=(1:Int))=false->(decide (Int.tdiv t (20:Int)=(2:Int))=true->Q (O1 (Fa ((b&&&c|||d&&&(b|||c))+BitVec.ofInt 32 2400959708))) [])/\(decide (Int.tdiv t (20:Int)=(2:Int))=false->Q (O1 (Fa ((b^^^c^^^d)+BitVec.ofInt 32 3395469782))) [])))) : Ia X 123 0 Q ([.code (Na Try.f123)]) (slots [.one (.i64 t),.one (.u32 b),.one (.u32 c),.one (.u32 d)] Try.f123.ntmps) [] :=
 wR hX WHA0 ok123 [12,22,30] [] [] [] h (by kernel_rfl)
theorem s121 (x:BitVec 32) (k:Nat) (hk : k ≤ 32) : Spec Try.prog 121 [.one (.u32 x), .one (.i64 k)] [] (Is (.one (.u32 (rol x k)))) := by
 refine Spec.of_run ok121 fun X hX => vc121 hX x k ⟨by omega, by unfold La; omega, by omega, ?_⟩
 have e1 : (k:Int).toNat = k := Int.toNat_natCast k
 have e2 : ((32:Int) - k).toNat = 32 - k := by omega
 rw [e1, e2]
 exact rfl
theorem s122a (x:BitVec 32) : Spec Try.prog 122 [.one (.u32 x), .one (.i64 1)] [] (Is (.one (.u32 (rol x 1)))) := Spec.of_run ok122 fun X hX => vc122a hX x rfl
theorem s122b (x:BitVec 32) : Spec Try.prog 122 [.one (.u32 x), .one (.i64 5)] [] (Is (.one (.u32 (rol x 5)))) := Spec.of_run ok122 fun X hX => vc122b hX x rfl
theorem s122c (x:BitVec 32) : Spec Try.prog 122 [.one (.u32 x), .one (.i64 30)] [] (Is (.one (.u32 (rol x 30)))) := Spec.of_run ok122 fun X hX => vc122c hX x rfl
theorem s123 (t:Nat) (b c d:BitVec 32) (ht : t < 80) : Spec Try.prog 123 [.one (.i64 t), .one (.u32 b), .one (.u32 c), .one (.u32 d)] [] (Is (.one (.u32 (mixF t b c d)))) := by
 refine Spec.of_run ok123 fun X hX => vc123 hX t b c d ?_
 have e : Int.tdiv (t:Int) 20 = ((t / 20:Nat):Int) := by rw [Int.tdiv_eq_ediv_of_nonneg (by omega)]; omega
 rw [e]
 have leaf : ∀ x : BitVec 32, x = mixF t b c d → Is (.one (.u32 (mixF t b c d))) (.one (.u32 x)) [] := fun x h => by rw [h]; exact rfl
 refine ⟨⟨by decide, by unfold La; omega⟩, fun h => leaf _ ?_, fun h0 => ⟨fun h => leaf _ ?_, fun h1 => ⟨fun h => leaf _ ?_, fun h2 => leaf _ ?_⟩⟩⟩
 ·have h := of_decide_eq_true h
  unfold mixF; rw [if_pos (by omega)]; rfl
 ·have h := of_decide_eq_true h
  unfold mixF; rw [if_neg (by omega), if_pos (by omega)]; rfl
 ·have h := of_decide_eq_true h
  unfold mixF; rw [if_neg (by omega), if_neg (by omega), if_pos (by omega)]; rfl
 ·have h0 := of_decide_eq_false h0
  have h1 := of_decide_eq_false h1
  have h2 := of_decide_eq_false h2
  unfold mixF; rw [if_neg (by omega), if_neg (by omega), if_neg (by omega)]; rfl
noncomputable def T1 : Tab := fun f xs => match f, xs with
 | 121, [.one (.u32 x), .one (.i64 k)] => some ([0 ≤ k ∧ k ≤ 32], .one (.u32 (rol x k.toNat)))
 | 122, [.one (.u32 x), .one (.i64 1)] => some ([], .one (.u32 (rol x 1)))
 | 122, [.one (.u32 x), .one (.i64 5)] => some ([], .one (.u32 (rol x 5)))
 | 122, [.one (.u32 x), .one (.i64 30)] => some ([], .one (.u32 (rol x 30)))
 | 123, [.one (.i64 t), .one (.u32 b), .one (.u32 c), .one (.u32 d)] => some ([0 ≤ t ∧ t < 80], .one (.u32 (mixF t.toNat b c d)))
 | _, _ => none
theorem T1_ok : Oc Try.prog T1 := by
 intro f xs cs r h hc
 unfold T1 at h
 split at h <;> first | (cases h; done) | (obtain ⟨rfl, rfl⟩ := Prod.mk.inj (Option.some.inj h))
 ·rename_i x k
  obtain ⟨n, rfl⟩ := Int.eq_ofNat_of_zero_le hc.1.1
  exact ⟨⟨_, _, ok121⟩, s121 x n (by have := hc.1.2; omega), rfl⟩
 ·exact ⟨⟨_, _, ok122⟩, s122a _, rfl⟩
 ·exact ⟨⟨_, _, ok122⟩, s122b _, rfl⟩
 ·exact ⟨⟨_, _, ok122⟩, s122c _, rfl⟩
 ·rename_i t b c d
  obtain ⟨n, rfl⟩ := Int.eq_ofNat_of_zero_le hc.1.1
  exact ⟨⟨_, _, ok123⟩, s123 n b c d (by have := hc.1.2; omega), rfl⟩
def WHA1 : WC := ⟨baseS T1 mf0 M0,baseS_ok T1 mf0 M0,baseS_call T1_ok M0_ok⟩
theorem vc95 {X} {Q : QT} (hX : PX X) (h0 h1 h2 h3 h4:BitVec 32) (row : List AC) (n:Nat) (h : Flat (replicate 16 (Fa 0))/\KR X 95 0 Q (Fb Try.f95 0) (mkS 137 [(1,O1 (XS row 0 n)),(2,O1 (PT 0 0)),(4,O1 (PT 1 0)),(5,O1 (PT 2 0)),(14,O1 (I64 (0:Int)))]) [some [Fa h0,Fa h1,Fa h2,Fa h3,Fa h4],some [Fa 0,Fa 0,Fa 0,Fa 0,Fa 0],some (replicate 16 (Fa 0))]) : Ia X 95 0 Q ([.code (Na Try.f95)]) (slots [.agg [.u32 h0,.u32 h1,.u32 h2,.u32 h3,.u32 h4],.one (.xs row 0 n)] Try.f95.ntmps) [] :=
 wR hX WHA1 ok95 [15,64,67] [(5,35),(12,26)] [] [(3,[1,2,4,5,14],[false,false]),(9,[2,4,5,7,8,9,10,11,63],[false,false])] h (by kernel_rfl)
theorem vc95a {X} {Q : QT} (hX : PX X) (h0 h1 h2 h3 h4:BitVec 32) (row w : List AC) (n:Nat) (i:Int) (h : (fun D4 : Nat=>(fun D3 : Nat=>(fun D2 : Nat=>(fun D1 : Nat=>(fun D0 : List AC=>(decide (i<(16:Int))=true->La ((4:Int)*i)/\((0:Int)<=(4:Int)*i/\(4:Int)*i<(↑n:Int))/\gt AY row D4=U8 (Ea (gt AY row D4))/\La ((4:Int)*i)/\La ((4:Int)*i+(1:Int))/\((0:Int)<=(4:Int)*i+(1:Int)/\(4:Int)*i+(1:Int)<(↑n:Int))/\gt AY row D3=U8 (Ea (gt AY row D3))/\La ((4:Int)*i)/\La ((4:Int)*i+(2:Int))/\((0:Int)<=(4:Int)*i+(2:Int)/\(4:Int)*i+(2:Int)<(↑n:Int))/\gt AY row D2=U8 (Ea (gt AY row D2))/\La ((4:Int)*i)/\La ((4:Int)*i+(3:Int))/\((0:Int)<=(4:Int)*i+(3:Int)/\(4:Int)*i+(3:Int)<(↑n:Int))/\gt AY row D1=U8 (Ea (gt AY row D1))/\((0:Int)<=i/\i<(↑16:Int))/\(1=1/\0+Int.toNat i*1+1<=List.length w)/\La (i+(1:Int))/\Flat D0/\KR X 95 0 Q (Fb Try.f95 0) (mkS 137 [(1,O1 (XS row 0 n)),(2,O1 (PT 0 0)),(4,O1 (PT 1 0)),(5,O1 (PT 2 0)),(14,O1 (I64 (i+(1:Int))))]) [some [Fa h0,Fa h1,Fa h2,Fa h3,Fa h4],some [Fa 0,Fa 0,Fa 0,Fa 0,Fa 0],some D0])/\(decide (i<(16:Int))=false->((0:Int)<=(0:Int)/\(0:Int)<(↑5:Int))/\Fa h0=Fa h0/\((0:Int)<=(1:Int)/\(1:Int)<(↑5:Int))/\Fa h1=Fa h1/\((0:Int)<=(2:Int)/\(2:Int)<(↑5:Int))/\Fa h2=Fa h2/\((0:Int)<=(3:Int)/\(3:Int)<(↑5:Int))/\Fa h3=Fa h3/\((0:Int)<=(4:Int)/\(4:Int)<(↑5:Int))/\Fa h4=Fa h4/\Flat w/\KR X 95 0 Q (Fb Try.f95 1) (mkS 137 [(2,O1 (PT 0 0)),(4,O1 (PT 1 0)),(5,O1 (PT 2 0)),(7,O1 (Fa h0)),(8,O1 (Fa h1)),(9,O1 (Fa h2)),(10,O1 (Fa h3)),(11,O1 (Fa h4)),(63,O1 (I64 (0:Int)))]) [some [Fa h0,Fa h1,Fa h2,Fa h3,Fa h4],some [Fa 0,Fa 0,Fa 0,Fa 0,Fa 0],some w])) (Qa w (0+Int.toNat i*1) [Fa (BitVec.setWidth 32 (Ea (gt AY row D4))<<<24|||BitVec.setWidth 32 (Ea (gt AY row D3))<<<16|||BitVec.setWidth 32 (Ea (gt AY row D2))<<<8|||BitVec.setWidth 32 (Ea (gt AY row D1)))])) (0+Int.toNat ((4:Int)*i+(3:Int))*1)) (0+Int.toNat ((4:Int)*i+(2:Int))*1)) (0+Int.toNat ((4:Int)*i+(1:Int))*1)) (0+Int.toNat ((4:Int)*i)*1)) : Ia X 95 0 Q (Fb Try.f95 0) (mkS 137 [(1,.one (.xs row 0 n)),(2,.one (.ptr 0 0)),(4,.one (.ptr 1 0)),(5,.one (.ptr 2 0)),(14,.one (.i64 i))]) [some [.u32 h0,.u32 h1,.u32 h2,.u32 h3,.u32 h4],some [.u32 0,.u32 0,.u32 0,.u32 0,.u32 0],some w] :=
 wR hX WHA1 ok95 [15,64,67] [(5,35),(12,26)] [] [(3,[1,2,4,5,14],[false,false]),(9,[2,4,5,7,8,9,10,11,63],[false,false])] h (by kernel_rfl)
theorem vc95b {X} {Q : QT} (hX : PX X) (h0 h1 h2 h3 h4 a b c d e:BitVec 32) (w : List AC) (i:Int) (h : (fun D4 : Nat=>(fun D3 : Nat=>(fun D2 : Nat=>(fun D1 : Nat=>(fun D0 : List AC=>(fun L0 : Prop=>(decide (i<(80:Int))=true->(decide ((16:Int)<=i)=true->La (i+(13:Int))/\((0:Int)<=Mc BinOp.and (i+(13:Int)) (15:Int)/\Mc BinOp.and (i+(13:Int)) (15:Int)<(↑16:Int))/\gt AY w D2=Fa (Xb (gt AY w D2))/\La (i+(8:Int))/\((0:Int)<=Mc BinOp.and (i+(8:Int)) (15:Int)/\Mc BinOp.and (i+(8:Int)) (15:Int)<(↑16:Int))/\gt AY w D3=Fa (Xb (gt AY w D3))/\La (i+(2:Int))/\((0:Int)<=Mc BinOp.and (i+(2:Int)) (15:Int)/\Mc BinOp.and (i+(2:Int)) (15:Int)<(↑16:Int))/\gt AY w D4=Fa (Xb (gt AY w D4))/\(L0)/\gt AY w D1=Fa (Xb (gt AY w D1))/\(L0)/\(1=1/\0+Int.toNat (Mc BinOp.and i (15:Int))*1+1<=List.length w)/\((0:Int)<=i/\i<(80:Int))/\(L0)/\gt AY D0 D1=Fa (Xb (gt AY D0 D1))/\La (i+(1:Int))/\Flat D0/\KR X 95 0 Q (Fb Try.f95 1) (mkS 137 [(2,O1 (PT 0 0)),(4,O1 (PT 1 0)),(5,O1 (PT 2 0)),(7,O1 (Fa (rol a 5+mixF (Int.toNat i) b c d+e+Xb (gt AY D0 D1)))),(8,O1 (Fa a)),(9,O1 (Fa (rol b 30))),(10,O1 (Fa c)),(11,O1 (Fa d)),(63,O1 (I64 (i+(1:Int))))]) [some [Fa h0,Fa h1,Fa h2,Fa h3,Fa h4],some [Fa 0,Fa 0,Fa 0,Fa 0,Fa 0],some D0])/\(decide ((16:Int)<=i)=false->((0:Int)<=i/\i<(80:Int))/\(L0)/\gt AY w D1=Fa (Xb (gt AY w D1))/\La (i+(1:Int))/\Flat w/\KR X 95 0 Q (Fb Try.f95 1) (mkS 137 [(2,O1 (PT 0 0)),(4,O1 (PT 1 0)),(5,O1 (PT 2 0)),(7,O1 (Fa (rol a 5+mixF (Int.toNat i) b c d+e+Xb (gt AY w D1)))),(8,O1 (Fa a)),(9,O1 (Fa (rol b 30))),(10,O1 (Fa c)),(11,O1 (Fa d)),(63,O1 (I64 (i+(1:Int))))]) [some [Fa h0,Fa h1,Fa h2,Fa h3,Fa h4],some [Fa 0,Fa 0,Fa 0,Fa 0,Fa 0],some w]))/\(decide (i<(80:Int))=false->((0:Int)<=(0:Int)/\(0:Int)<(↑5:Int))/\Fa h0=Fa h0/\((0:Int)<=(1:Int)/\(1:Int)<(↑5:Int))/\Fa h1=Fa h1/\((0:Int)<=(2:Int)/\(2:Int)<(↑5:Int))/\Fa h2=Fa h2/\((0:Int)<=(3:Int)/\(3:Int)<(↑5:Int))/\Fa h3=Fa h3/\((0:Int)<=(4:Int)/\(4:Int)<(↑5:Int))/\Fa h4=Fa h4/\Q (AG [Fa (h0+a),Fa (h1+b),Fa (h2+c),Fa (h3+d),Fa (h4+e)]) [])) ((0:Int)<=Mc BinOp.and i (15:Int)/\Mc BinOp.and i (15:Int)<(↑16:Int))) (Qa w D1 [Fa (rol (Xb (gt AY w D2)^^^Xb (gt AY w D3)^^^Xb (gt AY w D4)^^^Xb (gt AY w D1)) 1)])) (0+Int.toNat (Mc BinOp.and i (15:Int))*1)) (0+Int.toNat (Mc BinOp.and (i+(13:Int)) (15:Int))*1)) (0+Int.toNat (Mc BinOp.and (i+(8:Int)) (15:Int))*1)) (0+Int.toNat (Mc BinOp.and (i+(2:Int)) (15:Int))*1)) : Ia X 95 0 Q (Fb Try.f95 1) (mkS 137 [(2,.one (.ptr 0 0)),(4,.one (.ptr 1 0)),(5,.one (.ptr 2 0)),(7,.one (.u32 a)),(8,.one (.u32 b)),(9,.one (.u32 c)),(10,.one (.u32 d)),(11,.one (.u32 e)),(63,.one (.i64 i))]) [some [.u32 h0,.u32 h1,.u32 h2,.u32 h3,.u32 h4],some [.u32 0,.u32 0,.u32 0,.u32 0,.u32 0],some w] :=
 wR hX WHA1 ok95 [15,64,67] [(5,35),(12,26)] [] [(3,[1,2,4,5,14],[false,false]),(9,[2,4,5,7,8,9,10,11,63],[false,false])] h (by kernel_rfl)
theorem ix0 (i:Nat) : 0 + Int.toNat ((4:Int) * (i:Int)) * 1 = 4 * i := by omega
theorem ixk (i k:Nat) : 0 + Int.toNat ((4:Int) * (i:Int) + (k:Int)) * 1 = 4 * i + k := by omega
theorem ixi (i:Nat) : 0 + Int.toNat (i:Int) * 1 = i := by omega
theorem l95a {X : Ctx} (hX : X.P = Try.prog) {Q : AV → Mem → Prop} (s : St) (b : List (BitVec 8)) (hb : b.length = 64)
  (hK : ∀ ws, Kept b 0 ws → Ia X 95 0 Q (Fb Try.f95 1) (mkS 137 [(2, .one (.ptr 0 0)), (4, .one (.ptr 1 0)), (5, .one (.ptr 2 0)), (7, .one (.u32 s.a)), (8, .one (.u32 s.b)), (9, .one (.u32 s.c)), (10, .one (.u32 s.d)), (11, .one (.u32 s.e)), (63, .one (.i64 0))])
   [some [.u32 s.a, .u32 s.b, .u32 s.c, .u32 s.d, .u32 s.e], some [.u32 0, .u32 0, .u32 0, .u32 0, .u32 0], some (ws.map Fa)]) :
  ∀ (d i:Nat) (ws : List (BitVec 32)), i + d = 16 → ws.length = 16 → (∀ j, j < i → ws.getD j 0 = be32 b j) →
   Ia X 95 0 Q (Fb Try.f95 0) (mkS 137 [(1, .one (.xs (b.map U8) 0 64)), (2, .one (.ptr 0 0)), (4, .one (.ptr 1 0)), (5, .one (.ptr 2 0)), (14, .one (.i64 i))])
    [some [.u32 s.a, .u32 s.b, .u32 s.c, .u32 s.d, .u32 s.e], some [.u32 0, .u32 0, .u32 0, .u32 0, .u32 0], some (ws.map Fa)] := by
 intro d
 induction d with
 | zero =>
  intro i ws hi hl hw
  have hi : i = 16 := by omega
  subst hi
  refine vc95a hX _ _ _ _ _ _ _ _ _ ⟨fun h => absurd (of_decide_eq_true h) (by decide), fun _ => ⟨by decide, rfl, by decide, rfl, by decide, rfl, by decide, rfl, by decide, rfl, Qd _, ⟨?_⟩⟩⟩
  refine hK ws ⟨hl, fun j hj => ?_⟩
  rw [hw j hj]
  unfold circ
  rw [if_pos (by decide), Wt_lo b hj]
 | succ d ih =>
  intro i ws hi hl hw
  have k1 : (1:Int) = ((1:Nat):Int) := rfl
  have k2 : (2:Int) = ((2:Nat):Int) := rfl
  have k3 : (3:Int) = ((3:Nat):Int) := rfl
  have e1 := ixk i 1
  have e2 := ixk i 2
  have e3 := ixk i 3
  have g0 := Cb b (4 * i) (by omega)
  have g1 := Cb b (4 * i + 1) (by omega)
  have g2 := Cb b (4 * i + 2) (by omega)
  have g3 := Cb b (4 * i + 3) (by omega)
  refine vc95a hX _ _ _ _ _ _ _ _ _ ⟨fun _ => ?_, fun h => absurd (of_decide_eq_false h) (by omega)⟩
  have hlen : (ws.map Fa).length = 16 := by simpa using hl
  simp only [ix0, ixi, show (0:Nat) + Int.toNat ((4:Int) * (i:Int) + (1:Int)) * 1 = 4 * i + 1 from e1, show (0:Nat) + Int.toNat ((4:Int) * (i:Int) + (2:Int)) * 1 = 4 * i + 2 from e2,
   show (0:Nat) + Int.toNat ((4:Int) * (i:Int) + (3:Int)) * 1 = 4 * i + 3 from e3, g0, g1, g2, g3, Ea, layS_u32, hlen]
  (repeat' apply And.intro) <;> first | trivial | (unfold La; omega) | omega | exact Qd _ | skip
  refine ⟨?_⟩
  have := ih (i + 1) (ws.set i (be32 b i)) (by omega) (by rw [List.length_set]; exact hl) (fun j hj => by
   by_cases e : i = j
   ·subst e; exact getD_set_eq _ _ _ _ (by omega)
   ·rw [getD_set_ne _ _ _ _ _ e]; exact hw j (by omega))
  exact this
theorem ixb (i:Nat) (h : i < 9223372036854775808) : 0 + Int.toNat (Mc .and (i:Int) 15) * 1 = i % 16 := by rw [and15 i h]; omega
theorem l95b {X : Ctx} (hX : X.P = Try.prog) (s : St) (b : List (BitVec 8)) : ∀ (d t:Nat) (ws : List (BitVec 32)), t + d = 80 → Kept b t ws →
   Ia X 95 0 (Is (.agg ((Ce s b).list.map Fa))) (Fb Try.f95 1) (mkS 137 [(2, .one (.ptr 0 0)), (4, .one (.ptr 1 0)), (5, .one (.ptr 2 0)), (7, .one (.u32 (rnds b t s).a)), (8, .one (.u32 (rnds b t s).b)), (9, .one (.u32 (rnds b t s).c)), (10, .one (.u32 (rnds b t s).d)), (11, .one (.u32 (rnds b t s).e)), (63, .one (.i64 t))])
   [some [.u32 s.a, .u32 s.b, .u32 s.c, .u32 s.d, .u32 s.e], some [.u32 0, .u32 0, .u32 0, .u32 0, .u32 0], some (ws.map Fa)] := by
 intro d
 induction d with
 | zero =>
  intro t ws ht hw
  have ht : t = 80 := by omega
  subst ht
  exact vc95b hX _ _ _ _ _ _ _ _ _ _ _ _ ⟨fun h => absurd (of_decide_eq_true h) (by decide), fun _ => ⟨by decide, rfl, by decide, rfl, by decide, rfl, by decide, rfl, by decide, rfl, rfl⟩⟩
 | succ d ih =>
  intro t ws ht hw
  have hlen : (ws.map Fa).length = 16 := by simpa using hw.1
  have m0 : t % 16 < 16 := Nat.mod_lt _ (by decide)
  have b0 := and15 t (by omega)
  have i0 := ixb t (by omega)
  refine vc95b hX _ _ _ _ _ _ _ _ _ _ _ _ ⟨fun _ => ⟨fun h16 => ?_, fun h16 => ?_⟩, fun h => absurd (of_decide_eq_false h) (by omega)⟩
  ·have h16 : ¬ t < 16 := by have := of_decide_eq_true h16; omega
   obtain ⟨k1, k2⟩ := hw.hi h16
   have m13 : (t + 13) % 16 < 16 := Nat.mod_lt _ (by decide)
   have m8 : (t + 8) % 16 < 16 := Nat.mod_lt _ (by decide)
   have m2 : (t + 2) % 16 < 16 := Nat.mod_lt _ (by decide)
   have b13 : Mc .and ((t:Int) + 13) 15 = (((t + 13) % 16:Nat):Int) := and15 (t + 13) (by omega)
   have b8 : Mc .and ((t:Int) + 8) 15 = (((t + 8) % 16:Nat):Int) := and15 (t + 8) (by omega)
   have b2 : Mc .and ((t:Int) + 2) 15 = (((t + 2) % 16:Nat):Int) := and15 (t + 2) (by omega)
   have g0 := gt_u32_at ws (t % 16) (by rw [hw.1]; exact m0)
   have g13 := gt_u32_at ws ((t + 13) % 16) (by rw [hw.1]; exact m13)
   have g8 := gt_u32_at ws ((t + 8) % 16) (by rw [hw.1]; exact m8)
   have g2 := gt_u32_at ws ((t + 2) % 16) (by rw [hw.1]; exact m2)
   simp only [b0, b13, b8, b2, ixi, g0, g13, g8, g2, Xb, layS_u32, hlen, k2]
   rw [k2] at k1
   have gs := gt_u32_at (ws.set (t % 16) (Wt b t)) (t % 16) (by rw [List.length_set, hw.1]; exact m0)
   rw [getD_set_eq _ _ _ _ (by rw [hw.1]; exact m0)] at gs
   simp only [gs]
   (repeat' apply And.intro) <;> first | trivial | (unfold La; omega) | omega | exact Qd _ | skip
   refine ⟨?_⟩
   exact ih (t + 1) _ (by omega) k1
  ·have h16 : t < 16 := by have := of_decide_eq_false h16; omega
   obtain ⟨k1, k2⟩ := hw.lo h16
   have g0 := gt_u32_at ws (t % 16) (by rw [hw.1]; exact m0)
   rw [k2] at g0
   simp only [b0, ixi, g0, Xb]
   refine ⟨by omega, by omega, trivial, by unfold La; omega, Qd _, ⟨?_⟩⟩
   exact ih (t + 1) _ (by omega) k1
theorem s95 (s : St) (b : List (BitVec 8)) (hb : b.length = 64) : Spec Try.prog 95 [.agg (s.list.map Fa), .one (.xs (b.map U8) 0 64)] [] (Is (.agg ((Ce s b).list.map Fa))) := by
 refine Spec.of_run ok95 fun X hX => vc95 hX s.a s.b s.c s.d s.e _ _ ⟨Zb rfl, ⟨?_⟩⟩
 exact l95a hX s b hb (fun ws hw => l95b hX s b 80 0 ws (by omega) hw) 16 0 (replicate 16 0) (by omega) (by simp) (fun j hj => by omega)
theorem and_zero (x y:BitVec 32) (h : ∀ i, i < 32 → ¬ (x.getLsbD i = true ∧ y.getLsbD i = true)) : x &&& y = 0#32 := by
 apply BitVec.eq_of_getLsbD_eq
 intro i hi
 rw [BitVec.getLsbD_and, BitVec.getLsbD_zero]
 have := h i hi
 cases hx : x.getLsbD i <;> cases hy : y.getLsbD i <;> simp_all
theorem bit_lt {x : BitVec 8} {i : Nat} (h : x.getLsbD i = true) : i < 8 := by
 rcases Nat.lt_or_ge i 8 with hl | hg
 ·exact hl
 ·rw [BitVec.getLsbD_of_ge x i hg] at h; cases h
theorem sh_bit {x : BitVec 8} {k i : Nat} (h : (x.setWidth 32 <<< k).getLsbD i = true) : k ≤ i ∧ i < k + 8 := by
 rw [BitVec.getLsbD_shiftLeft, BitVec.getLsbD_setWidth] at h
 simp only [Bool.and_eq_true, Bool.not_eq_true', decide_eq_false_iff_not] at h
 have := bit_lt h.2.2
 omega
theorem sum4 (a b c d:BitVec 8) : a.setWidth 32 <<< 24 + b.setWidth 32 <<< 16 + c.setWidth 32 <<< 8 + d.setWidth 32 = a.setWidth 32 <<< 24 ||| b.setWidth 32 <<< 16 ||| c.setWidth 32 <<< 8 ||| d.setWidth 32 := by
 have hd : d.setWidth 32 = d.setWidth 32 <<< 0 := by simp
 rw [hd]
 rw [BitVec.add_eq_or_of_and_eq_zero _ _ (and_zero (a.setWidth 32 <<< 24) (b.setWidth 32 <<< 16) (fun i hi ⟨h1, h2⟩ => by have := sh_bit h1; have := sh_bit h2; omega))]
 rw [BitVec.add_eq_or_of_and_eq_zero _ _ (and_zero (a.setWidth 32 <<< 24 ||| b.setWidth 32 <<< 16) (c.setWidth 32 <<< 8) (fun i hi ⟨h1, h2⟩ => by
  have := sh_bit h2
  rw [BitVec.getLsbD_or, Bool.or_eq_true] at h1
  rcases h1 with h1 | h1 <;> have := sh_bit h1 <;> omega))]
 rw [BitVec.add_eq_or_of_and_eq_zero _ _ (and_zero (a.setWidth 32 <<< 24 ||| b.setWidth 32 <<< 16 ||| c.setWidth 32 <<< 8) (d.setWidth 32 <<< 0) (fun i hi ⟨h1, h2⟩ => by
  have := sh_bit h2
  rw [BitVec.getLsbD_or, BitVec.getLsbD_or, Bool.or_eq_true, Bool.or_eq_true] at h1
  rcases h1 with (h1 | h1) | h1 <;> have := sh_bit h1 <;> omega))]
theorem ch_eq (b c d:BitVec 32) : (b &&& c ||| ~~~b &&& d) = (b &&& (c ^^^ d) ^^^ d) := by
 apply BitVec.eq_of_getLsbD_eq
 intro i hi
 simp only [BitVec.getLsbD_and, BitVec.getLsbD_or, BitVec.getLsbD_xor, BitVec.getLsbD_not, hi, decide_true, Bool.true_and]
 cases b.getLsbD i <;> cases c.getLsbD i <;> cases d.getLsbD i <;> rfl
theorem maj_eq (b c d:BitVec 32) : (b &&& c ||| b &&& d ||| c &&& d) = (b &&& c ||| d &&& (b ||| c)) := by
 apply BitVec.eq_of_getLsbD_eq
 intro i hi
 simp only [BitVec.getLsbD_and, BitVec.getLsbD_or]
 cases b.getLsbD i <;> cases c.getLsbD i <;> cases d.getLsbD i <;> rfl
theorem add4 (r f e w k:BitVec 32) : r + f + e + w + k = r + (f + k) + e + w := by ac_rfl
def symR (t : TypeId) : Bool := match t with | 49 => true | t => symS t
noncomputable def baseR (T : Tab) (mf : FuncId → Option MF) (M : Ad) : Env := ⟨tys, symR, false, T, [], mf, M, fun _ => none⟩
theorem baseR_ok (T : Tab) (mf : FuncId → Option MF) (M : Ad) : Eb Try.prog (baseR T mf M) := Eb.of tysOk
theorem baseR_call {T : Tab} {mf : FuncId → Option MF} {M : Ad} (hT : Oc Try.prog T) (hM : Xc Try.prog M) : Bc Try.prog (baseR T mf M) :=
 ⟨hT, fun f mf xs m0 cs r m1 _ h hc => hM f xs m0 cs r m1 h hc, (by intro f k h; cases h)⟩
def WHA2 : WC := ⟨baseR T1 mf0 M0,baseR_ok T1 mf0 M0,baseR_call T1_ok M0_ok⟩
theorem vc93 {X} {Q : QT} (hX : PX X) (h0 h1 h2 h3 h4:BitVec 32) (row : List AC) (n:Nat) (h : Flat (replicate 80 (Fa 0))/\KR X 93 0 Q (Fb Try.f93 0) (mkS 164 [(1,O1 (XS row 0 n)),(2,O1 (PT 0 0)),(4,O1 (PT 1 0)),(5,O1 (PT 2 0)),(6,O1 (I64 (0:Int)))]) [some [Fa h0,Fa h1,Fa h2,Fa h3,Fa h4],some [Fa 0,Fa 0,Fa 0,Fa 0,Fa 0],some (replicate 80 (Fa 0))]) : Ia X 93 0 Q ([.code (Na Try.f93)]) (slots [.agg [.u32 h0,.u32 h1,.u32 h2,.u32 h3,.u32 h4],.one (.xs row 0 n)] Try.f93.ntmps) [] :=
 wR' hX WHA2 ok93 [14,18,78,92,106,125,152] [(6,35),(7,22),(21,11),(25,8)] false (CS.mk [] [] [0] []) true [(3,LS.mk [1,2,4,5,6] (CS.mk [] [false,false] [] [])),(10,LS.mk [2,4,5,7,8] (CS.mk [] [false,false,true,false] [] [])),(23,LS.mk [2,4,7,12] (CS.mk [] [true,false,true] [] []))] 2000 h (by kernel_rfl)
theorem vc93a {X} {Q : QT} (hX : PX X) (h0 h1 h2 h3 h4:BitVec 32) (row w : List AC) (n:Nat) (i:Int) (h : (fun D9 : Nat=>(fun D8 : Nat=>(fun D7 : Nat=>(fun D6 : Nat=>(fun D5 : Nat=>(fun D4 : Nat=>(fun D3 : Nat=>(fun D2 : Nat=>(fun D1 : List AC=>(fun D0 : List AC=>(decide (i<(80:Int))=true->(decide (i<(16:Int))=true->La ((4:Int)*i)/\((0:Int)<=(4:Int)*i/\(4:Int)*i<(↑n:Int))/\gt AY row D9=U8 (Ea (gt AY row D9))/\La ((4:Int)*i)/\La ((4:Int)*i+(1:Int))/\((0:Int)<=(4:Int)*i+(1:Int)/\(4:Int)*i+(1:Int)<(↑n:Int))/\gt AY row D4=U8 (Ea (gt AY row D4))/\La ((4:Int)*i)/\La ((4:Int)*i+(2:Int))/\((0:Int)<=(4:Int)*i+(2:Int)/\(4:Int)*i+(2:Int)<(↑n:Int))/\gt AY row D3=U8 (Ea (gt AY row D3))/\La ((4:Int)*i)/\La ((4:Int)*i+(3:Int))/\((0:Int)<=(4:Int)*i+(3:Int)/\(4:Int)*i+(3:Int)<(↑n:Int))/\gt AY row D2=U8 (Ea (gt AY row D2))/\((0:Int)<=i/\i<(↑80:Int))/\(1=1/\0+Int.toNat i*1+1<=List.length w)/\La (i+(1:Int))/\Flat D0/\KR X 93 0 Q (Fb Try.f93 0) (mkS 164 [(1,O1 (XS row 0 n)),(2,O1 (PT 0 0)),(4,O1 (PT 1 0)),(5,O1 (PT 2 0)),(6,O1 (I64 (i+(1:Int))))]) [some [Fa h0,Fa h1,Fa h2,Fa h3,Fa h4],some [Fa 0,Fa 0,Fa 0,Fa 0,Fa 0],some D0])/\(decide (i<(16:Int))=false->La (i - (3:Int))/\((0:Int)<=i - (3:Int)/\i - (3:Int)<(↑80:Int))/\gt AY w D8=Fa (Xb (gt AY w D8))/\La (i - (8:Int))/\((0:Int)<=i - (8:Int)/\i - (8:Int)<(↑80:Int))/\gt AY w D7=Fa (Xb (gt AY w D7))/\La (i - (14:Int))/\((0:Int)<=i - (14:Int)/\i - (14:Int)<(↑80:Int))/\gt AY w D6=Fa (Xb (gt AY w D6))/\La (i - (16:Int))/\((0:Int)<=i - (16:Int)/\i - (16:Int)<(↑80:Int))/\gt AY w D5=Fa (Xb (gt AY w D5))/\((0:Int)<=(1:Int)/\(1:Int)<=(32:Int))/\((0:Int)<=i/\i<(↑80:Int))/\(1=1/\0+Int.toNat i*1+1<=List.length w)/\La (i+(1:Int))/\Flat D1/\KR X 93 0 Q (Fb Try.f93 0) (mkS 164 [(1,O1 (XS row 0 n)),(2,O1 (PT 0 0)),(4,O1 (PT 1 0)),(5,O1 (PT 2 0)),(6,O1 (I64 (i+(1:Int))))]) [some [Fa h0,Fa h1,Fa h2,Fa h3,Fa h4],some [Fa 0,Fa 0,Fa 0,Fa 0,Fa 0],some D1]))/\(decide (i<(80:Int))=false->5<=5/\(5=5/\5<=5)/\Flat w/\KR X 93 0 Q (Fb Try.f93 1) (mkS 164 [(2,O1 (PT 0 0)),(4,O1 (PT 1 0)),(5,O1 (PT 2 0)),(7,O1 (PT 3 0)),(8,O1 (I64 (0:Int)))]) [some [Fa h0,Fa h1,Fa h2,Fa h3,Fa h4],some [Fa 0,Fa 0,Fa 0,Fa 0,Fa 0],some w,some [Fa h0,Fa h1,Fa h2,Fa h3,Fa h4]])) (Qa w (0+Int.toNat i*1) [Fa (BitVec.setWidth 32 (Ea (gt AY row D9))<<<24+BitVec.setWidth 32 (Ea (gt AY row D4))<<<16+BitVec.setWidth 32 (Ea (gt AY row D3))<<<8+BitVec.setWidth 32 (Ea (gt AY row D2)))])) (Qa w (0+Int.toNat i*1) [Fa (rol (Xb (gt AY w D8)^^^Xb (gt AY w D7)^^^Xb (gt AY w D6)^^^Xb (gt AY w D5)) 1)])) (0+Int.toNat ((4:Int)*i+(3:Int))*1)) (0+Int.toNat ((4:Int)*i+(2:Int))*1)) (0+Int.toNat ((4:Int)*i+(1:Int))*1)) (0+Int.toNat (i - (16:Int))*1)) (0+Int.toNat (i - (14:Int))*1)) (0+Int.toNat (i - (8:Int))*1)) (0+Int.toNat (i - (3:Int))*1)) (0+Int.toNat ((4:Int)*i)*1)) : Ia X 93 0 Q (Fb Try.f93 0) (mkS 164 [(1,.one (.xs row 0 n)),(2,.one (.ptr 0 0)),(4,.one (.ptr 1 0)),(5,.one (.ptr 2 0)),(6,.one (.i64 i))]) [some [.u32 h0,.u32 h1,.u32 h2,.u32 h3,.u32 h4],some [.u32 0,.u32 0,.u32 0,.u32 0,.u32 0],some w] :=
 wR' hX WHA2 ok93 [14,18,78,92,106,125,152] [(6,35),(7,22),(21,11),(25,8)] false (CS.mk [] [] [0] []) true [(3,LS.mk [1,2,4,5,6] (CS.mk [] [false,false] [] [])),(10,LS.mk [2,4,5,7,8] (CS.mk [] [false,false,true,false] [] [])),(23,LS.mk [2,4,7,12] (CS.mk [] [true,false,true] [] []))] 2000 h (by kernel_rfl)
theorem vc93b {X} {Q : QT} (hX : PX X) (h0 h1 h2 h3 h4 a b c d e:BitVec 32) (w : List AC) (i:Int) (h : (fun D0 : Nat=>(decide (i<(80:Int))=true->((0:Int)<=(1:Int)/\(1:Int)<(↑5:Int))/\Fa b=Fa b/\((0:Int)<=(2:Int)/\(2:Int)<(↑5:Int))/\Fa c=Fa c/\((0:Int)<=(3:Int)/\(3:Int)<(↑5:Int))/\Fa d=Fa d/\((20:Int) ≠ (0:Int)/\La (Int.tdiv i (20:Int)))/\(decide (Int.tdiv i (20:Int)=(0:Int))=true->((0:Int)<=(1:Int)/\(1:Int)<(↑5:Int))/\Fa b=Fa b/\((0:Int)<=(2:Int)/\(2:Int)<(↑5:Int))/\Fa c=Fa c/\((0:Int)<=(1:Int)/\(1:Int)<(↑5:Int))/\Fa b=Fa b/\((0:Int)<=(3:Int)/\(3:Int)<(↑5:Int))/\Fa d=Fa d/\((0:Int)<=(0:Int)/\(0:Int)<(↑5:Int))/\Fa a=Fa a/\((0:Int)<=(5:Int)/\(5:Int)<=(32:Int))/\((0:Int)<=(4:Int)/\(4:Int)<(↑5:Int))/\Fa e=Fa e/\((0:Int)<=i/\i<(↑80:Int))/\gt AY w D0=Fa (Xb (gt AY w D0))/\((0:Int)<=(0:Int)/\(0:Int)<(↑5:Int))/\Fa a=Fa a/\((0:Int)<=(1:Int)/\(1:Int)<(↑5:Int))/\Fa b=Fa b/\((0:Int)<=(30:Int)/\(30:Int)<=(32:Int))/\((0:Int)<=(2:Int)/\(2:Int)<(↑5:Int))/\Fa c=Fa c/\((0:Int)<=(3:Int)/\(3:Int)<(↑5:Int))/\Fa d=Fa d/\(1=1/\1<=5)/\(1=1/\2<=5)/\(1=1/\3<=5)/\(1=1/\4<=5)/\(1=1/\5<=5)/\(5=5/\5<=5)/\La (i+(1:Int))/\Flat w/\KR X 93 0 Q (Fb Try.f93 1) (mkS 164 [(2,O1 (PT 0 0)),(4,O1 (PT 1 0)),(5,O1 (PT 2 0)),(7,O1 (PT 3 0)),(8,O1 (I64 (i+(1:Int))))]) [some [Fa h0,Fa h1,Fa h2,Fa h3,Fa h4],some [Fa 0,Fa 0,Fa 0,Fa 0,Fa 0],some w,some [Fa (rol a 5+(b&&&c|||~~~b&&&d)+e+Xb (gt AY w D0)+BitVec.ofInt 32 1518500249),Fa a,Fa (rol b 30),Fa c,Fa d]])/\(decide (Int.tdiv i (20:Int)=(0:Int))=false->(decide (Int.tdiv i (20:Int)=(2:Int))=true->((0:Int)<=(1:Int)/\(1:Int)<(↑5:Int))/\Fa b=Fa b/\((0:Int)<=(2:Int)/\(2:Int)<(↑5:Int))/\Fa c=Fa c/\((0:Int)<=(1:Int)/\(1:Int)<(↑5:Int))/\Fa b=Fa b/\((0:Int)<=(3:Int)/\(3:Int)<(↑5:Int))/\Fa d=Fa d/\((0:Int)<=(2:Int)/\(2:Int)<(↑5:Int))/\Fa c=Fa c/\((0:Int)<=(3:Int)/\(3:Int)<(↑5:Int))/\Fa d=Fa d/\((0:Int)<=(0:Int)/\(0:Int)<(↑5:Int))/\Fa a=Fa a/\((0:Int)<=(5:Int)/\(5:Int)<=(32:Int))/\((0:Int)<=(4:Int)/\(4:Int)<(↑5:Int))/\Fa e=Fa e/\((0:Int)<=i/\i<(↑80:Int))/\gt AY w D0=Fa (Xb (gt AY w D0))/\((0:Int)<=(0:Int)/\(0:Int)<(↑5:Int))/\Fa a=Fa a/\((0:Int)<=(1:Int)/\(1:Int)<(↑5:Int))/\Fa b=Fa b/\((0:Int)<=(30:Int)/\(30:Int)<=(32:Int))/\((0:Int)<=(2:Int)/\(2:Int)<(↑5:Int))/\Fa c=Fa c/\((0:Int)<=(3:Int)/\(3:Int)<(↑5:Int))/\Fa d=Fa d/\(1=1/\1<=5)/\(1=1/\2<=5)/\(1=1/\3<=5)/\(1=1/\4<=5)/\(1=1/\5<=5)/\(5=5/\5<=5)/\La (i+(1:Int))/\Flat w/\KR X 93 0 Q (Fb Try.f93 1) (mkS 164 [(2,O1 (PT 0 0)),(4,O1 (PT 1 0)),(5,O1 (PT 2 0)),(7,O1 (PT 3 0)),(8,O1 (I64 (i+(1:Int))))]) [some [Fa h0,Fa h1,Fa h2,Fa h3,Fa h4],some [Fa 0,Fa 0,Fa 0,Fa 0,Fa 0],some w,some [Fa (rol a 5+(b&&&c|||b&&&d|||c&&&d)+e+Xb (gt AY w D0)+BitVec.ofInt 32 2400959708),Fa a,Fa (rol b 30),Fa c,Fa d]])/\(decide (Int.tdiv i (20:Int)=(2:Int))=false->(decide (Int.tdiv i (20:Int)=(3:Int))=true->((0:Int)<=(0:Int)/\(0:Int)<(↑5:Int))/\Fa a=Fa a/\((0:Int)<=(5:Int)/\(5:Int)<=(32:Int))/\((0:Int)<=(4:Int)/\(4:Int)<(↑5:Int))/\Fa e=Fa e/\((0:Int)<=i/\i<(↑80:Int))/\gt AY w D0=Fa (Xb (gt AY w D0))/\((0:Int)<=(0:Int)/\(0:Int)<(↑5:Int))/\Fa a=Fa a/\((0:Int)<=(1:Int)/\(1:Int)<(↑5:Int))/\Fa b=Fa b/\((0:Int)<=(30:Int)/\(30:Int)<=(32:Int))/\((0:Int)<=(2:Int)/\(2:Int)<(↑5:Int))/\Fa c=Fa c/\((0:Int)<=(3:Int)/\(3:Int)<(↑5:Int))/\Fa d=Fa d/\(1=1/\1<=5)/\(1=1/\2<=5)/\(1=1/\3<=5)/\(1=1/\4<=5)/\(1=1/\5<=5)/\(5=5/\5<=5)/\La (i+(1:Int))/\Flat w/\KR X 93 0 Q (Fb Try.f93 1) (mkS 164 [(2,O1 (PT 0 0)),(4,O1 (PT 1 0)),(5,O1 (PT 2 0)),(7,O1 (PT 3 0)),(8,O1 (I64 (i+(1:Int))))]) [some [Fa h0,Fa h1,Fa h2,Fa h3,Fa h4],some [Fa 0,Fa 0,Fa 0,Fa 0,Fa 0],some w,some [Fa (rol a 5+(b^^^c^^^d)+e+Xb (gt AY w D0)+BitVec.ofInt 32 3395469782),Fa a,Fa (rol b 30),Fa c,Fa d]])/\(decide (Int.tdiv i (20:Int)=(3:Int))=false->((0:Int)<=(0:Int)/\(0:Int)<(↑5:Int))/\Fa a=Fa a/\((0:Int)<=(5:Int)/\(5:Int)<=(32:Int))/\((0:Int)<=(4:Int)/\(4:Int)<(↑5:Int))/\Fa e=Fa e/\((0:Int)<=i/\i<(↑80:Int))/\gt AY w D0=Fa (Xb (gt AY w D0))/\((0:Int)<=(0:Int)/\(0:Int)<(↑5:Int))/\Fa a=Fa a/\((0:Int)<=(1:Int)/\(1:Int)<(↑5:Int))/\Fa b=Fa b/\((0:Int)<=(30:Int)/\(30:Int)<=(32:Int))/\((0:Int)<=(2:Int)/\(2:Int)<(↑5:Int))/\Fa c=Fa c/\((0:Int)<=(3:Int)/\(3:Int)<(↑5:Int))/\Fa d=Fa d/\(1=1/\1<=5)/\(1=1/\2<=5)/\(1=1/\3<=5)/\(1=1/\4<=5)/\(1=1/\5<=5)/\(5=5/\5<=5)/\La (i+(1:Int))/\Flat w/\KR X 93 0 Q (Fb Try.f93 1) (mkS 164 [(2,O1 (PT 0 0)),(4,O1 (PT 1 0)),(5,O1 (PT 2 0)),(7,O1 (PT 3 0)),(8,O1 (I64 (i+(1:Int))))]) [some [Fa h0,Fa h1,Fa h2,Fa h3,Fa h4],some [Fa 0,Fa 0,Fa 0,Fa 0,Fa 0],some w,some [Fa (rol a 5+(b^^^c^^^d)+e+Xb (gt AY w D0)+BitVec.ofInt 32 1859775393),Fa a,Fa (rol b 30),Fa c,Fa d]]))))/\(decide (i<(80:Int))=false->Flat [Fa h0,Fa h1,Fa h2,Fa h3,Fa h4]/\Flat [Fa a,Fa b,Fa c,Fa d,Fa e]/\KR X 93 0 Q (Fb Try.f93 2) (mkS 164 [(2,O1 (PT 0 0)),(4,O1 (PT 1 0)),(7,O1 (PT 2 0)),(12,O1 (I64 (0:Int)))]) [some [Fa h0,Fa h1,Fa h2,Fa h3,Fa h4],some [Fa 0,Fa 0,Fa 0,Fa 0,Fa 0],some [Fa a,Fa b,Fa c,Fa d,Fa e]])) (0+Int.toNat i*1)) : Ia X 93 0 Q (Fb Try.f93 1) (mkS 164 [(2,.one (.ptr 0 0)),(4,.one (.ptr 1 0)),(5,.one (.ptr 2 0)),(7,.one (.ptr 3 0)),(8,.one (.i64 i))]) [some [.u32 h0,.u32 h1,.u32 h2,.u32 h3,.u32 h4],some [.u32 0,.u32 0,.u32 0,.u32 0,.u32 0],some w,some [.u32 a,.u32 b,.u32 c,.u32 d,.u32 e]] :=
 wR' hX WHA2 ok93 [14,18,78,92,106,125,152] [(6,35),(7,22),(21,11),(25,8)] false (CS.mk [] [] [0] []) true [(3,LS.mk [1,2,4,5,6] (CS.mk [] [false,false] [] [])),(10,LS.mk [2,4,5,7,8] (CS.mk [] [false,false,true,false] [] [])),(23,LS.mk [2,4,7,12] (CS.mk [] [true,false,true] [] []))] 2000 h (by kernel_rfl)
theorem vc93c {X} {Q : QT} (hX : PX X) (hr xr : List AC) (i:Int) (h : (fun D1 : Nat=>(fun D0 : List AC=>(decide (i<(5:Int))=true->((0:Int)<=i/\i<(↑5:Int))/\gt AY hr D1=Fa (Xb (gt AY hr D1))/\((0:Int)<=i/\i<(↑5:Int))/\gt AY xr D1=Fa (Xb (gt AY xr D1))/\((0:Int)<=i/\i<(↑5:Int))/\(1=1/\0+Int.toNat i*1+1<=List.length hr)/\La (i+(1:Int))/\Flat (Qa hr D1 [Fa (Xb (gt AY hr D1)+Xb (gt AY xr D1))])/\Flat xr/\KR X 93 0 Q (Fb Try.f93 2) (mkS 164 [(2,O1 (PT 0 0)),(4,O1 (PT 1 0)),(7,O1 (PT 2 0)),(12,O1 (I64 (i+(1:Int))))]) [some (Qa hr D1 [Fa (Xb (gt AY hr D1)+Xb (gt AY xr D1))]),some [Fa 0,Fa 0,Fa 0,Fa 0,Fa 0],some xr])/\(decide (i<(5:Int))=false->5<=List.length hr/\(List.length (take 5 (drop 0 hr))=5/\5<=5)/\5<=List.length D0/\Za (AG (take 5 (drop 0 D0)))/\Q (AG (take 5 (drop 0 D0))) [])) (Qa [Fa 0,Fa 0,Fa 0,Fa 0,Fa 0] 0 (take 5 (drop 0 hr)))) (0+Int.toNat i*1)) : Ia X 93 0 Q (Fb Try.f93 2) (mkS 164 [(2,.one (.ptr 0 0)),(4,.one (.ptr 1 0)),(7,.one (.ptr 2 0)),(12,.one (.i64 i))]) [some hr,some [.u32 0,.u32 0,.u32 0,.u32 0,.u32 0],some xr] :=
 wR' hX WHA2 ok93 [14,18,78,92,106,125,152] [(6,35),(7,22),(21,11),(25,8)] false (CS.mk [] [] [0] []) true [(3,LS.mk [1,2,4,5,6] (CS.mk [] [false,false] [] [])),(10,LS.mk [2,4,5,7,8] (CS.mk [] [false,false,true,false] [] [])),(23,LS.mk [2,4,7,12] (CS.mk [] [true,false,true] [] []))] 2000 h (by kernel_rfl)
theorem l93a {X : Ctx} (hX : X.P = Try.prog) {Q : AV → Mem → Prop} (s : St) (b : List (BitVec 8)) (hb : b.length = 64)
  (hK : ∀ ws : List (BitVec 32), ws.length = 80 → (∀ j, j < 80 → ws.getD j 0 = Wt b j) → Ia X 93 0 Q (Fb Try.f93 1) (mkS 164 [(2, .one (.ptr 0 0)), (4, .one (.ptr 1 0)), (5, .one (.ptr 2 0)), (7, .one (.ptr 3 0)), (8, .one (.i64 0))])
   [some [.u32 s.a, .u32 s.b, .u32 s.c, .u32 s.d, .u32 s.e], some [.u32 0, .u32 0, .u32 0, .u32 0, .u32 0], some (ws.map Fa), some [.u32 s.a, .u32 s.b, .u32 s.c, .u32 s.d, .u32 s.e]]) :
  ∀ (d i:Nat) (ws : List (BitVec 32)), i + d = 80 → ws.length = 80 → (∀ j, j < i → ws.getD j 0 = Wt b j) →
   Ia X 93 0 Q (Fb Try.f93 0) (mkS 164 [(1, .one (.xs (b.map U8) 0 64)), (2, .one (.ptr 0 0)), (4, .one (.ptr 1 0)), (5, .one (.ptr 2 0)), (6, .one (.i64 i))])
    [some [.u32 s.a, .u32 s.b, .u32 s.c, .u32 s.d, .u32 s.e], some [.u32 0, .u32 0, .u32 0, .u32 0, .u32 0], some (ws.map Fa)] := by
 intro d
 induction d with
 | zero =>
  intro i ws hi hl hw
  have hi : i = 80 := by omega
  subst hi
  refine vc93a hX _ _ _ _ _ _ _ _ _ ⟨fun h => absurd (of_decide_eq_true h) (by decide), fun _ => ⟨by decide, by decide, Qd _, ⟨?_⟩⟩⟩
  exact hK ws hl hw
 | succ d ih =>
  intro i ws hi hl hw
  have hlen : (ws.map Fa).length = 80 := by simpa using hl
  have step : ∀ x, x = Wt b i → Ia X 93 0 Q (Fb Try.f93 0) (mkS 164 [(1, .one (.xs (b.map U8) 0 64)), (2, .one (.ptr 0 0)), (4, .one (.ptr 1 0)), (5, .one (.ptr 2 0)), (6, .one (.i64 ((i:Int) + 1)))])
    [some [.u32 s.a, .u32 s.b, .u32 s.c, .u32 s.d, .u32 s.e], some [.u32 0, .u32 0, .u32 0, .u32 0, .u32 0], some ((ws.set i x).map Fa)] := fun x hx => by
   have := ih (i + 1) (ws.set i x) (by omega) (by rw [List.length_set]; exact hl) (fun j hj => by
    by_cases e : i = j
    ·subst e; rw [getD_set_eq _ _ _ _ (by omega), hx]
    ·rw [getD_set_ne _ _ _ _ _ e]; exact hw j (by omega))
   exact this
  refine vc93a hX _ _ _ _ _ _ _ _ _ ⟨fun _ => ⟨fun h16 => ?_, fun h16 => ?_⟩, fun h => absurd (of_decide_eq_false h) (by omega)⟩
  ·have h16 : i < 16 := by have := of_decide_eq_true h16; omega
   have e1 := ixk i 1
   have e2 := ixk i 2
   have e3 := ixk i 3
   have g0 := Cb b (4 * i) (by omega)
   have g1 := Cb b (4 * i + 1) (by omega)
   have g2 := Cb b (4 * i + 2) (by omega)
   have g3 := Cb b (4 * i + 3) (by omega)
   simp only [ix0, ixi, show (0:Nat) + Int.toNat ((4:Int) * (i:Int) + (1:Int)) * 1 = 4 * i + 1 from e1, show (0:Nat) + Int.toNat ((4:Int) * (i:Int) + (2:Int)) * 1 = 4 * i + 2 from e2,
    show (0:Nat) + Int.toNat ((4:Int) * (i:Int) + (3:Int)) * 1 = 4 * i + 3 from e3, g0, g1, g2, g3, Ea, layS_u32, hlen]
   (repeat' apply And.intro) <;> first | trivial | (unfold La; omega) | omega | exact Qd _ | skip
   refine ⟨?_⟩
   exact step _ (by rw [Wt_lo b h16]; exact sum4 _ _ _ _)
  ·have h16 : ¬ i < 16 := by have := of_decide_eq_false h16; omega
   have e1 : (0:Nat) + Int.toNat ((i:Int) - 3) * 1 = i - 3 := by omega
   have e2 : (0:Nat) + Int.toNat ((i:Int) - 8) * 1 = i - 8 := by omega
   have e3 : (0:Nat) + Int.toNat ((i:Int) - 14) * 1 = i - 14 := by omega
   have e4 : (0:Nat) + Int.toNat ((i:Int) - 16) * 1 = i - 16 := by omega
   have g0 := gt_u32_at ws (i - 3) (by omega)
   have g1 := gt_u32_at ws (i - 8) (by omega)
   have g2 := gt_u32_at ws (i - 14) (by omega)
   have g3 := gt_u32_at ws (i - 16) (by omega)
   simp only [ixi, e1, e2, e3, e4, g0, g1, g2, g3, Xb, layS_u32, hlen]
   (repeat' apply And.intro) <;> first | trivial | (unfold La; omega) | omega | exact Qd _ | skip
   refine ⟨?_⟩
   exact step _ (by rw [Wt_hi b h16, hw _ (by omega), hw _ (by omega), hw _ (by omega), hw _ (by omega)])
def addR (hs xs : List (BitVec 32)) : Nat → List (BitVec 32)
 | 0 => hs
 | n + 1 => (addR hs xs n).set n ((addR hs xs n).getD n 0 + xs.getD n 0)
theorem addR_len (hs xs : List (BitVec 32)) : ∀ n, (addR hs xs n).length = hs.length
 | 0 => rfl
 | n + 1 => by rw [addR, List.length_set, addR_len hs xs n]
theorem l93c {X : Ctx} (hX : X.P = Try.prog) (s x : St) : ∀ (d i:Nat), i + d = 5 →
  Ia X 93 0 (Is (.agg ((s.add x).list.map Fa))) (Fb Try.f93 2) (mkS 164 [(2, .one (.ptr 0 0)), (4, .one (.ptr 1 0)), (7, .one (.ptr 2 0)), (12, .one (.i64 i))])
   [some ((addR s.list x.list i).map Fa), some [.u32 0, .u32 0, .u32 0, .u32 0, .u32 0], some (x.list.map Fa)] := by
 intro d
 induction d with
 | zero =>
  intro i hi
  have hi : i = 5 := by omega
  subst hi
  refine vc93c hX _ _ _ ⟨fun h => absurd (of_decide_eq_true h) (by decide), fun _ => ?_⟩
  have e : (addR s.list x.list 5).map Fa = (s.add x).list.map Fa := rfl
  rw [e]
  exact ⟨Nat.le_refl 5, ⟨rfl, Nat.le_refl 5⟩, Nat.le_refl 5, Zb rfl, rfl⟩
 | succ d ih =>
  intro i hi
  have hl := addR_len s.list x.list i
  have hl : (addR s.list x.list i).length = 5 := hl
  have hlen : ((addR s.list x.list i).map Fa).length = 5 := by simpa using hl
  have g0 := gt_u32_at (addR s.list x.list i) i (by omega)
  have g1 := gt_u32_at x.list i (show i < 5 by omega)
  refine vc93c hX _ _ _ ⟨fun _ => ?_, fun h => absurd (of_decide_eq_false h) (by omega)⟩
  simp only [ixi, g0, g1, Xb, layS_u32, hlen]
  (repeat' apply And.intro) <;> first | trivial | (unfold La; omega) | omega | exact Qd _ | skip
  refine ⟨?_⟩
  exact ih (i + 1) (by omega)
theorem l93b {X : Ctx} (hX : X.P = Try.prog) (s : St) (b : List (BitVec 8)) (ws : List (BitVec 32)) (hl : ws.length = 80) (hw : ∀ j, j < 80 → ws.getD j 0 = Wt b j) : ∀ (d t:Nat), t + d = 80 →
   Ia X 93 0 (Is (.agg ((Ce s b).list.map Fa))) (Fb Try.f93 1) (mkS 164 [(2, .one (.ptr 0 0)), (4, .one (.ptr 1 0)), (5, .one (.ptr 2 0)), (7, .one (.ptr 3 0)), (8, .one (.i64 t))])
   [some [.u32 s.a, .u32 s.b, .u32 s.c, .u32 s.d, .u32 s.e], some [.u32 0, .u32 0, .u32 0, .u32 0, .u32 0], some (ws.map Fa), some [.u32 (rnds b t s).a, .u32 (rnds b t s).b, .u32 (rnds b t s).c, .u32 (rnds b t s).d, .u32 (rnds b t s).e]] := by
 intro d
 induction d with
 | zero =>
  intro t ht
  have ht : t = 80 := by omega
  subst ht
  exact vc93b hX _ _ _ _ _ _ _ _ _ _ _ _ ⟨fun h => absurd (of_decide_eq_true h) (by decide), fun _ => ⟨Zb rfl, Zb rfl, ⟨l93c hX s (rnds b 80 s) 5 0 rfl⟩⟩⟩
 | succ d ih =>
  intro t ht
  have g0 := gt_u32_at ws t (by omega)
  rw [hw t (by omega)] at g0
  have i0 : (0:Nat) + Int.toNat (t:Int) * 1 = t := by omega
  have e : Int.tdiv (t:Int) 20 = ((t / 20:Nat):Int) := by rw [Int.tdiv_eq_ediv_of_nonneg (by omega)]; omega
  have step : ∀ x, x = (stepF t (Wt b t) (rnds b t s)).a → Ia X 93 0 (Is (.agg ((Ce s b).list.map Fa))) (Fb Try.f93 1) (mkS 164 [(2, .one (.ptr 0 0)), (4, .one (.ptr 1 0)), (5, .one (.ptr 2 0)), (7, .one (.ptr 3 0)), (8, .one (.i64 ((t:Int) + 1)))])
   [some [.u32 s.a, .u32 s.b, .u32 s.c, .u32 s.d, .u32 s.e], some [.u32 0, .u32 0, .u32 0, .u32 0, .u32 0], some (ws.map Fa), some [.u32 x, .u32 (rnds b t s).a, .u32 (rol (rnds b t s).b 30), .u32 (rnds b t s).c, .u32 (rnds b t s).d]] := fun x hx => by
   subst hx
   exact ih (t + 1) (by omega)
  refine vc93b hX _ _ _ _ _ _ _ _ _ _ _ _ ⟨fun _ => ?_, fun h => absurd (of_decide_eq_false h) (by omega)⟩
  simp only [e, i0, g0, Xb, Nat.le_refl, true_and, and_true]
  (repeat' apply And.intro) <;> first | decide | (unfold La; omega) | omega | exact Qd _ | skip
  ·intro h
   have h := of_decide_eq_true h
   (repeat' apply And.intro) <;> first | decide | (unfold La; omega) | omega | exact Qd _ | skip
   refine ⟨step _ ?_⟩
   unfold stepF mixF; rw [if_pos (by omega), add4, ch_eq]; rfl
  ·intro h0
   have h0 := of_decide_eq_false h0
   (repeat' apply And.intro) <;> first | decide | (unfold La; omega) | omega | exact Qd _ | skip
   ·intro h
    have h := of_decide_eq_true h
    (repeat' apply And.intro) <;> first | decide | (unfold La; omega) | omega | exact Qd _ | skip
    refine ⟨step _ ?_⟩
    unfold stepF mixF; rw [if_neg (by omega), if_neg (by omega), if_pos (by omega), add4, maj_eq]; rfl
   ·intro h1
    have h1 := of_decide_eq_false h1
    (repeat' apply And.intro) <;> first | decide | (unfold La; omega) | omega | exact Qd _ | skip
    ·intro h
     have h := of_decide_eq_true h
     (repeat' apply And.intro) <;> first | decide | (unfold La; omega) | omega | exact Qd _ | skip
     refine ⟨step _ ?_⟩
     unfold stepF mixF; rw [if_neg (by omega), if_neg (by omega), if_neg (by omega), add4]; rfl
    ·intro h2
     have h2 := of_decide_eq_false h2
     (repeat' apply And.intro) <;> first | decide | (unfold La; omega) | omega | exact Qd _ | skip
     refine ⟨step _ ?_⟩
     unfold stepF mixF; rw [if_neg (by omega), if_pos (by omega), add4]; rfl
theorem s93 (s : St) (b : List (BitVec 8)) (hb : b.length = 64) : Spec Try.prog 93 [.agg (s.list.map Fa), .one (.xs (b.map U8) 0 64)] [] (Is (.agg ((Ce s b).list.map Fa))) := by
 refine Spec.of_run ok93 fun X hX => vc93 hX s.a s.b s.c s.d s.e _ _ ⟨Zb rfl, ⟨?_⟩⟩
 exact l93a hX s b hb (fun ws hl hw => l93b hX s b ws hl hw 80 0 (by omega)) 80 0 (replicate 80 0) (by omega) (by simp) (fun j hj => by omega)
def st0 : St := ⟨1732584193#32, 4023233417#32, 2562383102#32, 271733878#32, 3285377520#32⟩
def St.xr (s t : St) : St := ⟨s.a ^^^ t.a, s.b ^^^ t.b, s.c ^^^ t.c, s.d ^^^ t.d, s.e ^^^ t.e⟩
structure Sm where
 h : St
 left : List (BitVec 8)
 n : BitVec 64
def Sm.cells (s : Sm) : List AC := (s.h.xr st0).list.map Fa ++ s.left.map U8 ++ [.u64 s.n]
def nwS : Sm := ⟨st0, replicate 64 0, 0⟩
def step1 (s : Sm) (x:BitVec 8) : Sm :=
 ⟨if (s.n + 1#64).toNat % 64 = 0 then Ce s.h (s.left.set (s.n.toNat % 64) x) else s.h, s.left.set (s.n.toNat % 64) x, s.n + 1#64⟩
def Lc (s : Sm) (b : List (BitVec 8)) : Sm := b.foldl step1 s
def smOf (cs : List AC) : Sm :=
 ⟨St.xr ⟨Xb (gt .any cs 0), Xb (gt .any cs 1), Xb (gt .any cs 2), Xb (gt .any cs 3), Xb (gt .any cs 4)⟩ st0, ((cs.drop 5).take 64).map Ea, asU64 (gt .any cs 69)⟩
noncomputable def inlH : Inl := fun f => match f with
 | 96 => some (Try.f96, [])
 | 40 => some (Try.f40, [])
 | 36 => some (Try.f36, [])
 | _ => none
theorem inlH_ok : InlOk Try.prog inlH := by
 intro f fn hs h
 unfold inlH at h
 split at h <;> first | (cases h; done) | (obtain ⟨rfl, _⟩ := Prod.mk.inj (Option.some.inj h); first | exact ok96 | exact ok40 | exact ok36)
def symH (t : TypeId) : Bool := match t with | 51 => true | 46 => true | t => symR t
noncomputable def baseH (T : Tab) (mf : FuncId → Option MF) (M : Ad) : Env := ⟨tys, symH, false, T, [], mf, M, fun _ => none⟩
theorem baseH_ok (T : Tab) (mf : FuncId → Option MF) (M : Ad) : Eb Try.prog (baseH T mf M) := Eb.of tysOk
theorem baseH_call {T : Tab} {mf : FuncId → Option MF} {M : Ad} (hT : Oc Try.prog T) (hM : Xc Try.prog M) : Bc Try.prog (baseH T mf M) :=
 ⟨hT, fun f mf xs m0 cs r m1 _ h hc => hM f xs m0 cs r m1 h hc, (by intro f k h; cases h)⟩
noncomputable def envH (T : Tab) (mf : FuncId → Option MF) (M : Ad) : Env := inlE (baseH T mf M) inlH 2
theorem envH_ok (T : Tab) (mf : FuncId → Option MF) (M : Ad) : Eb Try.prog (envH T mf M) := inlE_envOk (baseH_ok T mf M) _ _
theorem envH_call {T : Tab} {mf : FuncId → Option MF} {M : Ad} (hT : Oc Try.prog T) (hM : Xc Try.prog M) : Bc Try.prog (envH T mf M) :=
 inlE_ok (baseH_ok T mf M) (baseH_call hT hM) mixed inlH_ok 2
noncomputable def T2 : Tab := fun f xs => match f, xs with
 | 95, [.agg [.u32 a, .u32 b, .u32 c, .u32 d, .u32 e], .one (.xs row 0 n)] => some ([Oa row ∧ row.length = 64 ∧ n = 64], .agg [.u32 (Ce ⟨a, b, c, d, e⟩ (row.map Ea)).a, .u32 (Ce ⟨a, b, c, d, e⟩ (row.map Ea)).b, .u32 (Ce ⟨a, b, c, d, e⟩ (row.map Ea)).c, .u32 (Ce ⟨a, b, c, d, e⟩ (row.map Ea)).d, .u32 (Ce ⟨a, b, c, d, e⟩ (row.map Ea)).e])
 | 93, [.agg [.u32 a, .u32 b, .u32 c, .u32 d, .u32 e], .one (.xs row 0 n)] => some ([Oa row ∧ row.length = 64 ∧ n = 64], .agg [.u32 (Ce ⟨a, b, c, d, e⟩ (row.map Ea)).a, .u32 (Ce ⟨a, b, c, d, e⟩ (row.map Ea)).b, .u32 (Ce ⟨a, b, c, d, e⟩ (row.map Ea)).c, .u32 (Ce ⟨a, b, c, d, e⟩ (row.map Ea)).d, .u32 (Ce ⟨a, b, c, d, e⟩ (row.map Ea)).e])
 | _, _ => none
theorem T2_ok : Oc Try.prog T2 := by
 intro f xs cs r h hc
 unfold T2 at h
 split at h <;> first | (cases h; done) | (obtain ⟨rfl, rfl⟩ := Prod.mk.inj (Option.some.inj h))
 ·rename_i a b c d e row n
  obtain ⟨h1, h2, rfl⟩ := hc.1
  have := s95 ⟨a, b, c, d, e⟩ (row.map Ea) (by rw [List.length_map]; exact h2)
  rw [← h1] at this
  exact ⟨⟨_, _, ok95⟩, this, exactB_ok rfl⟩
 ·rename_i a b c d e row n
  obtain ⟨h1, h2, rfl⟩ := hc.1
  have := s93 ⟨a, b, c, d, e⟩ (row.map Ea) (by rw [List.length_map]; exact h2)
  rw [← h1] at this
  exact ⟨⟨_, _, ok93⟩, this, exactB_ok rfl⟩
def WHA3 : WC := ⟨envH T2 mf0 M0,envH_ok T2 mf0 M0,envH_call T2_ok M0_ok⟩
theorem vc94 {X} {Q : QT} (hX : PX X) (cs : List AC) (h : 5<=5/\(5=5/\5<=5)/\(1=1/\1<=5)/\(1=1/\2<=5)/\(1=1/\3<=5)/\(1=1/\4<=5)/\(1=1/\5<=5)/\(5=5/\5<=5)/\Flat cs/\Flat [Fa 0,Fa 0,Fa 0,Fa 0,Fa 0]/\Flat (Qa [Fa 0,Fa 0,Fa 0,Fa 0,Fa 0] 0 (take 5 (drop 0 (Qa [Fa 0,Fa 0,Fa 0,Fa 0,Fa 0] 0 (lay (lay (lay (lay (lay [Fa 0,Fa 0,Fa 0,Fa 0,Fa 0] 0 [Zc (Value.int IntKind.u32 1732584193)]) 1 [Zc (Value.int IntKind.u32 4023233417)]) 2 [Zc (Value.int IntKind.u32 2562383102)]) 3 [Zc (Value.int IntKind.u32 271733878)]) 4 [Zc (Value.int IntKind.u32 3285377520)])))))/\KR X 94 0 Q (Fb Try.f94 0) (mkS 20 [(1,O1 (PT 0 0)),(2,O1 (PT 1 0)),(3,O1 (PT 2 0)),(6,O1 (I64 (0:Int)))]) [some cs,some [Fa 0,Fa 0,Fa 0,Fa 0,Fa 0],some [Fa (BitVec.ofInt 32 1732584193),Fa (BitVec.ofInt 32 4023233417),Fa (BitVec.ofInt 32 2562383102),Fa (BitVec.ofInt 32 271733878),Fa (BitVec.ofInt 32 3285377520)]]) : Ia X 94 0 Q ([.code (Na Try.f94)]) (slots [.agg cs] Try.f94.ntmps) [] :=
 wR' hX WHA3 ok94 [7] [(5,9)] false (CS.mk [] [] [0] []) true [(3,LS.mk [1,2,3,6] (CS.mk [] [] [] []))] 2000 h (by kernel_rfl)
theorem vc94a {X} {Q : QT} (hX : PX X) (cs zs hr : List AC) (i:Int) (h : (fun D1 : List AC=>(fun D0 : Nat=>(decide (i<(5:Int))=true->((0:Int)<=i/\i<(↑5:Int))/\gt AY hr D0=Fa (Xb (gt AY hr D0))/\((0:Int)<=i/\i<(↑5:Int))/\gt AY cs D0=Fa (Xb (gt AY cs D0))/\((0:Int)<=i/\i<(↑5:Int))/\(1=1/\0+Int.toNat i*1+1<=List.length hr)/\La (i+(1:Int))/\Flat cs/\Flat zs/\Flat (Qa hr D0 [Fa (Xb (gt AY hr D0)^^^Xb (gt AY cs D0))])/\KR X 94 0 Q (Fb Try.f94 0) (mkS 20 [(1,O1 (PT 0 0)),(2,O1 (PT 1 0)),(3,O1 (PT 2 0)),(6,O1 (I64 (i+(1:Int))))]) [some cs,some zs,some (Qa hr D0 [Fa (Xb (gt AY hr D0)^^^Xb (gt AY cs D0))])])/\(decide (i<(5:Int))=false->5<=List.length hr/\(List.length (take 5 (drop 0 hr))=5/\5<=List.length zs)/\5<=List.length D1/\Za (AG (take 5 (drop 0 D1)))/\Q (AG (take 5 (drop 0 D1))) [])) (0+Int.toNat i*1)) (Qa zs 0 (take 5 (drop 0 hr)))) : Ia X 94 0 Q (Fb Try.f94 0) (mkS 20 [(1,.one (.ptr 0 0)),(2,.one (.ptr 1 0)),(3,.one (.ptr 2 0)),(6,.one (.i64 i))]) [some cs,some zs,some hr] :=
 wR' hX WHA3 ok94 [7] [(5,9)] false (CS.mk [] [] [0] []) true [(3,LS.mk [1,2,3,6] (CS.mk [] [] [] []))] 2000 h (by kernel_rfl)
theorem gt_app_l {α : Type} (d : α) : ∀ (a b : List α) (i:Nat), i < a.length → gt d (a ++ b) i = gt d a i
 | [], _, _, h => by simp at h
 | x :: a, b, 0, _ => rfl
 | x :: a, b, i + 1, h => gt_app_l d a b i (by simpa using h)
theorem gt_app_r {α : Type} (d : α) : ∀ (a b : List α) (i:Nat), gt d (a ++ b) (a.length + i) = gt d b i
 | [], _, _ => by simp
 | x :: a, b, i => by
  rw [List.length_cons, show a.length + 1 + i = (a.length + i) + 1 by omega]
  exact gt_app_r d a b i
theorem St.list_get (s : St) {i : Nat} (h : i < 5) : gt .any (s.list.map Fa) i = .u32 (s.list.getD i 0) := gt_u32_at _ _ h
theorem Sm.flat (s : Sm) : Flat s.cells := flat_append (flat_append (Qd _) (Aa _)) (Zb rfl)
theorem Sm.len (s : Sm) : s.cells.length = 6 + s.left.length := by
 unfold Sm.cells
 rw [List.length_append, List.length_append, List.length_map, List.length_map]
 show 5 + _ + 1 = _
 omega
theorem Sm.get_h (s : Sm) {i : Nat} (h : i < 5) : gt .any s.cells i = .u32 ((s.h.xr st0).list.getD i 0) := by
 unfold Sm.cells
 rw [gt_app_l _ _ _ _ (by rw [List.length_append]; show i < 5 + _; omega), gt_app_l _ _ _ _ (show i < 5 from h), St.list_get _ h]
theorem Sm.get_n (s : Sm) (hl : s.left.length = 64) : gt .any s.cells 69 = Nc s.n := by
 unfold Sm.cells
 have := gt_app_r AY ((s.h.xr st0).list.map Fa ++ s.left.map U8) [.u64 s.n] 0
 rw [List.length_append, List.length_map, List.length_map, hl] at this
 exact this
theorem Sm.get_left (s : Sm) (hl : s.left.length = 64) : (s.cells.drop 5).take 64 = s.left.map U8 := by
 unfold Sm.cells
 rw [List.append_assoc, List.drop_append_of_le_length (by show 5 ≤ 5; omega)]
 show (s.left.map U8 ++ [Nc s.n]).take 64 = _
 rw [List.take_append_of_le_length (by rw [List.length_map]; omega), List.take_of_length_le (by rw [List.length_map]; omega)]
theorem xrr (s t : St) : (s.xr t).xr t = s := by
 unfold St.xr
 simp only [BitVec.xor_assoc, BitVec.xor_self, BitVec.xor_zero]
theorem Tc (s : Sm) (hl : s.left.length = 64) : smOf s.cells = s := by
 unfold smOf
 rw [s.get_h (i := 0) (by decide), s.get_h (i := 1) (by decide), s.get_h (i := 2) (by decide), s.get_h (i := 3) (by decide), s.get_h (i := 4) (by decide), s.get_n hl, s.get_left hl, Ua]
 show Sm.mk ((s.h.xr st0).xr st0) s.left s.n = s
 rw [xrr]
def xorR (hs xs : List (BitVec 32)) : Nat → List (BitVec 32)
 | 0 => hs
 | n + 1 => (xorR hs xs n).set n ((xorR hs xs n).getD n 0 ^^^ xs.getD n 0)
theorem xorR_len (hs xs : List (BitVec 32)) : ∀ n, (xorR hs xs n).length = hs.length
 | 0 => rfl
 | n + 1 => by rw [xorR, List.length_set, xorR_len hs xs n]
theorem xorR_5 (s t : St) : xorR s.list t.list 5 = (s.xr t).list := rfl
theorem xr_comm (s t : St) : s.xr t = t.xr s := by
 unfold St.xr
 simp only [BitVec.xor_comm]
theorem l94 {X : Ctx} (hX : X.P = Try.prog) (s : Sm) (hl : s.left.length = 64) : ∀ (d i:Nat), i + d = 5 →
  Ia X 94 0 (Is (.agg (s.h.list.map Fa))) (Fb Try.f94 0) (mkS 20 [(1, .one (.ptr 0 0)), (2, .one (.ptr 1 0)), (3, .one (.ptr 2 0)), (6, .one (.i64 i))])
   [some s.cells, some [.u32 0, .u32 0, .u32 0, .u32 0, .u32 0], some ((xorR st0.list (s.h.xr st0).list i).map Fa)] := by
 intro d
 induction d with
 | zero =>
  intro i hi
  have hi : i = 5 := by omega
  subst hi
  refine vc94a hX _ _ _ _ ⟨fun h => absurd (of_decide_eq_true h) (by decide), fun _ => ?_⟩
  try dsimp only
  rw [xorR_5, xr_comm, xrr]
  exact ⟨Nat.le_refl 5, ⟨rfl, Nat.le_refl 5⟩, Nat.le_refl 5, Zb rfl, rfl⟩
 | succ d ih =>
  intro i hi
  have hl : (xorR st0.list (s.h.xr st0).list i).length = 5 := xorR_len _ _ i
  have hlen : ((xorR st0.list (s.h.xr st0).list i).map Fa).length = 5 := by simpa using hl
  have g0 := gt_u32_at (xorR st0.list (s.h.xr st0).list i) i (by omega)
  have g1 := s.get_h (i := i) (by omega)
  refine vc94a hX _ _ _ _ ⟨fun _ => ?_, fun h => absurd (of_decide_eq_false h) (by omega)⟩
  simp only [ixi, g0, g1, Xb, layS_u32, hlen]
  (repeat' apply And.intro) <;> first | trivial | (unfold La; omega) | omega | exact Qd _ | exact s.flat | exact Zb rfl | skip
  refine ⟨?_⟩
  exact ih (i + 1) (by omega)
theorem s94 (s : Sm) (hl : s.left.length = 64) : Spec Try.prog 94 [.agg s.cells] [] (Is (.agg (s.h.list.map Fa))) := by
 refine Spec.of_run ok94 fun X hX => vc94 hX _ ?_
 have := s.len
 (repeat' apply And.intro) <;> first | trivial | decide | omega | exact s.flat | exact Zb rfl | skip
 exact ⟨l94 hX s hl 5 0 rfl⟩
noncomputable def T3 : Tab := fun f xs => match f, xs with
 | 94, [.agg cs] => some ([cs = (smOf cs).cells ∧ cs.length = 70], .agg [.u32 (smOf cs).h.a, .u32 (smOf cs).h.b, .u32 (smOf cs).h.c, .u32 (smOf cs).h.d, .u32 (smOf cs).h.e])
 | f, xs => T2 f xs
theorem T3_ok : Oc Try.prog T3 := by
 intro f xs cs r h hc
 unfold T3 at h
 split at h
 ·obtain ⟨rfl, rfl⟩ := Prod.mk.inj (Option.some.inj h)
  obtain ⟨h1, h2⟩ := hc.1
  rename_i cs
  have hl : (smOf cs).left.length = 64 := by have := (smOf cs).len; rw [← h1] at this; omega
  have := s94 (smOf cs) hl
  rw [← h1] at this
  exact ⟨⟨_, _, ok94⟩, this, exactB_ok rfl⟩
 ·exact T2_ok _ _ _ _ h hc
def WHA4 : WC := ⟨envH T3 mf0 M0,envH_ok T3 mf0 M0,envH_call T3_ok M0_ok⟩
theorem vc41 {X} {Q : QT} (hX : PX X) (cs row : List AC) (n:Nat) (h : (fun D0 : Sm=>70<=List.length cs/\Flat (take 70 (drop 0 cs))/\(take 70 (drop 0 cs)=Sm.cells D0/\List.length (take 70 (drop 0 cs))=70)/\(5=5/\5<=5)/\Flat cs/\Flat ([Fa 0,Fa 0,Fa 0,Fa 0,Fa 0]++(replicate 64 (U8 0)++[Nc 0]))/\KR X 41 0 Q (Fb Try.f41 0) (mkS 53 [(1,O1 (XS row 0 n)),(2,O1 (PT 0 0)),(4,O1 (PT 1 0)),(5,O1 (PT 2 0))]) [some cs,some ([Fa 0,Fa 0,Fa 0,Fa 0,Fa 0]++(replicate 64 (U8 0)++[Nc 0])),some [Fa (St.a (Sm.h D0)),Fa (St.b (Sm.h D0)),Fa (St.c (Sm.h D0)),Fa (St.d (Sm.h D0)),Fa (St.e (Sm.h D0))]]) (smOf (take 70 (drop 0 cs)))) : Ia X 41 0 Q ([.code (Na Try.f41)]) (slots [.agg cs,.one (.xs row 0 n)] Try.f41.ntmps) [] :=
 wR' hX WHA4 ok41 [13,33,40] [(7,4)] false (CS.mk [] [] [0] []) true [(2,LS.mk [1,2,4,5] (CS.mk [] [true,true,false] [] [])),(9,LS.mk [2,4,5,38,39] (CS.mk [] [] [] []))] 2000 h (by kernel_rfl)
theorem vc41a {X} {Q : QT} (hX : PX X) (cs zs row : List AC) (h0 h1 h2 h3 h4:BitVec 32) (o n:Nat) (h : (fun D1 : Int=>(fun D0 : List AC=>(decide ((0:Int)<(↑n:Int))=true->gt AY cs 69=Nc (asU64 (gt AY cs 69))/\BitVec.ofInt 64 64 ≠ (0:BitVec 64)/\((0:Int)<=D1/\D1<=(↑64:Int)/\(↑64:Int)<=(↑64:Int))/\o+n*1<=List.length row/\5+Int.toNat D1*1+(64 - Int.toNat D1)*1<=List.length cs/\((0:Int)<=(↑(min n (64 - Int.toNat D1)):Int)/\(↑(min n (64 - Int.toNat D1)):Int)<=(↑n:Int)/\(↑n:Int)<=(↑n:Int))/\gt AY (lay cs (5+Int.toNat D1*1) (take (min n (64 - Int.toNat D1)*1) (take (n*1) (drop o row)))) 69=Nc (asU64 (gt AY (lay cs (5+Int.toNat D1*1) (take (min n (64 - Int.toNat D1)*1) (take (n*1) (drop o row)))) 69))/\(1=1/\70<=List.length (lay cs (5+Int.toNat D1*1) (take (min n (64 - Int.toNat D1)*1) (take (n*1) (drop o row)))))/\gt AY D0 69=Nc (asU64 (gt AY D0 69))/\BitVec.ofInt 64 64 ≠ (0:BitVec 64)/\(decide (asU64 (gt AY D0 69) % BitVec.ofInt 64 64=BitVec.ofInt 64 0)=true->5<=5/\((0:Int)<=(↑0:Int)/\(↑0:Int)<=(↑64:Int)/\(↑64:Int)<=(↑64:Int))/\Flat (take 5 (drop 0 [Fa h0,Fa h1,Fa h2,Fa h3,Fa h4]))/\69<=List.length D0/\Flat (take 64 (drop 5 D0))/\(Oa (take 64 (drop 5 D0))/\List.length (take 64 (drop 5 D0))=64/\64=64)/\(5=5/\5<=5)/\Flat D0/\Flat zs/\KR X 41 0 Q (Fb Try.f41 0) (mkS 53 [(1,O1 (XS row (o+Int.toNat (↑(min n (64 - Int.toNat D1)):Int)*1) (Int.toNat (↑n:Int) - Int.toNat (↑(min n (64 - Int.toNat D1)):Int)))),(2,O1 (PT 0 0)),(4,O1 (PT 1 0)),(5,O1 (PT 2 0))]) [some D0,some zs,some [Fa (St.a (Ce { a := h0,b := h1,c := h2,d := h3,e := h4 } (List.map Ea (take 64 (drop 5 D0))))),Fa (St.b (Ce { a := h0,b := h1,c := h2,d := h3,e := h4 } (List.map Ea (take 64 (drop 5 D0))))),Fa (St.c (Ce { a := h0,b := h1,c := h2,d := h3,e := h4 } (List.map Ea (take 64 (drop 5 D0))))),Fa (St.d (Ce { a := h0,b := h1,c := h2,d := h3,e := h4 } (List.map Ea (take 64 (drop 5 D0))))),Fa (St.e (Ce { a := h0,b := h1,c := h2,d := h3,e := h4 } (List.map Ea (take 64 (drop 5 D0)))))]])/\(decide (asU64 (gt AY D0 69) % BitVec.ofInt 64 64=BitVec.ofInt 64 0)=false->Flat D0/\Flat zs/\KR X 41 0 Q (Fb Try.f41 0) (mkS 53 [(1,O1 (XS row (o+Int.toNat (↑(min n (64 - Int.toNat D1)):Int)*1) (Int.toNat (↑n:Int) - Int.toNat (↑(min n (64 - Int.toNat D1)):Int)))),(2,O1 (PT 0 0)),(4,O1 (PT 1 0)),(5,O1 (PT 2 0))]) [some D0,some zs,some [Fa h0,Fa h1,Fa h2,Fa h3,Fa h4]]))/\(decide ((0:Int)<(↑n:Int))=false->5<=5/\(5=5/\5<=5)/\(1=1/\1<=5)/\(1=1/\2<=5)/\(1=1/\3<=5)/\(1=1/\4<=5)/\(1=1/\5<=5)/\Flat cs/\Flat zs/\Flat [Fa h0,Fa h1,Fa h2,Fa h3,Fa h4]/\KR X 41 0 Q (Fb Try.f41 1) (mkS 53 [(2,O1 (PT 0 0)),(4,O1 (PT 1 0)),(5,O1 (PT 2 0)),(38,AG [Fa (BitVec.ofInt 32 1732584193),Fa (BitVec.ofInt 32 4023233417),Fa (BitVec.ofInt 32 2562383102),Fa (BitVec.ofInt 32 271733878),Fa (BitVec.ofInt 32 3285377520)]),(39,O1 (I64 (0:Int)))]) [some cs,some zs,some [Fa h0,Fa h1,Fa h2,Fa h3,Fa h4]])) (Qa (lay cs (5+Int.toNat D1*1) (take (min n (64 - Int.toNat D1)*1) (take (n*1) (drop o row)))) 69 [Nc (asU64 (gt AY (lay cs (5+Int.toNat D1*1) (take (min n (64 - Int.toNat D1)*1) (take (n*1) (drop o row)))) 69)+BitVec.ofInt 64 (↑(min n (64 - Int.toNat D1)):Int))])) (↑(BitVec.toNat (asU64 (gt AY cs 69) % BitVec.ofInt 64 64)):Int)) : Ia X 41 0 Q (Fb Try.f41 0) (mkS 53 [(1,.one (.xs row o n)),(2,.one (.ptr 0 0)),(4,.one (.ptr 1 0)),(5,.one (.ptr 2 0))]) [some cs,some zs,some [.u32 h0,.u32 h1,.u32 h2,.u32 h3,.u32 h4]] :=
 wR' hX WHA4 ok41 [13,33,40] [(7,4)] false (CS.mk [] [] [0] []) true [(2,LS.mk [1,2,4,5] (CS.mk [] [true,true,false] [] [])),(9,LS.mk [2,4,5,38,39] (CS.mk [] [] [] []))] 2000 h (by kernel_rfl)
theorem vc41b {X} {Q : QT} (hX : PX X) (cs zs hr : List AC) (i:Int) (g0 g1 g2 g3 g4:BitVec 32) (h : (fun D1 : List AC=>(fun D0 : List AC=>(decide (i<(5:Int))=true->((0:Int)<=i/\i<(↑5:Int))/\gt AY [Fa g0,Fa g1,Fa g2,Fa g3,Fa g4] (Int.toNat i*1)=Fa (Xb (gt AY [Fa g0,Fa g1,Fa g2,Fa g3,Fa g4] (Int.toNat i*1)))/\((0:Int)<=i/\i<(↑5:Int))/\gt AY hr (0+Int.toNat i*1)=Fa (Xb (gt AY hr (0+Int.toNat i*1)))/\((0:Int)<=i/\i<(↑5:Int))/\(1=1/\0+Int.toNat i*1+1<=List.length cs)/\La (i+(1:Int))/\Flat D0/\Flat zs/\Flat hr/\KR X 41 0 Q (Fb Try.f41 1) (mkS 53 [(2,O1 (PT 0 0)),(4,O1 (PT 1 0)),(5,O1 (PT 2 0)),(38,AG [Fa g0,Fa g1,Fa g2,Fa g3,Fa g4]),(39,O1 (I64 (i+(1:Int))))]) [some D0,some zs,some hr])/\(decide (i<(5:Int))=false->70<=List.length cs/\(List.length (take 70 (drop 0 cs))=70/\70<=List.length zs)/\70<=List.length D1/\Za (AG (take 70 (drop 0 D1)))/\Q (AG (take 70 (drop 0 D1))) [])) (Qa cs (0+Int.toNat i*1) [Fa (Xb (gt AY hr (0+Int.toNat i*1))^^^Xb (gt AY [Fa g0,Fa g1,Fa g2,Fa g3,Fa g4] (Int.toNat i*1)))])) (Qa zs 0 (take 70 (drop 0 cs)))) : Ia X 41 0 Q (Fb Try.f41 1) (mkS 53 [(2,.one (.ptr 0 0)),(4,.one (.ptr 1 0)),(5,.one (.ptr 2 0)),(38,.agg [.u32 g0,.u32 g1,.u32 g2,.u32 g3,.u32 g4]),(39,.one (.i64 i))]) [some cs,some zs,some hr] :=
 wR' hX WHA4 ok41 [13,33,40] [(7,4)] false (CS.mk [] [] [0] []) true [(2,LS.mk [1,2,4,5] (CS.mk [] [true,true,false] [] [])),(9,LS.mk [2,4,5,38,39] (CS.mk [] [] [] []))] 2000 h (by kernel_rfl)
theorem lay_map {α β : Type} (f : α → β) (l p : List α) (o:Nat) : lay (l.map f) o (p.map f) = (lay l o p).map f := by
 unfold lay
 rw [List.map_append, List.map_append, List.map_take, List.map_drop, List.length_map]
theorem lay_one {α : Type} : ∀ (l : List α) (o:Nat) (x : α), o < l.length → lay l o [x] = l.set o x
 | [], _, _, h => by simp at h
 | y :: l, 0, x, _ => by simp [lay]
 | y :: l, o + 1, x, h => by
  have := lay_one l o x (by simpa using h)
  unfold lay at *
  simpa [Nat.add_right_comm] using this
theorem lay_cons {α : Type} (l : List α) (o:Nat) (x : α) (p : List α) (h : o + 1 + p.length ≤ l.length) : lay l o (x :: p) = lay (l.set o x) (o + 1) p := by
 unfold lay
 rw [List.drop_set_of_lt (by omega), List.length_cons, show o + (p.length + 1) = o + 1 + p.length by omega]
 congr 1
 rw [List.take_set, List.take_add_one]
 have : l[o]? = some l[o] := List.getElem?_eq_getElem (by omega)
 rw [this, List.set_append_right _ _ (by rw [List.length_take]; omega), List.length_take, show o - min o l.length = 0 by omega]
 simp
theorem lay_skip {α : Type} (l m p : List α) (o k:Nat) (h : l.length = k) (ho : k ≤ o) : lay (l ++ m) o p = l ++ lay m (o - k) p := by
 subst h
 unfold lay
 rw [List.take_append, List.take_of_length_le ho, List.drop_append, List.drop_of_length_le (by omega), List.nil_append, show o + p.length - l.length = o - l.length + p.length by omega]
 simp only [List.append_assoc]
theorem lay_in {α : Type} (l m p : List α) (o:Nat) (h : o + p.length ≤ l.length) : lay (l ++ m) o p = lay l o p ++ m := by
 unfold lay
 rw [List.take_append_of_le_length (by omega), List.drop_append_of_le_length h]
 simp only [List.append_assoc]
theorem lay_len' {α : Type} (l p : List α) (o:Nat) (h : o + p.length ≤ l.length) : (lay l o p).length = l.length := by
 unfold lay
 simp only [List.length_append, List.length_take, List.length_drop]
 omega
theorem Sm.lay_left (h : St) (l p : List (BitVec 8)) (n:BitVec 64) (a:Nat) (hp : a + p.length ≤ l.length) :
  lay (Sm.mk h l n).cells (5 + a) (p.map U8) = (Sm.mk h (lay l a p) n).cells := by
 unfold Sm.cells
 dsimp only
 rw [lay_in _ _ _ _ (by rw [List.length_append, List.length_map, List.length_map, List.length_map]; show 5 + a + p.length ≤ 5 + l.length; omega),
  lay_skip _ _ _ _ 5 rfl (by omega), show 5 + a - 5 = a by omega, lay_map]
theorem Sm.set_n (h : St) (l : List (BitVec 8)) (n x:BitVec 64) (hl : l.length = 64) : Qa (Sm.mk h l n).cells 69 [.u64 x] = (Sm.mk h l x).cells := by
 show List.set _ _ _ = _
 unfold Sm.cells
 dsimp only
 have e : ((h.xr st0).list.map Fa ++ l.map U8).length = 69 := by rw [List.length_append, List.length_map, List.length_map, hl]; rfl
 rw [List.set_append_right _ _ (by omega), e]
 rfl
theorem mod64 (x:BitVec 64) : (x % BitVec.ofInt 64 64 = BitVec.ofInt 64 0) ↔ x.toNat % 64 = 0 := by
 have e1 : (BitVec.ofInt 64 64).toNat = 64 := rfl
 have e0 : (BitVec.ofInt 64 0).toNat = 0 := rfl
 rw [← BitVec.toNat_inj, BitVec.toNat_umod, e1, e0]
theorem modN (x:BitVec 64) : (x % BitVec.ofInt 64 64).toNat = x.toNat % 64 := BitVec.toNat_umod
theorem addF_chunk : ∀ (p : List (BitVec 8)) (s : Sm), p ≠ [] → s.left.length = 64 → s.n.toNat % 64 + p.length ≤ 64 →
  Lc s p = ⟨if (s.n + BitVec.ofInt 64 (p.length:Nat)).toNat % 64 = 0 then Ce s.h (lay s.left (s.n.toNat % 64) p) else s.h, lay s.left (s.n.toNat % 64) p, s.n + BitVec.ofInt 64 (p.length:Nat)⟩
 | [], _, h, _, _ => absurd rfl h
 | x :: [], s, _, hl, hp => by
  show step1 s x = _
  unfold step1
  rw [lay_one _ _ _ (by simp only [List.length_cons, List.length_nil] at hp; omega)]
  rfl
 | x :: y :: q, s, _, hl, hp => by
  show Lc (step1 s x) (y :: q) = _
  have hp' : s.n.toNat % 64 + (q.length + 1 + 1) ≤ 64 := hp
  have e1 : (s.n + 1#64).toNat % 64 = s.n.toNat % 64 + 1 := by
   rw [BitVec.toNat_add]
   show (s.n.toNat + 1) % 18446744073709551616 % 64 = _
   omega
  have hs : step1 s x = ⟨s.h, s.left.set (s.n.toNat % 64) x, s.n + 1#64⟩ := by
   unfold step1
   rw [if_neg (by omega)]
  rw [hs, addF_chunk (y :: q) _ (by simp) (by rw [List.length_set]; exact hl) (by show (s.n + 1#64).toNat % 64 + (q.length + 1) ≤ 64; omega)]
  dsimp only
  have e2 : s.n + 1#64 + BitVec.ofInt 64 ((y :: q).length:Nat) = s.n + BitVec.ofInt 64 ((x :: y :: q).length:Nat) := by
   rw [BitVec.add_assoc]
   congr 1
   simp only [BitVec.ofInt_natCast, List.length_cons]
   apply BitVec.eq_of_toNat_eq
   simp only [BitVec.toNat_add, BitVec.toNat_ofNat]
   omega
  rw [e1, e2, lay_cons s.left _ x (y :: q) (by rw [List.length_cons]; omega)]
theorem asU64_u64 (x:BitVec 64) : asU64 (.u64 x) = x := rfl
theorem l41a {X : Ctx} (hX : X.P = Try.prog) {Q : AV → Mem → Prop} (h0 : St) (zs : List AC) (hz : Flat zs) (b : List (BitVec 8))
  (s : Sm) (hK : Ia X 41 0 Q (Fb Try.f41 1) (mkS 53 [(2, .one (.ptr 0 0)), (4, .one (.ptr 1 0)), (5, .one (.ptr 2 0)), (38, .agg (st0.list.map Fa)), (39, .one (.i64 0))])
   [some (Sm.mk h0 s.left s.n).cells, some zs, some (s.h.list.map Fa)]) :
  ∀ (m o n:Nat) (s1 : Sm), n ≤ m → o + n = b.length → s1.left.length = 64 → Lc s1 (b.drop o) = s →
   Ia X 41 0 Q (Fb Try.f41 0) (mkS 53 [(1, .one (.xs (b.map U8) o n)), (2, .one (.ptr 0 0)), (4, .one (.ptr 1 0)), (5, .one (.ptr 2 0))])
    [some (Sm.mk h0 s1.left s1.n).cells, some zs, some (s1.h.list.map Fa)] := by
 intro m
 induction m with
 | zero =>
  intro o n s1 hn ho hl hs
  have hn : n = 0 := by omega
  subst hn
  refine vc41a hX _ _ _ _ _ _ _ _ _ _ ⟨fun h => absurd (of_decide_eq_true h) (by decide), fun _ => ?_⟩
  (repeat' apply And.intro) <;> first | decide | exact Sm.flat _ | exact hz | exact Zb rfl | skip
  rw [List.drop_of_length_le (by omega)] at hs
  have hs : s1 = s := hs
  subst hs
  exact ⟨hK⟩
 | succ m ih =>
  intro o n s1 hn ho hl hs
  refine vc41a hX _ _ _ _ _ _ _ _ _ _ ⟨fun h => ?_, fun h => ?_⟩
  ·have h0' := of_decide_eq_true h
   have hg := Sm.get_n (Sm.mk h0 s1.left s1.n) hl
   simp only [hg, asU64_u64, modN, Int.toNat_natCast, Nat.mul_one]
   have ep : take (min n (64 - s1.n.toNat % 64)) (take n (drop o (b.map U8))) = (((b.drop o).take n).take (min n (64 - s1.n.toNat % 64))).map U8 := by
    rw [List.map_take, List.map_take, List.map_drop]
   rw [ep]
   generalize hp : ((b.drop o).take n).take (min n (64 - s1.n.toNat % 64)) = p
   have hpl : p.length = min n (64 - s1.n.toNat % 64) := by rw [← hp, List.length_take, List.length_take, List.length_drop]; omega
   have hlp := lay_len' s1.left p (s1.n.toNat % 64) (by omega)
   have hl2 : (lay s1.left (s1.n.toNat % 64) p).length = 64 := by rw [hlp, hl]
   rw [← hpl]
   have hll := Sm.lay_left h0 s1.left p s1.n (s1.n.toNat % 64) (by omega)
   have hn1 := Sm.get_n (Sm.mk h0 (lay s1.left (s1.n.toNat % 64) p) s1.n) hl2
   have hs1 := Sm.set_n h0 (lay s1.left (s1.n.toNat % 64) p) s1.n (s1.n + BitVec.ofInt 64 (p.length:Nat)) hl2
   have hn2 := Sm.get_n (Sm.mk h0 (lay s1.left (s1.n.toNat % 64) p) (s1.n + BitVec.ofInt 64 (p.length:Nat))) hl2
   have hg2 := Sm.get_left (Sm.mk h0 (lay s1.left (s1.n.toNat % 64) p) (s1.n + BitVec.ofInt 64 (p.length:Nat))) hl2
   have hA := addF_chunk p s1 (by intro h; rw [h] at hpl; simp at hpl; omega) hl (by omega)
   have k1 := (Sm.mk h0 s1.left s1.n).len
   have k2 := (Sm.mk h0 (lay s1.left (s1.n.toNat % 64) p) s1.n).len
   have k3 := (Sm.mk h0 (lay s1.left (s1.n.toNat % 64) p) (s1.n + BitVec.ofInt 64 (p.length:Nat))).len
   dsimp only at k1 k2 k3 hn1 hn2 hg2
   rw [hl] at k1
   rw [hl2] at k2 k3
   have step : ∀ h' : St, h' = (Lc s1 p).h → Ia X 41 0 Q (Fb Try.f41 0) (mkS 53 [(1, .one (.xs (b.map U8) (o + p.length) (n - p.length))), (2, .one (.ptr 0 0)), (4, .one (.ptr 1 0)), (5, .one (.ptr 2 0))])
    [some (Sm.mk h0 (lay s1.left (s1.n.toNat % 64) p) (s1.n + BitVec.ofInt 64 (p.length:Nat))).cells, some zs, some (h'.list.map Fa)] := by
    intro h' e
    have hsp : b.drop o = p ++ b.drop (o + p.length) := by
     have e1 := List.take_append_drop p.length (b.drop o)
     rw [List.drop_drop] at e1
     have e2 : (b.drop o).take p.length = p := by rw [hpl]; conv => rhs; rw [← hp]
                                                  rw [List.take_take, show min (min n (64 - s1.n.toNat % 64)) n = min n (64 - s1.n.toNat % 64) by omega]
     rw [e2] at e1
     exact e1.symm
    have := ih (o + p.length) (n - p.length) (Lc s1 p) (by omega) (by omega) (by rw [hA]; exact hl2) (by rw [← hs, hsp]; unfold Lc; rw [List.foldl_append])
    rw [← e, hA] at this
    exact this
   rw [hA] at step
   dsimp only at step
   simp only [hll, hn1, hs1, hn2, hg2, asU64_u64, mod64, k1, k2, k3, Ua, List.length_map]
   refine ⟨trivial, by decide, by omega, by omega, by omega, by omega, trivial, ⟨trivial, by omega⟩, trivial, by decide, fun h64 => ?_, fun h64 => ?_⟩
   ·have h64 := of_decide_eq_true h64
    rw [if_pos h64] at step
    refine ⟨by decide, by decide, Zb rfl, by decide, Aa _, ⟨Ba _, hl2, trivial⟩, ⟨trivial, Nat.le_refl _⟩, Sm.flat _, hz, ⟨?_⟩⟩
    exact step _ rfl
   ·have h64 := of_decide_eq_false h64
    rw [if_neg h64] at step
    refine ⟨Sm.flat _, hz, ⟨?_⟩⟩
    exact step _ rfl
  ·have h := of_decide_eq_false h
   have hn : n = 0 := by omega
   subst hn
   (repeat' apply And.intro) <;> first | decide | exact Sm.flat _ | exact hz | exact Zb rfl | skip
   rw [List.drop_of_length_le (by omega)] at hs
   have hs : s1 = s := hs
   subst hs
   exact ⟨hK⟩
def setR (hs xs : List (BitVec 32)) : Nat → List (BitVec 32)
 | 0 => hs
 | n + 1 => (setR hs xs n).set n (xs.getD n 0)
theorem setR_len (hs xs : List (BitVec 32)) : ∀ n, (setR hs xs n).length = hs.length
 | 0 => rfl
 | n + 1 => by rw [setR, List.length_set, setR_len hs xs n]
theorem setR_5 (s t : St) : setR s.list t.list 5 = t.list := rfl
theorem xr_get (s t : St) {i : Nat} (h : i < 5) : s.list.getD i 0 ^^^ t.list.getD i 0 = (s.xr t).list.getD i 0 := by
 match i, h with
 | 0, _ => rfl
 | 1, _ => rfl
 | 2, _ => rfl
 | 3, _ => rfl
 | 4, _ => rfl
theorem take_lay {l cs : List AC} {k : Nat} (h : l.length = k) (hc : cs.length = k) : take k (drop 0 (Qa l 0 cs)) = cs := by
 subst hc
 rw [layS_eq (by omega)]
 unfold lay
 rw [List.take_zero, List.nil_append, List.drop_zero, Nat.zero_add, List.drop_of_length_le (by omega), List.append_nil, List.take_of_length_le (Nat.le_refl _)]
theorem layS_len {l cs : List AC} {o : Nat} (h : o + cs.length ≤ l.length) : (Qa l o cs).length = l.length := by rw [layS_eq h, lay_len' _ _ _ h]
theorem l41b {X : Ctx} (hX : X.P = Try.prog) (s : Sm) (hl : s.left.length = 64) (h0 : St) (zs : List AC) (hz : Flat zs) (hzl : zs.length = 70) : ∀ (d i:Nat), i + d = 5 →
  Ia X 41 0 (Is (.agg s.cells)) (Fb Try.f41 1) (mkS 53 [(2, .one (.ptr 0 0)), (4, .one (.ptr 1 0)), (5, .one (.ptr 2 0)), (38, .agg (st0.list.map Fa)), (39, .one (.i64 i))])
   [some ((setR (h0.xr st0).list (s.h.xr st0).list i).map Fa ++ (s.left.map U8 ++ [.u64 s.n])), some zs, some (s.h.list.map Fa)] := by
 have hle : ∀ i, ((setR (h0.xr st0).list (s.h.xr st0).list i).map Fa).length = 5 := fun i => by rw [List.length_map, setR_len]; rfl
 have hle2 : ∀ i, ((setR (h0.xr st0).list (s.h.xr st0).list i).map Fa ++ (s.left.map U8 ++ [Nc s.n])).length = 70 := fun i => by
  rw [List.length_append, hle, List.length_append, List.length_map, hl]; rfl
 intro d
 induction d with
 | zero =>
  intro i hi
  have hi : i = 5 := by omega
  subst hi
  refine vc41b hX _ _ _ _ _ _ _ _ _ ⟨fun h => absurd (of_decide_eq_true h) (by decide), fun _ => ?_⟩
  try dsimp only
  rw [setR_5, ← List.append_assoc]
  have hc : s.cells.length = 70 := by rw [s.len, hl]
  have hc2 : (take 70 (drop 0 s.cells)) = s.cells := by rw [List.drop_zero, List.take_of_length_le (by omega)]
  show 70 ≤ s.cells.length ∧ ((take 70 (drop 0 s.cells)).length = 70 ∧ 70 ≤ zs.length) ∧ 70 ≤ (Qa zs 0 (take 70 (drop 0 s.cells))).length ∧ Flat (take 70 (drop 0 (Qa zs 0 (take 70 (drop 0 s.cells))))) ∧ Is (AG s.cells) (AG (take 70 (drop 0 (Qa zs 0 (take 70 (drop 0 s.cells)))))) []
  rw [hc2, take_lay hzl hc, layS_len (by omega)]
  exact ⟨by omega, ⟨hc, by omega⟩, by omega, s.flat, rfl⟩
 | succ d ih =>
  intro i hi
  have g0 := St.list_get s.h (i := i) (by omega)
  have g1 := St.list_get st0 (i := i) (by omega)
  have hf : ∀ i, Flat ((setR (h0.xr st0).list (s.h.xr st0).list i).map Fa ++ (s.left.map U8 ++ [Nc s.n])) := fun i => flat_append (Qd _) (flat_append (Aa _) (Zb rfl))
  have he : Qa ((setR (h0.xr st0).list (s.h.xr st0).list i).map Fa ++ (s.left.map U8 ++ [Nc s.n])) i [.u32 ((s.h.xr st0).list.getD i 0)] = (setR (h0.xr st0).list (s.h.xr st0).list (i + 1)).map Fa ++ (s.left.map U8 ++ [Nc s.n]) := by
   show List.set _ _ _ = _
   rw [List.set_append_left _ _ (by rw [hle]; omega), setR, List.map_set]
  refine vc41b hX _ _ _ _ _ _ _ _ _ ⟨fun _ => ?_, fun h => absurd (of_decide_eq_false h) (by omega)⟩
  have g1' : gt AY [Fa st0.a, Fa st0.b, Fa st0.c, Fa st0.d, Fa st0.e] i = Fa (st0.list.getD i 0) := g1
  have hi0 : Int.toNat (i:Int) * 1 = i := by omega
  simp only [hi0, Nat.zero_add, g0, g1', Xb, hle2, xr_get _ _ (show i < 5 by omega), he]
  refine ⟨by omega, trivial, by omega, trivial, by omega, ⟨trivial, by omega⟩, by unfold La; omega, hf _, hz, Qd _, ⟨?_⟩⟩
  exact ih (i + 1) (by omega)
theorem Bd : ∀ (b : List (BitVec 8)) (s : Sm), (Lc s b).left.length = s.left.length
 | [], _ => rfl
 | x :: b, s => by
  show (Lc (step1 s x) b).left.length = _
  rw [Bd b]
  exact List.length_set
theorem s41 (s : Sm) (hl : s.left.length = 64) (b : List (BitVec 8)) : Spec Try.prog 41 [.agg s.cells, .one (.xs (b.map U8) 0 b.length)] [] (Is (.agg (Lc s b).cells)) := by
 refine Spec.of_run ok41 fun X hX => vc41 hX _ _ _ ?_
 have hc : s.cells.length = 70 := by rw [s.len, hl]
 have hc2 : (take 70 (drop 0 s.cells)) = s.cells := by rw [List.drop_zero, List.take_of_length_le (by omega)]
 rw [hc2, Tc s hl]
 refine ⟨by omega, s.flat, ⟨rfl, hc⟩, ⟨rfl, Nat.le_refl _⟩, s.flat, Zb rfl, ⟨?_⟩⟩
 have ht : (Lc s b).left.length = 64 := by rw [Bd, hl]
 refine l41a hX s.h _ (Zb rfl) b (Lc s b) ?_ b.length 0 b.length s (Nat.le_refl _) (by omega) hl rfl
 generalize Lc s b = t at ht ⊢
 have e : (Sm.mk s.h t.left t.n).cells = (setR (s.h.xr st0).list (t.h.xr st0).list 0).map Fa ++ (t.left.map U8 ++ [.u64 t.n]) := List.append_assoc _ _ _
 rw [e]
 refine l41b hX t ht s.h _ ?_ ?_ 5 0 rfl
 ·exact Zb rfl
 ·exact rfl
def padZ (n:Nat) : Nat := (119 - n % 64) % 64
def lenB (x:BitVec 64) : List (BitVec 8) := (List.range 8).map fun i => (x >>> (56 - 8 * i)).setWidth 8
def tailF (n:BitVec 64) : List (BitVec 8) := 128#8 :: (replicate (padZ n.toNat) 0#8 ++ lenB (n * 8#64))
def outB (s : St) (j:Nat) : BitVec 8 := (s.list.getD (j / 4) 0 >>> (24 - 8 * (j % 4))).setWidth 8
def outF (s : St) : List (BitVec 8) := (List.range 20).map (outB s)
def digF (s : Sm) : List (BitVec 8) := outF (Lc s (tailF s.n)).h
def blkAt (b : List (BitVec 8)) (j:Nat) : List (BitVec 8) := (b.drop (64 * j)).take 64
def blks (b : List (BitVec 8)) : Nat → St
 | 0 => st0
 | k + 1 => Ce (blks b k) (blkAt b k)
def ofF (m : List (BitVec 8)) : List (BitVec 8) := outF (blks (m ++ tailF (BitVec.ofNat 64 m.length)) ((m ++ tailF (BitVec.ofNat 64 m.length)).length / 64))
theorem blkAt_app (b : List (BitVec 8)) (x:BitVec 8) (j:Nat) (h : 64 * j + 64 ≤ b.length) : blkAt (b ++ [x]) j = blkAt b j := by
 unfold blkAt
 rw [List.drop_append_of_le_length (by omega), List.take_append_of_le_length (by rw [List.length_drop]; omega)]
theorem blks_app (b : List (BitVec 8)) (x:BitVec 8) : ∀ k, 64 * k ≤ b.length → blks (b ++ [x]) k = blks b k
 | 0, _ => rfl
 | k + 1, h => by rw [blks, blks, blks_app b x k (by omega), blkAt_app b x k (by omega)]
theorem addF_app (s : Sm) (a b : List (BitVec 8)) : Lc s (a ++ b) = Lc (Lc s a) b := by unfold Lc; rw [List.foldl_append]
structure Took (b : List (BitVec 8)) (s : Sm) : Prop where
 n : s.n = BitVec.ofNat 64 b.length
 len : s.left.length = 64
 left : s.left.take (b.length % 64) = b.drop (64 * (b.length / 64))
 h : s.h = blks b (b.length / 64)
theorem Took.snoc {b : List (BitVec 8)} {s : Sm} (t : Took b s) (x:BitVec 8) : Took (b ++ [x]) (step1 s x) := by
 have e0 : s.n.toNat % 64 = b.length % 64 := by rw [t.n, BitVec.toNat_ofNat]; omega
 have e1 : s.n + 1#64 = BitVec.ofNat 64 (b.length + 1) := by
  rw [t.n]
  apply BitVec.eq_of_toNat_eq
  simp only [BitVec.toNat_add, BitVec.toNat_ofNat]
  omega
 have e2 : (s.n + 1#64).toNat % 64 = (b.length + 1) % 64 := by rw [e1, BitVec.toNat_ofNat]; omega
 have hr : b.length % 64 < 64 := Nat.mod_lt _ (by decide)
 have et : (s.left.set (b.length % 64) x).take (b.length % 64 + 1) = b.drop (64 * (b.length / 64)) ++ [x] := by
  rw [List.take_add_one, ← t.left, List.take_set, List.getElem?_set_self (by rw [t.len]; omega)]
  rw [List.set_eq_of_length_le (by rw [List.length_take, t.len]; omega)]
  rfl
 have hd : (b ++ [x]).drop (64 * (b.length / 64)) = b.drop (64 * (b.length / 64)) ++ [x] := List.drop_append_of_le_length (by omega)
 have hl : (b ++ [x]).length = b.length + 1 := by simp
 refine ⟨?_, ?_, ?_, ?_⟩
 ·show s.n + 1#64 = _
  rw [e1, hl]
 ·show (s.left.set _ _).length = 64
  rw [List.length_set, t.len]
 ·show (s.left.set (s.n.toNat % 64) x).take _ = _
  rw [e0, hl]
  by_cases h : (b.length + 1) % 64 = 0
  ·rw [h, List.take_zero, show 64 * ((b.length + 1) / 64) = b.length + 1 by omega, List.drop_of_length_le (by omega)]
  ·rw [show (b.length + 1) % 64 = b.length % 64 + 1 by omega, show (b.length + 1) / 64 = b.length / 64 by omega, et, hd]
 ·show (if (s.n + 1#64).toNat % 64 = 0 then Ce s.h (s.left.set (s.n.toNat % 64) x) else s.h) = _
  rw [e0, e2, hl]
  by_cases h : (b.length + 1) % 64 = 0
  ·rw [if_pos h, show (b.length + 1) / 64 = b.length / 64 + 1 by omega, blks, blks_app b x _ (by omega), ← t.h]
   congr 1
   unfold blkAt
   rw [hd, ← et, show b.length % 64 + 1 = 64 by omega, List.take_take]
   rw [List.take_of_length_le (by rw [List.length_set, t.len]; omega)]
  ·rw [if_neg h, show (b.length + 1) / 64 = b.length / 64 by omega, blks_app b x _ (by omega), t.h]
theorem took_nil : Took [] nwS := ⟨rfl, rfl, rfl, rfl⟩
theorem Took.app : ∀ {c b : List (BitVec 8)} {s : Sm}, Took b s → Took (b ++ c) (Lc s c)
 | [], b, s, t => by rw [List.append_nil]; exact t
 | x :: c, b, s, t => by
  have := Took.app (c := c) (t.snoc x)
  rw [List.append_assoc] at this
  exact this
theorem took (b : List (BitVec 8)) : Took b (Lc nwS b) := by
 have := Took.app (c := b) took_nil
 exact this
theorem dig_of (m : List (BitVec 8)) : digF (Lc nwS m) = ofF m := by
 unfold digF ofF
 rw [(took m).n, ← addF_app, (took _).h]
def hideE {α : Type} (x : α) : {y : α // y = x} := Classical.choice ⟨⟨x, rfl⟩⟩
def hide {α : Type} (x : α) : α := (hideE x).1
theorem Ja {α : Type} (x : α) : hide x = x := (hideE x).2
theorem exactL_append {a b : List AC} (h : Qb a) (g : Qb b) : Qb (a ++ b) := fun c hc => (List.mem_append.1 hc).elim (h c) (g c)
theorem Jb {α : Type} (f : α → AC) (hf : ∀ x, (f x).exact = true) (l : List α) : Qb (l.map f) := fun c hc => by
 obtain ⟨x, _, rfl⟩ := List.mem_map.1 hc
 exact hf x
theorem Sm.exact (s : Sm) : Qb s.cells := exactL_append (exactL_append (Jb _ (fun _ => rfl) _) (Jb _ (fun _ => rfl) _)) (exactL_ok rfl)
noncomputable def T4 : Tab := fun f xs => match f, xs with
 | 41, [.agg cs, .one (.xs row 0 n)] => some ([cs = (smOf cs).cells ∧ cs.length = 70 ∧ Oa row ∧ row.length = n], .agg (hide (Lc (smOf cs) (row.map Ea)).cells))
 | f, xs => T3 f xs
theorem T4_ok : Oc Try.prog T4 := by
 intro f xs cs r h hc
 unfold T4 at h
 split at h
 ·obtain ⟨rfl, rfl⟩ := Prod.mk.inj (Option.some.inj h)
  obtain ⟨h1, h2, h3, h4⟩ := hc.1
  rename_i cs row n
  have hl : (smOf cs).left.length = 64 := by have := (smOf cs).len; rw [← h1] at this; omega
  have := s41 (smOf cs) hl (row.map Ea)
  rw [← h1, ← h3, List.length_map, h4] at this
  rw [Ja]
  exact ⟨⟨_, _, ok41⟩, this, Sm.exact _⟩
 ·exact T3_ok _ _ _ _ h hc
def WHA5 : WC := ⟨envH T4 mf0 M0,envH_ok T4 mf0 M0,envH_call T4_ok M0_ok⟩
theorem vc42 {X} {Q : QT} (hX : PX X) (cs : List AC) (h : gt AY cs 69=Nc (asU64 (gt AY cs 69))/\Flat cs/\Flat (replicate 20 (U8 0))/\Flat [Zc (Value.int IntKind.u8 128)]/\KR X 42 0 Q (Fb Try.f42 0) (mkS 58 [(1,O1 (PT 0 0)),(2,O1 (PT 1 0)),(3,O1 (Nc (asU64 (gt AY cs 69)*BitVec.ofInt 64 8))),(4,O1 (GS 2 1 1))]) [some cs,some (replicate 20 (U8 0)),some [U8 (BitVec.ofInt 8 128)]]) : Ia X 42 0 Q ([.code (Na Try.f42)]) (slots [.agg cs] Try.f42.ntmps) [] :=
 wR' hX WHA5 ok42 [20,25,42] [] false (CS.mk [] [] [0] []) true [(3,LS.mk [1,2,3,4] (CS.mk [] [] [] [])),(6,LS.mk [1,2,3,4,24] (CS.mk [] [] [] [])),(13,LS.mk [2,6,7,41] (CS.mk [] [] [] []))] 2000 h (by kernel_rfl)
theorem vc42a {X} {Q : QT} (hX : PX X) (cs zs row : List AC) (x:BitVec 64) (n:Nat) (h : (fun D1 : BitVec 64=>(fun D0 : List AC=>gt AY cs 69=Nc (asU64 (gt AY cs 69))/\BitVec.ofInt 64 64 ≠ (0:BitVec 64)/\((!decide (D1 % BitVec.ofInt 64 64=BitVec.ofInt 64 56))=true->1<=1/\((n+1)*1<=140737488355328/\n+1<=4611686018427387904)/\List.length row=n*1/\Flat cs/\Flat zs/\Flat D0/\KR X 42 0 Q (Fb Try.f42 0) (mkS 58 [(1,O1 (PT 0 0)),(2,O1 (PT 1 0)),(3,O1 (Nc x)),(4,O1 (GS 2 (n+1) 1))]) [some cs,some zs,some D0])/\((!decide (D1 % BitVec.ofInt 64 64=BitVec.ofInt 64 56))=false->Flat cs/\Flat zs/\Flat row/\KR X 42 0 Q (Fb Try.f42 1) (mkS 58 [(1,O1 (PT 0 0)),(2,O1 (PT 1 0)),(3,O1 (Nc x)),(4,O1 (GS 2 n 1)),(24,O1 (I64 (0:Int)))]) [some cs,some zs,some row])) (row++take 1 (drop 0 [Zc (Value.int IntKind.u8 0)]))) (asU64 (gt AY cs 69)+BitVec.ofInt 64 (↑n:Int))) : Ia X 42 0 Q (Fb Try.f42 0) (mkS 58 [(1,.one (.ptr 0 0)),(2,.one (.ptr 1 0)),(3,.one (.u64 x)),(4,.one (.gs 2 n 1))]) [some cs,some zs,some row] :=
 wR' hX WHA5 ok42 [20,25,42] [] false (CS.mk [] [] [0] []) true [(3,LS.mk [1,2,3,4] (CS.mk [] [] [] [])),(6,LS.mk [1,2,3,4,24] (CS.mk [] [] [] [])),(13,LS.mk [2,6,7,41] (CS.mk [] [] [] []))] 2000 h (by kernel_rfl)
theorem vc42b {X} {Q : QT} (hX : PX X) (cs zs row : List AC) (x:BitVec 64) (n:Nat) (i:Int) (h : (fun D1 : List AC=>(fun D0 : Sm=>(decide (i<(8:Int))=true->La ((8:Int)*i)/\La ((56:Int) - (8:Int)*i)/\(0:Int)<=(56:Int) - (8:Int)*i/\1<=1/\((n+1)*1<=140737488355328/\n+1<=4611686018427387904)/\List.length row=n*1/\La (i+(1:Int))/\Flat cs/\Flat zs/\Flat D1/\KR X 42 0 Q (Fb Try.f42 1) (mkS 58 [(1,O1 (PT 0 0)),(2,O1 (PT 1 0)),(3,O1 (Nc x)),(4,O1 (GS 2 (n+1) 1)),(24,O1 (I64 (i+(1:Int))))]) [some cs,some zs,some D1])/\(decide (i<(8:Int))=false->70<=List.length cs/\Flat (take 70 (drop 0 cs))/\0+n*1<=List.length row/\Flat (take (n*1) (drop 0 row))/\(take 70 (drop 0 cs)=Sm.cells (smOf (take 70 (drop 0 cs)))/\List.length (take 70 (drop 0 cs))=70/\Oa (take (n*1) (drop 0 row))/\List.length (take (n*1) (drop 0 row))=n)/\Flat (hide (Sm.cells D0))/\(hide (Sm.cells D0)=Sm.cells (smOf (hide (Sm.cells D0)))/\List.length (hide (Sm.cells D0))=70)/\(5=5/\5<=5)/\Flat zs/\Flat (Qa [Fa 0,Fa 0,Fa 0,Fa 0,Fa 0] 0 [Fa (St.a (Sm.h (smOf (hide (Sm.cells D0))))),Fa (St.b (Sm.h (smOf (hide (Sm.cells D0))))),Fa (St.c (Sm.h (smOf (hide (Sm.cells D0))))),Fa (St.d (Sm.h (smOf (hide (Sm.cells D0))))),Fa (St.e (Sm.h (smOf (hide (Sm.cells D0)))))])/\Flat (replicate 20 (U8 0))/\KR X 42 0 Q (Fb Try.f42 2) (mkS 58 [(2,O1 (PT 0 0)),(6,O1 (PT 1 0)),(7,O1 (PT 2 0)),(41,O1 (I64 (0:Int)))]) [some zs,some [Fa (St.a (Sm.h (smOf (hide (Sm.cells D0))))),Fa (St.b (Sm.h (smOf (hide (Sm.cells D0))))),Fa (St.c (Sm.h (smOf (hide (Sm.cells D0))))),Fa (St.d (Sm.h (smOf (hide (Sm.cells D0))))),Fa (St.e (Sm.h (smOf (hide (Sm.cells D0)))))],some (replicate 20 (U8 0))])) (Lc (smOf (take 70 (drop 0 cs))) (List.map Ea (take (n*1) (drop 0 row))))) (row++take 1 (drop 0 [U8 (BitVec.setWidth 8 (x>>>Int.toNat ((56:Int) - (8:Int)*i)))]))) : Ia X 42 0 Q (Fb Try.f42 1) (mkS 58 [(1,.one (.ptr 0 0)),(2,.one (.ptr 1 0)),(3,.one (.u64 x)),(4,.one (.gs 2 n 1)),(24,.one (.i64 i))]) [some cs,some zs,some row] :=
 wR' hX WHA5 ok42 [20,25,42] [] false (CS.mk [] [] [0] []) true [(3,LS.mk [1,2,3,4] (CS.mk [] [] [] [])),(6,LS.mk [1,2,3,4,24] (CS.mk [] [] [] [])),(13,LS.mk [2,6,7,41] (CS.mk [] [] [] []))] 2000 h (by kernel_rfl)
theorem vc42c {X} {Q : QT} (hX : PX X) (zs hr row : List AC) (i:Int) (h : (fun D2 : Nat=>(fun D1 : List AC=>(fun D0 : List AC=>(decide (i<(20:Int))=true->((4:Int) ≠ (0:Int)/\La (Int.tdiv i (4:Int)))/\((0:Int)<=Int.tdiv i (4:Int)/\Int.tdiv i (4:Int)<(↑5:Int))/\gt AY hr D2=Fa (Xb (gt AY hr D2))/\(4:Int) ≠ (0:Int)/\La (Int.tmod i (4:Int)*(8:Int))/\La ((24:Int) - Int.tmod i (4:Int)*(8:Int))/\(0:Int)<=(24:Int) - Int.tmod i (4:Int)*(8:Int)/\((0:Int)<=i/\i<(↑20:Int))/\(1=1/\0+Int.toNat i*1+1<=List.length row)/\La (i+(1:Int))/\Flat zs/\Flat hr/\Flat D0/\KR X 42 0 Q (Fb Try.f42 2) (mkS 58 [(2,O1 (PT 0 0)),(6,O1 (PT 1 0)),(7,O1 (PT 2 0)),(41,O1 (I64 (i+(1:Int))))]) [some zs,some hr,some D0])/\(decide (i<(20:Int))=false->20<=List.length row/\(List.length (take 20 (drop 0 row))=20/\20<=List.length zs)/\20<=List.length D1/\Za (AG (take 20 (drop 0 D1)))/\Q (AG (take 20 (drop 0 D1))) [])) (Qa row (0+Int.toNat i*1) [U8 (BitVec.setWidth 8 (Xb (gt AY hr D2)>>>Int.toNat ((24:Int) - Int.tmod i (4:Int)*(8:Int))))])) (Qa zs 0 (take 20 (drop 0 row)))) (0+Int.toNat (Int.tdiv i (4:Int))*1)) : Ia X 42 0 Q (Fb Try.f42 2) (mkS 58 [(2,.one (.ptr 0 0)),(6,.one (.ptr 1 0)),(7,.one (.ptr 2 0)),(41,.one (.i64 i))]) [some zs,some hr,some row] :=
 wR' hX WHA5 ok42 [20,25,42] [] false (CS.mk [] [] [0] []) true [(3,LS.mk [1,2,3,4] (CS.mk [] [] [] [])),(6,LS.mk [1,2,3,4,24] (CS.mk [] [] [] [])),(13,LS.mk [2,6,7,41] (CS.mk [] [] [] []))] 2000 h (by kernel_rfl)
theorem tmod_nat (a b:Nat) : Int.tmod (a:Int) (b:Int) = ((a % b:Nat):Int) := by rw [Int.tmod_eq_emod_of_nonneg (by omega)]; omega
theorem tdiv_nat (a b:Nat) : Int.tdiv (a:Int) (b:Int) = ((a / b:Nat):Int) := by rw [Int.tdiv_eq_ediv_of_nonneg (by omega)]; omega
theorem out_eq (s : St) (ws : List (BitVec 8)) (hl : ws.length = 20) (h : ∀ j, j < 20 → ws.getD j 0 = outB s j) : ws = outF s := by
 apply List.ext_getElem (by rw [hl]; rfl)
 intro j h1 h2
 have := h j (by omega)
 rw [List.getD_eq_getElem?_getD, List.getElem?_eq_getElem h1] at this
 have e : (outF s)[j] = outB s j := by simp [outF]
 rw [e]
 exact this
theorem l42c {X : Ctx} (hX : X.P = Try.prog) (s : St) (zs : List AC) (hz : Flat zs) (hzl : zs.length = 20) : ∀ (d i:Nat) (ws : List (BitVec 8)), i + d = 20 → ws.length = 20 → (∀ j, j < i → ws.getD j 0 = outB s j) →
  Ia X 42 0 (Is (.agg ((outF s).map U8))) (Fb Try.f42 2) (mkS 58 [(2, .one (.ptr 0 0)), (6, .one (.ptr 1 0)), (7, .one (.ptr 2 0)), (41, .one (.i64 i))]) [some zs, some (s.list.map Fa), some (ws.map U8)] := by
 intro d
 induction d with
 | zero =>
  intro i ws hi hl hw
  have hi : i = 20 := by omega
  subst hi
  have hlen : (ws.map U8).length = 20 := by simpa using hl
  refine vc42c hX _ _ _ _ ⟨fun h => absurd (of_decide_eq_true h) (by decide), fun _ => ?_⟩
  have hc2 : take 20 (drop 0 (ws.map U8)) = ws.map U8 := by rw [List.drop_zero, List.take_of_length_le (by omega)]
  rw [hc2, take_lay hzl hlen, layS_len (by omega), out_eq s ws hl hw]
  exact ⟨by rw [← out_eq s ws hl hw]; omega, ⟨rfl, by omega⟩, by omega, Aa _, rfl⟩
 | succ d ih =>
  intro i ws hi hl hw
  have hlen : (ws.map U8).length = 20 := by simpa using hl
  have e4 := tdiv_nat i 4
  have m4 := tmod_nat i 4
  have g0 := St.list_get s (i := i / 4) (by omega)
  have es : Int.toNat (24 - ((i % 4:Nat):Int) * 8) = 24 - 8 * (i % 4) := by omega
  refine vc42c hX _ _ _ _ ⟨fun _ => ?_, fun h => absurd (of_decide_eq_false h) (by omega)⟩
  simp only [show Int.tdiv (i:Int) 4 = ((i / 4:Nat):Int) from e4, show Int.tmod (i:Int) 4 = ((i % 4:Nat):Int) from m4, ixi, g0, es, Xb, layS_u8, hlen]
  (repeat' apply And.intro) <;> first | trivial | decide | (unfold La; omega) | omega | exact hz | exact Aa _ | exact Qd _ | skip
  refine ⟨?_⟩
  exact ih (i + 1) (ws.set i (outB s i)) (by omega) (by rw [List.length_set]; exact hl) (fun j hj => by
    by_cases e : i = j
    ·subst e; rw [getD_set_eq _ _ _ _ (by omega)]
    ·rw [getD_set_ne _ _ _ _ _ e]; exact hw j (by omega))
theorem app1 (l : List (BitVec 8)) (x:BitVec 8) : l.map U8 ++ take 1 (drop 0 [U8 x]) = (l ++ [x]).map U8 := by rw [List.map_append]; rfl
theorem lenB_take (x:BitVec 64) {i : Nat} (h : i < 8) : (lenB x).take (i + 1) = (lenB x).take i ++ [(x >>> (56 - 8 * i)).setWidth 8] := by
 match i, h with
 | 0, _ => rfl
 | 1, _ => rfl
 | 2, _ => rfl
 | 3, _ => rfl
 | 4, _ => rfl
 | 5, _ => rfl
 | 6, _ => rfl
 | 7, _ => rfl
theorem l42b {X : Ctx} (hX : X.P = Try.prog) (s : Sm) (hs : s.left.length = 64) (zs : List AC) (hz : Flat zs) (hzl : zs.length = 20) (x:BitVec 64) (l : List (BitVec 8)) (hll : l.length ≤ 1000) : ∀ (d i:Nat), i + d = 8 →
  Ia X 42 0 (Is (.agg ((outF (Lc s (l ++ lenB x)).h).map U8))) (Fb Try.f42 1) (mkS 58 [(1, .one (.ptr 0 0)), (2, .one (.ptr 1 0)), (3, .one (.u64 x)), (4, .one (.gs 2 (l.length + i) 1)), (24, .one (.i64 i))]) [some s.cells, some zs, some ((l ++ (lenB x).take i).map U8)] := by
 have hlen : ∀ i, i ≤ 8 → ((l ++ (lenB x).take i).map U8).length = l.length + i := fun i hi => by
  rw [List.length_map, List.length_append, List.length_take]
  have : (lenB x).length = 8 := rfl
  omega
 intro d
 induction d with
 | zero =>
  intro i hi
  have hi : i = 8 := by omega
  subst hi
  refine vc42b hX _ _ _ _ _ _ ⟨fun h => absurd (of_decide_eq_true h) (by decide), fun _ => ?_⟩
  have hc : s.cells.length = 70 := by rw [s.len, hs]
  have hc2 : (take 70 (drop 0 s.cells)) = s.cells := by rw [List.drop_zero, List.take_of_length_le (by omega)]
  have ht : (take ((l.length + 8) * 1) (drop 0 ((l ++ (lenB x).take 8).map U8))) = (l ++ lenB x).map U8 := by
   rw [List.drop_zero, List.take_of_length_le (by rw [hlen 8 (by omega)]; omega)]
   rfl
  have h3 : (Lc s (l ++ lenB x)).left.length = 64 := by rw [Bd, hs]
  rw [hc2, ht, Ua, Tc s hs, Ja, Tc _ h3, hlen 8 (by omega)]
  refine ⟨by omega, s.flat, by omega, Aa _, ⟨rfl, hc, Ba _, ?_⟩, Sm.flat _, ⟨rfl, by rw [Sm.len, h3]⟩, ⟨rfl, Nat.le_refl _⟩, hz, Zb rfl, Zb rfl, ⟨?_⟩⟩
  ·rw [List.length_map, List.length_append]; rfl
  ·exact l42c hX (Lc s (l ++ lenB x)).h zs hz hzl 20 0 (replicate 20 0) (by omega) (by simp) (fun j hj => by omega)
 | succ d ih =>
  intro i hi
  have hc : s.cells.length = 70 := by rw [s.len, hs]
  have es : Int.toNat (56 - 8 * (i:Int)) = 56 - 8 * i := by omega
  refine vc42b hX _ _ _ _ _ _ ⟨fun _ => ?_, fun h => absurd (of_decide_eq_false h) (by omega)⟩
  simp only [es, app1, hlen i (by omega)]
  rw [List.append_assoc, ← lenB_take x (by omega)]
  (repeat' apply And.intro) <;> first | trivial | decide | (unfold La; omega) | omega | exact hz | exact Aa _ | exact s.flat | skip
  refine ⟨?_⟩
  exact ih (i + 1) (by omega)
theorem l42a {X : Ctx} (hX : X.P = Try.prog) (s : Sm) (hs : s.left.length = 64) (zs : List AC) (hz : Flat zs) (hzl : zs.length = 20) : ∀ (d i:Nat), i + d = padZ s.n.toNat →
  Ia X 42 0 (Is (.agg ((digF s).map U8))) (Fb Try.f42 0) (mkS 58 [(1, .one (.ptr 0 0)), (2, .one (.ptr 1 0)), (3, .one (.u64 (s.n * 8#64))), (4, .one (.gs 2 (i + 1) 1))]) [some s.cells, some zs, some ((128#8 :: replicate i 0#8).map U8)] := by
 have hg := Sm.get_n s hs
 have hmod : ∀ i : Nat, i ≤ 64 → ((s.n + BitVec.ofInt 64 ((i + 1:Nat):Int)) % BitVec.ofInt 64 64 = BitVec.ofInt 64 56 ↔ (s.n.toNat + (i + 1)) % 64 = 56) := fun i hi => by
  have e1 : (BitVec.ofInt 64 64).toNat = 64 := rfl
  have e0 : (BitVec.ofInt 64 56).toNat = 56 := rfl
  rw [← BitVec.toNat_inj, BitVec.toNat_umod, e1, e0, BitVec.toNat_add, BitVec.ofInt_natCast, BitVec.toNat_ofNat]
  omega
 have hpz : padZ s.n.toNat < 64 := Nat.mod_lt _ (by decide)
 intro d
 induction d with
 | zero =>
  intro i hi
  have hi : i = padZ s.n.toNat := by omega
  have hx : (s.n.toNat + (i + 1)) % 64 = 56 := by unfold padZ at hi; omega
  refine vc42a hX _ _ _ _ _ ?_
  simp only [hg, asU64_u64]
  refine ⟨trivial, by decide, fun h => ?_, fun h => ⟨s.flat, hz, Aa _, ⟨?_⟩⟩⟩
  ·rw [decide_eq_true ((hmod i (by omega)).2 hx)] at h; cases h
  ·have := l42b hX s hs zs hz hzl (s.n * 8#64) (128#8 :: replicate i 0#8) (by rw [List.length_cons, List.length_replicate]; omega) 8 0 rfl
   rw [show digF s = outF (Lc s (128#8 :: replicate i 0#8 ++ lenB (s.n * 8#64))).h by unfold digF tailF; rw [← hi]; rfl]
   rw [show (128#8 :: replicate i 0#8).length + 0 = i + 1 by rw [List.length_cons, List.length_replicate]] at this
   rw [List.take_zero, List.append_nil] at this
   exact this
 | succ d ih =>
  intro i hi
  have hx : ¬ (s.n.toNat + (i + 1)) % 64 = 56 := by unfold padZ at hi; omega
  refine vc42a hX _ _ _ _ _ ?_
  simp only [hg, asU64_u64]
  have ha : (128#8 :: replicate i 0#8).map U8 ++ take 1 (drop 0 [Zc (.int .u8 0)]) = (128#8 :: replicate (i + 1) 0#8).map U8 := by
   have := app1 (128#8 :: replicate i 0#8) 0#8
   rw [List.cons_append, ← List.replicate_succ'] at this
   exact this
  rw [ha]
  refine ⟨trivial, by decide, fun h => ⟨by decide, by omega, ?_, s.flat, hz, Aa _, ⟨?_⟩⟩, fun h => ?_⟩
  ·rw [List.length_map, List.length_cons, List.length_replicate]; omega
  ·exact ih (i + 1) (by omega)
  ·rw [decide_eq_false (fun e => hx ((hmod i (by omega)).1 e))] at h; cases h
theorem s42 (s : Sm) (hs : s.left.length = 64) : Spec Try.prog 42 [.agg s.cells] [] (Is (.agg ((digF s).map U8))) := by
 refine Spec.of_run ok42 fun X hX => vc42 hX _ ?_
 have hg := Sm.get_n s hs
 simp only [hg, asU64_u64]
 refine ⟨trivial, s.flat, Zb rfl, Zb rfl, ⟨?_⟩⟩
 refine l42a hX s hs _ ?_ ?_ (padZ s.n.toNat) 0 (by omega)
 ·exact Zb rfl
 ·rfl
end DH
