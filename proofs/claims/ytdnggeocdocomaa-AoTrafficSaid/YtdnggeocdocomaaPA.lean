/- Walks of functions, each by evaluation: what each returns; with the layer beneath. -/
import Derived.Test.YtdnggeocdocomaaJA
import Derived.Test.YtdnggeocdocomaaNB
import Derived.Test.YtdnggeocdocomaaIA
set_option linter.unusedVariables false
set_option linter.unusedSimpArgs false
noncomputable section
namespace DH
set_option maxRecDepth 100000
open List (take drop replicate)
open AC renaming u8 → U8, u16 → Va, u32 → Fa, u64 → Nc, i64 → I64, b → Bb, xs → XS, gs → GS, sv → SV, ptr → PT, any → AY, ns → NS
open AV renaming one → O1, agg → AG, Ec → TU
open Go
def beN (k:Nat) (n:BitVec 64) : List (BitVec 8) := (List.range k).map fun j => (n >>> (8 * (k - 1 - j))).setWidth 8
theorem beN_len (k:Nat) (n:BitVec 64) : (beN k n).length = k := by unfold beN; rw [List.length_map, List.length_range]
def putL (k:Nat) (ns : List (BitVec 64)) : List (BitVec 8) := ns.flatMap (beN k)
theorem putL_len (k:Nat) : ∀ ns : List (BitVec 64), (putL k ns).length = ns.length * k
 | [] => by simp [putL]
 | n :: ns => by
  show (beN k n ++ putL k ns).length = _
  rw [List.length_append, beN_len, putL_len k ns, List.length_cons, Nat.add_mul]
  omega
theorem beN_take (k:Nat) (n:BitVec 64) {i : Nat} (h : i < k) : (beN k n).take (i + 1) = (beN k n).take i ++ [(n >>> (8 * (k - 1 - i))).setWidth 8] := by
 have hl := beN_len k n
 rw [List.take_add_one, List.getElem?_eq_getElem (by omega)]
 unfold beN
 simp
theorem putL_take (k:Nat) (ns : List (BitVec 64)) {i : Nat} (h : i < ns.length) : putL k (ns.take (i + 1)) = putL k (ns.take i) ++ beN k (ns.getD i 0) := by
 unfold putL
 rw [List.take_add_one, List.getElem?_eq_getElem h, List.flatMap_append, List.getD_eq_getElem?_getD, List.getElem?_eq_getElem h]
 simp
def szN (s:Int) : Nat := (min (max s 0) 8).toNat
theorem szN_le (s:Int) : szN s ≤ 8 := by unfold szN; omega
def kszF (a:Int) : Nat := if a = 1 then 20 else if a = 2 then 16 else 0
def hd7 : List (BitVec 8) := lit8 [1, 84, 67, 80, 45, 65, 79]
def z16k : List (BitVec 8) := replicate 16 0
def blkA (m : List (BitVec 8)) : List (BitVec 8) := if m.length = 16 then m else cmF z16k m
theorem blkA_len (m : List (BitVec 8)) : (blkA m).length = 16 := by
 unfold blkA; split
 ·assumption
 ·exact cmF_len _ _
open Go Go.Proofs
theorem Ud (l : List (BitVec 8)) : Qb (l.map U8) := Jb _ (fun _ => rfl) l
theorem ok74 : Ac Try.prog 74 Try.f74 (Na Try.f74) := .of Try.func74 (by kernel_rfl) (by kernel_rfl)
theorem ok76 : Ac Try.prog 76 Try.f76 (Na Try.f76) := .of Try.func76 (by kernel_rfl) (by kernel_rfl)
theorem ok77 : Ac Try.prog 77 Try.f77 (Na Try.f77) := .of Try.func77 (by kernel_rfl) (by kernel_rfl)
theorem ok78 : Ac Try.prog 78 Try.f78 (Na Try.f78) := .of Try.func78 (by kernel_rfl) (by kernel_rfl)
theorem ok79 : Ac Try.prog 79 Try.f79 (Na Try.f79) := .of Try.func79 (by kernel_rfl) (by kernel_rfl)
theorem ok80 : Ac Try.prog 80 Try.f80 (Na Try.f80) := .of Try.func80 (by kernel_rfl) (by kernel_rfl)
theorem ok82 : Ac Try.prog 82 Try.f82 (Na Try.f82) := .of Try.func82 (by kernel_rfl) (by kernel_rfl)
theorem ok83 : Ac Try.prog 83 Try.f83 (Na Try.f83) := .of Try.func83 (by kernel_rfl) (by kernel_rfl)
theorem ok100 : Ac Try.prog 100 Try.f100 (Na Try.f100) := .of Try.func100 (by kernel_rfl) (by kernel_rfl)
theorem ok115 : Ac Try.prog 115 Try.f115 (Na Try.f115) := .of Try.func115 (by kernel_rfl) (by kernel_rfl)
theorem ok116 : Ac Try.prog 116 Try.f116 (Na Try.f116) := .of Try.func116 (by kernel_rfl) (by kernel_rfl)
theorem ok117 : Ac Try.prog 117 Try.f117 (Na Try.f117) := .of Try.func117 (by kernel_rfl) (by kernel_rfl)
theorem ok118 : Ac Try.prog 118 Try.f118 (Na Try.f118) := .of Try.func118 (by kernel_rfl) (by kernel_rfl)
theorem ok127 : Ac Try.prog 127 Try.f127 (Na Try.f127) := .of Try.func127 (by kernel_rfl) (by kernel_rfl)
theorem MR.pad {X : Ctx} {p : Pl} {w : World} (h : MR X p [] w) : MR X ⟨fun _ => 0, fun _ => 0⟩ [some []] w := by
 refine ⟨h.os, h.tape, h.output, h.size, h.keep, fun i row hi => ?_, fun i row hi hz => absurd rfl hz, fun i j r s hi hj hz => absurd rfl hz⟩
 cases i with
 | zero => simp only [List.getElem?_cons_zero, Option.some.injEq] at hi; subst hi; exact .inl ⟨rfl, rfl⟩
 | succ i => simp at hi
theorem Spec.pad {P : Program} {f : FuncId} {xs : List AV} {R : AV → Mem → Prop} (h : Spec P f xs [] (fun r m => R r m ∨ (r = .one .ns ∧ m = [] ∧ R (.one (.gs 0 0 1)) [some []]))) : Spec P f xs [] R := by
 intro X p vs hP hm ha
 refine (h X p vs hP hm ha).mono ?_
 rintro e w' ⟨v, r, m', p', rfl, k1, k2, k3, k4, k5⟩
 rcases k5 with k5 | ⟨rfl, rfl, k5⟩
 ·exact ⟨v, r, m', p', rfl, k1, k2, k3, k4, k5⟩
 ·refine ⟨v, _, _, _, rfl, fun i hi => absurd hi (Nat.not_lt_zero _), Nat.zero_le _, ?_, k4.pad, k5⟩
  cases k3 with
  | one _ _ k3 => cases k3; exact .one _ _ (.gsn 0 1)
def symP (t : TypeId) : Bool := match t with | 51 => true | 26 => true | 25 => true | 108 => true | 110 => true | 42 => true | t => symC t
noncomputable def baseP (T : Tab) (mf : FuncId → Option MF) (M : Ad) : Env := ⟨tys, symP, false, T, [], mf, M, fun _ => none⟩
theorem baseP_ok (T : Tab) (mf : FuncId → Option MF) (M : Ad) : Eb Try.prog (baseP T mf M) := Eb.of tysOk
theorem baseP_call {T : Tab} {mf : FuncId → Option MF} {M : Ad} (hT : Oc Try.prog T) (hM : Xc Try.prog M) : Bc Try.prog (baseP T mf M) :=
 ⟨hT, fun f mf xs m0 cs r m1 _ h hc => hM f xs m0 cs r m1 h hc, (by intro f k h; cases h)⟩
def WPA0 : WC := ⟨baseP T22 mf15 M15,baseP_ok T22 mf15 M15,baseP_call T22_ok M15_ok⟩
theorem vc127 {X} {Q : QT} (hX : PX X) (row : List AC) (n:Nat) (h : (fun D0 : List AC=>(lenC (XS row 0 n)=0->Q (O1 NS) [])/\0+n*1<=List.length row/\((0+n)*1<=140737488355328/\0+n<=4611686018427387904)/\0=0/\Flat D0/\Q (O1 (GS 0 (0+n) 1)) [some D0]) (zeros [U8 0] 0++take (n*1) (drop 0 row))) : Ia X 127 0 Q ([.code (Na Try.f127)]) (slots [.one (.xs row 0 n)] Try.f127.ntmps) [] :=
 wR hX WPA0 ok127 [4] [] [true] [] h (by kernel_rfl)
theorem zeros0 (z : List AC) : zeros z 0 = [] := rfl
theorem s127 (b : List (BitVec 8)) (hb : b.length ≤ 100000000) : Spec Try.prog 127 [.one (.xs (b.map U8) 0 b.length)] [] (Are (.one (.gs 0 b.length 1)) [some (b.map U8)]) := by
 refine Spec.pad (Spec.of_run ok127 fun X hX => vc127 hX _ _ ?_)
 refine ⟨fun h => ?_, ?_⟩
 ·have h0 : b = [] := List.length_eq_zero_iff.1 h
  subst h0
  exact .inr ⟨rfl, rfl, rfl, rfl⟩
 ·rw [tk b, zeros0, List.nil_append]
  simp only [Nat.zero_add]
  (repeat' (first | exact z | exact trivial | exact Aa _ | exact Ya _ | exact Ba _ | exact Nat.le_refl _ | exact Ud _ | refine And.intro ?_ ?_)) <;> (first | omega | exact z | (unfold La; omega) | exact List.length_map _ | (show Is _ _ _; exact rfl) | skip)
  all_goals first | (rw [List.length_map]; omega) | exact .inl ⟨rfl, rfl⟩
noncomputable def M16 : Ad := fun f xs m => match f, xs, m with
 | 127, [.one (.xs row 0 n)], [] => some ([Oa row ∧ row.length = n ∧ n ≤ 100000000], .one (.gs 0 n 1), [some (hide ((row.map Ea).map U8))])
 | f, xs, m => M15 f xs m
noncomputable def mf16 : FuncId → Option MF := fun f => match f with
 | 127 => some { cs := { kinds := [], fl := [] }, flo := [true], fresh := true }
 | f => mf15 f
theorem M16_ok : Xc Try.prog M16 := by
 intro f xs m0 cs r m1 h hc
 unfold M16 at h
 split at h
 ·simp only [Option.some.injEq, Prod.mk.injEq] at h; obtain ⟨rfl, rfl, rfl⟩ := h
  rename_i row n
  obtain ⟨h1, h2, h3⟩ := hc.1
  have := s127 (row.map Ea) (by rw [List.length_map]; omega)
  rw [← h1, List.length_map, h2] at this
  rw [Ja, ← h1]
  exact ⟨⟨_, _, ok127⟩, this⟩
 ·exact M15_ok _ _ _ _ _ _ h hc
def WPA1 : WC := ⟨baseP T22 mf16 M16,baseP_ok T22 mf16 M16,baseP_call T22_ok M16_ok⟩
theorem vc100 {X} {Q : QT} (hX : PX X) (row nr : List AC) (n k:Nat) (s:Int) (h : (fun D0 : List (BitVec 8)=>0+n*1<=List.length row/\(Oa (take (n*1) (drop 0 row))/\List.length (take (n*1) (drop 0 row))=n/\n<=100000000)/\Qb (hide (List.map U8 D0))/\Flat (hide (List.map U8 D0))/\KR X 100 0 Q (Fb Try.f100 0) (mkS 37 [(1,O1 (I64 s)),(7,O1 (GS 0 n 1)),(13,O1 (XS nr 0 k)),(14,O1 (I64 (↑k:Int))),(15,O1 (I64 (0:Int)))]) [some (hide (List.map U8 D0))]) (List.map Ea (take (n*1) (drop 0 row)))) : Ia X 100 0 Q ([.code (Na Try.f100)]) (slots [.one (.xs row 0 n),.one (.i64 s),.one (.xs nr 0 k)] Try.f100.ntmps) [] :=
 wR hX WPA1 ok100 [16,24] [] [true] [(3,[1,7,13,14,15],[true]),(6,[1,7,9,10,13,14,15],[true])] h (by kernel_rfl)
theorem vc100a {X} {Q : QT} (hX : PX X) (nr ar : List AC) (n k:Nat) (s i:Int) (h : (decide (i<(↑k:Int))=true->((0:Int)<=i/\i<(↑k:Int))/\gt AY nr (0+Int.toNat i*1)=Nc (asU64 (gt AY nr (0+Int.toNat i*1)))/\La (min (max s (0:Int)) (8:Int) - (1:Int))/\Flat ar/\KR X 100 0 Q (Fb Try.f100 1) (mkS 37 [(1,O1 (I64 s)),(7,O1 (GS 0 n 1)),(9,O1 (Nc (asU64 (gt AY nr (0+Int.toNat i*1))))),(10,O1 (I64 (min (max s (0:Int)) (8:Int) - (1:Int)))),(13,O1 (XS nr 0 k)),(14,O1 (I64 (↑k:Int))),(15,O1 (I64 i))]) [some ar])/\(decide (i<(↑k:Int))=false->Flat ar/\Q (O1 (GS 0 n 1)) [some ar])) : Ia X 100 0 Q (Fb Try.f100 0) (mkS 37 [(1,.one (.i64 s)),(7,.one (.gs 0 n 1)),(13,.one (.xs nr 0 k)),(14,.one (.i64 k)),(15,.one (.i64 i))]) [some ar] :=
 wR hX WPA1 ok100 [16,24] [] [true] [(3,[1,7,13,14,15],[true]),(6,[1,7,9,10,13,14,15],[true])] h (by kernel_rfl)
theorem vc100b {X} {Q : QT} (hX : PX X) (nr ar : List AC) (n k:Nat) (s i j:Int) (x:BitVec 64) (h : (fun D0 : List AC=>(decide ((0:Int)<=j)=true->La ((8:Int)*j)/\(0:Int)<=(8:Int)*j/\1<=1/\((n+1)*1<=140737488355328/\n+1<=4611686018427387904)/\List.length ar=n*1/\La (j - (1:Int))/\Flat D0/\KR X 100 0 Q (Fb Try.f100 1) (mkS 37 [(1,O1 (I64 s)),(7,O1 (GS 0 (n+1) 1)),(9,O1 (Nc x)),(10,O1 (I64 (j - (1:Int)))),(13,O1 (XS nr 0 k)),(14,O1 (I64 (↑k:Int))),(15,O1 (I64 i))]) [some D0])/\(decide ((0:Int)<=j)=false->La (i+(1:Int))/\Flat ar/\KR X 100 0 Q (Fb Try.f100 0) (mkS 37 [(1,O1 (I64 s)),(7,O1 (GS 0 n 1)),(13,O1 (XS nr 0 k)),(14,O1 (I64 (↑k:Int))),(15,O1 (I64 (i+(1:Int))))]) [some ar])) (ar++take 1 (drop 0 [U8 (BitVec.setWidth 8 (x>>>Int.toNat ((8:Int)*j)))]))) : Ia X 100 0 Q (Fb Try.f100 1) (mkS 37 [(1,.one (.i64 s)),(7,.one (.gs 0 n 1)),(9,.one (.u64 x)),(10,.one (.i64 j)),(13,.one (.xs nr 0 k)),(14,.one (.i64 k)),(15,.one (.i64 i))]) [some ar] :=
 wR hX WPA1 ok100 [16,24] [] [true] [(3,[1,7,13,14,15],[true]),(6,[1,7,9,10,13,14,15],[true])] h (by kernel_rfl)
theorem vc116 {X} {Q : QT} (hX : PX X) (row nr : List AC) (n k:Nat) (s:Int) (h : 0+n*1<=List.length row/\(n*1<=140737488355328/\n<=4611686018427387904)/\Flat (take (n*1) (drop 0 row))/\KR X 116 0 Q (Fb Try.f116 0) (mkS 38 [(1,O1 (I64 s)),(2,O1 (XS nr 0 k)),(7,O1 (GS 0 n 1)),(8,O1 (I64 (0:Int)))]) [some (take (n*1) (drop 0 row))]) : Ia X 116 0 Q ([.code (Na Try.f116)]) (slots [.one (.xs row 0 n),.one (.i64 s),.one (.xs nr 0 k)] Try.f116.ntmps) [] :=
 wR hX WPA1 ok116 [15,23] [] [true] [(3,[1,2,7,8],[true]),(6,[1,2,7,8,9],[true])] h (by kernel_rfl)
theorem vc116a {X} {Q : QT} (hX : PX X) (nr ar : List AC) (n k:Nat) (s i:Int) (h : (decide (i<(↑k:Int))=true->La (min (max s (0:Int)) (8:Int) - (1:Int))/\Flat ar/\KR X 116 0 Q (Fb Try.f116 1) (mkS 38 [(1,O1 (I64 s)),(2,O1 (XS nr 0 k)),(7,O1 (GS 0 n 1)),(8,O1 (I64 i)),(9,O1 (I64 (min (max s (0:Int)) (8:Int) - (1:Int))))]) [some ar])/\(decide (i<(↑k:Int))=false->Flat ar/\Q (O1 (GS 0 n 1)) [some ar])) : Ia X 116 0 Q (Fb Try.f116 0) (mkS 38 [(1,.one (.i64 s)),(2,.one (.xs nr 0 k)),(7,.one (.gs 0 n 1)),(8,.one (.i64 i))]) [some ar] :=
 wR hX WPA1 ok116 [15,23] [] [true] [(3,[1,2,7,8],[true]),(6,[1,2,7,8,9],[true])] h (by kernel_rfl)
theorem vc116b {X} {Q : QT} (hX : PX X) (nr ar : List AC) (n k:Nat) (s i j:Int) (h : (fun D0 : List AC=>(decide ((0:Int)<=j)=true->((0:Int)<=i/\i<(↑k:Int))/\gt AY nr (0+Int.toNat i*1)=Nc (asU64 (gt AY nr (0+Int.toNat i*1)))/\La ((8:Int)*j)/\(0:Int)<=(8:Int)*j/\1<=1/\((n+1)*1<=140737488355328/\n+1<=4611686018427387904)/\List.length ar=n*1/\La (j - (1:Int))/\Flat D0/\KR X 116 0 Q (Fb Try.f116 1) (mkS 38 [(1,O1 (I64 s)),(2,O1 (XS nr 0 k)),(7,O1 (GS 0 (n+1) 1)),(8,O1 (I64 i)),(9,O1 (I64 (j - (1:Int))))]) [some D0])/\(decide ((0:Int)<=j)=false->La (i+(1:Int))/\Flat ar/\KR X 116 0 Q (Fb Try.f116 0) (mkS 38 [(1,O1 (I64 s)),(2,O1 (XS nr 0 k)),(7,O1 (GS 0 n 1)),(8,O1 (I64 (i+(1:Int))))]) [some ar])) (ar++take 1 (drop 0 [U8 (BitVec.setWidth 8 (asU64 (gt AY nr (0+Int.toNat i*1))>>>Int.toNat ((8:Int)*j)))]))) : Ia X 116 0 Q (Fb Try.f116 1) (mkS 38 [(1,.one (.i64 s)),(2,.one (.xs nr 0 k)),(7,.one (.gs 0 n 1)),(8,.one (.i64 i)),(9,.one (.i64 j))]) [some ar] :=
 wR hX WPA1 ok116 [15,23] [] [true] [(3,[1,2,7,8],[true]),(6,[1,2,7,8,9],[true])] h (by kernel_rfl)
theorem gt_u64_at (l : List (BitVec 64)) (i:Nat) (h : i < l.length) : gt AY (l.map Nc) i = .u64 (l.getD i 0) := by
 rw [gt_eq]; simp [List.getD, h]
theorem l100b {X : Ctx} (hX : X.P = Try.prog) {Q : AV → Mem → Prop} (w : List (BitVec 8)) (k:Nat) (hk : k ≤ 8) (x:BitVec 64) (nr : List AC) (n:Nat) (s i:Int) (hw : w.length ≤ 120000000) (hi : La (i + 1))
  (K : Ia X 100 0 Q (Fb Try.f100 0) (mkS 37 [(1, .one (.i64 s)), (7, .one (.gs 0 (w ++ beN k x).length 1)), (13, .one (.xs nr 0 n)), (14, .one (.i64 n)), (15, .one (.i64 (i + 1)))]) [some ((w ++ beN k x).map U8)]) : ∀ (d c:Nat), c + d = k →
  Ia X 100 0 Q (Fb Try.f100 1) (mkS 37 [(1, .one (.i64 s)), (7, .one (.gs 0 (w ++ (beN k x).take c).length 1)), (9, .one (.u64 x)), (10, .one (.i64 ((k:Int) - 1 - c))), (13, .one (.xs nr 0 n)), (14, .one (.i64 n)), (15, .one (.i64 i))]) [some ((w ++ (beN k x).take c).map U8)] := by
 have hl := beN_len k x
 intro d
 induction d with
 | zero =>
  intro c hc
  have hc : c = k := by omega
  subst hc
  rw [List.take_of_length_le (by omega)]
  refine vc100b hX _ _ _ _ _ _ _ _ ⟨fun h => absurd (of_decide_eq_true h) (by omega), fun _ => ?_⟩
  (repeat' (first | exact z | exact trivial | exact Aa _ | exact Ya _ | exact Ba _ | exact Nat.le_refl _ | exact Ud _ | refine And.intro ?_ ?_)) <;> (first | omega | exact z | (unfold La; omega) | exact List.length_map _ | (show Is _ _ _; exact rfl) | skip)
  all_goals first | exact hi.1 | exact hi.2 | exact ⟨K⟩
 | succ d ih =>
  intro c hc
  have ih := ih (c + 1) (by omega)
  have e1 : Int.toNat (8 * ((k:Int) - 1 - (c:Int))) = 8 * (k - 1 - c) := by omega
  have e2 : (k:Int) - 1 - (c:Int) - 1 = (k:Int) - 1 - ((c + 1:Nat):Int) := by omega
  have ht := beN_take k x (i := c) (by omega)
  have ha := app1 (w ++ (beN k x).take c) ((x >>> (8 * (k - 1 - c))).setWidth 8)
  rw [List.append_assoc, ← ht] at ha
  have hL : (w ++ (beN k x).take c).length + 1 = (w ++ (beN k x).take (c + 1)).length := by
   rw [List.length_append, List.length_append, List.length_take, List.length_take]; omega
  have hL2 : (w ++ (beN k x).take c).length ≤ 120000008 := by rw [List.length_append, List.length_take]; omega
  refine vc100b hX _ _ _ _ _ _ _ _ ⟨fun _ => ?_, fun h => absurd (of_decide_eq_false h) (by omega)⟩
  try dsimp only
  rw [e1, e2, ha, hL, List.length_map]
  rw [← hL]
  (repeat' (first | exact z | exact trivial | exact Aa _ | exact Ya _ | exact Ba _ | exact Nat.le_refl _ | exact Ud _ | refine And.intro ?_ ?_)) <;> (first | omega | exact z | (unfold La; omega) | exact List.length_map _ | (show Is _ _ _; exact rfl) | skip)
  rw [hL]
  exact ⟨ih⟩
theorem l100a {X : Ctx} (hX : X.P = Try.prog) (b : List (BitVec 8)) (s:Int) (ns : List (BitVec 64)) (hb : b.length ≤ 100000000) (hn : ns.length ≤ 1000000) : ∀ (d i:Nat), i + d = ns.length →
  Ia X 100 0 (Are (.one (.gs 0 (b ++ putL (szN s) ns).length 1)) [some ((b ++ putL (szN s) ns).map U8)]) (Fb Try.f100 0) (mkS 37 [(1, .one (.i64 s)), (7, .one (.gs 0 (b ++ putL (szN s) (ns.take i)).length 1)), (13, .one (.xs (ns.map Nc) 0 ns.length)), (14, .one (.i64 ns.length)), (15, .one (.i64 i))]) [some ((b ++ putL (szN s) (ns.take i)).map U8)] := by
 intro d
 induction d with
 | zero =>
  intro i hi
  have hi : i = ns.length := by omega
  subst hi
  rw [List.take_length]
  refine vc100a hX _ _ _ _ _ _ ⟨fun h => absurd (of_decide_eq_true h) (by omega), fun _ => ⟨Aa _, rfl, rfl⟩⟩
 | succ d ih =>
  intro i hi
  have ih := ih (i + 1) (by omega)
  have hs := szN_le s
  have g := gt_u64_at ns i (by omega)
  have hW : (b ++ putL (szN s) (ns.take i)).length ≤ 120000000 := by
   rw [List.length_append, putL_len, List.length_take]
   have : min i ns.length * szN s ≤ 1000000 * 8 := Nat.mul_le_mul (by omega) hs
   omega
  rw [putL_take _ _ (by omega), ← List.append_assoc] at ih
  have e : min (max s 0) 8 - 1 = ((szN s:Nat):Int) - 1 - ((0:Nat):Int) := by unfold szN; omega
  have K := l100b hX (b ++ putL (szN s) (ns.take i)) (szN s) hs (ns.getD i 0) (ns.map Nc) ns.length s i hW (by unfold La; omega) ih (szN s) 0 (by omega)
  rw [List.take_zero, List.append_nil] at K
  refine vc100a hX _ _ _ _ _ _ ⟨fun _ => ?_, fun h => absurd (of_decide_eq_false h) (by omega)⟩
  simp only [ixn, g, asU64, e]
  (repeat' (first | exact z | exact trivial | exact Aa _ | exact Ya _ | exact Ba _ | exact Nat.le_refl _ | exact Ud _ | refine And.intro ?_ ?_)) <;> (first | omega | exact z | (unfold La; omega) | exact List.length_map _ | (show Is _ _ _; exact rfl) | skip)
  exact ⟨K⟩
theorem s100 (b : List (BitVec 8)) (s:Int) (ns : List (BitVec 64)) (hb : b.length ≤ 100000000) (hn : ns.length ≤ 1000000) : Spec Try.prog 100 [.one (.xs (b.map U8) 0 b.length), .one (.i64 s), .one (.xs (ns.map Nc) 0 ns.length)] [] (Are (.one (.gs 0 (b ++ putL (szN s) ns).length 1)) [some ((b ++ putL (szN s) ns).map U8)]) := by
 refine Spec.of_run ok100 fun X hX => vc100 hX _ _ _ _ _ ?_
 have K := l100a hX b s ns hb hn ns.length 0 (by omega)
 rw [List.take_zero, show putL (szN s) [] = [] from rfl, List.append_nil] at K
 rw [tk b]
 simp only [Ja, Ua, List.length_map]
 (repeat' (first | exact z | exact trivial | exact Aa _ | exact Ya _ | exact Ba _ | exact Nat.le_refl _ | exact Ud _ | refine And.intro ?_ ?_)) <;> (first | omega | exact z | (unfold La; omega) | exact List.length_map _ | (show Is _ _ _; exact rfl) | skip)
 exact ⟨K⟩
theorem l116b {X : Ctx} (hX : X.P = Try.prog) {Q : AV → Mem → Prop} (w : List (BitVec 8)) (k:Nat) (hk : k ≤ 8) (ns : List (BitVec 64)) (s:Int) (i:Nat) (hi : i < ns.length) (hn : ns.length ≤ 1000000) (hw : w.length ≤ 120000000)
  (K : Ia X 116 0 Q (Fb Try.f116 0) (mkS 38 [(1, .one (.i64 s)), (2, .one (.xs (ns.map Nc) 0 ns.length)), (7, .one (.gs 0 (w ++ beN k (ns.getD i 0)).length 1)), (8, .one (.i64 (i + 1:Nat)))]) [some ((w ++ beN k (ns.getD i 0)).map U8)]) : ∀ (d c:Nat), c + d = k →
  Ia X 116 0 Q (Fb Try.f116 1) (mkS 38 [(1, .one (.i64 s)), (2, .one (.xs (ns.map Nc) 0 ns.length)), (7, .one (.gs 0 (w ++ (beN k (ns.getD i 0)).take c).length 1)), (8, .one (.i64 i)), (9, .one (.i64 ((k:Int) - 1 - c)))]) [some ((w ++ (beN k (ns.getD i 0)).take c).map U8)] := by
 have hl := beN_len k (ns.getD i 0)
 have g := gt_u64_at ns i hi
 intro d
 induction d with
 | zero =>
  intro c hc
  have hc : c = k := by omega
  subst hc
  rw [List.take_of_length_le (by omega)]
  refine vc116b hX _ _ _ _ _ _ _ ⟨fun h => absurd (of_decide_eq_true h) (by omega), fun _ => ?_⟩
  (repeat' (first | exact z | exact trivial | exact Aa _ | exact Ya _ | exact Ba _ | exact Nat.le_refl _ | exact Ud _ | refine And.intro ?_ ?_)) <;> (first | omega | exact z | (unfold La; omega) | exact List.length_map _ | (show Is _ _ _; exact rfl) | skip)
  exact ⟨K⟩
 | succ d ih =>
  intro c hc
  have ih := ih (c + 1) (by omega)
  have e1 : Int.toNat (8 * ((k:Int) - 1 - (c:Int))) = 8 * (k - 1 - c) := by omega
  have e2 : (k:Int) - 1 - (c:Int) - 1 = (k:Int) - 1 - ((c + 1:Nat):Int) := by omega
  have ht := beN_take k (ns.getD i 0) (i := c) (by omega)
  have ha := app1 (w ++ (beN k (ns.getD i 0)).take c) ((ns.getD i 0 >>> (8 * (k - 1 - c))).setWidth 8)
  rw [List.append_assoc, ← ht] at ha
  have hL : (w ++ (beN k (ns.getD i 0)).take c).length + 1 = (w ++ (beN k (ns.getD i 0)).take (c + 1)).length := by
   rw [List.length_append, List.length_append, List.length_take, List.length_take]; omega
  have hL2 : (w ++ (beN k (ns.getD i 0)).take c).length ≤ 120000008 := by rw [List.length_append, List.length_take]; omega
  refine vc116b hX _ _ _ _ _ _ _ ⟨fun _ => ?_, fun h => absurd (of_decide_eq_false h) (by omega)⟩
  simp only [ixn, g, asU64]
  rw [e1, e2, ha, List.length_map]
  (repeat' (first | exact z | exact trivial | exact Aa _ | exact Ya _ | exact Ba _ | exact Nat.le_refl _ | exact Ud _ | refine And.intro ?_ ?_)) <;> (first | omega | exact z | (unfold La; omega) | exact List.length_map _ | (show Is _ _ _; exact rfl) | skip)
  rw [hL]
  exact ⟨ih⟩
theorem l116a {X : Ctx} (hX : X.P = Try.prog) (b : List (BitVec 8)) (s:Int) (ns : List (BitVec 64)) (hb : b.length ≤ 100000000) (hn : ns.length ≤ 1000000) : ∀ (d i:Nat), i + d = ns.length →
  Ia X 116 0 (Are (.one (.gs 0 (b ++ putL (szN s) ns).length 1)) [some ((b ++ putL (szN s) ns).map U8)]) (Fb Try.f116 0) (mkS 38 [(1, .one (.i64 s)), (2, .one (.xs (ns.map Nc) 0 ns.length)), (7, .one (.gs 0 (b ++ putL (szN s) (ns.take i)).length 1)), (8, .one (.i64 i))]) [some ((b ++ putL (szN s) (ns.take i)).map U8)] := by
 intro d
 induction d with
 | zero =>
  intro i hi
  have hi : i = ns.length := by omega
  subst hi
  rw [List.take_length]
  refine vc116a hX _ _ _ _ _ _ ⟨fun h => absurd (of_decide_eq_true h) (by omega), fun _ => ⟨Aa _, rfl, rfl⟩⟩
 | succ d ih =>
  intro i hi
  have ih := ih (i + 1) (by omega)
  have hs := szN_le s
  have hW : (b ++ putL (szN s) (ns.take i)).length ≤ 120000000 := by
   rw [List.length_append, putL_len, List.length_take]
   have : min i ns.length * szN s ≤ 1000000 * 8 := Nat.mul_le_mul (by omega) hs
   omega
  rw [putL_take _ _ (by omega), ← List.append_assoc] at ih
  have e : min (max s 0) 8 - 1 = ((szN s:Nat):Int) - 1 - ((0:Nat):Int) := by unfold szN; omega
  have K := l116b hX (b ++ putL (szN s) (ns.take i)) (szN s) hs ns s i (by omega) hn hW ih (szN s) 0 (by omega)
  rw [List.take_zero, List.append_nil] at K
  refine vc116a hX _ _ _ _ _ _ ⟨fun _ => ?_, fun h => absurd (of_decide_eq_false h) (by omega)⟩
  try dsimp only
  rw [e]
  (repeat' (first | exact z | exact trivial | exact Aa _ | exact Ya _ | exact Ba _ | exact Nat.le_refl _ | exact Ud _ | refine And.intro ?_ ?_)) <;> (first | omega | exact z | (unfold La; omega) | exact List.length_map _ | (show Is _ _ _; exact rfl) | skip)
  exact ⟨K⟩
theorem s116 (b : List (BitVec 8)) (s:Int) (ns : List (BitVec 64)) (hb : b.length ≤ 100000000) (hn : ns.length ≤ 1000000) : Spec Try.prog 116 [.one (.xs (b.map U8) 0 b.length), .one (.i64 s), .one (.xs (ns.map Nc) 0 ns.length)] [] (Are (.one (.gs 0 (b ++ putL (szN s) ns).length 1)) [some ((b ++ putL (szN s) ns).map U8)]) := by
 refine Spec.of_run ok116 fun X hX => vc116 hX _ _ _ _ _ ?_
 have K := l116a hX b s ns hb hn ns.length 0 (by omega)
 rw [List.take_zero, show putL (szN s) [] = [] from rfl, List.append_nil] at K
 rw [tk b]
 (repeat' (first | exact z | exact trivial | exact Aa _ | exact Ya _ | exact Ba _ | exact Nat.le_refl _ | exact Ud _ | refine And.intro ?_ ?_)) <;> (first | omega | exact z | (unfold La; omega) | exact List.length_map _ | (show Is _ _ _; exact rfl) | skip)
 all_goals first | (rw [List.length_map]; omega) | exact ⟨K⟩
def asN (row : List AC) : List (BitVec 64) := row.map asU64
theorem asN_map (l : List (BitVec 64)) : asN (l.map Nc) = l := by unfold asN; rw [List.map_map]; exact List.map_id l
def ptB (b : List (BitVec 8)) (s:Int) (ns : List (BitVec 64)) : List (BitVec 8) := b ++ putL (szN s) ns
noncomputable def M17 : Ad := fun f xs m => match f, xs, m with
 | 100, [.one (.xs row 0 n), .one (.i64 s), .one (.xs nr 0 k)], [] => some ([Oa row ∧ row.length = n ∧ n ≤ 100000000 ∧ nr = (asN nr).map Nc ∧ nr.length = k ∧ k ≤ 1000000], .one (.gs 0 (n + k * szN s) 1), [some (hide ((ptB (row.map Ea) s (asN nr)).map U8))])
 | 116, [.one (.xs row 0 n), .one (.i64 s), .one (.xs nr 0 k)], [] => some ([Oa row ∧ row.length = n ∧ n ≤ 100000000 ∧ nr = (asN nr).map Nc ∧ nr.length = k ∧ k ≤ 1000000], .one (.gs 0 (n + k * szN s) 1), [some (hide ((ptB (row.map Ea) s (asN nr)).map U8))])
 | f, xs, m => M16 f xs m
noncomputable def mf17 : FuncId → Option MF := fun f => match f with
 | 100 => some { cs := { kinds := [], fl := [] }, flo := [true], fresh := true }
 | 116 => some { cs := { kinds := [], fl := [] }, flo := [true], fresh := true }
 | f => mf16 f
theorem ptB_len (b : List (BitVec 8)) (s:Int) (ns : List (BitVec 64)) : (ptB b s ns).length = b.length + ns.length * szN s := by unfold ptB; rw [List.length_append, putL_len]
theorem M17_ok : Xc Try.prog M17 := by
 intro f xs m0 cs r m1 h hc
 unfold M17 at h
 split at h
 ·simp only [Option.some.injEq, Prod.mk.injEq] at h; obtain ⟨rfl, rfl, rfl⟩ := h
  rename_i row n s nr k
  obtain ⟨h1, h2, h3, h4, h5, h6⟩ := hc.1
  have hn : (asN nr).length = k := by rw [← h5]; exact List.length_map _
  have := s100 (row.map Ea) s (asN nr) (by rw [List.length_map]; omega) (by omega)
  have e : ((row.map Ea) ++ putL (szN s) (asN nr)).length = n + k * szN s := by rw [List.length_append, putL_len, List.length_map, h2, hn]
  rw [e, ← h1, List.length_map, h2, ← h4, hn] at this
  rw [Ja]
  exact ⟨⟨_, _, ok100⟩, this⟩
 ·simp only [Option.some.injEq, Prod.mk.injEq] at h; obtain ⟨rfl, rfl, rfl⟩ := h
  rename_i row n s nr k
  obtain ⟨h1, h2, h3, h4, h5, h6⟩ := hc.1
  have hn : (asN nr).length = k := by rw [← h5]; exact List.length_map _
  have := s116 (row.map Ea) s (asN nr) (by rw [List.length_map]; omega) (by omega)
  have e : ((row.map Ea) ++ putL (szN s) (asN nr)).length = n + k * szN s := by rw [List.length_append, putL_len, List.length_map, h2, hn]
  rw [e, ← h1, List.length_map, h2, ← h4, hn] at this
  rw [Ja]
  exact ⟨⟨_, _, ok116⟩, this⟩
 ·exact M16_ok _ _ _ _ _ _ h hc
noncomputable def T23 : Tab := fun f xs => match f with
 | 59 => T10 f xs
 | 60 => T10 f xs
 | 61 => T10 f xs
 | 62 => T10 f xs
 | _ => T22 f xs
theorem T23_ok : Oc Try.prog T23 := by
 intro f xs cs r h hc
 unfold T23 at h
 split at h <;> first | exact T10_ok _ _ _ _ h hc | exact T22_ok _ _ _ _ h hc
noncomputable def inlP : Inl := fun f => match f with
 | 74 => some (Try.f74, [])
 | _ => none
theorem inlP_ok : InlOk Try.prog inlP := by
 intro f fn hs h
 unfold inlP at h
 split at h <;> first | (cases h; done) | (obtain ⟨rfl, _⟩ := Prod.mk.inj (Option.some.inj h); exact ok74)
def WPA2 : WC := ⟨baseP T23 mf17 M17,baseP_ok T23 mf17 M17,baseP_call T23_ok M17_ok⟩
theorem vc118 {X} {Q : QT} (hX : PX X) (s : Bool) (bs : List AC) (h : (s=true->((0:Int)<=(↑0:Int)/\(↑0:Int)<=(↑16:Int)/\(↑16:Int)<=(↑16:Int))/\Flat (Bb s::bs)/\Q (O1 (SV 0 1 16)) [some (Bb s::bs)])/\(s=false->((0:Int)<=(↑0:Int)/\(↑0:Int)<=(4:Int)/\(4:Int)<=(↑16:Int))/\Flat (Bb s::bs)/\Q (O1 (SV 0 1 4)) [some (Bb s::bs)])) : Ia X 118 0 Q ([.code (Na Try.f118)]) (slots [.agg (.b s::bs)] Try.f118.ntmps) [] :=
 wR hX WPA2 ok118 [4] [] [true] [] h (by kernel_rfl)
theorem vc78 {X} {Q : QT} (hX : PX X) (a:Int) (h : (decide (a=(1:Int))=true->Q (O1 (I64 (20:Int))) [])/\(decide (a=(1:Int))=false->(decide (a=(2:Int))=true->Q (O1 (I64 (16:Int))) [])/\(decide (a=(2:Int))=false->Q (O1 (I64 (0:Int))) []))) : Ia X 78 0 Q ([.code (Na Try.f78)]) (slots [.one (.i64 a)] Try.f78.ntmps) [] :=
 wR hX WPA2 ok78 [5,7] [] [] [] h (by kernel_rfl)
theorem vc79 {X} {Q : QT} (hX : PX X) (a:Int) (h : (decide (a=(1:Int))=true->Q (O1 (I64 (20:Int))) [])/\(decide (a=(1:Int))=false->(decide (a=(2:Int))=true->Q (O1 (I64 (16:Int))) [])/\(decide (a=(2:Int))=false->Q (O1 (I64 (0:Int))) []))) : Ia X 79 0 Q ([.code (Na Try.f79)]) (slots [.one (.i64 a)] Try.f79.ntmps) [] :=
 wR hX WPA2 ok79 [5,7] [] [] [] h (by kernel_rfl)
theorem vc115 {X} {Q : QT} (hX : PX X) (row : List AC) (n:Nat) (h : (fun D2 : List (BitVec 8)=>(fun D1 : List AC=>(fun D0 : List AC=>(decide ((↑n:Int)=(16:Int))=true->16<=n/\16<=List.length row/\(List.length (take 16 (drop 0 row))=16/\16<=16)/\16<=List.length D1/\Za (AG (take 16 (drop 0 D1)))/\Q (AG (take 16 (drop 0 D1))) [])/\(decide ((↑n:Int)=(16:Int))=false->Flat (replicate 16 (U8 0))/\1<=1/\0+n*1<=List.length row/\(Oa (replicate 16 (U8 0))/\16=16/\[XS (take (n*1) (drop 0 row)) 0 n]=List.map encP (List.map asP [XS (take (n*1) (drop 0 row)) 0 n])/\1=1/\1<=1000000)/\(List.length (hide (List.map U8 D2))=16/\16<=16)/\16<=List.length D0/\Za (AG (take 16 (drop 0 D0)))/\Q (AG (take 16 (drop 0 D0))) [])) (Qa (replicate 16 (U8 0)) 0 (hide (List.map U8 D2)))) (Qa (replicate 16 (U8 0)) 0 (take 16 (drop 0 row)))) (cmF (List.map Ea (replicate 16 (U8 0))) (List.flatten (List.map asP [XS (take (n*1) (drop 0 row)) 0 n])))) : Ia X 115 0 Q ([.code (Na Try.f115)]) (slots [.one (.xs row 0 n)] Try.f115.ntmps) [] :=
 wR' hX WPA2 ok115 [5] [] false (CS.mk [] [] [0] []) true [] 2000 h (by kernel_rfl)
theorem vc117 {X} {Q : QT} (hX : PX X) (row : List AC) (n:Nat) (h : Flat (replicate 16 (U8 0))/\Flat (replicate 16 (U8 0))/\KR X 117 0 Q (Fb Try.f117 0) (mkS 22 [(0,O1 (XS row 0 n)),(2,O1 (PT 0 0)),(3,O1 (PT 1 0)),(4,O1 (I64 (0:Int)))]) [some (replicate 16 (U8 0)),some (replicate 16 (U8 0))]) : Ia X 117 0 Q ([.code (Na Try.f117)]) (slots [.one (.xs row 0 n)] Try.f117.ntmps) [] :=
 wR' hX WPA2 ok117 [6,11] [] false (CS.mk [] [] [0] []) true [(3,LS.mk [0,2,3,4] (CS.mk [] [true,true] [] []))] 2000 h (by kernel_rfl)
theorem vc117a {X} {Q : QT} (hX : PX X) (row zs os : List AC) (n:Nat) (i:Int) (h : (fun D1 : BitVec 8=>(fun D0 : List AC=>(fun L0 : Prop=>(decide (i<(16:Int))=true->(decide (i<(↑n:Int))=true->((0:Int)<=i/\i<(↑n:Int))/\gt AY row (0+Int.toNat i*1)=U8 D1/\((0:Int)<=i/\i<(↑16:Int))/\(1=1/\0+Int.toNat i*1+1<=List.length os)/\La (i+(1:Int))/\Flat zs/\Flat (Qa os (0+Int.toNat i*1) [U8 D1])/\KR X 117 0 Q (Fb Try.f117 0) (mkS 22 [(0,O1 (XS row 0 n)),(2,O1 (PT 0 0)),(3,O1 (PT 1 0)),(4,O1 (I64 (i+(1:Int))))]) [some zs,some (Qa os (0+Int.toNat i*1) [U8 D1])])/\(decide (i<(↑n:Int))=false->L0))/\(decide (i<(16:Int))=false->L0)) (16<=List.length os/\(List.length (take 16 (drop 0 os))=16/\16<=List.length zs)/\16<=List.length D0/\Za (AG (take 16 (drop 0 D0)))/\Q (AG (take 16 (drop 0 D0))) [])) (Qa zs 0 (take 16 (drop 0 os)))) (Ea (gt AY row (0+Int.toNat i*1)))) : Ia X 117 0 Q (Fb Try.f117 0) (mkS 22 [(0,.one (.xs row 0 n)),(2,.one (.ptr 0 0)),(3,.one (.ptr 1 0)),(4,.one (.i64 i))]) [some zs,some os] :=
 wR' hX WPA2 ok117 [6,11] [] false (CS.mk [] [] [0] []) true [(3,LS.mk [0,2,3,4] (CS.mk [] [true,true] [] []))] 2000 h (by kernel_rfl)
def adN (s : Bool) : Nat := match s with | true => 16 | false => 4
theorem s118 (s : Bool) (b : List (BitVec 8)) : Spec Try.prog 118 [.agg (.b s :: b.map U8)] [] (Are (.one (.sv 0 1 (adN s))) [some (.b s :: b.map U8)]) := by
 refine Spec.of_run ok118 fun X hX => vc118 hX _ _ ⟨fun h => ?_, fun h => ?_⟩
 ·subst h
  exact ⟨by omega, kflat _ _, rfl, rfl⟩
 ·subst h
  exact ⟨by omega, kflat _ _, rfl, rfl⟩
theorem s78 (a:Int) : Spec Try.prog 78 [.one (.i64 a)] [] (Is (.one (.i64 (kszF a)))) := by
 refine Spec.of_run ok78 fun X hX => vc78 hX _ ⟨fun h => ?_, fun h => ⟨fun h2 => ?_, fun h2 => ?_⟩⟩
 ·unfold kszF; rw [if_pos (of_decide_eq_true h)]; exact rfl
 ·unfold kszF; rw [if_neg (of_decide_eq_false h), if_pos (of_decide_eq_true h2)]; exact rfl
 ·unfold kszF; rw [if_neg (of_decide_eq_false h), if_neg (of_decide_eq_false h2)]; exact rfl
theorem s79 (a:Int) : Spec Try.prog 79 [.one (.i64 a)] [] (Is (.one (.i64 (kszF a)))) := by
 refine Spec.of_run ok79 fun X hX => vc79 hX _ ⟨fun h => ?_, fun h => ⟨fun h2 => ?_, fun h2 => ?_⟩⟩
 ·unfold kszF; rw [if_pos (of_decide_eq_true h)]; exact rfl
 ·unfold kszF; rw [if_neg (of_decide_eq_false h), if_pos (of_decide_eq_true h2)]; exact rfl
 ·unfold kszF; rw [if_neg (of_decide_eq_false h), if_neg (of_decide_eq_false h2)]; exact rfl
theorem s115 (m : List (BitVec 8)) (hm : m.length ≤ 1000000) : Spec Try.prog 115 [.one (.xs (m.map U8) 0 m.length)] [] (Is (.agg ((blkA m).map U8))) := by
 refine Spec.of_run ok115 fun X hX => vc115 hX _ _ ?_
 have z : Flat (replicate 16 (U8 0)) := by rw [Jd]; exact Aa _
 have az : Oa (replicate 16 (U8 0)) := by rw [Jd]; exact Ba _
 refine ⟨fun h => ?_, fun h => ?_⟩
 ·have h : m.length = 16 := by have := of_decide_eq_true h; omega
  have e : blkA m = m := if_pos h
  have em : m.take 16 = m := List.take_of_length_le (by omega)
  have l1 : Qa (replicate 16 (U8 0)) 0 (m.map U8) = m.map U8 := Ae _ _ h
  rw [e]
  simp only [tk0, List.drop_zero, em, l1, List.length_map, List.length_replicate, h]
  clear em l1 e
  (repeat' (first | exact z | exact trivial | exact Aa _ | exact Ya _ | exact Ba _ | exact Nat.le_refl _ | exact Ud _ | refine And.intro ?_ ?_)) <;> (first | omega | exact z | (unfold La; omega) | exact List.length_map _ | (show Is _ _ _; exact rfl) | skip)
 ·have h := of_decide_eq_false h
  have e : blkA m = cmF z16k m := if_neg (by omega)
  have hc := cmF_len z16k m
  have ez : List.map Ea (replicate 16 (U8 0)) = z16k := rfl
  have l1 : Qa (replicate 16 (U8 0)) 0 ((cmF z16k m).map U8) = (cmF z16k m).map U8 := Ae _ _ hc
  have em : (cmF z16k m).take 16 = cmF z16k m := List.take_of_length_le (by omega)
  rw [e, tk m]
  simp only [Ja, ez, tk0, List.drop_zero, em, l1, asP1, pe1, fl1, List.length_map, List.length_replicate, hc]
  clear em l1 e ez
  generalize cmF z16k m = E at *
  (repeat' (first | exact az | exact z | exact trivial | exact Aa _ | exact Ya _ | exact Ba _ | exact Nat.le_refl _ | exact Ud _ | refine And.intro ?_ ?_)) <;> (first | omega | exact z | (unfold La; omega) | exact List.length_map _ | (show Is _ _ _; exact rfl) | skip)
def sxF (b : List (BitVec 8)) : List (BitVec 8) := tab16 fun i => b.getD i 0
theorem sxF_len (b : List (BitVec 8)) : (sxF b).length = 16 := Ob _
theorem sxF_16 {b : List (BitVec 8)} (h : b.length = 16) : sxF b = b := tab16_self h
theorem l117 {X : Ctx} (hX : X.P = Try.prog) (b : List (BitVec 8)) (hb : b.length ≤ 1000000) : ∀ (d i:Nat), i + d = 16 → i ≤ b.length →
  Ia X 117 0 (Is (.agg ((sxF b).map U8))) (Fb Try.f117 0) (mkS 22 [(0, .one (.xs (b.map U8) 0 b.length)), (2, .one (.ptr 0 0)), (3, .one (.ptr 1 0)), (4, .one (.i64 i))]) [some (replicate 16 (U8 0)), some ((TX (sxF b) (replicate 16 0) i).map U8)] := by
 have z : Flat (replicate 16 (U8 0)) := by rw [Jd]; exact Aa _
 have ht := sxF_len b
 have hz : (replicate 16 (0:BitVec 8)).length = 16 := List.length_replicate
 have e3 : Qa (replicate 16 (U8 0)) 0 ((sxF b).map U8) = (sxF b).map U8 := Ae _ _ ht
 have e4 : (sxF b).take 16 = sxF b := List.take_of_length_le (by omega)
 intro d
 induction d with
 | zero =>
  intro i hi hib
  have hi : i = 16 := by omega
  subst hi
  refine vc117a hX _ _ _ _ _ ⟨fun h => absurd (of_decide_eq_true h) (by omega), fun _ => ?_⟩
  try dsimp only
  rw [TX_16 ht hz]
  simp only [tk0, List.drop_zero, e3, e4, List.length_map, List.length_replicate, ht]
  clear e3 e4
  (repeat' (first | exact z | exact trivial | exact Aa _ | exact Ya _ | exact Ba _ | exact Nat.le_refl _ | exact Ud _ | refine And.intro ?_ ?_)) <;> (first | omega | exact z | (unfold La; omega) | exact List.length_map _ | (show Is _ _ _; exact rfl) | skip)
 | succ d ih =>
  intro i hi hib
  refine vc117a hX _ _ _ _ _ ⟨fun _ => ⟨fun h => ?_, fun h => ?_⟩, fun h => absurd (of_decide_eq_false h) (by omega)⟩
  ·have h := of_decide_eq_true h
   have ih := ih (i + 1) (by omega) (by omega)
   have g := Cb b i (by omega)
   have hl := TX_len ht hz i
   have hset := TX_set ht hz (i := i) (by omega) (v := b.getD i 0) (show b.getD i 0 = (sxF b).getD i 0 from (Yc (fun i => b.getD i 0) (show i < 16 by omega)).symm)
   simp only [ixn, g, Ea, Xd, hset, List.length_map, hl]
   clear e3 e4
   (repeat' (first | exact z | exact trivial | exact Aa _ | exact Ya _ | exact Ba _ | exact Nat.le_refl _ | exact Ud _ | refine And.intro ?_ ?_)) <;> (first | omega | exact z | (unfold La; omega) | exact List.length_map _ | (show Is _ _ _; exact rfl) | skip)
   exact ⟨ih⟩
  ·have h := of_decide_eq_false h
   have hi2 : i = b.length := by omega
   have e : TX (sxF b) (replicate 16 0) i = sxF b := by
    unfold TX
    apply List.ext_getElem (by rw [List.length_append, List.length_take, List.length_drop, ht, hz]; omega)
    intro j h1 h2
    have h16 : j < 16 := by omega
    have hs : (sxF b)[j] = b.getD j 0 := by
     have := Yc (fun i => b.getD i 0) h16
     rw [show (tab16 fun i => b.getD i 0) = sxF b from rfl, List.getD_eq_getElem?_getD, List.getElem?_eq_getElem h2] at this
     exact this
    refine Eq.trans ?_ hs.symm
    rcases Nat.lt_or_ge j i with hlt | hge
    ·rw [List.getElem_append_left (by rw [List.length_take]; omega), List.getElem_take]
     exact hs
    ·rw [List.getElem_append_right (by rw [List.length_take]; omega), List.getElem_drop, List.getElem_replicate, List.getD_eq_getElem?_getD, List.getElem?_eq_none (by omega)]
     rfl
   rw [e]
   simp only [tk0, List.drop_zero, e3, e4, List.length_map, List.length_replicate, ht]
   clear e3 e4 e
   (repeat' (first | exact z | exact trivial | exact Aa _ | exact Ya _ | exact Ba _ | exact Nat.le_refl _ | exact Ud _ | refine And.intro ?_ ?_)) <;> (first | omega | exact z | (unfold La; omega) | exact List.length_map _ | (show Is _ _ _; exact rfl) | skip)
theorem s117 (b : List (BitVec 8)) (hb : b.length ≤ 1000000) : Spec Try.prog 117 [.one (.xs (b.map U8) 0 b.length)] [] (Is (.agg ((sxF b).map U8))) := by
 refine Spec.of_run ok117 fun X hX => vc117 hX _ _ ?_
 have z : Flat (replicate 16 (U8 0)) := by rw [Jd]; exact Aa _
 have K := l117 hX b hb 16 0 rfl (Nat.zero_le _)
 rw [TX_0, List.map_replicate] at K
 (repeat' (first | exact z | exact trivial | exact Aa _ | exact Ya _ | exact Ba _ | exact Nat.le_refl _ | exact Ud _ | refine And.intro ?_ ?_)) <;> (first | omega | exact z | (unfold La; omega) | exact List.length_map _ | (show Is _ _ _; exact rfl) | skip)
 exact ⟨K⟩
noncomputable def T24 : Tab := fun f xs => match f, xs with
 | 78, [.one (.i64 a)] => some ([], .one (.i64 (kszF a)))
 | 79, [.one (.i64 a)] => some ([], .one (.i64 (kszF a)))
 | 115, [.one (.xs row 0 n)] => some ([Oa row ∧ row.length = n ∧ n ≤ 1000000], .agg (hide ((blkA (row.map Ea)).map U8)))
 | 117, [.one (.xs row 0 n)] => some ([Oa row ∧ row.length = n ∧ n ≤ 1000000], .agg (hide ((sxF (row.map Ea)).map U8)))
 | f, xs => T23 f xs
theorem T24_ok : Oc Try.prog T24 := by
 intro f xs cs r h hc
 unfold T24 at h
 split at h
 ·obtain ⟨rfl, rfl⟩ := Prod.mk.inj (Option.some.inj h)
  exact ⟨⟨_, _, ok78⟩, s78 _, rfl⟩
 ·obtain ⟨rfl, rfl⟩ := Prod.mk.inj (Option.some.inj h)
  exact ⟨⟨_, _, ok79⟩, s79 _, rfl⟩
 ·obtain ⟨rfl, rfl⟩ := Prod.mk.inj (Option.some.inj h)
  obtain ⟨h1, h2, h3⟩ := hc.1
  rename_i row n
  have := s115 (row.map Ea) (by rw [List.length_map]; omega)
  rw [← h1, List.length_map, h2] at this
  rw [Ja]
  exact ⟨⟨_, _, ok115⟩, this, Jb _ (fun _ => rfl) _⟩
 ·obtain ⟨rfl, rfl⟩ := Prod.mk.inj (Option.some.inj h)
  obtain ⟨h1, h2, h3⟩ := hc.1
  rename_i row n
  have := s117 (row.map Ea) (by rw [List.length_map]; omega)
  rw [← h1, List.length_map, h2] at this
  rw [Ja]
  exact ⟨⟨_, _, ok117⟩, this, Jb _ (fun _ => rfl) _⟩
 ·exact T23_ok _ _ _ _ h hc
noncomputable def M18 : Ad := fun f xs m => match f, xs, m with
 | 118, [.agg (.b s :: bs)], [] => some ([Oa bs], .one (.sv 0 1 (adN s)), [some (.b s :: bs)])
 | f, xs, m => M17 f xs m
noncomputable def mf18 : FuncId → Option MF := fun f => match f with
 | 118 => some { cs := { kinds := [], fl := [] }, flo := [true], fresh := true }
 | f => mf17 f
theorem M18_ok : Xc Try.prog M18 := by
 intro f xs m0 cs r m1 h hc
 unfold M18 at h
 split at h
 ·simp only [Option.some.injEq, Prod.mk.injEq] at h; obtain ⟨rfl, rfl, rfl⟩ := h
  rename_i s bs
  have := s118 s (bs.map Ea)
  rw [← hc.1] at this
  exact ⟨⟨_, _, ok118⟩, this⟩
 ·exact M17_ok _ _ _ _ _ _ h hc
noncomputable def envP (T : Tab) (mf : FuncId → Option MF) (M : Ad) : Env := inlE (baseP T mf M) inlP 2
theorem envP_ok (T : Tab) (mf : FuncId → Option MF) (M : Ad) : Eb Try.prog (envP T mf M) := inlE_envOk (baseP_ok T mf M) _ _
theorem Ed {T : Tab} {mf : FuncId → Option MF} {M : Ad} (hT : Oc Try.prog T) (hM : Xc Try.prog M) : Bc Try.prog (envP T mf M) :=
 inlE_ok (baseP_ok T mf M) (baseP_call hT hM) mixed inlP_ok 2
def WPA3 : WC := ⟨envP T24 mf18 M18,envP_ok T24 mf18 M18,Ed T24_ok M18_ok⟩
theorem vc82 {X} {Q : QT} (hX : PX X) (s t : Bool) (as' bs : List AC) (x y:BitVec 32) (h : (fun L0 : Prop=>((s != t)=true->Q (TU [O1 NS,O1 (I64 (1:Int))]) [])/\((s != t)=false->17<=List.length (Bb s::as')/\(Flat (take 17 (drop 0 (Bb s::as')))/\Oa (take 16 as')/\Qb (Bb s::take 16 as')/\(1+adN s*1<=List.length (Bb s::take 16 as')/\(adN s*1<=140737488355328/\adN s<=4611686018427387904)/\17<=List.length (Bb t::bs)/\L0)/\17<=List.length (Bb t::bs)/\1+adN s*1<=List.length (Bb s::take 16 as')/\(adN s*1<=140737488355328/\adN s<=4611686018427387904)/\L0)/\17<=List.length (Bb t::bs)/\Flat (take 17 (drop 0 (Bb s::as')))/\Oa (take 16 as')/\Qb (Bb s::take 16 as')/\1+adN s*1<=List.length (Bb s::take 16 as')/\(adN s*1<=140737488355328/\adN s<=4611686018427387904)/\L0)) (Flat (take 17 (drop 0 (Bb t::bs)))/\Oa (take 16 bs)/\Qb (Bb t::take 16 bs)/\1+adN t*1<=List.length (Bb t::take 16 bs)/\((adN s+adN t)*1<=140737488355328/\adN s+adN t<=4611686018427387904)/\List.length (take (adN s*1) (drop 1 (Bb s::take 16 as')))=adN s*1/\Flat (Bb s::as')/\Flat (Bb t::bs)/\Flat (take (adN s*1) (drop 1 (Bb s::take 16 as'))++take (adN t*1) (drop 1 (Bb t::take 16 bs)))/\KR X 82 0 Q (Ub Try.f82 3) (mkS 42 [(2,O1 (Fa x)),(3,O1 (Fa y)),(4,O1 (PT 0 0)),(5,O1 (PT 1 0)),(10,O1 (GS 2 (adN s+adN t) 1))]) [some (Bb s::as'),some (Bb t::bs),some (take (adN s*1) (drop 1 (Bb s::take 16 as'))++take (adN t*1) (drop 1 (Bb t::take 16 bs)))])) : Ia X 82 0 Q ([.code (Na Try.f82)]) (slots [.agg (.b s::as'),.agg (.b t::bs),.one (.u32 x),.one (.u32 y)] Try.f82.ntmps) [] :=
 wR hX WPA3 ok82 [17] [(3,2),(100003,0),(200003,0)] [true] [(4,[2,3,4,5,10],[true,true,true])] h (by kernel_rfl)
theorem vc82b {X} {Q : QT} (hX : PX X) (s t : Bool) (as' bs cs : List AC) (x y:BitVec 32) (n:Nat) (h : (fun D3 : BitVec 64=>(fun D2 : BitVec 64=>(fun D1 : List (BitVec 64)=>(fun D0 : List (BitVec 8)=>gt AY (Bb s::as') 17=Va (asU16 (gt AY (Bb s::as') 17))/\gt AY (Bb t::bs) 17=Va (asU16 (gt AY (Bb t::bs) 17))/\0+n*1<=List.length cs/\Flat (take (n*1) (drop 0 cs))/\2<=2/\Flat (take 2 (drop 0 [Nc D2,Nc D3]))/\(Oa (take (n*1) (drop 0 cs))/\List.length (take (n*1) (drop 0 cs))=n/\n<=100000000/\take 2 (drop 0 [Nc D2,Nc D3])=List.map Nc (asN (take 2 (drop 0 [Nc D2,Nc D3])))/\2=2/\2<=1000000)/\Qb (hide (List.map U8 D0))/\0+(n+4)*1<=List.length (hide (List.map U8 D0))/\Flat (take ((n+4)*1) (drop 0 (hide (List.map U8 D0))))/\2<=2/\Flat (take 2 (drop 0 [Nc (BitVec.setWidth 64 x),Nc (BitVec.setWidth 64 y)]))/\(Oa (take ((n+4)*1) (drop 0 (hide (List.map U8 D0))))/\List.length (take ((n+4)*1) (drop 0 (hide (List.map U8 D0))))=n+4/\n+4<=100000000/\take 2 (drop 0 [Nc (BitVec.setWidth 64 x),Nc (BitVec.setWidth 64 y)])=List.map Nc D1/\2=2/\2<=1000000)/\Qb (hide (List.map U8 (ptB (List.map Ea (take ((n+4)*1) (drop 0 (hide (List.map U8 D0))))) (4:Int) D1)))/\Flat (hide (List.map U8 (ptB (List.map Ea (take ((n+4)*1) (drop 0 (hide (List.map U8 D0))))) (4:Int) D1)))/\Q (TU [O1 (GS 0 (n+4+8) 1),O1 (I64 (0:Int))]) [some (hide (List.map U8 (ptB (List.map Ea (take ((n+4)*1) (drop 0 (hide (List.map U8 D0))))) (4:Int) D1)))]) (ptB (List.map Ea (take (n*1) (drop 0 cs))) (2:Int) (asN (take 2 (drop 0 [Nc D2,Nc D3]))))) (asN (take 2 (drop 0 [Nc (BitVec.setWidth 64 x),Nc (BitVec.setWidth 64 y)])))) (BitVec.setWidth 64 (asU16 (gt AY (Bb s::as') 17)))) (BitVec.setWidth 64 (asU16 (gt AY (Bb t::bs) 17)))) : Ia X 82 0 Q (Ub Try.f82 3) (mkS 42 [(2,.one (.u32 x)),(3,.one (.u32 y)),(4,.one (.ptr 0 0)),(5,.one (.ptr 1 0)),(10,.one (.gs 2 n 1))]) [some (.b s::as'),some (.b t::bs),some cs] :=
 wR hX WPA3 ok82 [17] [(3,2),(100003,0),(200003,0)] [true] [(4,[2,3,4,5,10],[true,true,true])] h (by kernel_rfl)
theorem vc83 {X} {Q : QT} (hX : PX X) (s t : Bool) (as' bs : List AC) (x y:BitVec 32) (h : ((s != t)=true->Q (TU [O1 NS,O1 (I64 (1:Int))]) [])/\((s != t)=false->(s=true->((0:Int)<=(↑0:Int)/\(↑0:Int)<=(16:Int)/\(16:Int)<=(↑16:Int))/\((0:Int)<=(↑0:Int)/\(↑0:Int)<=(16:Int)/\(16:Int)<=(↑16:Int))/\17<=List.length (Bb s::as')/\(16<=140737488355328/\16<=4611686018427387904)/\17<=List.length (Bb t::bs)/\(32<=140737488355328/\32<=4611686018427387904)/\List.length (take 16 (drop 1 (Bb s::as')))=16/\Flat (Bb s::as')/\Flat (Bb t::bs)/\Flat (take 16 (drop 1 (Bb s::as'))++take 16 (drop 1 (Bb t::bs)))/\KR X 83 0 Q (Ub Try.f83 6) (mkS 48 [(2,O1 (Fa x)),(3,O1 (Fa y)),(4,O1 (PT 0 0)),(5,O1 (PT 1 0)),(11,O1 (GS 2 32 1))]) [some (Bb s::as'),some (Bb t::bs),some (take 16 (drop 1 (Bb s::as'))++take 16 (drop 1 (Bb t::bs)))])/\(s=false->((0:Int)<=(↑0:Int)/\(↑0:Int)<=(4:Int)/\(4:Int)<=(↑16:Int))/\((0:Int)<=(↑0:Int)/\(↑0:Int)<=(4:Int)/\(4:Int)<=(↑16:Int))/\5<=List.length (Bb s::as')/\(4<=140737488355328/\4<=4611686018427387904)/\5<=List.length (Bb t::bs)/\(8<=140737488355328/\8<=4611686018427387904)/\List.length (take 4 (drop 1 (Bb s::as')))=4/\Flat (Bb s::as')/\Flat (Bb t::bs)/\Flat (take 4 (drop 1 (Bb s::as'))++take 4 (drop 1 (Bb t::bs)))/\KR X 83 0 Q (Ub Try.f83 6) (mkS 48 [(2,O1 (Fa x)),(3,O1 (Fa y)),(4,O1 (PT 0 0)),(5,O1 (PT 1 0)),(11,O1 (GS 2 8 1))]) [some (Bb s::as'),some (Bb t::bs),some (take 4 (drop 1 (Bb s::as'))++take 4 (drop 1 (Bb t::bs)))]))) : Ia X 83 0 Q ([.code (Na Try.f83)]) (slots [.agg (.b s::as'),.agg (.b t::bs),.one (.u32 x),.one (.u32 y)] Try.f83.ntmps) [] :=
 wR hX WPA3 ok83 [18,21] [(6,4),(100006,0),(200006,0)] [true] [(7,[2,3,4,5,11],[true,true,true])] h (by kernel_rfl)
theorem vc83b {X} {Q : QT} (hX : PX X) (s t : Bool) (as' bs cs : List AC) (x y:BitVec 32) (n:Nat) (h : (fun D3 : BitVec 64=>(fun D2 : BitVec 64=>(fun D1 : List (BitVec 64)=>(fun D0 : List (BitVec 8)=>gt AY (Bb s::as') 17=Va (asU16 (gt AY (Bb s::as') 17))/\gt AY (Bb t::bs) 17=Va (asU16 (gt AY (Bb t::bs) 17))/\0+n*1<=List.length cs/\Flat (take (n*1) (drop 0 cs))/\2<=2/\Flat (take 2 (drop 0 [Nc D2,Nc D3]))/\(Oa (take (n*1) (drop 0 cs))/\List.length (take (n*1) (drop 0 cs))=n/\n<=100000000/\take 2 (drop 0 [Nc D2,Nc D3])=List.map Nc (asN (take 2 (drop 0 [Nc D2,Nc D3])))/\2=2/\2<=1000000)/\Qb (hide (List.map U8 D0))/\0+(n+4)*1<=List.length (hide (List.map U8 D0))/\Flat (take ((n+4)*1) (drop 0 (hide (List.map U8 D0))))/\2<=2/\Flat (take 2 (drop 0 [Nc (BitVec.setWidth 64 x),Nc (BitVec.setWidth 64 y)]))/\(Oa (take ((n+4)*1) (drop 0 (hide (List.map U8 D0))))/\List.length (take ((n+4)*1) (drop 0 (hide (List.map U8 D0))))=n+4/\n+4<=100000000/\take 2 (drop 0 [Nc (BitVec.setWidth 64 x),Nc (BitVec.setWidth 64 y)])=List.map Nc D1/\2=2/\2<=1000000)/\Qb (hide (List.map U8 (ptB (List.map Ea (take ((n+4)*1) (drop 0 (hide (List.map U8 D0))))) (4:Int) D1)))/\Flat (hide (List.map U8 (ptB (List.map Ea (take ((n+4)*1) (drop 0 (hide (List.map U8 D0))))) (4:Int) D1)))/\Q (TU [O1 (GS 0 (n+4+8) 1),O1 (I64 (0:Int))]) [some (hide (List.map U8 (ptB (List.map Ea (take ((n+4)*1) (drop 0 (hide (List.map U8 D0))))) (4:Int) D1)))]) (ptB (List.map Ea (take (n*1) (drop 0 cs))) (2:Int) (asN (take 2 (drop 0 [Nc D2,Nc D3]))))) (asN (take 2 (drop 0 [Nc (BitVec.setWidth 64 x),Nc (BitVec.setWidth 64 y)])))) (BitVec.setWidth 64 (asU16 (gt AY (Bb s::as') 17)))) (BitVec.setWidth 64 (asU16 (gt AY (Bb t::bs) 17)))) : Ia X 83 0 Q (Ub Try.f83 6) (mkS 48 [(2,.one (.u32 x)),(3,.one (.u32 y)),(4,.one (.ptr 0 0)),(5,.one (.ptr 1 0)),(11,.one (.gs 2 n 1))]) [some (.b s::as'),some (.b t::bs),some cs] :=
 wR hX WPA3 ok83 [18,21] [(6,4),(100006,0),(200006,0)] [true] [(7,[2,3,4,5,11],[true,true,true])] h (by kernel_rfl)
theorem Spec.pad2 {P : Program} {f : FuncId} {xs : List AV} {R : AV → Mem → Prop} (h : Spec P f xs [] (fun r m => R r m ∨ (∃ c : AC, c.exact = true ∧ r = .Ec [.one .ns, .one c] ∧ m = [] ∧ R (.Ec [.one (.gs 0 0 1), .one c]) [some []]))) : Spec P f xs [] R := by
 intro X p vs hP hm ha
 refine (h X p vs hP hm ha).mono ?_
 rintro e w' ⟨v, r, m', p', rfl, k1, k2, k3, k4, k5⟩
 rcases k5 with k5 | ⟨c, hc, rfl, rfl, k5⟩
 ·exact ⟨v, r, m', p', rfl, k1, k2, k3, k4, k5⟩
 ·refine ⟨v, _, _, _, rfl, fun i hi => absurd hi (Nat.not_lt_zero _), Nat.zero_le _, ?_, k4.pad, k5⟩
  cases k3 with
  | Ec vs l hl k3 =>
   refine .Ec _ l hl fun j d hj => ?_
   match j, hj with
   | 0, hj =>
    simp only [List.getElem?_cons_zero, Option.some.injEq] at hj
    subst hj
    have := k3 0 (.one .ns) rfl
    generalize l.getD 0 undef = u at this ⊢
    cases this with
    | one _ _ h3 => cases h3; exact .one _ _ (.gsn 0 1)
   | 1, hj =>
    simp only [List.getElem?_cons_succ, List.getElem?_cons_zero, Option.some.injEq] at hj
    subst hj
    have := k3 1 (.one c) rfl
    generalize l.getD 1 undef = u at this ⊢
    cases this with
    | one _ _ h3 => exact .one _ _ (h3.exact_any hc _ _ _)
def enE (s : Bool) (a : List (BitVec 8)) (p:BitVec 16) : List AC := .b s :: (a.map U8 ++ [.u16 p])
def adB (s : Bool) (a : List (BitVec 8)) : List (BitVec 8) := a.take (adN s)
theorem adN_le (s : Bool) : adN s ≤ 16 := by cases s <;> decide
theorem adB_len {a : List (BitVec 8)} (ha : a.length = 16) (s : Bool) : (adB s a).length = adN s := by unfold adB; rw [List.length_take]; have := adN_le s; omega
def ctL (s : Bool) (a : List (BitVec 8)) (p:BitVec 16) (t : Bool) (b : List (BitVec 8)) (q:BitVec 16) (x y:BitVec 32) : List (BitVec 8) :=
 ptB (ptB (adB s a ++ adB t b) 2 [p.setWidth 64, q.setWidth 64]) 4 [x.setWidth 64, y.setWidth 64]
def ctX (s : Bool) (a : List (BitVec 8)) (p:BitVec 16) (t : Bool) (b : List (BitVec 8)) (q:BitVec 16) (x y:BitVec 32) : List (BitVec 8) := if s = t then ctL s a p t b q x y else []
def ctE (s t : Bool) : Int := if s = t then 0 else 1
theorem szN2 : szN 2 = 2 := by decide
theorem szN4 : szN 4 = 4 := by decide
theorem ctL_len {a b : List (BitVec 8)} (ha : a.length = 16) (hb : b.length = 16) (s t : Bool) (p q:BitVec 16) (x y:BitVec 32) : (ctL s a p t b q x y).length = adN s + adN t + 12 := by
 unfold ctL
 rw [ptB_len, ptB_len, List.length_append, adB_len ha, adB_len hb, szN2, szN4]
 simp only [List.length_cons, List.length_nil]
theorem g17 (s : Bool) {a : List (BitVec 8)} (ha : a.length = 16) (p:BitVec 16) : gt AY (.b s :: (a.map U8 ++ [.u16 p])) 17 = .u16 p := by
 rw [gt_eq, show (17:Nat) = 16 + 1 from rfl, List.getElem?_cons_succ, List.getElem?_append_right (by rw [List.length_map]; omega), List.length_map, ha]
 rfl
theorem t16e {a : List (BitVec 8)} (ha : a.length = 16) (p:BitVec 16) : take 16 (a.map U8 ++ [.u16 p]) = a.map U8 := by
 rw [List.take_append_of_le_length (by rw [List.length_map]; omega), List.take_of_length_le (by rw [List.length_map]; omega)]
theorem d1 (s : Bool) (l : List AC) : drop 1 (Bb s :: l) = l := rfl
theorem d0e (s : Bool) (l : List AC) : take 17 (drop 0 (Bb s :: l)) = Bb s :: take 16 l := rfl
theorem enE_flat (s : Bool) (a : List (BitVec 8)) (p:BitVec 16) : Flat (.b s :: (a.map U8 ++ [.u16 p])) := by
 intro c h
 rcases List.mem_cons.1 h with rfl | h
 ·rfl
 ·rcases List.mem_append.1 h with h | h
  ·exact Aa _ c h
  ·rw [List.mem_singleton.1 h]; rfl
theorem enB_exact (s : Bool) (a : List (BitVec 8)) : Qb (.b s :: a.map U8) := by
 intro c h
 rcases List.mem_cons.1 h with rfl | h
 ·rfl
 ·exact Ud _ c h
theorem tk2 (u v:BitVec 64) : take 2 (drop 0 [Nc u, Nc v]) = [u, v].map Nc := rfl
theorem tkL (l : List (BitVec 8)) (n:Nat) (h : l.length = n) : take (n * 1) (drop 0 (l.map U8)) = l.map U8 := by subst h; exact tk l
theorem flat_u64 (l : List (BitVec 64)) : Flat (l.map Nc) := flat_map _ (fun _ => rfl) l
theorem l82b {X : Ctx} (hX : X.P = Try.prog) (s t : Bool) (a b : List (BitVec 8)) (p q:BitVec 16) (x y:BitVec 32) (ha : a.length = 16) (hb : b.length = 16) (hst : s = t) :
  Ia X 82 0 (fun r m => Are (.Ec [.one (.gs 0 (ctX s a p t b q x y).length 1), .one (.i64 (ctE s t))]) [some ((ctX s a p t b q x y).map U8)] r m ∨ (∃ c : AC, c.exact = true ∧ r = .Ec [.one .ns, .one c] ∧ m = [] ∧ Are (.Ec [.one (.gs 0 (ctX s a p t b q x y).length 1), .one (.i64 (ctE s t))]) [some ((ctX s a p t b q x y).map U8)] (.Ec [.one (.gs 0 0 1), .one c]) [some []])) (Ub Try.f82 3) (mkS 42 [(2, .one (.u32 x)), (3, .one (.u32 y)), (4, .one (.ptr 0 0)), (5, .one (.ptr 1 0)), (10, .one (.gs 2 (adN s + adN t) 1))]) [some (.b s :: (a.map U8 ++ [.u16 p])), some (.b t :: (b.map U8 ++ [.u16 q])), some ((adB s a ++ adB t b).map U8)] := by
 have h1 := adB_len ha s
 have h2 := adB_len hb t
 have h3 := adN_le s
 have h4 := adN_le t
 have hc : (adB s a ++ adB t b).length = adN s + adN t := by rw [List.length_append, h1, h2]
 have hd : (ptB (adB s a ++ adB t b) 2 [p.setWidth 64, q.setWidth 64]).length = adN s + adN t + 4 := by
  rw [ptB_len, hc, szN2]; rfl
 have t1 := tkL _ _ hc
 have t2 := tkL _ _ hd
 have hL := ctL_len ha hb s t p q x y
 have eL : ctX s a p t b q x y = ctL s a p t b q x y := if_pos hst
 have eE : ctE s t = 0 := if_pos hst
 have fold : ptB (ptB (adB s a ++ adB t b) 2 [p.setWidth 64, q.setWidth 64]) 4 [x.setWidth 64, y.setWidth 64] = ctL s a p t b q x y := rfl
 refine vc82b hX _ _ _ _ _ _ _ _ ?_
 simp only [g17 s ha p, g17 t hb q, asU16, Ja, t1, tk2, asN_map, Ua, t2, fold, List.length_map, hc, hd, hL]
 clear t1 t2 fold
 (repeat' (first | exact trivial | exact enE_flat _ _ _ | exact Aa _ | exact flat_u64 _ | exact kflat _ _ | exact Ba _ | exact Ud _ | exact enB_exact _ _ | exact Nat.le_refl _ | refine And.intro ?_ ?_)) <;> first | omega | skip
 exact .inl ⟨by rw [eL, hL, eE], by rw [eL]⟩
theorem tka (s : Bool) {a : List (BitVec 8)} (ha : a.length = 16) : take (adN s * 1) (a.map U8) = (adB s a).map U8 := by unfold adB; rw [Nat.mul_one, List.map_take]
theorem s82 (s t : Bool) (a b : List (BitVec 8)) (p q:BitVec 16) (x y:BitVec 32) (ha : a.length = 16) (hb : b.length = 16) : Spec Try.prog 82 [.agg (enE s a p), .agg (enE t b q), .one (.u32 x), .one (.u32 y)] [] (Are (.Ec [.one (.gs 0 (ctX s a p t b q x y).length 1), .one (.i64 (ctE s t))]) [some ((ctX s a p t b q x y).map U8)]) := by
 refine Spec.pad2 (Spec.of_run ok82 fun X hX => vc82 hX _ _ _ _ _ _ ⟨fun h => ?_, fun h => ?_⟩)
 ·have hne : ¬ s = t := fun e => by subst e; simp at h
  exact .inr ⟨.i64 1, rfl, rfl, rfl, by unfold ctX ctE; rw [if_neg hne, if_neg hne]; exact ⟨rfl, rfl⟩⟩
 ·have hst : s = t := by simpa using h
  have K := l82b hX s t a b p q x y ha hb hst
  have h1 := adB_len ha s
  have h2 := adB_len hb t
  have h3 := adN_le s
  have h4 := adN_le t
  have e1 := t16e ha p
  have e2 := t16e hb q
  have e3 := tka s ha
  have e4 := tka t hb
  simp only [d0e, d1, e1, e2, e3, e4, ← List.map_append, List.length_map, List.length_cons, List.length_append, ha, hb, h1]
  clear e1 e2 e3 e4
  (repeat' (first | exact trivial | exact enE_flat _ _ _ | exact Aa _ | exact flat_u64 _ | exact kflat _ _ | exact Ba _ | exact Ud _ | exact enB_exact _ _ | exact Nat.le_refl _ | refine And.intro ?_ ?_)) <;> first | omega | skip
  all_goals first | exact ⟨K⟩ | (simp only [List.length_cons, List.length_nil, List.length_append, List.length_map]; omega)
theorem l83b {X : Ctx} (hX : X.P = Try.prog) (s t : Bool) (a b : List (BitVec 8)) (p q:BitVec 16) (x y:BitVec 32) (ha : a.length = 16) (hb : b.length = 16) (hst : s = t) (n:Nat) (hn : n = adN s + adN t) :
  Ia X 83 0 (fun r m => Are (.Ec [.one (.gs 0 (ctX s a p t b q x y).length 1), .one (.i64 (ctE s t))]) [some ((ctX s a p t b q x y).map U8)] r m ∨ (∃ c : AC, c.exact = true ∧ r = .Ec [.one .ns, .one c] ∧ m = [] ∧ Are (.Ec [.one (.gs 0 (ctX s a p t b q x y).length 1), .one (.i64 (ctE s t))]) [some ((ctX s a p t b q x y).map U8)] (.Ec [.one (.gs 0 0 1), .one c]) [some []])) (Ub Try.f83 6) (mkS 48 [(2, .one (.u32 x)), (3, .one (.u32 y)), (4, .one (.ptr 0 0)), (5, .one (.ptr 1 0)), (11, .one (.gs 2 n 1))]) [some (.b s :: (a.map U8 ++ [.u16 p])), some (.b t :: (b.map U8 ++ [.u16 q])), some ((adB s a ++ adB t b).map U8)] := by
 have h1 := adB_len ha s
 have h2 := adB_len hb t
 have h3 := adN_le s
 have h4 := adN_le t
 have hc : (adB s a ++ adB t b).length = n := by rw [List.length_append, h1, h2, hn]
 have hd : (ptB (adB s a ++ adB t b) 2 [p.setWidth 64, q.setWidth 64]).length = n + 4 := by
  rw [ptB_len, hc, szN2]; rfl
 have t1 := tkL _ _ hc
 have t2 := tkL _ _ hd
 have hL := ctL_len ha hb s t p q x y
 rw [← hn] at hL
 have eL : ctX s a p t b q x y = ctL s a p t b q x y := if_pos hst
 have eE : ctE s t = 0 := if_pos hst
 have fold : ptB (ptB (adB s a ++ adB t b) 2 [p.setWidth 64, q.setWidth 64]) 4 [x.setWidth 64, y.setWidth 64] = ctL s a p t b q x y := rfl
 refine vc83b hX _ _ _ _ _ _ _ _ ?_
 simp only [g17 s ha p, g17 t hb q, asU16, Ja, t1, tk2, asN_map, Ua, t2, fold, List.length_map, hc, hd, hL]
 clear t1 t2 fold
 (repeat' (first | exact trivial | exact enE_flat _ _ _ | exact Aa _ | exact flat_u64 _ | exact kflat _ _ | exact Ba _ | exact Ud _ | exact enB_exact _ _ | exact Nat.le_refl _ | refine And.intro ?_ ?_)) <;> first | omega | skip
 exact .inl ⟨by rw [eL, hL, eE], by rw [eL]⟩
theorem s83 (s t : Bool) (a b : List (BitVec 8)) (p q:BitVec 16) (x y:BitVec 32) (ha : a.length = 16) (hb : b.length = 16) : Spec Try.prog 83 [.agg (enE s a p), .agg (enE t b q), .one (.u32 x), .one (.u32 y)] [] (Are (.Ec [.one (.gs 0 (ctX s a p t b q x y).length 1), .one (.i64 (ctE s t))]) [some ((ctX s a p t b q x y).map U8)]) := by
 refine Spec.pad2 (Spec.of_run ok83 fun X hX => vc83 hX _ _ _ _ _ _ ⟨fun h => ?_, fun h => ⟨fun hs => ?_, fun hs => ?_⟩⟩)
 ·have hne : ¬ s = t := fun e => by subst e; simp at h
  exact .inr ⟨.i64 1, rfl, rfl, rfl, by unfold ctX ctE; rw [if_neg hne, if_neg hne]; exact ⟨rfl, rfl⟩⟩
 ·have hst : s = t := by simpa using h
  subst hs
  subst hst
  have K := l83b hX true true a b p q x y ha hb rfl 32 rfl
  have e1 : take 16 (a.map U8 ++ [.u16 p]) = (adB true a).map U8 := by rw [t16e ha]; unfold adB; rw [List.take_of_length_le (by rw [ha]; exact Nat.le_refl _)]
  have e2 : take 16 (b.map U8 ++ [.u16 q]) = (adB true b).map U8 := by rw [t16e hb]; unfold adB; rw [List.take_of_length_le (by rw [hb]; exact Nat.le_refl _)]
  have h1 : (adB true a).length = 16 := adB_len ha true
  simp only [d1, e1, e2, ← List.map_append, List.length_map, List.length_cons, List.length_append, ha, hb, h1]
  clear e1 e2
  (repeat' (first | exact trivial | exact enE_flat _ _ _ | exact Aa _ | exact flat_u64 _ | exact kflat _ _ | exact Ba _ | exact Ud _ | exact enB_exact _ _ | exact Nat.le_refl _ | refine And.intro ?_ ?_)) <;> first | omega | skip
  all_goals first | exact ⟨K⟩ | (simp only [List.length_cons, List.length_nil, List.length_append, List.length_map]; omega)
 ·have hst : s = t := by simpa using h
  subst hs
  subst hst
  have K := l83b hX false false a b p q x y ha hb rfl 8 rfl
  have e1 : take 4 (a.map U8 ++ [.u16 p]) = (adB false a).map U8 := by rw [List.take_append_of_le_length (by rw [List.length_map]; omega)]; unfold adB; rw [List.map_take]; rfl
  have e2 : take 4 (b.map U8 ++ [.u16 q]) = (adB false b).map U8 := by rw [List.take_append_of_le_length (by rw [List.length_map]; omega)]; unfold adB; rw [List.map_take]; rfl
  have h1 : (adB false a).length = 4 := adB_len ha false
  simp only [d1, e1, e2, ← List.map_append, List.length_map, List.length_cons, List.length_append, ha, hb, h1]
  clear e1 e2
  (repeat' (first | exact trivial | exact enE_flat _ _ _ | exact Aa _ | exact flat_u64 _ | exact kflat _ _ | exact Ba _ | exact Ud _ | exact enB_exact _ _ | exact Nat.le_refl _ | refine And.intro ?_ ?_)) <;> first | omega | skip
  all_goals first | exact ⟨K⟩ | (simp only [List.length_cons, List.length_nil, List.length_append, List.length_map]; omega)
def sE (cs : List AC) : Bool := asB (gt AY cs 0)
def bE (cs : List AC) : List (BitVec 8) := (take 16 (drop 1 cs)).map Ea
def pE (cs : List AC) : BitVec 16 := asU16 (gt AY cs 17)
structure IsE (cs : List AC) : Prop where
 eq : cs = enE (sE cs) (bE cs) (pE cs)
 len : (bE cs).length = 16
theorem sE_en (s : Bool) (a : List (BitVec 8)) (p:BitVec 16) : sE (enE s a p) = s := rfl
theorem bE_en (s : Bool) {a : List (BitVec 8)} (ha : a.length = 16) (p:BitVec 16) : bE (enE s a p) = a := by
 unfold bE enE
 rw [d1, t16e ha, Ua]
theorem pE_en (s : Bool) {a : List (BitVec 8)} (ha : a.length = 16) (p:BitVec 16) : pE (enE s a p) = p := by
 unfold pE enE
 rw [g17 s ha]
 rfl
theorem isE_en (s : Bool) {a : List (BitVec 8)} (ha : a.length = 16) (p:BitVec 16) : IsE (enE s a p) := by
 refine ⟨?_, ?_⟩
 ·rw [sE_en, bE_en s ha, pE_en s ha]
 ·rw [bE_en s ha]; exact ha
def ctC (cs ds : List AC) (x y:BitVec 32) : List (BitVec 8) := ctX (sE cs) (bE cs) (pE cs) (sE ds) (bE ds) (pE ds) x y
noncomputable def M19 : Ad := fun f xs m => match f, xs, m with
 | 82, [.agg cs, .agg ds, .one (.u32 x), .one (.u32 y)], [] => some ([IsE cs ∧ IsE ds], .Ec [.one (.gs 0 (ctC cs ds x y).length 1), .one (.i64 (ctE (sE cs) (sE ds)))], [some (hide ((ctC cs ds x y).map U8))])
 | 83, [.agg cs, .agg ds, .one (.u32 x), .one (.u32 y)], [] => some ([IsE cs ∧ IsE ds], .Ec [.one (.gs 0 (ctC cs ds x y).length 1), .one (.i64 (ctE (sE cs) (sE ds)))], [some (hide ((ctC cs ds x y).map U8))])
 | f, xs, m => M18 f xs m
noncomputable def mf19 : FuncId → Option MF := fun f => match f with
 | 82 => some { cs := { kinds := [], fl := [] }, flo := [true], fresh := true }
 | 83 => some { cs := { kinds := [], fl := [] }, flo := [true], fresh := true }
 | f => mf18 f
theorem M19_ok : Xc Try.prog M19 := by
 intro f xs m0 cs r m1 h hc
 unfold M19 at h
 split at h
 ·simp only [Option.some.injEq, Prod.mk.injEq] at h; obtain ⟨rfl, rfl, rfl⟩ := h
  rename_i cs ds x y
  obtain ⟨h1, h2⟩ := hc.1
  have := s82 (sE cs) (sE ds) (bE cs) (bE ds) (pE cs) (pE ds) x y h1.len h2.len
  rw [← h1.eq, ← h2.eq] at this
  rw [Ja]
  exact ⟨⟨_, _, ok82⟩, this⟩
 ·simp only [Option.some.injEq, Prod.mk.injEq] at h; obtain ⟨rfl, rfl, rfl⟩ := h
  rename_i cs ds x y
  obtain ⟨h1, h2⟩ := hc.1
  have := s83 (sE cs) (sE ds) (bE cs) (bE ds) (pE cs) (pE ds) x y h1.len h2.len
  rw [← h1.eq, ← h2.eq] at this
  rw [Ja]
  exact ⟨⟨_, _, ok83⟩, this⟩
 ·exact M18_ok _ _ _ _ _ _ h hc
def WPA4 : WC := ⟨envP T24 mf19 M19,envP_ok T24 mf19 M19,Ed T24_ok M19_ok⟩
theorem vc76 {X} {Q : QT} (hX : PX X) (a:Int) (mr cr : List AC) (m c:Nat) (h : (fun D1 : BitVec 64=>(fun D0 : List (BitVec 64)=>(decide ((↑(kszF a):Int)=(0:Int))=true->Q (TU [O1 NS,O1 (I64 (11:Int))]) [])/\(decide ((↑(kszF a):Int)=(0:Int))=false->(decide ((↑m:Int)=(0:Int))=true->Q (TU [O1 NS,O1 (I64 (1:Int))]) [])/\(decide ((↑m:Int)=(0:Int))=false->(decide ((80:Int)<(↑m:Int))=true->Q (TU [O1 NS,O1 (I64 (1:Int))]) [])/\(decide ((80:Int)<(↑m:Int))=false->1<=7/\1<=1/\Flat (take 1 (drop 0 [Nc D1]))/\(Oa []/\0=0/\0<=100000000/\take 1 (drop 0 [Nc D1])=List.map Nc D0/\1=1/\1<=1000000)/\Qb (hide (List.map U8 (ptB (List.map Ea []) (2:Int) D0)))/\Flat [Zc (Value.int IntKind.u8 1),Zc (Value.int IntKind.u8 84),Zc (Value.int IntKind.u8 67),Zc (Value.int IntKind.u8 80),Zc (Value.int IntKind.u8 45),Zc (Value.int IntKind.u8 65),Zc (Value.int IntKind.u8 79)]/\Flat (hide (List.map U8 (ptB (List.map Ea []) (2:Int) D0)))/\KR X 76 0 Q (Ub Try.f76 6) (mkS 51 [(0,O1 (I64 a)),(1,O1 (XS mr 0 m)),(2,O1 (XS cr 0 c)),(9,O1 (GS 0 7 1)),(10,O1 (GS 1 2 1))]) [some [U8 (BitVec.ofInt 8 1),U8 (BitVec.ofInt 8 84),U8 (BitVec.ofInt 8 67),U8 (BitVec.ofInt 8 80),U8 (BitVec.ofInt 8 45),U8 (BitVec.ofInt 8 65),U8 (BitVec.ofInt 8 79)],some (hide (List.map U8 (ptB (List.map Ea []) (2:Int) D0)))])))) (asN (take 1 (drop 0 [Nc D1])))) (BitVec.ofInt 64 (↑(kszF a):Int)*BitVec.ofInt 64 8)) : Ia X 76 0 Q ([.code (Na Try.f76)]) (slots [.one (.i64 a),.one (.xs mr 0 m),.one (.xs cr 0 c)] Try.f76.ntmps) [] :=
 wR hX WPA4 ok76 [17,21,25,35] [(100006,0)] [true] [(7,[0,1,2,9,10],[true,true])] h (by kernel_rfl)
theorem vc76b {X} {Q : QT} (hX : PX X) (a:Int) (mr cr hr tr : List AC) (m c kh t:Nat) (h : (fun D2 : List (BitVec 8)=>(fun D1 : List (BitVec 8)=>(fun D0 : List (BitVec 8)=>(fun L0 : Prop=>(decide (a=(1:Int))=true->0+m*1<=List.length mr/\3<=3/\0+kh*1<=List.length hr/\Flat (take (kh*1) (drop 0 hr))/\0+c*1<=List.length cr/\0+t*1<=List.length tr/\Flat (take (t*1) (drop 0 tr))/\(Oa (take (m*1) (drop 0 mr))/\List.length (take (m*1) (drop 0 mr))=m/\m<=1000000/\L0)/\(List.length (hide (List.map U8 D1))=20/\20<=20)/\((0:Int)<=(↑0:Int)/\(↑0:Int)<=(↑20:Int)/\(↑20:Int)<=(↑20:Int))/\Flat (Qa (replicate 20 (U8 0)) 0 (hide (List.map U8 D1)))/\Q (TU [O1 (SV 0 0 20),O1 (I64 (0:Int))]) [some (Qa (replicate 20 (U8 0)) 0 (hide (List.map U8 D1)))])/\(decide (a=(1:Int))=false->0+m*1<=List.length mr/\(Oa (take (m*1) (drop 0 mr))/\List.length (take (m*1) (drop 0 mr))=m/\m<=1000000)/\Flat (hide (List.map U8 (blkA D2)))/\3<=3/\0+kh*1<=List.length hr/\Flat (take (kh*1) (drop 0 hr))/\0+c*1<=List.length cr/\0+t*1<=List.length tr/\Flat (take (t*1) (drop 0 tr))/\(Oa (hide (List.map U8 (blkA D2)))/\List.length (hide (List.map U8 (blkA D2)))=16/\L0)/\(List.length (hide (List.map U8 D0))=16/\16<=16)/\((0:Int)<=(↑0:Int)/\(↑0:Int)<=(↑16:Int)/\(↑16:Int)<=(↑16:Int))/\Flat (Qa (replicate 16 (U8 0)) 0 (hide (List.map U8 D0)))/\Q (TU [O1 (SV 0 0 16),O1 (I64 (0:Int))]) [some (Qa (replicate 16 (U8 0)) 0 (hide (List.map U8 D0)))])) ([XS (take (kh*1) (drop 0 hr)) 0 kh,XS (take (c*1) (drop 0 cr)) 0 c,XS (take (t*1) (drop 0 tr)) 0 t]=List.map encP (List.map asP [XS (take (kh*1) (drop 0 hr)) 0 kh,XS (take (c*1) (drop 0 cr)) 0 c,XS (take (t*1) (drop 0 tr)) 0 t])/\3=3/\3<=1000000)) (cmF (List.map Ea (hide (List.map U8 (blkA D2)))) (List.flatten (List.map asP [XS (take (kh*1) (drop 0 hr)) 0 kh,XS (take (c*1) (drop 0 cr)) 0 c,XS (take (t*1) (drop 0 tr)) 0 t])))) (hmF D2 (List.flatten (List.map asP [XS (take (kh*1) (drop 0 hr)) 0 kh,XS (take (c*1) (drop 0 cr)) 0 c,XS (take (t*1) (drop 0 tr)) 0 t])))) (List.map Ea (take (m*1) (drop 0 mr)))) : Ia X 76 0 Q (Ub Try.f76 6) (mkS 51 [(0,.one (.i64 a)),(1,.one (.xs mr 0 m)),(2,.one (.xs cr 0 c)),(9,.one (.gs 0 kh 1)),(10,.one (.gs 1 t 1))]) [some hr,some tr] :=
 wR hX WPA4 ok76 [17,21,25,35] [(100006,0)] [true] [(7,[0,1,2,9,10],[true,true])] h (by kernel_rfl)
theorem vc77 {X} {Q : QT} (hX : PX X) (a:Int) (mr cr : List AC) (m c:Nat) (h : (fun D1 : BitVec 64=>(fun D0 : List (BitVec 64)=>(decide ((↑(kszF a):Int)=(0:Int))=true->Q (TU [O1 NS,O1 (I64 (11:Int))]) [])/\(decide ((↑(kszF a):Int)=(0:Int))=false->(decide ((↑m:Int)<(1:Int))=true->Q (TU [O1 NS,O1 (I64 (1:Int))]) [])/\(decide ((↑m:Int)<(1:Int))=false->(decide ((80:Int)<(↑m:Int))=true->Q (TU [O1 NS,O1 (I64 (1:Int))]) [])/\(decide ((80:Int)<(↑m:Int))=false->(7<=140737488355328/\7<=4611686018427387904)/\1=1/\0+c*1<=List.length cr/\((7+c)*1<=140737488355328/\7+c<=4611686018427387904)/\7=7/\La ((8:Int)*(↑(kszF a):Int))/\0+(7+c)*1<=List.length ([Zc (Value.int IntKind.u8 1)]++List.map U8 (List.map UInt8.toBitVec (Array.toList (ByteArray.data { data := #[(84 : UInt8),(67 : UInt8),(80 : UInt8),(45 : UInt8),(65 : UInt8),(79 : UInt8)] })))++take (c*1) (drop 0 cr))/\Flat (take ((7+c)*1) (drop 0 ([Zc (Value.int IntKind.u8 1)]++List.map U8 (List.map UInt8.toBitVec (Array.toList (ByteArray.data { data := #[(84 : UInt8),(67 : UInt8),(80 : UInt8),(45 : UInt8),(65 : UInt8),(79 : UInt8)] })))++take (c*1) (drop 0 cr))))/\1<=1/\Flat (take 1 (drop 0 [Nc D1]))/\(Oa (take ((7+c)*1) (drop 0 ([Zc (Value.int IntKind.u8 1)]++List.map U8 (List.map UInt8.toBitVec (Array.toList (ByteArray.data { data := #[(84 : UInt8),(67 : UInt8),(80 : UInt8),(45 : UInt8),(65 : UInt8),(79 : UInt8)] })))++take (c*1) (drop 0 cr))))/\List.length (take ((7+c)*1) (drop 0 ([Zc (Value.int IntKind.u8 1)]++List.map U8 (List.map UInt8.toBitVec (Array.toList (ByteArray.data { data := #[(84 : UInt8),(67 : UInt8),(80 : UInt8),(45 : UInt8),(65 : UInt8),(79 : UInt8)] })))++take (c*1) (drop 0 cr))))=7+c/\7+c<=100000000/\take 1 (drop 0 [Nc D1])=List.map Nc D0/\1=1/\1<=1000000)/\Qb (hide (List.map U8 (ptB (List.map Ea (take ((7+c)*1) (drop 0 ([Zc (Value.int IntKind.u8 1)]++List.map U8 (List.map UInt8.toBitVec (Array.toList (ByteArray.data { data := #[(84 : UInt8),(67 : UInt8),(80 : UInt8),(45 : UInt8),(65 : UInt8),(79 : UInt8)] })))++take (c*1) (drop 0 cr))))) (2:Int) D0)))/\Flat (hide (List.map U8 (ptB (List.map Ea (take ((7+c)*1) (drop 0 ([Zc (Value.int IntKind.u8 1)]++List.map U8 (List.map UInt8.toBitVec (Array.toList (ByteArray.data { data := #[(84 : UInt8),(67 : UInt8),(80 : UInt8),(45 : UInt8),(65 : UInt8),(79 : UInt8)] })))++take (c*1) (drop 0 cr))))) (2:Int) D0)))/\KR X 77 0 Q (Ub Try.f77 7) (mkS 55 [(0,O1 (I64 a)),(1,O1 (XS mr 0 m)),(8,O1 (GS 0 (7+c+2) 1))]) [some (hide (List.map U8 (ptB (List.map Ea (take ((7+c)*1) (drop 0 ([Zc (Value.int IntKind.u8 1)]++List.map U8 (List.map UInt8.toBitVec (Array.toList (ByteArray.data { data := #[(84 : UInt8),(67 : UInt8),(80 : UInt8),(45 : UInt8),(65 : UInt8),(79 : UInt8)] })))++take (c*1) (drop 0 cr))))) (2:Int) D0)))])))) (asN (take 1 (drop 0 [Nc D1])))) (BitVec.ofInt 64 ((8:Int)*(↑(kszF a):Int)))) : Ia X 77 0 Q ([.code (Na Try.f77)]) (slots [.one (.i64 a),.one (.xs mr 0 m),.one (.xs cr 0 c)] Try.f77.ntmps) [] :=
 wR hX WPA4 ok77 [14,17,21,36,46] [(100007,0)] [true] [(8,[0,1,8],[true])] h (by kernel_rfl)
theorem vc77b {X} {Q : QT} (hX : PX X) (a:Int) (mr hr : List AC) (m kh:Nat) (h : (fun D3 : List (BitVec 8)=>(fun D2 : List (BitVec 8)=>(fun D1 : List (BitVec 8)=>(fun D0 : List AC=>(decide (a=(1:Int))=true->0+m*1<=List.length mr/\0+kh*1<=List.length hr/\Flat (take (kh*1) (drop 0 hr))/\(Oa (take (m*1) (drop 0 mr))/\List.length (take (m*1) (drop 0 mr))=m/\m<=1000000/\Oa (take (kh*1) (drop 0 hr))/\List.length (take (kh*1) (drop 0 hr))=kh/\kh<=900000)/\(List.length (hide (List.map U8 (hmF D3 D2)))=20/\20<=20)/\((0:Int)<=(↑0:Int)/\(↑0:Int)<=(↑20:Int)/\(↑20:Int)<=(↑20:Int))/\20<=List.length (Qa (replicate 20 (U8 0)) 0 (hide (List.map U8 (hmF D3 D2))))/\(20<=140737488355328/\20<=4611686018427387904)/\Flat (take 20 (drop 0 (Qa (replicate 20 (U8 0)) 0 (hide (List.map U8 (hmF D3 D2))))))/\Q (TU [O1 (GS 0 20 1),O1 (I64 (0:Int))]) [some (take 20 (drop 0 (Qa (replicate 20 (U8 0)) 0 (hide (List.map U8 (hmF D3 D2))))))])/\(decide (a=(1:Int))=false->0+m*1<=List.length mr/\(Oa (take (m*1) (drop 0 mr))/\List.length (take (m*1) (drop 0 mr))=m/\m<=1000000)/\(List.length (hide (List.map U8 (sxF D3)))=16/\16<=16)/\((!decide ((↑m:Int)=(16:Int)))=true->Flat (replicate 16 (U8 0))/\0+m*1<=List.length mr/\(Oa (replicate 16 (U8 0))/\16=16/\Oa (take (m*1) (drop 0 mr))/\List.length (take (m*1) (drop 0 mr))=m/\m<=1000000)/\(List.length (hide (List.map U8 D1))=16/\16<=List.length D0)/\16<=List.length (Qa D0 0 (hide (List.map U8 D1)))/\Flat (take 16 (drop 0 (Qa D0 0 (hide (List.map U8 D1)))))/\0+kh*1<=List.length hr/\Flat (take (kh*1) (drop 0 hr))/\(Oa (take 16 (drop 0 (Qa D0 0 (hide (List.map U8 D1)))))/\List.length (take 16 (drop 0 (Qa D0 0 (hide (List.map U8 D1)))))=16/\Oa (take (kh*1) (drop 0 hr))/\List.length (take (kh*1) (drop 0 hr))=kh/\kh<=1000000)/\(List.length (hide (List.map U8 (cmF (List.map Ea (take 16 (drop 0 (Qa D0 0 (hide (List.map U8 D1)))))) D2)))=16/\16<=16)/\((0:Int)<=(↑0:Int)/\(↑0:Int)<=(↑16:Int)/\(↑16:Int)<=(↑16:Int))/\16<=List.length (Qa (replicate 16 (U8 0)) 0 (hide (List.map U8 (cmF (List.map Ea (take 16 (drop 0 (Qa D0 0 (hide (List.map U8 D1)))))) D2))))/\(16<=140737488355328/\16<=4611686018427387904)/\Flat (take 16 (drop 0 (Qa (replicate 16 (U8 0)) 0 (hide (List.map U8 (cmF (List.map Ea (take 16 (drop 0 (Qa D0 0 (hide (List.map U8 D1)))))) D2))))))/\Q (TU [O1 (GS 0 16 1),O1 (I64 (0:Int))]) [some (take 16 (drop 0 (Qa (replicate 16 (U8 0)) 0 (hide (List.map U8 (cmF (List.map Ea (take 16 (drop 0 (Qa D0 0 (hide (List.map U8 D1)))))) D2))))))])/\((!decide ((↑m:Int)=(16:Int)))=false->16<=List.length D0/\Flat (take 16 (drop 0 D0))/\0+kh*1<=List.length hr/\Flat (take (kh*1) (drop 0 hr))/\(Oa (take 16 (drop 0 D0))/\List.length (take 16 (drop 0 D0))=16/\Oa (take (kh*1) (drop 0 hr))/\List.length (take (kh*1) (drop 0 hr))=kh/\kh<=1000000)/\(List.length (hide (List.map U8 (cmF (List.map Ea (take 16 (drop 0 D0))) D2)))=16/\16<=16)/\((0:Int)<=(↑0:Int)/\(↑0:Int)<=(↑16:Int)/\(↑16:Int)<=(↑16:Int))/\16<=List.length (Qa (replicate 16 (U8 0)) 0 (hide (List.map U8 (cmF (List.map Ea (take 16 (drop 0 D0))) D2))))/\(16<=140737488355328/\16<=4611686018427387904)/\Flat (take 16 (drop 0 (Qa (replicate 16 (U8 0)) 0 (hide (List.map U8 (cmF (List.map Ea (take 16 (drop 0 D0))) D2))))))/\Q (TU [O1 (GS 0 16 1),O1 (I64 (0:Int))]) [some (take 16 (drop 0 (Qa (replicate 16 (U8 0)) 0 (hide (List.map U8 (cmF (List.map Ea (take 16 (drop 0 D0))) D2))))))]))) (Qa (replicate 16 (U8 0)) 0 (hide (List.map U8 (sxF D3))))) (cmF (List.map Ea (replicate 16 (U8 0))) D3)) (List.map Ea (take (kh*1) (drop 0 hr)))) (List.map Ea (take (m*1) (drop 0 mr)))) : Ia X 77 0 Q (Ub Try.f77 7) (mkS 55 [(0,.one (.i64 a)),(1,.one (.xs mr 0 m)),(8,.one (.gs 0 kh 1))]) [some hr] :=
 wR hX WPA4 ok77 [14,17,21,36,46] [(100007,0)] [true] [(8,[0,1,8],[true])] h (by kernel_rfl)
theorem vc80 {X} {Q : QT} (hX : PX X) (a:Int) (kr pr : List AC) (k n:Nat) (h : (fun D3 : List (BitVec 8)=>(fun D2 : List (BitVec 8)=>(fun D1 : List AC=>(fun D0 : List AC=>(fun L0 : Prop=>(decide ((↑(kszF a):Int)=(0:Int))=true->(12=12/\12<=12)/\12<=12/\Za (AG (replicate 12 (U8 0)))/\Za (O1 (I64 (11:Int)))/\Q (TU [AG (replicate 12 (U8 0)),O1 (I64 (11:Int))]) [])/\(decide ((↑(kszF a):Int)=(0:Int))=false->((!decide ((↑k:Int)=(↑(kszF a):Int)))=true->(12=12/\12<=12)/\12<=12/\Za (AG (replicate 12 (U8 0)))/\Za (O1 (I64 (1:Int)))/\Q (TU [AG (replicate 12 (U8 0)),O1 (I64 (1:Int))]) [])/\((!decide ((↑k:Int)=(↑(kszF a):Int)))=false->(decide (a=(1:Int))=true->0+k*1<=List.length kr/\0+n*1<=List.length pr/\(Oa (take (k*1) (drop 0 kr))/\List.length (take (k*1) (drop 0 kr))=k/\k<=1000000/\L0)/\(List.length (hide (List.map U8 D3))=12/\12<=12)/\12<=List.length D1/\Za (AG (take 12 (drop 0 D1)))/\Za (O1 (I64 (0:Int)))/\Q (TU [AG (take 12 (drop 0 D1)),O1 (I64 (0:Int))]) [])/\(decide (a=(1:Int))=false->16<=k/\16<=List.length kr/\Flat (take 16 (drop 0 kr))/\0+n*1<=List.length pr/\(Oa (take 16 (drop 0 kr))/\List.length (take 16 (drop 0 kr))=16/\L0)/\(List.length (hide (List.map U8 D2))=12/\12<=12)/\12<=List.length D0/\Za (AG (take 12 (drop 0 D0)))/\Za (O1 (I64 (0:Int)))/\Q (TU [AG (take 12 (drop 0 D0)),O1 (I64 (0:Int))]) [])))) (take (n*1) (drop 0 pr)=List.map encP (List.map asP (take (n*1) (drop 0 pr)))/\List.length (take (n*1) (drop 0 pr))=n/\n<=1000000)) (Qa (replicate 12 (U8 0)) 0 (hide (List.map U8 D2)))) (Qa (replicate 12 (U8 0)) 0 (hide (List.map U8 D3)))) (sh12 (cmF (List.map Ea (take 16 (drop 0 kr))) (List.flatten (List.map asP (take (n*1) (drop 0 pr))))))) (shF (List.map Ea (take (k*1) (drop 0 kr))) (List.flatten (List.map asP (take (n*1) (drop 0 pr)))))) : Ia X 80 0 Q ([.code (Na Try.f80)]) (slots [.one (.i64 a),.one (.xs kr 0 k),.one (.xs pr 0 n)] Try.f80.ntmps) [] :=
 wR' hX WPA4 ok80 [13,19,23] [] false (CS.mk [] [] [0,1] []) true [] 2000 h (by kernel_rfl)
theorem Spec.pad3 {P : Program} {f : FuncId} {xs : List AV} {R : AV → Mem → Prop} (h : Spec P f xs [] (fun r m => R r m ∨ (∃ c : AC, c.exact = true ∧ r = .Ec [.one .ns, .one c] ∧ m = [] ∧ R (.Ec [.one (.sv 0 0 0), .one c]) [some []]) ∨ (∃ (c : AC) (n:Nat), c.exact = true ∧ r = .Ec [.one (.gs 0 n 1), .one c] ∧ R (.Ec [.one (.sv 0 0 n), .one c]) m))) : Spec P f xs [] R := by
 intro X p vs hP hm ha
 refine (h X p vs hP hm ha).mono ?_
 rintro e w' ⟨v, r, m', p', rfl, k1, k2, k3, k4, k5⟩
 rcases k5 with k5 | ⟨c, hc, rfl, rfl, k5⟩ | ⟨c, n, hc, rfl, k5⟩
 ·exact ⟨v, r, m', p', rfl, k1, k2, k3, k4, k5⟩
 ·refine ⟨v, _, _, _, rfl, fun i hi => absurd hi (Nat.not_lt_zero _), Nat.zero_le _, ?_, k4.pad, k5⟩
  cases k3 with
  | Ec vs l hl k3 =>
   refine .Ec _ l hl fun j d hj => ?_
   match j, hj with
   | 0, hj =>
    simp only [List.getElem?_cons_zero, Option.some.injEq] at hj
    subst hj
    have := k3 0 (.one .ns) rfl
    generalize l.getD 0 undef = u at this ⊢
    cases this with
    | one _ _ h3 => cases h3; exact .one _ _ (.svn 0 0)
   | 1, hj =>
    simp only [List.getElem?_cons_succ, List.getElem?_cons_zero, Option.some.injEq] at hj
    subst hj
    have := k3 1 (.one c) rfl
    generalize l.getD 1 undef = u at this ⊢
    cases this with
    | one _ _ h3 => exact .one _ _ (h3.exact_any hc _ _ _)
 ·refine ⟨v, _, m', p', rfl, k1, k2, ?_, k4, k5⟩
  cases k3 with
  | Ec vs l hl k3 =>
   refine .Ec _ l hl fun j d hj => ?_
   match j, hj with
   | 0, hj =>
    simp only [List.getElem?_cons_zero, Option.some.injEq] at hj
    subst hj
    have := k3 0 (.one (.gs 0 n 1)) rfl
    generalize l.getD 0 undef = u at this ⊢
    cases this with
    | one _ _ h3 =>
     cases h3 with
     | gs _ _ _ c' h1 h2 _ => exact .one _ _ (.sv 0 0 n c' _ 0 h2 (.inr ⟨h1, rfl, rfl⟩))
     | gsn => exact .one _ _ (.svn 0 0)
   | 1, hj =>
    simp only [List.getElem?_cons_succ, List.getElem?_cons_zero, Option.some.injEq] at hj
    subst hj
    have := k3 1 (.one c) rfl
    generalize l.getD 1 undef = u at this ⊢
    cases this with
    | one _ _ h3 => exact .one _ _ (h3.exact_any hc _ _ _)
def tlK (a:Int) : List (BitVec 8) := ptB [] 2 [BitVec.ofInt 64 (kszF a:Int) * BitVec.ofInt 64 8]
theorem tlK_len (a:Int) : (tlK a).length = 2 := by unfold tlK; rw [ptB_len, szN2]; rfl
theorem hd7_len : hd7.length = 7 := Nat.le_antisymm (Nat.le_refl _) (Nat.le_refl _)
def inK (a:Int) (c : List (BitVec 8)) : List (BitVec 8) := hd7 ++ (c ++ tlK a)
theorem inK_ref (a:Int) (c : List (BitVec 8)) : ptB (hd7 ++ c) 2 [BitVec.ofInt 64 (8 * (kszF a:Int))] = inK a c := by
 unfold inK tlK ptB
 rw [BitVec.ofInt_mul, BitVec.mul_comm, List.append_assoc, List.nil_append]
def keyB (a:Int) (m c : List (BitVec 8)) : List (BitVec 8) := if kszF a = 0 then [] else if m.length = 0 ∨ 80 < m.length then [] else if a = 1 then hmF m (inK a c) else cmF (blkA m) (inK a c)
def keyE (a:Int) (m : List (BitVec 8)) : Int := if kszF a = 0 then 11 else if m.length = 0 ∨ 80 < m.length then 1 else 0
theorem tk1 (u:BitVec 64) : take 1 (drop 0 [Nc u]) = [u].map Nc := rfl
theorem hdr1 : [U8 (BitVec.ofInt 8 1), U8 (BitVec.ofInt 8 84), U8 (BitVec.ofInt 8 67), U8 (BitVec.ofInt 8 80), U8 (BitVec.ofInt 8 45), U8 (BitVec.ofInt 8 65), U8 (BitVec.ofInt 8 79)] = hd7.map U8 := rfl
theorem hdr2 : [Zc (Value.int IntKind.u8 1), Zc (Value.int IntKind.u8 84), Zc (Value.int IntKind.u8 67), Zc (Value.int IntKind.u8 80), Zc (Value.int IntKind.u8 45), Zc (Value.int IntKind.u8 65), Zc (Value.int IntKind.u8 79)] = hd7.map U8 := rfl
theorem l76b {X : Ctx} (hX : X.P = Try.prog) (a:Int) (m c : List (BitVec 8)) (h0 : kszF a ≠ 0) (hm : ¬ (m.length = 0 ∨ 80 < m.length)) (hc : c.length ≤ 1000) :
  Ia X 76 0 (fun r' m' => Are (.Ec [.one (.sv 0 0 (keyB a m c).length), .one (.i64 (keyE a m))]) [some ((keyB a m c).map U8)] r' m' ∨ (∃ c' : AC, c'.exact = true ∧ r' = .Ec [.one .ns, .one c'] ∧ m' = [] ∧ Are (.Ec [.one (.sv 0 0 (keyB a m c).length), .one (.i64 (keyE a m))]) [some ((keyB a m c).map U8)] (.Ec [.one (.sv 0 0 0), .one c']) [some []]) ∨ (∃ (c' : AC) (n:Nat), c'.exact = true ∧ r' = .Ec [.one (.gs 0 n 1), .one c'] ∧ Are (.Ec [.one (.sv 0 0 (keyB a m c).length), .one (.i64 (keyE a m))]) [some ((keyB a m c).map U8)] (.Ec [.one (.sv 0 0 n), .one c']) m')) (Ub Try.f76 6) (mkS 51 [(0, .one (.i64 a)), (1, .one (.xs (m.map U8) 0 m.length)), (2, .one (.xs (c.map U8) 0 c.length)), (9, .one (.gs 0 7 1)), (10, .one (.gs 1 2 1))]) [some (hd7.map U8), some ((tlK a).map U8)] := by
 have h7 := tkL hd7 7 hd7_len
 have ht := tkL (tlK a) 2 (tlK_len a)
 have p3 : List.map asP [XS (hd7.map U8) 0 7, XS (c.map U8) 0 c.length, XS ((tlK a).map U8) 0 2] = [hd7, c, tlK a] := by
  simp only [List.map_cons, List.map_nil, asP, Td, Ua]
 have e3 : List.map encP [hd7, c, tlK a] = [XS (hd7.map U8) 0 7, XS (c.map U8) 0 c.length, XS ((tlK a).map U8) 0 2] := by
  simp only [List.map_cons, List.map_nil, encP, hd7_len, tlK_len]
 have f3 : List.flatten [hd7, c, tlK a] = inK a c := by
  unfold inK
  simp only [List.flatten_cons, List.flatten_nil, List.append_nil]
 have hE : keyE a m = 0 := by unfold keyE; rw [if_neg h0, if_neg hm]
 have hh := hmF_len m (inK a c)
 have hcm := cmF_len (blkA m) (inK a c)
 have hb := blkA_len m
 have l1 : Qa (replicate 20 (U8 0)) 0 ((hmF m (inK a c)).map U8) = (hmF m (inK a c)).map U8 := Ae _ _ hh
 have l2 : Qa (replicate 16 (U8 0)) 0 ((cmF (blkA m) (inK a c)).map U8) = (cmF (blkA m) (inK a c)).map U8 := Ae _ _ hcm
 refine vc76b hX _ _ _ _ _ _ _ _ _ ⟨fun h => ?_, fun h => ?_⟩
 ·have h := of_decide_eq_true h
  have hB : keyB a m c = hmF m (inK a c) := by unfold keyB; rw [if_neg h0, if_neg hm, if_pos h]
  rw [tk m, tk c, h7, ht]
  simp only [p3, e3, f3, Ja, Ua, l1, List.length_map, hd7_len, tlK_len, hh]
  clear p3 e3 f3 l1 l2 h7 ht
  rw [← hB]
  rw [← hB] at hh
  (repeat' (first | exact trivial | exact Aa _ | exact flat_u64 _ | exact Ba _ | exact Ud _ | exact Nat.le_refl _ | refine And.intro ?_ ?_)) <;> first | omega | skip
  exact .inl ⟨by rw [hh, hE], rfl⟩
 ·have h := of_decide_eq_false h
  have hB : keyB a m c = cmF (blkA m) (inK a c) := by unfold keyB; rw [if_neg h0, if_neg hm, if_neg h]
  rw [tk m, tk c, h7, ht]
  simp only [p3, e3, f3, Ja, Ua, l2, List.length_map, hd7_len, tlK_len, hcm, hb]
  clear p3 e3 f3 l1 l2 h7 ht
  rw [← hB]
  rw [← hB] at hcm
  (repeat' (first | exact trivial | exact Aa _ | exact flat_u64 _ | exact Ba _ | exact Ud _ | exact Nat.le_refl _ | refine And.intro ?_ ?_)) <;> first | omega | skip
  exact .inl ⟨by rw [hcm, hE], rfl⟩
theorem s76 (a:Int) (m c : List (BitVec 8)) (hc : c.length ≤ 1000) : Spec Try.prog 76 [.one (.i64 a), .one (.xs (m.map U8) 0 m.length), .one (.xs (c.map U8) 0 c.length)] [] (Are (.Ec [.one (.sv 0 0 (keyB a m c).length), .one (.i64 (keyE a m))]) [some ((keyB a m c).map U8)]) := by
 refine Spec.pad3 (Spec.of_run ok76 fun X hX => vc76 hX _ _ _ _ _ ⟨fun h => ?_, fun h => ⟨fun h1 => ?_, fun h1 => ⟨fun h2 => ?_, fun h2 => ?_⟩⟩⟩)
 ·have h0 : kszF a = 0 := by have := of_decide_eq_true h; omega
  exact .inr (.inl ⟨.i64 11, rfl, rfl, rfl, by unfold keyB keyE; rw [if_pos h0, if_pos h0]; exact ⟨rfl, rfl⟩⟩)
 ·have h0 : ¬ kszF a = 0 := by have := of_decide_eq_false h; omega
  have h1 : m.length = 0 ∨ 80 < m.length := by have := of_decide_eq_true h1; omega
  exact .inr (.inl ⟨.i64 1, rfl, rfl, rfl, by unfold keyB keyE; rw [if_neg h0, if_pos h1, if_neg h0, if_pos h1]; exact ⟨rfl, rfl⟩⟩)
 ·have h0 : ¬ kszF a = 0 := by have := of_decide_eq_false h; omega
  have h1 : m.length = 0 ∨ 80 < m.length := by have := of_decide_eq_true h2; omega
  exact .inr (.inl ⟨.i64 1, rfl, rfl, rfl, by unfold keyB keyE; rw [if_neg h0, if_pos h1, if_neg h0, if_pos h1]; exact ⟨rfl, rfl⟩⟩)
 ·have h0 : ¬ kszF a = 0 := by have := of_decide_eq_false h; omega
  have hm : ¬ (m.length = 0 ∨ 80 < m.length) := by have := of_decide_eq_false h1; have := of_decide_eq_false h2; omega
  have K := l76b hX a m c h0 hm hc
  have ht := tlK_len a
  have fold : ptB [] 2 [BitVec.ofInt 64 (kszF a:Int) * BitVec.ofInt 64 8] = tlK a := rfl
  have a0 : Oa [] := rfl
  simp only [tk1, asN_map, List.map_nil, Ja, fold, hdr1, hdr2, List.length_map, ht]
  clear fold
  (repeat' (first | exact trivial | exact a0 | exact Aa _ | exact flat_u64 _ | exact Ba _ | exact Ud _ | exact Nat.le_refl _ | refine And.intro ?_ ?_)) <;> first | omega | skip
  exact ⟨K⟩
theorem l77b {X : Ctx} (hX : X.P = Try.prog) (a:Int) (m c : List (BitVec 8)) (h0 : kszF a ≠ 0) (hm : ¬ (m.length = 0 ∨ 80 < m.length)) (hc : c.length ≤ 1000) (n:Nat) (hn : n = (inK a c).length) :
  Ia X 77 0 (fun r' m' => Are (.Ec [.one (.sv 0 0 (keyB a m c).length), .one (.i64 (keyE a m))]) [some ((keyB a m c).map U8)] r' m' ∨ (∃ c' : AC, c'.exact = true ∧ r' = .Ec [.one .ns, .one c'] ∧ m' = [] ∧ Are (.Ec [.one (.sv 0 0 (keyB a m c).length), .one (.i64 (keyE a m))]) [some ((keyB a m c).map U8)] (.Ec [.one (.sv 0 0 0), .one c']) [some []]) ∨ (∃ (c' : AC) (n:Nat), c'.exact = true ∧ r' = .Ec [.one (.gs 0 n 1), .one c'] ∧ Are (.Ec [.one (.sv 0 0 (keyB a m c).length), .one (.i64 (keyE a m))]) [some ((keyB a m c).map U8)] (.Ec [.one (.sv 0 0 n), .one c']) m')) (Ub Try.f77 7) (mkS 55 [(0, .one (.i64 a)), (1, .one (.xs (m.map U8) 0 m.length)), (8, .one (.gs 0 n 1))]) [some ((inK a c).map U8)] := by
 have ht := tkL (inK a c) n hn.symm
 have hE : keyE a m = 0 := by unfold keyE; rw [if_neg h0, if_neg hm]
 have hi : (inK a c).length = 9 + c.length := by unfold inK; rw [List.length_append, List.length_append, hd7_len, tlK_len]; omega
 have hh := hmF_len m (inK a c)
 have hcm := cmF_len (blkA m) (inK a c)
 have hb := blkA_len m
 have hx := sxF_len m
 have hz := cmF_len z16k m
 have ez : List.map Ea (replicate 16 (U8 0)) = z16k := rfl
 have az : Oa (replicate 16 (U8 0)) := by rw [Jd]; exact Ba _
 have z : Flat (replicate 16 (U8 0)) := by rw [Jd]; exact Aa _
 have l1 : Qa (replicate 20 (U8 0)) 0 ((hmF m (inK a c)).map U8) = (hmF m (inK a c)).map U8 := Ae _ _ hh
 have l2 : Qa (replicate 16 (U8 0)) 0 ((cmF (blkA m) (inK a c)).map U8) = (cmF (blkA m) (inK a c)).map U8 := Ae _ _ hcm
 have l3 : Qa (replicate 16 (U8 0)) 0 ((sxF m).map U8) = (sxF m).map U8 := Ae _ _ hx
 have l4 : Qa ((sxF m).map U8) 0 ((cmF z16k m).map U8) = (cmF z16k m).map U8 := layM _ _ (by omega)
 have t1 : (hmF m (inK a c)).take 20 = hmF m (inK a c) := List.take_of_length_le (by omega)
 have t2 : (cmF (blkA m) (inK a c)).take 16 = cmF (blkA m) (inK a c) := List.take_of_length_le (by omega)
 have t3 : (sxF m).take 16 = sxF m := List.take_of_length_le (by omega)
 have t4 : (cmF z16k m).take 16 = cmF z16k m := List.take_of_length_le (by omega)
 refine vc77b hX _ _ _ _ _ ⟨fun h => ?_, fun h => ?_⟩
 ·have h := of_decide_eq_true h
  have hB : keyB a m c = hmF m (inK a c) := by unfold keyB; rw [if_neg h0, if_neg hm, if_pos h]
  rw [tk m, ht]
  simp only [Ja, Ua, l1, tk0, List.drop_zero, t1, List.length_map, hh]
  clear l1 l2 l3 l4 t1 t2 t3 t4 ht
  rw [← hB]
  rw [← hB] at hh
  (repeat' (first | exact trivial | exact Aa _ | exact flat_u64 _ | exact Ba _ | exact Ud _ | exact Nat.le_refl _ | refine And.intro ?_ ?_)) <;> first | omega | skip
  exact .inr (.inr ⟨.i64 0, 20, rfl, rfl, by rw [hh, hE], rfl⟩)
 ·have h := of_decide_eq_false h
  have hB : keyB a m c = cmF (blkA m) (inK a c) := by unfold keyB; rw [if_neg h0, if_neg hm, if_neg h]
  rw [tk m, ht]
  simp only [Ja, Ua, l3, ez, l4, tk0, List.drop_zero, t3, t4, List.length_map, List.length_replicate, hx, hz]
  have fin16 : ∀ (h16 : m.length = 16), sxF m = blkA m := fun h16 => by rw [sxF_16 h16]; exact (if_pos h16).symm
  have fin0 : ∀ (h16 : ¬ m.length = 16), cmF z16k m = blkA m := fun h16 => (if_neg h16).symm
  (repeat' (first | exact trivial | exact az | exact z | exact Aa _ | exact Ba _ | exact Ud _ | exact Nat.le_refl _ | refine And.intro ?_ ?_)) <;> first | omega | skip
  ·intro h16
   have h16 : ¬ m.length = 16 := by have := not_dec h16; omega
   rw [fin0 h16]
   simp only [l2, t2, tk0, List.length_map, hcm, hb]
   clear l1 l2 l3 l4 t1 t2 t3 t4 ht
   rw [← hB]
   rw [← hB] at hcm
   (repeat' (first | exact trivial | exact az | exact z | exact Aa _ | exact Ba _ | exact Ud _ | exact Nat.le_refl _ | refine And.intro ?_ ?_)) <;> first | omega | skip
   exact .inr (.inr ⟨.i64 0, 16, rfl, rfl, by rw [hcm, hE], rfl⟩)
  ·intro h16
   have h16 : m.length = 16 := by have := is_dec h16; omega
   rw [fin16 h16]
   simp only [l2, t2, tk0, List.length_map, hcm, hb]
   clear l1 l2 l3 l4 t1 t2 t3 t4 ht
   rw [← hB]
   rw [← hB] at hcm
   (repeat' (first | exact trivial | exact az | exact z | exact Aa _ | exact Ba _ | exact Ud _ | exact Nat.le_refl _ | refine And.intro ?_ ?_)) <;> first | omega | skip
   exact .inr (.inr ⟨.i64 0, 16, rfl, rfl, by rw [hcm, hE], rfl⟩)
theorem s77 (a:Int) (m c : List (BitVec 8)) (hc : c.length ≤ 1000) : Spec Try.prog 77 [.one (.i64 a), .one (.xs (m.map U8) 0 m.length), .one (.xs (c.map U8) 0 c.length)] [] (Are (.Ec [.one (.sv 0 0 (keyB a m c).length), .one (.i64 (keyE a m))]) [some ((keyB a m c).map U8)]) := by
 refine Spec.pad3 (Spec.of_run ok77 fun X hX => vc77 hX _ _ _ _ _ ⟨fun h => ?_, fun h => ⟨fun h1 => ?_, fun h1 => ⟨fun h2 => ?_, fun h2 => ?_⟩⟩⟩)
 ·have h0 : kszF a = 0 := by have := of_decide_eq_true h; omega
  exact .inr (.inl ⟨.i64 11, rfl, rfl, rfl, by unfold keyB keyE; rw [if_pos h0, if_pos h0]; exact ⟨rfl, rfl⟩⟩)
 ·have h0 : ¬ kszF a = 0 := by have := of_decide_eq_false h; omega
  have h1 : m.length = 0 ∨ 80 < m.length := by have := of_decide_eq_true h1; omega
  exact .inr (.inl ⟨.i64 1, rfl, rfl, rfl, by unfold keyB keyE; rw [if_neg h0, if_pos h1, if_neg h0, if_pos h1]; exact ⟨rfl, rfl⟩⟩)
 ·have h0 : ¬ kszF a = 0 := by have := of_decide_eq_false h; omega
  have h1 : m.length = 0 ∨ 80 < m.length := by have := of_decide_eq_true h2; omega
  exact .inr (.inl ⟨.i64 1, rfl, rfl, rfl, by unfold keyB keyE; rw [if_neg h0, if_pos h1, if_neg h0, if_pos h1]; exact ⟨rfl, rfl⟩⟩)
 ·have h0 : ¬ kszF a = 0 := by have := of_decide_eq_false h; omega
  have hm : ¬ (m.length = 0 ∨ 80 < m.length) := by have := of_decide_eq_false h1; have := of_decide_eq_false h2; omega
  have hi : (inK a c).length = 7 + c.length + 2 := by unfold inK; rw [List.length_append, List.length_append, hd7_len, tlK_len]; omega
  have K := l77b hX a m c h0 hm hc _ hi.symm
  have hk : kszF a ≤ 20 := by
   unfold kszF
   split
   ·omega
   ·split <;> omega
  have eh : [Zc (Value.int IntKind.u8 1)] ++ List.map U8 (List.map UInt8.toBitVec (Array.toList (ByteArray.data { data := #[(84 : UInt8), (67 : UInt8), (80 : UInt8), (45 : UInt8), (65 : UInt8), (79 : UInt8)] }))) = hd7.map U8 := by kernel_rfl
  have h7c : (hd7 ++ c).length = 7 + c.length := by rw [List.length_append, hd7_len]
  have ht := tkL (hd7 ++ c) (7 + c.length) h7c
  have hr := inK_ref a c
  rw [eh, tk c, ← List.map_append, ht]
  simp only [tk1, asN_map, Ja, Ua, hr, List.length_map, h7c, hi]
  clear hr ht
  (repeat' (first | exact trivial | exact Aa _ | exact flat_u64 _ | exact Ba _ | exact Ud _ | exact Nat.le_refl _ | refine And.intro ?_ ?_)) <;> first | omega | skip
  all_goals first | (unfold La; omega) | (rw [List.length_map]; omega) | exact ⟨K⟩
end DH
