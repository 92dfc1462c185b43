/- Walks of functions, each by evaluation: what each returns; with the layer beneath. -/
import Derived.Test.YtfmadmaioccpcaaU1
import Derived.Test.YtfmadmaioccpcaaTr2
set_option linter.unusedVariables false
set_option linter.unusedSimpArgs false
namespace DH
open Go
/-! A ring of bytes, plainly. -/
abbrev BL := List (BitVec 8)
def lay8 (l : BL) (o : Nat) (x : BL) : BL := l.take o ++ x ++ l.drop (o + x.length)
def ct (g : BL) (b n : Nat) : BL := (g.drop b ++ g.take b).take n
structure RgOk (g : BL) (b n : Nat) : Prop where
  n_le : n ≤ g.length
  b_lt : b < g.length ∨ (g.length = 0 ∧ b = 0)
  r_le : g.length ≤ 8192
def pk (B : BL) (o k : Int) : BL := if o < 0 ∨ k < 0 then [] else (B.drop o.toNat).take k.toNat
def wrM (g : BL) (n : Nat) (p : BL) : Nat := min p.length (g.length - n)
def wrK (g : BL) (b n : Nat) (p : BL) : Nat := min (wrM g n p) (g.length - (b + n) % g.length)
def wrR (g : BL) (b n : Nat) (p : BL) : BL := lay8 (lay8 g ((b + n) % g.length) (p.take (wrK g b n p))) 0 ((p.take (wrM g n p)).drop (wrK g b n p))
theorem ct_len {g : BL} {b n : Nat} (h : RgOk g b n) : (ct g b n).length = n := by
  unfold ct
  rw [List.length_take, List.length_append, List.length_drop, List.length_take]
  have := h.n_le
  have := h.b_lt
  omega
theorem mod2 {x R : Nat} (h : x < 2 * R) : x % R = if x < R then x else x - R := by
  split
  · exact Nat.mod_eq_of_lt (by omega)
  · rw [Nat.mod_eq_sub_mod (by omega)]
    exact Nat.mod_eq_of_lt (by omega)
theorem ct_get {g : BL} {b n j : Nat} (h : RgOk g b n) (hj : j < n) : (ct g b n).getD j 0 = g.getD (if b + j < g.length then b + j else b + j - g.length) 0 := by
  have := h.n_le
  have := h.b_lt
  unfold ct
  rw [List.getD_eq_getElem?_getD, List.getD_eq_getElem?_getD, List.getElem?_take_of_lt hj]
  congr 1
  split
  · rw [List.getElem?_append_left (by rw [List.length_drop]; omega), List.getElem?_drop]
  · rw [List.getElem?_append_right (by rw [List.length_drop]; omega), List.length_drop, List.getElem?_take_of_lt (by omega)]
    congr 1
    omega
theorem ext8 {a b : BL} (hl : a.length = b.length) (h : ∀ j, j < a.length → a.getD j 0 = b.getD j 0) : a = b := by
  refine List.ext_getElem hl fun j h1 h2 => ?_
  have := h j h1
  rw [List.getD_eq_getElem?_getD, List.getD_eq_getElem?_getD, List.getElem?_eq_getElem h1, List.getElem?_eq_getElem h2] at this
  exact this
theorem getD_app (a b : BL) (j : Nat) : (a ++ b).getD j 0 = if j < a.length then a.getD j 0 else b.getD (j - a.length) 0 := by
  split
  · rw [List.getD_eq_getElem?_getD, List.getD_eq_getElem?_getD, List.getElem?_append_left (by omega)]
  · rw [List.getD_eq_getElem?_getD, List.getD_eq_getElem?_getD, List.getElem?_append_right (by omega)]
theorem getD_take (a : BL) (n j : Nat) : (a.take n).getD j 0 = if j < n then a.getD j 0 else 0 := by
  split
  · rw [List.getD_eq_getElem?_getD, List.getD_eq_getElem?_getD, List.getElem?_take_of_lt (by omega)]
  · rw [List.getD_eq_getElem?_getD, List.getElem?_eq_none (by rw [List.length_take]; omega)]; rfl
theorem getD_drop (a : BL) (n j : Nat) : (a.drop n).getD j 0 = a.getD (n + j) 0 := by
  rw [List.getD_eq_getElem?_getD, List.getD_eq_getElem?_getD, List.getElem?_drop]
theorem lay8_len {g x : BL} {o : Nat} (h : o + x.length ≤ g.length) : (lay8 g o x).length = g.length := by
  unfold lay8
  rw [List.length_append, List.length_append, List.length_take, List.length_drop]
  omega
theorem lay8_get {g x : BL} {o : Nat} (h : o + x.length ≤ g.length) (j : Nat) : (lay8 g o x).getD j 0 = if o ≤ j ∧ j < o + x.length then x.getD (j - o) 0 else g.getD j 0 := by
  unfold lay8
  rw [getD_app, getD_app, getD_take, getD_drop, List.length_append, List.length_take]
  have e : min o g.length = o := by omega
  rw [e]
  split
  · split
    · rw [if_neg (by omega)]
    · rw [if_pos (by omega)]
  · rw [if_neg (by omega)]
    congr 1
    omega
theorem pk_ring {g : BL} {b n o k : Nat} (h : RgOk g b n) (ho : o < n) :
    (g.drop ((b + o) % g.length)).take (min (g.length - (b + o) % g.length) (min k (n - o))) ++ g.take (min k (n - o) - min (g.length - (b + o) % g.length) (min k (n - o))) = ((ct g b n).drop o).take k := by
  have h1 := h.n_le
  have h2 := h.b_lt
  have hm : (b + o) % g.length < g.length := Nat.mod_lt _ (by omega)
  have hm2 := mod2 (x := b + o) (R := g.length) (by omega)
  generalize (b + o) % g.length = at_ at *
  refine ext8 ?_ fun j hj => ?_
  · rw [List.length_append, List.length_take, List.length_drop, List.length_take, List.length_take, List.length_drop, ct_len h]
    omega
  · rw [List.length_append, List.length_take, List.length_drop, List.length_take] at hj
    rw [getD_app, getD_take, getD_drop, getD_take, getD_take, getD_drop, ct_get h (by omega), List.length_take, List.length_drop]
    rw [if_pos (show j < k by omega)]
    split
    · rw [if_pos (by omega)]
      congr 1
      split at hm2 <;> split <;> omega
    · rw [if_pos (by omega)]
      congr 1
      split at hm2 <;> split <;> omega
theorem wrR_len {g : BL} {b n : Nat} (p : BL) (h : RgOk g b n) (h0 : 0 < g.length) : (wrR g b n p).length = g.length := by
  have hm : (b + n) % g.length < g.length := Nat.mod_lt _ h0
  have a1 : (b + n) % g.length + (p.take (wrK g b n p)).length ≤ g.length := by
    rw [List.length_take]; unfold wrK; omega
  have a2 : 0 + ((p.take (wrM g n p)).drop (wrK g b n p)).length ≤ (lay8 g ((b + n) % g.length) (p.take (wrK g b n p))).length := by
    rw [lay8_len a1, List.length_drop, List.length_take]; unfold wrM; omega
  unfold wrR
  rw [lay8_len a2, lay8_len a1]
theorem wrR_ct {g : BL} {b n : Nat} (p : BL) (h : RgOk g b n) (h0 : 0 < g.length) : RgOk (wrR g b n p) b (n + wrM g n p) ∧ ct (wrR g b n p) b (n + wrM g n p) = ct g b n ++ p.take (wrM g n p) := by
  have hl := wrR_len p h h0
  have h1 := h.n_le
  have h2 := h.b_lt
  have hm : (b + n) % g.length < g.length := Nat.mod_lt _ h0
  have hM : wrM g n p ≤ g.length - n := Nat.min_le_right _ _
  have hM2 : wrM g n p ≤ p.length := Nat.min_le_left _ _
  have ok : RgOk (wrR g b n p) b (n + wrM g n p) := ⟨by rw [hl]; omega, by rw [hl]; omega, by rw [hl]; exact h.r_le⟩
  refine ⟨ok, ext8 ?_ fun j hj => ?_⟩
  · rw [ct_len ok, List.length_append, ct_len h, List.length_take]
    omega
  · rw [ct_len ok] at hj
    rw [ct_get ok hj, hl, getD_app, ct_len h, getD_take]
    have a1 : (b + n) % g.length + (p.take (wrK g b n p)).length ≤ g.length := by
      rw [List.length_take]; unfold wrK; omega
    have a2 : 0 + ((p.take (wrM g n p)).drop (wrK g b n p)).length ≤ (lay8 g ((b + n) % g.length) (p.take (wrK g b n p))).length := by
      rw [lay8_len a1, List.length_drop, List.length_take]; omega
    unfold wrR
    rw [lay8_get a2, lay8_get a1, getD_drop, getD_take, getD_take, List.length_drop, List.length_take, List.length_take]
    have hK : wrK g b n p = min (wrM g n p) (g.length - (b + n) % g.length) := rfl
    have hm2 := mod2 (x := b + n) (R := g.length) (by omega)
    generalize wrK g b n p = K at *
    generalize wrM g n p = M at *
    generalize (b + n) % g.length = at_ at *
    have lim : b + j < 2 * g.length := by omega
    by_cases hjn : j < n
    · rw [if_pos hjn, ct_get h hjn]
      have n1 : ¬ (0 ≤ (if b + j < g.length then b + j else b + j - g.length) ∧ (if b + j < g.length then b + j else b + j - g.length) < 0 + (min M p.length - K)) := by
        split at hm2 <;> split <;> omega
      have n2 : ¬ (at_ ≤ (if b + j < g.length then b + j else b + j - g.length) ∧ (if b + j < g.length then b + j else b + j - g.length) < at_ + min K p.length) := by
        split at hm2 <;> split <;> omega
      rw [if_neg n1, if_neg n2]
    · rw [if_neg hjn, if_pos (show j - n < M by omega)]
      by_cases hw : at_ + (j - n) < g.length
      · have e : (if b + j < g.length then b + j else b + j - g.length) = at_ + (j - n) := by
          split at hm2 <;> split <;> omega
        rw [e, if_neg (by omega), if_pos (by omega), if_pos (by omega)]
        congr 1
        omega
      · have e : (if b + j < g.length then b + j else b + j - g.length) = at_ + (j - n) - g.length := by
          split at hm2 <;> split <;> omega
        rw [e, if_pos (by omega), if_pos (by omega)]
        congr 1
        omega
theorem dr_ct {g : BL} {b n k : Nat} (h : RgOk g b n) (h0 : 0 < g.length) (hk : k ≤ n) : RgOk g ((b + k) % g.length) (n - k) ∧ ct g ((b + k) % g.length) (n - k) = (ct g b n).drop k := by
  have h1 := h.n_le
  have h2 := h.b_lt
  have hm : (b + k) % g.length < g.length := Nat.mod_lt _ h0
  have ok : RgOk g ((b + k) % g.length) (n - k) := ⟨by omega, .inl hm, h.r_le⟩
  refine ⟨ok, ext8 ?_ fun j hj => ?_⟩
  · rw [ct_len ok, List.length_drop, ct_len h]
  · rw [ct_len ok] at hj
    rw [ct_get ok hj, getD_drop, ct_get h (by omega)]
    have hm2 := mod2 (x := b + k) (R := g.length) (by omega)
    generalize (b + k) % g.length = at_ at *
    congr 1
    split at hm2 <;> split <;> split <;> omega
end DH

noncomputable section
namespace DH
open Go Go.Proofs
theorem ok3 : FnOk Try.prog 3 Try.f3 (bodyOf Try.f3) := .of Try.func3 (by kernel_rfl) (by kernel_rfl)
theorem ok4 : FnOk Try.prog 4 Try.f4 (bodyOf Try.f4) := .of Try.func4 (by kernel_rfl) (by kernel_rfl)
theorem ok5 : FnOk Try.prog 5 Try.f5 (bodyOf Try.f5) := .of Try.func5 (by kernel_rfl) (by kernel_rfl)
theorem ok6 : FnOk Try.prog 6 Try.f6 (bodyOf Try.f6) := .of Try.func6 (by kernel_rfl) (by kernel_rfl)
theorem ok7 : FnOk Try.prog 7 Try.f7 (bodyOf Try.f7) := .of Try.func7 (by kernel_rfl) (by kernel_rfl)
theorem ok8 : FnOk Try.prog 8 Try.f8 (bodyOf Try.f8) := .of Try.func8 (by kernel_rfl) (by kernel_rfl)
theorem ok9 : FnOk Try.prog 9 Try.f9 (bodyOf Try.f9) := .of Try.func9 (by kernel_rfl) (by kernel_rfl)
theorem ok10 : FnOk Try.prog 10 Try.f10 (bodyOf Try.f10) := .of Try.func10 (by kernel_rfl) (by kernel_rfl)
theorem ok11 : FnOk Try.prog 11 Try.f11 (bodyOf Try.f11) := .of Try.func11 (by kernel_rfl) (by kernel_rfl)
theorem ok12 : FnOk Try.prog 12 Try.f12 (bodyOf Try.f12) := .of Try.func12 (by kernel_rfl) (by kernel_rfl)
theorem ok13 : FnOk Try.prog 13 Try.f13 (bodyOf Try.f13) := .of Try.func13 (by kernel_rfl) (by kernel_rfl)
theorem ok14 : FnOk Try.prog 14 Try.f14 (bodyOf Try.f14) := .of Try.func14 (by kernel_rfl) (by kernel_rfl)
theorem ok15 : FnOk Try.prog 15 Try.f15 (bodyOf Try.f15) := .of Try.func15 (by kernel_rfl) (by kernel_rfl)
theorem ok16 : FnOk Try.prog 16 Try.f16 (bodyOf Try.f16) := .of Try.func16 (by kernel_rfl) (by kernel_rfl)
theorem ok17 : FnOk Try.prog 17 Try.f17 (bodyOf Try.f17) := .of Try.func17 (by kernel_rfl) (by kernel_rfl)
theorem ok18 : FnOk Try.prog 18 Try.f18 (bodyOf Try.f18) := .of Try.func18 (by kernel_rfl) (by kernel_rfl)
theorem ok19 : FnOk Try.prog 19 Try.f19 (bodyOf Try.f19) := .of Try.func19 (by kernel_rfl) (by kernel_rfl)
def symB (_ : TypeId) : Bool := false
noncomputable def baseB (T : Tab) (mf : FuncId → Option MF) (M : TabM) : Env := ⟨tys, symB, false, T, [], mf, M, fun _ => none⟩
theorem baseB_ok (T : Tab) (mf : FuncId → Option MF) (M : TabM) : EnvOk Try.prog (baseB T mf M) := EnvOk.of tysOk
theorem baseB_call {T : Tab} {mf : FuncId → Option MF} {M : TabM} (hT : TabOk Try.prog T) (hM : TabMOk Try.prog M) : CallOk Try.prog (baseB T mf M) :=
  ⟨hT, fun f mf xs m0 cs r m1 _ h hc => hM f xs m0 cs r m1 h hc, fun f k h => by cases h⟩
noncomputable def T0 : Tab := fun _ _ => none
theorem T0_ok : TabOk Try.prog T0 := fun f xs cs r h => by cases h
noncomputable def M0 : TabM := fun _ _ _ => none
theorem M0_ok : TabMOk Try.prog M0 := fun f xs m cs r m1 h => by cases h
noncomputable def mf0 : FuncId → Option MF := fun _ => none
set_option maxRecDepth 100000 in
theorem vc19 {X : Ctx} {Q : AV → Mem → Prop} (hX : X.P = Try.prog) (row : List AC) (R : Nat) (b n : Int) (h : ((!false) = true → AC.xs row 0 R = AC.xs (xsRow (AC.xs row 0 R)) (xsOff (AC.xs row 0 R)) (xsLen (AC.xs row 0 R)) ∧ Q (AV.one (AC.b (decide ((0 : Int) < (↑(xsLen (AC.xs row 0 R)) : Int))))) []) ∧ ((!false) = false → Q (AV.one (AC.b false)) [])) : KRun X 19 0 Q ([.code (bodyOf Try.f19)]) (slots [.one (.xp [.xs row 0 R, .i64 b, .i64 n] 0)] Try.f19.ntmps) [] :=
  wpRun_ok (hX ▸ baseB_ok T0 mf0 M0) (hX ▸ baseB_call T0_ok M0_ok) (hX ▸ mixed) (hX ▸ ok19) LK_ok (cast (β := wpRun (baseB T0 mf0 M0) [4] [] false (RS.mk Try.f19.results.toList 0 (CS.mk [] [] [] [])) (LK X 19 0 Q true []) Q 2000 ([.code (bodyOf Try.f19)]) (slots [.one (.xp [.xs row 0 R, .i64 b, .i64 n] 0)] Try.f19.ntmps) []) (by kernel_rfl) h)
set_option maxRecDepth 100000 in
theorem vc19n {X : Ctx} {Q : AV → Mem → Prop} (hX : X.P = Try.prog)  (h : ((!true) = true → False) ∧ ((!true) = false → Q (AV.one (AC.b false)) [])) : KRun X 19 0 Q ([.code (bodyOf Try.f19)]) (slots [.one .np] Try.f19.ntmps) [] :=
  wpRun_ok (hX ▸ baseB_ok T0 mf0 M0) (hX ▸ baseB_call T0_ok M0_ok) (hX ▸ mixed) (hX ▸ ok19) LK_ok (cast (β := wpRun (baseB T0 mf0 M0) [4] [] false (RS.mk Try.f19.results.toList 0 (CS.mk [] [] [] [])) (LK X 19 0 Q true []) Q 2000 ([.code (bodyOf Try.f19)]) (slots [.one .np] Try.f19.ntmps) []) (by kernel_rfl) h)
set_option maxRecDepth 100000 in
theorem vc10 {X : Ctx} {Q : AV → Mem → Prop} (hX : X.P = Try.prog) (row : List AC) (n : Nat) (h : ((0 : Int) ≤ (↑0 : Int) ∧ (↑0 : Int) ≤ min (↑n : Int) (150 : Int) ∧ min (↑n : Int) (150 : Int) ≤ (↑n : Int)) ∧ Q (AV.one (AC.xs row 0 (Int.toNat (min (↑n : Int) (150 : Int)) - 0))) []) : KRun X 10 0 Q ([.code (bodyOf Try.f10)]) (slots [.one (.xs row 0 n)] Try.f10.ntmps) [] :=
  wpRun_ok (hX ▸ baseB_ok T0 mf0 M0) (hX ▸ baseB_call T0_ok M0_ok) (hX ▸ mixed) (hX ▸ ok10) LK_ok (cast (β := wpRun (baseB T0 mf0 M0) [] [] false (RS.mk Try.f10.results.toList 0 (CS.mk [] [] [] [])) (LK X 10 0 Q true []) Q 2000 ([.code (bodyOf Try.f10)]) (slots [.one (.xs row 0 n)] Try.f10.ntmps) []) (by kernel_rfl) h)
set_option maxRecDepth 100000 in
theorem vc6 {X : Ctx} {Q : AV → Mem → Prop} (hX : X.P = Try.prog) (n : Int) (h : (decide (n < (1 : Int)) = true → Q (AV.tup [AV.one AC.np, AV.one (AC.i64 (1 : Int))]) []) ∧ (decide (n < (1 : Int)) = false → (decide ((8192 : Int) < n) = true → Q (AV.tup [AV.one AC.np, AV.one (AC.i64 (1 : Int))]) []) ∧ (decide ((8192 : Int) < n) = false → ((0 : Int) ≤ n ∧ n ≤ n ∧ n * (↑1 : Int) ≤ (140737488355328 : Int) ∧ n < (4611686018427387904 : Int)) ∧ Flat (zeros [AC.u8 (0 : BitVec 8)] (Int.toNat n)) ∧ Q (AV.tup [AV.one (AC.ptr 0 0), AV.one (AC.i64 (0 : Int))]) [some [AC.gs 1 (Int.toNat n) 1, AC.i64 (0 : Int), AC.i64 (0 : Int)], some (zeros [AC.u8 (0 : BitVec 8)] (Int.toNat n))]))) : KRun X 6 0 Q ([.code (bodyOf Try.f6)]) (slots [.one (.i64 n)] Try.f6.ntmps) [] :=
  wpRun_ok (hX ▸ baseB_ok T0 mf0 M0) (hX ▸ baseB_call T0_ok M0_ok) (hX ▸ mixed) (hX ▸ ok6) LK_ok (cast (β := wpRun (baseB T0 mf0 M0) [5, 8] [] false (RS.mk Try.f6.results.toList 0 (CS.mk [] [false] [] [])) (LK X 6 0 Q true []) Q 2000 ([.code (bodyOf Try.f6)]) (slots [.one (.i64 n)] Try.f6.ntmps) []) (by kernel_rfl) h)
set_option maxRecDepth 100000 in
theorem vc7 {X : Ctx} {Q : AV → Mem → Prop} (hX : X.P = Try.prog) (n : Int) (h : (decide (n < (1 : Int)) = true → flatAV (AV.agg [AC.i64 (0 : Int), AC.ns]) ∧ Q (AV.tup [AV.agg [AC.i64 (0 : Int), AC.ns], AV.one (AC.i64 (1 : Int))]) []) ∧ (decide (n < (1 : Int)) = false → (decide ((8192 : Int) < n) = true → flatAV (AV.agg [AC.i64 (0 : Int), AC.ns]) ∧ Q (AV.tup [AV.agg [AC.i64 (0 : Int), AC.ns], AV.one (AC.i64 (1 : Int))]) []) ∧ (decide ((8192 : Int) < n) = false → flatAV (AV.agg [AC.i64 n, AC.ns]) ∧ Q (AV.tup [AV.agg [AC.i64 n, AC.ns], AV.one (AC.i64 (0 : Int))]) []))) : KRun X 7 0 Q ([.code (bodyOf Try.f7)]) (slots [.one (.i64 n)] Try.f7.ntmps) [] :=
  wpRun_ok (hX ▸ baseB_ok T0 mf0 M0) (hX ▸ baseB_call T0_ok M0_ok) (hX ▸ mixed) (hX ▸ ok7) LK_ok (cast (β := wpRun (baseB T0 mf0 M0) [5, 8] [] false (RS.mk Try.f7.results.toList 0 (CS.mk [] [] [0] [])) (LK X 7 0 Q true []) Q 2000 ([.code (bodyOf Try.f7)]) (slots [.one (.i64 n)] Try.f7.ntmps) []) (by kernel_rfl) h)
theorem s19 (row : List AC) (R : Nat) (b n : Int) : Spec Try.prog 19 [.one (.xp [.xs row 0 R, .i64 b, .i64 n] 0)] [] (Is (.one (.b (decide (0 < R))))) := by
  refine Spec.of_run ok19 fun X hX => vc19 hX _ _ _ _ ⟨fun _ => ⟨rfl, ?_⟩, fun h => by cases h⟩
  show AV.one (.b (decide (0 < (R : Int)))) = _
  rw [decide_eq_decide.2 (show (0 < (R : Int)) ↔ 0 < R by omega)]
theorem s19n : Spec Try.prog 19 [.one .np] [] (Is (.one (.b false))) := by
  refine Spec.of_run ok19 fun X hX => vc19n hX ⟨nofun, fun _ => rfl⟩
noncomputable def T1 : Tab := fun f xs => match f, xs with
  | 19, [.one .np] => some ([], .one (.b false))
  | 19, [.one (.xp [.xs row 0 R, .i64 b, .i64 n] 0)] => some ([], .one (.b (decide (0 < R))))
  | f, xs => T0 f xs
theorem T1_ok : TabOk Try.prog T1 := by
  intro f xs cs r h hc
  unfold T1 at h
  split at h
  · obtain ⟨rfl, rfl⟩ := Prod.mk.inj (Option.some.inj h)
    exact ⟨⟨_, _, ok19⟩, s19n, rfl⟩
  · obtain ⟨rfl, rfl⟩ := Prod.mk.inj (Option.some.inj h)
    exact ⟨⟨_, _, ok19⟩, s19 _ _ _ _, rfl⟩
  · exact T0_ok _ _ _ _ h hc
set_option maxRecDepth 100000 in
theorem vc17 {X : Ctx} {Q : AV → Mem → Prop} (hX : X.P = Try.prog) (row : List AC) (R : Nat) (b n : Int) (h : (decide (0 < R) = true → AC.i64 n = AC.i64 n ∧ Q (AV.one (AC.i64 n)) []) ∧ (decide (0 < R) = false → Q (AV.one (AC.i64 (0 : Int))) [])) : KRun X 17 0 Q ([.code (bodyOf Try.f17)]) (slots [.one (.xp [.xs row 0 R, .i64 b, .i64 n] 0)] Try.f17.ntmps) [] :=
  wpRun_ok (hX ▸ baseB_ok T1 mf0 M0) (hX ▸ baseB_call T1_ok M0_ok) (hX ▸ mixed) (hX ▸ ok17) LK_ok (cast (β := wpRun (baseB T1 mf0 M0) [4] [] false (RS.mk Try.f17.results.toList 0 (CS.mk [] [] [] [])) (LK X 17 0 Q true []) Q 2000 ([.code (bodyOf Try.f17)]) (slots [.one (.xp [.xs row 0 R, .i64 b, .i64 n] 0)] Try.f17.ntmps) []) (by kernel_rfl) h)
set_option maxRecDepth 100000 in
theorem vc17n {X : Ctx} {Q : AV → Mem → Prop} (hX : X.P = Try.prog)  (h : (false = true → False) ∧ (false = false → Q (AV.one (AC.i64 (0 : Int))) [])) : KRun X 17 0 Q ([.code (bodyOf Try.f17)]) (slots [.one .np] Try.f17.ntmps) [] :=
  wpRun_ok (hX ▸ baseB_ok T1 mf0 M0) (hX ▸ baseB_call T1_ok M0_ok) (hX ▸ mixed) (hX ▸ ok17) LK_ok (cast (β := wpRun (baseB T1 mf0 M0) [4] [] false (RS.mk Try.f17.results.toList 0 (CS.mk [] [] [] [])) (LK X 17 0 Q true []) Q 2000 ([.code (bodyOf Try.f17)]) (slots [.one .np] Try.f17.ntmps) []) (by kernel_rfl) h)
set_option maxRecDepth 100000 in
theorem vc18 {X : Ctx} {Q : AV → Mem → Prop} (hX : X.P = Try.prog) (row : List AC) (R : Nat) (b n : Int) (h : (decide (0 < R) = true → AC.xs row 0 R = AC.xs (xsRow (AC.xs row 0 R)) (xsOff (AC.xs row 0 R)) (xsLen (AC.xs row 0 R)) ∧ AC.i64 n = AC.i64 n ∧ in64 ((↑(xsLen (AC.xs row 0 R)) : Int) - n) ∧ Q (AV.one (AC.i64 ((↑(xsLen (AC.xs row 0 R)) : Int) - n))) []) ∧ (decide (0 < R) = false → Q (AV.one (AC.i64 (0 : Int))) [])) : KRun X 18 0 Q ([.code (bodyOf Try.f18)]) (slots [.one (.xp [.xs row 0 R, .i64 b, .i64 n] 0)] Try.f18.ntmps) [] :=
  wpRun_ok (hX ▸ baseB_ok T1 mf0 M0) (hX ▸ baseB_call T1_ok M0_ok) (hX ▸ mixed) (hX ▸ ok18) LK_ok (cast (β := wpRun (baseB T1 mf0 M0) [4] [] false (RS.mk Try.f18.results.toList 0 (CS.mk [] [] [] [])) (LK X 18 0 Q true []) Q 2000 ([.code (bodyOf Try.f18)]) (slots [.one (.xp [.xs row 0 R, .i64 b, .i64 n] 0)] Try.f18.ntmps) []) (by kernel_rfl) h)
set_option maxRecDepth 100000 in
theorem vc18n {X : Ctx} {Q : AV → Mem → Prop} (hX : X.P = Try.prog)  (h : (false = true → False) ∧ (false = false → Q (AV.one (AC.i64 (0 : Int))) [])) : KRun X 18 0 Q ([.code (bodyOf Try.f18)]) (slots [.one .np] Try.f18.ntmps) [] :=
  wpRun_ok (hX ▸ baseB_ok T1 mf0 M0) (hX ▸ baseB_call T1_ok M0_ok) (hX ▸ mixed) (hX ▸ ok18) LK_ok (cast (β := wpRun (baseB T1 mf0 M0) [4] [] false (RS.mk Try.f18.results.toList 0 (CS.mk [] [] [] [])) (LK X 18 0 Q true []) Q 2000 ([.code (bodyOf Try.f18)]) (slots [.one .np] Try.f18.ntmps) []) (by kernel_rfl) h)
def fcF (R : Nat) (n : Int) : Int := if 0 < R then (R : Int) - n else 0
def lnF (R : Nat) (n : Int) : Int := if 0 < R then n else 0
theorem s17 (row : List AC) (R : Nat) (b n : Int) : Spec Try.prog 17 [.one (.xp [.xs row 0 R, .i64 b, .i64 n] 0)] [] (Is (.one (.i64 (lnF R n)))) := by
  refine Spec.of_run ok17 fun X hX => vc17 hX _ _ _ _ ⟨fun h => ⟨rfl, ?_⟩, fun h => ?_⟩
  · rw [show lnF R n = n from if_pos (of_decide_eq_true h)]; exact rfl
  · rw [show lnF R n = 0 from if_neg (of_decide_eq_false h)]; exact rfl
theorem s18 (row : List AC) (R : Nat) (b n : Int) (hR : R ≤ 8192) (h0 : 0 ≤ n) (h1 : n ≤ R) : Spec Try.prog 18 [.one (.xp [.xs row 0 R, .i64 b, .i64 n] 0)] [] (Is (.one (.i64 (fcF R n)))) := by
  refine Spec.of_run ok18 fun X hX => vc18 hX _ _ _ _ ⟨fun h => ⟨rfl, rfl, ?_, ?_⟩, fun h => ?_⟩
  · show in64 ((R : Int) - n); unfold in64; omega
  · rw [show fcF R n = (R : Int) - n from if_pos (of_decide_eq_true h)]; exact rfl
  · rw [show fcF R n = 0 from if_neg (of_decide_eq_false h)]; exact rfl
theorem s17n : Spec Try.prog 17 [.one .np] [] (Is (.one (.i64 0))) := by
  refine Spec.of_run ok17 fun X hX => vc17n hX ⟨nofun, fun _ => rfl⟩
theorem s18n : Spec Try.prog 18 [.one .np] [] (Is (.one (.i64 0))) := by
  refine Spec.of_run ok18 fun X hX => vc18n hX ⟨nofun, fun _ => rfl⟩
noncomputable def T2 : Tab := fun f xs => match f, xs with
  | 17, [.one .np] => some ([], .one (.i64 0))
  | 17, [.one (.xp [.xs row 0 R, .i64 b, .i64 n] 0)] => some ([], .one (.i64 (lnF R n)))
  | 18, [.one .np] => some ([], .one (.i64 0))
  | 18, [.one (.xp [.xs row 0 R, .i64 b, .i64 n] 0)] => some ([R ≤ 8192 ∧ 0 ≤ n ∧ n ≤ R], .one (.i64 (fcF R n)))
  | f, xs => T1 f xs
theorem T2_ok : TabOk Try.prog T2 := by
  intro f xs cs r h hc
  unfold T2 at h
  split at h
  · obtain ⟨rfl, rfl⟩ := Prod.mk.inj (Option.some.inj h)
    exact ⟨⟨_, _, ok17⟩, s17n, rfl⟩
  · obtain ⟨rfl, rfl⟩ := Prod.mk.inj (Option.some.inj h)
    exact ⟨⟨_, _, ok17⟩, s17 _ _ _ _, rfl⟩
  · obtain ⟨rfl, rfl⟩ := Prod.mk.inj (Option.some.inj h)
    exact ⟨⟨_, _, ok18⟩, s18n, rfl⟩
  · obtain ⟨rfl, rfl⟩ := Prod.mk.inj (Option.some.inj h)
    exact ⟨⟨_, _, ok18⟩, s18 _ _ _ _ hc.1.1 hc.1.2.1 hc.1.2.2, rfl⟩
  · exact T1_ok _ _ _ _ h hc
end DH

noncomputable section
namespace DH
open Go Go.Proofs
set_option maxRecDepth 100000 in
theorem vc11 {X : Ctx} {Q : AV → Mem → Prop} (hX : X.P = Try.prog) (ps rs : List AC) (m R : Nat) (b n : Int) (h : 0 + R * 1 ≤ List.length rs ∧ Flat (List.take (R * 1) (List.drop 0 rs)) ∧ (decide (0 < R) = true → 0 + R * 1 ≤ List.length rs ∧ Flat (List.take (R * 1) (List.drop 0 rs)) ∧ (R ≤ 8192 ∧ (0 : Int) ≤ n ∧ n ≤ (↑R : Int)) ∧ ((0 : Int) ≤ (↑0 : Int) ∧ (↑0 : Int) ≤ min (↑m : Int) (fcF R n) ∧ min (↑m : Int) (fcF R n) ≤ (↑m : Int)) ∧ in64 (b + n) ∧ (↑R : Int) ≠ (0 : Int) ∧ ((0 : Int) ≤ Int.tmod (b + n) (↑R : Int) ∧ Int.tmod (b + n) (↑R : Int) ≤ (↑R : Int) ∧ (↑R : Int) ≤ (↑R : Int)) ∧ 0 + (Int.toNat (min (↑m : Int) (fcF R n)) - 0) * 1 ≤ List.length ps ∧ 0 + Int.toNat (Int.tmod (b + n) (↑R : Int)) * 1 + (Int.toNat (↑R : Int) - Int.toNat (Int.tmod (b + n) (↑R : Int))) * 1 ≤ List.length rs ∧ ((0 : Int) ≤ (↑(min (Int.toNat (min (↑m : Int) (fcF R n)) - 0) (Int.toNat (↑R : Int) - Int.toNat (Int.tmod (b + n) (↑R : Int)))) : Int) ∧ (↑(min (Int.toNat (min (↑m : Int) (fcF R n)) - 0) (Int.toNat (↑R : Int) - Int.toNat (Int.tmod (b + n) (↑R : Int)))) : Int) ≤ (↑(Int.toNat (min (↑m : Int) (fcF R n)) - 0) : Int) ∧ (↑(Int.toNat (min (↑m : Int) (fcF R n)) - 0) : Int) ≤ (↑(Int.toNat (min (↑m : Int) (fcF R n)) - 0) : Int)) ∧ 0 + Int.toNat (↑(min (Int.toNat (min (↑m : Int) (fcF R n)) - 0) (Int.toNat (↑R : Int) - Int.toNat (Int.tmod (b + n) (↑R : Int)))) : Int) * 1 + (Int.toNat (↑(Int.toNat (min (↑m : Int) (fcF R n)) - 0) : Int) - Int.toNat (↑(min (Int.toNat (min (↑m : Int) (fcF R n)) - 0) (Int.toNat (↑R : Int) - Int.toNat (Int.tmod (b + n) (↑R : Int)))) : Int)) * 1 ≤ List.length ps ∧ 0 + R * 1 ≤ List.length (lay rs (0 + Int.toNat (Int.tmod (b + n) (↑R : Int)) * 1) (List.take (min (Int.toNat (min (↑m : Int) (fcF R n)) - 0) (Int.toNat (↑R : Int) - Int.toNat (Int.tmod (b + n) (↑R : Int))) * 1) (List.take ((Int.toNat (min (↑m : Int) (fcF R n)) - 0) * 1) (List.drop 0 ps)))) ∧ in64 (n + (↑(Int.toNat (min (↑m : Int) (fcF R n)) - 0) : Int)) ∧ Flat (lay (lay rs (0 + Int.toNat (Int.tmod (b + n) (↑R : Int)) * 1) (List.take (min (Int.toNat (min (↑m : Int) (fcF R n)) - 0) (Int.toNat (↑R : Int) - Int.toNat (Int.tmod (b + n) (↑R : Int))) * 1) (List.take ((Int.toNat (min (↑m : Int) (fcF R n)) - 0) * 1) (List.drop 0 ps)))) 0 (List.take (min (Int.toNat (↑(Int.toNat (min (↑m : Int) (fcF R n)) - 0) : Int) - Int.toNat (↑(min (Int.toNat (min (↑m : Int) (fcF R n)) - 0) (Int.toNat (↑R : Int) - Int.toNat (Int.tmod (b + n) (↑R : Int)))) : Int)) R * 1) (List.take ((Int.toNat (↑(Int.toNat (min (↑m : Int) (fcF R n)) - 0) : Int) - Int.toNat (↑(min (Int.toNat (min (↑m : Int) (fcF R n)) - 0) (Int.toNat (↑R : Int) - Int.toNat (Int.tmod (b + n) (↑R : Int)))) : Int)) * 1) (List.drop (0 + Int.toNat (↑(min (Int.toNat (min (↑m : Int) (fcF R n)) - 0) (Int.toNat (↑R : Int) - Int.toNat (Int.tmod (b + n) (↑R : Int)))) : Int) * 1) ps)))) ∧ Q (AV.one (AC.i64 (↑(Int.toNat (min (↑m : Int) (fcF R n)) - 0) : Int))) [some [AC.sv 1 0 R, AC.i64 b, AC.i64 (n + (↑(Int.toNat (min (↑m : Int) (fcF R n)) - 0) : Int))], some (lay (lay rs (0 + Int.toNat (Int.tmod (b + n) (↑R : Int)) * 1) (List.take (min (Int.toNat (min (↑m : Int) (fcF R n)) - 0) (Int.toNat (↑R : Int) - Int.toNat (Int.tmod (b + n) (↑R : Int))) * 1) (List.take ((Int.toNat (min (↑m : Int) (fcF R n)) - 0) * 1) (List.drop 0 ps)))) 0 (List.take (min (Int.toNat (↑(Int.toNat (min (↑m : Int) (fcF R n)) - 0) : Int) - Int.toNat (↑(min (Int.toNat (min (↑m : Int) (fcF R n)) - 0) (Int.toNat (↑R : Int) - Int.toNat (Int.tmod (b + n) (↑R : Int)))) : Int)) R * 1) (List.take ((Int.toNat (↑(Int.toNat (min (↑m : Int) (fcF R n)) - 0) : Int) - Int.toNat (↑(min (Int.toNat (min (↑m : Int) (fcF R n)) - 0) (Int.toNat (↑R : Int) - Int.toNat (Int.tmod (b + n) (↑R : Int)))) : Int)) * 1) (List.drop (0 + Int.toNat (↑(min (Int.toNat (min (↑m : Int) (fcF R n)) - 0) (Int.toNat (↑R : Int) - Int.toNat (Int.tmod (b + n) (↑R : Int)))) : Int) * 1) ps))))]) ∧ (decide (0 < R) = false → Flat rs ∧ Q (AV.one (AC.i64 (0 : Int))) [some [AC.sv 1 0 R, AC.i64 b, AC.i64 n], some rs])) : KRun X 11 2 Q ([.code (bodyOf Try.f11)]) (slots [.one (.ptr 0 0), .one (.xs ps 0 m)] Try.f11.ntmps) [some [.sv 1 0 R, .i64 b, .i64 n], some rs] :=
  wpRun_ok (hX ▸ baseB_ok T2 mf0 M0) (hX ▸ baseB_call T2_ok M0_ok) (hX ▸ mixed) (hX ▸ ok11) LK_ok (cast (β := wpRun (baseB T2 mf0 M0) [8] [(6, 7)] false (RS.mk Try.f11.results.toList 2 (CS.mk [] [false] [] [])) (LK X 11 2 Q true []) Q 2000 ([.code (bodyOf Try.f11)]) (slots [.one (.ptr 0 0), .one (.xs ps 0 m)] Try.f11.ntmps) [some [.sv 1 0 R, .i64 b, .i64 n], some rs]) (by kernel_rfl) h)
set_option maxRecDepth 100000 in
theorem vc13 {X : Ctx} {Q : AV → Mem → Prop} (hX : X.P = Try.prog) (rs : List AC) (R : Nat) (b n k : Int) (h : 0 + R * 1 ≤ List.length rs ∧ Flat (List.take (R * 1) (List.drop 0 rs)) ∧ (decide (0 < R) = true → (decide (k < (0 : Int)) = true → Flat rs ∧ Q (AV.one (AC.i64 (1 : Int))) [some [AC.sv 1 0 R, AC.i64 b, AC.i64 n], some rs]) ∧ (decide (k < (0 : Int)) = false → (decide (n < k) = true → Flat rs ∧ Q (AV.one (AC.i64 (5 : Int))) [some [AC.sv 1 0 R, AC.i64 b, AC.i64 n], some rs]) ∧ (decide (n < k) = false → in64 (b + k) ∧ (↑R : Int) ≠ (0 : Int) ∧ in64 (n - k) ∧ Flat rs ∧ Q (AV.one (AC.i64 (0 : Int))) [some [AC.sv 1 0 R, AC.i64 (Int.tmod (b + k) (↑R : Int)), AC.i64 (n - k)], some rs]))) ∧ (decide (0 < R) = false → Flat rs ∧ Q (AV.one (AC.i64 (2 : Int))) [some [AC.sv 1 0 R, AC.i64 b, AC.i64 n], some rs])) : KRun X 13 2 Q ([.code (bodyOf Try.f13)]) (slots [.one (.ptr 0 0), .one (.i64 k)] Try.f13.ntmps) [some [.sv 1 0 R, .i64 b, .i64 n], some rs] :=
  wpRun_ok (hX ▸ baseB_ok T2 mf0 M0) (hX ▸ baseB_call T2_ok M0_ok) (hX ▸ mixed) (hX ▸ ok13) LK_ok (cast (β := wpRun (baseB T2 mf0 M0) [7, 11, 18] [(7, 15)] false (RS.mk Try.f13.results.toList 2 (CS.mk [] [false] [] [])) (LK X 13 2 Q true []) Q 2000 ([.code (bodyOf Try.f13)]) (slots [.one (.ptr 0 0), .one (.i64 k)] Try.f13.ntmps) [some [.sv 1 0 R, .i64 b, .i64 n], some rs]) (by kernel_rfl) h)
set_option maxRecDepth 100000 in
theorem vc15 {X : Ctx} {Q : AV → Mem → Prop} (hX : X.P = Try.prog) (rs : List AC) (R : Nat) (b n o k : Int) (h : (decide (o < (0 : Int)) = true → Flat [] ∧ Q (AV.one (AC.gs 0 0 1)) [some []]) ∧ (decide (o < (0 : Int)) = false → (decide (k < (0 : Int)) = true → Flat [] ∧ Q (AV.one (AC.gs 0 0 1)) [some []]) ∧ (decide (k < (0 : Int)) = false → (decide (lnF R n ≤ o) = true → Flat [] ∧ Q (AV.one (AC.gs 0 0 1)) [some []]) ∧ (decide (lnF R n ≤ o) = false → AC.i64 n = AC.i64 n ∧ in64 (n - o) ∧ ((0 : Int) ≤ min k (n - o) ∧ min k (n - o) ≤ min k (n - o) ∧ min k (n - o) * (↑1 : Int) ≤ (140737488355328 : Int) ∧ min k (n - o) < (4611686018427387904 : Int)) ∧ AC.i64 b = AC.i64 b ∧ in64 (b + o) ∧ AC.xs rs 0 R = AC.xs (xsRow (AC.xs rs 0 R)) (xsOff (AC.xs rs 0 R)) (xsLen (AC.xs rs 0 R)) ∧ (↑(xsLen (AC.xs rs 0 R)) : Int) ≠ (0 : Int) ∧ AC.xs rs 0 R = AC.xs (xsRow (AC.xs rs 0 R)) (xsOff (AC.xs rs 0 R)) (xsLen (AC.xs rs 0 R)) ∧ ((0 : Int) ≤ Int.tmod (b + o) (↑(xsLen (AC.xs rs 0 R)) : Int) ∧ Int.tmod (b + o) (↑(xsLen (AC.xs rs 0 R)) : Int) ≤ (↑(xsLen (AC.xs rs 0 R)) : Int) ∧ (↑(xsLen (AC.xs rs 0 R)) : Int) ≤ (↑(xsLen (AC.xs rs 0 R)) : Int)) ∧ xsOff (AC.xs rs 0 R) + Int.toNat (Int.tmod (b + o) (↑(xsLen (AC.xs rs 0 R)) : Int)) * 1 + (Int.toNat (↑(xsLen (AC.xs rs 0 R)) : Int) - Int.toNat (Int.tmod (b + o) (↑(xsLen (AC.xs rs 0 R)) : Int))) * 1 ≤ List.length (xsRow (AC.xs rs 0 R)) ∧ 0 + Int.toNat (min k (n - o)) * 1 ≤ List.length (zeros [AC.u8 (0 : BitVec 8)] (Int.toNat (min k (n - o)))) ∧ ((0 : Int) ≤ (↑(min (Int.toNat (↑(xsLen (AC.xs rs 0 R)) : Int) - Int.toNat (Int.tmod (b + o) (↑(xsLen (AC.xs rs 0 R)) : Int))) (Int.toNat (min k (n - o)))) : Int) ∧ (↑(min (Int.toNat (↑(xsLen (AC.xs rs 0 R)) : Int) - Int.toNat (Int.tmod (b + o) (↑(xsLen (AC.xs rs 0 R)) : Int))) (Int.toNat (min k (n - o)))) : Int) ≤ (↑(Int.toNat (min k (n - o))) : Int) ∧ (↑(Int.toNat (min k (n - o))) : Int) ≤ (↑(Int.toNat (min k (n - o))) : Int)) ∧ AC.xs rs 0 R = AC.xs (xsRow (AC.xs rs 0 R)) (xsOff (AC.xs rs 0 R)) (xsLen (AC.xs rs 0 R)) ∧ xsOff (AC.xs rs 0 R) + xsLen (AC.xs rs 0 R) * 1 ≤ List.length (xsRow (AC.xs rs 0 R)) ∧ 0 + Int.toNat (↑(min (Int.toNat (↑(xsLen (AC.xs rs 0 R)) : Int) - Int.toNat (Int.tmod (b + o) (↑(xsLen (AC.xs rs 0 R)) : Int))) (Int.toNat (min k (n - o)))) : Int) * 1 + (Int.toNat (↑(Int.toNat (min k (n - o))) : Int) - Int.toNat (↑(min (Int.toNat (↑(xsLen (AC.xs rs 0 R)) : Int) - Int.toNat (Int.tmod (b + o) (↑(xsLen (AC.xs rs 0 R)) : Int))) (Int.toNat (min k (n - o)))) : Int)) * 1 ≤ List.length (lay (zeros [AC.u8 (0 : BitVec 8)] (Int.toNat (min k (n - o)))) 0 (List.take (min (Int.toNat (↑(xsLen (AC.xs rs 0 R)) : Int) - Int.toNat (Int.tmod (b + o) (↑(xsLen (AC.xs rs 0 R)) : Int))) (Int.toNat (min k (n - o))) * 1) (List.take ((Int.toNat (↑(xsLen (AC.xs rs 0 R)) : Int) - Int.toNat (Int.tmod (b + o) (↑(xsLen (AC.xs rs 0 R)) : Int))) * 1) (List.drop (xsOff (AC.xs rs 0 R) + Int.toNat (Int.tmod (b + o) (↑(xsLen (AC.xs rs 0 R)) : Int)) * 1) (xsRow (AC.xs rs 0 R)))))) ∧ Flat (lay (lay (zeros [AC.u8 (0 : BitVec 8)] (Int.toNat (min k (n - o)))) 0 (List.take (min (Int.toNat (↑(xsLen (AC.xs rs 0 R)) : Int) - Int.toNat (Int.tmod (b + o) (↑(xsLen (AC.xs rs 0 R)) : Int))) (Int.toNat (min k (n - o))) * 1) (List.take ((Int.toNat (↑(xsLen (AC.xs rs 0 R)) : Int) - Int.toNat (Int.tmod (b + o) (↑(xsLen (AC.xs rs 0 R)) : Int))) * 1) (List.drop (xsOff (AC.xs rs 0 R) + Int.toNat (Int.tmod (b + o) (↑(xsLen (AC.xs rs 0 R)) : Int)) * 1) (xsRow (AC.xs rs 0 R)))))) (0 + Int.toNat (↑(min (Int.toNat (↑(xsLen (AC.xs rs 0 R)) : Int) - Int.toNat (Int.tmod (b + o) (↑(xsLen (AC.xs rs 0 R)) : Int))) (Int.toNat (min k (n - o)))) : Int) * 1) (List.take (min (xsLen (AC.xs rs 0 R)) (Int.toNat (↑(Int.toNat (min k (n - o))) : Int) - Int.toNat (↑(min (Int.toNat (↑(xsLen (AC.xs rs 0 R)) : Int) - Int.toNat (Int.tmod (b + o) (↑(xsLen (AC.xs rs 0 R)) : Int))) (Int.toNat (min k (n - o)))) : Int)) * 1) (List.take (xsLen (AC.xs rs 0 R) * 1) (List.drop (xsOff (AC.xs rs 0 R)) (xsRow (AC.xs rs 0 R)))))) ∧ Q (AV.one (AC.gs 0 (Int.toNat (min k (n - o))) 1)) [some (lay (lay (zeros [AC.u8 (0 : BitVec 8)] (Int.toNat (min k (n - o)))) 0 (List.take (min (Int.toNat (↑(xsLen (AC.xs rs 0 R)) : Int) - Int.toNat (Int.tmod (b + o) (↑(xsLen (AC.xs rs 0 R)) : Int))) (Int.toNat (min k (n - o))) * 1) (List.take ((Int.toNat (↑(xsLen (AC.xs rs 0 R)) : Int) - Int.toNat (Int.tmod (b + o) (↑(xsLen (AC.xs rs 0 R)) : Int))) * 1) (List.drop (xsOff (AC.xs rs 0 R) + Int.toNat (Int.tmod (b + o) (↑(xsLen (AC.xs rs 0 R)) : Int)) * 1) (xsRow (AC.xs rs 0 R)))))) (0 + Int.toNat (↑(min (Int.toNat (↑(xsLen (AC.xs rs 0 R)) : Int) - Int.toNat (Int.tmod (b + o) (↑(xsLen (AC.xs rs 0 R)) : Int))) (Int.toNat (min k (n - o)))) : Int) * 1) (List.take (min (xsLen (AC.xs rs 0 R)) (Int.toNat (↑(Int.toNat (min k (n - o))) : Int) - Int.toNat (↑(min (Int.toNat (↑(xsLen (AC.xs rs 0 R)) : Int) - Int.toNat (Int.tmod (b + o) (↑(xsLen (AC.xs rs 0 R)) : Int))) (Int.toNat (min k (n - o)))) : Int)) * 1) (List.take (xsLen (AC.xs rs 0 R) * 1) (List.drop (xsOff (AC.xs rs 0 R)) (xsRow (AC.xs rs 0 R))))))])))) : KRun X 15 0 Q ([.code (bodyOf Try.f15)]) (slots [.one (.xp [.xs rs 0 R, .i64 b, .i64 n] 0), .one (.i64 o), .one (.i64 k)] Try.f15.ntmps) [] :=
  wpRun_ok (hX ▸ baseB_ok T2 mf0 M0) (hX ▸ baseB_call T2_ok M0_ok) (hX ▸ mixed) (hX ▸ ok15) LK_ok (cast (β := wpRun (baseB T2 mf0 M0) [11, 14, 20] [(6, 7)] false (RS.mk Try.f15.results.toList 0 (CS.mk [(0, 2)] [] [] [])) (LK X 15 0 Q true []) Q 2000 ([.code (bodyOf Try.f15)]) (slots [.one (.xp [.xs rs 0 R, .i64 b, .i64 n] 0), .one (.i64 o), .one (.i64 k)] Try.f15.ntmps) []) (by kernel_rfl) h)
set_option maxRecDepth 100000 in
theorem vc11n {X : Ctx} {Q : AV → Mem → Prop} (hX : X.P = Try.prog) (ps : List AC) (m : Nat) (h : (false = true → ((0 : Int) ≤ (↑0 : Int) ∧ (↑0 : Int) ≤ min (↑m : Int) (0 : Int) ∧ min (↑m : Int) (0 : Int) ≤ (↑m : Int)) ∧ False) ∧ (false = false → Q (AV.one (AC.i64 (0 : Int))) [])) : KRun X 11 0 Q ([.code (bodyOf Try.f11)]) (slots [.one .np, .one (.xs ps 0 m)] Try.f11.ntmps) [] :=
  wpRun_ok (hX ▸ baseB_ok T2 mf0 M0) (hX ▸ baseB_call T2_ok M0_ok) (hX ▸ mixed) (hX ▸ ok11) LK_ok (cast (β := wpRun (baseB T2 mf0 M0) [8] [(6, 7)] false (RS.mk Try.f11.results.toList 0 (CS.mk [] [] [] [])) (LK X 11 0 Q true []) Q 2000 ([.code (bodyOf Try.f11)]) (slots [.one .np, .one (.xs ps 0 m)] Try.f11.ntmps) []) (by kernel_rfl) h)
set_option maxRecDepth 100000 in
theorem vc13n {X : Ctx} {Q : AV → Mem → Prop} (hX : X.P = Try.prog) (k : Int) (h : (false = true → (decide (k < (0 : Int)) = true → Q (AV.one (AC.i64 (1 : Int))) []) ∧ (decide (k < (0 : Int)) = false → False)) ∧ (false = false → Q (AV.one (AC.i64 (2 : Int))) [])) : KRun X 13 0 Q ([.code (bodyOf Try.f13)]) (slots [.one .np, .one (.i64 k)] Try.f13.ntmps) [] :=
  wpRun_ok (hX ▸ baseB_ok T2 mf0 M0) (hX ▸ baseB_call T2_ok M0_ok) (hX ▸ mixed) (hX ▸ ok13) LK_ok (cast (β := wpRun (baseB T2 mf0 M0) [7, 11, 18] [(7, 15)] false (RS.mk Try.f13.results.toList 0 (CS.mk [] [] [] [])) (LK X 13 0 Q true []) Q 2000 ([.code (bodyOf Try.f13)]) (slots [.one .np, .one (.i64 k)] Try.f13.ntmps) []) (by kernel_rfl) h)
set_option maxRecDepth 100000 in
theorem vc15n {X : Ctx} {Q : AV → Mem → Prop} (hX : X.P = Try.prog) (o k : Int) (h : (decide (o < (0 : Int)) = true → Flat [] ∧ Q (AV.one (AC.gs 0 0 1)) [some []]) ∧ (decide (o < (0 : Int)) = false → (decide (k < (0 : Int)) = true → Flat [] ∧ Q (AV.one (AC.gs 0 0 1)) [some []]) ∧ (decide (k < (0 : Int)) = false → (decide ((0 : Int) ≤ o) = true → Flat [] ∧ Q (AV.one (AC.gs 0 0 1)) [some []]) ∧ (decide ((0 : Int) ≤ o) = false → False)))) : KRun X 15 0 Q ([.code (bodyOf Try.f15)]) (slots [.one .np, .one (.i64 o), .one (.i64 k)] Try.f15.ntmps) [] :=
  wpRun_ok (hX ▸ baseB_ok T2 mf0 M0) (hX ▸ baseB_call T2_ok M0_ok) (hX ▸ mixed) (hX ▸ ok15) LK_ok (cast (β := wpRun (baseB T2 mf0 M0) [11, 14, 20] [(6, 7)] false (RS.mk Try.f15.results.toList 0 (CS.mk [(0, 2)] [] [] [])) (LK X 15 0 Q true []) Q 2000 ([.code (bodyOf Try.f15)]) (slots [.one .np, .one (.i64 o), .one (.i64 k)] Try.f15.ntmps) []) (by kernel_rfl) h)
theorem layU (g x : BL) (o : Nat) : lay (g.map AC.u8) o (x.map AC.u8) = (lay8 g o x).map AC.u8 := by
  unfold lay lay8
  rw [List.map_append, List.map_append, List.map_take, List.map_drop, List.length_map]
theorem tmodn (a b R : Nat) : Int.tmod ((a : Int) + (b : Int)) (R : Int) = (((a + b) % R : Nat) : Int) := rfl
theorem wrR_nil (b n : Nat) (p : BL) : wrR [] b n p = [] ∧ wrM [] n p = 0 := by
  have e : wrM [] n p = 0 := by unfold wrM; simp
  have e2 : wrK [] b n p = 0 := by unfold wrK; rw [e]; omega
  refine ⟨?_, e⟩
  unfold wrR
  rw [e, e2]
  simp [lay8]
theorem s11 (g p : BL) (b n : Nat) (h : RgOk g b n) : Spec Try.prog 11 [.one (.ptr 0 0), .one (.xs (p.map AC.u8) 0 p.length)] [some [.sv 1 0 g.length, .i64 b, .i64 n], some (g.map AC.u8)]
    (Are (.one (.i64 ((wrM g n p : Nat) : Int))) [some [.sv 1 0 g.length, .i64 b, .i64 ((n + wrM g n p : Nat) : Int)], some ((wrR g b n p).map AC.u8)]) := by
  have h1 := h.n_le
  have h2 := h.b_lt
  have h3 := h.r_le
  have L : 0 + g.length * 1 ≤ (g.map AC.u8).length := by rw [List.length_map]; omega
  refine Spec.of_run ok11 fun X hX => vc11 hX _ _ _ _ _ _ ⟨L, ?_, fun g0 => ⟨L, ?_, ⟨h3, by omega, by omega⟩, ?_⟩, fun g0 => ⟨flat_u8 _, ?_⟩⟩
  · rw [List.drop_zero, tk0]; exact flat_u8 _
  · rw [List.drop_zero, tk0]; exact flat_u8 _
  · have g0 := of_decide_eq_true g0
    have hm : (b + n) % g.length < g.length := Nat.mod_lt _ g0
    have hM : wrM g n p ≤ g.length - n := Nat.min_le_right _ _
    have hM2 : wrM g n p ≤ p.length := Nat.min_le_left _ _
    have e1 : min (p.length : Int) (fcF g.length (n : Int)) = ((wrM g n p : Nat) : Int) := by
      unfold fcF wrM; rw [if_pos g0]; omega
    have e2 : min (wrM g n p) (g.length - (b + n) % g.length) = wrK g b n p := rfl
    have e3 : wrK g b n p ≤ wrM g n p := Nat.min_le_left _ _
    have e4 : min (wrM g n p - wrK g b n p) g.length = wrM g n p - wrK g b n p := by omega
    have e5 : wrK g b n p ≤ g.length - (b + n) % g.length := Nat.min_le_right _ _
    have e6 : List.take (wrK g b n p) (List.take (wrM g n p) (p.map AC.u8)) = (p.take (wrK g b n p)).map AC.u8 := by
      rw [List.take_take, Nat.min_eq_left e3, tk0]
    have e7 : List.take (wrM g n p - wrK g b n p) (List.drop (wrK g b n p) (p.map AC.u8)) = ((p.take (wrM g n p)).drop (wrK g b n p)).map AC.u8 := by
      rw [tkm, List.drop_take]
    have e8 : List.take (wrM g n p - wrK g b n p) (((p.take (wrM g n p)).drop (wrK g b n p)).map AC.u8) = ((p.take (wrM g n p)).drop (wrK g b n p)).map AC.u8 := by
      rw [List.take_of_length_le]; rw [List.length_map, List.length_drop, List.length_take]; omega
    have l1 : (lay8 g ((b + n) % g.length) (p.take (wrK g b n p))).length = g.length := lay8_len (by rw [List.length_take]; omega)
    simp only [e1, tmodn, Int.toNat_natCast, Nat.sub_zero, Nat.mul_one, Nat.zero_add, e2, e4, List.drop_zero, e6, e7, e8, layU, List.length_map, l1]
    have hw : wrR g b n p = lay8 (lay8 g ((b + n) % g.length) (p.take (wrK g b n p))) 0 ((p.take (wrM g n p)).drop (wrK g b n p)) := rfl
    rw [hw]
    generalize wrM g n p = M at *
    generalize wrK g b n p = K at *
    generalize (b + n) % g.length = at_ at *
    exact ⟨⟨by omega, by omega, by omega⟩, by unfold in64; omega, by omega, ⟨by omega, by omega, by omega⟩, by omega, by omega, ⟨by omega, by omega, by omega⟩, by omega, by omega, by unfold in64; omega, flat_u8 _, rfl, rfl⟩
  · have g0 := of_decide_eq_false g0
    have : g = [] := List.eq_nil_of_length_eq_zero (by omega)
    subst this
    rw [(wrR_nil b n p).1, (wrR_nil b n p).2]
    exact ⟨rfl, rfl⟩
def drE (g : BL) (n : Nat) (k : Int) : Int := if 0 < g.length then (if k < 0 then 1 else if (n : Int) < k then 5 else 0) else 2
def drN (g : BL) (n : Nat) (k : Int) : Nat := if 0 < g.length ∧ 0 ≤ k ∧ k ≤ (n : Int) then k.toNat else 0
def drB (g : BL) (b n : Nat) (k : Int) : Nat := if 0 < g.length ∧ 0 ≤ k ∧ k ≤ (n : Int) then (b + k.toNat) % g.length else b
theorem s13 (g : BL) (b n : Nat) (k : Int) (h : RgOk g b n) : Spec Try.prog 13 [.one (.ptr 0 0), .one (.i64 k)] [some [.sv 1 0 g.length, .i64 b, .i64 n], some (g.map AC.u8)]
    (Are (.one (.i64 (drE g n k))) [some [.sv 1 0 g.length, .i64 (drB g b n k : Nat), .i64 ((n - drN g n k : Nat) : Int)], some (g.map AC.u8)]) := by
  have h1 := h.n_le
  have h2 := h.b_lt
  have h3 := h.r_le
  have L : 0 + g.length * 1 ≤ (g.map AC.u8).length := by rw [List.length_map]; omega
  have stay : ∀ e : Int, drE g n k = e → e ≠ 0 → Are (.one (.i64 (drE g n k))) [some [.sv 1 0 g.length, .i64 (drB g b n k : Nat), .i64 ((n - drN g n k : Nat) : Int)], some (g.map AC.u8)] (.one (.i64 e)) [some [.sv 1 0 g.length, .i64 b, .i64 n], some (g.map AC.u8)] := by
    intro e he h0
    have no : ¬ (0 < g.length ∧ 0 ≤ k ∧ k ≤ (n : Int)) := by
      intro hh
      apply h0
      rw [← he]
      unfold drE
      rw [if_pos hh.1, if_neg (by omega), if_neg (by omega)]
    rw [show drB g b n k = b from if_neg no, show drN g n k = 0 from if_neg no, he]
    exact ⟨rfl, rfl⟩
  refine Spec.of_run ok13 fun X hX => vc13 hX _ _ _ _ _ ⟨L, ?_, fun g0 => ⟨fun k0 => ⟨flat_u8 _, ?_⟩, fun k0 => ⟨fun k1 => ⟨flat_u8 _, ?_⟩, fun k1 => ?_⟩⟩, fun g0 => ⟨flat_u8 _, ?_⟩⟩
  · rw [List.drop_zero, tk0]; exact flat_u8 _
  · refine stay 1 ?_ (by decide)
    unfold drE; rw [if_pos (of_decide_eq_true g0), if_pos (of_decide_eq_true k0)]
  · refine stay 5 ?_ (by decide)
    unfold drE; rw [if_pos (of_decide_eq_true g0), if_neg (of_decide_eq_false k0), if_pos (of_decide_eq_true k1)]
  · have g0 := of_decide_eq_true g0
    have k0 := of_decide_eq_false k0
    have k1 := of_decide_eq_false k1
    obtain ⟨j, rfl⟩ := Int.eq_ofNat_of_zero_le (by omega : 0 ≤ k)
    have yes : 0 < g.length ∧ 0 ≤ (j : Int) ∧ (j : Int) ≤ (n : Int) := ⟨g0, by omega, by omega⟩
    rw [show drB g b n (j : Int) = (b + j) % g.length from if_pos yes, show drN g n (j : Int) = j from if_pos yes,
      show drE g n (j : Int) = 0 by unfold drE; rw [if_pos g0, if_neg k0, if_neg k1], show ((n - j : Nat) : Int) = (n : Int) - (j : Int) by omega]
    exact ⟨by unfold in64; omega, by omega, by unfold in64; omega, flat_u8 _, rfl, rfl⟩
  · refine stay 2 ?_ (by decide)
    unfold drE; rw [if_neg (of_decide_eq_false g0)]
theorem lay_two (x y : BL) : lay8 (lay8 (List.replicate (x.length + y.length) 0) 0 x) x.length y = x ++ y := by
  unfold lay8
  rw [List.take_zero, List.nil_append, Nat.zero_add, List.take_left, List.drop_append, List.drop_of_length_le (by omega), List.nil_append, List.drop_drop, List.drop_of_length_le (by rw [List.length_replicate]; omega), List.append_nil]
theorem pk_nil (o k : Int) : pk [] o k = [] := by unfold pk; split <;> simp
theorem s15 (g : BL) (b n : Nat) (o k : Int) (h : RgOk g b n) (ho : in64 o) (hk : in64 k) : Spec Try.prog 15 [.one (.xp [.xs (g.map AC.u8) 0 g.length, .i64 b, .i64 n] 0), .one (.i64 o), .one (.i64 k)] []
    (Are (.one (.gs 0 (pk (ct g b n) o k).length 1)) [some ((pk (ct g b n) o k).map AC.u8)]) := by
  have h1 := h.n_le
  have h2 := h.b_lt
  have h3 := h.r_le
  have none : pk (ct g b n) o k = [] → Are (.one (.gs 0 (pk (ct g b n) o k).length 1)) [some ((pk (ct g b n) o k).map AC.u8)] (.one (.gs 0 0 1)) [some []] := by
    intro e; rw [e]; exact ⟨rfl, rfl⟩
  have fe : Flat [] := flat_u8 []
  refine Spec.of_run ok15 fun X hX => vc15 hX _ _ _ _ _ _ ⟨fun o0 => ⟨fe, ?_⟩, fun o0 => ⟨fun k0 => ⟨fe, ?_⟩, fun k0 => ⟨fun n0 => ⟨fe, ?_⟩, fun n0 => ?_⟩⟩⟩
  · exact none (if_pos (.inl (of_decide_eq_true o0)))
  · exact none (if_pos (.inr (of_decide_eq_true k0)))
  · have o0 := of_decide_eq_false o0
    have n0 := of_decide_eq_true n0
    refine none ?_
    have : (ct g b n).length ≤ o.toNat := by
      rw [ct_len h]
      unfold lnF at n0
      split at n0 <;> omega
    unfold pk
    rw [List.drop_of_length_le this, List.take_nil]
    split <;> rfl
  · have o0 := of_decide_eq_false o0
    have k0 := of_decide_eq_false k0
    have n0 := of_decide_eq_false n0
    obtain ⟨o', rfl⟩ := Int.eq_ofNat_of_zero_le (by omega : 0 ≤ o)
    obtain ⟨k', rfl⟩ := Int.eq_ofNat_of_zero_le (by omega : 0 ≤ k)
    have on : o' < n := by unfold lnF at n0; split at n0 <;> omega
    have hm : (b + o') % g.length < g.length := Nat.mod_lt _ (by omega)
    have key := pk_ring (k := k') h on
    have e1 : min (k' : Int) ((n : Int) - (o' : Int)) = ((min k' (n - o') : Nat) : Int) := by omega
    have ep : pk (ct g b n) (o' : Int) (k' : Int) = ((ct g b n).drop o').take k' := by
      unfold pk
      rw [if_neg (by omega), Int.toNat_natCast, Int.toNat_natCast]
    have el : (pk (ct g b n) (o' : Int) (k' : Int)).length = min k' (n - o') := by
      rw [ep, List.length_take, List.length_drop, ct_len h]
    have ez : zeros [AC.u8 (0 : BitVec 8)] (min k' (n - o')) = (List.replicate (min k' (n - o')) (0 : BitVec 8)).map AC.u8 := by
      rw [← mrep]; unfold zeros; simp
    have in1 : in64 ((n : Int) - (o' : Int)) := by unfold in64; omega
    have in2 : in64 ((b : Int) + (o' : Int)) := by unfold in64; omega
    have e2 : List.take (min (g.length - (b + o') % g.length) (min k' (n - o'))) (List.take (g.length - (b + o') % g.length) (List.drop ((b + o') % g.length) (g.map AC.u8))) = ((g.drop ((b + o') % g.length)).take (min (g.length - (b + o') % g.length) (min k' (n - o')))).map AC.u8 := by
      rw [List.take_take, Nat.min_eq_left (Nat.min_le_left _ _), tkm]
    have e3 : List.take (min g.length (min k' (n - o') - min (g.length - (b + o') % g.length) (min k' (n - o')))) (List.take g.length (g.map AC.u8)) = (g.take (min k' (n - o') - min (g.length - (b + o') % g.length) (min k' (n - o')))).map AC.u8 := by
      rw [List.take_take, tk0]
      congr 2
      omega
    rw [ep]
    have el : (((ct g b n).drop o').take k').length = min k' (n - o') := by rw [← ep]; exact el
    rw [el, ← key]
    simp only [xsRow, xsOff, xsLen, e1, tmodn, Int.toNat_natCast, Nat.sub_zero, Nat.mul_one, Nat.zero_add, List.drop_zero, ez, e2, e3, layU, List.length_map, List.length_replicate]
    have x1 : (List.take (min (g.length - (b + o') % g.length) (min k' (n - o'))) (List.drop ((b + o') % g.length) g)).length = min (g.length - (b + o') % g.length) (min k' (n - o')) := by
      rw [List.length_take, List.length_drop]; omega
    have x2 : (List.take (min k' (n - o') - min (g.length - (b + o') % g.length) (min k' (n - o'))) g).length = min k' (n - o') - min (g.length - (b + o') % g.length) (min k' (n - o')) := by
      rw [List.length_take]; omega
    have main := lay_two (List.take (min (g.length - (b + o') % g.length) (min k' (n - o'))) (List.drop ((b + o') % g.length) g)) (List.take (min k' (n - o') - min (g.length - (b + o') % g.length) (min k' (n - o'))) g)
    rw [x1, x2, show min (g.length - (b + o') % g.length) (min k' (n - o')) + (min k' (n - o') - min (g.length - (b + o') % g.length) (min k' (n - o'))) = min k' (n - o') by omega] at main
    rw [main]
    have ll : (lay8 (List.replicate (min k' (n - o')) 0) 0 (List.take (min (g.length - (b + o') % g.length) (min k' (n - o'))) (List.drop ((b + o') % g.length) g))).length = min k' (n - o') := by
      rw [lay8_len (by rw [x1, List.length_replicate]; omega), List.length_replicate]
    rw [ll]
    clear main ll x1 x2 key el e2 e3 ep ez
    generalize (b + o') % g.length = at_ at *
    exact ⟨trivial, in1, ⟨by omega, by omega, by omega, by omega⟩, trivial, in2, trivial, by omega, trivial, ⟨by omega, by omega, by omega⟩, by omega, by omega, ⟨by omega, by omega, by omega⟩, trivial, by omega, by omega, flat_u8 _, rfl, rfl⟩
theorem s11n (ps : List AC) (m : Nat) : Spec Try.prog 11 [.one .np, .one (.xs ps 0 m)] [] (Are (.one (.i64 0)) []) := by
  refine Spec.of_run ok11 fun X hX => vc11n hX _ _ ⟨nofun, fun _ => ⟨rfl, rfl⟩⟩
theorem s13n (k : Int) : Spec Try.prog 13 [.one .np, .one (.i64 k)] [] (Are (.one (.i64 2)) []) := by
  refine Spec.of_run ok13 fun X hX => vc13n hX _ ⟨nofun, fun _ => ⟨rfl, rfl⟩⟩
theorem s15n (o k : Int) : Spec Try.prog 15 [.one .np, .one (.i64 o), .one (.i64 k)] [] (Are (.one (.gs 0 0 1)) [some []]) := by
  have fe : Flat [] := flat_u8 []
  refine Spec.of_run ok15 fun X hX => vc15n hX _ _ ⟨fun _ => ⟨fe, rfl, rfl⟩, fun o0 => ⟨fun _ => ⟨fe, rfl, rfl⟩, fun _ => ⟨fun _ => ⟨fe, rfl, rfl⟩, fun n0 => ?_⟩⟩⟩
  have := of_decide_eq_false o0
  have := of_decide_eq_false n0
  omega
end DH

noncomputable section
namespace DH
open Go Go.Proofs
set_option maxRecDepth 100000 in
theorem vc12 {X : Ctx} {Q : AV → Mem → Prop} (hX : X.P = Try.prog) (ps rs : List AC) (m o l : Nat) (R : Int) (h : o + l * 1 ≤ List.length rs ∧ (l * 1 ≤ 140737488355328 ∧ l ≤ 4611686018427387904) ∧ Flat rs ∧ Flat (List.take (l * 1) (List.drop o rs)) ∧ KR X 12 2 Q (kOf Try.f12 0) (mkS 39 [(0, AV.one (AC.ptr 0 0)), (1, AV.one (AC.xs ps 0 m)), (5, AV.one (AC.i64 (0 : Int))), (6, AV.one (AC.gs 2 l 1))]) [some [AC.i64 R, AC.sv 1 o l], some rs, some (List.take (l * 1) (List.drop o rs))]) : KRun X 12 2 Q ([.code (bodyOf Try.f12)]) (slots [.one (.ptr 0 0), .one (.xs ps 0 m)] Try.f12.ntmps) [some [.i64 R, .sv 1 o l], some rs] :=
  wpRun_ok (hX ▸ baseB_ok T2 mf0 M0) (hX ▸ baseB_call T2_ok M0_ok) (hX ▸ mixed) (hX ▸ ok12) LK_ok (cast (β := wpRun (baseB T2 mf0 M0) [15, 23] [] false (RS.mk Try.f12.results.toList 2 (CS.mk [] [false] [] [])) (LK X 12 2 Q true [(3, LS.mk [0, 1, 5, 6] (CS.mk [] [false] [] []))]) Q 2000 ([.code (bodyOf Try.f12)]) (slots [.one (.ptr 0 0), .one (.xs ps 0 m)] Try.f12.ntmps) [some [.i64 R, .sv 1 o l], some rs]) (by kernel_rfl) h)
set_option maxRecDepth 100000 in
theorem vc12a {X : Ctx} {Q : AV → Mem → Prop} (hX : X.P = Try.prog) (ps rs os : List AC) (m o l k : Nat) (R i : Int) (h : (decide (i < (↑m : Int)) = true → (decide ((↑k : Int) < R) = true → ((0 : Int) ≤ i ∧ i < (↑m : Int)) ∧ gt AC.any ps (0 + Int.toNat i * 1) = AC.u8 (asU8 (gt AC.any ps (0 + Int.toNat i * 1))) ∧ 1 ≤ 1 ∧ ((k + 1) * 1 ≤ 140737488355328 ∧ k + 1 ≤ 4611686018427387904) ∧ List.length os = k * 1 ∧ in64 (i + (1 : Int)) ∧ Flat rs ∧ Flat (os ++ List.take 1 (List.drop 0 [AC.u8 (asU8 (gt AC.any ps (0 + Int.toNat i * 1)))])) ∧ KR X 12 2 Q (kOf Try.f12 0) (mkS 39 [(0, AV.one (AC.ptr 0 0)), (1, AV.one (AC.xs ps 0 m)), (5, AV.one (AC.i64 (i + (1 : Int)))), (6, AV.one (AC.gs 2 (k + 1) 1))]) [some [AC.i64 R, AC.sv 1 o l], some rs, some (os ++ List.take 1 (List.drop 0 [AC.u8 (asU8 (gt AC.any ps (0 + Int.toNat i * 1)))]))]) ∧ (decide ((↑k : Int) < R) = false → Flat rs ∧ Flat os ∧ Q (AV.one (AC.i64 i)) [some [AC.i64 R, AC.gs 2 k 1], some rs, some os])) ∧ (decide (i < (↑m : Int)) = false → Flat rs ∧ Flat os ∧ Q (AV.one (AC.i64 i)) [some [AC.i64 R, AC.gs 2 k 1], some rs, some os])) : KRun X 12 2 Q (kOf Try.f12 0) (mkS 39 [(0, .one (.ptr 0 0)), (1, .one (.xs ps 0 m)), (5, .one (.i64 i)), (6, .one (.gs 2 k 1))]) [some [.i64 R, .sv 1 o l], some rs, some os] :=
  wpRun_ok (hX ▸ baseB_ok T2 mf0 M0) (hX ▸ baseB_call T2_ok M0_ok) (hX ▸ mixed) (hX ▸ ok12) LK_ok (cast (β := wpRun (baseB T2 mf0 M0) [15, 23] [] false (RS.mk Try.f12.results.toList 2 (CS.mk [] [false] [] [])) (LK X 12 2 Q true [(3, LS.mk [0, 1, 5, 6] (CS.mk [] [false] [] []))]) Q 2000 (kOf Try.f12 0) (mkS 39 [(0, .one (.ptr 0 0)), (1, .one (.xs ps 0 m)), (5, .one (.i64 i)), (6, .one (.gs 2 k 1))]) [some [.i64 R, .sv 1 o l], some rs, some os]) (by kernel_rfl) h)
set_option maxRecDepth 100000 in
theorem vc14 {X : Ctx} {Q : AV → Mem → Prop} (hX : X.P = Try.prog) (rs : List AC) (o l : Nat) (R k : Int) (h : (decide (k < (0 : Int)) = true → Flat rs ∧ Q (AV.one (AC.i64 (1 : Int))) [some [AC.i64 R, AC.sv 1 o l], some rs]) ∧ (decide (k < (0 : Int)) = false → (decide ((↑l : Int) < k) = true → Flat rs ∧ Q (AV.one (AC.i64 (5 : Int))) [some [AC.i64 R, AC.sv 1 o l], some rs]) ∧ (decide ((↑l : Int) < k) = false → ((0 : Int) ≤ k ∧ k ≤ (↑l : Int) ∧ (↑l : Int) ≤ (↑l : Int)) ∧ Flat rs ∧ Q (AV.one (AC.i64 (0 : Int))) [some [AC.i64 R, AC.sv 1 (o + Int.toNat k * 1) (Int.toNat (↑l : Int) - Int.toNat k)], some rs]))) : KRun X 14 2 Q ([.code (bodyOf Try.f14)]) (slots [.one (.ptr 0 0), .one (.i64 k)] Try.f14.ntmps) [some [.i64 R, .sv 1 o l], some rs] :=
  wpRun_ok (hX ▸ baseB_ok T2 mf0 M0) (hX ▸ baseB_call T2_ok M0_ok) (hX ▸ mixed) (hX ▸ ok14) LK_ok (cast (β := wpRun (baseB T2 mf0 M0) [6, 13] [] false (RS.mk Try.f14.results.toList 2 (CS.mk [] [false] [] [])) (LK X 14 2 Q true []) Q 2000 ([.code (bodyOf Try.f14)]) (slots [.one (.ptr 0 0), .one (.i64 k)] Try.f14.ntmps) [some [.i64 R, .sv 1 o l], some rs]) (by kernel_rfl) h)
set_option maxRecDepth 100000 in
theorem vc16 {X : Ctx} {Q : AV → Mem → Prop} (hX : X.P = Try.prog) (rs : List AC) (l : Nat) (R o k : Int) (h : Flat [] ∧ KR X 16 0 Q (kOf Try.f16 0) (mkS 42 [(0, AV.one (AC.xp [AC.i64 R, AC.xs rs 0 l] 0)), (1, AV.one (AC.i64 o)), (2, AV.one (AC.i64 k)), (7, AV.one (AC.gs 0 0 1)), (8, AV.one (AC.i64 (0 : Int)))]) [some []]) : KRun X 16 0 Q ([.code (bodyOf Try.f16)]) (slots [.one (.xp [.i64 R, .xs rs 0 l] 0), .one (.i64 o), .one (.i64 k)] Try.f16.ntmps) [] :=
  wpRun_ok (hX ▸ baseB_ok T2 mf0 M0) (hX ▸ baseB_call T2_ok M0_ok) (hX ▸ mixed) (hX ▸ ok16) LK_ok (cast (β := wpRun (baseB T2 mf0 M0) [10, 14, 25] [] false (RS.mk Try.f16.results.toList 0 (CS.mk [(0, 2)] [] [] [])) (LK X 16 0 Q true [(3, LS.mk [0, 1, 2, 7, 8] (CS.mk [(7, 2)] [] [] []))]) Q 2000 ([.code (bodyOf Try.f16)]) (slots [.one (.xp [.i64 R, .xs rs 0 l] 0), .one (.i64 o), .one (.i64 k)] Try.f16.ntmps) []) (by kernel_rfl) h)
set_option maxRecDepth 100000 in
theorem vc16a {X : Ctx} {Q : AV → Mem → Prop} (hX : X.P = Try.prog) (rs os : List AC) (l q : Nat) (R o k i : Int) (h : (decide ((0 : Int) ≤ o) = true → (decide (i < k) = true → AC.xs rs 0 l = AC.xs (xsRow (AC.xs rs 0 l)) (xsOff (AC.xs rs 0 l)) (xsLen (AC.xs rs 0 l)) ∧ in64 ((↑(xsLen (AC.xs rs 0 l)) : Int) - o) ∧ (decide (i < (↑(xsLen (AC.xs rs 0 l)) : Int) - o) = true → AC.xs rs 0 l = AC.xs (xsRow (AC.xs rs 0 l)) (xsOff (AC.xs rs 0 l)) (xsLen (AC.xs rs 0 l)) ∧ in64 (o + i) ∧ ((0 : Int) ≤ o + i ∧ o + i < (↑(xsLen (AC.xs rs 0 l)) : Int)) ∧ gt AC.any (xsRow (AC.xs rs 0 l)) (xsOff (AC.xs rs 0 l) + Int.toNat (o + i) * 1) = AC.u8 (asU8 (gt AC.any (xsRow (AC.xs rs 0 l)) (xsOff (AC.xs rs 0 l) + Int.toNat (o + i) * 1))) ∧ 1 ≤ 1 ∧ ((q + 1) * 1 ≤ 140737488355328 ∧ q + 1 ≤ 4611686018427387904) ∧ List.length os = q * 1 ∧ in64 (i + (1 : Int)) ∧ Flat (os ++ List.take 1 (List.drop 0 [AC.u8 (asU8 (gt AC.any (xsRow (AC.xs rs 0 l)) (xsOff (AC.xs rs 0 l) + Int.toNat (o + i) * 1)))])) ∧ KR X 16 0 Q (kOf Try.f16 0) (mkS 42 [(0, AV.one (AC.xp [AC.i64 R, AC.xs rs 0 l] 0)), (1, AV.one (AC.i64 o)), (2, AV.one (AC.i64 k)), (7, AV.one (AC.gs 0 (q + 1) 1)), (8, AV.one (AC.i64 (i + (1 : Int))))]) [some (os ++ List.take 1 (List.drop 0 [AC.u8 (asU8 (gt AC.any (xsRow (AC.xs rs 0 l)) (xsOff (AC.xs rs 0 l) + Int.toNat (o + i) * 1)))]))]) ∧ (decide (i < (↑(xsLen (AC.xs rs 0 l)) : Int) - o) = false → Flat os ∧ Q (AV.one (AC.gs 0 q 1)) [some os])) ∧ (decide (i < k) = false → Flat os ∧ Q (AV.one (AC.gs 0 q 1)) [some os])) ∧ (decide ((0 : Int) ≤ o) = false → Flat os ∧ Q (AV.one (AC.gs 0 q 1)) [some os])) : KRun X 16 0 Q (kOf Try.f16 0) (mkS 42 [(0, .one (.xp [.i64 R, .xs rs 0 l] 0)), (1, .one (.i64 o)), (2, .one (.i64 k)), (7, .one (.gs 0 q 1)), (8, .one (.i64 i))]) [some os] :=
  wpRun_ok (hX ▸ baseB_ok T2 mf0 M0) (hX ▸ baseB_call T2_ok M0_ok) (hX ▸ mixed) (hX ▸ ok16) LK_ok (cast (β := wpRun (baseB T2 mf0 M0) [10, 14, 25] [] false (RS.mk Try.f16.results.toList 0 (CS.mk [(0, 2)] [] [] [])) (LK X 16 0 Q true [(3, LS.mk [0, 1, 2, 7, 8] (CS.mk [(7, 2)] [] [] []))]) Q 2000 (kOf Try.f16 0) (mkS 42 [(0, .one (.xp [.i64 R, .xs rs 0 l] 0)), (1, .one (.i64 o)), (2, .one (.i64 k)), (7, .one (.gs 0 q 1)), (8, .one (.i64 i))]) [some os]) (by kernel_rfl) h)
def rwK (R l : Nat) (p : BL) : Nat := min p.length (R - l)
theorem l12 {X : Ctx} (hX : X.P = Try.prog) (r p : BL) (o l R : Nat) (h : o + l ≤ r.length) (hl : l ≤ R) (hR : R ≤ 8192) : ∀ (d i : Nat), i + d = rwK R l p →
    KRun X 12 2 (Are (.one (.i64 (rwK R l p : Nat))) [some [.i64 (R : Nat), .gs 2 (l + rwK R l p) 1], some (r.map AC.u8), some (((r.drop o).take l ++ p.take (rwK R l p)).map AC.u8)]) (kOf Try.f12 0)
      (mkS 39 [(0, .one (.ptr 0 0)), (1, .one (.xs (p.map AC.u8) 0 p.length)), (5, .one (.i64 (i : Nat))), (6, .one (.gs 2 (l + i) 1))]) [some [.i64 (R : Nat), .sv 1 o l], some (r.map AC.u8), some (((r.drop o).take l ++ p.take i).map AC.u8)] := by
  intro d
  have k1 : rwK R l p ≤ p.length := Nat.min_le_left _ _
  have k2 : rwK R l p ≤ R - l := Nat.min_le_right _ _
  have k3 : rwK R l p = min p.length (R - l) := rfl
  induction d with
  | zero =>
    intro i hi
    have hi : i = rwK R l p := by omega
    refine vc12a hX _ _ _ _ _ _ _ _ _ ⟨fun h1 => ⟨fun h2 => ?_, fun _ => ⟨flat_u8 _, flat_u8 _, ?_⟩⟩, fun _ => ⟨flat_u8 _, flat_u8 _, ?_⟩⟩
    · have := of_decide_eq_true h1
      have := of_decide_eq_true h2
      omega
    · rw [hi]; exact ⟨rfl, rfl⟩
    · rw [hi]; exact ⟨rfl, rfl⟩
  | succ d ih =>
    intro i hi
    have hip : i < p.length := by omega
    refine vc12a hX _ _ _ _ _ _ _ _ _ ⟨fun h1 => ⟨fun h2 => ?_, fun h2 => absurd (of_decide_eq_false h2) (by omega)⟩, fun h1 => absurd (of_decide_eq_false h1) (by omega)⟩
    have ih := ih (i + 1) (by omega)
    have eg : gt AC.any (p.map AC.u8) (0 + Int.toNat ((i : Nat) : Int) * 1) = AC.u8 (p.getD i 0) := by
      rw [ixn]; exact gt_u8_at _ _ hip
    rw [eg]
    have eo : List.map AC.u8 (List.take l (List.drop o r) ++ List.take i p) ++ List.take 1 (List.drop 0 [AC.u8 (asU8 (AC.u8 (p.getD i 0)))]) = List.map AC.u8 (List.take l (List.drop o r) ++ List.take (i + 1) p) := by
      rw [← takeS p 0 hip, ← List.append_assoc, List.map_append (l₂ := [p.getD i 0])]
      rfl
    rw [eo]
    have e2 : ((i : Nat) : Int) + 1 = ((i + 1 : Nat) : Int) := by omega
    rw [e2]
    refine ⟨⟨by omega, by omega⟩, rfl, Nat.le_refl _, ⟨by omega, by omega⟩, ?_, by unfold in64; omega, flat_u8 _, flat_u8 _, ⟨ih⟩⟩
    rw [List.length_map, List.length_append, List.length_take, List.length_take, List.length_drop]
    omega
theorem s12 (r p : BL) (o l R : Nat) (h : o + l ≤ r.length) (hl : l ≤ R) (hR : R ≤ 8192) : Spec Try.prog 12 [.one (.ptr 0 0), .one (.xs (p.map AC.u8) 0 p.length)] [some [.i64 (R : Nat), .sv 1 o l], some (r.map AC.u8)]
    (Are (.one (.i64 (rwK R l p : Nat))) [some [.i64 (R : Nat), .gs 2 (l + rwK R l p) 1], some (r.map AC.u8), some (((r.drop o).take l ++ p.take (rwK R l p)).map AC.u8)]) := by
  have e : List.take (l * 1) (List.drop o (r.map AC.u8)) = ((r.drop o).take l).map AC.u8 := by rw [Nat.mul_one, tkm]
  refine Spec.of_run ok12 fun X hX => vc12 hX _ _ _ _ _ _ ⟨by rw [List.length_map]; omega, ⟨by omega, by omega⟩, flat_u8 _, by rw [e]; exact flat_u8 _, ⟨?_⟩⟩
  have := l12 hX r p o l R h hl hR (rwK R l p) 0 (by omega)
  rw [List.take_zero, List.append_nil] at this
  rw [e]
  exact this
def rdE (l : Nat) (k : Int) : Int := if k < 0 then 1 else if (l : Int) < k then 5 else 0
def rdN (l : Nat) (k : Int) : Nat := if 0 ≤ k ∧ k ≤ (l : Int) then k.toNat else 0
theorem s14 (r : BL) (o l : Nat) (R k : Int) : Spec Try.prog 14 [.one (.ptr 0 0), .one (.i64 k)] [some [.i64 R, .sv 1 o l], some (r.map AC.u8)]
    (Are (.one (.i64 (rdE l k))) [some [.i64 R, .sv 1 (o + rdN l k) (l - rdN l k)], some (r.map AC.u8)]) := by
  refine Spec.of_run ok14 fun X hX => vc14 hX _ _ _ _ _ ⟨fun k0 => ⟨flat_u8 _, ?_⟩, fun k0 => ⟨fun k1 => ⟨flat_u8 _, ?_⟩, fun k1 => ?_⟩⟩
  · have k0 := of_decide_eq_true k0
    rw [show rdE l k = 1 from if_pos k0, show rdN l k = 0 from if_neg (by omega)]
    exact ⟨rfl, rfl⟩
  · have k0 := of_decide_eq_false k0
    have k1 := of_decide_eq_true k1
    rw [show rdE l k = 5 by unfold rdE; rw [if_neg k0, if_pos k1], show rdN l k = 0 from if_neg (by omega)]
    exact ⟨rfl, rfl⟩
  · have k0 := of_decide_eq_false k0
    have k1 := of_decide_eq_false k1
    rw [show rdE l k = 0 by unfold rdE; rw [if_neg k0, if_neg k1], show rdN l k = k.toNat from if_pos (by omega), Nat.mul_one]
    exact ⟨⟨by omega, by omega, by omega⟩, flat_u8 _, rfl, rfl⟩
theorem pk_at (B : BL) (o k i : Nat) (h : i = k ∨ (i ≤ k ∧ B.length ≤ o + i)) : pk B (o : Int) (k : Int) = (B.drop o).take i := by
  unfold pk
  rw [if_neg (by omega), Int.toNat_natCast, Int.toNat_natCast]
  rcases h with h | ⟨h1, h2⟩
  · rw [h]
  · rw [List.take_of_length_le (by rw [List.length_drop]; omega), List.take_of_length_le (by rw [List.length_drop]; omega)]
theorem l16 {X : Ctx} (hX : X.P = Try.prog) (B : BL) (R : Int) (o k : Nat) (ho : in64 (o : Int)) (hk : in64 (k : Int)) (hB : B.length ≤ 8192) : ∀ (d i : Nat), i + d = min k (B.length - o) →
    KRun X 16 0 (Are (.one (.gs 0 (pk B o k).length 1)) [some ((pk B o k).map AC.u8)]) (kOf Try.f16 0)
      (mkS 42 [(0, .one (.xp [.i64 R, .xs (B.map AC.u8) 0 B.length] 0)), (1, .one (.i64 (o : Nat))), (2, .one (.i64 (k : Nat))), (7, .one (.gs 0 i 1)), (8, .one (.i64 (i : Nat)))]) [some (((B.drop o).take i).map AC.u8)] := by
  intro d
  have i1 : in64 ((B.length : Int) - (o : Int)) := by unfold in64 at *; omega
  induction d with
  | zero =>
    intro i hi
    have hp : pk B (o : Int) (k : Int) = (B.drop o).take i := pk_at B o k i (by omega)
    have hl : ((B.drop o).take i).length = i := by rw [List.length_take, List.length_drop]; omega
    rw [hp, hl]
    refine vc16a hX _ _ _ _ _ _ _ _ ⟨fun _ => ⟨fun h2 => ⟨rfl, i1, fun h3 => ?_, fun _ => ⟨flat_u8 _, rfl, rfl⟩⟩, fun _ => ⟨flat_u8 _, rfl, rfl⟩⟩, fun h => absurd (of_decide_eq_false h) (by omega)⟩
    have h2 := of_decide_eq_true h2
    have h3 : ((i : Nat) : Int) < (B.length : Int) - (o : Int) := of_decide_eq_true h3
    omega
  | succ d ih =>
    intro i hi
    have hio : o + i < B.length := by omega
    refine vc16a hX _ _ _ _ _ _ _ _ ⟨fun _ => ⟨fun h2 => ⟨rfl, i1, fun h3 => ?_, fun h3 => ?_⟩, fun h2 => absurd (of_decide_eq_false h2) (by omega)⟩, fun h => absurd (of_decide_eq_false h) (by omega)⟩
    · have ih := ih (i + 1) (by omega)
      have e1 : ((o : Nat) : Int) + ((i : Nat) : Int) = ((o + i : Nat) : Int) := by omega
      have eg : gt AC.any (xsRow (.xs (B.map AC.u8) 0 B.length)) (xsOff (.xs (B.map AC.u8) 0 B.length) + Int.toNat (((o : Nat) : Int) + ((i : Nat) : Int)) * 1) = AC.u8 (B.getD (o + i) 0) := by
        rw [e1]
        show gt AC.any (B.map AC.u8) (0 + Int.toNat (((o + i : Nat) : Nat) : Int) * 1) = _
        rw [ixn]; exact gt_u8_at _ _ hio
      rw [eg]
      have eo : List.map AC.u8 (List.take i (List.drop o B)) ++ List.take 1 (List.drop 0 [AC.u8 (asU8 (AC.u8 (B.getD (o + i) 0)))]) = List.map AC.u8 (List.take (i + 1) (List.drop o B)) := by
        rw [← takeS (B.drop o) 0 (by rw [List.length_drop]; omega), getD_drop, List.map_append]
        rfl
      rw [eo]
      have e2 : ((i : Nat) : Int) + 1 = ((i + 1 : Nat) : Int) := by omega
      rw [e2]
      refine ⟨rfl, by unfold in64; omega, ⟨by omega, ?_⟩, rfl, Nat.le_refl _, ⟨by omega, by omega⟩, ?_, by unfold in64; omega, flat_u8 _, ⟨ih⟩⟩
      · show ((o : Nat) : Int) + ((i : Nat) : Int) < (B.length : Int); omega
      · rw [List.length_map, List.length_take, List.length_drop]; omega
    · have h3 : ¬ ((i : Nat) : Int) < (B.length : Int) - (o : Int) := of_decide_eq_false h3
      omega
theorem s16 (B : BL) (R o k : Int) (ho : in64 o) (hk : in64 k) (hB : B.length ≤ 8192) : Spec Try.prog 16 [.one (.xp [.i64 R, .xs (B.map AC.u8) 0 B.length] 0), .one (.i64 o), .one (.i64 k)] []
    (Are (.one (.gs 0 (pk B o k).length 1)) [some ((pk B o k).map AC.u8)]) := by
  refine Spec.of_run ok16 fun X hX => vc16 hX _ _ _ _ _ ⟨flat_u8 [], ⟨?_⟩⟩
  have none : pk B o k = [] → Are (.one (.gs 0 (pk B o k).length 1)) [some ((pk B o k).map AC.u8)] (.one (.gs 0 0 1)) [some []] := by
    intro e; rw [e]; exact ⟨rfl, rfl⟩
  by_cases o0 : o < 0
  · refine vc16a hX _ _ _ _ _ _ _ _ ⟨fun h => absurd (of_decide_eq_true h) (by omega), fun _ => ⟨flat_u8 [], none (if_pos (.inl o0))⟩⟩
  · by_cases k0 : k < 0
    · refine vc16a hX _ _ _ _ _ _ _ _ ⟨fun _ => ⟨fun h => absurd (of_decide_eq_true h) (by omega), fun _ => ⟨flat_u8 [], none (if_pos (.inr k0))⟩⟩, fun _ => ⟨flat_u8 [], none (if_pos (.inr k0))⟩⟩
    · obtain ⟨o', rfl⟩ := Int.eq_ofNat_of_zero_le (by omega : 0 ≤ o)
      obtain ⟨k', rfl⟩ := Int.eq_ofNat_of_zero_le (by omega : 0 ≤ k)
      have := l16 hX B R o' k' ho hk hB (min k' (B.length - o')) 0 (by omega)
      rw [List.take_zero] at this
      exact this
end DH
