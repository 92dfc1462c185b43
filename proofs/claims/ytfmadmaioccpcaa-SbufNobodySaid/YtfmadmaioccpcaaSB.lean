/- Walks of functions, each by evaluation: what each returns; with the layer beneath. -/
import Derived.Test.YtfmadmaioccpcaaSA
set_option linter.unusedVariables false
set_option linter.unusedSimpArgs false
noncomputable section
namespace DH
open Go Go.Proofs
def zr (n : Nat) : BL := List.replicate n 0
theorem zerosU (n : Nat) : zeros [AC.u8 (0 : BitVec 8)] n = (zr n).map AC.u8 := by
  unfold zr; rw [← mrep]; unfold zeros; simp
theorem s6 (n : Int) (h1 : 1 ≤ n) (h2 : n ≤ 8192) : Spec Try.prog 6 [.one (.i64 n)] [] (Are (.tup [.one (.ptr 0 0), .one (.i64 0)]) [some [.gs 1 n.toNat 1, .i64 0, .i64 0], some ((zr n.toNat).map AC.u8)]) := by
  refine Spec.of_run ok6 fun X hX => vc6 hX _ ⟨fun h => absurd (of_decide_eq_true h) (by omega), fun _ => ⟨fun h => absurd (of_decide_eq_true h) (by omega), fun _ => ⟨⟨by omega, by omega, by omega, by omega⟩, ?_, ?_⟩⟩⟩
  · rw [zerosU]; exact flat_u8 _
  · rw [zerosU]; exact ⟨rfl, rfl⟩
theorem s6x (n : Int) (h : n < 1 ∨ 8192 < n) : Spec Try.prog 6 [.one (.i64 n)] [] (Are (.tup [.one .np, .one (.i64 1)]) []) := by
  refine Spec.of_run ok6 fun X hX => vc6 hX _ ⟨fun _ => ⟨rfl, rfl⟩, fun g => ⟨fun _ => ⟨rfl, rfl⟩, fun g2 => ?_⟩⟩
  have := of_decide_eq_false g
  have := of_decide_eq_false g2
  omega
def rmE (n : Int) : Int := if n < 1 ∨ 8192 < n then 1 else 0
def rmR (n : Int) : Int := if n < 1 ∨ 8192 < n then 0 else n
theorem s7 (n : Int) : Spec Try.prog 7 [.one (.i64 n)] [] (Is (.tup [.agg [.i64 (rmR n), .ns], .one (.i64 (rmE n))])) := by
  have f0 : ∀ k : Int, flatAV (.agg [.i64 k, .ns]) := fun k => flatLB_ok rfl
  refine Spec.of_run ok7 fun X hX => vc7 hX _ ⟨fun h => ⟨f0 _, ?_⟩, fun g => ⟨fun h => ⟨f0 _, ?_⟩, fun h => ⟨f0 _, ?_⟩⟩⟩
  · have h := of_decide_eq_true h
    rw [show rmE n = 1 from if_pos (.inl h), show rmR n = 0 from if_pos (.inl h)]; exact rfl
  · have h := of_decide_eq_true h
    rw [show rmE n = 1 from if_pos (.inr h), show rmR n = 0 from if_pos (.inr h)]; exact rfl
  · have h := of_decide_eq_false h
    have g := of_decide_eq_false g
    rw [show rmE n = 0 from if_neg (by omega), show rmR n = n from if_neg (by omega)]; exact rfl
theorem s10 (row : List AC) (n : Nat) : Spec Try.prog 10 [.one (.xs row 0 n)] [] (Are (.one (.xs row 0 (min n 150))) []) := by
  refine Spec.of_run ok10 fun X hX => vc10 hX _ _ ⟨⟨by omega, by omega, by omega⟩, ?_⟩
  rw [show Int.toNat (min (n : Int) 150) - 0 = min n 150 by omega]
  exact ⟨rfl, rfl⟩
structure Stp where
  k : BitVec 8
  p : BL
  o : Int
  n : Int
def encS (s : Stp) : List AC := [.u8 s.k, .xs (s.p.map AC.u8) 0 s.p.length, .i64 s.o, .i64 s.n]
def decS : List AC → List Stp
  | a :: b :: c :: d :: l => ⟨asU8 a, (xsRow b).map asU8, asI64 c, asI64 d⟩ :: decS l
  | _ => []
theorem dec_enc (l : List Stp) : decS (l.flatMap encS) = l := by
  induction l with
  | nil => rfl
  | cons s l ih =>
    rw [List.flatMap_cons]
    show (⟨_, _, _, _⟩ : Stp) :: decS (l.flatMap encS) = _
    rw [ih]
    show (⟨s.k, (s.p.map AC.u8).map asU8, s.o, s.n⟩ : Stp) :: l = s :: l
    rw [map_as8]
noncomputable def M3 : TabM := fun f xs m => match f, xs, m with
  | 10, [.one (.xs row 0 n)], [] => some ([], .one (.xs row 0 (min n 150)), [])
  | _, _, _ => none
noncomputable def mf3 : FuncId → Option MF := fun f => match f with
  | 10 => some { cs := {kinds := [], fl := []}, flo := [] }
  | _ => none
theorem M3_ok : TabMOk Try.prog M3 := by
  intro f xs m cs r m1 h hc
  unfold M3 at h
  split at h
  · simp only [Option.some.injEq, Prod.mk.injEq] at h; obtain ⟨rfl, rfl, rfl⟩ := h
    exact ⟨⟨_, _, ok10⟩, s10 _ _⟩
  · cases h
set_option maxRecDepth 100000 in
theorem vc8 {X : Ctx} {Q : AV → Mem → Prop} (hX : X.P = Try.prog) (row : List AC) (n : Nat) (h : KR X 8 0 Q (kOf Try.f8 0) (mkS 22 [(3, AV.one (AC.i64 (0 : Int))), (7, AV.one (AC.xs row 0 (min n 150))), (8, AV.one (AC.i64 (↑(min n 150) : Int))), (9, AV.one (AC.i64 (0 : Int)))]) []) : KRun X 8 0 Q ([.code (bodyOf Try.f8)]) (slots [.one (.xs row 0 n)] Try.f8.ntmps) [] :=
  wpRun_ok (hX ▸ baseB_ok T2 mf3 M3) (hX ▸ baseB_call T2_ok M3_ok) (hX ▸ mixed) (hX ▸ ok8) LK_ok (cast (β := wpRun (baseB T2 mf3 M3) [10] [] false (RS.mk Try.f8.results.toList 0 (CS.mk [] [] [] [])) (LK X 8 0 Q true [(3, LS.mk [3, 7, 8, 9] (CS.mk [] [] [] []))]) Q 2000 ([.code (bodyOf Try.f8)]) (slots [.one (.xs row 0 n)] Try.f8.ntmps) []) (by kernel_rfl) h)
set_option maxRecDepth 100000 in
theorem vc8a {X : Ctx} {Q : AV → Mem → Prop} (hX : X.P = Try.prog) (row : List AC) (m : Nat) (s i : Int) (h : (decide (i < (↑m : Int)) = true → ((0 : Int) ≤ i ∧ i < (↑m : Int)) ∧ gt AC.any row (0 + Int.toNat i * 4) = AC.u8 (asU8 (gt AC.any row (0 + Int.toNat i * 4))) ∧ gt AC.any row (0 + Int.toNat i * 4 + 1) = AC.xs (xsRow (gt AC.any row (0 + Int.toNat i * 4 + 1))) (xsOff (gt AC.any row (0 + Int.toNat i * 4 + 1))) (xsLen (gt AC.any row (0 + Int.toNat i * 4 + 1))) ∧ gt AC.any row (0 + Int.toNat i * 4 + 1 + 1) = AC.i64 (asI64 (gt AC.any row (0 + Int.toNat i * 4 + 1 + 1))) ∧ gt AC.any row (0 + Int.toNat i * 4 + 1 + 1 + 1) = AC.i64 (asI64 (gt AC.any row (0 + Int.toNat i * 4 + 1 + 1 + 1))) ∧ in64 (s + min (↑(xsLen (gt AC.any row (0 + Int.toNat i * 4 + 1))) : Int) (20000 : Int)) ∧ in64 (i + (1 : Int)) ∧ KR X 8 0 Q (kOf Try.f8 0) (mkS 22 [(3, AV.one (AC.i64 (s + min (↑(xsLen (gt AC.any row (0 + Int.toNat i * 4 + 1))) : Int) (20000 : Int)))), (7, AV.one (AC.xs row 0 m)), (8, AV.one (AC.i64 (↑m : Int))), (9, AV.one (AC.i64 (i + (1 : Int))))]) []) ∧ (decide (i < (↑m : Int)) = false → Q (AV.one (AC.b (decide ((20000 : Int) < s)))) [])) : KRun X 8 0 Q (kOf Try.f8 0) (mkS 22 [(3, .one (.i64 s)), (7, .one (.xs row 0 m)), (8, .one (.i64 m)), (9, .one (.i64 i))]) [] :=
  wpRun_ok (hX ▸ baseB_ok T2 mf3 M3) (hX ▸ baseB_call T2_ok M3_ok) (hX ▸ mixed) (hX ▸ ok8) LK_ok (cast (β := wpRun (baseB T2 mf3 M3) [10] [] false (RS.mk Try.f8.results.toList 0 (CS.mk [] [] [] [])) (LK X 8 0 Q true [(3, LS.mk [3, 7, 8, 9] (CS.mk [] [] [] []))]) Q 2000 (kOf Try.f8 0) (mkS 22 [(3, .one (.i64 s)), (7, .one (.xs row 0 m)), (8, .one (.i64 m)), (9, .one (.i64 i))]) []) (by kernel_rfl) h)
theorem encS_len (s : Stp) : (encS s).length = 4 := rfl
theorem rowS {l : List Stp} {i : Nat} {s : Stp} (h : l[i]? = some s) : gt AC.any (l.flatMap encS) (0 + Int.toNat (i : Int) * 4) = .u8 s.k ∧ gt AC.any (l.flatMap encS) (0 + Int.toNat (i : Int) * 4 + 1) = .xs (s.p.map AC.u8) 0 s.p.length ∧
    gt AC.any (l.flatMap encS) (0 + Int.toNat (i : Int) * 4 + 1 + 1) = .i64 s.o ∧ gt AC.any (l.flatMap encS) (0 + Int.toNat (i : Int) * 4 + 1 + 1 + 1) = .i64 s.n := by
  obtain ⟨hi, rfl⟩ := List.getElem?_eq_some_iff.1 h
  have g := fun j hj => gt_rows encS 4 encS_len l i j hi hj
  have e0 := g 0 (by omega)
  have e1 := g 1 (by omega)
  have e2 := g 2 (by omega)
  have e3 := g 3 (by omega)
  rw [Int.toNat_natCast, Nat.zero_add]
  exact ⟨e0, e1, e2, e3⟩
def fS (l : List Stp) (i : Nat) : Nat := ((l.take i).map fun s => min s.p.length 20000).sum
theorem fS_succ {l : List Stp} {i : Nat} {s : Stp} (h : l[i]? = some s) : fS l (i + 1) = fS l i + min s.p.length 20000 := by
  unfold fS
  rw [List.take_add_one, h]
  simp
theorem fS_le (l : List Stp) (i : Nat) : fS l i ≤ i * 20000 := by
  unfold fS
  have : ∀ q : List Stp, (q.map fun s => min s.p.length 20000).sum ≤ q.length * 20000 := by
    intro q
    induction q with
    | nil => simp
    | cons a q ih => rw [List.map_cons, List.sum_cons, List.length_cons, Nat.add_mul]; omega
  refine Nat.le_trans (this _) (Nat.mul_le_mul_right _ ?_)
  rw [List.length_take]
  omega
def farF (l : List Stp) : Bool := decide (20000 < fS l (min l.length 150))
theorem l8 {X : Ctx} (hX : X.P = Try.prog) (l : List Stp) : ∀ (d i : Nat), i + d = min l.length 150 →
    KRun X 8 0 (Is (.one (.b (farF l)))) (kOf Try.f8 0) (mkS 22 [(3, .one (.i64 (fS l i : Nat))), (7, .one (.xs (l.flatMap encS) 0 (min l.length 150))), (8, .one (.i64 (min l.length 150 : Nat))), (9, .one (.i64 (i : Nat)))]) [] := by
  intro d
  induction d with
  | zero =>
    intro i hi
    refine vc8a hX _ _ _ _ ⟨fun h => absurd (of_decide_eq_true h) (by omega), fun _ => ?_⟩
    have hi : i = min l.length 150 := by omega
    rw [hi, decide_eq_decide.2 (show (20000 < ((fS l (min l.length 150) : Nat) : Int)) ↔ 20000 < fS l (min l.length 150) by omega)]
    exact rfl
  | succ d ih =>
    intro i hi
    obtain ⟨s, hs⟩ : ∃ s, l[i]? = some s := ⟨_, List.getElem?_eq_getElem (by omega)⟩
    refine vc8a hX _ _ _ _ ⟨fun _ => ?_, fun h => absurd (of_decide_eq_false h) (by omega)⟩
    obtain ⟨e0, e1, e2, e3⟩ := rowS hs
    have ih := ih (i + 1) (by omega)
    have b := fS_le l i
    rw [fS_succ hs] at ih
    rw [e0, e1, e2, e3]
    have e5 : ((fS l i : Nat) : Int) + min ((xsLen (.xs (s.p.map AC.u8) 0 s.p.length) : Nat) : Int) 20000 = ((fS l i + min s.p.length 20000 : Nat) : Int) := by
      show ((fS l i : Nat) : Int) + min ((s.p.length : Nat) : Int) 20000 = _; omega
    rw [e5, show ((i : Nat) : Int) + 1 = ((i + 1 : Nat) : Int) by omega]
    refine ⟨⟨by omega, by omega⟩, rfl, rfl, rfl, rfl, ?_, by unfold in64; omega, ⟨ih⟩⟩
    have : i * 20000 ≤ 150 * 20000 := Nat.mul_le_mul_right _ (by omega)
    unfold in64; omega
theorem s8 (l : List Stp) : Spec Try.prog 8 [.one (.xs (l.flatMap encS) 0 l.length)] [] (Is (.one (.b (farF l)))) := by
  refine Spec.of_run ok8 fun X hX => vc8 hX _ _ ⟨?_⟩
  exact l8 hX l (min l.length 150) 0 (by omega)
def okS (row : List AC) (n : Nat) : Prop := row = (decS row).flatMap encS ∧ n = (decS row).length
noncomputable def inlL : Inl := fun f => match f with
  | 6 => some (Try.f6, [])
  | 11 => some (Try.f11, [(6, 7)])
  | 13 => some (Try.f13, [(7, 15)])
  | 15 => some (Try.f15, [(6, 7)])
  | 17 => some (Try.f17, [])
  | 18 => some (Try.f18, [])
  | 19 => some (Try.f19, [])
  | _ => none
theorem inlL_ok : InlOk Try.prog inlL := by
  intro f fn hs h
  unfold inlL at h
  split at h <;> first | (cases h; done) | (obtain ⟨rfl, _⟩ := Prod.mk.inj (Option.some.inj h); first | exact ok6 | exact ok11 | exact ok13 | exact ok15 | exact ok17 | exact ok18 | exact ok19)
theorem s9 : Spec Try.prog 9 [] [] (Is (.one (.b true))) :=
  Spec.lit (litE_envOk (baseB_ok T0 mf0 M0) inlL 6) (litE_ok (baseB_ok T0 mf0 M0) (baseB_call T0_ok M0_ok) mixed inlL_ok 6) mixed ok9 (hs := []) (n := 1000) (by kernel_rfl)
noncomputable def T3 : Tab := fun f xs => match f, xs with
  | 7, [.one (.i64 n)] => some ([], .tup [.agg [.i64 (rmR n), .ns], .one (.i64 (rmE n))])
  | 8, [.one (.xs row 0 n)] => some ([okS row n], .one (.b (farF (decS row))))
  | 9, [] => some ([], .one (.b true))
  | f, xs => T2 f xs
theorem T3_ok : TabOk Try.prog T3 := by
  intro f xs cs r h hc
  unfold T3 at h
  split at h
  · obtain ⟨rfl, rfl⟩ := Prod.mk.inj (Option.some.inj h)
    exact ⟨⟨_, _, ok7⟩, s7 _, exactB_ok (v := .tup _) rfl⟩
  · obtain ⟨rfl, rfl⟩ := Prod.mk.inj (Option.some.inj h)
    obtain ⟨h1, h2⟩ := hc.1
    refine ⟨⟨_, _, ok8⟩, ?_, rfl⟩
    have := s8 (decS (by assumption : List AC))
    rw [← h1, ← h2] at this
    exact this
  · obtain ⟨rfl, rfl⟩ := Prod.mk.inj (Option.some.inj h)
    exact ⟨⟨_, _, ok9⟩, s9, rfl⟩
  · exact T2_ok _ _ _ _ h hc
def u8s (row : List AC) : BL := row.map asU8
def bufOk (rs : List AC) (R : Nat) (b n : Int) : Prop := rs = (u8s rs).map AC.u8 ∧ R = rs.length ∧ 0 ≤ b ∧ 0 ≤ n ∧ RgOk (u8s rs) b.toNat n.toNat
noncomputable def M4 (inR : Bool) : TabM := fun f xs m => match f, xs, m with
  | 6, [.one (.i64 n)], [] => (match inR with
    | true => some ([1 ≤ n ∧ n ≤ 8192], .tup [.one (.ptr 0 0), .one (.i64 0)], [some [.gs 1 n.toNat 1, .i64 0, .i64 0], some ((zr n.toNat).map AC.u8)])
    | false => some ([n < 1 ∨ 8192 < n], .tup [.one .np, .one (.i64 1)], []))
  | 11, [.one .np, .one (.xs _ 0 _)], [] => some ([], .one (.i64 0), [])
  | 13, [.one .np, .one (.i64 _)], [] => some ([], .one (.i64 2), [])
  | 15, [.one .np, .one (.i64 _), .one (.i64 _)], [] => some ([], .one (.gs 0 0 1), [some []])
  | 11, [.one (.ptr 0 0), .one (.xs ps 0 m)], [some [.sv 1 0 R, .i64 b, .i64 n], some rs] => some ([bufOk rs R b n, ps = (u8s ps).map AC.u8 ∧ m = ps.length],
      .one (.i64 ((wrM (u8s rs) n.toNat (u8s ps) : Nat) : Int)), [some [.sv 1 0 R, .i64 b, .i64 ((n.toNat + wrM (u8s rs) n.toNat (u8s ps) : Nat) : Int)], some ((wrR (u8s rs) b.toNat n.toNat (u8s ps)).map AC.u8)])
  | 13, [.one (.ptr 0 0), .one (.i64 k)], [some [.sv 1 0 R, .i64 b, .i64 n], some rs] => some ([bufOk rs R b n],
      .one (.i64 (drE (u8s rs) n.toNat k)), [some [.sv 1 0 R, .i64 (drB (u8s rs) b.toNat n.toNat k : Nat), .i64 ((n.toNat - drN (u8s rs) n.toNat k : Nat) : Int)], some rs])
  | 15, [.one (.xp [.xs rs 0 R, .i64 b, .i64 n] 0), .one (.i64 o), .one (.i64 k)], [] => some ([bufOk rs R b n, in64 o ∧ in64 k],
      .one (.gs 0 (pk (ct (u8s rs) b.toNat n.toNat) o k).length 1), [some ((pk (ct (u8s rs) b.toNat n.toNat) o k).map AC.u8)])
  | 12, [.one (.ptr 0 0), .one (.xs ps 0 m)], [some [.i64 R, .sv 1 o l], some rs] => some ([rs = (u8s rs).map AC.u8 ∧ ps = (u8s ps).map AC.u8 ∧ m = ps.length ∧ o + l ≤ rs.length ∧ (l : Int) ≤ R ∧ R ≤ 8192],
      .one (.i64 (rwK R.toNat l (u8s ps) : Nat)), [some [.i64 R, .gs 2 (l + rwK R.toNat l (u8s ps)) 1], some rs, some ((((u8s rs).drop o).take l ++ (u8s ps).take (rwK R.toNat l (u8s ps))).map AC.u8)])
  | 14, [.one (.ptr 0 0), .one (.i64 k)], [some [.i64 R, .sv 1 o l], some rs] => some ([rs = (u8s rs).map AC.u8], .one (.i64 (rdE l k)), [some [.i64 R, .sv 1 (o + rdN l k) (l - rdN l k)], some rs])
  | 16, [.one (.xp [.i64 _, .xs rs 0 l] 0), .one (.i64 o), .one (.i64 k)], [] => some ([rs = (u8s rs).map AC.u8 ∧ l = rs.length ∧ l ≤ 8192, in64 o ∧ in64 k],
      .one (.gs 0 (pk (u8s rs) o k).length 1), [some ((pk (u8s rs) o k).map AC.u8)])
  | f, xs, m => M3 f xs m
theorem u8s_len (rs : List AC) : (u8s rs).length = rs.length := List.length_map _
theorem M4_ok (inR : Bool) : TabMOk Try.prog (M4 inR) := by
  intro f xs m cs r m1 h hc
  unfold M4 at h
  split at h
  · cases inR with
    | true =>
      simp only [Option.some.injEq, Prod.mk.injEq] at h; obtain ⟨rfl, rfl, rfl⟩ := h
      exact ⟨⟨_, _, ok6⟩, s6 _ hc.1.1 hc.1.2⟩
    | false =>
      simp only [Option.some.injEq, Prod.mk.injEq] at h; obtain ⟨rfl, rfl, rfl⟩ := h
      exact ⟨⟨_, _, ok6⟩, s6x _ hc.1⟩
  · simp only [Option.some.injEq, Prod.mk.injEq] at h; obtain ⟨rfl, rfl, rfl⟩ := h
    exact ⟨⟨_, _, ok11⟩, s11n _ _⟩
  · simp only [Option.some.injEq, Prod.mk.injEq] at h; obtain ⟨rfl, rfl, rfl⟩ := h
    exact ⟨⟨_, _, ok13⟩, s13n _⟩
  · simp only [Option.some.injEq, Prod.mk.injEq] at h; obtain ⟨rfl, rfl, rfl⟩ := h
    exact ⟨⟨_, _, ok15⟩, s15n _ _⟩
  · simp only [Option.some.injEq, Prod.mk.injEq] at h; obtain ⟨rfl, rfl, rfl⟩ := h
    obtain ⟨⟨h1, h2, h3, h4, h5⟩, ⟨h6, h7⟩, h99⟩ := hc
    rename_i ps m R b n rs
    obtain ⟨b', rfl⟩ := Int.eq_ofNat_of_zero_le h3
    obtain ⟨n', rfl⟩ := Int.eq_ofNat_of_zero_le h4
    have := s11 (u8s rs) (u8s ps) b' n' h5
    rw [u8s_len, u8s_len, ← h2, ← h7, ← h6, ← h1] at this
    exact ⟨⟨_, _, ok11⟩, this⟩
  · simp only [Option.some.injEq, Prod.mk.injEq] at h; obtain ⟨rfl, rfl, rfl⟩ := h
    obtain ⟨⟨h1, h2, h3, h4, h5⟩, h99⟩ := hc
    rename_i k R b n rs
    obtain ⟨b', rfl⟩ := Int.eq_ofNat_of_zero_le h3
    obtain ⟨n', rfl⟩ := Int.eq_ofNat_of_zero_le h4
    have := s13 (u8s rs) b' n' k h5
    rw [u8s_len, ← h2, ← h1] at this
    exact ⟨⟨_, _, ok13⟩, this⟩
  · simp only [Option.some.injEq, Prod.mk.injEq] at h; obtain ⟨rfl, rfl, rfl⟩ := h
    obtain ⟨⟨h1, h2, h3, h4, h5⟩, ⟨h6, h7⟩, h99⟩ := hc
    rename_i rs R b n o k
    obtain ⟨b', rfl⟩ := Int.eq_ofNat_of_zero_le h3
    obtain ⟨n', rfl⟩ := Int.eq_ofNat_of_zero_le h4
    have := s15 (u8s rs) b' n' o k h5 h6 h7
    rw [u8s_len, ← h2, ← h1] at this
    exact ⟨⟨_, _, ok15⟩, this⟩
  · simp only [Option.some.injEq, Prod.mk.injEq] at h; obtain ⟨rfl, rfl, rfl⟩ := h
    obtain ⟨⟨h1, h2, h3, h4, h5, h6⟩, h99⟩ := hc
    rename_i ps m R o l rs
    obtain ⟨R', rfl⟩ := Int.eq_ofNat_of_zero_le (show 0 ≤ R by omega)
    have := s12 (u8s rs) (u8s ps) o l R' (by rw [u8s_len]; exact h4) (by omega) (by omega)
    rw [u8s_len, ← h3, ← h2, ← h1] at this
    exact ⟨⟨_, _, ok12⟩, this⟩
  · simp only [Option.some.injEq, Prod.mk.injEq] at h; obtain ⟨rfl, rfl, rfl⟩ := h
    rename_i k R o l rs
    have := s14 (u8s rs) o l R k
    rw [← hc.1] at this
    exact ⟨⟨_, _, ok14⟩, this⟩
  · simp only [Option.some.injEq, Prod.mk.injEq] at h; obtain ⟨rfl, rfl, rfl⟩ := h
    obtain ⟨⟨h1, h2, h3⟩, ⟨h6, h7⟩, h99⟩ := hc
    rename_i R rs l o k
    have := s16 (u8s rs) R o k h6 h7 (by rw [u8s_len]; omega)
    rw [u8s_len, ← h2, ← h1] at this
    exact ⟨⟨_, _, ok16⟩, this⟩
  · exact M3_ok _ _ _ _ _ _ h hc
noncomputable def mf4 : FuncId → Option MF := fun f => match f with
  | 6 => some { cs := {kinds := [], fl := []}, flo := [false, true], fresh := true }
  | 11 => some { cs := {kinds := [], fl := [false, true], cells := [(0, 0, 0)]}, flo := [false, true] }
  | 12 => some { cs := {kinds := [], fl := [false, true], cells := [(0, 1, 0)]}, flo := [false, true, true] }
  | 13 => some { cs := {kinds := [], fl := [false, true], cells := [(0, 0, 0)]}, flo := [false, true] }
  | 14 => some { cs := {kinds := [], fl := [false, true], cells := [(0, 1, 0)]}, flo := [false, true] }
  | 15 => some { cs := {kinds := [], fl := []}, flo := [true], fresh := true }
  | 16 => some { cs := {kinds := [], fl := []}, flo := [true], fresh := true }
  | f => mf3 f
end DH

noncomputable section
namespace DH
open Go Go.Proofs
set_option maxRecDepth 100000 in
theorem vc3 {X : Ctx} {Q : AV → Mem → Prop} (hX : X.P = Try.prog) (row : List AC) (n : Nat) (R : Int) (h : ((1 : Int) ≤ R ∧ R ≤ (8192 : Int)) ∧ ExactL (List.map AC.u8 (zr (Int.toNat R))) ∧ ((!decide ((0 : Int) = rmE R)) = true → (decide ((0 : Int) = rmE R) = true → (((!false) == decide (rmE R = (0 : Int))) = true → Q (AV.one (AC.b true)) []) ∧ (((!false) == decide (rmE R = (0 : Int))) = false → Q (AV.one (AC.b false)) [])) ∧ (decide ((0 : Int) = rmE R) = false → Q (AV.one (AC.b false)) [])) ∧ ((!decide ((0 : Int) = rmE R)) = false → ((!decide (rmE R = (0 : Int))) = true → (decide ((0 : Int) = rmE R) = true → (((!false) == decide (rmE R = (0 : Int))) = true → Q (AV.one (AC.b true)) []) ∧ (((!false) == decide (rmE R = (0 : Int))) = false → Q (AV.one (AC.b false)) [])) ∧ (decide ((0 : Int) = rmE R) = false → Q (AV.one (AC.b false)) [])) ∧ ((!decide (rmE R = (0 : Int))) = false → (false = true → (decide ((0 : Int) = rmE R) = true → (((!false) == decide (rmE R = (0 : Int))) = true → Q (AV.one (AC.b true)) []) ∧ (((!false) == decide (rmE R = (0 : Int))) = false → Q (AV.one (AC.b false)) [])) ∧ (decide ((0 : Int) = rmE R) = false → Q (AV.one (AC.b false)) [])) ∧ (false = false → 0 + n * 4 ≤ List.length row ∧ okS (List.take (n * 4) (List.drop 0 row)) n ∧ (farF (decS (List.take (n * 4) (List.drop 0 row))) = true → (decide ((0 : Int) = rmE R) = true → (((!false) == decide (rmE R = (0 : Int))) = true → Q (AV.one (AC.b true)) []) ∧ (((!false) == decide (rmE R = (0 : Int))) = false → Q (AV.one (AC.b false)) [])) ∧ (decide ((0 : Int) = rmE R) = false → Q (AV.one (AC.b false)) [])) ∧ (farF (decS (List.take (n * 4) (List.drop 0 row))) = false → Flat (List.map AC.u8 (zr (Int.toNat R))) ∧ Flat [] ∧ KR X 3 0 Q (kOf Try.f3 0) (mkS 126 [(0, AV.one (AC.i64 R)), (5, AV.one (AC.ptr 0 0)), (7, AV.one (AC.ptr 1 0)), (51, AV.one (AC.xs row 0 (min n 150))), (52, AV.one (AC.i64 (↑(min n 150) : Int))), (53, AV.one (AC.i64 (0 : Int)))]) [some [AC.sv 2 0 (Int.toNat R), AC.i64 (0 : Int), AC.i64 (0 : Int)], some [AC.i64 (rmR R), AC.sv 3 0 0], some (List.map AC.u8 (zr (Int.toNat R))), some []]))))) : KRun X 3 0 Q ([.code (bodyOf Try.f3)]) (slots [.one (.i64 R), .one (.xs row 0 n)] Try.f3.ntmps) [] :=
  wpRun_ok (hX ▸ baseB_ok T3 mf4 (M4 true)) (hX ▸ baseB_call T3_ok (M4_ok true)) (hX ▸ mixed) (hX ▸ ok3) LK_ok (cast (β := wpRun (baseB T3 mf4 (M4 true)) [24, 27, 31, 35, 39, 45, 54, 73, 75, 83, 85, 93, 102, 112, 122] [(12, 3), (14, 3), (10, 5), (15, 23), (100007, 0), (100012, 0), (100014, 0), (100010, 0), (200012, 0), (200014, 0), (200010, 0), (200015, 0)] false (RS.mk Try.f3.results.toList 0 (CS.mk [] [] [] [])) (LK X 3 0 Q true [(8, LS.mk [0, 5, 7, 10, 51, 52, 53] (CS.mk [] [false, false, false, true, true] [] [(5, 0, 0), (7, 1, 0)])), (0, LS.mk [0, 5, 7, 11, 51, 52, 53] (CS.mk [] [false, false, true, true] [] [(5, 0, 0), (7, 1, 0)])), (0, LS.mk [0, 5, 7, 11, 51, 52, 53] (CS.mk [] [false, false, true, true] [] [(5, 0, 0), (7, 1, 0)])), (0, LS.mk [0, 5, 7, 11, 51, 52, 53] (CS.mk [] [false, false, true, true] [] [(5, 0, 0), (7, 1, 0)])), (6, LS.mk [0, 5, 7, 51, 52, 53] (CS.mk [] [false, false, true, true] [] [(5, 0, 0), (7, 1, 0)]))]) Q 2000 ([.code (bodyOf Try.f3)]) (slots [.one (.i64 R), .one (.xs row 0 n)] Try.f3.ntmps) []) (by kernel_rfl) h)
set_option maxRecDepth 100000 in
theorem vc3a {X : Ctx} {Q : AV → Mem → Prop} (hX : X.P = Try.prog) (row rs bs : List AC) (R k o l : Nat) (b n i : Int) (h : (decide (i < (↑k : Int)) = true → ((0 : Int) ≤ i ∧ i < (↑k : Int)) ∧ gt AC.any row (0 + Int.toNat i * 4) = AC.u8 (asU8 (gt AC.any row (0 + Int.toNat i * 4))) ∧ gt AC.any row (0 + Int.toNat i * 4 + 1) = AC.xs (xsRow (gt AC.any row (0 + Int.toNat i * 4 + 1))) (xsOff (gt AC.any row (0 + Int.toNat i * 4 + 1))) (xsLen (gt AC.any row (0 + Int.toNat i * 4 + 1))) ∧ gt AC.any row (0 + Int.toNat i * 4 + 1 + 1) = AC.i64 (asI64 (gt AC.any row (0 + Int.toNat i * 4 + 1 + 1))) ∧ gt AC.any row (0 + Int.toNat i * 4 + 1 + 1 + 1) = AC.i64 (asI64 (gt AC.any row (0 + Int.toNat i * 4 + 1 + 1 + 1))) ∧ Flat rs ∧ Flat bs ∧ KR X 3 0 Q (kCut Try.f3 7) (mkS 126 [(0, AV.one (AC.i64 (↑R : Int))), (5, AV.one (AC.ptr 0 0)), (7, AV.one (AC.ptr 1 0)), (10, AV.one (AC.ptr 2 0)), (51, AV.one (AC.xs row 0 k)), (52, AV.one (AC.i64 (↑k : Int))), (53, AV.one (AC.i64 i))]) [some [AC.sv 3 0 R, AC.i64 b, AC.i64 n], some [AC.i64 (↑R : Int), AC.sv 4 o l], some [AC.u8 (asU8 (gt AC.any row (0 + Int.toNat i * 4))), AC.xs (xsRow (gt AC.any row (0 + Int.toNat i * 4 + 1))) (xsOff (gt AC.any row (0 + Int.toNat i * 4 + 1))) (xsLen (gt AC.any row (0 + Int.toNat i * 4 + 1))), AC.i64 (asI64 (gt AC.any row (0 + Int.toNat i * 4 + 1 + 1))), AC.i64 (asI64 (gt AC.any row (0 + Int.toNat i * 4 + 1 + 1 + 1)))], some rs, some bs]) ∧ (decide (i < (↑k : Int)) = false → Q (AV.one (AC.b true)) [])) : KRun X 3 0 Q (kOf Try.f3 0) (mkS 126 [(0, .one (.i64 R)), (5, .one (.ptr 0 0)), (7, .one (.ptr 1 0)), (51, .one (.xs row 0 k)), (52, .one (.i64 k)), (53, .one (.i64 i))]) [some [.sv 2 0 R, .i64 b, .i64 n], some [.i64 R, .sv 3 o l], some rs, some bs] :=
  wpRun_ok (hX ▸ baseB_ok T3 mf4 (M4 true)) (hX ▸ baseB_call T3_ok (M4_ok true)) (hX ▸ mixed) (hX ▸ ok3) LK_ok (cast (β := wpRun (baseB T3 mf4 (M4 true)) [24, 27, 31, 35, 39, 45, 54, 73, 75, 83, 85, 93, 102, 112, 122] [(12, 3), (14, 3), (10, 5), (15, 23), (100007, 0), (100012, 0), (100014, 0), (100010, 0), (200012, 0), (200014, 0), (200010, 0), (200015, 0)] false (RS.mk Try.f3.results.toList 0 (CS.mk [] [] [] [])) (LK X 3 0 Q true [(8, LS.mk [0, 5, 7, 10, 51, 52, 53] (CS.mk [] [false, false, false, true, true] [] [(5, 0, 0), (7, 1, 0)])), (0, LS.mk [0, 5, 7, 11, 51, 52, 53] (CS.mk [] [false, false, true, true] [] [(5, 0, 0), (7, 1, 0)])), (0, LS.mk [0, 5, 7, 11, 51, 52, 53] (CS.mk [] [false, false, true, true] [] [(5, 0, 0), (7, 1, 0)])), (0, LS.mk [0, 5, 7, 11, 51, 52, 53] (CS.mk [] [false, false, true, true] [] [(5, 0, 0), (7, 1, 0)])), (6, LS.mk [0, 5, 7, 51, 52, 53] (CS.mk [] [false, false, true, true] [] [(5, 0, 0), (7, 1, 0)]))]) Q 2000 (kOf Try.f3 0) (mkS 126 [(0, .one (.i64 R)), (5, .one (.ptr 0 0)), (7, .one (.ptr 1 0)), (51, .one (.xs row 0 k)), (52, .one (.i64 k)), (53, .one (.i64 i))]) [some [.sv 2 0 R, .i64 b, .i64 n], some [.i64 R, .sv 3 o l], some rs, some bs]) (by kernel_rfl) h)
set_option maxRecDepth 100000 in
theorem vc3b {X : Ctx} {Q : AV → Mem → Prop} (hX : X.P = Try.prog) (row rs bs ps : List AC) (R k o l pn : Nat) (b n i so sn : Int) (sk : BitVec 8) (h : BitVec.ofInt 8 (3 : Int) ≠ (0 : BitVec 8) ∧ (decide (sk % BitVec.ofInt 8 (3 : Int) = BitVec.ofInt 8 (0 : Int)) = true → (bufOk rs R b n ∧ (ps = List.map AC.u8 (u8s ps) ∧ pn = List.length ps) ∧ Flat rs ∧ Flat (List.map AC.u8 (wrR (u8s rs) (Int.toNat b) (Int.toNat n) (u8s ps))) ∧ (bs = List.map AC.u8 (u8s bs) ∧ ps = List.map AC.u8 (u8s ps) ∧ pn = List.length ps ∧ o + l ≤ List.length bs ∧ (↑l : Int) ≤ (↑R : Int) ∧ (↑R : Int) ≤ (8192 : Int)) ∧ Flat bs ∧ Flat bs ∧ Flat (List.map AC.u8 (List.take l (List.drop o (u8s bs)) ++ List.take (rwK (Int.toNat (↑R : Int)) l (u8s ps)) (u8s ps))) ∧ (decide ((↑(wrM (u8s rs) (Int.toNat n) (u8s ps)) : Int) = (↑(rwK (Int.toNat (↑R : Int)) l (u8s ps)) : Int)) = true → Flat (List.map AC.u8 (wrR (u8s rs) (Int.toNat b) (Int.toNat n) (u8s ps))) ∧ Flat (List.map AC.u8 (List.take l (List.drop o (u8s bs)) ++ List.take (rwK (Int.toNat (↑R : Int)) l (u8s ps)) (u8s ps))) ∧ KR X 3 0 Q (kCut Try.f3 12) (mkS 126 [(0, AV.one (AC.i64 (↑R : Int))), (5, AV.one (AC.ptr 0 0)), (7, AV.one (AC.ptr 1 0)), (11, AV.one (AC.b true)), (51, AV.one (AC.xs row 0 k)), (52, AV.one (AC.i64 (↑k : Int))), (53, AV.one (AC.i64 i))]) [some [AC.sv 2 0 R, AC.i64 b, AC.i64 (↑(Int.toNat n + wrM (u8s rs) (Int.toNat n) (u8s ps)) : Int)], some [AC.i64 (↑R : Int), AC.sv 3 0 (l + rwK (Int.toNat (↑R : Int)) l (u8s ps))], some (List.map AC.u8 (wrR (u8s rs) (Int.toNat b) (Int.toNat n) (u8s ps))), some (List.map AC.u8 (List.take l (List.drop o (u8s bs)) ++ List.take (rwK (Int.toNat (↑R : Int)) l (u8s ps)) (u8s ps)))]) ∧ (decide ((↑(wrM (u8s rs) (Int.toNat n) (u8s ps)) : Int) = (↑(rwK (Int.toNat (↑R : Int)) l (u8s ps)) : Int)) = false → Flat (List.map AC.u8 (wrR (u8s rs) (Int.toNat b) (Int.toNat n) (u8s ps))) ∧ Flat (List.map AC.u8 (List.take l (List.drop o (u8s bs)) ++ List.take (rwK (Int.toNat (↑R : Int)) l (u8s ps)) (u8s ps))) ∧ KR X 3 0 Q (kCut Try.f3 12) (mkS 126 [(0, AV.one (AC.i64 (↑R : Int))), (5, AV.one (AC.ptr 0 0)), (7, AV.one (AC.ptr 1 0)), (11, AV.one (AC.b false)), (51, AV.one (AC.xs row 0 k)), (52, AV.one (AC.i64 (↑k : Int))), (53, AV.one (AC.i64 i))]) [some [AC.sv 2 0 R, AC.i64 b, AC.i64 (↑(Int.toNat n + wrM (u8s rs) (Int.toNat n) (u8s ps)) : Int)], some [AC.i64 (↑R : Int), AC.sv 3 0 (l + rwK (Int.toNat (↑R : Int)) l (u8s ps))], some (List.map AC.u8 (wrR (u8s rs) (Int.toNat b) (Int.toNat n) (u8s ps))), some (List.map AC.u8 (List.take l (List.drop o (u8s bs)) ++ List.take (rwK (Int.toNat (↑R : Int)) l (u8s ps)) (u8s ps)))])) ∧ bufOk rs R b n ∧ (ps = List.map AC.u8 (u8s ps) ∧ pn = List.length ps) ∧ Flat rs ∧ Flat (List.map AC.u8 (wrR (u8s rs) (Int.toNat b) (Int.toNat n) (u8s ps))) ∧ (bs = List.map AC.u8 (u8s bs) ∧ ps = List.map AC.u8 (u8s ps) ∧ pn = List.length ps ∧ o + l ≤ List.length bs ∧ (↑l : Int) ≤ (↑R : Int) ∧ (↑R : Int) ≤ (8192 : Int)) ∧ Flat bs ∧ Flat bs ∧ Flat (List.map AC.u8 (List.take l (List.drop o (u8s bs)) ++ List.take (rwK (Int.toNat (↑R : Int)) l (u8s ps)) (u8s ps))) ∧ (decide ((↑(wrM (u8s rs) (Int.toNat n) (u8s ps)) : Int) = (↑(rwK (Int.toNat (↑R : Int)) l (u8s ps)) : Int)) = true → Flat (List.map AC.u8 (wrR (u8s rs) (Int.toNat b) (Int.toNat n) (u8s ps))) ∧ Flat (List.map AC.u8 (List.take l (List.drop o (u8s bs)) ++ List.take (rwK (Int.toNat (↑R : Int)) l (u8s ps)) (u8s ps))) ∧ KR X 3 0 Q (kCut Try.f3 12) (mkS 126 [(0, AV.one (AC.i64 (↑R : Int))), (5, AV.one (AC.ptr 0 0)), (7, AV.one (AC.ptr 1 0)), (11, AV.one (AC.b true)), (51, AV.one (AC.xs row 0 k)), (52, AV.one (AC.i64 (↑k : Int))), (53, AV.one (AC.i64 i))]) [some [AC.sv 2 0 R, AC.i64 b, AC.i64 (↑(Int.toNat n + wrM (u8s rs) (Int.toNat n) (u8s ps)) : Int)], some [AC.i64 (↑R : Int), AC.sv 3 0 (l + rwK (Int.toNat (↑R : Int)) l (u8s ps))], some (List.map AC.u8 (wrR (u8s rs) (Int.toNat b) (Int.toNat n) (u8s ps))), some (List.map AC.u8 (List.take l (List.drop o (u8s bs)) ++ List.take (rwK (Int.toNat (↑R : Int)) l (u8s ps)) (u8s ps)))]) ∧ (decide ((↑(wrM (u8s rs) (Int.toNat n) (u8s ps)) : Int) = (↑(rwK (Int.toNat (↑R : Int)) l (u8s ps)) : Int)) = false → Flat (List.map AC.u8 (wrR (u8s rs) (Int.toNat b) (Int.toNat n) (u8s ps))) ∧ Flat (List.map AC.u8 (List.take l (List.drop o (u8s bs)) ++ List.take (rwK (Int.toNat (↑R : Int)) l (u8s ps)) (u8s ps))) ∧ KR X 3 0 Q (kCut Try.f3 12) (mkS 126 [(0, AV.one (AC.i64 (↑R : Int))), (5, AV.one (AC.ptr 0 0)), (7, AV.one (AC.ptr 1 0)), (11, AV.one (AC.b false)), (51, AV.one (AC.xs row 0 k)), (52, AV.one (AC.i64 (↑k : Int))), (53, AV.one (AC.i64 i))]) [some [AC.sv 2 0 R, AC.i64 b, AC.i64 (↑(Int.toNat n + wrM (u8s rs) (Int.toNat n) (u8s ps)) : Int)], some [AC.i64 (↑R : Int), AC.sv 3 0 (l + rwK (Int.toNat (↑R : Int)) l (u8s ps))], some (List.map AC.u8 (wrR (u8s rs) (Int.toNat b) (Int.toNat n) (u8s ps))), some (List.map AC.u8 (List.take l (List.drop o (u8s bs)) ++ List.take (rwK (Int.toNat (↑R : Int)) l (u8s ps)) (u8s ps)))])) ∧ (decide (sk % BitVec.ofInt 8 (3 : Int) = BitVec.ofInt 8 (0 : Int)) = false → (decide (sk % BitVec.ofInt 8 (3 : Int) = BitVec.ofInt 8 (1 : Int)) = true → (bufOk rs R b n ∧ Flat rs ∧ Flat rs ∧ bs = List.map AC.u8 (u8s bs) ∧ Flat bs ∧ Flat bs ∧ (decide (drE (u8s rs) (Int.toNat n) sn = rdE l sn) = true → Flat rs ∧ Flat bs ∧ KR X 3 0 Q (kCut Try.f3 12) (mkS 126 [(0, AV.one (AC.i64 (↑R : Int))), (5, AV.one (AC.ptr 0 0)), (7, AV.one (AC.ptr 1 0)), (11, AV.one (AC.b true)), (51, AV.one (AC.xs row 0 k)), (52, AV.one (AC.i64 (↑k : Int))), (53, AV.one (AC.i64 i))]) [some [AC.sv 2 0 R, AC.i64 (↑(drB (u8s rs) (Int.toNat b) (Int.toNat n) sn) : Int), AC.i64 (↑(Int.toNat n - drN (u8s rs) (Int.toNat n) sn) : Int)], some [AC.i64 (↑R : Int), AC.sv 3 (o + rdN l sn) (l - rdN l sn)], some rs, some bs]) ∧ (decide (drE (u8s rs) (Int.toNat n) sn = rdE l sn) = false → Flat rs ∧ Flat bs ∧ KR X 3 0 Q (kCut Try.f3 12) (mkS 126 [(0, AV.one (AC.i64 (↑R : Int))), (5, AV.one (AC.ptr 0 0)), (7, AV.one (AC.ptr 1 0)), (11, AV.one (AC.b false)), (51, AV.one (AC.xs row 0 k)), (52, AV.one (AC.i64 (↑k : Int))), (53, AV.one (AC.i64 i))]) [some [AC.sv 2 0 R, AC.i64 (↑(drB (u8s rs) (Int.toNat b) (Int.toNat n) sn) : Int), AC.i64 (↑(Int.toNat n - drN (u8s rs) (Int.toNat n) sn) : Int)], some [AC.i64 (↑R : Int), AC.sv 3 (o + rdN l sn) (l - rdN l sn)], some rs, some bs])) ∧ bufOk rs R b n ∧ Flat rs ∧ Flat rs ∧ bs = List.map AC.u8 (u8s bs) ∧ Flat bs ∧ Flat bs ∧ (decide (drE (u8s rs) (Int.toNat n) sn = rdE l sn) = true → Flat rs ∧ Flat bs ∧ KR X 3 0 Q (kCut Try.f3 12) (mkS 126 [(0, AV.one (AC.i64 (↑R : Int))), (5, AV.one (AC.ptr 0 0)), (7, AV.one (AC.ptr 1 0)), (11, AV.one (AC.b true)), (51, AV.one (AC.xs row 0 k)), (52, AV.one (AC.i64 (↑k : Int))), (53, AV.one (AC.i64 i))]) [some [AC.sv 2 0 R, AC.i64 (↑(drB (u8s rs) (Int.toNat b) (Int.toNat n) sn) : Int), AC.i64 (↑(Int.toNat n - drN (u8s rs) (Int.toNat n) sn) : Int)], some [AC.i64 (↑R : Int), AC.sv 3 (o + rdN l sn) (l - rdN l sn)], some rs, some bs]) ∧ (decide (drE (u8s rs) (Int.toNat n) sn = rdE l sn) = false → Flat rs ∧ Flat bs ∧ KR X 3 0 Q (kCut Try.f3 12) (mkS 126 [(0, AV.one (AC.i64 (↑R : Int))), (5, AV.one (AC.ptr 0 0)), (7, AV.one (AC.ptr 1 0)), (11, AV.one (AC.b false)), (51, AV.one (AC.xs row 0 k)), (52, AV.one (AC.i64 (↑k : Int))), (53, AV.one (AC.i64 i))]) [some [AC.sv 2 0 R, AC.i64 (↑(drB (u8s rs) (Int.toNat b) (Int.toNat n) sn) : Int), AC.i64 (↑(Int.toNat n - drN (u8s rs) (Int.toNat n) sn) : Int)], some [AC.i64 (↑R : Int), AC.sv 3 (o + rdN l sn) (l - rdN l sn)], some rs, some bs])) ∧ (decide (sk % BitVec.ofInt 8 (3 : Int) = BitVec.ofInt 8 (1 : Int)) = false → 0 + R * 1 ≤ List.length rs ∧ Flat (List.take (R * 1) (List.drop 0 rs)) ∧ bufOk (List.take (R * 1) (List.drop 0 rs)) R b n ∧ (in64 so ∧ in64 sn) ∧ ExactL (List.map AC.u8 (pk (ct (u8s (List.take (R * 1) (List.drop 0 rs))) (Int.toNat b) (Int.toNat n)) so sn)) ∧ 0 + List.length (pk (ct (u8s (List.take (R * 1) (List.drop 0 rs))) (Int.toNat b) (Int.toNat n)) so sn) * 1 ≤ List.length (List.map AC.u8 (pk (ct (u8s (List.take (R * 1) (List.drop 0 rs))) (Int.toNat b) (Int.toNat n)) so sn)) ∧ allU8 (List.take (List.length (pk (ct (u8s (List.take (R * 1) (List.drop 0 rs))) (Int.toNat b) (Int.toNat n)) so sn) * 1) (List.drop 0 (List.map AC.u8 (pk (ct (u8s (List.take (R * 1) (List.drop 0 rs))) (Int.toNat b) (Int.toNat n)) so sn)))) ∧ o + l * 1 ≤ List.length bs ∧ Flat (List.take (l * 1) (List.drop o bs)) ∧ (List.take (l * 1) (List.drop o bs) = List.map AC.u8 (u8s (List.take (l * 1) (List.drop o bs))) ∧ l = List.length (List.take (l * 1) (List.drop o bs)) ∧ l ≤ 8192) ∧ (in64 so ∧ in64 sn) ∧ ExactL (List.map AC.u8 (pk (u8s (List.take (l * 1) (List.drop o bs))) so sn)) ∧ 0 + List.length (pk (u8s (List.take (l * 1) (List.drop o bs))) so sn) * 1 ≤ List.length (List.map AC.u8 (pk (u8s (List.take (l * 1) (List.drop o bs))) so sn)) ∧ allU8 (List.take (List.length (pk (u8s (List.take (l * 1) (List.drop o bs))) so sn) * 1) (List.drop 0 (List.map AC.u8 (pk (u8s (List.take (l * 1) (List.drop o bs))) so sn)))) ∧ (decide (List.map asU8 (List.take (List.length (pk (ct (u8s (List.take (R * 1) (List.drop 0 rs))) (Int.toNat b) (Int.toNat n)) so sn) * 1) (List.drop 0 (List.map AC.u8 (pk (ct (u8s (List.take (R * 1) (List.drop 0 rs))) (Int.toNat b) (Int.toNat n)) so sn)))) = List.map asU8 (List.take (List.length (pk (u8s (List.take (l * 1) (List.drop o bs))) so sn) * 1) (List.drop 0 (List.map AC.u8 (pk (u8s (List.take (l * 1) (List.drop o bs))) so sn))))) = true → Flat rs ∧ Flat bs ∧ KR X 3 0 Q (kCut Try.f3 12) (mkS 126 [(0, AV.one (AC.i64 (↑R : Int))), (5, AV.one (AC.ptr 0 0)), (7, AV.one (AC.ptr 1 0)), (11, AV.one (AC.b true)), (51, AV.one (AC.xs row 0 k)), (52, AV.one (AC.i64 (↑k : Int))), (53, AV.one (AC.i64 i))]) [some [AC.sv 2 0 R, AC.i64 b, AC.i64 n], some [AC.i64 (↑R : Int), AC.sv 3 o l], some rs, some bs]) ∧ (decide (List.map asU8 (List.take (List.length (pk (ct (u8s (List.take (R * 1) (List.drop 0 rs))) (Int.toNat b) (Int.toNat n)) so sn) * 1) (List.drop 0 (List.map AC.u8 (pk (ct (u8s (List.take (R * 1) (List.drop 0 rs))) (Int.toNat b) (Int.toNat n)) so sn)))) = List.map asU8 (List.take (List.length (pk (u8s (List.take (l * 1) (List.drop o bs))) so sn) * 1) (List.drop 0 (List.map AC.u8 (pk (u8s (List.take (l * 1) (List.drop o bs))) so sn))))) = false → Flat rs ∧ Flat bs ∧ KR X 3 0 Q (kCut Try.f3 12) (mkS 126 [(0, AV.one (AC.i64 (↑R : Int))), (5, AV.one (AC.ptr 0 0)), (7, AV.one (AC.ptr 1 0)), (11, AV.one (AC.b false)), (51, AV.one (AC.xs row 0 k)), (52, AV.one (AC.i64 (↑k : Int))), (53, AV.one (AC.i64 i))]) [some [AC.sv 2 0 R, AC.i64 b, AC.i64 n], some [AC.i64 (↑R : Int), AC.sv 3 o l], some rs, some bs])))) : KRun X 3 0 Q (kCut Try.f3 7) (mkS 126 [(0, .one (.i64 R)), (5, .one (.ptr 0 0)), (7, .one (.ptr 1 0)), (10, .one (.ptr 2 0)), (51, .one (.xs row 0 k)), (52, .one (.i64 k)), (53, .one (.i64 i))]) [some [.sv 3 0 R, .i64 b, .i64 n], some [.i64 R, .sv 4 o l], some [.u8 sk, .xs ps 0 pn, .i64 so, .i64 sn], some rs, some bs] :=
  wpRun_ok (hX ▸ baseB_ok T3 mf4 (M4 true)) (hX ▸ baseB_call T3_ok (M4_ok true)) (hX ▸ mixed) (hX ▸ ok3) LK_ok (cast (β := wpRun (baseB T3 mf4 (M4 true)) [24, 27, 31, 35, 39, 45, 54, 73, 75, 83, 85, 93, 102, 112, 122] [(12, 3), (14, 3), (10, 5), (15, 23), (100007, 0), (100012, 0), (100014, 0), (100010, 0), (200012, 0), (200014, 0), (200010, 0), (200015, 0)] false (RS.mk Try.f3.results.toList 0 (CS.mk [] [] [] [])) (LK X 3 0 Q true [(8, LS.mk [0, 5, 7, 10, 51, 52, 53] (CS.mk [] [false, false, false, true, true] [] [(5, 0, 0), (7, 1, 0)])), (0, LS.mk [0, 5, 7, 11, 51, 52, 53] (CS.mk [] [false, false, true, true] [] [(5, 0, 0), (7, 1, 0)])), (0, LS.mk [0, 5, 7, 11, 51, 52, 53] (CS.mk [] [false, false, true, true] [] [(5, 0, 0), (7, 1, 0)])), (0, LS.mk [0, 5, 7, 11, 51, 52, 53] (CS.mk [] [false, false, true, true] [] [(5, 0, 0), (7, 1, 0)])), (6, LS.mk [0, 5, 7, 51, 52, 53] (CS.mk [] [false, false, true, true] [] [(5, 0, 0), (7, 1, 0)]))]) Q 2000 (kCut Try.f3 7) (mkS 126 [(0, .one (.i64 R)), (5, .one (.ptr 0 0)), (7, .one (.ptr 1 0)), (10, .one (.ptr 2 0)), (51, .one (.xs row 0 k)), (52, .one (.i64 k)), (53, .one (.i64 i))]) [some [.sv 3 0 R, .i64 b, .i64 n], some [.i64 R, .sv 4 o l], some [.u8 sk, .xs ps 0 pn, .i64 so, .i64 sn], some rs, some bs]) (by kernel_rfl) h)
set_option maxRecDepth 100000 in
theorem vc3c {X : Ctx} {Q : AV → Mem → Prop} (hX : X.P = Try.prog) (row rs bs : List AC) (R k o l : Nat) (b n i : Int) (h : 0 + R * 1 ≤ List.length rs ∧ Flat (List.take (R * 1) (List.drop 0 rs)) ∧ ((!decide (lnF R n = (↑l : Int))) = true → Q (AV.one (AC.b false)) []) ∧ ((!decide (lnF R n = (↑l : Int))) = false → 0 + R * 1 ≤ List.length rs ∧ Flat (List.take (R * 1) (List.drop 0 rs)) ∧ (R ≤ 8192 ∧ (0 : Int) ≤ n ∧ n ≤ (↑R : Int)) ∧ in64 ((↑R : Int) - (↑l : Int)) ∧ ((!decide (fcF R n = (↑R : Int) - (↑l : Int))) = true → Q (AV.one (AC.b false)) []) ∧ ((!decide (fcF R n = (↑R : Int) - (↑l : Int))) = false → o + l * 1 ≤ List.length bs ∧ allU8 (List.take (l * 1) (List.drop o bs)) ∧ 0 + R * 1 ≤ List.length rs ∧ Flat (List.take (R * 1) (List.drop 0 rs)) ∧ bufOk (List.take (R * 1) (List.drop 0 rs)) R b n ∧ (in64 (0 : Int) ∧ in64 (↑R : Int)) ∧ ExactL (List.map AC.u8 (pk (ct (u8s (List.take (R * 1) (List.drop 0 rs))) (Int.toNat b) (Int.toNat n)) (0 : Int) (↑R : Int))) ∧ 0 + List.length (pk (ct (u8s (List.take (R * 1) (List.drop 0 rs))) (Int.toNat b) (Int.toNat n)) (0 : Int) (↑R : Int)) * 1 ≤ List.length (List.map AC.u8 (pk (ct (u8s (List.take (R * 1) (List.drop 0 rs))) (Int.toNat b) (Int.toNat n)) (0 : Int) (↑R : Int))) ∧ allU8 (List.take (List.length (pk (ct (u8s (List.take (R * 1) (List.drop 0 rs))) (Int.toNat b) (Int.toNat n)) (0 : Int) (↑R : Int)) * 1) (List.drop 0 (List.map AC.u8 (pk (ct (u8s (List.take (R * 1) (List.drop 0 rs))) (Int.toNat b) (Int.toNat n)) (0 : Int) (↑R : Int))))) ∧ ((!decide (List.map asU8 (List.take (List.length (pk (ct (u8s (List.take (R * 1) (List.drop 0 rs))) (Int.toNat b) (Int.toNat n)) (0 : Int) (↑R : Int)) * 1) (List.drop 0 (List.map AC.u8 (pk (ct (u8s (List.take (R * 1) (List.drop 0 rs))) (Int.toNat b) (Int.toNat n)) (0 : Int) (↑R : Int))))) = List.map asU8 (List.take (l * 1) (List.drop o bs)))) = true → Q (AV.one (AC.b false)) []) ∧ ((!decide (List.map asU8 (List.take (List.length (pk (ct (u8s (List.take (R * 1) (List.drop 0 rs))) (Int.toNat b) (Int.toNat n)) (0 : Int) (↑R : Int)) * 1) (List.drop 0 (List.map AC.u8 (pk (ct (u8s (List.take (R * 1) (List.drop 0 rs))) (Int.toNat b) (Int.toNat n)) (0 : Int) (↑R : Int))))) = List.map asU8 (List.take (l * 1) (List.drop o bs)))) = false → in64 (i + (1 : Int)) ∧ Flat rs ∧ Flat bs ∧ KR X 3 0 Q (kOf Try.f3 0) (mkS 126 [(0, AV.one (AC.i64 (↑R : Int))), (5, AV.one (AC.ptr 0 0)), (7, AV.one (AC.ptr 1 0)), (51, AV.one (AC.xs row 0 k)), (52, AV.one (AC.i64 (↑k : Int))), (53, AV.one (AC.i64 (i + (1 : Int))))]) [some [AC.sv 2 0 R, AC.i64 b, AC.i64 n], some [AC.i64 (↑R : Int), AC.sv 3 o l], some rs, some bs])))) : KRun X 3 0 Q (kCut Try.f3 12) (mkS 126 [(0, .one (.i64 R)), (5, .one (.ptr 0 0)), (7, .one (.ptr 1 0)), (11, .one (.b true)), (51, .one (.xs row 0 k)), (52, .one (.i64 k)), (53, .one (.i64 i))]) [some [.sv 2 0 R, .i64 b, .i64 n], some [.i64 R, .sv 3 o l], some rs, some bs] :=
  wpRun_ok (hX ▸ baseB_ok T3 mf4 (M4 true)) (hX ▸ baseB_call T3_ok (M4_ok true)) (hX ▸ mixed) (hX ▸ ok3) LK_ok (cast (β := wpRun (baseB T3 mf4 (M4 true)) [24, 27, 31, 35, 39, 45, 54, 73, 75, 83, 85, 93, 102, 112, 122] [(12, 3), (14, 3), (10, 5), (15, 23), (100007, 0), (100012, 0), (100014, 0), (100010, 0), (200012, 0), (200014, 0), (200010, 0), (200015, 0)] false (RS.mk Try.f3.results.toList 0 (CS.mk [] [] [] [])) (LK X 3 0 Q true [(8, LS.mk [0, 5, 7, 10, 51, 52, 53] (CS.mk [] [false, false, false, true, true] [] [(5, 0, 0), (7, 1, 0)])), (0, LS.mk [0, 5, 7, 11, 51, 52, 53] (CS.mk [] [false, false, true, true] [] [(5, 0, 0), (7, 1, 0)])), (0, LS.mk [0, 5, 7, 11, 51, 52, 53] (CS.mk [] [false, false, true, true] [] [(5, 0, 0), (7, 1, 0)])), (0, LS.mk [0, 5, 7, 11, 51, 52, 53] (CS.mk [] [false, false, true, true] [] [(5, 0, 0), (7, 1, 0)])), (6, LS.mk [0, 5, 7, 51, 52, 53] (CS.mk [] [false, false, true, true] [] [(5, 0, 0), (7, 1, 0)]))]) Q 2000 (kCut Try.f3 12) (mkS 126 [(0, .one (.i64 R)), (5, .one (.ptr 0 0)), (7, .one (.ptr 1 0)), (11, .one (.b true)), (51, .one (.xs row 0 k)), (52, .one (.i64 k)), (53, .one (.i64 i))]) [some [.sv 2 0 R, .i64 b, .i64 n], some [.i64 R, .sv 3 o l], some rs, some bs]) (by kernel_rfl) h)
end DH

noncomputable section
namespace DH
open Go Go.Proofs
theorem u8s_map (l : BL) : u8s (l.map AC.u8) = l := map_as8 l
theorem takeAll (l : BL) : List.take l.length (l.map AC.u8) = l.map AC.u8 := List.take_of_length_le (by rw [List.length_map]; exact Nat.le_refl _)
theorem exactU (l : BL) : ExactL (l.map AC.u8) := by
  intro c hc
  obtain ⟨x, _, rfl⟩ := List.mem_map.1 hc
  rfl
theorem bufOk_map {g : BL} {b n : Nat} (h : RgOk g b n) : bufOk (g.map AC.u8) g.length (b : Int) (n : Int) := by
  unfold bufOk
  rw [u8s_map, List.length_map]
  exact ⟨rfl, rfl, by omega, by omega, h⟩
theorem pk_all {B : BL} {R : Nat} (h : B.length ≤ R) : pk B 0 (R : Int) = B := by
  unfold pk
  rw [if_neg (by omega), Int.toNat_natCast]
  show List.take R (List.drop 0 B) = B
  rw [List.drop_zero, List.take_of_length_le h]
structure Inv (g r : BL) (b n o : Nat) : Prop where
  rg : RgOk g b n
  pos : 0 < g.length
  le : o + n ≤ r.length
  eq : (r.drop o).take n = ct g b n
theorem c3c {X : Ctx} (hX : X.P = Try.prog) {Q : AV → Mem → Prop} (row : List AC) (k i : Nat) (g r : BL) (b n o : Nat) (h : Inv g r b n o) (hi : i < 150)
    (nx : KRun X 3 0 Q (kOf Try.f3 0) (mkS 126 [(0, .one (.i64 (g.length : Nat))), (5, .one (.ptr 0 0)), (7, .one (.ptr 1 0)), (51, .one (.xs row 0 k)), (52, .one (.i64 k)), (53, .one (.i64 ((i : Int) + 1)))]) [some [.sv 2 0 g.length, .i64 b, .i64 n], some [.i64 (g.length : Nat), .sv 3 o n], some (g.map AC.u8), some (r.map AC.u8)]) :
    KRun X 3 0 Q (kCut Try.f3 12) (mkS 126 [(0, .one (.i64 (g.length : Nat))), (5, .one (.ptr 0 0)), (7, .one (.ptr 1 0)), (11, .one (.b true)), (51, .one (.xs row 0 k)), (52, .one (.i64 k)), (53, .one (.i64 (i : Int)))]) [some [.sv 2 0 g.length, .i64 b, .i64 n], some [.i64 (g.length : Nat), .sv 3 o n], some (g.map AC.u8), some (r.map AC.u8)] := by
  obtain ⟨rg, pos, le, eq⟩ := h
  have h1 := rg.n_le
  have h3 := rg.r_le
  refine vc3c hX _ _ _ _ _ _ _ _ _ _ ?_
  have e1 : lnF g.length (n : Int) = (n : Int) := if_pos pos
  have e2 : fcF g.length (n : Int) = (g.length : Int) - (n : Int) := if_pos pos
  have e3 : pk (ct g b n) 0 (g.length : Int) = ct g b n := pk_all (by rw [ct_len rg]; exact h1)
  have e4 : List.take n ((ct g b n).map AC.u8) = (ct g b n).map AC.u8 := List.take_of_length_le (by rw [List.length_map, ct_len rg]; exact Nat.le_refl _)
  have x1 := bufOk_map rg
  have x2 : in64 (g.length : Int) := by unfold in64; omega
  have x3 : in64 0 := by unfold in64; omega
  have x4 : in64 ((g.length : Int) - (n : Int)) := by unfold in64; omega
  have x5 : in64 ((i : Int) + 1) := by unfold in64; omega
  have x6 : n ≤ g.length := h1
  have y1 : (0 : Int) ≤ (n : Int) := by omega
  have y2 : (n : Int) ≤ (g.length : Int) := by omega
  simp only [u8s_map, Int.toNat_natCast, Nat.mul_one, Nat.zero_add, List.drop_zero, takeAll, tkm, map_as8, e1, e2, e3, e4, eq, ct_len rg, List.length_map, decide_true, decide_false, Bool.not_true, Bool.not_false, Bool.false_eq_true, Bool.true_eq_false, false_implies, true_implies, and_true, true_and, forall_const]
  (repeat' (first | exact x1 | exact flat_u8 _ | exact exactU _ | exact allU8_map _ | exact Nat.le_refl _ | assumption | exact ⟨nx⟩ | refine And.intro ?_ ?_))
theorem rw_eq (g : BL) (n : Nat) (p : BL) : rwK g.length n p = wrM g n p := rfl
theorem rd_eq {g : BL} (pos : 0 < g.length) (n : Nat) (k : Int) : rdN n k = drN g n k ∧ rdE n k = drE g n k := by
  refine ⟨?_, ?_⟩
  · unfold rdN drN
    by_cases h : 0 ≤ k ∧ k ≤ (n : Int)
    · rw [if_pos h, if_pos ⟨pos, h⟩]
    · rw [if_neg h, if_neg (fun q => h q.2)]
  · unfold rdE drE
    rw [if_pos pos]
theorem Inv.write {g r : BL} {b n o : Nat} (h : Inv g r b n o) (p : BL) : Inv (wrR g b n p) ((r.drop o).take n ++ p.take (wrM g n p)) b (n + wrM g n p) 0 := by
  obtain ⟨rg, pos, le, eq⟩ := h
  obtain ⟨k1, k2⟩ := wrR_ct p rg pos
  have hl := wrR_len p rg pos
  have hM2 : wrM g n p ≤ p.length := Nat.min_le_left _ _
  refine ⟨k1, by omega, ?_, ?_⟩
  · rw [List.length_append, List.length_take, List.length_take, List.length_drop]; omega
  · rw [k2, ← eq, List.drop_zero, List.take_of_length_le]
    rw [List.length_append, List.length_take, List.length_take, List.length_drop]; omega
theorem Inv.drop {g r : BL} {b n o : Nat} (h : Inv g r b n o) (k : Int) : Inv g r (drB g b n k) (n - drN g n k) (o + drN g n k) := by
  obtain ⟨rg, pos, le, eq⟩ := h
  by_cases c : 0 < g.length ∧ 0 ≤ k ∧ k ≤ (n : Int)
  · rw [show drB g b n k = (b + k.toNat) % g.length from if_pos c, show drN g n k = k.toNat from if_pos c]
    obtain ⟨k1, k2⟩ := dr_ct rg pos (k := k.toNat) (by omega)
    refine ⟨k1, pos, by omega, ?_⟩
    rw [k2, ← eq, List.drop_take, List.drop_drop]
  · rw [show drB g b n k = b from if_neg c, show drN g n k = 0 from if_neg c]
    exact ⟨rg, pos, le, eq⟩
theorem c3b {X : Ctx} (hX : X.P = Try.prog) {Q : AV → Mem → Prop} (row : List AC) (k i : Nat) (g r : BL) (b n o : Nat) (s : Stp) (h : Inv g r b n o) (hi : i < 150) (so : in64 s.o) (sn : in64 s.n)
    (nx : ∀ (g' r' : BL) (b' n' o' : Nat), Inv g' r' b' n' o' → g'.length = g.length → KRun X 3 0 Q (kOf Try.f3 0) (mkS 126 [(0, .one (.i64 (g.length : Nat))), (5, .one (.ptr 0 0)), (7, .one (.ptr 1 0)), (51, .one (.xs row 0 k)), (52, .one (.i64 k)), (53, .one (.i64 ((i : Int) + 1)))]) [some [.sv 2 0 g.length, .i64 b', .i64 n'], some [.i64 (g.length : Nat), .sv 3 o' n'], some (g'.map AC.u8), some (r'.map AC.u8)]) :
    KRun X 3 0 Q (kCut Try.f3 7) (mkS 126 [(0, .one (.i64 (g.length : Nat))), (5, .one (.ptr 0 0)), (7, .one (.ptr 1 0)), (10, .one (.ptr 2 0)), (51, .one (.xs row 0 k)), (52, .one (.i64 k)), (53, .one (.i64 (i : Int)))]) [some [.sv 3 0 g.length, .i64 b, .i64 n], some [.i64 (g.length : Nat), .sv 4 o n], some [.u8 s.k, .xs (s.p.map AC.u8) 0 s.p.length, .i64 s.o, .i64 s.n], some (g.map AC.u8), some (r.map AC.u8)] := by
  obtain ⟨rg, pos, le, eq⟩ := id h
  have h1 := rg.n_le
  have h3 := rg.r_le
  have w := h.write s.p
  have d := h.drop s.n
  have wl := wrR_len s.p rg pos
  obtain ⟨rd1, rd2⟩ := rd_eq pos n s.n
  have n1 : KRun X 3 0 Q (kCut Try.f3 12) _ _ := c3c hX row k i (wrR g b n s.p) _ b _ _ w hi (by rw [wl]; exact nx _ _ _ _ _ w wl)
  have n2 : KRun X 3 0 Q (kCut Try.f3 12) _ _ := c3c hX row k i g r _ _ _ d hi (nx _ _ _ _ _ d rfl)
  have n3 : KRun X 3 0 Q (kCut Try.f3 12) _ _ := c3c hX row k i g r _ _ _ h hi (nx _ _ _ _ _ h rfl)
  rw [wl] at n1
  have x1 := bufOk_map rg
  have x2 : in64 (g.length : Int) := by unfold in64; omega
  have y2 : (n : Int) ≤ (g.length : Int) := by omega
  have y3 : (g.length : Int) ≤ 8192 := by omega
  have y4 : n ≤ 8192 := by omega
  have e4 : List.take n ((ct g b n).map AC.u8) = (ct g b n).map AC.u8 := List.take_of_length_le (by rw [List.length_map, ct_len rg]; exact Nat.le_refl _)
  have e5 : List.take (pk (ct g b n) s.o s.n).length ((pk (ct g b n) s.o s.n).map AC.u8) = (pk (ct g b n) s.o s.n).map AC.u8 := takeAll _
  refine vc3b hX _ _ _ _ _ _ _ _ _ _ _ _ _ _ _ ⟨by decide, fun _ => ?_, fun _ => ⟨fun _ => ?_, fun _ => ?_⟩⟩
  · simp only [u8s_map, Int.toNat_natCast, Nat.mul_one, Nat.zero_add, List.drop_zero, takeAll, tkm, map_as8, rw_eq, List.length_map, decide_true, decide_false, Bool.not_true, Bool.not_false, Bool.false_eq_true, Bool.true_eq_false, false_implies, true_implies, and_true, true_and, forall_const]
    (repeat' (first | exact x1 | exact flat_u8 _ | exact exactU _ | exact allU8_map _ | exact Nat.le_refl _ | assumption | exact ⟨n1⟩ | refine And.intro ?_ ?_))
  · simp only [u8s_map, Int.toNat_natCast, Nat.mul_one, Nat.zero_add, List.drop_zero, takeAll, tkm, map_as8, rd1, rd2, List.length_map, decide_true, decide_false, Bool.not_true, Bool.not_false, Bool.false_eq_true, Bool.true_eq_false, false_implies, true_implies, and_true, true_and, forall_const]
    (repeat' (first | exact x1 | exact flat_u8 _ | exact exactU _ | exact allU8_map _ | exact Nat.le_refl _ | assumption | exact ⟨n2⟩ | refine And.intro ?_ ?_))
  · simp only [u8s_map, Int.toNat_natCast, Nat.mul_one, Nat.zero_add, List.drop_zero, takeAll, tkm, map_as8, e4, e5, eq, ct_len rg, List.length_map, decide_true, decide_false, Bool.not_true, Bool.not_false, Bool.false_eq_true, Bool.true_eq_false, false_implies, true_implies, and_true, true_and, forall_const]
    (repeat' (first | exact x1 | exact flat_u8 _ | exact exactU _ | exact allU8_map _ | exact Nat.le_refl _ | assumption | exact ⟨n3⟩ | refine And.intro ?_ ?_))
theorem l3 {X : Ctx} (hX : X.P = Try.prog) (l : List Stp) (hw : ∀ s ∈ l, in64 s.o ∧ in64 s.n) (R : Nat) : ∀ (d i : Nat), i + d = min l.length 150 → ∀ (g r : BL) (b n o : Nat), Inv g r b n o → g.length = R →
    KRun X 3 0 (Is (.one (.b true))) (kOf Try.f3 0) (mkS 126 [(0, .one (.i64 (R : Nat))), (5, .one (.ptr 0 0)), (7, .one (.ptr 1 0)), (51, .one (.xs (l.flatMap encS) 0 (min l.length 150))), (52, .one (.i64 (min l.length 150 : Nat))), (53, .one (.i64 (i : Int)))]) [some [.sv 2 0 R, .i64 b, .i64 n], some [.i64 (R : Nat), .sv 3 o n], some (g.map AC.u8), some (r.map AC.u8)] := by
  intro d
  induction d with
  | zero =>
    intro i hi g r b n o h hR
    refine vc3a hX _ _ _ _ _ _ _ _ _ _ ⟨fun h => absurd (of_decide_eq_true h) (by omega), fun _ => ?_⟩
    exact rfl
  | succ d ih =>
    intro i hi g r b n o h hR
    subst hR
    obtain ⟨s, hs⟩ : ∃ s, l[i]? = some s := ⟨_, List.getElem?_eq_getElem (by omega)⟩
    refine vc3a hX _ _ _ _ _ _ _ _ _ _ ⟨fun _ => ?_, fun h => absurd (of_decide_eq_false h) (by omega)⟩
    obtain ⟨e0, e1, e2, e3⟩ := rowS hs
    rw [e0, e1, e2, e3]
    refine ⟨⟨by omega, by omega⟩, rfl, rfl, rfl, rfl, flat_u8 _, flat_u8 _, ⟨?_⟩⟩
    have := hw s (List.mem_of_getElem? hs)
    refine c3b hX _ _ i g r b n o s h (by omega) this.1 this.2 fun g' r' b' n' o' h' hg => ?_
    have ih := ih (i + 1) (by omega) g' r' b' n' o' h' hg
    rw [show ((i : Nat) : Int) + 1 = ((i + 1 : Nat) : Int) by omega]
    exact ih
theorem tkS (l : List Stp) : List.take (l.length * 4) (List.drop 0 (l.flatMap encS)) = l.flatMap encS := by
  rw [List.drop_zero, List.take_of_length_le]
  rw [len_rows encS 4 encS_len]
  exact Nat.le_refl _
theorem okS_map (l : List Stp) : okS (l.flatMap encS) l.length := by
  unfold okS
  rw [dec_enc]
  exact ⟨rfl, rfl⟩
theorem Inv.new {R : Nat} (h : 1 ≤ R) (h2 : R ≤ 8192) : Inv (zr R) [] 0 0 0 := by
  have hl : (zr R).length = R := List.length_replicate
  refine ⟨⟨by omega, .inl (by omega), by omega⟩, by omega, Nat.le_refl _, ?_⟩
  unfold ct
  rfl
theorem s3in (R : Int) (l : List Stp) (h1 : 1 ≤ R) (h2 : R ≤ 8192) (hw : ∀ s ∈ l, in64 s.o ∧ in64 s.n) : Spec Try.prog 3 [.one (.i64 R), .one (.xs (l.flatMap encS) 0 l.length)] [] (Is (.one (.b true))) := by
  obtain ⟨R', rfl⟩ := Int.eq_ofNat_of_zero_le (by omega : 0 ≤ R)
  have r1 : rmE (R' : Int) = 0 := if_neg (by omega)
  have r2 : rmR (R' : Int) = (R' : Int) := if_neg (by omega)
  refine Spec.of_run ok3 fun X hX => vc3 hX _ _ _ ?_
  rw [r1, r2, tkS, dec_enc]
  have L : 0 + l.length * 4 ≤ (l.flatMap encS).length := by rw [len_rows encS 4 encS_len]; omega
  refine ⟨⟨h1, h2⟩, exactU _, nofun, fun _ => ⟨nofun, fun _ => ⟨nofun, fun _ => ⟨L, okS_map l, fun _ => ⟨fun _ => ⟨fun _ => rfl, nofun⟩, nofun⟩, fun _ => ⟨flat_u8 _, flat_u8 [], ⟨?_⟩⟩⟩⟩⟩⟩
  exact l3 hX l hw R' (min l.length 150) 0 (by omega) (zr R') [] 0 0 0 (Inv.new (by omega) (by omega)) List.length_replicate
end DH
