/- Walks of functions, each by evaluation: what each returns; with the layer beneath. -/
import Derived.Test.YtkkaclgamhpalaaXA
import Derived.Test.YtkkaclgamhpalaaU1
set_option linter.unusedVariables false
set_option linter.unusedSimpArgs false
noncomputable section
namespace DH
open Go Go.Proofs
/-! route: alive, and a table that nobody made -/
theorem ok10 : FnOk Try.prog 10 Try.f10 (bodyOf Try.f10) := .of Try.func10 (by kernel_rfl) (by kernel_rfl)
theorem ok39 : FnOk Try.prog 39 Try.f39 (bodyOf Try.f39) := .of Try.func39 (by kernel_rfl) (by kernel_rfl)
theorem ok41 : FnOk Try.prog 41 Try.f41 (bodyOf Try.f41) := .of Try.func41 (by kernel_rfl) (by kernel_rfl)
theorem ok42 : FnOk Try.prog 42 Try.f42 (bodyOf Try.f42) := .of Try.func42 (by kernel_rfl) (by kernel_rfl)
theorem ok43 : FnOk Try.prog 43 Try.f43 (bodyOf Try.f43) := .of Try.func43 (by kernel_rfl) (by kernel_rfl)
theorem ok44 : FnOk Try.prog 44 Try.f44 (bodyOf Try.f44) := .of Try.func44 (by kernel_rfl) (by kernel_rfl)
theorem ok47 : FnOk Try.prog 47 Try.f47 (bodyOf Try.f47) := .of Try.func47 (by kernel_rfl) (by kernel_rfl)
theorem ok48 : FnOk Try.prog 48 Try.f48 (bodyOf Try.f48) := .of Try.func48 (by kernel_rfl) (by kernel_rfl)
theorem ok59 : FnOk Try.prog 59 Try.f59 (bodyOf Try.f59) := .of Try.func59 (by kernel_rfl) (by kernel_rfl)
theorem ok77 : FnOk Try.prog 77 Try.f77 (bodyOf Try.f77) := .of Try.func77 (by kernel_rfl) (by kernel_rfl)
theorem ok78 : FnOk Try.prog 78 Try.f78 (bodyOf Try.f78) := .of Try.func78 (by kernel_rfl) (by kernel_rfl)
theorem ok79 : FnOk Try.prog 79 Try.f79 (bodyOf Try.f79) := .of Try.func79 (by kernel_rfl) (by kernel_rfl)
theorem ok80 : FnOk Try.prog 80 Try.f80 (bodyOf Try.f80) := .of Try.func80 (by kernel_rfl) (by kernel_rfl)
theorem ok81 : FnOk Try.prog 81 Try.f81 (bodyOf Try.f81) := .of Try.func81 (by kernel_rfl) (by kernel_rfl)
theorem ok90 : FnOk Try.prog 90 Try.f90 (bodyOf Try.f90) := .of Try.func90 (by kernel_rfl) (by kernel_rfl)
theorem ok106 : FnOk Try.prog 106 Try.f106 (bodyOf Try.f106) := .of Try.func106 (by kernel_rfl) (by kernel_rfl)
def siz (s : Bool) : Int := match s with | true => 16 | false => 4
set_option maxRecDepth 100000 in
theorem vc106 {X : Ctx} {Q : AV → Mem → Prop} (hX : X.P = Try.prog) (s : Bool) (a0 a1 a2 a3 a4 a5 a6 a7 a8 a9 aa ab ac ad ae af : BitVec 8) (h : (s = true → Q (AV.one (AC.i64 (16 : Int))) []) ∧ (s = false → Q (AV.one (AC.i64 (4 : Int))) [])) : KRun X 106 0 Q ([.code (bodyOf Try.f106)]) (slots [.agg [.b s, .u8 a0, .u8 a1, .u8 a2, .u8 a3, .u8 a4, .u8 a5, .u8 a6, .u8 a7, .u8 a8, .u8 a9, .u8 aa, .u8 ab, .u8 ac, .u8 ad, .u8 ae, .u8 af]] Try.f106.ntmps) [] :=
  wpRun_ok (hX ▸ envX_ok T0 mf0 M0) (hX ▸ envX_call T0_ok M0_ok) (hX ▸ mixed) (hX ▸ ok106) LK_ok (cast (β := wpRun (envX T0 mf0 M0) [4] [] false (RS.mk Try.f106.results.toList 0 (CS.mk [] [] [] [])) (LK X 106 0 Q true []) Q 2000 _ _ _) (by kernel_rfl) h)
theorem s106 {s : Bool} {cs : List AC} (h : addrOk cs) : Spec Try.prog 106 [.agg (.b s :: cs)] [] (Is (.one (.i64 (siz s)))) := by
  obtain ⟨l, hl, rfl⟩ := h
  obtain ⟨a0, a1, a2, a3, a4, a5, a6, a7, a8, a9, aa, ab, ac, ad, ae, af, rfl⟩ := sixteen hl
  exact Spec.of_run ok106 fun X hX => vc106 hX _ _ _ _ _ _ _ _ _ _ _ _ _ _ _ _ _ ⟨fun h => by rw [h]; rfl, fun h => by rw [h]; rfl⟩
def T5 : Tab := fun f xs => match f, xs with
  | 106, [.agg (.b s :: cs)] => some ([addrOk cs], .one (.i64 (siz s)))
  | _, _ => none
theorem T5_ok : TabOk Try.prog T5 := by
  intro f xs cs r h hc
  unfold T5 at h
  split at h
  · simp only [Option.some.injEq, Prod.mk.injEq] at h
    obtain ⟨rfl, rfl⟩ := h
    exact ⟨⟨_, _, ok106⟩, s106 hc.1, rfl⟩
  · cases h
def symR (t : TypeId) : Bool := match t with | 5 => true | 25 => true | _ => false
noncomputable def envR (T : Tab) (mf : FuncId → Option MF) (M : TabM) : Env := env0 symR T mf M
theorem envR_ok (T : Tab) (mf : FuncId → Option MF) (M : TabM) : EnvOk Try.prog (envR T mf M) := env0_ok symR T mf M
theorem envR_call {T : Tab} {mf : FuncId → Option MF} {M : TabM} (hT : TabOk Try.prog T) (hM : TabMOk Try.prog M) : CallOk Try.prog (envR T mf M) := env0_call hT hM
set_option maxRecDepth 100000 in
theorem vc81 {X : Ctx} {Q : AV → Mem → Prop} (hX : X.P = Try.prog) (s : Bool) (bs : List AC) (n : Int) (h : (decide (n < (0 : Int)) = true → (true = true → (17 = 17 ∧ 17 ≤ 17) ∧ 17 ≤ 17 ∧ flatAV (AV.agg ([AC.b false] ++ List.replicate 16 (AC.u8 (0 : BitVec 8)))) ∧ Q (AV.tup [AV.agg ([AC.b false] ++ List.replicate 16 (AC.u8 (0 : BitVec 8))), AV.one (AC.i64 (1 : Int))]) []) ∧ (true = false → 17 ≤ List.length (AC.b s :: bs) ∧ Flat (List.take 17 (List.drop 0 (AC.b s :: bs))) ∧ addrOk (List.take 16 bs) ∧ in64 ((8 : Int) * siz s) ∧ (decide ((8 : Int) * siz s < n) = true → (17 = 17 ∧ 17 ≤ 17) ∧ 17 ≤ 17 ∧ flatAV (AV.agg ([AC.b false] ++ List.replicate 16 (AC.u8 (0 : BitVec 8)))) ∧ Q (AV.tup [AV.agg ([AC.b false] ++ List.replicate 16 (AC.u8 (0 : BitVec 8))), AV.one (AC.i64 (1 : Int))]) []) ∧ (decide ((8 : Int) * siz s < n) = false → Flat (AC.b s :: bs) ∧ Flat ([AC.b false] ++ List.replicate 16 (AC.u8 (0 : BitVec 8))) ∧ KR X 81 0 Q (kOf Try.f81 0) (mkS 39 [(1, AV.one (AC.i64 n)), (2, AV.one (AC.ptr 0 0)), (4, AV.one (AC.ptr 1 0)), (18, AV.one (AC.i64 (0 : Int)))]) [some (AC.b s :: bs), some ([AC.b false] ++ List.replicate 16 (AC.u8 (0 : BitVec 8)))]))) ∧ (decide (n < (0 : Int)) = false → (false = true → (17 = 17 ∧ 17 ≤ 17) ∧ 17 ≤ 17 ∧ flatAV (AV.agg ([AC.b false] ++ List.replicate 16 (AC.u8 (0 : BitVec 8)))) ∧ Q (AV.tup [AV.agg ([AC.b false] ++ List.replicate 16 (AC.u8 (0 : BitVec 8))), AV.one (AC.i64 (1 : Int))]) []) ∧ (false = false → 17 ≤ List.length (AC.b s :: bs) ∧ Flat (List.take 17 (List.drop 0 (AC.b s :: bs))) ∧ addrOk (List.take 16 bs) ∧ in64 ((8 : Int) * siz s) ∧ (decide ((8 : Int) * siz s < n) = true → (17 = 17 ∧ 17 ≤ 17) ∧ 17 ≤ 17 ∧ flatAV (AV.agg ([AC.b false] ++ List.replicate 16 (AC.u8 (0 : BitVec 8)))) ∧ Q (AV.tup [AV.agg ([AC.b false] ++ List.replicate 16 (AC.u8 (0 : BitVec 8))), AV.one (AC.i64 (1 : Int))]) []) ∧ (decide ((8 : Int) * siz s < n) = false → Flat (AC.b s :: bs) ∧ Flat ([AC.b false] ++ List.replicate 16 (AC.u8 (0 : BitVec 8))) ∧ KR X 81 0 Q (kOf Try.f81 0) (mkS 39 [(1, AV.one (AC.i64 n)), (2, AV.one (AC.ptr 0 0)), (4, AV.one (AC.ptr 1 0)), (18, AV.one (AC.i64 (0 : Int)))]) [some (AC.b s :: bs), some ([AC.b false] ++ List.replicate 16 (AC.u8 (0 : BitVec 8)))])))) : KRun X 81 0 Q ([.code (bodyOf Try.f81)]) (slots [.agg (.b s :: bs), .one (.i64 n)] Try.f81.ntmps) [] :=
  wpRun_ok (hX ▸ envR_ok T5 mf0 M0) (hX ▸ envR_call T5_ok M0_ok) (hX ▸ mixed) (hX ▸ ok81) LK_ok (cast (β := wpRun (envR T5 mf0 M0) [9, 15, 19, 10] [(7, 10)] false (RS.mk Try.f81.results.toList 0 (CS.mk [] [] [0] [])) (LK X 81 0 Q true [(4, LS.mk [1, 2, 4, 18] (CS.mk [] [true, true] [] []))]) Q 2000 _ _ _) (by kernel_rfl) h)
set_option maxRecDepth 100000 in
theorem vc81a {X : Ctx} {Q : AV → Mem → Prop} (hX : X.P = Try.prog) (s : Bool) (bs zs : List AC) (n i : Int) (h : (decide (i < (16 : Int)) = true → in64 ((8 : Int) * i) ∧ in64 (n - (8 : Int) * i) ∧ ((0 : Int) ≤ i ∧ i < (↑16 : Int)) ∧ gt AC.any (AC.b s :: bs) (1 + Int.toNat i * 1) = AC.u8 (asU8 (gt AC.any (AC.b s :: bs) (1 + Int.toNat i * 1))) ∧ (0 : Int) ≤ min (max (n - (8 : Int) * i) (0 : Int)) (8 : Int) ∧ ((0 : Int) ≤ i ∧ i < (↑16 : Int)) ∧ (1 = 1 ∧ 1 + Int.toNat i * 1 + 1 ≤ List.length (AC.b s :: bs)) ∧ in64 (i + (1 : Int)) ∧ Flat (layS (AC.b s :: bs) (1 + Int.toNat i * 1) [AC.u8 (asU8 (gt AC.any (AC.b s :: bs) (1 + Int.toNat i * 1)) &&& ~~~(BitVec.ofInt 8 (255 : Int) >>> Int.toNat (min (max (n - (8 : Int) * i) (0 : Int)) (8 : Int))))]) ∧ Flat zs ∧ KR X 81 0 Q (kOf Try.f81 0) (mkS 39 [(1, AV.one (AC.i64 n)), (2, AV.one (AC.ptr 0 0)), (4, AV.one (AC.ptr 1 0)), (18, AV.one (AC.i64 (i + (1 : Int))))]) [some (layS (AC.b s :: bs) (1 + Int.toNat i * 1) [AC.u8 (asU8 (gt AC.any (AC.b s :: bs) (1 + Int.toNat i * 1)) &&& ~~~(BitVec.ofInt 8 (255 : Int) >>> Int.toNat (min (max (n - (8 : Int) * i) (0 : Int)) (8 : Int))))]), some zs]) ∧ (decide (i < (16 : Int)) = false → 17 ≤ List.length (AC.b s :: bs) ∧ (List.length (List.take 17 (List.drop 0 (AC.b s :: bs))) = 17 ∧ 17 ≤ List.length zs) ∧ 17 ≤ List.length (layS zs 0 (List.take 17 (List.drop 0 (AC.b s :: bs)))) ∧ flatAV (AV.agg (List.take 17 (List.drop 0 (layS zs 0 (List.take 17 (List.drop 0 (AC.b s :: bs))))))) ∧ Q (AV.tup [AV.agg (List.take 17 (List.drop 0 (layS zs 0 (List.take 17 (List.drop 0 (AC.b s :: bs)))))), AV.one (AC.i64 (0 : Int))]) [])) : KRun X 81 0 Q (kOf Try.f81 0) (mkS 39 [(1, .one (.i64 n)), (2, .one (.ptr 0 0)), (4, .one (.ptr 1 0)), (18, .one (.i64 i))]) [some (.b s :: bs), some zs] :=
  wpRun_ok (hX ▸ envR_ok T5 mf0 M0) (hX ▸ envR_call T5_ok M0_ok) (hX ▸ mixed) (hX ▸ ok81) LK_ok (cast (β := wpRun (envR T5 mf0 M0) [9, 15, 19, 10] [(7, 10)] false (RS.mk Try.f81.results.toList 0 (CS.mk [] [] [0] [])) (LK X 81 0 Q true [(4, LS.mk [1, 2, 4, 18] (CS.mk [] [true, true] [] []))]) Q 2000 _ _ _) (by kernel_rfl) h)
def mkB (n : Int) (i : Nat) (x : BitVec 8) : BitVec 8 := x &&& ~~~(BitVec.ofInt 8 255 >>> Int.toNat (min (max (n - 8 * (i : Int)) 0) 8))
def mkL (n : Int) : Nat → List (BitVec 8) → List (BitVec 8)
  | _, [] => []
  | i, x :: l => mkB n i x :: mkL n (i + 1) l
theorem mkL_len (n : Int) : ∀ (l : List (BitVec 8)) (i : Nat), (mkL n i l).length = l.length
  | [], _ => rfl
  | x :: l, i => by rw [mkL, List.length_cons, List.length_cons, mkL_len n l]
theorem mkL_get (n : Int) : ∀ (l : List (BitVec 8)) (k i : Nat), i < l.length → (mkL n k l).getD i 0 = mkB n (k + i) (l.getD i 0)
  | [], _, _, h => absurd h (Nat.not_lt_zero _)
  | x :: l, k, 0, h => rfl
  | x :: l, k, i + 1, h => by
    have := mkL_get n l (k + 1) i (by simpa using h)
    rw [show k + (i + 1) = k + 1 + i by omega]
    exact this
def outM (s : Bool) (n : Int) : Bool := decide (n < 0) || decide (8 * siz s < n)
def mkA (s : Bool) (l : List (BitVec 8)) (n : Int) : List AC := match outM s n with | true => .b false :: List.replicate 16 (.u8 0) | false => .b s :: (mkL n 0 l).map AC.u8
def mkE (s : Bool) (n : Int) : Int := match outM s n with | true => 1 | false => 0
theorem flatB {s : Bool} (l : List (BitVec 8)) : Flat (.b s :: l.map AC.u8) := fun c h => by
  rcases List.mem_cons.1 h with rfl | h
  · rfl
  · exact flat_u8 l c h
theorem tk17 (s : Bool) (l : List (BitVec 8)) (h : l.length = 16) : List.take 17 (List.drop 0 (AC.b s :: l.map AC.u8)) = .b s :: l.map AC.u8 := by
  rw [List.drop_zero, List.take_of_length_le (by rw [List.length_cons, List.length_map, h]; exact Nat.le_refl _)]
theorem l81 {X : Ctx} (hX : X.P = Try.prog) (s : Bool) (l : List (BitVec 8)) (hl : l.length = 16) (n : Int) (h0 : 0 ≤ n) (h1 : n ≤ 128) (zs : List AC) (hz : zs.length = 17) (fz : Flat zs) : ∀ (d i : Nat), i + d = 16 →
    KRun X 81 0 (Is (.tup [.agg (.b s :: (mkL n 0 l).map AC.u8), .one (.i64 0)])) (kOf Try.f81 0) (mkS 39 [(1, .one (.i64 n)), (2, .one (.ptr 0 0)), (4, .one (.ptr 1 0)), (18, .one (.i64 i))])
      [some (.b s :: ((mkL n 0 l).take i ++ l.drop i).map AC.u8), some zs] := by
  have hT : (mkL n 0 l).length = l.length := mkL_len n l 0
  intro d
  induction d with
  | zero =>
    intro i hi
    have hi : i = 16 := by omega
    subst hi
    refine vc81a hX s _ zs n (16 : Nat) ⟨fun h => absurd (of_decide_eq_true h) (by omega), fun _ => ?_⟩
    have e : (mkL n 0 l).take 16 ++ l.drop 16 = mkL n 0 l := by
      have := endT (mkL n 0 l) l hT
      rw [hT, hl] at this
      exact this
    have e2 := tk17 s (mkL n 0 l) (by rw [hT, hl])
    have e3 : (AC.b s :: (mkL n 0 l).map AC.u8).length = 17 := by rw [List.length_cons, List.length_map, hT, hl]
    have e4 : layS zs 0 (AC.b s :: (mkL n 0 l).map AC.u8) = .b s :: (mkL n 0 l).map AC.u8 := by
      rw [layS_eq (by rw [e3, hz]; exact Nat.le_refl _)]
      unfold lay
      rw [List.take_zero, List.nil_append, List.drop_of_length_le (by rw [e3, hz]; exact Nat.le_refl _), List.append_nil]
    rw [e, e2, e4, e2, e3]
    exact ⟨Nat.le_refl _, ⟨rfl, by rw [hz]; exact Nat.le_refl _⟩, Nat.le_refl _, flatB _, rfl⟩
  | succ d ih =>
    intro i hi
    have hil : i < l.length := by omega
    have hTi : i ≤ (mkL n 0 l).length := by omega
    have lT := lenT (mkL n 0 l) l (i := i) hT
    refine vc81a hX s _ zs n i ⟨fun _ => ?_, fun h => absurd (of_decide_eq_false h) (by omega)⟩
    have e1 : 1 + Int.toNat (i : Int) * 1 = i + 1 := by omega
    have e2 : gt AC.any (AC.b s :: ((mkL n 0 l).take i ++ l.drop i).map AC.u8) (i + 1) = .u8 (l.getD i 0) := by
      have := gt_u8_at ((mkL n 0 l).take i ++ l.drop i) i (by omega)
      rw [getT_src _ _ _ hTi (Nat.le_refl _)] at this
      exact this
    have e3 : layS (AC.b s :: ((mkL n 0 l).take i ++ l.drop i).map AC.u8) (i + 1) [AC.u8 (mkB n i (l.getD i 0))] = .b s :: ((mkL n 0 l).take (i + 1) ++ l.drop (i + 1)).map AC.u8 := by
      have := lay1 ((mkL n 0 l).take i ++ l.drop i) i (mkB n i (l.getD i 0))
      have em : mkB n i (l.getD i 0) = (mkL n 0 l).getD i 0 := by rw [mkL_get n l 0 i hil, Nat.zero_add]
      rw [em] at this ⊢
      rw [setT _ _ _ (by omega) hT] at this
      exact congrArg (AC.b s :: ·) this
    have e4 : ∀ x : BitVec 8, asU8 (AC.u8 x) = x := fun _ => rfl
    rw [e1, e2, e4]
    have e5 : (l.getD i 0 &&& ~~~(BitVec.ofInt 8 255 >>> Int.toNat (min (max (n - 8 * (i : Int)) 0) 8))) = mkB n i (l.getD i 0) := rfl
    rw [e5, e3]
    refine ⟨by unfold in64; omega, by unfold in64; omega, ⟨by omega, by omega⟩, rfl, by omega, ⟨by omega, by omega⟩, ⟨rfl, ?_⟩, by unfold in64; omega, flatB _, fz, ⟨ih (i + 1) (by omega)⟩⟩
    rw [List.length_cons, List.length_map, lT]; omega
theorem s81 (s : Bool) (l : List (BitVec 8)) (hl : l.length = 16) (n : Int) : Spec Try.prog 81 [.agg (.b s :: l.map AC.u8), .one (.i64 n)] [] (Is (.tup [.agg (mkA s l n), .one (.i64 (mkE s n))])) := by
  have fz : Flat ([AC.b false] ++ List.replicate 16 (AC.u8 0)) := flatLB_ok rfl
  have e2 := tk17 s l hl
  have e3 : (AC.b s :: l.map AC.u8).length = 17 := by rw [List.length_cons, List.length_map, hl]
  have e4 : addrOk (List.take 16 (l.map AC.u8)) := ⟨l, hl, by rw [List.take_of_length_le (by rw [List.length_map, hl]; exact Nat.le_refl _)]⟩
  have bad : outM s n = true → Is (.tup [.agg (mkA s l n), .one (.i64 (mkE s n))]) (.tup [.agg ([AC.b false] ++ List.replicate 16 (AC.u8 0)), .one (.i64 1)]) [] := fun h => by
    unfold mkA mkE
    rw [h]
    exact rfl
  refine Spec.of_run ok81 fun X hX => vc81 hX s (l.map AC.u8) n ⟨fun h => ⟨fun _ => ?_, nofun⟩, fun h => ⟨nofun, fun _ => ?_⟩⟩
  · exact ⟨⟨rfl, Nat.le_refl _⟩, Nat.le_refl _, fz, bad (by unfold outM; rw [h]; rfl)⟩
  · have h := of_decide_eq_false h
    rw [e2]
    refine ⟨by rw [e3]; exact Nat.le_refl _, flatB _, e4, by unfold in64; cases s <;> decide, fun h2 => ?_, fun h2 => ?_⟩
    · exact ⟨⟨rfl, Nat.le_refl _⟩, Nat.le_refl _, fz, bad (by unfold outM; rw [h2, Bool.or_true])⟩
    · have h2 := of_decide_eq_false h2
      have hn : n ≤ 128 := by cases s <;> simp only [siz] at h2 <;> omega
      have eo : outM s n = false := by unfold outM; rw [decide_eq_false h, decide_eq_false h2]; rfl
      unfold mkA mkE
      rw [eo]
      refine ⟨flatB _, fz, ⟨?_⟩⟩
      have := l81 hX s l hl n (by omega) hn _ (by rw [List.length_append, List.length_replicate]; rfl) fz 16 0 rfl
      exact this
def u8B : List AC → Bool
  | [] => true
  | .u8 _ :: l => u8B l
  | _ :: _ => false
theorem u8B_ok : ∀ {l : List AC}, u8B l = true → l = (l.map asU8).map AC.u8
  | [], _ => rfl
  | c :: l, h => by
    cases c <;> first | (cases h; done) | skip
    rw [List.map_cons, List.map_cons, ← u8B_ok (l := l) h]
    rfl
theorem mkA_exact (s : Bool) (l : List (BitVec 8)) (n : Int) : ExactL (mkA s l n) := by
  unfold mkA
  split
  · intro c h
    rcases List.mem_cons.1 h with rfl | h
    · rfl
    · rw [(List.mem_replicate.1 h).2]; rfl
  · intro c h
    rcases List.mem_cons.1 h with rfl | h
    · rfl
    · obtain ⟨x, _, rfl⟩ := List.mem_map.1 h
      rfl
theorem t81 {s : Bool} {cs : List AC} {n : Int} (hb : (u8B cs && Nat.beq (lenF cs) 16) = true) : Spec Try.prog 81 [.agg (.b s :: cs), .one (.i64 n)] [] (Is (.tup [.agg (mkA s (cs.map asU8) n), .one (.i64 (mkE s n))])) := by
  rw [Bool.and_eq_true] at hb
  have hl := beq_true hb.2
  rw [lenF_eq] at hl
  have := s81 s (cs.map asU8) (by rw [List.length_map]; exact hl) n
  rw [← u8B_ok hb.1] at this
  exact this
def T6 : Tab := fun f xs => match f, xs with
  | 81, [.agg (.b s :: cs), .one (.i64 n)] => (match u8B cs && Nat.beq (lenF cs) 16 with
    | true => some ([], .tup [.agg (mkA s (cs.map asU8) n), .one (.i64 (mkE s n))])
    | false => none)
  | _, _ => none
theorem T6_ok : TabOk Try.prog T6 := by
  intro f xs cs r h hc
  unfold T6 at h
  split at h
  · split at h
    · rename_i hb
      simp only [Option.some.injEq, Prod.mk.injEq] at h
      obtain ⟨rfl, rfl⟩ := h
      exact ⟨⟨_, _, ok81⟩, t81 hb, fun v hv => by
        simp only [List.mem_cons, List.mem_nil_iff, or_false] at hv
        rcases hv with rfl | rfl
        · exact mkA_exact _ _ _
        · exact rfl⟩
    · cases h
  · cases h
noncomputable def inlR : Inl := fun f => match f with
  | 39 => some (Try.f39, [])
  | 41 => some (Try.f41, [])
  | 42 => some (Try.f42, [])
  | 43 => some (Try.f43, [])
  | 44 => some (Try.f44, [])
  | 48 => some (Try.f48, [])
  | 59 => some (Try.f59, [])
  | 77 => some (Try.f77, [])
  | 78 => some (Try.f78, [])
  | 79 => some (Try.f79, [])
  | 80 => some (Try.f80, [])
  | 90 => some (Try.f90, [])
  | 106 => some (Try.f106, [])
  | _ => none
theorem inlR_ok : InlOk Try.prog inlR := by
  intro f fn hs h
  unfold inlR at h
  split at h <;> first | (cases h; done) | (obtain ⟨rfl, _⟩ := Prod.mk.inj (Option.some.inj h); first | exact ok39 | exact ok41 | exact ok42 | exact ok43 | exact ok44 | exact ok48 | exact ok59 | exact ok77 | exact ok78 | exact ok79 | exact ok80 | exact ok90 | exact ok106)
theorem s47 : Spec Try.prog 47 [] [] (Is (.one (.b true))) :=
  Spec.lit (litE_envOk (env0_ok (fun _ => false) T6 (fun _ => none) M0) inlR 6) (litE_ok (env0_ok (fun _ => false) T6 (fun _ => none) M0) (env0_call T6_ok M0_ok) mixed inlR_ok 6) mixed ok47 (hs := []) (n := 3000) (by kernel_rfl)
def T7 : Tab := fun f xs => match f, xs with
  | 47, [] => some ([], .one (.b true))
  | _, _ => none
theorem T7_ok : TabOk Try.prog T7 := by
  intro f xs cs r h hc
  unfold T7 at h
  split at h
  · simp only [Option.some.injEq, Prod.mk.injEq] at h
    obtain ⟨rfl, rfl⟩ := h
    exact ⟨⟨_, _, ok47⟩, s47, rfl⟩
  · cases h
end DH

noncomputable section
namespace DH
open Go Go.Proofs
/-! route: a table that nobody made -/
noncomputable def envN (T : Tab) (mf : FuncId → Option MF) (M : TabM) : Env := inlE (env0 (fun _ => false) T mf M) inlR 3
theorem envN_ok (T : Tab) (mf : FuncId → Option MF) (M : TabM) : EnvOk Try.prog (envN T mf M) := inlE_envOk (env0_ok _ T mf M) _ _
theorem envN_call {T : Tab} {mf : FuncId → Option MF} {M : TabM} (hT : TabOk Try.prog T) (hM : TabMOk Try.prog M) : CallOk Try.prog (envN T mf M) :=
  inlE_ok (env0_ok _ T mf M) (env0_call hT hM) mixed inlR_ok 3
set_option maxRecDepth 100000 in
theorem vc10 {X : Ctx} {Q : AV → Mem → Prop} (hX : X.P = Try.prog) (kd : BitVec 8) (s : Bool) (a0 a1 a2 a3 a4 a5 a6 a7 a8 a9 aa ab ac ad ae af : BitVec 8) (ln po : Int) (hv : Bool) (t : Bool) (b0 b1 b2 b3 b4 b5 b6 b7 b8 b9 ba bb bc bd be bf : BitVec 8) (r : Bool) (c0 c1 c2 c3 c4 c5 c6 c7 c8 c9 ca cb cc cd ce cf : BitVec 8) (h : ((0 : Int) ≤ (0 : Int) ∧ (0 : Int) < (↑2 : Int)) ∧ (fitCs ([AC.b false] ++ (List.replicate 16 (AC.u8 (0 : BitVec 8)) ++ ([AC.i64 (0 : Int), AC.i64 (0 : Int), AC.b false, AC.b false] ++ List.replicate 16 (AC.u8 (0 : BitVec 8))))) ([AC.b false] ++ (List.replicate 16 (AC.u8 (0 : BitVec 8)) ++ ([AC.i64 (0 : Int), AC.i64 (0 : Int), AC.b false, AC.b false] ++ List.replicate 16 (AC.u8 (0 : BitVec 8))))) ∧ fitCs ([AC.b false] ++ (List.replicate 16 (AC.u8 (0 : BitVec 8)) ++ ([AC.i64 (0 : Int), AC.i64 (0 : Int), AC.b false, AC.b false] ++ List.replicate 16 (AC.u8 (0 : BitVec 8))))) ([AC.b false] ++ (List.replicate 16 (AC.u8 (0 : BitVec 8)) ++ ([AC.i64 (0 : Int), AC.i64 (0 : Int), AC.b false, AC.b false] ++ List.replicate 16 (AC.u8 (0 : BitVec 8)))))) ∧ ((!sameCells ([AC.b false] ++ (List.replicate 16 (AC.u8 (0 : BitVec 8)) ++ ([AC.i64 (0 : Int), AC.i64 (0 : Int), AC.b false, AC.b false] ++ List.replicate 16 (AC.u8 (0 : BitVec 8))))) ([AC.b false] ++ (List.replicate 16 (AC.u8 (0 : BitVec 8)) ++ ([AC.i64 (0 : Int), AC.i64 (0 : Int), AC.b false, AC.b false] ++ List.replicate 16 (AC.u8 (0 : BitVec 8)))))) = true → Q (AV.one (AC.b false)) []) ∧ ((!sameCells ([AC.b false] ++ (List.replicate 16 (AC.u8 (0 : BitVec 8)) ++ ([AC.i64 (0 : Int), AC.i64 (0 : Int), AC.b false, AC.b false] ++ List.replicate 16 (AC.u8 (0 : BitVec 8))))) ([AC.b false] ++ (List.replicate 16 (AC.u8 (0 : BitVec 8)) ++ ([AC.i64 (0 : Int), AC.i64 (0 : Int), AC.b false, AC.b false] ++ List.replicate 16 (AC.u8 (0 : BitVec 8)))))) = false → in64 ((0 : Int) + (1 : Int)) ∧ ((0 : Int) ≤ (0 : Int) + (1 : Int) ∧ (0 : Int) + (1 : Int) < (↑2 : Int)) ∧ AC.nm = AC.nm ∧ AC.nm = AC.nm ∧ AC.nm = AC.nm ∧ (fitCs ([AC.b false] ++ (List.replicate 16 (AC.u8 (0 : BitVec 8)) ++ ([AC.i64 (0 : Int), AC.i64 (0 : Int), AC.b false, AC.b false] ++ List.replicate 16 (AC.u8 (0 : BitVec 8))))) ([AC.b false] ++ (List.replicate 16 (AC.u8 (0 : BitVec 8)) ++ ([AC.i64 (0 : Int), AC.i64 (0 : Int), AC.b false, AC.b false] ++ List.replicate 16 (AC.u8 (0 : BitVec 8))))) ∧ fitCs ([AC.b false] ++ (List.replicate 16 (AC.u8 (0 : BitVec 8)) ++ ([AC.i64 (0 : Int), AC.i64 (0 : Int), AC.b false, AC.b false] ++ List.replicate 16 (AC.u8 (0 : BitVec 8))))) ([AC.b false] ++ (List.replicate 16 (AC.u8 (0 : BitVec 8)) ++ ([AC.i64 (0 : Int), AC.i64 (0 : Int), AC.b false, AC.b false] ++ List.replicate 16 (AC.u8 (0 : BitVec 8)))))) ∧ ((!sameCells ([AC.b false] ++ (List.replicate 16 (AC.u8 (0 : BitVec 8)) ++ ([AC.i64 (0 : Int), AC.i64 (0 : Int), AC.b false, AC.b false] ++ List.replicate 16 (AC.u8 (0 : BitVec 8))))) ([AC.b false] ++ (List.replicate 16 (AC.u8 (0 : BitVec 8)) ++ ([AC.i64 (0 : Int), AC.i64 (0 : Int), AC.b false, AC.b false] ++ List.replicate 16 (AC.u8 (0 : BitVec 8)))))) = true → Q (AV.one (AC.b false)) []) ∧ ((!sameCells ([AC.b false] ++ (List.replicate 16 (AC.u8 (0 : BitVec 8)) ++ ([AC.i64 (0 : Int), AC.i64 (0 : Int), AC.b false, AC.b false] ++ List.replicate 16 (AC.u8 (0 : BitVec 8))))) ([AC.b false] ++ (List.replicate 16 (AC.u8 (0 : BitVec 8)) ++ ([AC.i64 (0 : Int), AC.i64 (0 : Int), AC.b false, AC.b false] ++ List.replicate 16 (AC.u8 (0 : BitVec 8)))))) = false → AC.nm = AC.nm ∧ in64 ((0 : Int) + (1 : Int) + (1 : Int)) ∧ Q (AV.one (AC.b true)) []))) : KRun X 10 0 Q ([.code (bodyOf Try.f10)]) (slots [.agg [.u8 kd, .b s, .u8 a0, .u8 a1, .u8 a2, .u8 a3, .u8 a4, .u8 a5, .u8 a6, .u8 a7, .u8 a8, .u8 a9, .u8 aa, .u8 ab, .u8 ac, .u8 ad, .u8 ae, .u8 af, .i64 ln, .i64 po, .b hv, .b t, .u8 b0, .u8 b1, .u8 b2, .u8 b3, .u8 b4, .u8 b5, .u8 b6, .u8 b7, .u8 b8, .u8 b9, .u8 ba, .u8 bb, .u8 bc, .u8 bd, .u8 be, .u8 bf, .b r, .u8 c0, .u8 c1, .u8 c2, .u8 c3, .u8 c4, .u8 c5, .u8 c6, .u8 c7, .u8 c8, .u8 c9, .u8 ca, .u8 cb, .u8 cc, .u8 cd, .u8 ce, .u8 cf]] Try.f10.ntmps) [] :=
  wpRun_ok (hX ▸ envN_ok T7 mf0 M0) (hX ▸ envN_call T7_ok M0_ok) (hX ▸ mixed) (hX ▸ ok10) LK_ok (cast (β := wpRun (envN T7 mf0 M0) [44] [] true (RS.mk Try.f10.results.toList 0 (CS.mk [] [] [] [])) (LK X 10 0 Q false [(2, LS.mk [1, 9, 10, 11] (CS.mk [] [] [] []))]) Q 20000 _ _ _) (by kernel_rfl) h)
theorem s10 (kd : BitVec 8) (s : Bool) (a0 a1 a2 a3 a4 a5 a6 a7 a8 a9 aa ab ac ad ae af : BitVec 8) (ln po : Int) (hv : Bool) (t : Bool) (b0 b1 b2 b3 b4 b5 b6 b7 b8 b9 ba bb bc bd be bf : BitVec 8) (r : Bool) (c0 c1 c2 c3 c4 c5 c6 c7 c8 c9 ca cb cc cd ce cf : BitVec 8) : Spec Try.prog 10 [.agg [.u8 kd, .b s, .u8 a0, .u8 a1, .u8 a2, .u8 a3, .u8 a4, .u8 a5, .u8 a6, .u8 a7, .u8 a8, .u8 a9, .u8 aa, .u8 ab, .u8 ac, .u8 ad, .u8 ae, .u8 af, .i64 ln, .i64 po, .b hv, .b t, .u8 b0, .u8 b1, .u8 b2, .u8 b3, .u8 b4, .u8 b5, .u8 b6, .u8 b7, .u8 b8, .u8 b9, .u8 ba, .u8 bb, .u8 bc, .u8 bd, .u8 be, .u8 bf, .b r, .u8 c0, .u8 c1, .u8 c2, .u8 c3, .u8 c4, .u8 c5, .u8 c6, .u8 c7, .u8 c8, .u8 c9, .u8 ca, .u8 cb, .u8 cc, .u8 cd, .u8 ce, .u8 cf]] [] (Is (.one (.b true))) := by
  have sm : ∀ cs, (!sameCells cs cs) = false := fun cs => by rw [same_iff.2 rfl]; rfl
  refine Spec.of_run ok10 fun X hX => vc10 hX _ _ _ _ _ _ _ _ _ _ _ _ _ _ _ _ _ _ _ _ _ _ _ _ _ _ _ _ _ _ _ _ _ _ _ _ _ _ _ _ _ _ _ _ _ _ _ _ _ _ _ _ _ _ _ ?_
  (repeat' (first | exact trivial | exact fitBs_ok rfl | exact rfl | (intro h; rw [sm] at h; cases h; done) | (intro h; clear h) | refine And.intro ?_ ?_)) <;> first | omega | (unfold in64; omega)
def shWay : Sh := .st (.cons shAddr (.cons .i64 (.cons .i64 (.cons .bool (.cons shAddr .nil)))))
def shStep16 : Sh := .st (.cons .u8 (.cons shWay (.cons shAddr .nil)))
theorem encWay (y : shWay.T) : shWay.enc y = shAddr.enc y.1 ++ (.i64 y.2.1 :: .i64 y.2.2.1 :: .b y.2.2.2.1 :: shAddr.enc y.2.2.2.2.1) := by
  obtain ⟨a, ln, po, hv, b, _⟩ := y
  show shAddr.enc a ++ (.i64 ln :: .i64 po :: .b hv :: (shAddr.enc b ++ [])) = _
  rw [List.append_nil]
theorem encStep16 (y : shStep16.T) : shStep16.enc y = .u8 y.1 :: (shWay.enc y.2.1 ++ shAddr.enc y.2.2.1) := by
  obtain ⟨k, w, a, _⟩ := y
  show .u8 k :: (shWay.enc w ++ (shAddr.enc a ++ [])) = _
  rw [List.append_nil]
theorem wfWay {y : shWay.T} (h : shWay.wf y) : shAddr.wf y.1 ∧ shAddr.wf y.2.2.2.2.1 := by
  obtain ⟨a, ln, po, hv, b, _⟩ := y
  exact ⟨h.1, h.2.2.2.2.1⟩
theorem wfStep16 {y : shStep16.T} (h : shStep16.wf y) : shWay.wf y.2.1 ∧ shAddr.wf y.2.2.1 := by
  obtain ⟨k, w, a, _⟩ := y
  exact ⟨h.2.1, h.2.2.1⟩
theorem s10l (kd : BitVec 8) (s : Bool) (l : List (BitVec 8)) (hl : l.length = 16) (ln po : Int) (hv : Bool) (t : Bool) (m : List (BitVec 8)) (hm : m.length = 16) (r : Bool) (n : List (BitVec 8)) (hn : n.length = 16) :
    Spec Try.prog 10 [.agg (.u8 kd :: (((.b s :: l.map AC.u8) ++ (.i64 ln :: .i64 po :: .b hv :: .b t :: m.map AC.u8)) ++ (.b r :: n.map AC.u8)))] [] (Is (.one (.b true))) := by
  obtain ⟨a0, a1, a2, a3, a4, a5, a6, a7, a8, a9, aa, ab, ac, ad, ae, af, rfl⟩ := sixteen hl
  obtain ⟨b0, b1, b2, b3, b4, b5, b6, b7, b8, b9, ba, bb, bc, bd, be, bf, rfl⟩ := sixteen hm
  obtain ⟨c0, c1, c2, c3, c4, c5, c6, c7, c8, c9, ca, cb, cc, cd, ce, cf, rfl⟩ := sixteen hn
  exact s10 _ _ _ _ _ _ _ _ _ _ _ _ _ _ _ _ _ _ _ _ _ _ _ _ _ _ _ _ _ _ _ _ _ _ _ _ _ _ _ _ _ _ _ _ _ _ _ _ _ _ _ _ _ _ _
theorem s10w (y : shStep16.T) (h : shStep16.wf y) : Spec Try.prog 10 [.agg (shStep16.enc y)] [] (Is (.one (.b true))) := by
  obtain ⟨h1, h2⟩ := wfStep16 h
  obtain ⟨h3, h4⟩ := wfWay h1
  rw [encStep16, encWay, encAddr, encAddr, encAddr]
  exact s10l _ _ _ (wfAddr h3) _ _ _ _ _ (wfAddr h4) _ _ (wfAddr h2)
end DH
