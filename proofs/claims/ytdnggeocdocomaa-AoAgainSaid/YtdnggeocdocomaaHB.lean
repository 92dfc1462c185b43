/- Walks of functions, each by evaluation: what each returns; with the layer beneath. -/
import Derived.Test.YtdnggeocdocomaaHA
import Derived.Test.YtdnggeocdocomaaLC
set_option linter.unusedVariables false
set_option linter.unusedSimpArgs false
noncomputable section
namespace DH
set_option maxRecDepth 100000
open List (take drop replicate)
open AC renaming u8 → U8, u16 → U16, u32 → U32, u64 → U64, i64 → I64, b → Bb, xs → XS, gs → GS, sv → SV, ptr → PT, any → AY, ns → NS
open AV renaming one → O1, agg → AG, tup → TU
open Go Go.Proofs
def symF (t : TypeId) : Bool := match t with | 22 => true | t => symH t
noncomputable def baseF (T : Tab) (mf : FuncId → Option MF) (M : TabM) : Env := ⟨tys, symF, false, T, [], mf, M, fun _ => none⟩
theorem baseF_ok (T : Tab) (mf : FuncId → Option MF) (M : TabM) : EnvOk Try.prog (baseF T mf M) := EnvOk.of tysOk
theorem baseF_call {T : Tab} {mf : FuncId → Option MF} {M : TabM} (hT : TabOk Try.prog T) (hM : TabMOk Try.prog M) : CallOk Try.prog (baseF T mf M) :=
 ⟨hT, fun f mf xs m0 cs r m1 _ h hc => hM f xs m0 cs r m1 h hc, (by intro f k h; cases h)⟩
noncomputable def envF (T : Tab) (mf : FuncId → Option MF) (M : TabM) : Env := inlE (baseF T mf M) inlH 2
theorem envF_ok (T : Tab) (mf : FuncId → Option MF) (M : TabM) : EnvOk Try.prog (envF T mf M) := inlE_envOk (baseF_ok T mf M) _ _
theorem envF_call {T : Tab} {mf : FuncId → Option MF} {M : TabM} (hT : TabOk Try.prog T) (hM : TabMOk Try.prog M) : CallOk Try.prog (envF T mf M) :=
 inlE_ok (baseF_ok T mf M) (baseF_call hT hM) mixed inlH_ok 2
noncomputable def T5 : Tab := fun f xs => match f, xs with
 | 42, [.agg cs] => some ([cs = (smOf cs).cells ∧ cs.length = 70], .agg (hide ((digF (smOf cs)).map U8)))
 | f, xs => T4 f xs
theorem T5_ok : TabOk Try.prog T5 := by
 intro f xs cs r h hc
 unfold T5 at h
 split at h
 ·obtain ⟨rfl, rfl⟩ := Prod.mk.inj (Option.some.inj h)
  obtain ⟨h1, h2⟩ := hc.1
  rename_i cs
  have hl : (smOf cs).left.length = 64 := by have := (smOf cs).len; rw [← h1] at this; omega
  have := s42 (smOf cs) hl
  rw [← h1] at this
  rw [hide_eq]
  exact ⟨⟨_, _, ok42⟩, this, exactL_map _ (fun _ => rfl) _⟩
 ·exact T4_ok _ _ _ _ h hc
theorem vc38 {X : Ctx} {Q : AV->Mem->Prop} (hX : X.P=Try.prog) (row : List AC) (n:Nat) (h : 70<=70/\(70=70/\70<=70)/\(70=70/\70<=70)/\Flat (replicate 20 (U8 0))/\Flat (layS ([U32 0,U32 0,U32 0,U32 0,U32 0]++(replicate 64 (U8 0)++[U64 0])) 0 (take 70 (drop 0 (layS ([U32 0,U32 0,U32 0,U32 0,U32 0]++(replicate 64 (U8 0)++[U64 0])) 0 ([U32 0,U32 0,U32 0,U32 0,U32 0]++(replicate 64 (U8 0)++[U64 0]))))))/\KR X 38 0 Q (kOf Try.f38 0) (mkS 19 [(2,O1 (PT 0 0)),(3,O1 (PT 1 0)),(7,O1 (XS row 0 n)),(8,O1 (I64 (↑n:Int))),(9,O1 (I64 (0:Int)))]) [some (replicate 20 (U8 0)),some ([U32 0,U32 0,U32 0,U32 0,U32 0]++(replicate 64 (U8 0)++[U64 0]))]) : KRun X 38 0 Q ([.code (bodyOf Try.f38)]) (slots [.one (.xs row 0 n)] Try.f38.ntmps) [] :=
 wpRun_ok (hX ▸ envF_ok T5 mf0 M0) (hX ▸ envF_call T5_ok M0_ok) (hX ▸ mixed) (hX ▸ ok38) LK_ok (cast (β := wpRun (envF T5 mf0 M0) [10] [] false (RS.mk Try.f38.results.toList 0 (CS.mk [] [] [0] [])) (LK X 38 0 Q true [(3, LS.mk [2, 3, 7, 8, 9] (CS.mk [] [] [] []))]) Q 2000 _ _ _) (by kernel_rfl) h)
theorem vc38a {X : Ctx} {Q : AV->Mem->Prop} (hX : X.P=Try.prog) (cs zs row : List AC) (n:Nat) (i:Int) (h : (decide (i<(↑n:Int))=true->((0:Int)<=i/\i<(↑n:Int))/\gt AY row (0+Int.toNat i*1)=XS (xsRow (gt AY row (0+Int.toNat i*1))) (xsOff (gt AY row (0+Int.toNat i*1))) (xsLen (gt AY row (0+Int.toNat i*1)))/\70<=List.length cs/\Flat (take 70 (drop 0 cs))/\xsOff (gt AY row (0+Int.toNat i*1))+xsLen (gt AY row (0+Int.toNat i*1))*1<=List.length (xsRow (gt AY row (0+Int.toNat i*1)))/\(take 70 (drop 0 cs)=Sm.cells (smOf (take 70 (drop 0 cs)))/\List.length (take 70 (drop 0 cs))=70/\allU8 (take (xsLen (gt AY row (0+Int.toNat i*1))*1) (drop (xsOff (gt AY row (0+Int.toNat i*1))) (xsRow (gt AY row (0+Int.toNat i*1)))))/\List.length (take (xsLen (gt AY row (0+Int.toNat i*1))*1) (drop (xsOff (gt AY row (0+Int.toNat i*1))) (xsRow (gt AY row (0+Int.toNat i*1)))))=xsLen (gt AY row (0+Int.toNat i*1)))/\(List.length (hide (Sm.cells (addF (smOf (take 70 (drop 0 cs))) (List.map asU8 (take (xsLen (gt AY row (0+Int.toNat i*1))*1) (drop (xsOff (gt AY row (0+Int.toNat i*1))) (xsRow (gt AY row (0+Int.toNat i*1)))))))))=70/\70<=List.length cs)/\in64 (i+(1:Int))/\Flat zs/\Flat (layS cs 0 (hide (Sm.cells (addF (smOf (take 70 (drop 0 cs))) (List.map asU8 (take (xsLen (gt AY row (0+Int.toNat i*1))*1) (drop (xsOff (gt AY row (0+Int.toNat i*1))) (xsRow (gt AY row (0+Int.toNat i*1))))))))))/\KR X 38 0 Q (kOf Try.f38 0) (mkS 19 [(2,O1 (PT 0 0)),(3,O1 (PT 1 0)),(7,O1 (XS row 0 n)),(8,O1 (I64 (↑n:Int))),(9,O1 (I64 (i+(1:Int))))]) [some zs,some (layS cs 0 (hide (Sm.cells (addF (smOf (take 70 (drop 0 cs))) (List.map asU8 (take (xsLen (gt AY row (0+Int.toNat i*1))*1) (drop (xsOff (gt AY row (0+Int.toNat i*1))) (xsRow (gt AY row (0+Int.toNat i*1))))))))))])/\(decide (i<(↑n:Int))=false->70<=List.length cs/\Flat (take 70 (drop 0 cs))/\(take 70 (drop 0 cs)=Sm.cells (smOf (take 70 (drop 0 cs)))/\List.length (take 70 (drop 0 cs))=70)/\(List.length (hide (List.map U8 (digF (smOf (take 70 (drop 0 cs))))))=20/\20<=List.length zs)/\20<=List.length (layS zs 0 (hide (List.map U8 (digF (smOf (take 70 (drop 0 cs)))))))/\flatAV (AG (take 20 (drop 0 (layS zs 0 (hide (List.map U8 (digF (smOf (take 70 (drop 0 cs))))))))))/\Q (AG (take 20 (drop 0 (layS zs 0 (hide (List.map U8 (digF (smOf (take 70 (drop 0 cs)))))))))) [])) : KRun X 38 0 Q (kOf Try.f38 0) (mkS 19 [(2, .one (.ptr 0 0)), (3, .one (.ptr 1 0)), (7, .one (.xs row 0 n)), (8, .one (.i64 n)), (9, .one (.i64 i))]) [some zs, some cs] :=
 wpRun_ok (hX ▸ envF_ok T5 mf0 M0) (hX ▸ envF_call T5_ok M0_ok) (hX ▸ mixed) (hX ▸ ok38) LK_ok (cast (β := wpRun (envF T5 mf0 M0) [10] [] false (RS.mk Try.f38.results.toList 0 (CS.mk [] [] [0] [])) (LK X 38 0 Q true [(3, LS.mk [2, 3, 7, 8, 9] (CS.mk [] [] [] []))]) Q 2000 _ _ _) (by kernel_rfl) h)
def encP (p : List (BitVec 8)) : AC := .xs (p.map U8) 0 p.length
def asP (c : AC) : List (BitVec 8) := (xsRow c).map asU8
theorem asP_enc (p : List (BitVec 8)) : asP (encP p) = p := map_as8 p
theorem map_asP (ps : List (List (BitVec 8))) : (ps.map encP).map asP = ps := by
 rw [List.map_map]
 exact (List.map_congr_left (fun p _ => asP_enc p)).trans (List.map_id ps)
theorem gt_P_at (ps : List (List (BitVec 8))) (i:Nat) (h : i < ps.length) : gt AY (ps.map encP) i = encP (ps.getD i []) := by
 rw [gt_eq]; simp [List.getD, h]
theorem foldl_left : ∀ (ps : List (List (BitVec 8))) (s : Sm), (ps.foldl addF s).left.length = s.left.length
 | [], _ => rfl
 | p :: ps, s => by rw [List.foldl_cons, foldl_left ps, addF_left]
theorem foldl_take (ps : List (List (BitVec 8))) (s : Sm) (i:Nat) (h : i < ps.length) : (ps.take (i + 1)).foldl addF s = addF ((ps.take i).foldl addF s) (ps.getD i []) := by
 rw [List.take_add_one, List.getElem?_eq_getElem h, List.foldl_append, List.getD_eq_getElem?_getD, List.getElem?_eq_getElem h]
 rfl
theorem l38 {X : Ctx} (hX : X.P = Try.prog) (zs : List AC) (hz : Flat zs) (hzl : zs.length = 20) (ps : List (List (BitVec 8))) (hps : ps.length ≤ 1000000) : ∀ (d i:Nat), i + d = ps.length →
  KRun X 38 0 (Is (.agg ((digF (ps.foldl addF nwS)).map U8))) (kOf Try.f38 0) (mkS 19 [(2, .one (.ptr 0 0)), (3, .one (.ptr 1 0)), (7, .one (.xs (ps.map encP) 0 ps.length)), (8, .one (.i64 ps.length)), (9, .one (.i64 i))]) [some zs, some ((ps.take i).foldl addF nwS).cells] := by
 intro d
 have hl : ∀ i, ((ps.take i).foldl addF nwS).left.length = 64 := fun i => foldl_left _ _
 have hc : ∀ i, ((ps.take i).foldl addF nwS).cells.length = 70 := fun i => by rw [Sm.len, hl]
 have hc2 : ∀ i, (take 70 (drop 0 ((ps.take i).foldl addF nwS).cells)) = ((ps.take i).foldl addF nwS).cells := fun i => by rw [List.drop_zero, List.take_of_length_le (by rw [hc]; exact Nat.le_refl _)]
 induction d with
 | zero =>
  intro i hi
  have hi : i = ps.length := by omega
  subst hi
  refine vc38a hX _ _ _ _ _ ⟨fun h => absurd (of_decide_eq_true h) (by omega), fun _ => ?_⟩
  rw [hc2, smOf_cells _ (hl _), hide_eq, hc, take_lay hzl (by rfl), layS_len (by rw [hzl]; exact Nat.le_refl _)]
  rw [List.take_length]
  refine ⟨by omega, Sm.flat _, ⟨rfl, rfl⟩, ⟨rfl, by omega⟩, by omega, flat_u8 _, rfl⟩
 | succ d ih =>
  intro i hi
  have hg := gt_P_at ps i (by omega)
  have h70 : (addF ((ps.take i).foldl addF nwS) (ps.getD i [])).cells.length = 70 := by rw [← foldl_take ps nwS i (by omega), hc]
  have ht : ∀ p : List (BitVec 8), take (p.length * 1) (drop 0 (p.map U8)) = p.map U8 := fun p => by rw [List.drop_zero, List.take_of_length_le (by rw [List.length_map]; omega)]
  refine vc38a hX _ _ _ _ _ ⟨fun _ => ?_, fun h => absurd (of_decide_eq_false h) (by omega)⟩
  simp only [ixi, hg, encP, xsRow, xsOff, xsLen, hc2, hide_eq, smOf_cells _ (hl i), ht, map_as8, hc, List.length_map]
  have e70 := layS_len (l := ((ps.take i).foldl addF nwS).cells) (cs := (addF ((ps.take i).foldl addF nwS) (ps.getD i [])).cells) (o := 0) (by rw [h70, hc]; exact Nat.le_refl _)
  have elay : layS ((ps.take i).foldl addF nwS).cells 0 (addF ((ps.take i).foldl addF nwS) (ps.getD i [])).cells = (addF ((ps.take i).foldl addF nwS) (ps.getD i [])).cells := by
   have := take_lay (hc i) h70
   rw [List.drop_zero, List.take_of_length_le (by rw [e70, hc]; exact Nat.le_refl _)] at this
   exact this
  rw [elay]
  refine ⟨by omega, trivial, by omega, Sm.flat _, by omega, ⟨trivial, trivial, allU8_map _, trivial⟩, ⟨h70, by omega⟩, by unfold in64; omega, hz, Sm.flat _, ⟨?_⟩⟩
  have := ih (i + 1) (by omega)
  rw [foldl_take ps nwS i (by omega)] at this
  exact this
theorem s38 (ps : List (List (BitVec 8))) (hps : ps.length ≤ 1000000) : Spec Try.prog 38 [.one (.xs (ps.map encP) 0 ps.length)] [] (Is (.agg ((digF (ps.foldl addF nwS)).map U8))) := by
 refine Spec.of_run ok38 fun X hX => vc38 hX _ _ ?_
 refine ⟨Nat.le_refl _, ⟨rfl, Nat.le_refl _⟩, ⟨rfl, Nat.le_refl _⟩, exactFlat rfl, exactFlat (by kernel_rfl), ⟨?_⟩⟩
 have e : ((ps.take 0).foldl addF nwS).cells = replicate 5 (U32 0) ++ (replicate 64 (U8 0) ++ [U64 0]) := by kernel_rfl
 have k := l38 hX (replicate 20 (U8 0)) (exactFlat rfl) rfl ps hps ps.length 0 (by omega)
 rw [e] at k
 exact k
end DH
noncomputable section
namespace DH
set_option maxRecDepth 100000
open List (take drop replicate)
open AC renaming u8 → U8, u16 → U16, u32 → U32, u64 → U64, i64 → I64, b → Bb, xs → XS, gs → GS, sv → SV, ptr → PT, any → AY, ns → NS
open AV renaming one → O1, agg → AG, tup → TU
open Go Go.Proofs
noncomputable def inlG : Inl := fun f => match f with
 | 36 => some (Try.f36, [])
 | _ => none
theorem inlG_ok : InlOk Try.prog inlG := by
 intro f fn hs h
 unfold inlG at h
 split at h <;> first | (cases h; done) | (obtain ⟨rfl, _⟩ := Prod.mk.inj (Option.some.inj h); first | exact ok36)
noncomputable def envG (T : Tab) (mf : FuncId → Option MF) (M : TabM) : Env := inlE (baseH T mf M) inlG 2
theorem envG_ok (T : Tab) (mf : FuncId → Option MF) (M : TabM) : EnvOk Try.prog (envG T mf M) := inlE_envOk (baseH_ok T mf M) _ _
theorem envG_call {T : Tab} {mf : FuncId → Option MF} {M : TabM} (hT : TabOk Try.prog T) (hM : TabMOk Try.prog M) : CallOk Try.prog (envG T mf M) :=
 inlE_ok (baseH_ok T mf M) (baseH_call hT hM) mixed inlG_ok 2
theorem vc40 {X : Ctx} {Q : AV->Mem->Prop} (hX : X.P=Try.prog)  (h : (70=70/\70<=70)/\70<=70/\Q (AG ([U32 0,U32 0,U32 0,U32 0,U32 0]++(replicate 64 (U8 0)++[U64 0]))) []) : KRun X 40 0 Q ([.code (bodyOf Try.f40)]) (slots [] Try.f40.ntmps) [] :=
 wpRun_ok (hX ▸ envG_ok T5 mf0 M0) (hX ▸ envG_call T5_ok M0_ok) (hX ▸ mixed) (hX ▸ ok40) LK_ok (cast (β := wpRun (envG T5 mf0 M0) [] [] false (RS.mk Try.f40.results.toList 0 (CS.mk [] [] [] [])) (LK X 40 0 Q true []) Q 2000 _ _ _) (by kernel_rfl) h)
theorem s40 : Spec Try.prog 40 [] [] (Is (.agg nwS.cells)) := by
 have e : nwS.cells = replicate 5 (U32 0) ++ (replicate 64 (U8 0) ++ [U64 0]) := by kernel_rfl
 refine Spec.of_run ok40 fun X hX => vc40 hX ?_
 rw [e]
 exact ⟨⟨rfl, Nat.le_refl _⟩, Nat.le_refl _, rfl⟩
noncomputable def T6 : Tab := fun f xs => match f, xs with
 | 38, [.one (.xs row 0 n)] => some ([row = (row.map asP).map encP ∧ row.length = n ∧ n ≤ 1000000], .agg (hide ((digF ((row.map asP).foldl addF nwS)).map U8)))
 | 40, [] => some ([], .agg (hide nwS.cells))
 | f, xs => T5 f xs
theorem T6_ok : TabOk Try.prog T6 := by
 intro f xs cs r h hc
 unfold T6 at h
 split at h
 ·obtain ⟨rfl, rfl⟩ := Prod.mk.inj (Option.some.inj h)
  obtain ⟨h1, h2, h3⟩ := hc.1
  rename_i row n
  have := s38 (row.map asP) (by rw [List.length_map]; omega)
  rw [← h1, List.length_map, h2] at this
  rw [hide_eq]
  exact ⟨⟨_, _, ok38⟩, this, exactL_map _ (fun _ => rfl) _⟩
 ·obtain ⟨rfl, rfl⟩ := Prod.mk.inj (Option.some.inj h)
  rw [hide_eq]
  exact ⟨⟨_, _, ok40⟩, s40, Sm.exact _⟩
 ·exact T5_ok _ _ _ _ h hc
theorem fit_u8 : ∀ (l : List (BitVec 8)), fitCs (replicate l.length (U8 0)) (l.map U8)
 | [] => trivial
 | _ :: l => ⟨trivial, fit_u8 l⟩
end DH
noncomputable section
namespace DH
set_option maxRecDepth 100000
open List (take drop replicate)
open AC renaming u8 → U8, u16 → U16, u32 → U32, u64 → U64, i64 → I64, b → Bb, xs → XS, gs → GS, sv → SV, ptr → PT, any → AY, ns → NS
open AV renaming one → O1, agg → AG, tup → TU
open Go Go.Proofs
noncomputable def T7 : Tab := T6
theorem T7_ok : TabOk Try.prog T7 := T6_ok
theorem same_self (l : List AC) : sameCells l l = true := by unfold sameCells; simp
theorem tk (b : List (BitVec 8)) : take (b.length * 1) (drop 0 (b.map U8)) = b.map U8 := by rw [List.drop_zero, List.take_of_length_le (by rw [List.length_map]; omega)]
theorem tkP (b : List (List (BitVec 8))) : take (b.length * 1) (drop 0 (b.map encP)) = b.map encP := by rw [List.drop_zero, List.take_of_length_le (by rw [List.length_map]; omega)]
theorem asP1 (b : List (BitVec 8)) : List.map asP [XS (b.map U8) 0 b.length] = [b] := map_asP [b]
theorem asP2 (a b : List (BitVec 8)) : List.map asP [XS (a.map U8) 0 a.length, XS (b.map U8) 0 b.length] = [a, b] := map_asP [a, b]
theorem flat_take (ps : List (List (BitVec 8))) (i:Nat) (h : i < ps.length) : (ps.take (i + 1)).flatten = (ps.take i).flatten ++ ps.getD i [] := by
 rw [List.take_add_one, List.getElem?_eq_getElem h, List.flatten_append, List.getD_eq_getElem?_getD, List.getElem?_eq_getElem h]
 simp
end DH
noncomputable section
namespace DH
set_option maxRecDepth 100000
open List (take drop replicate)
open AC renaming u8 → U8, u16 → U16, u32 → U32, u64 → U64, i64 → I64, b → Bb, xs → XS, gs → GS, sv → SV, ptr → PT, any → AY, ns → NS
open AV renaming one → O1, agg → AG, tup → TU
open Go Go.Proofs
theorem layS_all {l cs : List AC} (h : l.length = cs.length) : layS l 0 cs = cs := by
 have := take_lay (l := l) (cs := cs) rfl h.symm
 rw [List.drop_zero, List.take_of_length_le (by rw [layS_len (by omega)]; exact Nat.le_refl _)] at this
 exact this
theorem tk70 (s : Sm) (h : s.left.length = 64) : take 70 (drop 0 s.cells) = s.cells := by
 rw [List.drop_zero, List.take_of_length_le (by rw [Sm.len, h]; exact Nat.le_refl _)]
theorem z70 : [U32 0, U32 0, U32 0, U32 0, U32 0] ++ (replicate 64 (U8 0) ++ [U64 0]) = nwS.cells := by kernel_rfl
theorem lay70 (s t : Sm) (hs : s.left.length = 64) (ht : t.left.length = 64) : layS t.cells 0 s.cells = s.cells := layS_all (by rw [Sm.len, Sm.len, hs, ht])
theorem layNw (s : Sm) (hs : s.left.length = 64) : layS nwS.cells 0 s.cells = s.cells := lay70 _ _ hs rfl
theorem smOf_nw : smOf nwS.cells = nwS := smOf_cells nwS rfl
def Fin : AV → Mem → Prop := Is (.one (.b true))
theorem fin : Fin (.one (.b true)) [] := rfl
end DH
noncomputable section
namespace DH
set_option maxRecDepth 100000
open List (take drop replicate)
open AC renaming u8 → U8, u16 → U16, u32 → U32, u64 → U64, i64 → I64, b → Bb, xs → XS, gs → GS, sv → SV, ptr → PT, any → AY, ns → NS
open AV renaming one → O1, agg → AG, tup → TU
open Go Go.Proofs
end DH
