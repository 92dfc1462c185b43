/- Walks of functions, each by evaluation: what each returns; with the layer beneath. -/
import Derived.Test.YtdnggeocdocomaaPA
set_option linter.unusedVariables false
set_option linter.unusedSimpArgs false
noncomputable section
namespace DH
set_option maxRecDepth 100000
open List (take drop replicate)
open AC renaming u8 → U8, u16 → Va, u32 → Fa, u64 → Nc, i64 → I64, b → Bb, xs → XS, gs → GS, sv → SV, ptr → PT, any → AY, ns → NS
open AV renaming one → O1, agg → AG, Ec → TU
open Go Go.Proofs
def z12 : List (BitVec 8) := replicate 12 0
def macB (a:Int) (k m : List (BitVec 8)) : List (BitVec 8) := if kszF a = 0 then z12 else if k.length ≠ kszF a then z12 else if a = 1 then shF k m else sh12 (cmF k m)
def macE (a:Int) (k : List (BitVec 8)) : Int := if kszF a = 0 then 11 else if k.length ≠ kszF a then 1 else 0
theorem macB_len (a:Int) (k m : List (BitVec 8)) : (macB a k m).length = 12 := by
 unfold macB
 split
 ·exact List.length_replicate
 ·split
  ·exact List.length_replicate
  ·split
   ·exact shF_len _ _
   ·exact sh12_len (cmF_len _ _)
theorem kszF_cases (a:Int) : (a = 1 ∧ kszF a = 20) ∨ (a = 2 ∧ kszF a = 16) ∨ (a ≠ 1 ∧ a ≠ 2 ∧ kszF a = 0) := by
 unfold kszF
 by_cases h1 : a = 1
 ·exact .inl ⟨h1, if_pos h1⟩
 ·by_cases h2 : a = 2
  ·exact .inr (.inl ⟨h2, by rw [if_neg h1, if_pos h2]⟩)
  ·exact .inr (.inr ⟨h1, h2, by rw [if_neg h1, if_neg h2]⟩)
theorem s80 (a:Int) (k : List (BitVec 8)) (ps : List (List (BitVec 8))) (hkl : k.length ≤ 9223372036854775807) (hps : ps.length ≤ 1000000) : Spec Try.prog 80 [.one (.i64 a), .one (.xs (k.map U8) 0 k.length), .one (.xs (ps.map encP) 0 ps.length)] [] (Is (.Ec [.agg ((macB a k ps.flatten).map U8), .one (.i64 (macE a k))])) := by
 generalize hm : ps.flatten = m
 refine Spec.of_run ok80 fun X hX => vc80 hX _ _ _ _ _ ?_
 have z : Flat (replicate 12 (U8 0)) := by rw [Jd]; exact Aa _
 have zA : Za (.agg (replicate 12 (U8 0))) := z
 have hz : z12.map U8 = replicate 12 (U8 0) := List.map_replicate
 have hs := shF_len k m
 have hc := cmF_len k m
 have h12 := sh12_len hc
 have l1 : Qa (replicate 12 (U8 0)) 0 ((shF k m).map U8) = (shF k m).map U8 := Ae _ _ hs
 have l2 : Qa (replicate 12 (U8 0)) 0 ((sh12 (cmF k m)).map U8) = (sh12 (cmF k m)).map U8 := Ae _ _ h12
 have t1 : (shF k m).take 12 = shF k m := List.take_of_length_le (by omega)
 have t2 : (sh12 (cmF k m)).take 12 = sh12 (cmF k m) := List.take_of_length_le (by omega)
 refine ⟨fun h => ?_, fun h => ⟨fun h1 => ?_, fun h1 => ⟨fun h2 => ?_, fun h2 => ?_⟩⟩⟩
 ·have h0 : kszF a = 0 := by have := of_decide_eq_true h; omega
  have hB : macB a k m = z12 := if_pos h0
  have hE : macE a k = 11 := if_pos h0
  rw [hB, hE, hz]
  (repeat' (first | exact trivial | exact Aa _ | exact Ya _ | exact z | exact zA | exact Ba _ | exact Ud _ | exact Nat.le_refl _ | exact (rfl : AC.flat (I64 _) = true) | refine And.intro ?_ ?_)) <;> first | omega | skip
  exact rfl
 ·have h0 : ¬ kszF a = 0 := by have := of_decide_eq_false h; omega
  have h1 : k.length ≠ kszF a := by have := not_dec h1; omega
  have hB : macB a k m = z12 := by unfold macB; rw [if_neg h0, if_pos h1]
  have hE : macE a k = 1 := by unfold macE; rw [if_neg h0, if_pos h1]
  rw [hB, hE, hz]
  (repeat' (first | exact trivial | exact Aa _ | exact Ya _ | exact z | exact zA | exact Ba _ | exact Ud _ | exact Nat.le_refl _ | exact (rfl : AC.flat (I64 _) = true) | refine And.intro ?_ ?_)) <;> first | omega | skip
  exact rfl
 ·have h0 : ¬ kszF a = 0 := by have := of_decide_eq_false h; omega
  have h1 : ¬ k.length ≠ kszF a := by have := is_dec h1; omega
  have h2 := of_decide_eq_true h2
  have hk : k.length ≤ 1000000 := by rcases kszF_cases a with h | h | h <;> omega
  have hB : macB a k m = shF k m := by unfold macB; rw [if_neg h0, if_neg h1, if_pos h2]
  have hE : macE a k = 0 := by unfold macE; rw [if_neg h0, if_neg h1]
  rw [tk k, tkP ps, map_asP, hm, hB, hE]
  simp only [Ja, Ua, l1, tk0, List.drop_zero, t1, List.length_map, List.length_replicate, hs]
  clear l1 l2 t1 t2 hB hc h12
  generalize shF k m = E at *
  (repeat' (first | exact trivial | exact Aa _ | exact Ya _ | exact z | exact zA | exact Ba _ | exact Ud _ | exact Nat.le_refl _ | exact (rfl : AC.flat (I64 _) = true) | refine And.intro ?_ ?_)) <;> first | omega | skip
  exact rfl
 ·have h0 : ¬ kszF a = 0 := by have := of_decide_eq_false h; omega
  have h1 : ¬ k.length ≠ kszF a := by have := is_dec h1; omega
  have h2 := of_decide_eq_false h2
  have h16 : k.length = 16 := by rcases kszF_cases a with h | h | h <;> omega
  have hk : k.length ≤ 1000000 := by omega
  have ek : k.take 16 = k := List.take_of_length_le (by omega)
  have hB : macB a k m = sh12 (cmF k m) := by unfold macB; rw [if_neg h0, if_neg h1, if_neg h2]
  have hE : macE a k = 0 := by unfold macE; rw [if_neg h0, if_neg h1]
  rw [tkP ps, map_asP, hm, hB, hE]
  simp only [Ja, ek, Ua, l2, tk0, List.drop_zero, t2, List.length_map, List.length_replicate, h12, h16]
  clear l1 l2 t1 t2 hB hs ek
  generalize cmF k m = E at *
  (repeat' (first | exact trivial | exact Aa _ | exact Ya _ | exact z | exact zA | exact Ba _ | exact Ud _ | exact Nat.le_refl _ | exact (rfl : AC.flat (I64 _) = true) | refine And.intro ?_ ?_)) <;> first | omega | skip
  exact rfl
noncomputable def T25 : Tab := fun f xs => match f, xs with
 | 80, [.one (.i64 a), .one (.xs row 0 n), .one (.xs ps 0 k)] => some ([Oa row ∧ row.length = n ∧ n ≤ 9223372036854775807 ∧ ps = (ps.map asP).map encP ∧ ps.length = k ∧ k ≤ 1000000], .Ec [.agg (hide ((macB a (row.map Ea) (ps.map asP).flatten).map U8)), .one (.i64 (macE a (row.map Ea)))])
 | f, xs => T24 f xs
theorem exact_mac (l : List (BitVec 8)) (e:Int) : (TU [.agg (l.map U8), .one (.i64 e)]).exact := by
 intro v hv
 rcases List.mem_cons.1 hv with rfl | hv
 ·exact Ud _
 ·rw [List.mem_singleton.1 hv]; exact rfl
theorem T25_ok : Oc Try.prog T25 := by
 intro f xs cs r h hc
 unfold T25 at h
 split at h
 ·obtain ⟨rfl, rfl⟩ := Prod.mk.inj (Option.some.inj h)
  obtain ⟨h1, h2, h3, h4, h5, h6⟩ := hc.1
  rename_i a row n ps k
  have := s80 a (row.map Ea) (ps.map asP) (by rw [List.length_map]; omega) (by rw [List.length_map]; omega)
  rw [← h1, ← h4, List.length_map, List.length_map, h2, h5] at this
  rw [Ja]
  exact ⟨⟨_, _, ok80⟩, this, exact_mac _ _⟩
 ·exact T24_ok _ _ _ _ h hc
noncomputable def M20 : Ad := fun f xs m => match f, xs, m with
 | 76, [.one (.i64 a), .one (.xs mr 0 n), .one (.xs cr 0 k)], [] => some ([Oa mr ∧ mr.length = n ∧ Oa cr ∧ cr.length = k ∧ k ≤ 1000], .Ec [.one (.sv 0 0 (keyB a (mr.map Ea) (cr.map Ea)).length), .one (.i64 (keyE a (mr.map Ea)))], [some (hide ((keyB a (mr.map Ea) (cr.map Ea)).map U8))])
 | 77, [.one (.i64 a), .one (.xs mr 0 n), .one (.xs cr 0 k)], [] => some ([Oa mr ∧ mr.length = n ∧ Oa cr ∧ cr.length = k ∧ k ≤ 1000], .Ec [.one (.sv 0 0 (keyB a (mr.map Ea) (cr.map Ea)).length), .one (.i64 (keyE a (mr.map Ea)))], [some (hide ((keyB a (mr.map Ea) (cr.map Ea)).map U8))])
 | f, xs, m => M19 f xs m
noncomputable def mf20 : FuncId → Option MF := fun f => match f with
 | 76 => some { cs := { kinds := [], fl := [] }, flo := [true], fresh := true }
 | 77 => some { cs := { kinds := [], fl := [] }, flo := [true], fresh := true }
 | f => mf19 f
theorem M20_ok : Xc Try.prog M20 := by
 intro f xs m0 cs r m1 h hc
 unfold M20 at h
 split at h
 ·simp only [Option.some.injEq, Prod.mk.injEq] at h; obtain ⟨rfl, rfl, rfl⟩ := h
  rename_i a mr n cr k
  obtain ⟨h1, h2, h3, h4, h5⟩ := hc.1
  have := s76 a (mr.map Ea) (cr.map Ea) (by rw [List.length_map]; omega)
  rw [← h1, ← h3, List.length_map, List.length_map, h2, h4] at this
  rw [Ja]
  exact ⟨⟨_, _, ok76⟩, this⟩
 ·simp only [Option.some.injEq, Prod.mk.injEq] at h; obtain ⟨rfl, rfl, rfl⟩ := h
  rename_i a mr n cr k
  obtain ⟨h1, h2, h3, h4, h5⟩ := hc.1
  have := s77 a (mr.map Ea) (cr.map Ea) (by rw [List.length_map]; omega)
  rw [← h1, ← h3, List.length_map, List.length_map, h2, h4] at this
  rw [Ja]
  exact ⟨⟨_, _, ok77⟩, this⟩
 ·exact M19_ok _ _ _ _ _ _ h hc
abbrev BO := List (BitVec 8)
structure Op where
 hasM : Bool
 mss : BitVec 16
 hasS : Bool
 sc : BitVec 8
 sok : Bool
 hasT : Bool
 val : BitVec 32
 echo : BitVec 32
 hasA : Bool
 kid : BitVec 8
 nid : BitVec 8
 mac : BO
 sacks : List (BitVec 32 × BitVec 32)
def b16 (x:BitVec 16) : BO := beN 2 (x.setWidth 64)
def b32 (x:BitVec 32) : BO := beN 4 (x.setWidth 64)
theorem b16_len (x:BitVec 16) : (b16 x).length = 2 := beN_len _ _
theorem b32_len (x:BitVec 32) : (b32 x).length = 4 := beN_len _ _
def optL (b : Bool) (l : List (BitVec 8)) : BO := if b then l else []
def sakL (l : List (BitVec 32 × BitVec 32)) : BO := l.flatMap fun x => b32 x.1 ++ b32 x.2
theorem sakL_len (l : List (BitVec 32 × BitVec 32)) : (sakL l).length = l.length * 8 := by
 induction l with
 | nil => rfl
 | cons x l ih =>
  show ((b32 x.1 ++ b32 x.2) ++ sakL l).length = _
  rw [List.length_append, List.length_append, b32_len, b32_len, ih, List.length_cons, Nat.add_mul]
  omega
def sakH (n:Nat) : BO := if n = 0 then [] else [5, BitVec.ofNat 8 (2 + 8 * n)]
def rawN (o : Op) : Nat := (if o.hasM then 4 else 0) + (if o.hasS then 3 else 0) + (if o.sok then 2 else 0) + (if o.hasT then 10 else 0) + (if o.hasA then 16 else 0) + (if o.sacks.length = 0 then 0 else 2 + 8 * o.sacks.length)
def sizN (o : Op) : Nat := (rawN o + 3) / 4 * 4
def layA (o : Op) : BO := optL o.hasA ([29, 16, o.kid, o.nid] ++ o.mac)
def layO (o : Op) : BO := optL o.hasM ([2, 4] ++ b16 o.mss) ++ (optL o.hasS ([3, 3] ++ [o.sc]) ++ (optL o.sok ([4, 2] ++ []) ++ (optL o.hasT ([8, 10] ++ (b32 o.val ++ b32 o.echo)) ++
 (sakH o.sacks.length ++ (sakL o.sacks ++ (layA o ++ replicate (sizN o - rawN o) 0))))))
structure MayO (o : Op) : Prop where
 m : o.hasM = true ∨ o.mss = 0
 s : o.hasS = true ∨ o.sc = 0
 t : o.hasT = true ∨ (o.val = 0 ∧ o.echo = 0)
 a : o.hasA = true ∨ (o.kid = 0 ∧ o.nid = 0 ∧ o.mac = replicate 12 0)
 n : o.sacks.length ≤ 4
 z : sizN o ≤ 40
 l : o.mac.length = 12
structure Sg where
 src : BitVec 16
 dst : BitVec 16
 seq : BitVec 32
 ack : BitVec 32
 fl : BitVec 8
 win : BitVec 16
 urg : BitVec 16
 op : Op
 data : BO
def zM : BO := replicate 12 0
def Op.bare (o : Op) : Op := if o.hasA then ⟨false, 0, false, 0, false, false, 0, 0, true, o.kid, o.nid, zM, []⟩ else ⟨false, 0, false, 0, false, false, 0, 0, false, 0, 0, zM, []⟩
def Op.zero (o : Op) : Op := { o with mac := zM }
def offB (n:Nat) : BitVec 8 := BitVec.ofNat 8 (20 + n) <<< 2
def hd20 (s : Sg) (n:Nat) (c : BO) : BO := b16 s.src ++ (b16 s.dst ++ (b32 s.seq ++ (b32 s.ack ++ ([offB n, s.fl] ++ (b16 s.win ++ (c ++ b16 s.urg))))))
def segC (s : Sg) (c : BO) : BO := hd20 s (layO s.op).length c ++ (layO s.op ++ s.data)
theorem hd20_len (s : Sg) (n:Nat) {c : BO} (h : c.length = 2) : (hd20 s n c).length = 20 := by
 unfold hd20
 simp only [List.length_append, b16_len, b32_len, h, List.length_cons, List.length_nil]
theorem sakH_len (n:Nat) : (sakH n).length = if n = 0 then 0 else 2 := by unfold sakH; split <;> rfl
theorem optL_len (b : Bool) (l : BO) : (optL b l).length = if b then l.length else 0 := by cases b <;> rfl
theorem layO_len {o : Op} (h : o.mac.length = 12) : (layO o).length = sizN o := by
 have hr : rawN o ≤ sizN o := by unfold sizN; omega
 unfold layO layA
 simp only [List.length_append, optL_len, sakH_len, sakL_len, b16_len, b32_len, h, List.length_cons, List.length_nil, List.length_replicate]
 generalize hz : sizN o = z at *
 unfold rawN at hr ⊢
 split <;> split <;> split <;> split <;> split <;> split <;> simp_all <;> omega
def z2b : BO := [0, 0]
def signB (p : Nat → BO) (x:BitVec 32) (s : Sg) : BO := b32 x ++ (p (segC s z2b).length ++ segC s z2b)
open Go
theorem Ia.freeze {X : Ctx} {f : FuncId} {Q : AV → Mem → Prop} {k : List Item} {t : List AV} {row : List AC} (j:Nat) (hj : gt .any t j = .one (.ptr 0 0)) (hfl : ∀ (i:Nat) (v : AV), t[i]? = some v → i ≠ j → Za v) (hrow : Flat row) (hpos : 0 < row.length)
  (hQ : ∀ (r : AV) (m' : Mem), Q r m' → freshV some r = r ∧ ∀ (i:Nat) (row : List AC), m'[i]? = some (some row) → Qb row)
  (h : ∀ Y : Ctx, Y.P = X.P → Ia Y f 0 Q k (t.set j (.one (.xp row 0))) []) : Ia X f 0 Q k t [some row] := by
 intro hn p a w hr b cs hb hk
 have hmem := hr.mem
 have hc := hmem.carries
 have hsl : SR (Ctx.all X.P w []) 0 p (t.set j (.one (.xp row 0))) a.tmps := by
  refine ⟨by rw [List.length_set]; exact hr.slots.1, fun i v u h1 h2 => ?_⟩
  rw [List.getElem?_set] at h1
  by_cases hi : j = i
  ·subst hi
   simp only [if_true] at h1
   split at h1
   ·rename_i hlt
    injection h1 with h1
    subst h1
    have h3 : t[j]? = some t[j] := List.getElem?_eq_getElem hlt
    have h4 := hr.slots.2 j _ u h3 h2
    rw [gt_eq, h3] at hj
    have hj : t[j] = .one (.ptr 0 0) := hj
    rw [hj] at h4
    cases h4 with
    | one _ _ h5 =>
     cases h5 with
     | ptr _ _ hlt =>
      exact .one _ _ (VR.row_xp' hmem (i := 0) (row := row) rfl hpos (fun j d' hd => ⟨d', hd, fun v hv M q => hv.carry hc (hrow d' (List.mem_of_getElem? hd)) M q⟩) 0 p)
   ·cases h1
  ·simp only [hi, if_false] at h1
   exact (hr.slots.2 i v u h1 h2).flatTo hc (hfl i v h1 (fun e => hi e.symm)) 0 p
 obtain ⟨fr, w', v, r, m', p', h1, h2, h3, _, _, h6, h7, h8⟩ := h (Ctx.all X.P w []) rfl (Nat.zero_le _) p a w ⟨hr.defers, hsl, ⟨rfl, rfl, rfl, Nat.le_refl _, fun _ _ => rfl, fun i row hi => by simp at hi, fun i row hi => by simp at hi, fun i j r s hi => by simp at hi⟩⟩ b cs hb hk
 obtain ⟨q1, q2⟩ := hQ r m' h8
 have hold : ∀ b, X.old b → (Ctx.all X.P w []).old b := fun b hb => ⟨Nat.lt_of_lt_of_le hb.1 hmem.size, by simp [Ctx.all]⟩
 refine ⟨fr, w', v, r, m', p', h1, h2, h3, fun i hi => absurd hi (Nat.not_lt_zero _), Nat.zero_le _, ?_, ?_, h8⟩
 ·refine ⟨h6.os.trans hmem.os, h6.tape.trans hmem.tape, h6.output.trans hmem.output, Nat.le_trans hmem.size h6.size, fun b hb => (h6.keep b (hold b hb)).trans (hmem.keep b hb), ?_, fun i row hi hz ho => h6.new i row hi hz (hold _ ho), h6.inj⟩
  intro i row hi
  rcases h6.blk i row hi with h0 | ⟨hz, hbk⟩
  ·exact .inl h0
  ·refine .inr ⟨hz, ?_⟩
   obtain ⟨vs, ty, fr, g1, g2, g3, g4, g5⟩ := hbk.ex
   exact ⟨vs, ty, fr, g1, g2, g3, g4, fun k c' u b1 b2 => (g5 k c' u b1 b2).exact_any (q2 i row hi c' (List.mem_of_getElem? b1)) _ _ _⟩
 ·have := h7.fresh (X := X) (N' := m'.length) (p' := p') (τ := some) (fun i j hij hlt => by injection hij with hij; subst hij; exact ⟨hlt, rfl, rfl⟩)
  rwa [q1] at this
theorem Ia.pad {X : Ctx} {f : FuncId} {Q : AV → Mem → Prop} {k : List Item} {t : List AV} {m : Mem} (j e:Nat) (hj : gt .any t j = .one .ns) (h : Ia X f 0 Q k (t.set j (.one (.gs m.length 0 e))) (m ++ [some []])) : Ia X f 0 Q k t m := by
 intro hn p a w hr b cs hb hk
 have hE : Ext m.length p (p.put m.length 0 0) := Ext.put p _ 0 0
 obtain ⟨fr, w', v, r, m', p', h1, h2, h3, _, _, h6, h7, h8⟩ := h (Nat.zero_le _) (p.put m.length 0 0) a w ⟨hr.defers, by
   refine (SR.mono (by rw [List.length_append]; omega) hE hr.slots).set' j ?_
   rw [hj]
   intro u hu
   cases hu with
   | one _ _ hv => cases hv; exact .one _ _ (.gsn _ _), hr.mem.snoc0 0⟩ b cs hb hk
 exact ⟨fr, w', v, r, m', p', h1, h2, h3, fun i hi => absurd hi (Nat.not_lt_zero _), Nat.zero_le _, h6, h7, h8⟩
theorem mkF_get : ∀ (l : List (Nat × AV)) (n k i:Nat) (v : AV), (mkF l n k)[i]? = some v → v = lookS l (k + i)
 | _, 0, _, i, v, h => by simp [mkF] at h
 | l, n + 1, k, 0, v, h => by
  simp only [mkF, List.getElem?_cons_zero, Option.some.injEq] at h
  exact h.symm
 | l, n + 1, k, i + 1, v, h => by
  simp only [mkF, List.getElem?_cons_succ] at h
  have := mkF_get l n (k + 1) i v h
  rwa [show k + 1 + i = k + (i + 1) by omega] at this
def flatS (j:Nat) : List (Nat × AV) → Prop
 | [] => True
 | (i, v) :: l => (i = j ∨ Za v) ∧ flatS j l
theorem flatS_ok {n j : Nat} : ∀ {l : List (Nat × AV)}, flatS j l → ∀ (i:Nat) (v : AV), (mkS n l)[i]? = some v → i ≠ j → Za v := by
 intro l h i v hv hne
 have := mkF_get l n 0 i v hv
 rw [Nat.zero_add] at this
 subst this
 clear hv
 induction l with
 | nil => trivial
 | cons q l ih =>
  obtain ⟨k, u⟩ := q
  unfold lookS
  split
  ·rename_i hk
   have hk : k = i := Nat.eq_of_beq_eq_true hk
   exact h.1.resolve_left (fun e => hne (by omega))
  ·exact ih h.2
end DH
