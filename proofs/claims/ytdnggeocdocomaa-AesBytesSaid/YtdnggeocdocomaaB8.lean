/- The layer: operations that build, store and slice, and that the machine follows. -/
import Derived.Test.YtdnggeocdocomaaB7
set_option linter.unusedVariables false
set_option linter.unusedSimpArgs false
namespace DH
open Go

section
variable {X : Ctx} {m : Mem}

/-! bytes and strings -/

def allU8 (cs : List AC) : Prop := cs = (cs.map asU8).map .u8

def allU8B : List AC → Bool
  | [] => true
  | .u8 _ :: l => allU8B l
  | _ => false

theorem allU8B_ok : ∀ {l : List AC}, allU8B l = true → allU8 l
  | [], _ => rfl
  | c :: l, h => by
    cases c <;> simp only [allU8B, Bool.false_eq_true] at h
    rename_i x
    have := allU8B_ok h
    unfold allU8 at *
    simp only [List.map_cons]
    rw [← this]
    rfl

def isBytes (E : Env) (t : TypeId) : Bool :=
  match (E.ti t).d with
  | .slice e => (match (E.ti e).d with | .int .u8 => true | _ => false)
  | _ => false

def isStr (E : Env) (t : TypeId) : Bool := match (E.ti t).d with | .str => true | _ => false

theorem isBytes_ok {E : Env} (hE : EnvOk X.P E) {t : TypeId} (h : isBytes E t = true) : ∃ e, X.P.underlying t = some (.slice e) ∧ X.P.underlying e = some (.int .u8) ∧ TyOk X.P e (E.ti e) := by
  unfold isBytes at h
  split at h
  · rename_i e hd
    split at h
    · rename_i hd2
      have he := d_ok hE hd2 (by simp)
      obtain ⟨d, h1, h2⟩ := he.und
      rw [hd2] at h2
      cases d <;> simp only [tdOk] at h2
      subst h2
      exact ⟨e, und_slice (d_ok hE hd (by simp)) hd, h1, he⟩
    · cases h
  · cases h

theorem isStr_ok {E : Env} (hE : EnvOk X.P E) {t : TypeId} (h : isStr E t = true) : X.P.underlying t = some .string := by
  unfold isStr at h
  split at h
  · rename_i hd
    obtain ⟨d, h1, h2⟩ := (d_ok hE hd (by simp)).und
    rw [hd] at h2
    cases d <;> simp only [tdOk] at h2
    exact h1
  · cases h

def isSl : AC → Bool
  | .xs _ _ _ => true
  | .sv _ _ _ => true
  | .gs _ _ _ => true
  | .ns => true
  | _ => false

theorem isSl_ok {lit : Bool} {e : Nat} {c : AC} (h : isSl c = true) {cs : List Prop} {cells : List AC} {n : Nat} (hs : srcC lit m e c = some (cs, cells, n)) {p : Pl} {v : Value} (hv : VR X m.length p c v) : ∃ a k, v = .slice a n k ∧ (a = none → n = 0) := by
  cases c <;> simp only [isSl, Bool.false_eq_true] at h
  · cases hv
    simp only [srcC, Option.some.injEq, Prod.mk.injEq] at hs
    exact ⟨_, _, by rw [← hs.2.2], fun _ => hs.2.2.symm⟩
  · simp only [srcC] at hs
    split at hs
    · obtain ⟨_, _, rfl⟩ := wS_eq hs
      cases hv
      · exact ⟨_, _, rfl, fun h => by cases h⟩
      · exact ⟨_, _, rfl, fun _ => rfl⟩
    · cases hs
  · simp only [srcC] at hs
    split at hs
    · obtain ⟨_, _, rfl⟩ := wS_eq hs
      cases hv
      · exact ⟨_, _, rfl, fun h => by cases h⟩
      · exact ⟨_, _, rfl, fun _ => rfl⟩
    · cases hs
  · simp only [srcC] at hs
    obtain ⟨_, _, rfl⟩ := wS_eq hs
    cases hv
    · exact ⟨_, _, rfl, fun h => by cases h⟩
    · exact ⟨_, _, rfl, fun _ => rfl⟩
    · exact ⟨_, _, rfl, fun h => by cases h⟩

def evB2S (E : Env) (m : Mem) (src dst : TypeId) (x : AV) : RV :=
  match isBytes E src && isStr E dst, x with
  | true, .one c =>
    (match isSl c, srcC E.lit m 1 c with
    | true, some (c1, cells, _) =>
      (match ck E.lit (allU8B cells) (allU8 cells) with
      | some c2 => some (c1 ++ c2, .one (.s (cells.map asU8)))
      | none => none)
    | _, _ => none)
  | _, _ => none

theorem VL_u8 {N : Nat} {p : Pl} {xs : List (BitVec 8)} {l : List Value} (h : VL X N p (xs.map .u8) l) : l = (xs.map fun x => (x.toNat : Int)).map (Value.int .u8) := by
  apply List.ext_getElem?
  intro j
  rcases Nat.lt_or_ge j xs.length with hj | hj
  · have h1 : (xs.map AC.u8)[j]? = some (.u8 xs[j]) := by simp [hj]
    have h2 : l[j]? = some (l[j]'(by rw [← h.1]; simpa using hj)) := List.getElem?_eq_getElem _
    have h3 := h.2 j _ _ h1 h2
    rw [h2]
    generalize l[j]'_ = v at h3 ⊢
    cases h3
    simp [hj]
  · rw [List.getElem?_eq_none (by rw [← h.1]; simpa using hj), List.getElem?_eq_none (by simpa using hj)]

theorem evB2S_ok {E : Env} (hE : EnvOk X.P E) {src dst : TypeId} {x : AV} {cs : List Prop} {v : AV} (h : evB2S E m src dst x = some (cs, v)) (hc : AllC cs) {p : Pl} {wb : World} (hb : MR X p m wb) {vx : Value} (hx : VA X m.length p x vx) :
    G1 X p m wb (convert src dst vx) v := by
  unfold evB2S at h
  split at h
  · rename_i c hty
    rw [Bool.and_eq_true] at hty
    obtain ⟨e, hs, he, _⟩ := isBytes_ok hE hty.1
    have hd := isStr_ok hE hty.2
    split at h
    · rename_i c1 cells n hsl hsrc
      split at h
      · rename_i c2 hck
        simp only [Option.some.injEq, Prod.mk.injEq] at h
        obtain ⟨rfl, rfl⟩ := h
        obtain ⟨g1, g2⟩ := AllC_append' hc
        have hall : allU8 cells := ck_ok hck allU8B_ok g2
        obtain ⟨f1, f2, f3⟩ := srcC_ok hb hsrc g1 hx.one_inv
        obtain ⟨l, l1, l2⟩ := f3 n (Nat.le_refl _)
        rw [List.take_of_length_le (by rw [f2]; exact Nat.le_refl _), hall] at l1
        have hl := VL_u8 l1
        have hlen : cells.length = n := by simpa using f2
        obtain ⟨a, k, rfl, ha⟩ := isSl_ok hsl hsrc hx.one_inv
        cases a with
        | none =>
          have hn := ha rfl
          subst hn
          have : cells = [] := List.length_eq_zero_iff.1 hlen
          subst this
          exact ok1 (u := .string ByteArray.empty) (.s _ _ rfl) (fun w => by rw [run_convert_bytes_string w src dst e _ _ _ hs he hd]; simp [Conv.bytesToString])
        | some a =>
          refine ⟨.string (((cells.map asU8).map fun x => (x.toNat : Int)).foldl (fun r n => r.push (UInt8.ofNat n.toNat)) ByteArray.empty), .one _ _ (.s _ _ ?_), fun w hw => ?_⟩
          · rw [foldl_push_bytes]
            simp [ByteArray.empty, ByteArray.emptyWithCapacity, List.map_map, Function.comp_def]
            rfl
          · rw [run_convert_bytes_string w src dst e _ _ _ hs he hd, run_bytesToString w a n k ((cells.map asU8).map fun x => (x.toNat : Int))]
            have := l2 w hw
            rw [hl] at this
            simpa [Builtin.firstCells] using this
      · cases h
    · cases h
  · cases h

def evS2B (E : Env) (m : Mem) (src dst : TypeId) (x : AV) : RE :=
  match isStr E src && isBytes E dst, x with
  | true, .one (.s a) => snocF m (some (mapF8 a)) fun m' => some ([], .one (.gs (lenF m) (lenF a) 1), m')
  | _, _ => none
where mapF8 : List (BitVec 8) → List AC
  | [] => []
  | x :: l => .u8 x :: mapF8 l

theorem mapF8_eq : ∀ l : List (BitVec 8), evS2B.mapF8 l = l.map .u8
  | [] => rfl
  | x :: l => by simp [evS2B.mapF8, mapF8_eq l]

theorem push_modify {α : Type} (a : Array α) (o : α) (f : α → α) : (a.push o).modify a.size f = a.push (f o) := by
  apply Array.ext_getElem?
  intro i
  rw [Array.getElem?_modify, Array.getElem?_push, Array.getElem?_push]
  by_cases h : i = a.size
  · subst h; simp
  · simp [h, Ne.symm h]

theorem evS2B_ok {E : Env} (hE : EnvOk X.P E) {src dst : TypeId} {x : AV} {cs : List Prop} {v : AV} {m' : Mem} (h : evS2B E m src dst x = some (cs, v, m')) {p : Pl} {w : World} (hm : MR X p m w) {vx : Value} (hx : VA X m.length p x vx) :
    EOk X m (convert src dst vx) p w v m' := by
  unfold evS2B at h
  split at h
  · rename_i a hty
    rw [Bool.and_eq_true] at hty
    have hs := isStr_ok hE hty.1
    obtain ⟨e, hd, he, hte⟩ := isBytes_ok hE hty.2
    rw [snocF_eq, lenF_eq, lenF_eq, mapF8_eq] at h
    simp only [Option.some.injEq, Prod.mk.injEq] at h
    obtain ⟨rfl, rfl, rfl⟩ := h
    have hx := hx.one_inv
    cases hx with
    | s _ s hs' =>
      have hlen : a.length = s.size := by rw [← hs']; simp
      let g := if (Question.appendCap s.size 0 e).forced then 0 else (Question.appendCap s.size 0 e).cut (w.tape w.drawn (.appendCap s.size 0 e))
      have hsz : s.size < 9223372036854775808 ∨ ¬ s.size < 9223372036854775808 := Nat.lt_or_ge _ _ |>.imp id (by omega)
      have hg : s.size ≤ g := by simp [g, Question.forced, Question.cut]
      let L : List Value := (s.data.toList.map fun b => (.int .u8 b.toNat : Value)) ++ List.replicate (g - s.size) (.int .u8 0)
      have hLl : L.length = g := by
        have : s.data.toList.length = s.size := by simp
        simp only [L, List.length_append, List.length_map, this, List.length_replicate]
        omega
      refine ⟨p.put m.length w.heap.size L.length, .slice (some ⟨w.heap.size, 0, none⟩) s.size g, (w.drew.alloc (.cells L.toArray e)).freeze ⟨w.heap.size, L.length, none⟩ 1, ?_, .put _ _ _ _, by simp, ?_, ?_⟩
      · have e0 : (s.data.map fun b => (.int .u8 b.toNat : Value)) ++ Array.replicate (g - s.size) (.int .u8 0) = L.toArray := by
          apply Array.ext'
          simp [L]
        have hch : (choose (.appendCap s.size 0 e)).run X.P w = .ok g w.drew := by
          rw [run_choose_drew]
          simp [g, Question.forced]
        have hsh : (w.drew.alloc (.cells L.toArray e)).shape? w.heap.size = some (e, L.length) := by
          have hh : (w.drew.alloc (.cells L.toArray e)).heap[w.heap.size]? = some (.cells L.toArray e) := by
            show (w.heap.push (Obj.cells L.toArray e))[w.heap.size]? = _
            simp
          unfold World.shape?
          rw [hh]
          simp
        simp only [convert, Sem.run_bind, run_underlying hs, run_underlying hd, Result.andThen_ok, run_underlying he, Conv.stringToBytes, hch]
        rw [e0]
        simp only [newRow, Sem.run_bind, run_newObj_alloc, Result.andThen_ok, Sem.run_pure, markStringish]
        simp [hsh]
      · rw [List.length_append]
        rw [hlen]
        exact .one _ _ (VR.gs_new _ _ _ _ _ _ _ hg (by rw [hLl]; omega))
      · refine hm.alloc (ty := e) (fr := (L.length, L.length + 1)) (.inr (Nat.le_refl _)) ?_ ?_ ?_ ?_ ?_ ?_
        · rw [hLl]; simp; omega
        · intro j c u hj hu
          rw [List.getElem?_map] at hj
          cases hd : a[j]? with
          | none => rw [hd] at hj; cases hj
          | some b =>
            rw [hd] at hj
            simp only [Option.map_some, Option.some.injEq] at hj
            subst hj
            have hja : j < a.length := (List.getElem?_eq_some_iff.1 hd).1
            rw [List.getElem?_append_left (by simp; omega), List.getElem?_map] at hu
            rw [← hs', List.getElem?_map] at hd
            cases hq : s.data.toList[j]? with
            | none => rw [hq] at hd; cases hd
            | some q =>
              rw [hq] at hd hu
              simp only [Option.map_some, Option.some.injEq] at hd hu
              subst hd; subst hu
              exact .u8 _
        · rfl
        · rfl
        · rfl
        · have hp := push_modify w.heap (.cells L.toArray e) (fun
            | .cells c elem (lo, hi) => .cells c elem (if lo == hi then (L.length, L.length + 1) else (min lo L.length, max hi (L.length + 1)))
            | o => o)
          exact hp
  · cases h

/-! a row of bytes, told to be one that may lie at fixed places -/

theorem MR.mark {p : Pl} {w : World} (h : MR X p m w) {i : Nat} {row : List AC} (hi : m[i]? = some (some row)) (hz : p.sz i ≠ 0) : MR X p m (w.freeze ⟨p.at_ i, p.sz i, none⟩ 1) := by
  have hh : ∀ c, c ≠ p.at_ i → (w.freeze ⟨p.at_ i, p.sz i, none⟩ 1).heap[c]? = w.heap[c]? := fun c hc => by
    simp only [World.freeze, if_neg (show ¬ (1 : Nat) = 0 by decide), Array.getElem?_modify]
    rw [if_neg (Ne.symm hc)]
  have hsz : (w.freeze ⟨p.at_ i, p.sz i, none⟩ 1).heap.size = w.heap.size := by simp [World.freeze]
  have hnew := h.new i row hi hz
  refine ⟨h.os, h.tape, h.output, by rw [hsz]; exact h.size, fun b hb => ?_, fun j r hj => ?_, h.new, h.inj⟩
  · rw [hh b (fun e => hnew (e ▸ hb))]
    exact h.keep b hb
  · rcases h.blk j r hj with h0 | ⟨hzj, hb⟩
    · exact .inl h0
    · refine .inr ⟨hzj, ?_⟩
      by_cases e : p.at_ j = p.at_ i
      · have hij := h.inj j i r row hj hi hzj hz e
        subst hij
        obtain ⟨cs, ty, fr, h1, h2, h3, h4, h5⟩ := hb.ex
        refine ⟨cs, ty, (if fr.1 == fr.2 then (p.sz j, p.sz j + 1) else (min fr.1 (p.sz j), max fr.2 (p.sz j + 1))), ?_, h2, h3, ?_, h5⟩
        · simp only [World.freeze, if_neg (show ¬ (1 : Nat) = 0 by decide), Array.getElem?_modify, h1]
          simp
        · split
          · exact .inr (Nat.le_refl _)
          · rename_i hne
            have hne : fr.1 ≠ fr.2 := by simpa using hne
            rcases h4 with h4 | h4
            · exact absurd h4 hne
            · right; show _ ≤ min _ _; omega
      · exact hb.mono (Nat.le_refl _) (.refl _ _) (hh _ e)

/-- bytes turned into bytes: the row stays -/
def evS2S (E : Env) (m : Mem) (src dst : TypeId) (x : AV) : RV :=
  match isBytes E dst && Nat.beq src dst, x with
  | true, .one (.gs i n e) =>
    (match gt none m i with
    | some _ => (match Nat.beq e 1 with
      | true => (match ck E.lit (Nat.ble 1 n) (1 ≤ n) with | some c => some (c, .one (.gs i n e)) | none => none)
      | false => none)
    | none => none)
  | _, _ => none

theorem evS2S_ok {E : Env} (hE : EnvOk X.P E) {src dst : TypeId} {x : AV} {cs : List Prop} {v : AV} (h : evS2S E m src dst x = some (cs, v)) (hc : AllC cs) {p : Pl} {w : World} (hm : MR X p m w) {vx : Value} (hx : VA X m.length p x vx) :
    EOk X m (convert src dst vx) p w v m := by
  unfold evS2S at h
  split at h
  · rename_i i n e hty
    rw [Bool.and_eq_true] at hty
    obtain ⟨el, hs, he, _⟩ := isBytes_ok hE hty.1
    have hsd : src = dst := Nat.eq_of_beq_eq_true hty.2
    subst hsd
    split at h
    · rename_i row hrow
      split at h
      · rename_i he1
        have he1 := Nat.eq_of_beq_eq_true he1
        subst he1
        split at h
        · rename_i c hck
          simp only [Option.some.injEq, Prod.mk.injEq] at h
          obtain ⟨rfl, rfl⟩ := h
          have hn : 1 ≤ n := ck_ok hck Nat.le_of_ble_eq_true hc
          have hv := hx.one_inv
          have hi := gt_mem hrow
          cases hv with
          | gs _ _ _ c hlt hcn hsz =>
            have hz : p.sz i ≠ 0 := by omega
            rcases hm.blk i row hi with ⟨h0, _⟩ | ⟨_, hb⟩
            · exact absurd h0 hz
            · obtain ⟨cs, ty, fr, h1, h2, h3, h4, h5⟩ := hb.ex
              have hsh : w.shape? (p.at_ i) = some (ty, p.sz i) := by
                unfold World.shape?
                rw [h1]
                simp [h2]
              refine ⟨p, _, w.freeze ⟨p.at_ i, p.sz i, none⟩ 1, ?_, .refl _ _, Nat.le_refl _, .one _ _ (.gs i n 1 c hlt hcn hsz), hm.mark hi hz⟩
              simp only [convert, Sem.run_bind, run_underlying hs, Result.andThen_ok, run_underlying he, markStringish]
              simp [hsh]
          | gsn => omega
        · cases h
      · cases h
    · cases h
  · cases h
end
end DH
