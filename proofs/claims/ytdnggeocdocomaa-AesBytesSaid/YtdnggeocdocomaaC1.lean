/- The layer: calls, contracts, walks of whole functions by evaluation. -/
import Derived.Test.YtdnggeocdocomaaB8
set_option linter.unusedVariables false
set_option linter.unusedSimpArgs false
namespace DH
open Go

/-! What a call takes: what it is given, as rows that it only reads. -/

def AC.flat : AC → Bool
  | .ptr _ _ => false
  | .sv _ _ _ => false
  | .gs _ _ _ => false
  | .fn _ cap => cap.isEmpty
  | _ => true

def Flat (cs : List AC) : Prop := ∀ c, c ∈ cs → c.flat = true

/-- 'X' and 'Y': what 'X' calls old, 'Y' calls old, and it is there as before. -/
def Carries (X Y : Ctx) : Prop := ∀ b, X.ext b → Y.ext b ∧ Y.w0.heap[b]? = X.w0.heap[b]?

theorem Carries.cell {X Y : Ctx} (h : Carries X Y) {b : Nat} (hb : X.ext b) (o : Nat) : Y.w0.cell? ⟨b, o, none⟩ = X.w0.cell? ⟨b, o, none⟩ := by
  simp only [World.cell?]
  rw [(h b hb).2]

theorem VR.carry0 {X Y : Ctx} (h : Carries X Y) {N : Nat} {p : Pl} {c : AC} {v : Value} (hv : VR X N p c v) : N = 0 → ∀ (M : Nat) (q : Pl), VR Y M q c v := by
  induction hv with
  | any v h => intro _ M q; exact .any v h
  | u8 x => intro _ M q; exact .u8 x
  | u16 x => intro _ M q; exact .u16 x
  | u32 x => intro _ M q; exact .u32 x
  | u64 x => intro _ M q; exact .u64 x
  | i64 n => intro _ M q; exact .i64 n
  | i32 n => intro _ M q; exact .i32 n
  | b x => intro _ M q; exact .b x
  | s x s h => intro _ M q; exact .s x s h
  | f n => intro _ M q; exact .f n
  | np => intro _ M q; exact .np
  | ns => intro _ M q; exact .ns
  | nf => intro _ M q; exact .nf
  | ptr i o h => intro e M q; omega
  | sv i o n c b o' hc h => intro e M q; exact .sv i o n c b o' hc (.inl (by omega))
  | svn i o => intro _ M q; exact .svn i o
  | gs i n e c h hc hz => intro e M q; omega
  | gsn i e => intro _ M q; exact .gsn i e
  | xp row o b k g p0 hb hr hv ih => intro _ M q; exact .xp row o b k g p0 (h b hb).1 (fun j c hj => by rw [h.cell hb]; exact hr j c hj) (fun j c hj => ih j c hj rfl 0 p0)
  | xs row o n c b k b' o' g p0 hb hr hv hc ih =>
    intro _ M q
    refine .xs row o n c b k b' o' g p0 (hb.imp id fun ⟨h1, h2⟩ => ⟨(h b h1).1, h2⟩) ?_ (fun j c hj => ih j c hj rfl 0 p0) hc
    rcases hb with h0 | ⟨h1, _⟩
    · exact .inl h0
    · exact hr.imp id fun hr j c hj => by rw [h.cell h1]; exact hr j c hj
  | xsn row o => intro _ M q; exact .xsn row o
  | xs0 row o c a => intro _ M q; exact .xs0 row o c a
  | fn f cap g _ ih => intro e M q; exact .fn f cap g fun j c hj => ih j c hj e M q

theorem VR.flat0 {X : Ctx} {N : Nat} {p : Pl} {c : AC} {v : Value} (hv : VR X N p c v) (hc : c.flat = true) (q : Pl) : VR X 0 q c v := by
  cases hv with
  | any v h => exact .any v h
  | u8 x => exact .u8 x
  | u16 x => exact .u16 x
  | u32 x => exact .u32 x
  | u64 x => exact .u64 x
  | i64 n => exact .i64 n
  | i32 n => exact .i32 n
  | b x => exact .b x
  | s x s h => exact .s x s h
  | f n => exact .f n
  | np => exact .np
  | ns => exact .ns
  | nf => exact .nf
  | ptr i o h => cases hc
  | sv i o n c b o' hcn h => cases hc
  | svn i o => cases hc
  | gs i n e c h hcn hz => cases hc
  | gsn i e => cases hc
  | xp row o b k g p0 hb hr hv => exact .xp row o b k g p0 hb hr hv
  | xs row o n c b k b' o' g p0 hb hr hv hcn => exact .xs row o n c b k b' o' g p0 hb hr hv hcn
  | xsn row o => exact .xsn row o
  | xs0 row o c a => exact .xs0 row o c a
  | fn f cap g hv =>
    have : cap = [] := by simpa [AC.flat] using hc
    subst this
    exact .fn f [] g fun j c hj => by simp at hj

theorem VR.carry {X Y : Ctx} (h : Carries X Y) {N : Nat} {p : Pl} {c : AC} {v : Value} (hv : VR X N p c v) (hc : c.flat = true) (M : Nat) (q : Pl) : VR Y M q c v :=
  (hv.flat0 hc q).carry0 h rfl M q

theorem MR.carries {X : Ctx} {p : Pl} {m : Mem} {w : World} (h : MR X p m w) : Carries X (Ctx.all X.P w []) := by
  intro b hb
  have hb := Ctx.ext_old hb
  have h1 := h.keep b hb
  have h2 := h.size
  exact ⟨⟨by have := hb.1; omega, by simp⟩, h1⟩

/-- a row of one's own, as a row that a call only reads -/
theorem VR.row_xs {X : Ctx} {p : Pl} {m : Mem} {w : World} (h : MR X p m w) {i o n e c : Nat} {row : List AC} (hrow : m[i]? = some (some row)) (he : 1 ≤ e) (ho : o + n * e ≤ row.length) (hn : n ≤ c) (hf : Flat ((row.drop o).take (n * e)))
    {b o' : Nat} (hor : n = 0 ∨ (i < m.length ∧ b = p.at_ i ∧ o' = o)) (M : Nat) (q : Pl) : VR (Ctx.all X.P w []) M q (.xs ((row.drop o).take (n * e)) 0 n) (.slice (some ⟨b, o', none⟩) n c) := by
  rcases hor with h0 | ⟨hi, rfl, rfl⟩
  · subst h0
    refine .xs _ 0 0 c b 0 b o' (fun _ => undef) q (.inl rfl) (.inl rfl) (fun j c hj => by simp at hj) hn
  · obtain ⟨g, hg⟩ := RowAt.own h hrow (wb := w)
    rcases Nat.eq_zero_or_pos n with h0 | hpos
    · subst h0
      exact .xs _ 0 0 c (p.at_ i) 0 (p.at_ i) o' (fun _ => undef) q (.inl rfl) (.inl rfl) (fun j c hj => by simp at hj) hn
    · have hlen : 1 ≤ row.length := by have : 1 * 1 ≤ n * e := Nat.mul_le_mul hpos he; omega
      have hblk := h.blk i row hrow
      have hlive : p.at_ i < w.heap.size := by
        rcases hblk with ⟨_, h1⟩ | ⟨h1, _⟩
        · subst h1; simp at hlen
        · exact h.live hrow h1
      have hcell : ∀ (j : Nat) (d : AC), ((row.drop o').take (n * e))[j]? = some d → row[o' + j]? = some d := by
        intro j d hj
        have hlt : j < n * e := by have := (List.getElem?_eq_some_iff.1 hj).1; simp at this; omega
        rw [List.getElem?_take_of_lt hlt, List.getElem?_drop] at hj
        exact hj
      refine .xs _ 0 n c (p.at_ i) o' (p.at_ i) o' (fun j => g (o' + j)) q (.inr ⟨⟨hlive, by simp⟩, rfl, rfl⟩) (.inr fun j d hj => ?_) (fun j d hj => ?_) hn
      · have := (hg _ d (hcell j d hj)).2 w ⟨h, fun _ _ _ _ => rfl⟩
        show w.cell? _ = _
        simpa using this
      · have := (hg _ d (hcell j d hj)).1
        exact this.carry h.carries (hf d (List.mem_of_getElem? hj)) 0 q

theorem VR.row_xp {X : Ctx} {p : Pl} {m : Mem} {w : World} (h : MR X p m w) {i o : Nat} {row : List AC} (hrow : m[i]? = some (some row)) (hpos : 0 < row.length) (hf : Flat row)
    (M : Nat) (q : Pl) : VR (Ctx.all X.P w []) M q (.xp row o) (.pointer (some ⟨p.at_ i, o, none⟩)) := by
  obtain ⟨g, hg⟩ := RowAt.own h hrow (wb := w)
  have hlive : p.at_ i < w.heap.size := by
    rcases h.blk i row hrow with ⟨_, h1⟩ | ⟨h1, _⟩
    · subst h1; simp at hpos
    · exact h.live hrow h1
  have := VR.xp (X := (Ctx.all X.P w [])) (N := M) (p := q) row o (p.at_ i) 0 g q ⟨hlive, by simp⟩ (fun j d hj => by
    have := (hg _ d hj).2 w ⟨h, fun _ _ _ _ => rfl⟩
    show w.cell? _ = _
    simpa using this) (fun j d hj => (hg _ d hj).1.carry h.carries (hf d (List.mem_of_getElem? hj)) 0 q)
  simpa using this

def flatB1 : AC → Bool
  | .ptr _ _ => false
  | .sv _ _ _ => false
  | .gs _ _ _ => false
  | .fn _ cap => cap.isEmpty
  | _ => true

def flatLB : List AC → Bool
  | [] => true
  | c :: l => flatB1 c && flatLB l

theorem flatB1_eq {c : AC} : flatB1 c = c.flat := by cases c <;> rfl

theorem flatLB_ok : ∀ {l : List AC}, flatLB l = true → Flat l
  | [], _ => fun c h => by cases h
  | a :: l, h => by
    simp only [flatLB, Bool.and_eq_true] at h
    intro c hc
    rcases List.mem_cons.1 hc with rfl | hc
    · rw [← flatB1_eq]; exact h.1
    · exact flatLB_ok h.2 c hc

def ckFlat (lit : Bool) (row : List AC) : Option (List Prop) := ck lit (flatLB row) (Flat row)

def w2 (c1 c2 : Option (List Prop)) (v : AC) : Option (List Prop × AC) :=
  match c1, c2 with
  | some a, some b => some (a ++ b, v)
  | _, _ => none

theorem w2_eq {c1 c2 : Option (List Prop)} {v d : AC} {cs : List Prop} (h : w2 c1 c2 v = some (cs, d)) : ∃ a b, c1 = some a ∧ c2 = some b ∧ cs = a ++ b ∧ v = d := by
  unfold w2 at h
  split at h
  · simp only [Option.some.injEq, Prod.mk.injEq] at h
    obtain ⟨rfl, rfl⟩ := h
    exact ⟨_, _, rfl, rfl, rfl, rfl⟩
  · cases h

/-- is the row behind a pointer laid out? -/
def ptrC (E : Env) (ty : TypeId) : Bool :=
  match (E.ti ty).d with
  | .ptr e => !(E.sym e) || E.lit
  | _ => true

/-- a row of one's own whose cells are turned, as a row that a call only reads -/
theorem VR.row_xs' {X : Ctx} {p : Pl} {m : Mem} {w : World} (h : MR X p m w) {i o n c : Nat} {row row' : List AC} (hrow : m[i]? = some (some row)) (ho : o + n ≤ row.length) (hn : n ≤ c)
    (hlen' : row'.length = ((row.drop o).take n).length)
    (hf : ∀ (j : Nat) (d' : AC), row'[j]? = some d' → ∃ d : AC, ((row.drop o).take n)[j]? = some d ∧ ∀ v, VR X m.length p d v → ∀ M q, VR (Ctx.all X.P w []) M q d' v)
    {b o' : Nat} (hor : n = 0 ∨ (i < m.length ∧ b = p.at_ i ∧ o' = o)) (M : Nat) (q : Pl) : VR (Ctx.all X.P w []) M q (.xs row' 0 n) (.slice (some ⟨b, o', none⟩) n c) := by
  rcases Nat.eq_zero_or_pos n with h0 | hpos
  · subst h0
    have : row' = [] := List.length_eq_zero_iff.1 (by simpa using hlen')
    subst this
    exact .xs _ 0 0 c b 0 b o' (fun _ => undef) q (.inl rfl) (.inl rfl) (fun j c hj => by simp at hj) hn
  · rcases hor with h0 | ⟨hi, rfl, rfl⟩
    · omega
    · obtain ⟨g, hg⟩ := RowAt.own h hrow (wb := w)
      have hblk := h.blk i row hrow
      have hlive : p.at_ i < w.heap.size := by
        rcases hblk with ⟨_, h1⟩ | ⟨h1, _⟩
        · subst h1; simp at ho; omega
        · exact h.live hrow h1
      have hcell : ∀ (j : Nat) (d : AC), ((row.drop o').take n)[j]? = some d → row[o' + j]? = some d := by
        intro j d hj
        have hlt : j < n := by have := (List.getElem?_eq_some_iff.1 hj).1; simp at this; omega
        rw [List.getElem?_take_of_lt hlt, List.getElem?_drop] at hj
        exact hj
      refine .xs _ 0 n c (p.at_ i) o' (p.at_ i) o' (fun j => g (o' + j)) q (.inr ⟨⟨hlive, by simp⟩, rfl, rfl⟩) (.inr fun j d' hj => ?_) (fun j d' hj => ?_) hn
      · obtain ⟨d, hd, _⟩ := hf j d' hj
        have := (hg _ d (hcell j d hd)).2 w ⟨h, fun _ _ _ _ => rfl⟩
        show w.cell? _ = _
        simpa using this
      · obtain ⟨d, hd, hv⟩ := hf j d' hj
        exact hv _ (hg _ d (hcell j d hd)).1 0 q

/-- an argument, as the call sees it -/
def locC0 (E : Env) (m : Mem) (ty : TypeId) (c : AC) : Option (List Prop × AC) :=
  match c with
  | .sv i o n =>
    match (E.ti ty).d with
    | .slice e => (match E.esz e, gt none m i with
      | some z, some row => if Nat.ble 1 z then w2 (ckLen E.lit o (n * z) row) (ckFlat E.lit ((row.drop o).take (n * z))) (.xs ((row.drop o).take (n * z)) 0 n) else none
      | _, _ => none)
    | _ => none
  | .gs i n _ =>
    match (E.ti ty).d with
    | .slice e => (match E.esz e, gt none m i with
      | some z, some row => if Nat.ble 1 z then w2 (ckLen E.lit 0 (n * z) row) (ckFlat E.lit ((row.drop 0).take (n * z))) (.xs ((row.drop 0).take (n * z)) 0 n) else none
      | _, _ => none)
    | _ => none
  | .ptr i o => (match gt none m i with
    | some row => w2 (ckLen (ptrC E ty) 0 1 row) (ckFlat (ptrC E ty) row) (.xp row o)
    | none => none)
  | .xs row o n =>
    match (E.ti ty).d with
    | .slice e => (match E.esz e with
      | some z => w2 (ckLen E.lit o (n * z) row) (some []) (.xs ((row.drop o).take (n * z)) 0 n)
      | none => none)
    | _ => none
  | .ns => some ([], .xs [] 0 0)
  | .fn f [] => some ([], .fn f [])
  | .fn _ _ => none
  | c => some ([], c)

theorem locC0_ok {E : Env} {X : Ctx} {p : Pl} {m : Mem} {w : World} (h : MR X p m w) {ty : TypeId} {c c' : AC} {cs : List Prop} (hl : locC0 E m ty c = some (cs, c')) (hc : AllC cs) {v : Value} (hv : VR X m.length p c v) (M : Nat) (q : Pl) :
    VR (Ctx.all X.P w []) M q c' v := by
  have flat : ∀ {c : AC}, c.flat = true → VR X m.length p c v → VR (Ctx.all X.P w []) M q c v := fun hf hv => hv.carry h.carries hf M q
  unfold locC0 at hl
  split at hl
  · rename_i i o n
    split at hl
    · split at hl
      · rename_i z row _ hrow
        split at hl
        · rename_i hz
          have hz := Nat.le_of_ble_eq_true hz
          obtain ⟨k1, k2, q1, q2, rfl, rfl⟩ := w2_eq hl
          obtain ⟨g1, g2⟩ := AllC_append' hc
          have q1 := ckLen_ok q1 g1
          have q2 := ck_ok q2 flatLB_ok g2
          cases hv with
          | sv _ _ _ d b o' hcn hor => exact VR.row_xs h (gt_mem hrow) hz q1 hcn q2 hor M q
          | svn => exact .xsn _ _
        · cases hl
      · cases hl
    · cases hl
  · rename_i i n _
    split at hl
    · split at hl
      · rename_i z row _ hrow
        split at hl
        · rename_i hz
          have hz := Nat.le_of_ble_eq_true hz
          obtain ⟨k1, k2, q1, q2, rfl, rfl⟩ := w2_eq hl
          obtain ⟨g1, g2⟩ := AllC_append' hc
          have q1 := ckLen_ok q1 g1
          have q2 := ck_ok q2 flatLB_ok g2
          cases hv with
          | gs _ _ _ d hlt hcn hsz => exact VR.row_xs h (gt_mem hrow) hz q1 hcn q2 (.inr ⟨hlt, rfl, rfl⟩) M q
          | gsn => exact .xsn _ _
        · cases hl
      · cases hl
    · cases hl
  · rename_i i o
    split at hl
    · rename_i row hrow
      obtain ⟨k1, k2, q1, q2, rfl, rfl⟩ := w2_eq hl
      obtain ⟨g1, g2⟩ := AllC_append' hc
      have q1 := ckLen_ok q1 g1
      have q2 := ck_ok q2 flatLB_ok g2
      cases hv with
      | ptr _ _ hlt => exact VR.row_xp h (gt_mem hrow) (by omega) q2 M q
    · cases hl
  · rename_i row o n
    split at hl
    · split at hl
      · rename_i z _
        obtain ⟨k1, k2, q1, q2, rfl, rfl⟩ := w2_eq hl
        have hv := hv.carry h.carries rfl M q
        have hcell : ∀ (j : Nat) (d : AC), ((row.drop o).take (n * z))[j]? = some d → row[o + j]? = some d := by
          intro j d hj
          have hlt : j < n * z := by have := (List.getElem?_eq_some_iff.1 hj).1; simp at this; omega
          rw [List.getElem?_take_of_lt hlt, List.getElem?_drop] at hj
          exact hj
        cases hv with
        | xs _ _ _ d b k b' o' g p0 hb hr hvi hcn =>
          refine .xs _ 0 n d b (k + o) b' o' (fun j => g (o + j)) p0 (hb.imp id fun ⟨h1, h2, h3⟩ => ⟨h1, h2, h3⟩) (hr.imp id fun hr j d hj => ?_) (fun j d hj => hvi _ d (hcell j d hj)) hcn
          have := hr _ d (hcell j d hj)
          rw [← Nat.add_assoc] at this
          exact this
        | xsn => exact .xsn _ _
        | xs0 _ _ c a => exact .xs0 _ _ c a
      · cases hl
    · cases hl
  · simp only [Option.some.injEq, Prod.mk.injEq] at hl
    obtain ⟨rfl, rfl⟩ := hl
    cases hv
    exact .xsn _ _
  · simp only [Option.some.injEq, Prod.mk.injEq] at hl
    obtain ⟨rfl, rfl⟩ := hl
    exact flat rfl hv
  · cases hl
  · rename_i h1 h2 h3 h4 h5 h6 h7
    simp only [Option.some.injEq, Prod.mk.injEq] at hl
    obtain ⟨rfl, rfl⟩ := hl
    refine flat ?_ hv
    cases c <;> first | rfl | (exfalso; first | exact h1 _ _ _ rfl | exact h2 _ _ _ rfl | exact h3 _ _ rfl | exact h7 _ _ rfl)

/-- the cells of a row, as the call sees them -/
def locL (E : Env) (m : Mem) (e : TypeId) : List AC → Option (List Prop × List AC)
  | [] => some ([], [])
  | c :: l => (match locC0 E m e c with
    | some (a, c') => (match locL E m e l with
      | some (b, l') => some (a ++ b, c' :: l')
      | none => none)
    | none => none)

theorem locL_ok {E : Env} {X : Ctx} {p : Pl} {m : Mem} {w : World} (h : MR X p m w) {e : TypeId} : ∀ {l l' : List AC} {cs : List Prop}, locL E m e l = some (cs, l') → AllC cs →
    l'.length = l.length ∧ ∀ (j : Nat) (d' : AC), l'[j]? = some d' → ∃ d : AC, l[j]? = some d ∧ ∀ v, VR X m.length p d v → ∀ M q, VR (Ctx.all X.P w []) M q d' v
  | [], l', cs, hl, hc => by
    unfold locL at hl
    simp only [Option.some.injEq, Prod.mk.injEq] at hl
    obtain ⟨rfl, rfl⟩ := hl
    exact ⟨rfl, fun j d' hj => by simp at hj⟩
  | c :: l, l', cs, hl, hc => by
    unfold locL at hl
    split at hl
    · rename_i a c' h1
      split at hl
      · rename_i b l1 h2
        simp only [Option.some.injEq, Prod.mk.injEq] at hl
        obtain ⟨rfl, rfl⟩ := hl
        obtain ⟨ha, hb⟩ := AllC_append' hc
        obtain ⟨g1, g2⟩ := locL_ok h h2 hb
        refine ⟨by rw [List.length_cons, List.length_cons, g1], fun j d' hj => ?_⟩
        cases j with
        | zero =>
          simp only [List.getElem?_cons_zero, Option.some.injEq] at hj
          subst hj
          exact ⟨c, rfl, fun v hv M q => locC0_ok h h1 ha hv M q⟩
        | succ j =>
          rw [List.getElem?_cons_succ] at hj ⊢
          exact g2 j d' hj
      · cases hl
    · cases hl

/-- slices of slices, whose rows are laid out -/
def nestT (E : Env) (ty : TypeId) : Option TypeId :=
  match (E.ti ty).d with
  | .slice e => (match (E.ti e).d with
    | .slice _ => (match E.sym e with
      | false => (match E.esz e with | some z => if Nat.beq z 1 then some e else none | none => none)
      | true => none)
    | _ => none)
  | _ => none

def locC (E : Env) (m : Mem) (ty : TypeId) (c : AC) : Option (List Prop × AC) :=
  match nestT E ty with
  | none => locC0 E m ty c
  | some e => (match c with
    | .sv i o n => (match gt none m i with
      | some row => (match ckLen E.lit o n row with
        | some a => (match locL E m e ((row.drop o).take n) with
          | some (b, l) => some (a ++ b, .xs l 0 n)
          | none => none)
        | none => none)
      | none => none)
    | .gs i n _ => (match gt none m i with
      | some row => (match ckLen E.lit 0 n row with
        | some a => (match locL E m e ((row.drop 0).take n) with
          | some (b, l) => some (a ++ b, .xs l 0 n)
          | none => none)
        | none => none)
      | none => none)
    | _ => locC0 E m ty c)

theorem locC_ok {E : Env} {X : Ctx} {p : Pl} {m : Mem} {w : World} (h : MR X p m w) {ty : TypeId} {c c' : AC} {cs : List Prop} (hl : locC E m ty c = some (cs, c')) (hc : AllC cs) {v : Value} (hv : VR X m.length p c v) (M : Nat) (q : Pl) :
    VR (Ctx.all X.P w []) M q c' v := by
  unfold locC at hl
  split at hl
  · exact locC0_ok h hl hc hv M q
  · split at hl
    · split at hl
      · rename_i row hrow
        split at hl
        · rename_i a h1
          split at hl
          · rename_i b l h2
            simp only [Option.some.injEq, Prod.mk.injEq] at hl
            obtain ⟨rfl, rfl⟩ := hl
            obtain ⟨ha, hb⟩ := AllC_append' hc
            have q1 := ckLen_ok h1 ha
            obtain ⟨g1, g2⟩ := locL_ok h h2 hb
            cases hv with
            | sv _ _ _ d b o' hcn hor => exact VR.row_xs' h (gt_mem hrow) q1 hcn g1 g2 hor M q
            | svn => exact .xsn _ _
          · cases hl
        · cases hl
      · cases hl
    · split at hl
      · rename_i row hrow
        split at hl
        · rename_i a h1
          split at hl
          · rename_i b l h2
            simp only [Option.some.injEq, Prod.mk.injEq] at hl
            obtain ⟨rfl, rfl⟩ := hl
            obtain ⟨ha, hb⟩ := AllC_append' hc
            have q1 := ckLen_ok h1 ha
            obtain ⟨g1, g2⟩ := locL_ok h h2 hb
            cases hv with
            | gs _ _ _ d hlt hcn hsz => exact VR.row_xs' h (gt_mem hrow) q1 hcn g1 g2 (.inr ⟨hlt, rfl, rfl⟩) M q
            | gsn => exact .xsn _ _
          · cases hl
        · cases hl
      · cases hl
    · exact locC0_ok h hl hc hv M q
end DH
