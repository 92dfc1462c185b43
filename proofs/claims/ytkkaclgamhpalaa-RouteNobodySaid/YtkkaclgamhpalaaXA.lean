/- Walks of functions, each by evaluation: what each returns; with the layer beneath. -/
import Derived.Test.YtkkaclgamhpalaaTr5
import Derived.Test.YtkkaclgamhpalaaLC
set_option linter.unusedVariables false
set_option linter.unusedSimpArgs false
noncomputable section
namespace DH
open Go Go.Proofs
/-! pmtu: alive, by a run on numbers that are known -/
theorem ok36 : FnOk Try.prog 36 Try.f36 (bodyOf Try.f36) := .of Try.func36 (by kernel_rfl) (by kernel_rfl)
theorem ok37 : FnOk Try.prog 37 Try.f37 (bodyOf Try.f37) := .of Try.func37 (by kernel_rfl) (by kernel_rfl)
theorem ok71 : FnOk Try.prog 71 Try.f71 (bodyOf Try.f71) := .of Try.func71 (by kernel_rfl) (by kernel_rfl)
noncomputable def env0 (S : TypeId → Bool) (T : Tab) (mf : FuncId → Option MF) (M : TabM) : Env := ⟨tys, S, false, T, [], mf, M, fun _ => none⟩
theorem env0_ok (S : TypeId → Bool) (T : Tab) (mf : FuncId → Option MF) (M : TabM) : EnvOk Try.prog (env0 S T mf M) := EnvOk.of tysOk
theorem env0_call {S : TypeId → Bool} {T : Tab} {mf : FuncId → Option MF} {M : TabM} (hT : TabOk Try.prog T) (hM : TabMOk Try.prog M) : CallOk Try.prog (env0 S T mf M) :=
  ⟨hT, fun f mf xs m0 cs r m1 _ h hc => hM f xs m0 cs r m1 h hc, (by intro f k h; cases h)⟩
def T0 : Tab := fun _ _ => none
theorem T0_ok : TabOk Try.prog T0 := fun f xs cs r h _ => by cases h
def M0 : TabM := fun _ _ _ => none
theorem M0_ok : TabMOk Try.prog M0 := fun f xs m cs r m1 h _ => by cases h
end DH

noncomputable section
namespace DH
open Go Go.Proofs
/-! pmtu: floors, plateaus, and a cache that nobody made -/
theorem ok38 : FnOk Try.prog 38 Try.f38 (bodyOf Try.f38) := .of Try.func38 (by kernel_rfl) (by kernel_rfl)
def symX (_ : TypeId) : Bool := false
noncomputable def inlX : Inl := fun f => match f with
  | 36 => some (Try.f36, [])
  | 37 => some (Try.f37, [(7, 12)])
  | 38 => some (Try.f38, [])
  | 71 => some (Try.f71, [])
  | _ => none
theorem inlX_ok : InlOk Try.prog inlX := by
  intro f fn hs h
  unfold inlX at h
  split at h <;> first | (cases h; done) | (obtain ⟨rfl, _⟩ := Prod.mk.inj (Option.some.inj h); first | exact ok36 | exact ok37 | exact ok38 | exact ok71)
noncomputable def envX (T : Tab) (mf : FuncId → Option MF) (M : TabM) : Env := inlE (env0 symX T mf M) inlX 3
theorem envX_ok (T : Tab) (mf : FuncId → Option MF) (M : TabM) : EnvOk Try.prog (envX T mf M) := inlE_envOk (env0_ok symX T mf M) _ _
theorem envX_call {T : Tab} {mf : FuncId → Option MF} {M : TabM} (hT : TabOk Try.prog T) (hM : TabMOk Try.prog M) : CallOk Try.prog (envX T mf M) :=
  inlE_ok (env0_ok symX T mf M) (env0_call hT hM) mixed inlX_ok 3
def mf0 : FuncId → Option MF := fun _ => none

/-- sixteen bytes behind a flag -/
def addrOk (cs : List AC) : Prop := ∃ l : List (BitVec 8), l.length = 16 ∧ cs = l.map AC.u8
def flo (s : Bool) : Int := match s with | true => 1280 | false => 576
theorem sixteen {α : Type} {l : List α} (h : l.length = 16) : ∃ a0 a1 a2 a3 a4 a5 a6 a7 a8 a9 aa ab ac ad ae af, l = [a0, a1, a2, a3, a4, a5, a6, a7, a8, a9, aa, ab, ac, ad, ae, af] := by
  match l, h with
  | [a0, a1, a2, a3, a4, a5, a6, a7, a8, a9, aa, ab, ac, ad, ae, af], _ => exact ⟨_, _, _, _, _, _, _, _, _, _, _, _, _, _, _, _, rfl⟩
/-! the binary search in the plateaus -/
def K12 : List AC := [.i64 68, .i64 296, .i64 508, .i64 576, .i64 1006, .i64 1280, .i64 1492, .i64 2002, .i64 4352, .i64 8166, .i64 17914, .i64 32000]
def kv (k : Nat) : Int := asI64 (gt .any K12 k)
end DH

noncomputable section
namespace DH
open Go Go.Proofs
def shAddr : Sh := .st (.cons .bool (.cons (.ar 16 .u8) .nil))
theorem encAddr' (s : Bool) (a : List (BitVec 8)) : [AC.b s] ++ (List.flatMap (Sh.enc .u8) a ++ []) = .b s :: a.map AC.u8 := by
  rw [fm_u8, List.append_nil]; rfl
theorem encAddr (y : shAddr.T) : shAddr.enc y = .b y.1 :: List.map (α := BitVec 8) AC.u8 y.2.1 := encAddr' y.1 y.2.1
theorem wfAddr {y : shAddr.T} (h : shAddr.wf y) : List.length (α := BitVec 8) y.2.1 = 16 := by
  obtain ⟨s, a, _⟩ := y
  exact h.2.1.1
end DH
