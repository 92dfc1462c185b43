/- Walks of functions, each by evaluation: what each returns. -/
import Derived.Test.YtdnggeocdocomaaH8
import Derived.Test.YtdnggeocdocomaaK2
set_option linter.unusedVariables false
set_option linter.unusedSimpArgs false
noncomputable section
namespace DH
open Go Go.Proofs
theorem fm_P (ps : List (List (BitVec 8))) : List.flatMap (Sh.enc (.sl .u8)) ps = ps.map encP := by
  have h : ∀ p : List (BitVec 8), Sh.enc (.sl .u8) p = [encP p] := fun p => by
    show [AC.xs (List.flatMap (Sh.enc .u8) p) 0 p.length] = _
    rw [fm_u8]
    rfl
  have : (Sh.enc (.sl .u8) : List (BitVec 8) → List AC) = fun p => [encP p] := funext h
  show List.flatMap (Sh.enc (.sl .u8) : List (BitVec 8) → List AC) ps = _
  rw [this]
  exact fm1 encP ps
theorem s4w (b : List (BitVec 8)) : Spec Try.prog 4 [.one (.xs (List.flatMap (Sh.enc .u8) b) 0 b.length)] [] (Is (.one (.b true))) := by
  rw [fm_u8]; exact s4 b
theorem s5w (ps : List (List (BitVec 8))) : Spec Try.prog 5 [.one (.xs (List.flatMap (Sh.enc (.sl .u8)) ps) 0 ps.length)] [] (Is (.one (.b true))) := by
  rw [fm_P]; exact s5 ps
theorem s6w (b : List (BitVec 8)) (l : List Int) (h : (Sh.ar 3 .i64).wf l) : Spec Try.prog 6 [.one (.xs (List.flatMap (Sh.enc .u8) b) 0 b.length), .agg (List.flatMap (Sh.enc .i64) l)] [] (Is (.one (.b true))) := by
  obtain ⟨x0, x1, x2, rfl⟩ := three_of h.1
  rw [fm_u8]; exact s6 b x0 x1 x2
theorem s7w (a b c : List (BitVec 8)) : Spec Try.prog 7 [.one (.xs (List.flatMap (Sh.enc .u8) a) 0 a.length), .one (.xs (List.flatMap (Sh.enc .u8) b) 0 b.length), .one (.xs (List.flatMap (Sh.enc .u8) c) 0 c.length)] [] (Is (.one (.b true))) := by
  rw [fm_u8, fm_u8, fm_u8]; exact s7 a b c
end DH
