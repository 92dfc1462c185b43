/- Walks of functions, each by evaluation: what each returns. -/
import Derived.Test.YtdnggeocdocomaaI3
import Derived.Test.YtdnggeocdocomaaH9
set_option linter.unusedVariables false
set_option linter.unusedSimpArgs false
noncomputable section
namespace DH
open Go Go.Proofs
theorem s15w (k m : List (BitVec 8)) : Spec Try.prog 15 [.one (.xs (List.flatMap (Sh.enc .u8) k) 0 k.length), .one (.xs (List.flatMap (Sh.enc .u8) m) 0 m.length)] [] (Is (.one (.b true))) := by
  rw [fm_u8, fm_u8]; exact s15 k m
theorem s17w (k m : List (BitVec 8)) : Spec Try.prog 17 [.one (.xs (List.flatMap (Sh.enc .u8) k) 0 k.length), .one (.xs (List.flatMap (Sh.enc .u8) m) 0 m.length)] [] (Is (.one (.b true))) := by
  rw [fm_u8, fm_u8]; exact s17 k m
theorem s16w (k : List (BitVec 8)) (ps : List (List (BitVec 8))) : Spec Try.prog 16 [.one (.xs (List.flatMap (Sh.enc .u8) k) 0 k.length), .one (.xs (List.flatMap (Sh.enc (.sl .u8)) ps) 0 ps.length)] [] (Is (.one (.b true))) := by
  rw [fm_u8, fm_P]; exact s16 k ps
theorem s14w (k m : List (BitVec 8)) (z : BitVec 8) : Spec Try.prog 14 [.one (.xs (List.flatMap (Sh.enc .u8) k) 0 k.length), .one (.xs (List.flatMap (Sh.enc .u8) m) 0 m.length), .one (.u8 z)] [] (Is (.one (.b true))) := by
  rw [fm_u8, fm_u8]; exact s14 k m z
end DH
