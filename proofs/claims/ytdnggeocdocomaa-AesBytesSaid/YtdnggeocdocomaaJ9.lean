/- Walks of functions, each by evaluation: what each returns. -/
import Derived.Test.YtdnggeocdocomaaJ8
import Derived.Test.YtdnggeocdocomaaK2
set_option linter.unusedVariables false
set_option linter.unusedSimpArgs false
noncomputable section
namespace DH
open Go Go.Proofs
theorem s9w (k b : List (BitVec 8)) (hk : (Sh.ar 16 .u8).wf k) (hb : (Sh.ar 16 .u8).wf b) : Spec Try.prog 9 [.agg (List.flatMap (Sh.enc .u8) k), .agg (List.flatMap (Sh.enc .u8) b)] [] (Is (.one (.b true))) := by
  rw [fm_u8, fm_u8]; exact s9 k b hk.1 hb.1
theorem s10w (c d : BitVec 8) : Spec Try.prog 10 [.one (.u8 c), .one (.u8 d)] [] (Is (.one (.b true))) := s10 c d
end DH
