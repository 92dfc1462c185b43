/- AoAgain holds at every argument of its kind. -/
import Derived.Test.YtdnggeocdocomaaHd3
import Derived.Test.YtdnggeocdocomaaVE
import Derived.Test.YtdnggeocdocomaaRows
import Derived.WalkKit
import Derived.ProofKit
import Derived.OpenShut
import Derived.ShutString
import Derived.ChangeOld
import Derived.Below
import Derived.Carry
set_option linter.unusedVariables false
set_option linter.unusedSimpArgs false
namespace Go.Proofs.Ytdnggeocdocomaa.aoAgain
open Go.ChangeShapes Go.WideShapes Go.ChangeAt Go.RowKit
set_option linter.unusedVariables false
theorem own : ownKnob Try.prog.godebug = none := by kernel_rfl
theorem laidOut : laidOutB Try.prog = true := by kernel_rfl
set_option maxRecDepth 100000 in
theorem lifted (os : Os) (started : os.Started) (H : Type) (enc : TypeId × Value → H) :
    ReturnsInHanded {} Try.checked os 3 .any (Rows.aoAgainSpec.pre6 enc Try.prog Try.f3 Rows.aoAgainRow.domain false) (Rows.aoAgainSpec.post enc Try.prog Try.f3 false true false false) := by
  refine returnsInHanded_of_change (C := Try.checked) own started (by kernel_rfl) Try.func3
    (ChangeSpec.witness6 (enc := enc) (C := Try.checked) false ⟨#[], #[.agg #[.int .i64 0, .slice none 0 0, .slice none 0 0, .bool false], .agg #[.int .u16 0, .int .u16 0, .int .u32 0, .int .u32 0, .int .u8 0, .int .u16 0, .int .u16 0, .bool false, .int .u16 0, .bool false, .int .u8 0, .bool false, .slice none 0 0, .bool false, .int .u32 0, .int .u32 0, .bool false, .int .u8 0, .int .u8 0, .int .u8 0, .int .u8 0, .int .u8 0, .int .u8 0, .int .u8 0, .int .u8 0, .int .u8 0, .int .u8 0, .int .u8 0, .int .u8 0, .int .u8 0, .int .u8 0, .slice none 0 0], .agg #[.bool false, .int .u16 0, .bool false, .int .u8 0, .bool false, .slice none 0 0, .bool false, .int .u32 0, .int .u32 0, .bool false, .int .u8 0, .int .u8 0, .int .u8 0, .int .u8 0, .int .u8 0, .int .u8 0, .int .u8 0, .int .u8 0, .int .u8 0, .int .u8 0, .int .u8 0, .int .u8 0, .int .u8 0, .int .u8 0]], []⟩ 8 (by kernel_rfl) (by kernel_rfl) (by kernel_rfl) (by kernel_rfl)) ?_
  intro W base args ds gs before hval0 hW hcnd _
  have hval : ∀ (j : Nat) t v, Try.f3.params[j]? = some t → args[j]? = some v → Value.okWide Try.prog W .any base t v := hval0
  have hW' := hW
  obtain ⟨p, q, hA0, hV, rfl, hfz, hnd⟩ := hW
  have hA : DataW.TrodAll enc Try.prog W 0 (fun _ => true) true Try.f3.params.toList args.toList ds p := hA0
  rw [Try.params3] at hA hval
  obtain ⟨v0, vs0, d0, ds0, p0, q0, hargs, rfl, rfl, h0, r0⟩ := trodAll_cons hA
  obtain ⟨v1, vs1, d1, ds1, p1, q1, rfl, rfl, rfl, h1, r1⟩ := trodAll_cons r0
  obtain ⟨v2, vs2, d2, ds2, p2, q2, rfl, rfl, rfl, h2, r2⟩ := trodAll_cons r1
  obtain ⟨rfl, rfl, rfl⟩ := trodAll_nil r2
  obtain rfl : args = #[v0, v1, v2] := by cases args; simp_all
  obtain ⟨rfl, rfl⟩ := trodVars_none hV
  have lt0 : ∀ x ∈ p0, x.block < W.heap.size := by obtain ⟨m, hm⟩ := h0; exact DataW.trod_lt m _ _ _ hm
  obtain ⟨y0, w0, g0⟩ := DH.Sh.arg ((.st (.cons .i64 (.cons (.sl .u8) (.cons (.sl .u8) (.cons .bool .nil)))))) (by kernel_rfl) (hval 0 24 v0 rfl rfl) h0
  have lt1 : ∀ x ∈ p1, x.block < W.heap.size := by obtain ⟨m, hm⟩ := h1; exact DataW.trod_lt m _ _ _ hm
  obtain ⟨y1, w1, g1⟩ := DH.Sh.arg ((.st (.cons .u16 (.cons .u16 (.cons .u32 (.cons .u32 (.cons .u8 (.cons .u16 (.cons .u16 (.cons (.st (.cons .bool (.cons .u16 (.cons .bool (.cons .u8 (.cons .bool (.cons (.sl (.st (.cons .u32 (.cons .u32 .nil)))) (.cons .bool (.cons .u32 (.cons .u32 (.cons .bool (.cons .u8 (.cons .u8 (.cons (.ar 12 .u8) .nil)))))))))))))) (.cons (.sl .u8) .nil))))))))))) (by kernel_rfl) (hval 1 32 v1 rfl rfl) h1
  have lt2 : ∀ x ∈ p2, x.block < W.heap.size := by obtain ⟨m, hm⟩ := h2; exact DataW.trod_lt m _ _ _ hm
  obtain ⟨y2, w2, g2⟩ := DH.Sh.arg ((.st (.cons .bool (.cons .u16 (.cons .bool (.cons .u8 (.cons .bool (.cons (.sl (.st (.cons .u32 (.cons .u32 .nil)))) (.cons .bool (.cons .u32 (.cons .u32 (.cons .bool (.cons .u8 (.cons .u8 (.cons (.ar 12 .u8) .nil))))))))))))))) (by kernel_rfl) (hval 2 30 v2 rfl rfl) h2
  clear hA0 hval0
  refine ((DH.s3w y0 y1 y2 w0 w1 w2).walk (vs := [v0, v1, v2]) (DH.AL_cons g0 (DH.AL_cons g1 (DH.AL_cons g2 DH.AL_nil)))).mono fun e W' ⟨he, bel⟩ => ?_
  subst he
  exact ⟨_, rfl, _, _, _, [], _, [], hW', trodAll_mk1 (shut_bool Try.underlying4 _), (trodAll_cons_mk (Below.trod laidOut (by kernel_rfl) (of_decide_eq_true (by kernel_rfl)) h0 bel lt0) (trodAll_cons_mk (Below.trod laidOut (by kernel_rfl) (of_decide_eq_true (by kernel_rfl)) h1 bel lt1) (trodAll_cons_mk (Below.trod laidOut (by kernel_rfl) (of_decide_eq_true (by kernel_rfl)) h2 bel lt2) trodAll_mk0))), rfl, bel.frame _, fun h => by cases h⟩

theorem over : Rows.aoAgainRow.holds Try.pinned (OpenSpec.ofChange Rows.aoAgainSpec) :=
  OpenClaim.holds_of_wide 3 Try.f3 rfl rfl rfl rfl rfl rfl rfl ⟨rfl, rfl, rfl, rfl, rfl⟩ rfl rfl rfl rfl rfl (by kernel_rfl) Try.func3 (DH.facts_of DH.hd_may DH.hd_lifts DH.hd_make (by kernel_rfl))
    (of_decide_eq_true (by kernel_rfl)) (by unfold Func.isWrapper; first | (rw [if_pos (by decide +kernel)]; kernel_rfl) | (rw [if_neg (by decide +kernel)]; exact ⟨rfl, rfl⟩))
    (fun os started H enc _ => lifted os started H enc)

theorem proved : Rows.AoAgainSaid := over
end Go.Proofs.Ytdnggeocdocomaa.aoAgain
namespace Go.Proofs.Ytdnggeocdocomaa
theorem aoAgain_holds : Rows.AoAgainSaid := aoAgain.proved
#print axioms aoAgain_holds
end Go.Proofs.Ytdnggeocdocomaa
