/- The law SimobjAtOnce holds: it answers true at every input, and the input reads as it did. No condition. -/
import Derived.Test.YtmefejfnddcelaaRows
import Derived.Test.YtmefejfnddcelaaSLOpen
import Derived.Test.YtmefejfnddcelaaOx
namespace Go.Proofs.Ytmefejfnddcelaa
open Go.ChangeShapes Go.WideShapes Go.ChangeAt Go.RowKit

theorem own : ownKnob Try.prog.godebug = none := by kernel_rfl
theorem laidOut : laidOutB Try.prog = true := by kernel_rfl

set_option maxRecDepth 100000 in
theorem at1_lifted (os : Os) (started : os.Started) (H : Type) (enc : TypeId × Value → H) :
    ReturnsInHanded {} Try.checked os 5 .any (Rows.simobjAtOnceSpec.pre6 enc Try.prog Try.f5 Rows.simobjAtOnceRow.domain false) (Rows.simobjAtOnceSpec.post enc Try.prog Try.f5 false true false false) := by
  refine returnsInHanded_of_change (C := Try.checked) own started (by kernel_rfl) Try.func5
    (ChangeSpec.witness6 (enc := enc) (C := Try.checked) false ⟨#[], #[.slice none 0 0], []⟩ 8 (by kernel_rfl) (by kernel_rfl) (by kernel_rfl) (by kernel_rfl)) ?_
  intro W base args ds gs before hval0 hW _ _
  have hW' := hW
  obtain ⟨p, q, hA0, hV, rfl, hfz, hnd⟩ := hW
  have hA : DataW.TrodAll enc Try.prog W 0 (fun _ => true) true Try.f5.params.toList args.toList ds p := hA0
  rw [Try.params5] at hA
  obtain ⟨v0, vs0, d0, ds0, p0, q0, hargs, rfl, rfl, h0, r0⟩ := trodAll_cons hA
  obtain ⟨rfl, rfl, rfl⟩ := trodAll_nil r0
  obtain rfl : args = #[v0] := by cases args; simp_all
  have hcells : v0.cells = #[v0] := by
    have hval : Value.okWide Try.prog W .any base 22 v0 := hval0 0 22 v0 (by rw [Try.params5]; rfl) rfl
    obtain ⟨a, n, c, rfl⟩ := okWide_slice (e := 34) (by kernel_rfl) hval
    rfl
  obtain ⟨ops, hin⟩ := open_ops (t := 22) (e := 34) (fs := fieldsOf Try.prog 34) (t0 := 3) (t1 := 9) (t2 := 32) (t3 := 3) (t4 := 4) (e2 := 5) (by kernel_rfl) (by kernel_rfl) (by kernel_rfl) (by kernel_rfl) (by kernel_rfl) (by kernel_rfl) (by kernel_rfl) (by kernel_rfl) (by kernel_rfl) (by kernel_rfl) (by kernel_rfl) hcells h0
  obtain ⟨a, cap, b0, off, rfl, hb⟩ := ops_base hin
  refine (calls_of_tri' (at1_tri ⟨W.heap.size, W⟩ a cap b0 off ops hb)).mono fun e W' ⟨he, hB⟩ => ⟨_, he, ?_⟩
  exact law_post (tb := 4) laidOut (by kernel_rfl) (by kernel_rfl) (by kernel_rfl) rfl (fun ds hl => by
    match ds, hl with
    | [d], _ => rfl) hW' hB

theorem at1_holds : Rows.SimobjAtOnceSaid :=
  OpenClaim.holds_of_wide 5 Try.f5 rfl rfl rfl rfl rfl rfl rfl ⟨rfl, rfl, rfl, rfl, rfl⟩ rfl rfl rfl rfl rfl (by kernel_rfl) Try.func5 (by kernel_rfl)
    (of_decide_eq_true (by kernel_rfl)) (by unfold Func.isWrapper; first | (rw [if_pos (by decide +kernel)]; kernel_rfl) | (rw [if_neg (by decide +kernel)]; exact ⟨rfl, rfl⟩))
    (fun os started H enc _ => at1_lifted os started H enc)
#print axioms at1_holds
end Go.Proofs.Ytmefejfnddcelaa
