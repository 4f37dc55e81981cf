/- The law SimobjLists holds: it answers true at every input, and the input reads as it did. No condition. -/
import Derived.Test.YtmefejfnddcelaaRows
import Derived.Test.YtmefejfnddcelaaSLOpen
import Derived.Test.YtmefejfnddcelaaOyc
namespace Go.Proofs.Ytmefejfnddcelaa
open Go.ChangeShapes Go.WideShapes Go.ChangeAt Go.RowKit

theorem own : ownKnob Try.prog.godebug = none := by kernel_rfl
theorem laidOut : laidOutB Try.prog = true := by kernel_rfl

set_option maxRecDepth 100000 in
theorem lists_lifted (os : Os) (started : os.Started) (H : Type) (enc : TypeId × Value → H) :
    ReturnsInHanded {} Try.checked os 6 .any (Rows.simobjListsSpec.pre6 enc Try.prog Try.f6 Rows.simobjListsRow.domain false) (Rows.simobjListsSpec.post enc Try.prog Try.f6 false true false false) := by
  refine returnsInHanded_of_change (C := Try.checked) own started (by kernel_rfl) Try.func6
    (ChangeSpec.witness6 (enc := enc) (C := Try.checked) false ⟨#[], #[.slice none 0 0, .int .i64 0], []⟩ 8 (by kernel_rfl) (by kernel_rfl) (by kernel_rfl) (by kernel_rfl)) ?_
  intro W base args ds gs before hval0 hW _ _
  have hW' := hW
  obtain ⟨p, q, hA0, hV, rfl, hfz, hnd⟩ := hW
  have hA : DataW.TrodAll enc Try.prog W 0 (fun _ => true) true Try.f6.params.toList args.toList ds p := hA0
  rw [Try.params6] at hA
  obtain ⟨v0, vs0, d0, ds0, p0, q0, hargs, rfl, rfl, h0, r0⟩ := trodAll_cons hA
  obtain ⟨v1, vs1, d1, ds1, p1, q1, hargs1, rfl, rfl, h1, r1⟩ := trodAll_cons r0
  obtain ⟨rfl, rfl, rfl⟩ := trodAll_nil r1
  obtain rfl : args = #[v0, v1] := by cases args; simp_all
  have hcells : v0.cells = #[v0] := by
    have hval : Value.okWide Try.prog W .any base 22 v0 := hval0 0 22 v0 (by rw [Try.params6]; rfl) rfl
    obtain ⟨a, n, c, rfl⟩ := okWide_slice (e := 34) (by kernel_rfl) hval
    rfl
  obtain ⟨lag0, rfl⟩ : ∃ k, v1 = .int .i64 k := by
    have hval : Value.okWide Try.prog W .any base 3 v1 := hval0 1 3 v1 (by rw [Try.params6]; rfl) rfl
    obtain ⟨k, rfl, _⟩ := okWide_int (k := .i64) (by kernel_rfl) hval
    exact ⟨k, rfl⟩
  obtain ⟨ops, hin⟩ := open_ops (t := 22) (e := 34) (fs := fieldsOf Try.prog 34) (t0 := 3) (t1 := 9) (t2 := 32) (t3 := 3) (t4 := 4) (e2 := 5) (by kernel_rfl) (by kernel_rfl) (by kernel_rfl) (by kernel_rfl) (by kernel_rfl) (by kernel_rfl) (by kernel_rfl) (by kernel_rfl) (by kernel_rfl) (by kernel_rfl) (by kernel_rfl) hcells h0
  obtain ⟨a, cap, b0, off, rfl, hb⟩ := ops_base hin
  refine (calls_of_tri' (lists_tri ⟨W.heap.size, W⟩ a cap b0 off ops lag0 hb)).mono fun e W' ⟨he, hB⟩ => ⟨_, he, ?_⟩
  exact law_post (tb := 4) laidOut (by kernel_rfl) (by kernel_rfl) (by kernel_rfl) rfl (fun ds hl => by
    match ds, hl with
    | [d, d'], _ => rfl) hW' hB

theorem lists_holds : Rows.SimobjListsSaid :=
  OpenClaim.holds_of_wide 6 Try.f6 rfl rfl rfl rfl rfl rfl rfl ⟨rfl, rfl, rfl, rfl, rfl⟩ rfl rfl rfl rfl rfl (by kernel_rfl) Try.func6 (by kernel_rfl)
    (of_decide_eq_true (by kernel_rfl)) (by unfold Func.isWrapper; first | (rw [if_pos (by decide +kernel)]; kernel_rfl) | (rw [if_neg (by decide +kernel)]; exact ⟨rfl, rfl⟩))
    (fun os started H enc _ => lists_lifted os started H enc)
#print axioms lists_holds
end Go.Proofs.Ytmefejfnddcelaa
