/- The law SimobjNil holds: it answers true at every input, and the input reads as it did. No condition. -/
import Derived.Test.YtcafghkcblfkgaaRows
import Derived.Test.YtcafghkcblfkgaaSLLaw
import Derived.Test.YtcafghkcblfkgaaOs
namespace Go.Proofs.Ytcafghkcblfkgaa
open Go.ChangeShapes Go.WideShapes Go.ChangeAt Go.RowKit

theorem own : ownKnob Try.prog.godebug = none := by kernel_rfl
theorem laidOut : laidOutB Try.prog = true := by kernel_rfl
set_option maxRecDepth 100000 in
theorem op_shape {W : World} {r : Reach} {b : Nat} {v : Value} (h : Value.okWide Try.prog W r b 34 v) : ∃ (kd : Int) (key : ByteArray) (a : Option Addr) (n cap : Nat) (k : Int) (yes : Bool), v = .agg #[.int .i64 kd, .string key, .slice a n cap, .int .i64 k, .bool yes] := by
  obtain ⟨fs, hu⟩ : ∃ fs, Try.prog.underlying 34 = some (.struct fs) := ⟨fieldsOf Try.prog 34, by kernel_rfl⟩
  unfold Value.okWide at h
  rw [hu] at h
  obtain ⟨cs, rfl, hsz, ts, hts, _, hc⟩ := h
  have h5 : Try.prog.cellsOf 34 = 5 := by kernel_rfl
  obtain ⟨c0, c1, c2, c3, c4, rfl⟩ := array5 (hsz.trans h5)
  have ht : Try.prog.cellTypes Try.prog.depth 34 = some [3, 9, 32, 3, 4] := by kernel_rfl
  rw [ht] at hts
  cases hts
  obtain ⟨u0, e0, h0⟩ := hc 0 c0 rfl
  obtain ⟨u1, e1, h1⟩ := hc 1 c1 rfl
  obtain ⟨u2, e2, h2⟩ := hc 2 c2 rfl
  obtain ⟨u3, e3, h3⟩ := hc 3 c3 rfl
  obtain ⟨u4, e4, h4⟩ := hc 4 c4 rfl
  cases e0; cases e1; cases e2; cases e3; cases e4
  obtain ⟨kd, rfl⟩ := cell_int (k := .i64) (by kernel_rfl) h0
  obtain ⟨key, rfl⟩ := cell_string (by kernel_rfl) h1
  obtain ⟨a, n, cap, rfl⟩ := cell_slice (e := 5) und_32 h2
  obtain ⟨k, rfl⟩ := cell_int (k := .i64) (by kernel_rfl) h3
  obtain ⟨yes, rfl⟩ := cell_bool (by kernel_rfl) h4
  exact ⟨kd, key, a, n, cap, k, yes, rfl⟩

set_option maxRecDepth 100000 in
theorem nil_lifted (os : Os) (started : os.Started) (H : Type) (enc : TypeId × Value → H) :
    ReturnsInHanded {} Try.checked os 4 .any (Rows.simobjNilSpec.pre6 enc Try.prog Try.f4 Rows.simobjNilRow.domain false) (Rows.simobjNilSpec.post enc Try.prog Try.f4 false true false false) := by
  refine returnsInHanded_of_change (C := Try.checked) own started (by kernel_rfl) Try.func4
    (ChangeSpec.witness6 (enc := enc) (C := Try.checked) false ⟨#[], #[.agg #[.int .i64 0, .string .empty, .slice none 0 0, .int .i64 0, .bool false]], []⟩ 8 (by kernel_rfl) (by kernel_rfl) (by kernel_rfl) (by kernel_rfl)) ?_
  intro W base args ds gs before hval0 hW _ _
  have hval : ∀ (j : Nat) t v, Try.f4.params[j]? = some t → args[j]? = some v → Value.okWide Try.prog W .any base t v := hval0
  have hW' := hW
  obtain ⟨p, q, hA0, hV, rfl, hfz, hnd⟩ := hW
  have hA : DataW.TrodAll enc Try.prog W 0 (fun _ => true) true Try.f4.params.toList args.toList ds p := hA0
  rw [Try.params4] at hA hval
  obtain ⟨v0, vs0, d0, ds0, p0, q0, hargs, rfl, rfl, h0, r0⟩ := trodAll_cons hA
  obtain ⟨rfl, rfl, rfl⟩ := trodAll_nil r0
  obtain rfl : args = #[v0] := by cases args; simp_all
  obtain ⟨kd, key, a, n, cap, k, yes, rfl⟩ := op_shape (hval 0 34 v0 rfl rfl)
  refine (calls_of_tri (nil_tri ⟨W.heap.size, W⟩ kd k key a n cap yes)).mono fun e W' ⟨he, hB⟩ => ⟨_, he, ?_⟩
  exact law_post (tb := 4) laidOut (by kernel_rfl) (by kernel_rfl) (by kernel_rfl) rfl (fun ds hl => by
    match ds, hl with
    | [d], _ => rfl) hW' hB

theorem nil_holds : Rows.SimobjNilSaid :=
  OpenClaim.holds_of_wide 4 Try.f4 rfl rfl rfl rfl rfl rfl rfl ⟨rfl, rfl, rfl, rfl, rfl⟩ rfl rfl rfl rfl rfl (by kernel_rfl) Try.func4 (by kernel_rfl)
    (of_decide_eq_true (by kernel_rfl)) (by unfold Func.isWrapper; first | (rw [if_pos (by decide +kernel)]; kernel_rfl) | (rw [if_neg (by decide +kernel)]; exact ⟨rfl, rfl⟩))
    (fun os started H enc _ => nil_lifted os started H enc)
#print axioms nil_holds
end Go.Proofs.Ytcafghkcblfkgaa
