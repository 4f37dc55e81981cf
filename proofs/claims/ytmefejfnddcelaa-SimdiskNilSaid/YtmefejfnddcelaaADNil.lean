/- The law SimdiskNil holds: it answers true at every input, and the input reads as it did. No condition. -/
import Derived.Test.YtmefejfnddcelaaRows
import Derived.Test.YtmefejfnddcelaaSLLaw
import Derived.Test.YtmefejfnddcelaaDm
namespace Go.Proofs.Ytmefejfnddcelaa
open Go.ChangeShapes Go.WideShapes Go.ChangeAt Go.RowKit

theorem own : ownKnob Try.prog.godebug = none := by kernel_rfl
theorem laidOut : laidOutB Try.prog = true := by kernel_rfl
theorem array7 {α : Type} {cs : Array α} (h : cs.size = 7) : ∃ c0 c1 c2 c3 c4 c5 c6, cs = #[c0, c1, c2, c3, c4, c5, c6] := by
  obtain ⟨l⟩ := cs
  match l, h with
  | [c0, c1, c2, c3, c4, c5, c6], _ => exact ⟨c0, c1, c2, c3, c4, c5, c6, rfl⟩
set_option maxRecDepth 100000 in
theorem op_shape {W : World} {r : Reach} {b : Nat} {v : Value} (h : Value.okWide Try.prog W r b 67 v) : ∃ (kd : Int) (name to : ByteArray) (ba : Option Addr) (bl bc : Nat) (k : Int) (yes : Bool) (ka : Option Addr) (kl kc : Nat), v = .agg #[.int .i64 kd, .string name, .string to, .slice ba bl bc, .int .i64 k, .bool yes, .slice ka kl kc] := by
  obtain ⟨fs, hu⟩ : ∃ fs, Try.prog.underlying 67 = some (.struct fs) := ⟨fieldsOf Try.prog 67, by kernel_rfl⟩
  unfold Value.okWide at h
  rw [hu] at h
  obtain ⟨cs, rfl, hsz, ts, hts, _, hc⟩ := h
  have h5 : Try.prog.cellsOf 67 = 7 := by kernel_rfl
  obtain ⟨c0, c1, c2, c3, c4, c5, c6, rfl⟩ := array7 (hsz.trans h5)
  have ht : Try.prog.cellTypes Try.prog.depth 67 = some [3, 9, 9, 32, 3, 4, 65] := by kernel_rfl
  rw [ht] at hts
  cases hts
  obtain ⟨u0, e0, h0⟩ := hc 0 c0 rfl
  obtain ⟨u1, e1, h1⟩ := hc 1 c1 rfl
  obtain ⟨u2, e2, h2⟩ := hc 2 c2 rfl
  obtain ⟨u3, e3, h3⟩ := hc 3 c3 rfl
  obtain ⟨u4, e4, h4⟩ := hc 4 c4 rfl
  obtain ⟨u5, e5, h5⟩ := hc 5 c5 rfl
  obtain ⟨u6, e6, h6⟩ := hc 6 c6 rfl
  cases e0; cases e1; cases e2; cases e3; cases e4; cases e5; cases e6
  obtain ⟨kd, rfl⟩ := cell_int (k := .i64) (by kernel_rfl) h0
  obtain ⟨name, rfl⟩ := cell_string (by kernel_rfl) h1
  obtain ⟨to, rfl⟩ := cell_string (by kernel_rfl) h2
  obtain ⟨ba, bl, bc, rfl⟩ := cell_slice (e := 5) (by kernel_rfl) h3
  obtain ⟨k, rfl⟩ := cell_int (k := .i64) (by kernel_rfl) h4
  obtain ⟨yes, rfl⟩ := cell_bool (by kernel_rfl) h5
  obtain ⟨ka, kl, kc, rfl⟩ := cell_slice (e := 4) (by kernel_rfl) h6
  exact ⟨kd, name, to, ba, bl, bc, k, yes, ka, kl, kc, rfl⟩

set_option maxRecDepth 100000 in
theorem dnil_lifted (os : Os) (started : os.Started) (H : Type) (enc : TypeId × Value → H) :
    ReturnsInHanded {} Try.checked os 10 .any (Rows.simdiskNilSpec.pre6 enc Try.prog Try.f10 Rows.simdiskNilRow.domain false) (Rows.simdiskNilSpec.post enc Try.prog Try.f10 false true false false) := by
  refine returnsInHanded_of_change (C := Try.checked) own started (by kernel_rfl) Try.func10
    (ChangeSpec.witness6 (enc := enc) (C := Try.checked) false ⟨#[], #[.agg #[.int .i64 0, .string .empty, .string .empty, .slice none 0 0, .int .i64 0, .bool false, .slice none 0 0]], []⟩ 8 (by kernel_rfl) (by kernel_rfl) (by kernel_rfl) (by kernel_rfl)) ?_
  intro W base args ds gs before hval0 hW _ _
  have hval : ∀ (j : Nat) t v, Try.f10.params[j]? = some t → args[j]? = some v → Value.okWide Try.prog W .any base t v := hval0
  have hW' := hW
  obtain ⟨p, q, hA0, hV, rfl, hfz, hnd⟩ := hW
  have hA : DataW.TrodAll enc Try.prog W 0 (fun _ => true) true Try.f10.params.toList args.toList ds p := hA0
  rw [Try.params10] at hA hval
  obtain ⟨v0, vs0, d0, ds0, p0, q0, hargs, rfl, rfl, h0, r0⟩ := trodAll_cons hA
  obtain ⟨rfl, rfl, rfl⟩ := trodAll_nil r0
  obtain rfl : args = #[v0] := by cases args; simp_all
  obtain ⟨kd, name, to, ba, bl, bc, k, yes, ka, kl, kc, rfl⟩ := op_shape (hval 0 67 v0 rfl rfl)
  refine (calls_of_tri (nil_tri ⟨W.heap.size, W⟩ kd k name to ba ka bl bc kl kc yes)).mono fun e W' ⟨he, hB⟩ => ⟨_, he, ?_⟩
  exact law_post (tb := 4) laidOut (by kernel_rfl) (by kernel_rfl) (by kernel_rfl) rfl (fun ds hl => by
    match ds, hl with
    | [d], _ => rfl) hW' hB

theorem dnil_holds : Rows.SimdiskNilSaid :=
  OpenClaim.holds_of_wide 10 Try.f10 rfl rfl rfl rfl rfl rfl rfl ⟨rfl, rfl, rfl, rfl, rfl⟩ rfl rfl rfl rfl rfl (by kernel_rfl) Try.func10 (by kernel_rfl)
    (of_decide_eq_true (by kernel_rfl)) (by unfold Func.isWrapper; first | (rw [if_pos (by decide +kernel)]; kernel_rfl) | (rw [if_neg (by decide +kernel)]; exact ⟨rfl, rfl⟩))
    (fun os started H enc _ => dnil_lifted os started H enc)
#print axioms dnil_holds
end Go.Proofs.Ytmefejfnddcelaa
