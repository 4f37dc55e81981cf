/- The law SimdiskAll holds: it answers true at every input, and the input reads as it did. No condition. -/
import Derived.Test.YtmefejfnddcelaaRows
import Derived.Test.YtmefejfnddcelaaDx
namespace Go.Proofs.Ytmefejfnddcelaa
open Go.ChangeShapes Go.WideShapes Go.ChangeAt Go.RowKit

theorem own : ownKnob Try.prog.godebug = none := by kernel_rfl
theorem laidOut : laidOutB Try.prog = true := by kernel_rfl

theorem opd_cells (o : OpD) : o.cells.length = 7 := rfl
theorem opd_open {H : Type} {enc : TypeId × Value → H} {W : World} {sp : Nat → Bool} {hd : Bool} {v : Value} {d : DataW H} {ps : List MemPlace} (hv : v.cells = #[v]) (h : DataW.Trod enc Try.prog W 0 sp hd 61 v d ps) :
    ∃ (l : List OpD) (a : Option Addr) (cap b0 off : Nat), v = .slice a l.length cap ∧ l.length ≤ cap ∧ l.length ≤ maxLen ∧ ∀ (j : Nat) (o : OpD), l[j]? = some o → a = some ⟨b0, off, none⟩ ∧ o.Ok W ∧ ∀ (i : Nat) (u : Value), o.cells[i]? = some u → (Ctx.cell ⟨W.heap.size, W⟩ ⟨b0, off + j * 7 + i, none⟩ u) := by
  obtain ⟨fuel, hf⟩ := h
  rw [hv] at hf
  exact open_rows (e := 67) OpD.cells (fun o => o.Ok W) opd_cells (by kernel_rfl) (by kernel_rfl) (by decide) (fun m cs z hz =>
    OpD.opened (t0 := 3) (t1 := 9) (t2 := 9) (t3 := 32) (t4 := 3) (t5 := 4) (t6 := 65) (fs := fieldsOf Try.prog 67) (by kernel_rfl) (by kernel_rfl) (by kernel_rfl) (by kernel_rfl) (by kernel_rfl) (by kernel_rfl) (by kernel_rfl) (e3 := 5) (by kernel_rfl) (by kernel_rfl) (by kernel_rfl) (by kernel_rfl) (e6 := 4) (by kernel_rfl) (by kernel_rfl) (by kernel_rfl) hz) hf

theorem all_tri (W : World) (a0 : Option Addr) (cap0 b0 off0 : Nat) (ops : List OpD)
    (hops : ∀ (j : Nat) (o : OpD), ops[j]? = some o → a0 = some ⟨b0, off0, none⟩ ∧ o.Ok W ∧ ∀ (i : Nat) (u : Value), o.cells[i]? = some u → Ctx.cell ⟨W.heap.size, W⟩ ⟨b0, off0 + j * 7 + i, none⟩ u) :
    Tri Try.prog ⟨W.heap.size, W⟩ 7 #[.slice a0 ops.length cap0] [AnyP] (fun u M => u = .bool true ∧ M = [AnyP]) :=
  all_tri0 _ a0 cap0 b0 off0 ops W (fun v n xs h => inSl_rd h) hops

set_option maxRecDepth 100000 in
theorem all_lifted (os : Os) (started : os.Started) (H : Type) (enc : TypeId × Value → H) :
    ReturnsInHanded {} Try.checked os 7 .any (Rows.simdiskAllSpec.pre6 enc Try.prog Try.f7 Rows.simdiskAllRow.domain false) (Rows.simdiskAllSpec.post enc Try.prog Try.f7 false true false false) := by
  refine returnsInHanded_of_change (C := Try.checked) own started (by kernel_rfl) Try.func7
    (ChangeSpec.witness6 (enc := enc) (C := Try.checked) false ⟨#[], #[.slice none 0 0], []⟩ 8 (by kernel_rfl) (by kernel_rfl) (by kernel_rfl) (by kernel_rfl)) ?_
  intro W base args ds gs before hval0 hW _ _
  have hW' := hW
  obtain ⟨p, q, hA0, hV, rfl, hfz, hnd⟩ := hW
  have hA : DataW.TrodAll enc Try.prog W 0 (fun _ => true) true Try.f7.params.toList args.toList ds p := hA0
  rw [Try.params7] at hA
  obtain ⟨v0, vs0, d0, ds0, p0, q0, hargs, rfl, rfl, h0, r0⟩ := trodAll_cons hA
  obtain ⟨rfl, rfl, rfl⟩ := trodAll_nil r0
  obtain rfl : args = #[v0] := by cases args; simp_all
  have c0 : v0.cells = #[v0] := by
    have hval : Value.okWide Try.prog W .any base 61 v0 := hval0 0 61 v0 (by rw [Try.params7]; rfl) rfl
    obtain ⟨a, n, c, rfl⟩ := okWide_slice (e := 67) (by kernel_rfl) hval
    rfl
  obtain ⟨ops, a, cap, b0, off, rfl, _, _, hops⟩ := opd_open c0 h0
  refine (calls_of_tri' (all_tri W a cap b0 off ops hops)).mono fun e W' ⟨he, hB⟩ => ⟨_, he, ?_⟩
  exact law_post (tb := 4) laidOut (by kernel_rfl) (by kernel_rfl) (by kernel_rfl) rfl (fun ds hl => by
    match ds, hl with
    | [d], _ => rfl) hW' hB

theorem all_holds : Rows.SimdiskAllSaid :=
  OpenClaim.holds_of_wide 7 Try.f7 rfl rfl rfl rfl rfl rfl rfl ⟨rfl, rfl, rfl, rfl, rfl⟩ rfl rfl rfl rfl rfl (by kernel_rfl) Try.func7 (by kernel_rfl)
    (of_decide_eq_true (by kernel_rfl)) (by unfold Func.isWrapper; first | (rw [if_pos (by decide +kernel)]; kernel_rfl) | (rw [if_neg (by decide +kernel)]; exact ⟨rfl, rfl⟩))
    (fun os started H enc _ => all_lifted os started H enc)
#print axioms all_holds
end Go.Proofs.Ytmefejfnddcelaa
