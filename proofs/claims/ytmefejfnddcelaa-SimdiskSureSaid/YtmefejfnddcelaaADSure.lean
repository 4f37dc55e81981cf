/- The law SimdiskSure holds: it answers true at every input, and the input reads as it did. No condition. -/
import Derived.Test.YtmefejfnddcelaaRows
import Derived.Test.YtmefejfnddcelaaDq
namespace Go.Proofs.Ytmefejfnddcelaa
open Go.ChangeShapes Go.WideShapes Go.ChangeAt Go.RowKit

theorem own : ownKnob Try.prog.godebug = none := by kernel_rfl
theorem laidOut : laidOutB Try.prog = true := by kernel_rfl

theorem opd_cells (o : OpD) : o.cells.length = 7 := rfl
theorem opd_open {H : Type} {enc : TypeId × Value → H} {W : World} {sp : Nat → Bool} {hd : Bool} {v : Value} {d : DataW H} {ps : List MemPlace} (hv : v.cells = #[v]) (h : DataW.Trod enc Try.prog W 0 sp hd 61 v d ps) :
    ∃ (l : List OpD) (a : Option Addr) (cap b0 off : Nat), v = .slice a l.length cap ∧ l.length ≤ cap ∧ l.length ≤ maxLen ∧ ∀ (j : Nat) (o : OpD), l[j]? = some o → a = some ⟨b0, off, none⟩ ∧ o.Ok W ∧ ∀ (i : Nat) (u : Value), o.cells[i]? = some u → (Ctx.cell ⟨W.heap.size, W⟩ ⟨b0, off + j * 7 + i, none⟩ u) := by
  obtain ⟨fuel, hf⟩ := h
  rw [hv] at hf
  exact open_rows (e := 67) OpD.cells (fun o => o.Ok W) opd_cells (by kernel_rfl) (by kernel_rfl) (by decide) (fun m cs z hz =>
    OpD.opened (t0 := 3) (t1 := 9) (t2 := 9) (t3 := 32) (t4 := 3) (t5 := 4) (t6 := 65) (fs := fieldsOf Try.prog 67) (by kernel_rfl) (by kernel_rfl) (by kernel_rfl) (by kernel_rfl) (by kernel_rfl) (by kernel_rfl) (by kernel_rfl) (e3 := 5) (by kernel_rfl) (by kernel_rfl) (by kernel_rfl) (by kernel_rfl) (e6 := 4) (by kernel_rfl) (by kernel_rfl) (by kernel_rfl) hz) hf

theorem sure_tri (W : World) (v0 : Value) (bb : List UInt8) (hb : inSl W v0 bb.length (byv bb)) (a0 : Option Addr) (cap0 b0 off0 : Nat) (ops : List OpD)
    (hops : ∀ (j : Nat) (o : OpD), ops[j]? = some o → a0 = some ⟨b0, off0, none⟩ ∧ o.Ok W ∧ ∀ (i : Nat) (u : Value), o.cells[i]? = some u → Ctx.cell ⟨W.heap.size, W⟩ ⟨b0, off0 + j * 7 + i, none⟩ u) (v2 : Value) (ks : List Bool) (hk : inSl W v2 ks.length (ks.map .bool)) :
    Tri Try.prog ⟨W.heap.size, W⟩ 11 #[v0, .slice a0 ops.length cap0, v2] [AnyP] (fun u M => u = .bool true ∧ M = [AnyP]) := by
  obtain ⟨ka, kc, rfl, hkc, _⟩ := inSl_shape hk
  obtain ⟨bx, by_, rfl, hcb, _⟩ := inSl_shape hb
  have hrd : ∀ v n xs, inSl W v n xs → Rd ⟨W.heap.size, W⟩ AnyP 1 v n xs := fun v n xs h => inSl_rd h
  by_cases hl : bb.length ≤ 1000
  · exact sure_short _ a0 cap0 b0 off0 ops ka kc ks bx by_ bb W hrd hops (hrd _ _ _ hk) hkc (hrd _ _ _ hb) hl hcb
  · have ha : ∃ bk bo, bx = some ⟨bk, bo, none⟩ := by
      obtain ⟨_, a, c, e, _, _, hc⟩ := hb
      cases e
      obtain ⟨b, off, h1, _⟩ := hc 0 ((byv bb)[0]'(by rw [byv_len]; omega)) (by simp)
      exact ⟨b, off, h1⟩
    obtain ⟨bk, bo, rfl⟩ := ha
    exact sure_long _ a0 cap0 b0 off0 ops ka kc ks bk bo by_ bb W hrd hops (hrd _ _ _ hk) hkc (hrd _ _ _ hb) (by omega) hcb

set_option maxRecDepth 100000 in
theorem sure_lifted (os : Os) (started : os.Started) (H : Type) (enc : TypeId × Value → H) :
    ReturnsInHanded {} Try.checked os 11 .any (Rows.simdiskSureSpec.pre6 enc Try.prog Try.f11 Rows.simdiskSureRow.domain false) (Rows.simdiskSureSpec.post enc Try.prog Try.f11 false true false false) := by
  refine returnsInHanded_of_change (C := Try.checked) own started (by kernel_rfl) Try.func11
    (ChangeSpec.witness6 (enc := enc) (C := Try.checked) false ⟨#[], #[.slice none 0 0, .slice none 0 0, .slice none 0 0], []⟩ 8 (by kernel_rfl) (by kernel_rfl) (by kernel_rfl) (by kernel_rfl)) ?_
  intro W base args ds gs before hval0 hW _ _
  have hW' := hW
  obtain ⟨p, q, hA0, hV, rfl, hfz, hnd⟩ := hW
  have hA : DataW.TrodAll enc Try.prog W 0 (fun _ => true) true Try.f11.params.toList args.toList ds p := hA0
  rw [Try.params11] at hA
  obtain ⟨v0, vs0, d0, ds0, p0, q0, hargs, rfl, rfl, h0, r0⟩ := trodAll_cons hA
  obtain ⟨v1, vs1, d1, ds1, p1, q1, hargs1, rfl, rfl, h1, r1⟩ := trodAll_cons r0
  obtain ⟨v2, vs2, d2, ds2, p2, q2, hargs2, rfl, rfl, h2, r2⟩ := trodAll_cons r1
  obtain ⟨rfl, rfl, rfl⟩ := trodAll_nil r2
  obtain rfl : args = #[v0, v1, v2] := by cases args; simp_all
  have cellsOf : ∀ (j : Nat) (t e : TypeId) (v : Value), Try.f11.params[j]? = some t → Try.prog.underlying t = some (.slice e) → #[v0, v1, v2][j]? = some v → v.cells = #[v] := fun j t e v h1 h2 h3 => by
    have hval : Value.okWide Try.prog W .any base t v := hval0 j t v h1 h3
    obtain ⟨a, n, c, rfl⟩ := okWide_slice h2 hval
    rfl
  have c0 := cellsOf 0 32 5 v0 (by rw [Try.params11]; rfl) (by kernel_rfl) rfl
  have c1 := cellsOf 1 61 67 v1 (by rw [Try.params11]; rfl) (by kernel_rfl) rfl
  have c2 := cellsOf 2 65 4 v2 (by rw [Try.params11]; rfl) (by kernel_rfl) rfl
  obtain ⟨bb, hb⟩ : ∃ bb, inSl W v0 bb.length (byv bb) := by
    obtain ⟨fuel, hf⟩ := h0
    rw [c0] at hf
    exact open_bytesI (e := 5) (by kernel_rfl) (by kernel_rfl) (by kernel_rfl) hf
  obtain ⟨ks, hk⟩ : ∃ ks : List Bool, inSl W v2 ks.length (ks.map .bool) := by
    obtain ⟨fuel, hf⟩ := h2
    rw [c2] at hf
    exact open_boolsI (e := 4) (by kernel_rfl) (by kernel_rfl) (by kernel_rfl) hf
  obtain ⟨ops, a, cap, b0, off, rfl, _, _, hops⟩ := opd_open c1 h1
  refine (calls_of_tri' (sure_tri W v0 bb hb a cap b0 off ops hops v2 ks hk)).mono fun e W' ⟨he, hB⟩ => ⟨_, he, ?_⟩
  exact law_post (tb := 4) laidOut (by kernel_rfl) (by kernel_rfl) (by kernel_rfl) rfl (fun ds hl => by
    match ds, hl with
    | [d, d', d''], _ => rfl) hW' hB

theorem sure_holds : Rows.SimdiskSureSaid :=
  OpenClaim.holds_of_wide 11 Try.f11 rfl rfl rfl rfl rfl rfl rfl ⟨rfl, rfl, rfl, rfl, rfl⟩ rfl rfl rfl rfl rfl (by kernel_rfl) Try.func11 (by kernel_rfl)
    (of_decide_eq_true (by kernel_rfl)) (by unfold Func.isWrapper; first | (rw [if_pos (by decide +kernel)]; kernel_rfl) | (rw [if_neg (by decide +kernel)]; exact ⟨rfl, rfl⟩))
    (fun os started H enc _ => sure_lifted os started H enc)
#print axioms sure_holds
end Go.Proofs.Ytmefejfnddcelaa
