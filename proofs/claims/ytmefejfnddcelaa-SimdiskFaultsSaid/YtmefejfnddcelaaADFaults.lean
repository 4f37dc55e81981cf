/- The law SimdiskFaults holds: it answers true at every input, and the input reads as it did. No condition. -/
import Derived.Test.YtmefejfnddcelaaRows
import Derived.Test.YtmefejfnddcelaaDv
namespace Go.Proofs.Ytmefejfnddcelaa
open Go.ChangeShapes Go.WideShapes Go.ChangeAt Go.RowKit

theorem own : ownKnob Try.prog.godebug = none := by kernel_rfl
theorem laidOut : laidOutB Try.prog = true := by kernel_rfl
theorem array7 {α : Type} {cs : Array α} (h : cs.size = 7) : ∃ c0 c1 c2 c3 c4 c5 c6, cs = #[c0, c1, c2, c3, c4, c5, c6] := by
  obtain ⟨l⟩ := cs
  match l, h with
  | [c0, c1, c2, c3, c4, c5, c6], _ => exact ⟨c0, c1, c2, c3, c4, c5, c6, rfl⟩
set_option maxRecDepth 100000 in
theorem op_shape {W : World} {r : Reach} {b : Nat} {v : Value} (h : Value.okWide Try.prog W r b 67 v) : ∃ (kd : Int) (name to : ByteArray) (ba : Option Addr) (bl bc : Nat) (k : Int) (yes : Bool) (ka : Option Addr) (kl kc : Nat), v = .agg #[.int .i64 kd, .string name, .string to, .slice ba bl bc, .int .i64 k, .bool yes, .slice ka kl kc] := by
  obtain ⟨fs, hu⟩ : ∃ fs, Try.prog.underlying 67 = some (.struct fs) := ⟨fieldsOf Try.prog 67, by kernel_rfl⟩
  unfold Value.okWide at h
  rw [hu] at h
  obtain ⟨cs, rfl, hsz, ts, hts, _, hc⟩ := h
  have h5 : Try.prog.cellsOf 67 = 7 := by kernel_rfl
  obtain ⟨c0, c1, c2, c3, c4, c5, c6, rfl⟩ := array7 (hsz.trans h5)
  have ht : Try.prog.cellTypes Try.prog.depth 67 = some [3, 9, 9, 32, 3, 4, 65] := by kernel_rfl
  rw [ht] at hts
  cases hts
  obtain ⟨u0, e0, h0⟩ := hc 0 c0 rfl
  obtain ⟨u1, e1, h1⟩ := hc 1 c1 rfl
  obtain ⟨u2, e2, h2⟩ := hc 2 c2 rfl
  obtain ⟨u3, e3, h3⟩ := hc 3 c3 rfl
  obtain ⟨u4, e4, h4⟩ := hc 4 c4 rfl
  obtain ⟨u5, e5, h5⟩ := hc 5 c5 rfl
  obtain ⟨u6, e6, h6⟩ := hc 6 c6 rfl
  cases e0; cases e1; cases e2; cases e3; cases e4; cases e5; cases e6
  obtain ⟨kd, rfl⟩ := cell_int (k := .i64) (by kernel_rfl) h0
  obtain ⟨name, rfl⟩ := cell_string (by kernel_rfl) h1
  obtain ⟨to, rfl⟩ := cell_string (by kernel_rfl) h2
  obtain ⟨ba, bl, bc, rfl⟩ := cell_slice (e := 5) (by kernel_rfl) h3
  obtain ⟨k, rfl⟩ := cell_int (k := .i64) (by kernel_rfl) h4
  obtain ⟨yes, rfl⟩ := cell_bool (by kernel_rfl) h5
  obtain ⟨ka, kl, kc, rfl⟩ := cell_slice (e := 4) (by kernel_rfl) h6
  exact ⟨kd, name, to, ba, bl, bc, k, yes, ka, kl, kc, rfl⟩

theorem opd_cells (o : OpD) : o.cells.length = 7 := rfl
theorem opd_open {H : Type} {enc : TypeId × Value → H} {W : World} {sp : Nat → Bool} {hd : Bool} {v : Value} {d : DataW H} {ps : List MemPlace} (hv : v.cells = #[v]) (h : DataW.Trod enc Try.prog W 0 sp hd 61 v d ps) :
    ∃ (l : List OpD) (a : Option Addr) (cap b0 off : Nat), v = .slice a l.length cap ∧ l.length ≤ cap ∧ l.length ≤ maxLen ∧ ∀ (j : Nat) (o : OpD), l[j]? = some o → a = some ⟨b0, off, none⟩ ∧ o.Ok W ∧ ∀ (i : Nat) (u : Value), o.cells[i]? = some u → (Ctx.cell ⟨W.heap.size, W⟩ ⟨b0, off + j * 7 + i, none⟩ u) := by
  obtain ⟨fuel, hf⟩ := h
  rw [hv] at hf
  exact open_rows (e := 67) OpD.cells (fun o => o.Ok W) opd_cells (by kernel_rfl) (by kernel_rfl) (by decide) (fun m cs z hz =>
    OpD.opened (t0 := 3) (t1 := 9) (t2 := 9) (t3 := 32) (t4 := 3) (t5 := 4) (t6 := 65) (fs := fieldsOf Try.prog 67) (by kernel_rfl) (by kernel_rfl) (by kernel_rfl) (by kernel_rfl) (by kernel_rfl) (by kernel_rfl) (by kernel_rfl) (e3 := 5) (by kernel_rfl) (by kernel_rfl) (by kernel_rfl) (by kernel_rfl) (e6 := 4) (by kernel_rfl) (by kernel_rfl) (by kernel_rfl) hz) hf

set_option maxRecDepth 100000 in
theorem opd_one {H : Type} {enc : TypeId × Value → H} {W : World} {b : Nat} {sp : Nat → Bool} {hd : Bool} {v : Value} {d : DataW H} {ps : List MemPlace} (hv : Value.okWide Try.prog W .any b 67 v) (h : DataW.Trod enc Try.prog W 0 sp hd 67 v d ps) :
    ∃ (kd : Int) (name to : ByteArray) (ba : Option Addr) (bc : Nat) (bs : List UInt8) (k : Int) (yes : Bool) (ka : Option Addr) (kc : Nat) (kl : List Bool), v = .agg #[.int .i64 kd, .string name, .string to, .slice ba bs.length bc, .int .i64 k, .bool yes, .slice ka kl.length kc] ∧
      k ≤ 9223372036854775807 ∧ name.size ≤ 9223372036854775807 ∧ to.size ≤ 9223372036854775807 ∧ inSl W (.slice ba bs.length bc) bs.length (byv bs) ∧ bs.length ≤ 9223372036854775807 ∧ inSl W (.slice ka kl.length kc) kl.length (kl.map .bool) ∧ kl.length ≤ kc := by
  obtain ⟨kd, name, to, ba, bl, bc, k, yes, ka, kn, kc, rfl⟩ := op_shape hv
  obtain ⟨fuel, hf⟩ := h
  obtain ⟨o, hcs, hok⟩ := OpD.opened (t0 := 3) (t1 := 9) (t2 := 9) (t3 := 32) (t4 := 3) (t5 := 4) (t6 := 65) (fs := fieldsOf Try.prog 67) (by kernel_rfl) (by kernel_rfl) (by kernel_rfl) (by kernel_rfl) (by kernel_rfl) (by kernel_rfl) (by kernel_rfl) (e3 := 5) (by kernel_rfl) (by kernel_rfl) (by kernel_rfl) (by kernel_rfl) (e6 := 4) (by kernel_rfl) (by kernel_rfl) (by kernel_rfl) hf
  obtain ⟨kd2, name2, to2, ob, bs, k2, yes2, ok, kl⟩ := o
  have hcs' : [Value.int .i64 kd, .string name, .string to, .slice ba bl bc, .int .i64 k, .bool yes, .slice ka kn kc] = [Value.int .i64 kd2, .string name2, .string to2, ob, .int .i64 k2, .bool yes2, ok] := hcs
  cases hcs'
  obtain ⟨_, hn, ht, hb, ⟨_, hk⟩, _, hl⟩ := hok
  simp only at hn ht hb hk hl
  obtain ⟨a1, c1, e1, _, hb2⟩ := inSl_shape hb
  obtain ⟨a2, c2, e2, hl1, _⟩ := inSl_shape hl
  cases e1
  cases e2
  exact ⟨kd, name, to, ba, bc, bs, k, yes, ka, kc, kl, rfl, hk, Nat.le_trans hn (by decide), Nat.le_trans ht (by decide), hb, Nat.le_trans hb2 (by decide), hl, hl1⟩

theorem faults_tri (W : World) (a0 : Option Addr) (cap0 b0 off0 : Nat) (ops : List OpD) (hops : ∀ (j : Nat) (o : OpD), ops[j]? = some o → a0 = some ⟨b0, off0, none⟩ ∧ o.Ok W ∧ ∀ (i : Nat) (u : Value), o.cells[i]? = some u → Ctx.cell ⟨W.heap.size, W⟩ ⟨b0, off0 + j * 7 + i, none⟩ u)
    (kd : Int) (name to : ByteArray) (ba : Option Addr) (bc : Nat) (bs : List UInt8) (k : Int) (yes : Bool) (ka : Option Addr) (kc : Nat) (kl : List Bool) (done : Bool)
    (h : k ≤ 9223372036854775807 ∧ name.size ≤ 9223372036854775807 ∧ to.size ≤ 9223372036854775807 ∧ inSl W (.slice ba bs.length bc) bs.length (byv bs) ∧ bs.length ≤ 9223372036854775807 ∧ inSl W (.slice ka kl.length kc) kl.length (kl.map .bool) ∧ kl.length ≤ kc) :
    Tri Try.prog ⟨W.heap.size, W⟩ 9 #[.slice a0 ops.length cap0, .agg #[.int .i64 kd, .string name, .string to, .slice ba bs.length bc, .int .i64 k, .bool yes, .slice ka kl.length kc], .bool done] [AnyP] (fun u M => u = .bool true ∧ M = [AnyP]) := by
  obtain ⟨h1, h2, h3, h4, h5, h6, h7⟩ := h
  have hrd : ∀ v n xs, inSl W v n xs → Rd ⟨W.heap.size, W⟩ AnyP 1 v n xs := fun v n xs h => inSl_rd h
  cases done
  · exact faults_false _ a0 cap0 b0 off0 ops kd name to ba bc bs k yes ka kc kl W hrd hops h1 h2 h3 (hrd _ _ _ h4) h5 (hrd _ _ _ h6) h7
  · exact faults_true _ a0 cap0 b0 off0 ops kd name to ba bc bs k yes ka kc kl W hrd hops h1 h2 h3 (hrd _ _ _ h4) h5 (hrd _ _ _ h6) h7

set_option maxRecDepth 100000 in
theorem faults_lifted (os : Os) (started : os.Started) (H : Type) (enc : TypeId × Value → H) :
    ReturnsInHanded {} Try.checked os 9 .any (Rows.simdiskFaultsSpec.pre6 enc Try.prog Try.f9 Rows.simdiskFaultsRow.domain false) (Rows.simdiskFaultsSpec.post enc Try.prog Try.f9 false true false false) := by
  refine returnsInHanded_of_change (C := Try.checked) own started (by kernel_rfl) Try.func9
    (ChangeSpec.witness6 (enc := enc) (C := Try.checked) false ⟨#[], #[.slice none 0 0, .agg #[.int .i64 0, .string .empty, .string .empty, .slice none 0 0, .int .i64 0, .bool false, .slice none 0 0], .bool false], []⟩ 8 (by kernel_rfl) (by kernel_rfl) (by kernel_rfl) (by kernel_rfl)) ?_
  intro W base args ds gs before hval0 hW _ _
  have hval : ∀ (j : Nat) t v, Try.f9.params[j]? = some t → args[j]? = some v → Value.okWide Try.prog W .any base t v := hval0
  have hW' := hW
  obtain ⟨p, q, hA0, hV, rfl, hfz, hnd⟩ := hW
  have hA : DataW.TrodAll enc Try.prog W 0 (fun _ => true) true Try.f9.params.toList args.toList ds p := hA0
  rw [Try.params9] at hA hval
  obtain ⟨v0, vs0, d0, ds0, p0, q0, hargs, rfl, rfl, h0, r0⟩ := trodAll_cons hA
  obtain ⟨v1, vs1, d1, ds1, p1, q1, hargs1, rfl, rfl, h1, r1⟩ := trodAll_cons r0
  obtain ⟨v2, vs2, d2, ds2, p2, q2, hargs2, rfl, rfl, h2, r2⟩ := trodAll_cons r1
  obtain ⟨rfl, rfl, rfl⟩ := trodAll_nil r2
  obtain rfl : args = #[v0, v1, v2] := by cases args; simp_all
  have c0 : v0.cells = #[v0] := by
    obtain ⟨a, n, c, rfl⟩ := okWide_slice (e := 67) (by kernel_rfl) (hval 0 61 v0 rfl rfl)
    rfl
  obtain ⟨dn, rfl⟩ := okWide_bool (by kernel_rfl) (hval 2 4 v2 rfl rfl)
  obtain ⟨ops, a, cap, b0, off, rfl, _, _, hops⟩ := opd_open c0 h0
  obtain ⟨kd, name, to, ba, bc, bs, k, yes, ka, kc, kl, rfl, ho⟩ := opd_one (hval 1 67 v1 rfl rfl) h1
  refine (calls_of_tri' (faults_tri W a cap b0 off ops hops kd name to ba bc bs k yes ka kc kl dn ho)).mono fun e W' ⟨he, hB⟩ => ⟨_, he, ?_⟩
  exact law_post (tb := 4) laidOut (by kernel_rfl) (by kernel_rfl) (by kernel_rfl) rfl (fun ds hl => by
    match ds, hl with
    | [d, d', d''], _ => rfl) hW' hB

theorem faults_holds : Rows.SimdiskFaultsSaid :=
  OpenClaim.holds_of_wide 9 Try.f9 rfl rfl rfl rfl rfl rfl rfl ⟨rfl, rfl, rfl, rfl, rfl⟩ rfl rfl rfl rfl rfl (by kernel_rfl) Try.func9 (by kernel_rfl)
    (of_decide_eq_true (by kernel_rfl)) (by unfold Func.isWrapper; first | (rw [if_pos (by decide +kernel)]; kernel_rfl) | (rw [if_neg (by decide +kernel)]; exact ⟨rfl, rfl⟩))
    (fun os started H enc _ => faults_lifted os started H enc)
#print axioms faults_holds
end Go.Proofs.Ytmefejfnddcelaa
