/- Printed by a program of this claim's: what each of these functions of the program does, as its theorem says. No condition but what stands in each theorem. -/
import Derived.Test.YtmefejfnddcelaaProg
import Derived.Test.YtmefejfnddcelaaSLText
import Derived.Test.YtmefejfnddcelaaSLDraw
namespace Go.Proofs.Ytmefejfnddcelaa
theorem isSlice_32 : isSlice Try.prog 32 = true := by kernel_rfl
theorem und_32 : Try.prog.underlying 32 = some (.slice 5) := by kernel_rfl
theorem ty_5 : tyOk Try.prog 5 1 1 (.int .u8 0) := ty_mk (by kernel_rfl) rfl
set_option maxRecDepth 100000 in
set_option maxHeartbeats 8000000 in
theorem clone_nil (B : Ctx) (R : Assn) (cap : Nat) :
    Tri Try.prog B 68 #[.slice none 0 cap] [R] (fun u M => u = .slice none 0 0 ∧ M = [R]) := by
  refine tri_body (n := 8) Try.func68 rfl rfl rfl ?_
  intro F
  show WC _ _ _ _ _ _ _ [(0, .slice none 0 cap)] [R, F]
  refine wc_seq ?_
  refine wc_region ?_
  refine wl_1 trivial rfl (do_assign rfl) ?_
  refine wl_nil ?_
  refine at_then ?_
  refine wc_seq ?_
  refine wc_seq ?_
  refine wc_region ?_
  refine wl_1 trivial rfl (do_move rfl) ?_
  refine wl_1 trivial rfl (do_eqSlice isSlice_32 rfl rfl) ?_
  refine wl_nil ?_
  refine at_then ?_
  refine wc_true rfl ?_
  refine wc_seq ?_
  refine wc_region ?_
  refine wl_1 trivial rfl (do_assign rfl) ?_
  refine wl_nil ?_
  refine at_then ?_
  refine wc_ret ?_
  refine at_then_ret ?_
  exact at_ret1 (M := [_]) rfl rfl ⟨rfl, rfl⟩ rfl

set_option maxRecDepth 100000 in
set_option maxHeartbeats 8000000 in
theorem clone_some (B : Ctx) (R : Assn) (ad : Addr) (cap : Nat) (bs : List UInt8) (hR : Rd B R 1 (.slice (some ad) bs.length cap) bs.length (byv bs)) (hl : bs.length ≤ 140737488351232) :
    Tri Try.prog B 68 #[.slice (some ad) bs.length cap] [R] (fun u M => ∃ x, x = u ∧ M = [R, row 5 1 x bs.length (byv bs)]) := by
  refine tri_body (n := 8) Try.func68 rfl rfl rfl ?_
  intro F
  show WC _ _ _ _ _ _ _ [(0, .slice (some ad) bs.length cap)] [R, F]
  refine wc_seq ?_
  refine wc_region ?_
  refine wl_1 trivial rfl (do_assign rfl) ?_
  refine wl_nil ?_
  refine at_then ?_
  refine wc_seq ?_
  refine wc_seq ?_
  refine wc_region ?_
  refine wl_1 trivial rfl (do_move rfl) ?_
  refine wl_1 trivial rfl (do_eqSlice isSlice_32 rfl rfl) ?_
  refine wl_nil ?_
  refine at_then ?_
  refine wc_false rfl ?_
  refine wc_skip ?_
  refine at_then ?_
  refine wc_seq ?_
  refine wc_region ?_
  refine wl_do trivial rfl (do_buildSlice0 und_32 ty_5) ?_
  rintro _ _ ⟨b1, rfl, rfl⟩
  refine wl_1 trivial rfl (do_move rfl) ?_
  refine wl_do trivial rfl (do_append (L1 := []) (news := (byv bs)) und_32 ty_5 (by decide) rfl rfl (by rw [byv_len, Nat.mul_one]) (reads_rd 1 rfl hR) (byv_one bs) (by simp [maxLen]; omega) (by omega)) ?_
  rintro v2 _ ⟨hv2, ov2, rfl⟩
  refine wl_1 trivial rfl (do_assign rfl) ?_
  refine wl_nil ?_
  refine at_then ?_
  refine wc_ret ?_
  refine at_pick (M := [_, _, _]) [1, 0, 2] ⟨rfl, rfl, rfl, trivial⟩ (by decide) ?_
  exact at_ret1 (M := [_, _]) rfl rfl ⟨_, rfl, by simp only [Nat.zero_add, List.nil_append]⟩ rfl

theorem clone_tri (B : Ctx) (R : Assn) (v : Value) (bs : List UInt8) (hR : Rd B R 1 v bs.length (byv bs)) (hl : bs.length ≤ 140737488351232) :
    Tri Try.prog B 68 #[v] [R] (fun u M => ∃ x, x = u ∧ M = [R, row 5 1 x bs.length (byv bs)]) := by
  refine tri_pure (φ := ∃ a cap, v = .slice a bs.length cap ∧ (a = none → byv bs = [])) 0 rfl (fun h hb hr => rd_shape (hR h hb hr)) ?_
  rintro ⟨a, cap, rfl, ha⟩
  cases a with
  | none =>
    have h0 : bs = [] := List.eq_nil_of_length_eq_zero (by rw [← byv_len, ha rfl]; rfl)
    subst h0
    exact fun F w hS => Calls.mono (clone_nil B R cap F w hS) fun e w' ⟨v, M, he, ⟨hu, hM⟩, hS'⟩ => ⟨v, [R, row 5 1 v 0 []], he, ⟨_, rfl, rfl⟩, by
      subst hM hu; exact sat_add (row 5 1 (.slice none 0 0) 0 []) hS' row_nil [1, 0, 2] ⟨rfl, rfl, rfl, trivial⟩ (by decide)⟩
  | some ad => exact clone_some B R ad cap bs hR hl
end Go.Proofs.Ytmefejfnddcelaa
