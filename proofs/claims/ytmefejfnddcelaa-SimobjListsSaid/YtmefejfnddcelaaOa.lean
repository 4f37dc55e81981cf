/- Printed by gen/simobj.py for this claim: what each of these functions of the program does, as its theorem says. No condition but what stands in each theorem. -/
import Derived.Test.YtmefejfnddcelaaProg
import Derived.Test.YtmefejfnddcelaaSLText
import Derived.Test.YtmefejfnddcelaaSLDraw
namespace Go.Proofs.Ytmefejfnddcelaa
def fineC (c : UInt8) : Bool := 33 ≤ c.toNat && c.toNat ≤ 126
def fineB (s : ByteArray) : Bool := s.data.toList.all fineC && decide (s.size ≤ 64)
def finePre (s : ByteArray) (k : Nat) : Prop := ∀ j, j < k → 33 ≤ byteAt s j ∧ byteAt s j ≤ 126
theorem finePre_succ {s : ByteArray} {k : Nat} (h : finePre s k) (h1 : 33 ≤ byteAt s k) (h2 : byteAt s k ≤ 126) : finePre s (k + 1) := by
  intro j hj
  by_cases e : j = k
  · subst e; exact ⟨h1, h2⟩
  · exact h j (by omega)
theorem fine_no {s : ByteArray} {k : Nat} (hk : k < s.size) (h : byteAt s k < 33 ∨ 126 < byteAt s k) : fineB s = false := by
  have : s.data.toList.all fineC = false := by
    rw [List.all_eq_false]
    have hl : k < s.data.toList.length := hk
    refine ⟨s.data.toList[k], List.getElem_mem hl, ?_⟩
    have hd : s.data[k]? = some (s.data[k]'hk) := by simp
    simp only [byteAt, List.getD_eq_getElem?_getD, Array.getElem?_toList, hd, Option.getD_some] at h
    simp [fineC]
    omega
  simp [fineB, this]
theorem fine_yes {s : ByteArray} {k : Nat} (h : finePre s k) (hk : s.size ≤ k) : fineB s = decide (s.size ≤ 64) := by
  have : s.data.toList.all fineC = true := by
    rw [List.all_eq_true]
    intro c hc
    obtain ⟨k, hk1, rfl⟩ := List.mem_iff_getElem.1 hc
    have hk' : k < s.size := hk1
    have h1 := h k (by omega)
    have hd : s.data[k]? = some (s.data[k]'hk') := by simp
    simp only [byteAt, List.getD_eq_getElem?_getD, Array.getElem?_toList, hd, Option.getD_some] at h1
    simp [fineC]
    omega
  simp [fineB, this]
theorem und_9 : Try.prog.underlying 9 = some (.string) := by kernel_rfl
theorem und_32 : Try.prog.underlying 32 = some (.slice 5) := by kernel_rfl
theorem und_5 : Try.prog.underlying 5 = some (.int .u8) := by kernel_rfl
theorem isSlice_32 : isSlice Try.prog 32 = true := by kernel_rfl
theorem isStr_9 : isStr Try.prog 9 = true := by kernel_rfl
theorem ty_5 : tyOk Try.prog 5 1 1 (.int .u8 0) := ty_mk (by kernel_rfl) rfl
theorem one_5 : oneOk Try.prog 5 = true := by kernel_rfl
set_option maxRecDepth 100000 in
set_option maxHeartbeats 8000000 in
theorem fine_tri (B : Ctx) (s : ByteArray) (hs : s.size ≤ 9223372036854775807) :
    Tri Try.prog B 60 #[.string s] [] (fun u M => u = .bool (fineB s) ∧ M = []) := by
  refine tri_body (n := 22) Try.func60 rfl rfl rfl ?_
  intro F
  show WC _ _ _ _ _ _ _ [(0, .string s)] [F]
  refine wc_seq ?_
  refine wc_region ?_
  refine wl_1 trivial rfl (do_assign rfl) ?_
  refine wl_nil ?_
  refine at_then ?_
  refine wc_seq ?_
  refine wc_seq ?_
  refine wc_region ?_
  refine wl_1 trivial rfl (do_move rfl) ?_
  refine wl_do trivial rfl (do_convSB und_9 und_32 und_5 rfl (by simp [maxLen]; omega)) ?_
  rintro _ _ ⟨b1, cap2, cs3, rfl, rfl, h4, h5⟩
  refine wl_1 trivial rfl (do_lenSlice rfl isSlice_32 rfl) ?_
  refine wl_1 trivial rfl (do_move rfl) ?_
  refine wl_nil ?_
  refine at_then ?_
  refine wc_block ?_
  refine wc_loop (fun (k : Nat) => k ≤ s.size ∧ finePre s k) (fun (k : Nat) => [(0, .string s), (6, .slice (some ⟨b1, 0, none⟩) ((s : ByteArray).size) cap2), (7, .int .i64 (((s : ByteArray).size : Nat) : Int)), (8, .int .i64 ((k : Nat) : Int))]) (fun (k : Nat) => [pt b1 (.cells cs3 5 (cs3.size, cs3.size + 1)), F]) (fun (k : Nat) => s.size - k) 0 ⟨by omega, fun j hj => by omega⟩ ⟨rfl, rfl, rfl, rfl, trivial⟩ rfl ?_
  rintro k hphi
  obtain ⟨hk, hpre⟩ := hphi
  show WC _ _ _ _ _ _ _ [(0, .string s), (6, .slice (some ⟨b1, 0, none⟩) ((s : ByteArray).size) cap2), (7, .int .i64 (((s : ByteArray).size : Nat) : Int)), (8, .int .i64 ((k : Nat) : Int))] [pt b1 (.cells cs3 5 (cs3.size, cs3.size + 1)), F]
  have hlo := byteAt_lo s k
  have hhi := byteAt_hi s k
  refine wc_seq ?_
  refine wc_region ?_
  obtain ⟨c6, h_c6⟩ : ∃ c : Bool, cmpB .lss ((k : Nat) : Int) (((s : ByteArray).size : Nat) : Int) = some c := ⟨_, rfl⟩
  refine wl_1 trivial rfl (do_cmp rfl rfl h_c6) ?_
  refine wl_nil ?_
  refine at_then ?_
  refine wc_seq ?_
  cases c6
  · have p_c6 := cmp_lss_f h_c6
    refine wc_false rfl ?_
    refine wc_exit ?_
    refine at_then_exit ?_
    refine at_then_exit ?_
    refine at_block_it ?_
    refine at_then ?_
    refine wc_seq ?_
    refine wc_region ?_
    refine wl_1 trivial rfl (do_move rfl) ?_
    refine wl_1 trivial rfl (do_lenStr rfl isStr_9 rfl) ?_
    obtain ⟨c7, h_c7⟩ : ∃ c : Bool, cmpB .leq (((s : ByteArray).size : Nat) : Int) 64 = some c := ⟨_, rfl⟩
    refine wl_1 trivial rfl (do_cmp rfl rfl h_c7) ?_
    refine wl_1 trivial rfl (do_assign rfl) ?_
    refine wl_nil ?_
    refine at_then ?_
    refine wc_ret ?_
    cases c7
    · have p_c7 := cmp_leq_f h_c7
      refine at_pick (M := [_]) [1] ⟨rfl, trivial⟩ (by decide) ?_
      exact at_ret1 (M := []) rfl rfl ⟨by rw [fine_yes hpre (by omega)]; simp; omega, rfl⟩ rfl
    · have p_c7 := cmp_leq_t h_c7
      refine at_pick (M := [_]) [1] ⟨rfl, trivial⟩ (by decide) ?_
      exact at_ret1 (M := []) rfl rfl ⟨by rw [fine_yes hpre (by omega)]; simp; omega, rfl⟩ rfl
  · have p_c6 := cmp_lss_t h_c6
    refine wc_true rfl ?_
    refine wc_skip ?_
    refine at_then ?_
    refine wc_seq ?_
    refine wc_block ?_
    refine wc_seq ?_
    refine wc_region ?_
    refine wl_1 trivial rfl (do_indexAddr (j := k) (p := k) und_32 ty_5 rfl rfl rfl (by omega) (by omega)) ?_
    refine wl_1 trivial rfl (do_load 0 rfl one_5 rfl (cell_byv h5 (by omega))) ?_
    refine wl_1 trivial rfl (do_assign rfl) ?_
    refine wl_nil ?_
    refine at_then ?_
    refine wc_seq ?_
    refine wc_region ?_
    refine wl_1 trivial rfl (do_move rfl) ?_
    obtain ⟨c8, h_c8⟩ : ∃ c : Bool, cmpB .lss (byteAt s k) 33 = some c := ⟨_, rfl⟩
    refine wl_1 trivial rfl (do_cmp rfl rfl h_c8) ?_
    refine wl_1 trivial rfl (do_move rfl) ?_
    cases c8
    · have p_c8 := cmp_lss_f h_c8
      refine wl_1 ⟨_, rfl, rfl⟩ rfl (do_move rfl) ?_
      obtain ⟨c9, h_c9⟩ : ∃ c : Bool, cmpB .gtr (byteAt s k) 126 = some c := ⟨_, rfl⟩
      refine wl_1 ⟨_, rfl, rfl⟩ rfl (do_cmp rfl rfl h_c9) ?_
      refine wl_1 trivial rfl (do_pickF rfl rfl) ?_
      refine wl_nil ?_
      refine at_then ?_
      cases c9
      · have p_c9 := cmp_gtr_f h_c9
        refine wc_false rfl ?_
        refine wc_skip ?_
        refine at_block ?_
        refine at_then ?_
        refine wc_region ?_
        refine wl_1 trivial rfl (do_add (r := ((k + 1 : Nat) : Int)) rfl rfl (wrap_nat (by omega) (by omega))) ?_
        refine wl_1 trivial rfl (do_move rfl) ?_
        refine wl_nil ?_
        exact at_round (k + 1) ⟨by omega, finePre_succ hpre (by omega) (by omega)⟩ (by omega) ⟨rfl, rfl, rfl, rfl, trivial⟩ rfl
      · have p_c9 := cmp_gtr_t h_c9
        refine wc_true rfl ?_
        refine wc_seq ?_
        refine wc_region ?_
        refine wl_1 trivial rfl (do_assign rfl) ?_
        refine wl_nil ?_
        refine at_then ?_
        refine wc_ret ?_
        refine at_block_ret ?_
        refine at_then_ret ?_
        refine at_then_ret ?_
        refine at_block_ret ?_
        refine at_then_ret ?_
        refine at_pick (M := [_]) [1] ⟨rfl, trivial⟩ (by decide) ?_
        exact at_ret1 (M := []) rfl rfl ⟨by rw [fine_no (k := k) (by omega) (by omega)], rfl⟩ rfl
    · have p_c8 := cmp_lss_t h_c8
      refine wl_no rfl rfl rfl rfl rfl ?_
      refine wl_no rfl rfl rfl rfl rfl ?_
      refine wl_1 trivial rfl (do_pickT rfl rfl) ?_
      refine wl_nil ?_
      refine at_then ?_
      refine wc_true rfl ?_
      refine wc_seq ?_
      refine wc_region ?_
      refine wl_1 trivial rfl (do_assign rfl) ?_
      refine wl_nil ?_
      refine at_then ?_
      refine wc_ret ?_
      refine at_block_ret ?_
      refine at_then_ret ?_
      refine at_then_ret ?_
      refine at_block_ret ?_
      refine at_then_ret ?_
      refine at_pick (M := [_]) [1] ⟨rfl, trivial⟩ (by decide) ?_
      exact at_ret1 (M := []) rfl rfl ⟨by rw [fine_no (k := k) (by omega) (by omega)], rfl⟩ rfl
end Go.Proofs.Ytmefejfnddcelaa
