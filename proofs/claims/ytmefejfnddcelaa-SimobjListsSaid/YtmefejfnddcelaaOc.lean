/- Printed by gen/simobj.py for this claim: what each of these functions of the program does, as its theorem says. No condition but what stands in each theorem. -/
import Derived.Test.YtmefejfnddcelaaOb
namespace Go.Proofs.Ytmefejfnddcelaa
theorem key_9 : KeyOk Try.prog 9 encS := keyS (by kernel_rfl)
theorem und_49 : Try.prog.underlying 49 = some (.map 9 32) := by kernel_rfl
theorem zero_52 : zeroOk Try.prog 52 (.agg #[.map none, .slice none 0 0, .int .i64 0, .int .i64 0, .int .i64 0, .int .i64 0, .int .i64 0, .bool false]) := zero_mk (by kernel_rfl)
theorem build_52 : ∀ {parts : List (Nat × Value)} {cells : Array Value}, Instr.fill ((#[(0, 1), (1, 1), (2, 1), (3, 1), (4, 1), (5, 1), (6, 1), (7, 1)] : Array (Nat × Nat))[·]?) (.agg #[.map none, .slice none 0 0, .int .i64 0, .int .i64 0, .int .i64 0, .int .i64 0, .int .i64 0, .bool false] : Value).cells parts = some cells → buildOk Try.prog 52 parts cells := fun h => ⟨_, fieldsOf Try.prog 52, _, zero_52, by kernel_rfl, fun w => by kernel_rfl, h⟩
set_option maxRecDepth 100000 in
set_option maxHeartbeats 8000000 in
theorem fail_made (B : Ctx) (b r : Nat) (v : Value) (lv : List (ByteArray × Value)) (s : SS) (k : Int) (d : Bool) :
    Tri Try.prog B 17 #[.pointer (some ⟨b, 0, none⟩), .int .i64 k, .bool d] [pt b (.cells #[.map (some r), v, .int .i64 s.most, .int .i64 s.lag, .int .i64 s.now, .int .i64 s.calls, .int .i64 s.count, .bool s.done] 52 (0, 0))] (fun u M => u = .tuple #[] ∧ M = [pt b (.cells #[.map (some r), v, .int .i64 s.most, .int .i64 s.lag, .int .i64 s.now, .int .i64 s.calls, .int .i64 (max k 0), .bool d] 52 (0, 0))]) := by
  refine tri_body (n := 18) Try.func17 rfl rfl rfl ?_
  intro F
  show WC _ _ _ _ _ _ _ [(0, .pointer (some ⟨b, 0, none⟩)), (1, .int .i64 k), (2, .bool d)] [pt b (.cells #[.map (some r), v, .int .i64 s.most, .int .i64 s.lag, .int .i64 s.now, .int .i64 s.calls, .int .i64 s.count, .bool s.done] 52 (0, 0)), F]
  refine wc_seq ?_
  refine wc_region ?_
  refine wl_1 trivial rfl (do_move rfl) ?_
  refine wl_do trivial rfl (do_call (none_made B b r v s.most s.lag s.now s.calls s.count s.done) ⟨rfl, trivial⟩ enters_59 [0] [1] ⟨rfl, trivial⟩ ⟨rfl, trivial⟩ (R := [_]) (by decide)) ?_
  rintro _ _ ⟨_, ⟨rfl, rfl⟩, rfl⟩
  refine wl_1 trivial rfl (do_not (c := false) rfl) ?_
  refine wl_nil ?_
  refine at_then ?_
  refine wc_true rfl ?_
  refine wc_region ?_
  refine wl_1 trivial rfl (do_move rfl) ?_
  refine wl_1 trivial rfl (do_move rfl) ?_
  refine wl_1 trivial rfl (do_move rfl) ?_
  refine wl_1 trivial rfl (do_max rfl rfl) ?_
  refine wl_1 trivial rfl (do_move rfl) ?_
  refine wl_1 trivial rfl (do_nilCheck rfl) ?_
  refine wl_1 trivial rfl (do_fieldAddr (k := 6) (k' := 6) fo_52_6 rfl (by rfl)) ?_
  refine wl_1 trivial rfl (do_store (L1 := []) rfl rfl one_3 rfl rfl (cs' := #[.map (some r), v, .int .i64 s.most, .int .i64 s.lag, .int .i64 s.now, .int .i64 s.calls, .int .i64 (max k 0), .bool s.done]) rfl) ?_
  refine wl_1 trivial rfl (do_nilCheck rfl) ?_
  refine wl_1 trivial rfl (do_fieldAddr (k := 7) (k' := 7) fo_52_7 rfl (by rfl)) ?_
  refine wl_1 trivial rfl (do_store (L1 := []) rfl rfl one_4 rfl rfl (cs' := #[.map (some r), v, .int .i64 s.most, .int .i64 s.lag, .int .i64 s.now, .int .i64 s.calls, .int .i64 (max k 0), .bool d]) rfl) ?_
  refine wl_nil ?_
  exact at_end0 (M := [_]) rfl ⟨rfl, rfl⟩ rfl

set_option maxRecDepth 100000 in
set_option maxHeartbeats 8000000 in
theorem new_tri (B : Ctx) (k : Int) :
    Tri Try.prog B 12 #[.int .i64 k] [] (fun u M => (k < 0 ∨ 100 < k) ∧ u = .tuple #[.pointer none, .int .i64 1] ∧ M = [] ∨ 0 ≤ k ∧ k ≤ 100 ∧ ∃ b r, u = .tuple #[.pointer (some ⟨b, 0, none⟩), .int .i64 0] ∧ M = SL B b r (.slice none 0 0) [] ⟨[], [], k, 0, 0, 0, 0, false⟩) := by
  refine tri_body (n := 14) Try.func12 rfl rfl rfl ?_
  intro F
  show WC _ _ _ _ _ _ _ [(0, .int .i64 k)] [F]
  refine wc_seq ?_
  refine wc_region ?_
  refine wl_1 trivial rfl (do_assign rfl) ?_
  refine wl_1 trivial rfl (do_assign rfl) ?_
  refine wl_nil ?_
  refine at_then ?_
  refine wc_seq ?_
  refine wc_seq ?_
  refine wc_region ?_
  refine wl_1 trivial rfl (do_move rfl) ?_
  obtain ⟨c1, h_c1⟩ : ∃ c : Bool, cmpB .lss k 0 = some c := ⟨_, rfl⟩
  refine wl_1 trivial rfl (do_cmp rfl rfl h_c1) ?_
  refine wl_1 trivial rfl (do_move rfl) ?_
  cases c1
  · have p_c1 := cmp_lss_f h_c1
    refine wl_1 ⟨_, rfl, rfl⟩ rfl (do_move rfl) ?_
    obtain ⟨c2, h_c2⟩ : ∃ c : Bool, cmpB .gtr k 100 = some c := ⟨_, rfl⟩
    refine wl_1 ⟨_, rfl, rfl⟩ rfl (do_cmp rfl rfl h_c2) ?_
    refine wl_1 trivial rfl (do_pickF rfl rfl) ?_
    refine wl_nil ?_
    refine at_then ?_
    cases c2
    · have p_c2 := cmp_gtr_f h_c2
      refine wc_false rfl ?_
      refine wc_skip ?_
      refine at_then ?_
      refine wc_seq ?_
      refine wc_region ?_
      refine wl_do trivial rfl do_makeMap ?_
      rintro _ _ ⟨b3, rfl, rfl⟩
      refine wl_mem (L' := [mapA encS b3 ([] : List (ByteArray × Value)), F]) (fun w h => Sat.imp (L1 := []) h (fun _ => mapA_empty _)) ?_
      refine wl_1 trivial rfl (do_move rfl) ?_
      refine wl_1 trivial rfl (do_build (ps := [(0, .map (some b3)), (2, .int .i64 k)]) ⟨rfl, rfl, rfl, rfl, trivial⟩ (build_52 rfl)) ?_
      refine wl_do trivial rfl (do_box rfl rfl) ?_
      rintro _ _ ⟨b4, rfl, rfl⟩
      refine wl_1 trivial rfl (do_assign rfl) ?_
      refine wl_1 trivial rfl (do_assign rfl) ?_
      refine wl_nil ?_
      refine at_then ?_
      refine wc_ret ?_
      refine at_mem (L' := [valsA B [] [], pt b4 (.cells #[.map (some b3), .slice none 0 0, .int .i64 k, .int .i64 0, .int .i64 0, .int .i64 0, .int .i64 0, .bool false] 52 (0, 0)), mapA encS b3 ([] : List (ByteArray × Value)), F]) (fun w_ h_ => h_.intro trivial) ?_
      refine at_mem (L' := [row 113 3 (.slice none 0 0) 0 ([]), valsA B [] [], pt b4 (.cells #[.map (some b3), .slice none 0 0, .int .i64 k, .int .i64 0, .int .i64 0, .int .i64 0, .int .i64 0, .bool false] 52 (0, 0)), mapA encS b3 ([] : List (ByteArray × Value)), F]) (fun w_ h_ => h_.intro row_nil) ?_
      refine at_pick (M := [_, _, _, _, _]) [2, 3, 0, 1, 4] ⟨rfl, rfl, rfl, rfl, rfl, trivial⟩ (by decide) ?_
      exact at_ret2 (M := [_, _, _, _]) rfl rfl rfl (.inr ⟨by omega, by omega, b4, b3, rfl, rfl⟩) rfl
    · have p_c2 := cmp_gtr_t h_c2
      refine wc_true rfl ?_
      refine wc_seq ?_
      refine wc_region ?_
      refine wl_1 trivial rfl (do_assign rfl) ?_
      refine wl_1 trivial rfl (do_assign rfl) ?_
      refine wl_nil ?_
      refine at_then ?_
      refine wc_ret ?_
      refine at_then_ret ?_
      exact at_ret2 (M := []) rfl rfl rfl (.inl ⟨by omega, rfl, rfl⟩) rfl
  · have p_c1 := cmp_lss_t h_c1
    refine wl_no rfl rfl rfl rfl rfl ?_
    refine wl_no rfl rfl rfl rfl rfl ?_
    refine wl_1 trivial rfl (do_pickT rfl rfl) ?_
    refine wl_nil ?_
    refine at_then ?_
    refine wc_true rfl ?_
    refine wc_seq ?_
    refine wc_region ?_
    refine wl_1 trivial rfl (do_assign rfl) ?_
    refine wl_1 trivial rfl (do_assign rfl) ?_
    refine wl_nil ?_
    refine at_then ?_
    refine wc_ret ?_
    refine at_then_ret ?_
    exact at_ret2 (M := []) rfl rfl rfl (.inl ⟨by omega, rfl, rfl⟩) rfl

set_option maxRecDepth 100000 in
set_option maxHeartbeats 8000000 in
theorem clone_nil (B : Ctx) (R : Assn) (cap : Nat) :
    Tri Try.prog B 68 #[.slice none 0 cap] [R] (fun u M => u = .slice none 0 0 ∧ M = [R]) := by
  refine tri_body (n := 8) Try.func68 rfl rfl rfl ?_
  intro F
  show WC _ _ _ _ _ _ _ [(0, .slice none 0 cap)] [R, F]
  refine wc_seq ?_
  refine wc_region ?_
  refine wl_1 trivial rfl (do_assign rfl) ?_
  refine wl_nil ?_
  refine at_then ?_
  refine wc_seq ?_
  refine wc_seq ?_
  refine wc_region ?_
  refine wl_1 trivial rfl (do_move rfl) ?_
  refine wl_1 trivial rfl (do_eqSlice isSlice_32 rfl rfl) ?_
  refine wl_nil ?_
  refine at_then ?_
  refine wc_true rfl ?_
  refine wc_seq ?_
  refine wc_region ?_
  refine wl_1 trivial rfl (do_assign rfl) ?_
  refine wl_nil ?_
  refine at_then ?_
  refine wc_ret ?_
  refine at_then_ret ?_
  exact at_ret1 (M := [_]) rfl rfl ⟨rfl, rfl⟩ rfl

set_option maxRecDepth 100000 in
set_option maxHeartbeats 8000000 in
theorem clone_some (B : Ctx) (R : Assn) (ad : Addr) (cap : Nat) (bs : List UInt8) (hR : Rd B R 1 (.slice (some ad) bs.length cap) bs.length (byv bs)) (hl : bs.length ≤ 140737488351232) :
    Tri Try.prog B 68 #[.slice (some ad) bs.length cap] [R] (fun u M => ∃ x, x = u ∧ M = [R, row 5 1 x bs.length (byv bs)]) := by
  refine tri_body (n := 8) Try.func68 rfl rfl rfl ?_
  intro F
  show WC _ _ _ _ _ _ _ [(0, .slice (some ad) bs.length cap)] [R, F]
  refine wc_seq ?_
  refine wc_region ?_
  refine wl_1 trivial rfl (do_assign rfl) ?_
  refine wl_nil ?_
  refine at_then ?_
  refine wc_seq ?_
  refine wc_seq ?_
  refine wc_region ?_
  refine wl_1 trivial rfl (do_move rfl) ?_
  refine wl_1 trivial rfl (do_eqSlice isSlice_32 rfl rfl) ?_
  refine wl_nil ?_
  refine at_then ?_
  refine wc_false rfl ?_
  refine wc_skip ?_
  refine at_then ?_
  refine wc_seq ?_
  refine wc_region ?_
  refine wl_do trivial rfl (do_buildSlice0 und_32 ty_5) ?_
  rintro _ _ ⟨b1, rfl, rfl⟩
  refine wl_1 trivial rfl (do_move rfl) ?_
  refine wl_do trivial rfl (do_append (L1 := []) (news := (byv bs)) und_32 ty_5 (by decide) rfl rfl (by rw [byv_len, Nat.mul_one]) (reads_rd 1 rfl hR) (byv_one bs) (by simp [maxLen]; omega) (by omega)) ?_
  rintro v2 _ ⟨hv2, ov2, rfl⟩
  refine wl_1 trivial rfl (do_assign rfl) ?_
  refine wl_nil ?_
  refine at_then ?_
  refine wc_ret ?_
  refine at_pick (M := [_, _, _]) [1, 0, 2] ⟨rfl, rfl, rfl, trivial⟩ (by decide) ?_
  exact at_ret1 (M := [_, _]) rfl rfl ⟨_, rfl, by simp only [Nat.zero_add, List.nil_append]⟩ rfl

theorem clone_tri (B : Ctx) (R : Assn) (v : Value) (bs : List UInt8) (hR : Rd B R 1 v bs.length (byv bs)) (hl : bs.length ≤ 140737488351232) :
    Tri Try.prog B 68 #[v] [R] (fun u M => ∃ x, x = u ∧ M = [R, row 5 1 x bs.length (byv bs)]) := by
  refine tri_pure (φ := ∃ a cap, v = .slice a bs.length cap ∧ (a = none → byv bs = [])) 0 rfl (fun h hb hr => rd_shape (hR h hb hr)) ?_
  rintro ⟨a, cap, rfl, ha⟩
  cases a with
  | none =>
    have h0 : bs = [] := List.eq_nil_of_length_eq_zero (by rw [← byv_len, ha rfl]; rfl)
    subst h0
    exact fun F w hS => Calls.mono (clone_nil B R cap F w hS) fun e w' ⟨v, M, he, ⟨hu, hM⟩, hS'⟩ => ⟨v, [R, row 5 1 v 0 []], he, ⟨_, rfl, rfl⟩, by
      subst hM hu; exact sat_add (row 5 1 (.slice none 0 0) 0 []) hS' row_nil [1, 0, 2] ⟨rfl, rfl, rfl, trivial⟩ (by decide)⟩
  | some ad => exact clone_some B R ad cap bs hR hl
end Go.Proofs.Ytmefejfnddcelaa
