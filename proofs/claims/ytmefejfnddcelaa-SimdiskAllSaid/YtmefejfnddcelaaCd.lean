/- Printed by a program of this claim's: what each of these functions of the program does, as its theorem says. No condition but what stands in each theorem. -/
import Derived.Test.YtmefejfnddcelaaCc
import Derived.Test.YtmefejfnddcelaaSLMid
namespace Go.Proofs.Ytmefejfnddcelaa
theorem isSlice_39 : isSlice Try.prog 39 = true := by kernel_rfl
theorem one_9 : oneOk Try.prog 9 = true := by kernel_rfl
theorem mixed : Try.prog.follows .mixedOrders = true := by kernel_rfl
set_option maxRecDepth 100000 in
set_option maxHeartbeats 8000000 in
theorem texts_tri (B : Ctx) (x y : Value) (X Y : List ByteArray) (hX : X.length ≤ 1099511627776) (hY : Y.length ≤ 1099511627776) :
    Tri Try.prog B 28 #[x, y] [row 9 1 x X.length (X.map .string), row 9 1 y Y.length (Y.map .string)] (fun u M => u = .bool (decide (X = Y)) ∧ M = [row 9 1 x X.length (X.map .string), row 9 1 y Y.length (Y.map .string)]) := by
  refine tri_body (n := 26) Try.func28 rfl rfl rfl ?_
  intro F
  show WC _ _ _ _ _ _ _ [(0, x), (1, y)] [row 9 1 x X.length (X.map .string), row 9 1 y Y.length (Y.map .string), F]
  refine wc_seq ?_
  refine wc_region ?_
  refine wl_1 trivial rfl (do_assign rfl) ?_
  refine wl_nil ?_
  refine at_then ?_
  refine wc_seq ?_
  refine wc_seq ?_
  refine wc_region ?_
  refine wl_1 trivial rfl (do_move rfl) ?_
  refine wl_1 trivial rfl (do_lenRow 0 rfl isSlice_39 rfl rfl) ?_
  refine wl_1 trivial rfl (do_move rfl) ?_
  refine wl_1 trivial rfl (do_lenRow 1 rfl isSlice_39 rfl rfl) ?_
  obtain ⟨c1, h_c1⟩ : ∃ c : Bool, cmpB .neq ((X.length : Nat) : Int) ((Y.length : Nat) : Int) = some c := ⟨_, rfl⟩
  refine wl_1 trivial rfl (do_cmp rfl rfl h_c1) ?_
  refine wl_nil ?_
  refine at_then ?_
  cases c1
  · have p_c1 := cmp_neq_f h_c1
    refine wc_false rfl ?_
    refine wc_skip ?_
    refine at_then ?_
    refine wc_seq ?_
    refine wc_seq ?_
    refine wc_region ?_
    refine wl_1 trivial rfl (do_assign rfl) ?_
    refine wl_nil ?_
    refine at_then ?_
    refine wc_block ?_
    refine wc_loop (fun (k : Nat) => k ≤ X.length ∧ X.take k = Y.take k) (fun (k : Nat) => [(0, x), (1, y), (5, .int .i64 ((k : Nat) : Int))]) (fun (k : Nat) => [row 9 1 x X.length (X.map .string), row 9 1 y Y.length (Y.map .string), F]) (fun (k : Nat) => X.length - k) 0 ⟨Nat.zero_le _, rfl⟩ ⟨rfl, rfl, rfl, trivial⟩ rfl ?_
    rintro k hphi
    obtain ⟨hk, htk⟩ := hphi
    show WC _ _ _ _ _ _ _ [(0, x), (1, y), (5, .int .i64 ((k : Nat) : Int))] [row 9 1 x X.length (X.map .string), row 9 1 y Y.length (Y.map .string), F]
    refine wc_seq ?_
    refine wc_seq ?_
    refine wc_region ?_
    refine wl_1 trivial rfl (do_move rfl) ?_
    refine wl_1 trivial rfl (do_move rfl) ?_
    refine wl_1 trivial rfl (do_lenRow 0 rfl isSlice_39 rfl rfl) ?_
    obtain ⟨c2, h_c2⟩ : ∃ c : Bool, cmpB .lss ((k : Nat) : Int) ((X.length : Nat) : Int) = some c := ⟨_, rfl⟩
    refine wl_1 trivial rfl (do_cmp rfl rfl h_c2) ?_
    refine wl_nil ?_
    refine at_then ?_
    cases c2
    · have p_c2 := cmp_lss_f h_c2
      refine wc_false rfl ?_
      refine wc_exit ?_
      refine at_then_exit ?_
      refine at_then_exit ?_
      refine at_block_it ?_
      refine at_then ?_
      refine wc_seq ?_
      refine wc_region ?_
      refine wl_1 trivial rfl (do_assign rfl) ?_
      refine wl_nil ?_
      refine at_then ?_
      refine wc_ret ?_
      exact at_ret1 (M := [_, _]) rfl rfl ⟨by rw [decide_eq_true (show X = Y by rw [← List.take_of_length_le (show X.length ≤ k by omega), htk, List.take_of_length_le (by omega)])], rfl⟩ rfl
    · have p_c2 := cmp_lss_t h_c2
      refine wc_true rfl ?_
      refine wc_skip ?_
      refine at_then ?_
      refine wc_seq ?_
      refine wc_block ?_
      refine wc_seq ?_
      refine wc_fact 0 rfl (row_some (by omega)) ?_
      rintro ⟨g3, cap4, rfl⟩
      obtain ⟨y5, hy6⟩ : ∃ y, X[k]? = some y := ⟨_, List.getElem?_eq_getElem (by omega)⟩
      refine wc_fact 1 rfl (row_some (by omega)) ?_
      rintro ⟨g7, cap8, rfl⟩
      obtain ⟨y9, hy10⟩ : ∃ y, Y[k]? = some y := ⟨_, List.getElem?_eq_getElem (by omega)⟩
      obtain ⟨c11, h_c11⟩ : ∃ c : Bool, strB .neq (y5 : ByteArray).toList (y9 : ByteArray).toList = some c := ⟨_, rfl⟩
      refine wc_draw [[], [], [0, 1], [0, 1, 2], [], [], [4, 5], [4, 5, 6], [0, 1, 2, 3, 4, 5, 6, 7]] [some (.slice (some ⟨g3, 0, none⟩) X.length cap4), some (.int .i64 ((k : Nat) : Int)), some (.pointer (some ⟨g3, k, none⟩)), some (.string y5), some (.slice (some ⟨g7, 0, none⟩) Y.length cap8), some (.int .i64 ((k : Nat) : Int)), some (.pointer (some ⟨g7, k, none⟩)), some (.string y9), some (.bool c11)] [] mixed (by kernel_rfl) (by decide) ⟨rfl, ⟨.inr ⟨_, [.old 0], rfl, rfl, .inl ⟨trivial, do_move rfl⟩⟩, .inr ⟨_, [.old 5], rfl, rfl, .inl ⟨trivial, do_move rfl⟩⟩, .inr ⟨_, [.op 0, .op 1], rfl, rfl, .inl ⟨trivial, do_indexAddr (j := k) (p := k) und_39 ty_9 rfl rfl rfl (by omega) (by omega)⟩⟩, .inr ⟨_, [.op 2], rfl, rfl, .inl ⟨trivial, do_loadR (j := k) 0 rfl one_9 rfl row_R (by omega) (str_at hy6)⟩⟩, .inr ⟨_, [.old 1], rfl, rfl, .inl ⟨trivial, do_move rfl⟩⟩, .inr ⟨_, [.old 5], rfl, rfl, .inl ⟨trivial, do_move rfl⟩⟩, .inr ⟨_, [.op 4, .op 5], rfl, rfl, .inl ⟨trivial, do_indexAddr (j := k) (p := k) und_39 ty_9 rfl rfl rfl (by omega) (by omega)⟩⟩, .inr ⟨_, [.op 6], rfl, rfl, .inl ⟨trivial, do_loadR (j := k) 1 rfl one_9 rfl row_R (by omega) (str_at hy10)⟩⟩, .inr ⟨_, [.op 3, .op 7], rfl, rfl, .inl ⟨trivial, do_strcmp rfl rfl h_c11⟩⟩, trivial⟩, [.op 8, .old 0, .old 1, .old 5], [(25, .bool c11), (0, .slice (some ⟨g3, 0, none⟩) X.length cap4), (1, .slice (some ⟨g7, 0, none⟩) Y.length cap8), (5, .int .i64 ((k : Nat) : Int))], rfl, rfl, ?_⟩
      refine at_then ?_
      cases c11
      · have p_c11 := str_neq_f h_c11
        refine wc_false rfl ?_
        refine wc_skip ?_
        refine at_block ?_
        refine at_then ?_
        refine wc_region ?_
        refine wl_1 trivial rfl (do_move rfl) ?_
        refine wl_1 trivial rfl (do_add (r := ((k + 1 : Nat) : Int)) rfl rfl (wrap_nat (by omega) (by omega))) ?_
        refine wl_1 trivial rfl (do_assign rfl) ?_
        refine wl_nil ?_
        have hphi : k + 1 ≤ X.length ∧ X.take (k + 1) = Y.take (k + 1) := ⟨by omega, by rw [List.take_add_one, List.take_add_one, hy6, hy10, htk, ‹y5 = y9›]⟩
        exact at_round (k + 1) hphi (by omega) ⟨rfl, rfl, rfl, trivial⟩ rfl
      · have p_c11 := str_neq_t h_c11
        refine wc_true rfl ?_
        refine wc_seq ?_
        refine wc_region ?_
        refine wl_1 trivial rfl (do_assign rfl) ?_
        refine wl_nil ?_
        refine at_then ?_
        refine wc_ret ?_
        refine at_block_ret ?_
        refine at_then_ret ?_
        refine at_then_ret ?_
        refine at_block_ret ?_
        refine at_then_ret ?_
        exact at_ret1 (M := [_, _]) rfl rfl ⟨by rw [decide_eq_false (fun e => ‹¬ y5 = y9› (by subst e; exact Option.some.inj (hy6.symm.trans hy10)))], rfl⟩ rfl
  · have p_c1 := cmp_neq_t h_c1
    refine wc_true rfl ?_
    refine wc_seq ?_
    refine wc_region ?_
    refine wl_1 trivial rfl (do_assign rfl) ?_
    refine wl_nil ?_
    refine at_then ?_
    refine wc_ret ?_
    refine at_then_ret ?_
    exact at_ret1 (M := [_, _]) rfl rfl ⟨by rw [decide_eq_false (fun e => by subst e; omega)], rfl⟩ rfl
end Go.Proofs.Ytmefejfnddcelaa
