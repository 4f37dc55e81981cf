/- Printed by gen/simobj.py for this claim: what each of these functions of the program does, as its theorem says. No condition but what stands in each theorem. -/
import Derived.Test.YtmefejfnddcelaaOr
namespace Go.Proofs.Ytmefejfnddcelaa
theorem fo_34_3 : fieldOk Try.prog 34 3 3 = true := by kernel_rfl
theorem fo_34_4 : fieldOk Try.prog 34 4 4 = true := by kernel_rfl
theorem enters_17 : Enters Try.prog 17 := enters_of Try.func17 (by kernel_rfl) (by kernel_rfl)
theorem fo_34_1 : fieldOk Try.prog 34 1 1 = true := by kernel_rfl
theorem fo_34_2 : fieldOk Try.prog 34 2 2 = true := by kernel_rfl
theorem enters_22 : Enters Try.prog 22 := enters_of Try.func22 (by kernel_rfl) (by kernel_rfl)
theorem enters_25 : Enters Try.prog 25 := enters_of Try.func25 (by kernel_rfl) (by kernel_rfl)
theorem enters_15 : Enters Try.prog 15 := enters_of Try.func15 (by kernel_rfl) (by kernel_rfl)
set_option maxRecDepth 100000 in
set_option maxHeartbeats 8000000 in
theorem nil_tri (B : Ctx) (kd k : Int) (key : ByteArray) (a : Option Addr) (n cap : Nat) (yes : Bool) :
    Tri Try.prog B 4 #[.agg #[.int .i64 kd, .string key, .slice a n cap, .int .i64 k, .bool yes]] [] (fun u M => u = .bool true ∧ M = []) := by
  refine tri_body (n := 108) Try.func4 rfl rfl rfl ?_
  intro F
  show WC _ _ _ _ _ _ _ [(0, .agg #[.int .i64 kd, .string key, .slice a n cap, .int .i64 k, .bool yes])] [F]
  refine wc_seq ?_
  refine wc_region ?_
  refine wl_do trivial rfl (do_box rfl rfl) ?_
  rintro _ _ ⟨b1, rfl, rfl⟩
  refine wl_1 trivial rfl (do_assign rfl) ?_
  refine wl_nil ?_
  refine at_then ?_
  refine wc_seq ?_
  refine wc_region ?_
  refine wl_1 trivial rfl (do_assign rfl) ?_
  refine wl_nil ?_
  refine at_then ?_
  refine wc_seq ?_
  refine wc_seq ?_
  refine wc_region ?_
  refine wl_1 trivial rfl (do_assign rfl) ?_
  refine wl_nil ?_
  refine at_then ?_
  refine wc_block ?_
  refine wc_rounds 2 ?_
  refine wc_seq ?_
  refine wc_seq ?_
  refine wc_region ?_
  refine wl_1 trivial rfl (do_move rfl) ?_
  refine wl_1 trivial rfl (do_cmp (c := true) rfl rfl rfl) ?_
  refine wl_nil ?_
  refine at_then ?_
  refine wc_true rfl ?_
  refine wc_skip ?_
  refine at_then ?_
  refine wc_seq ?_
  refine wc_block ?_
  refine wc_seq ?_
  refine wc_region ?_
  refine wl_1 trivial rfl (do_move rfl) ?_
  refine wl_1 trivial rfl (do_fieldAddr (k := 3) (k' := 3) fo_34_3 rfl (by rfl)) ?_
  refine wl_1 trivial rfl (do_load 0 rfl one_3 rfl rfl) ?_
  refine wl_1 trivial rfl (do_fieldAddr (k := 4) (k' := 4) fo_34_4 rfl (by rfl)) ?_
  refine wl_1 trivial rfl (do_load 0 rfl one_4 rfl rfl) ?_
  refine wl_do trivial rfl (do_call (fail_nil B k yes) ⟨rfl, rfl, rfl, trivial⟩ enters_17 [] [0, 1] trivial ⟨rfl, rfl, trivial⟩ (R := [_, _]) (by decide)) ?_
  rintro _ _ ⟨_, ⟨rfl, rfl⟩, rfl⟩
  refine wl_nil ?_
  refine at_then ?_
  refine wc_seq ?_
  refine wc_region ?_
  refine wl_1 trivial rfl (do_move rfl) ?_
  refine wl_1 trivial rfl (do_fieldAddr (k := 1) (k' := 1) fo_34_1 rfl (by rfl)) ?_
  refine wl_1 trivial rfl (do_load 0 rfl one_9 rfl rfl) ?_
  refine wl_do trivial rfl (do_call (get_nil B key) ⟨rfl, rfl, trivial⟩ enters_18 [] [0, 1] trivial ⟨rfl, rfl, trivial⟩ (R := [_, _]) (by decide)) ?_
  rintro _ _ ⟨_, ⟨rfl, rfl⟩, rfl⟩
  refine wl_1 trivial rfl (do_move rfl) ?_
  refine wl_1 trivial rfl (do_extract rfl rfl) ?_
  refine wl_1 trivial rfl (do_extract rfl rfl) ?_
  refine wl_1 trivial rfl (do_assign rfl) ?_
  refine wl_1 trivial rfl (do_assign rfl) ?_
  refine wl_nil ?_
  refine at_then ?_
  refine wc_seq ?_
  refine wc_region ?_
  refine wl_1 trivial rfl (do_move rfl) ?_
  refine wl_1 trivial rfl (do_fieldAddr (k := 1) (k' := 1) fo_34_1 rfl (by rfl)) ?_
  refine wl_1 trivial rfl (do_load 0 rfl one_9 rfl rfl) ?_
  refine wl_do trivial rfl (do_call (list_nil B key) ⟨rfl, rfl, trivial⟩ enters_19 [] [0, 1] trivial ⟨rfl, rfl, trivial⟩ (R := [_, _]) (by decide)) ?_
  rintro _ _ ⟨_, ⟨rfl, rfl⟩, rfl⟩
  refine wl_1 trivial rfl (do_move rfl) ?_
  refine wl_1 trivial rfl (do_extract rfl rfl) ?_
  refine wl_1 trivial rfl (do_extract rfl rfl) ?_
  refine wl_1 trivial rfl (do_assign rfl) ?_
  refine wl_1 trivial rfl (do_assign rfl) ?_
  refine wl_nil ?_
  refine at_then ?_
  refine wc_seq ?_
  refine wc_region ?_
  refine wl_1 trivial rfl (do_move rfl) ?_
  refine wl_1 trivial rfl (do_fieldAddr (k := 1) (k' := 1) fo_34_1 rfl (by rfl)) ?_
  refine wl_1 trivial rfl (do_load 0 rfl one_9 rfl rfl) ?_
  refine wl_do trivial rfl (do_call (look_nil B key) ⟨rfl, rfl, trivial⟩ enters_20 [] [0, 1] trivial ⟨rfl, rfl, trivial⟩ (R := [_, _]) (by decide)) ?_
  rintro _ _ ⟨_, ⟨rfl, rfl⟩, rfl⟩
  refine wl_1 trivial rfl (do_move rfl) ?_
  refine wl_1 trivial rfl (do_extract rfl rfl) ?_
  refine wl_1 trivial rfl (do_extract rfl rfl) ?_
  refine wl_1 trivial rfl (do_assign rfl) ?_
  refine wl_1 trivial rfl (do_assign rfl) ?_
  refine wl_nil ?_
  refine at_then ?_
  refine wc_seq ?_
  refine wc_seq ?_
  refine wc_region ?_
  refine wl_1 trivial rfl (do_move rfl) ?_
  refine wl_1 trivial rfl (do_fieldAddr (k := 1) (k' := 1) fo_34_1 rfl (by rfl)) ?_
  refine wl_1 trivial rfl (do_load 0 rfl one_9 rfl rfl) ?_
  refine wl_1 trivial rfl (do_fieldAddr (k := 2) (k' := 2) fo_34_2 rfl (by rfl)) ?_
  refine wl_1 trivial rfl (do_load 0 rfl one_32 rfl rfl) ?_
  refine wl_do trivial rfl (do_call (put_nil B key a n cap) ⟨rfl, rfl, rfl, trivial⟩ enters_21 [] [0, 1] trivial ⟨rfl, rfl, trivial⟩ (R := [_, _]) (by decide)) ?_
  rintro _ _ ⟨_, ⟨rfl, rfl⟩, rfl⟩
  refine wl_do trivial rfl (do_call (num_tri B 1) ⟨rfl, trivial⟩ enters_14 [] [0, 1] trivial ⟨rfl, rfl, trivial⟩ (R := [_, _]) (by decide)) ?_
  rintro _ _ ⟨_, ⟨rfl, rfl⟩, rfl⟩
  refine wl_1 trivial rfl (do_cmp (c := false) rfl rfl rfl) ?_
  refine wl_1 trivial rfl (do_move rfl) ?_
  refine wl_1 ⟨_, rfl, rfl⟩ rfl (do_move rfl) ?_
  refine wl_1 ⟨_, rfl, rfl⟩ rfl (do_fieldAddr (k := 1) (k' := 1) fo_34_1 rfl (by rfl)) ?_
  refine wl_1 ⟨_, rfl, rfl⟩ rfl (do_load 0 rfl one_9 rfl rfl) ?_
  refine wl_do ⟨_, rfl, rfl⟩ rfl (do_call (del_nil B key) ⟨rfl, rfl, trivial⟩ enters_22 [] [0, 1] trivial ⟨rfl, rfl, trivial⟩ (R := [_, _]) (by decide)) ?_
  rintro _ _ ⟨_, ⟨rfl, rfl⟩, rfl⟩
  refine wl_do ⟨_, rfl, rfl⟩ rfl (do_call (num_tri B 1) ⟨rfl, trivial⟩ enters_14 [] [0, 1] trivial ⟨rfl, rfl, trivial⟩ (R := [_, _]) (by decide)) ?_
  rintro _ _ ⟨_, ⟨rfl, rfl⟩, rfl⟩
  refine wl_1 ⟨_, rfl, rfl⟩ rfl (do_cmp (c := false) rfl rfl rfl) ?_
  refine wl_1 trivial rfl (do_pickF rfl rfl) ?_
  refine wl_1 trivial rfl (do_move rfl) ?_
  refine wl_1 ⟨_, rfl, rfl⟩ rfl (do_move rfl) ?_
  refine wl_1 ⟨_, rfl, rfl⟩ rfl (do_fieldAddr (k := 3) (k' := 3) fo_34_3 rfl (by rfl)) ?_
  refine wl_1 ⟨_, rfl, rfl⟩ rfl (do_load 0 rfl one_3 rfl rfl) ?_
  refine wl_do ⟨_, rfl, rfl⟩ rfl (do_call (tick_nil B k) ⟨rfl, rfl, trivial⟩ enters_23 [] [0, 1] trivial ⟨rfl, rfl, trivial⟩ (R := [_, _]) (by decide)) ?_
  rintro _ _ ⟨_, ⟨rfl, rfl⟩, rfl⟩
  refine wl_do ⟨_, rfl, rfl⟩ rfl (do_call (num_tri B 1) ⟨rfl, trivial⟩ enters_14 [] [0, 1] trivial ⟨rfl, rfl, trivial⟩ (R := [_, _]) (by decide)) ?_
  rintro _ _ ⟨_, ⟨rfl, rfl⟩, rfl⟩
  refine wl_1 ⟨_, rfl, rfl⟩ rfl (do_cmp (c := false) rfl rfl rfl) ?_
  refine wl_1 trivial rfl (do_pickF rfl rfl) ?_
  refine wl_1 trivial rfl (do_move rfl) ?_
  refine wl_1 ⟨_, rfl, rfl⟩ rfl (do_move rfl) ?_
  refine wl_1 ⟨_, rfl, rfl⟩ rfl (do_fieldAddr (k := 3) (k' := 3) fo_34_3 rfl (by rfl)) ?_
  refine wl_1 ⟨_, rfl, rfl⟩ rfl (do_load 0 rfl one_3 rfl rfl) ?_
  refine wl_do ⟨_, rfl, rfl⟩ rfl (do_call (lag_nil B k) ⟨rfl, rfl, trivial⟩ enters_24 [] [0, 1] trivial ⟨rfl, rfl, trivial⟩ (R := [_, _]) (by decide)) ?_
  rintro _ _ ⟨_, ⟨rfl, rfl⟩, rfl⟩
  refine wl_do ⟨_, rfl, rfl⟩ rfl (do_call (num_tri B 1) ⟨rfl, trivial⟩ enters_14 [] [0, 1] trivial ⟨rfl, rfl, trivial⟩ (R := [_, _]) (by decide)) ?_
  rintro _ _ ⟨_, ⟨rfl, rfl⟩, rfl⟩
  refine wl_1 ⟨_, rfl, rfl⟩ rfl (do_cmp (c := false) rfl rfl rfl) ?_
  refine wl_1 trivial rfl (do_pickF rfl rfl) ?_
  refine wl_1 trivial rfl (do_move rfl) ?_
  refine wl_1 ⟨_, rfl, rfl⟩ rfl (do_move rfl) ?_
  refine wl_do ⟨_, rfl, rfl⟩ rfl (do_call (num_tri B 1) ⟨rfl, trivial⟩ enters_14 [] [0, 1] trivial ⟨rfl, rfl, trivial⟩ (R := [_, _]) (by decide)) ?_
  rintro _ _ ⟨_, ⟨rfl, rfl⟩, rfl⟩
  refine wl_1 ⟨_, rfl, rfl⟩ rfl (do_cmp (c := false) rfl rfl rfl) ?_
  refine wl_1 trivial rfl (do_pickF rfl rfl) ?_
  refine wl_1 trivial rfl (do_move rfl) ?_
  refine wl_1 ⟨_, rfl, rfl⟩ rfl (do_move rfl) ?_
  refine wl_do ⟨_, rfl, rfl⟩ rfl (do_call (num_tri B 1) ⟨rfl, trivial⟩ enters_14 [] [0, 1] trivial ⟨rfl, rfl, trivial⟩ (R := [_, _]) (by decide)) ?_
  rintro _ _ ⟨_, ⟨rfl, rfl⟩, rfl⟩
  refine wl_1 ⟨_, rfl, rfl⟩ rfl (do_cmp (c := false) rfl rfl rfl) ?_
  refine wl_1 trivial rfl (do_pickF rfl rfl) ?_
  refine wl_1 trivial rfl (do_move rfl) ?_
  refine wl_1 ⟨_, rfl, rfl⟩ rfl (do_move rfl) ?_
  refine wl_1 trivial rfl (do_pickF rfl rfl) ?_
  refine wl_1 trivial rfl (do_move rfl) ?_
  refine wl_1 ⟨_, rfl, rfl⟩ rfl (do_move rfl) ?_
  refine wl_1 ⟨_, rfl, rfl⟩ rfl (do_lenSlice rfl isSlice_32 rfl) ?_
  refine wl_1 ⟨_, rfl, rfl⟩ rfl (do_move rfl) ?_
  refine wl_1 ⟨_, rfl, rfl⟩ rfl (do_lenSlice rfl isSlice_39 rfl) ?_
  refine wl_1 ⟨_, rfl, rfl⟩ rfl (do_add (r := 0) rfl rfl rfl) ?_
  refine wl_1 ⟨_, rfl, rfl⟩ rfl (do_move rfl) ?_
  refine wl_do ⟨_, rfl, rfl⟩ rfl (do_call (keys_nil B ) ⟨rfl, trivial⟩ enters_25 [] [0, 1] trivial ⟨rfl, rfl, trivial⟩ (R := [_, _]) (by decide)) ?_
  rintro _ _ ⟨_, ⟨rfl, rfl⟩, rfl⟩
  refine wl_1 ⟨_, rfl, rfl⟩ rfl (do_lenSlice rfl isSlice_39 rfl) ?_
  refine wl_1 ⟨_, rfl, rfl⟩ rfl (do_add (r := 0) rfl rfl rfl) ?_
  refine wl_1 ⟨_, rfl, rfl⟩ rfl (do_move rfl) ?_
  refine wl_do ⟨_, rfl, rfl⟩ rfl (do_call (now_nil B ) ⟨rfl, trivial⟩ enters_26 [] [0, 1] trivial ⟨rfl, rfl, trivial⟩ (R := [_, _]) (by decide)) ?_
  rintro _ _ ⟨_, ⟨rfl, rfl⟩, rfl⟩
  refine wl_1 ⟨_, rfl, rfl⟩ rfl (do_add (r := 0) rfl rfl rfl) ?_
  refine wl_1 ⟨_, rfl, rfl⟩ rfl (do_move rfl) ?_
  refine wl_do ⟨_, rfl, rfl⟩ rfl (do_call (calls_nil B ) ⟨rfl, trivial⟩ enters_27 [] [0, 1] trivial ⟨rfl, rfl, trivial⟩ (R := [_, _]) (by decide)) ?_
  rintro _ _ ⟨_, ⟨rfl, rfl⟩, rfl⟩
  refine wl_1 ⟨_, rfl, rfl⟩ rfl (do_add (r := 0) rfl rfl rfl) ?_
  refine wl_1 ⟨_, rfl, rfl⟩ rfl (do_cmp (c := false) rfl rfl rfl) ?_
  refine wl_1 trivial rfl (do_pickF rfl rfl) ?_
  refine wl_nil ?_
  refine at_then ?_
  refine wc_false rfl ?_
  refine wc_skip ?_
  refine at_then ?_
  refine wc_region ?_
  refine wl_1 trivial rfl (do_build (ps := []) trivial (build_52 rfl)) ?_
  refine wl_do trivial rfl (do_box rfl rfl) ?_
  rintro _ _ ⟨b2, rfl, rfl⟩
  refine wl_1 trivial rfl (do_assign rfl) ?_
  refine wl_nil ?_
  refine at_block ?_
  refine at_then ?_
  refine wc_region ?_
  refine wl_1 trivial rfl (do_move rfl) ?_
  refine wl_1 trivial rfl (do_add (r := 1) rfl rfl rfl) ?_
  refine wl_1 trivial rfl (do_assign rfl) ?_
  refine wl_nil ?_
  refine at_rounds ?_
  refine wc_seq ?_
  refine wc_seq ?_
  refine wc_region ?_
  refine wl_1 trivial rfl (do_move rfl) ?_
  refine wl_1 trivial rfl (do_cmp (c := true) rfl rfl rfl) ?_
  refine wl_nil ?_
  refine at_then ?_
  refine wc_true rfl ?_
  refine wc_skip ?_
  refine at_then ?_
  refine wc_seq ?_
  refine wc_block ?_
  refine wc_seq ?_
  refine wc_region ?_
  refine wl_1 trivial rfl (do_move rfl) ?_
  refine wl_1 trivial rfl (do_fieldAddr (k := 3) (k' := 3) fo_34_3 rfl (by rfl)) ?_
  refine wl_1 trivial rfl (do_load 1 rfl one_3 rfl rfl) ?_
  refine wl_1 trivial rfl (do_fieldAddr (k := 4) (k' := 4) fo_34_4 rfl (by rfl)) ?_
  refine wl_1 trivial rfl (do_load 1 rfl one_4 rfl rfl) ?_
  refine wl_do trivial rfl (do_call (fail_zero B b2 k yes) ⟨rfl, rfl, rfl, trivial⟩ enters_17 [0] [1, 2] ⟨rfl, trivial⟩ ⟨rfl, rfl, trivial⟩ (R := [_, _]) (by decide)) ?_
  rintro _ _ ⟨_, ⟨rfl, rfl⟩, rfl⟩
  refine wl_nil ?_
  refine at_then ?_
  refine wc_seq ?_
  refine wc_region ?_
  refine wl_1 trivial rfl (do_move rfl) ?_
  refine wl_1 trivial rfl (do_fieldAddr (k := 1) (k' := 1) fo_34_1 rfl (by rfl)) ?_
  refine wl_1 trivial rfl (do_load 1 rfl one_9 rfl rfl) ?_
  refine wl_do trivial rfl (do_call (get_zero B b2 key) ⟨rfl, rfl, trivial⟩ enters_18 [0] [1, 2] ⟨rfl, trivial⟩ ⟨rfl, rfl, trivial⟩ (R := [_, _]) (by decide)) ?_
  rintro _ _ ⟨_, ⟨rfl, rfl⟩, rfl⟩
  refine wl_1 trivial rfl (do_move rfl) ?_
  refine wl_1 trivial rfl (do_extract rfl rfl) ?_
  refine wl_1 trivial rfl (do_extract rfl rfl) ?_
  refine wl_1 trivial rfl (do_assign rfl) ?_
  refine wl_1 trivial rfl (do_assign rfl) ?_
  refine wl_nil ?_
  refine at_then ?_
  refine wc_seq ?_
  refine wc_region ?_
  refine wl_1 trivial rfl (do_move rfl) ?_
  refine wl_1 trivial rfl (do_fieldAddr (k := 1) (k' := 1) fo_34_1 rfl (by rfl)) ?_
  refine wl_1 trivial rfl (do_load 1 rfl one_9 rfl rfl) ?_
  refine wl_do trivial rfl (do_call (list_zero B b2 key) ⟨rfl, rfl, trivial⟩ enters_19 [0] [1, 2] ⟨rfl, trivial⟩ ⟨rfl, rfl, trivial⟩ (R := [_, _]) (by decide)) ?_
  rintro _ _ ⟨_, ⟨rfl, rfl⟩, rfl⟩
  refine wl_1 trivial rfl (do_move rfl) ?_
  refine wl_1 trivial rfl (do_extract rfl rfl) ?_
  refine wl_1 trivial rfl (do_extract rfl rfl) ?_
  refine wl_1 trivial rfl (do_assign rfl) ?_
  refine wl_1 trivial rfl (do_assign rfl) ?_
  refine wl_nil ?_
  refine at_then ?_
  refine wc_seq ?_
  refine wc_region ?_
  refine wl_1 trivial rfl (do_move rfl) ?_
  refine wl_1 trivial rfl (do_fieldAddr (k := 1) (k' := 1) fo_34_1 rfl (by rfl)) ?_
  refine wl_1 trivial rfl (do_load 1 rfl one_9 rfl rfl) ?_
  refine wl_do trivial rfl (do_call (look_zero B b2 key) ⟨rfl, rfl, trivial⟩ enters_20 [0] [1, 2] ⟨rfl, trivial⟩ ⟨rfl, rfl, trivial⟩ (R := [_, _]) (by decide)) ?_
  rintro _ _ ⟨_, ⟨rfl, rfl⟩, rfl⟩
  refine wl_1 trivial rfl (do_move rfl) ?_
  refine wl_1 trivial rfl (do_extract rfl rfl) ?_
  refine wl_1 trivial rfl (do_extract rfl rfl) ?_
  refine wl_1 trivial rfl (do_assign rfl) ?_
  refine wl_1 trivial rfl (do_assign rfl) ?_
  refine wl_nil ?_
  refine at_then ?_
  refine wc_seq ?_
  refine wc_seq ?_
  refine wc_region ?_
  refine wl_1 trivial rfl (do_move rfl) ?_
  refine wl_1 trivial rfl (do_fieldAddr (k := 1) (k' := 1) fo_34_1 rfl (by rfl)) ?_
  refine wl_1 trivial rfl (do_load 1 rfl one_9 rfl rfl) ?_
  refine wl_1 trivial rfl (do_fieldAddr (k := 2) (k' := 2) fo_34_2 rfl (by rfl)) ?_
  refine wl_1 trivial rfl (do_load 1 rfl one_32 rfl rfl) ?_
  refine wl_do trivial rfl (do_call (put_zero B b2 key a n cap) ⟨rfl, rfl, rfl, trivial⟩ enters_21 [0] [1, 2] ⟨rfl, trivial⟩ ⟨rfl, rfl, trivial⟩ (R := [_, _]) (by decide)) ?_
  rintro _ _ ⟨_, ⟨rfl, rfl⟩, rfl⟩
  refine wl_do trivial rfl (do_call (num_tri B 1) ⟨rfl, trivial⟩ enters_14 [] [0, 1, 2] trivial ⟨rfl, rfl, rfl, trivial⟩ (R := [_, _, _]) (by decide)) ?_
  rintro _ _ ⟨_, ⟨rfl, rfl⟩, rfl⟩
  refine wl_1 trivial rfl (do_cmp (c := false) rfl rfl rfl) ?_
  refine wl_1 trivial rfl (do_move rfl) ?_
  refine wl_1 ⟨_, rfl, rfl⟩ rfl (do_move rfl) ?_
  refine wl_1 ⟨_, rfl, rfl⟩ rfl (do_fieldAddr (k := 1) (k' := 1) fo_34_1 rfl (by rfl)) ?_
  refine wl_1 ⟨_, rfl, rfl⟩ rfl (do_load 1 rfl one_9 rfl rfl) ?_
  refine wl_do ⟨_, rfl, rfl⟩ rfl (do_call (del_zero B b2 key) ⟨rfl, rfl, trivial⟩ enters_22 [0] [1, 2] ⟨rfl, trivial⟩ ⟨rfl, rfl, trivial⟩ (R := [_, _]) (by decide)) ?_
  rintro _ _ ⟨_, ⟨rfl, rfl⟩, rfl⟩
  refine wl_do ⟨_, rfl, rfl⟩ rfl (do_call (num_tri B 1) ⟨rfl, trivial⟩ enters_14 [] [0, 1, 2] trivial ⟨rfl, rfl, rfl, trivial⟩ (R := [_, _, _]) (by decide)) ?_
  rintro _ _ ⟨_, ⟨rfl, rfl⟩, rfl⟩
  refine wl_1 ⟨_, rfl, rfl⟩ rfl (do_cmp (c := false) rfl rfl rfl) ?_
  refine wl_1 trivial rfl (do_pickF rfl rfl) ?_
  refine wl_1 trivial rfl (do_move rfl) ?_
  refine wl_1 ⟨_, rfl, rfl⟩ rfl (do_move rfl) ?_
  refine wl_1 ⟨_, rfl, rfl⟩ rfl (do_fieldAddr (k := 3) (k' := 3) fo_34_3 rfl (by rfl)) ?_
  refine wl_1 ⟨_, rfl, rfl⟩ rfl (do_load 1 rfl one_3 rfl rfl) ?_
  refine wl_do ⟨_, rfl, rfl⟩ rfl (do_call (tick_zero B b2 k) ⟨rfl, rfl, trivial⟩ enters_23 [0] [1, 2] ⟨rfl, trivial⟩ ⟨rfl, rfl, trivial⟩ (R := [_, _]) (by decide)) ?_
  rintro _ _ ⟨_, ⟨rfl, rfl⟩, rfl⟩
  refine wl_do ⟨_, rfl, rfl⟩ rfl (do_call (num_tri B 1) ⟨rfl, trivial⟩ enters_14 [] [0, 1, 2] trivial ⟨rfl, rfl, rfl, trivial⟩ (R := [_, _, _]) (by decide)) ?_
  rintro _ _ ⟨_, ⟨rfl, rfl⟩, rfl⟩
  refine wl_1 ⟨_, rfl, rfl⟩ rfl (do_cmp (c := false) rfl rfl rfl) ?_
  refine wl_1 trivial rfl (do_pickF rfl rfl) ?_
  refine wl_1 trivial rfl (do_move rfl) ?_
  refine wl_1 ⟨_, rfl, rfl⟩ rfl (do_move rfl) ?_
  refine wl_1 ⟨_, rfl, rfl⟩ rfl (do_fieldAddr (k := 3) (k' := 3) fo_34_3 rfl (by rfl)) ?_
  refine wl_1 ⟨_, rfl, rfl⟩ rfl (do_load 1 rfl one_3 rfl rfl) ?_
  refine wl_do ⟨_, rfl, rfl⟩ rfl (do_call (lag_zero B b2 k) ⟨rfl, rfl, trivial⟩ enters_24 [0] [1, 2] ⟨rfl, trivial⟩ ⟨rfl, rfl, trivial⟩ (R := [_, _]) (by decide)) ?_
  rintro _ _ ⟨_, ⟨rfl, rfl⟩, rfl⟩
  refine wl_do ⟨_, rfl, rfl⟩ rfl (do_call (num_tri B 1) ⟨rfl, trivial⟩ enters_14 [] [0, 1, 2] trivial ⟨rfl, rfl, rfl, trivial⟩ (R := [_, _, _]) (by decide)) ?_
  rintro _ _ ⟨_, ⟨rfl, rfl⟩, rfl⟩
  refine wl_1 ⟨_, rfl, rfl⟩ rfl (do_cmp (c := false) rfl rfl rfl) ?_
  refine wl_1 trivial rfl (do_pickF rfl rfl) ?_
  refine wl_1 trivial rfl (do_move rfl) ?_
  refine wl_1 ⟨_, rfl, rfl⟩ rfl (do_move rfl) ?_
  refine wl_do ⟨_, rfl, rfl⟩ rfl (do_call (num_tri B 1) ⟨rfl, trivial⟩ enters_14 [] [0, 1, 2] trivial ⟨rfl, rfl, rfl, trivial⟩ (R := [_, _, _]) (by decide)) ?_
  rintro _ _ ⟨_, ⟨rfl, rfl⟩, rfl⟩
  refine wl_1 ⟨_, rfl, rfl⟩ rfl (do_cmp (c := false) rfl rfl rfl) ?_
  refine wl_1 trivial rfl (do_pickF rfl rfl) ?_
  refine wl_1 trivial rfl (do_move rfl) ?_
  refine wl_1 ⟨_, rfl, rfl⟩ rfl (do_move rfl) ?_
  refine wl_do ⟨_, rfl, rfl⟩ rfl (do_call (num_tri B 1) ⟨rfl, trivial⟩ enters_14 [] [0, 1, 2] trivial ⟨rfl, rfl, rfl, trivial⟩ (R := [_, _, _]) (by decide)) ?_
  rintro _ _ ⟨_, ⟨rfl, rfl⟩, rfl⟩
  refine wl_1 ⟨_, rfl, rfl⟩ rfl (do_cmp (c := false) rfl rfl rfl) ?_
  refine wl_1 trivial rfl (do_pickF rfl rfl) ?_
  refine wl_1 trivial rfl (do_move rfl) ?_
  refine wl_1 ⟨_, rfl, rfl⟩ rfl (do_move rfl) ?_
  refine wl_1 trivial rfl (do_pickF rfl rfl) ?_
  refine wl_1 trivial rfl (do_move rfl) ?_
  refine wl_1 ⟨_, rfl, rfl⟩ rfl (do_move rfl) ?_
  refine wl_1 ⟨_, rfl, rfl⟩ rfl (do_lenSlice rfl isSlice_32 rfl) ?_
  refine wl_1 ⟨_, rfl, rfl⟩ rfl (do_move rfl) ?_
  refine wl_1 ⟨_, rfl, rfl⟩ rfl (do_lenSlice rfl isSlice_39 rfl) ?_
  refine wl_1 ⟨_, rfl, rfl⟩ rfl (do_add (r := 0) rfl rfl rfl) ?_
  refine wl_1 ⟨_, rfl, rfl⟩ rfl (do_move rfl) ?_
  refine wl_do ⟨_, rfl, rfl⟩ rfl (do_call (keys_zero B b2 ) ⟨rfl, trivial⟩ enters_25 [0] [1, 2] ⟨rfl, trivial⟩ ⟨rfl, rfl, trivial⟩ (R := [_, _]) (by decide)) ?_
  rintro _ _ ⟨_, ⟨rfl, rfl⟩, rfl⟩
  refine wl_1 ⟨_, rfl, rfl⟩ rfl (do_lenSlice rfl isSlice_39 rfl) ?_
  refine wl_1 ⟨_, rfl, rfl⟩ rfl (do_add (r := 0) rfl rfl rfl) ?_
  refine wl_1 ⟨_, rfl, rfl⟩ rfl (do_move rfl) ?_
  refine wl_do ⟨_, rfl, rfl⟩ rfl (do_call (now_zero B b2 ) ⟨rfl, trivial⟩ enters_26 [0] [1, 2] ⟨rfl, trivial⟩ ⟨rfl, rfl, trivial⟩ (R := [_, _]) (by decide)) ?_
  rintro _ _ ⟨_, ⟨rfl, rfl⟩, rfl⟩
  refine wl_1 ⟨_, rfl, rfl⟩ rfl (do_add (r := 0) rfl rfl rfl) ?_
  refine wl_1 ⟨_, rfl, rfl⟩ rfl (do_move rfl) ?_
  refine wl_do ⟨_, rfl, rfl⟩ rfl (do_call (calls_zero B b2 ) ⟨rfl, trivial⟩ enters_27 [0] [1, 2] ⟨rfl, trivial⟩ ⟨rfl, rfl, trivial⟩ (R := [_, _]) (by decide)) ?_
  rintro _ _ ⟨_, ⟨rfl, rfl⟩, rfl⟩
  refine wl_1 ⟨_, rfl, rfl⟩ rfl (do_add (r := 0) rfl rfl rfl) ?_
  refine wl_1 ⟨_, rfl, rfl⟩ rfl (do_cmp (c := false) rfl rfl rfl) ?_
  refine wl_1 trivial rfl (do_pickF rfl rfl) ?_
  refine wl_nil ?_
  refine at_then ?_
  refine wc_false rfl ?_
  refine wc_skip ?_
  refine at_then ?_
  refine wc_region ?_
  refine wl_1 trivial rfl (do_build (ps := []) trivial (build_52 rfl)) ?_
  refine wl_do trivial rfl (do_box rfl rfl) ?_
  rintro _ _ ⟨b3, rfl, rfl⟩
  refine wl_1 trivial rfl (do_assign rfl) ?_
  refine wl_nil ?_
  refine at_block ?_
  refine at_then ?_
  refine wc_region ?_
  refine wl_1 trivial rfl (do_move rfl) ?_
  refine wl_1 trivial rfl (do_add (r := 2) rfl rfl rfl) ?_
  refine wl_1 trivial rfl (do_assign rfl) ?_
  refine wl_nil ?_
  refine at_rounds ?_
  refine wc_seq ?_
  refine wc_seq ?_
  refine wc_region ?_
  refine wl_1 trivial rfl (do_move rfl) ?_
  refine wl_1 trivial rfl (do_cmp (c := false) rfl rfl rfl) ?_
  refine wl_nil ?_
  refine at_then ?_
  refine wc_false rfl ?_
  refine wc_exit ?_
  refine at_then_exit ?_
  refine at_then_exit ?_
  refine at_block_it ?_
  refine at_then ?_
  refine wc_seq ?_
  refine wc_region ?_
  refine wl_do trivial rfl (do_call (knows_tri B) trivial enters_15 [] [0, 1, 2, 3] trivial ⟨rfl, rfl, rfl, rfl, trivial⟩ (R := [_, _, _, _]) (by decide)) ?_
  rintro _ _ ⟨_, ⟨rfl, rfl⟩, rfl⟩
  refine wl_1 trivial rfl (do_assign rfl) ?_
  refine wl_nil ?_
  refine at_then ?_
  refine wc_ret ?_
  refine at_pick (M := [_]) [3] ⟨rfl, trivial⟩ (by decide) ?_
  exact at_ret1 (M := []) rfl rfl ⟨rfl, rfl⟩ rfl
end Go.Proofs.Ytmefejfnddcelaa
