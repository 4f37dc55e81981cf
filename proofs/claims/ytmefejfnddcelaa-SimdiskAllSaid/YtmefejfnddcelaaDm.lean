/- Printed by a program of this claim's: what each of these functions of the program does, as its theorem says. No condition but what stands in each theorem. -/
import Derived.Test.YtmefejfnddcelaaDl
namespace Go.Proofs.Ytmefejfnddcelaa
theorem fo_67_4 : fieldOk Try.prog 67 4 4 = true := by kernel_rfl
theorem fo_67_5 : fieldOk Try.prog 67 5 5 = true := by kernel_rfl
theorem enters_38 : Enters Try.prog 38 := enters_of Try.func38 (by kernel_rfl) (by kernel_rfl)
theorem enters_37 : Enters Try.prog 37 := enters_of Try.func37 (by kernel_rfl) (by kernel_rfl)
theorem fo_67_6 : fieldOk Try.prog 67 6 6 = true := by kernel_rfl
theorem fo_67_1 : fieldOk Try.prog 67 1 1 = true := by kernel_rfl
theorem fo_67_3 : fieldOk Try.prog 67 3 3 = true := by kernel_rfl
theorem fo_67_2 : fieldOk Try.prog 67 2 2 = true := by kernel_rfl
theorem enters_42 : Enters Try.prog 42 := enters_of Try.func42 (by kernel_rfl) (by kernel_rfl)
theorem enters_43 : Enters Try.prog 43 := enters_of Try.func43 (by kernel_rfl) (by kernel_rfl)
theorem enters_44 : Enters Try.prog 44 := enters_of Try.func44 (by kernel_rfl) (by kernel_rfl)
theorem enters_45 : Enters Try.prog 45 := enters_of Try.func45 (by kernel_rfl) (by kernel_rfl)
theorem enters_47 : Enters Try.prog 47 := enters_of Try.func47 (by kernel_rfl) (by kernel_rfl)
theorem enters_31 : Enters Try.prog 31 := enters_of Try.func31 (by kernel_rfl) (by kernel_rfl)
set_option maxRecDepth 100000 in
set_option maxHeartbeats 8000000 in
theorem get_nil (B : Ctx) (name : ByteArray) :
    Tri Try.prog B 74 #[.pointer none, .string name] [] (fun u M => u = .tuple #[.pointer none, .int .i64 1] ∧ M = []) := by
  refine tri_body (n := 26) Try.func74 rfl rfl rfl ?_
  intro F
  show WC _ _ _ _ _ _ _ [(0, .pointer none), (1, .string name)] [F]
  refine wc_seq ?_
  refine wc_region ?_
  refine wl_1 trivial rfl (do_assign rfl) ?_
  refine wl_1 trivial rfl (do_assign rfl) ?_
  refine wl_nil ?_
  refine at_then ?_
  refine wc_seq ?_
  refine wc_seq ?_
  refine wc_region ?_
  refine wl_1 trivial rfl (do_move rfl) ?_
  refine wl_do trivial rfl (do_call (may_nil B) ⟨rfl, trivial⟩ enters_80 [] [0] trivial ⟨rfl, trivial⟩ (R := [_]) (by decide)) ?_
  rintro _ _ ⟨_, ⟨rfl, rfl⟩, rfl⟩
  refine wl_1 trivial rfl (do_assign rfl) ?_
  refine wl_nil ?_
  refine at_then ?_
  refine wc_seq ?_
  refine wc_region ?_
  refine wl_1 trivial rfl (do_move rfl) ?_
  refine wl_1 trivial rfl (do_cmp (c := true) rfl rfl rfl) ?_
  refine wl_nil ?_
  refine at_then ?_
  refine wc_true rfl ?_
  refine wc_seq ?_
  refine wc_region ?_
  refine wl_1 trivial rfl (do_move rfl) ?_
  refine wl_1 trivial rfl (do_assign rfl) ?_
  refine wl_1 trivial rfl (do_assign rfl) ?_
  refine wl_nil ?_
  refine at_then ?_
  refine wc_ret ?_
  refine at_then_ret ?_
  exact at_ret2 (M := []) rfl rfl rfl ⟨rfl, rfl⟩ rfl

set_option maxRecDepth 100000 in
set_option maxHeartbeats 8000000 in
theorem get_zero (B : Ctx) (d : Nat) (name : ByteArray) :
    Tri Try.prog B 74 #[.pointer (some ⟨d, 0, none⟩), .string name] [pt d (.cells #[.int .i64 0, .bool false, .int .i64 0, .bool false, .int .i64 0, .map none, .map none, .slice none 0 0] 87 (0, 0))] (fun u M => u = .tuple #[.pointer none, .int .i64 1] ∧ M = [pt d (.cells #[.int .i64 0, .bool false, .int .i64 0, .bool false, .int .i64 0, .map none, .map none, .slice none 0 0] 87 (0, 0))]) := by
  refine tri_body (n := 26) Try.func74 rfl rfl rfl ?_
  intro F
  show WC _ _ _ _ _ _ _ [(0, .pointer (some ⟨d, 0, none⟩)), (1, .string name)] [pt d (.cells #[.int .i64 0, .bool false, .int .i64 0, .bool false, .int .i64 0, .map none, .map none, .slice none 0 0] 87 (0, 0)), F]
  refine wc_seq ?_
  refine wc_region ?_
  refine wl_1 trivial rfl (do_assign rfl) ?_
  refine wl_1 trivial rfl (do_assign rfl) ?_
  refine wl_nil ?_
  refine at_then ?_
  refine wc_seq ?_
  refine wc_seq ?_
  refine wc_region ?_
  refine wl_1 trivial rfl (do_move rfl) ?_
  refine wl_do trivial rfl (do_call (may_zero B d) ⟨rfl, trivial⟩ enters_80 [0] [1] ⟨rfl, trivial⟩ ⟨rfl, trivial⟩ (R := [_]) (by decide)) ?_
  rintro _ _ ⟨_, ⟨rfl, rfl⟩, rfl⟩
  refine wl_1 trivial rfl (do_assign rfl) ?_
  refine wl_nil ?_
  refine at_then ?_
  refine wc_seq ?_
  refine wc_region ?_
  refine wl_1 trivial rfl (do_move rfl) ?_
  refine wl_1 trivial rfl (do_cmp (c := true) rfl rfl rfl) ?_
  refine wl_nil ?_
  refine at_then ?_
  refine wc_true rfl ?_
  refine wc_seq ?_
  refine wc_region ?_
  refine wl_1 trivial rfl (do_move rfl) ?_
  refine wl_1 trivial rfl (do_assign rfl) ?_
  refine wl_1 trivial rfl (do_assign rfl) ?_
  refine wl_nil ?_
  refine at_then ?_
  refine wc_ret ?_
  refine at_then_ret ?_
  exact at_ret2 (M := [_]) rfl rfl rfl ⟨rfl, rfl⟩ rfl

set_option maxRecDepth 100000 in
set_option maxHeartbeats 8000000 in
theorem create_nil (B : Ctx) (name : ByteArray) :
    Tri Try.prog B 40 #[.pointer none, .string name] [] (fun u M => u = .int .i64 1 ∧ M = []) := by
  refine tri_body (n := 42) Try.func40 rfl rfl rfl ?_
  intro F
  show WC _ _ _ _ _ _ _ [(0, .pointer none), (1, .string name)] [F]
  refine wc_seq ?_
  refine wc_region ?_
  refine wl_1 trivial rfl (do_assign rfl) ?_
  refine wl_nil ?_
  refine at_then ?_
  refine wc_seq ?_
  refine wc_seq ?_
  refine wc_region ?_
  refine wl_1 trivial rfl (do_move rfl) ?_
  refine wl_do trivial rfl (do_call (may_nil B) ⟨rfl, trivial⟩ enters_80 [] [0] trivial ⟨rfl, trivial⟩ (R := [_]) (by decide)) ?_
  rintro _ _ ⟨_, ⟨rfl, rfl⟩, rfl⟩
  refine wl_1 trivial rfl (do_assign rfl) ?_
  refine wl_nil ?_
  refine at_then ?_
  refine wc_seq ?_
  refine wc_region ?_
  refine wl_1 trivial rfl (do_move rfl) ?_
  refine wl_1 trivial rfl (do_cmp (c := true) rfl rfl rfl) ?_
  refine wl_nil ?_
  refine at_then ?_
  refine wc_true rfl ?_
  refine wc_seq ?_
  refine wc_region ?_
  refine wl_1 trivial rfl (do_move rfl) ?_
  refine wl_1 trivial rfl (do_assign rfl) ?_
  refine wl_nil ?_
  refine at_then ?_
  refine wc_ret ?_
  refine at_then_ret ?_
  exact at_ret1 (M := []) rfl rfl ⟨rfl, rfl⟩ rfl

set_option maxRecDepth 100000 in
set_option maxHeartbeats 8000000 in
theorem create_zero (B : Ctx) (d : Nat) (name : ByteArray) :
    Tri Try.prog B 40 #[.pointer (some ⟨d, 0, none⟩), .string name] [pt d (.cells #[.int .i64 0, .bool false, .int .i64 0, .bool false, .int .i64 0, .map none, .map none, .slice none 0 0] 87 (0, 0))] (fun u M => u = .int .i64 1 ∧ M = [pt d (.cells #[.int .i64 0, .bool false, .int .i64 0, .bool false, .int .i64 0, .map none, .map none, .slice none 0 0] 87 (0, 0))]) := by
  refine tri_body (n := 42) Try.func40 rfl rfl rfl ?_
  intro F
  show WC _ _ _ _ _ _ _ [(0, .pointer (some ⟨d, 0, none⟩)), (1, .string name)] [pt d (.cells #[.int .i64 0, .bool false, .int .i64 0, .bool false, .int .i64 0, .map none, .map none, .slice none 0 0] 87 (0, 0)), F]
  refine wc_seq ?_
  refine wc_region ?_
  refine wl_1 trivial rfl (do_assign rfl) ?_
  refine wl_nil ?_
  refine at_then ?_
  refine wc_seq ?_
  refine wc_seq ?_
  refine wc_region ?_
  refine wl_1 trivial rfl (do_move rfl) ?_
  refine wl_do trivial rfl (do_call (may_zero B d) ⟨rfl, trivial⟩ enters_80 [0] [1] ⟨rfl, trivial⟩ ⟨rfl, trivial⟩ (R := [_]) (by decide)) ?_
  rintro _ _ ⟨_, ⟨rfl, rfl⟩, rfl⟩
  refine wl_1 trivial rfl (do_assign rfl) ?_
  refine wl_nil ?_
  refine at_then ?_
  refine wc_seq ?_
  refine wc_region ?_
  refine wl_1 trivial rfl (do_move rfl) ?_
  refine wl_1 trivial rfl (do_cmp (c := true) rfl rfl rfl) ?_
  refine wl_nil ?_
  refine at_then ?_
  refine wc_true rfl ?_
  refine wc_seq ?_
  refine wc_region ?_
  refine wl_1 trivial rfl (do_move rfl) ?_
  refine wl_1 trivial rfl (do_assign rfl) ?_
  refine wl_nil ?_
  refine at_then ?_
  refine wc_ret ?_
  refine at_then_ret ?_
  exact at_ret1 (M := [_]) rfl rfl ⟨rfl, rfl⟩ rfl

set_option maxRecDepth 100000 in
set_option maxHeartbeats 8000000 in
theorem append_nil (B : Ctx) (name : ByteArray) (ba : Option Addr) (bl bc : Nat) :
    Tri Try.prog B 41 #[.pointer none, .string name, .slice ba bl bc] [] (fun u M => u = .int .i64 1 ∧ M = []) := by
  refine tri_body (n := 51) Try.func41 rfl rfl rfl ?_
  intro F
  show WC _ _ _ _ _ _ _ [(0, .pointer none), (1, .string name), (2, .slice ba bl bc)] [F]
  refine wc_seq ?_
  refine wc_region ?_
  refine wl_1 trivial rfl (do_assign rfl) ?_
  refine wl_nil ?_
  refine at_then ?_
  refine wc_seq ?_
  refine wc_region ?_
  refine wl_1 trivial rfl (do_move rfl) ?_
  refine wl_1 trivial rfl (do_move rfl) ?_
  refine wl_do trivial rfl (do_call (get_nil B name) ⟨rfl, rfl, trivial⟩ enters_74 [] [0] trivial ⟨rfl, trivial⟩ (R := [_]) (by decide)) ?_
  rintro _ _ ⟨_, ⟨rfl, rfl⟩, rfl⟩
  refine wl_1 trivial rfl (do_move rfl) ?_
  refine wl_1 trivial rfl (do_extract rfl rfl) ?_
  refine wl_1 trivial rfl (do_extract rfl rfl) ?_
  refine wl_1 trivial rfl (do_assign rfl) ?_
  refine wl_1 trivial rfl (do_assign rfl) ?_
  refine wl_nil ?_
  refine at_then ?_
  refine wc_seq ?_
  refine wc_block ?_
  refine wc_seq ?_
  refine wc_region ?_
  refine wl_1 trivial rfl (do_move rfl) ?_
  refine wl_1 trivial rfl (do_cmp (c := true) rfl rfl rfl) ?_
  refine wl_1 trivial rfl (do_assign rfl) ?_
  refine wl_nil ?_
  refine at_then ?_
  refine wc_true rfl ?_
  refine wc_seq ?_
  refine wc_region ?_
  refine wl_1 trivial rfl (do_move rfl) ?_
  refine wl_1 trivial rfl (do_assign rfl) ?_
  refine wl_nil ?_
  refine at_then ?_
  refine wc_ret ?_
  refine at_block_ret ?_
  refine at_then_ret ?_
  exact at_ret1 (M := []) rfl rfl ⟨rfl, rfl⟩ rfl

set_option maxRecDepth 100000 in
set_option maxHeartbeats 8000000 in
theorem append_zero (B : Ctx) (d : Nat) (name : ByteArray) (ba : Option Addr) (bl bc : Nat) :
    Tri Try.prog B 41 #[.pointer (some ⟨d, 0, none⟩), .string name, .slice ba bl bc] [pt d (.cells #[.int .i64 0, .bool false, .int .i64 0, .bool false, .int .i64 0, .map none, .map none, .slice none 0 0] 87 (0, 0))] (fun u M => u = .int .i64 1 ∧ M = [pt d (.cells #[.int .i64 0, .bool false, .int .i64 0, .bool false, .int .i64 0, .map none, .map none, .slice none 0 0] 87 (0, 0))]) := by
  refine tri_body (n := 51) Try.func41 rfl rfl rfl ?_
  intro F
  show WC _ _ _ _ _ _ _ [(0, .pointer (some ⟨d, 0, none⟩)), (1, .string name), (2, .slice ba bl bc)] [pt d (.cells #[.int .i64 0, .bool false, .int .i64 0, .bool false, .int .i64 0, .map none, .map none, .slice none 0 0] 87 (0, 0)), F]
  refine wc_seq ?_
  refine wc_region ?_
  refine wl_1 trivial rfl (do_assign rfl) ?_
  refine wl_nil ?_
  refine at_then ?_
  refine wc_seq ?_
  refine wc_region ?_
  refine wl_1 trivial rfl (do_move rfl) ?_
  refine wl_1 trivial rfl (do_move rfl) ?_
  refine wl_do trivial rfl (do_call (get_zero B d name) ⟨rfl, rfl, trivial⟩ enters_74 [0] [1] ⟨rfl, trivial⟩ ⟨rfl, trivial⟩ (R := [_]) (by decide)) ?_
  rintro _ _ ⟨_, ⟨rfl, rfl⟩, rfl⟩
  refine wl_1 trivial rfl (do_move rfl) ?_
  refine wl_1 trivial rfl (do_extract rfl rfl) ?_
  refine wl_1 trivial rfl (do_extract rfl rfl) ?_
  refine wl_1 trivial rfl (do_assign rfl) ?_
  refine wl_1 trivial rfl (do_assign rfl) ?_
  refine wl_nil ?_
  refine at_then ?_
  refine wc_seq ?_
  refine wc_block ?_
  refine wc_seq ?_
  refine wc_region ?_
  refine wl_1 trivial rfl (do_move rfl) ?_
  refine wl_1 trivial rfl (do_cmp (c := true) rfl rfl rfl) ?_
  refine wl_1 trivial rfl (do_assign rfl) ?_
  refine wl_nil ?_
  refine at_then ?_
  refine wc_true rfl ?_
  refine wc_seq ?_
  refine wc_region ?_
  refine wl_1 trivial rfl (do_move rfl) ?_
  refine wl_1 trivial rfl (do_assign rfl) ?_
  refine wl_nil ?_
  refine at_then ?_
  refine wc_ret ?_
  refine at_block_ret ?_
  refine at_then_ret ?_
  exact at_ret1 (M := [_]) rfl rfl ⟨rfl, rfl⟩ rfl

set_option maxRecDepth 100000 in
set_option maxHeartbeats 8000000 in
theorem rename_nil (B : Ctx) (name : ByteArray) (to : ByteArray) :
    Tri Try.prog B 42 #[.pointer none, .string name, .string to] [] (fun u M => u = .int .i64 1 ∧ M = []) := by
  refine tri_body (n := 27) Try.func42 rfl rfl rfl ?_
  intro F
  show WC _ _ _ _ _ _ _ [(0, .pointer none), (1, .string name), (2, .string to)] [F]
  refine wc_seq ?_
  refine wc_region ?_
  refine wl_1 trivial rfl (do_assign rfl) ?_
  refine wl_nil ?_
  refine at_then ?_
  refine wc_seq ?_
  refine wc_seq ?_
  refine wc_region ?_
  refine wl_1 trivial rfl (do_move rfl) ?_
  refine wl_1 trivial rfl (do_move rfl) ?_
  refine wl_do trivial rfl (do_call (get_nil B name) ⟨rfl, rfl, trivial⟩ enters_74 [] [0] trivial ⟨rfl, trivial⟩ (R := [_]) (by decide)) ?_
  rintro _ _ ⟨_, ⟨rfl, rfl⟩, rfl⟩
  refine wl_1 trivial rfl (do_move rfl) ?_
  refine wl_1 trivial rfl (do_extract rfl rfl) ?_
  refine wl_1 trivial rfl (do_extract rfl rfl) ?_
  refine wl_1 trivial rfl (do_assign rfl) ?_
  refine wl_1 trivial rfl (do_assign rfl) ?_
  refine wl_nil ?_
  refine at_then ?_
  refine wc_seq ?_
  refine wc_region ?_
  refine wl_1 trivial rfl (do_move rfl) ?_
  refine wl_1 trivial rfl (do_cmp (c := true) rfl rfl rfl) ?_
  refine wl_nil ?_
  refine at_then ?_
  refine wc_true rfl ?_
  refine wc_seq ?_
  refine wc_region ?_
  refine wl_1 trivial rfl (do_move rfl) ?_
  refine wl_1 trivial rfl (do_assign rfl) ?_
  refine wl_nil ?_
  refine at_then ?_
  refine wc_ret ?_
  refine at_then_ret ?_
  exact at_ret1 (M := []) rfl rfl ⟨rfl, rfl⟩ rfl

set_option maxRecDepth 100000 in
set_option maxHeartbeats 8000000 in
theorem rename_zero (B : Ctx) (d : Nat) (name : ByteArray) (to : ByteArray) :
    Tri Try.prog B 42 #[.pointer (some ⟨d, 0, none⟩), .string name, .string to] [pt d (.cells #[.int .i64 0, .bool false, .int .i64 0, .bool false, .int .i64 0, .map none, .map none, .slice none 0 0] 87 (0, 0))] (fun u M => u = .int .i64 1 ∧ M = [pt d (.cells #[.int .i64 0, .bool false, .int .i64 0, .bool false, .int .i64 0, .map none, .map none, .slice none 0 0] 87 (0, 0))]) := by
  refine tri_body (n := 27) Try.func42 rfl rfl rfl ?_
  intro F
  show WC _ _ _ _ _ _ _ [(0, .pointer (some ⟨d, 0, none⟩)), (1, .string name), (2, .string to)] [pt d (.cells #[.int .i64 0, .bool false, .int .i64 0, .bool false, .int .i64 0, .map none, .map none, .slice none 0 0] 87 (0, 0)), F]
  refine wc_seq ?_
  refine wc_region ?_
  refine wl_1 trivial rfl (do_assign rfl) ?_
  refine wl_nil ?_
  refine at_then ?_
  refine wc_seq ?_
  refine wc_seq ?_
  refine wc_region ?_
  refine wl_1 trivial rfl (do_move rfl) ?_
  refine wl_1 trivial rfl (do_move rfl) ?_
  refine wl_do trivial rfl (do_call (get_zero B d name) ⟨rfl, rfl, trivial⟩ enters_74 [0] [1] ⟨rfl, trivial⟩ ⟨rfl, trivial⟩ (R := [_]) (by decide)) ?_
  rintro _ _ ⟨_, ⟨rfl, rfl⟩, rfl⟩
  refine wl_1 trivial rfl (do_move rfl) ?_
  refine wl_1 trivial rfl (do_extract rfl rfl) ?_
  refine wl_1 trivial rfl (do_extract rfl rfl) ?_
  refine wl_1 trivial rfl (do_assign rfl) ?_
  refine wl_1 trivial rfl (do_assign rfl) ?_
  refine wl_nil ?_
  refine at_then ?_
  refine wc_seq ?_
  refine wc_region ?_
  refine wl_1 trivial rfl (do_move rfl) ?_
  refine wl_1 trivial rfl (do_cmp (c := true) rfl rfl rfl) ?_
  refine wl_nil ?_
  refine at_then ?_
  refine wc_true rfl ?_
  refine wc_seq ?_
  refine wc_region ?_
  refine wl_1 trivial rfl (do_move rfl) ?_
  refine wl_1 trivial rfl (do_assign rfl) ?_
  refine wl_nil ?_
  refine at_then ?_
  refine wc_ret ?_
  refine at_then_ret ?_
  exact at_ret1 (M := [_]) rfl rfl ⟨rfl, rfl⟩ rfl

set_option maxRecDepth 100000 in
set_option maxHeartbeats 8000000 in
theorem remove_nil (B : Ctx) (name : ByteArray) :
    Tri Try.prog B 43 #[.pointer none, .string name] [] (fun u M => u = .int .i64 1 ∧ M = []) := by
  refine tri_body (n := 21) Try.func43 rfl rfl rfl ?_
  intro F
  show WC _ _ _ _ _ _ _ [(0, .pointer none), (1, .string name)] [F]
  refine wc_seq ?_
  refine wc_region ?_
  refine wl_1 trivial rfl (do_assign rfl) ?_
  refine wl_nil ?_
  refine at_then ?_
  refine wc_seq ?_
  refine wc_seq ?_
  refine wc_region ?_
  refine wl_1 trivial rfl (do_move rfl) ?_
  refine wl_1 trivial rfl (do_move rfl) ?_
  refine wl_do trivial rfl (do_call (get_nil B name) ⟨rfl, rfl, trivial⟩ enters_74 [] [0] trivial ⟨rfl, trivial⟩ (R := [_]) (by decide)) ?_
  rintro _ _ ⟨_, ⟨rfl, rfl⟩, rfl⟩
  refine wl_1 trivial rfl (do_move rfl) ?_
  refine wl_1 trivial rfl (do_extract rfl rfl) ?_
  refine wl_1 trivial rfl (do_extract rfl rfl) ?_
  refine wl_1 trivial rfl (do_assign rfl) ?_
  refine wl_1 trivial rfl (do_assign rfl) ?_
  refine wl_nil ?_
  refine at_then ?_
  refine wc_seq ?_
  refine wc_region ?_
  refine wl_1 trivial rfl (do_move rfl) ?_
  refine wl_1 trivial rfl (do_cmp (c := true) rfl rfl rfl) ?_
  refine wl_nil ?_
  refine at_then ?_
  refine wc_true rfl ?_
  refine wc_seq ?_
  refine wc_region ?_
  refine wl_1 trivial rfl (do_move rfl) ?_
  refine wl_1 trivial rfl (do_assign rfl) ?_
  refine wl_nil ?_
  refine at_then ?_
  refine wc_ret ?_
  refine at_then_ret ?_
  exact at_ret1 (M := []) rfl rfl ⟨rfl, rfl⟩ rfl

set_option maxRecDepth 100000 in
set_option maxHeartbeats 8000000 in
theorem remove_zero (B : Ctx) (d : Nat) (name : ByteArray) :
    Tri Try.prog B 43 #[.pointer (some ⟨d, 0, none⟩), .string name] [pt d (.cells #[.int .i64 0, .bool false, .int .i64 0, .bool false, .int .i64 0, .map none, .map none, .slice none 0 0] 87 (0, 0))] (fun u M => u = .int .i64 1 ∧ M = [pt d (.cells #[.int .i64 0, .bool false, .int .i64 0, .bool false, .int .i64 0, .map none, .map none, .slice none 0 0] 87 (0, 0))]) := by
  refine tri_body (n := 21) Try.func43 rfl rfl rfl ?_
  intro F
  show WC _ _ _ _ _ _ _ [(0, .pointer (some ⟨d, 0, none⟩)), (1, .string name)] [pt d (.cells #[.int .i64 0, .bool false, .int .i64 0, .bool false, .int .i64 0, .map none, .map none, .slice none 0 0] 87 (0, 0)), F]
  refine wc_seq ?_
  refine wc_region ?_
  refine wl_1 trivial rfl (do_assign rfl) ?_
  refine wl_nil ?_
  refine at_then ?_
  refine wc_seq ?_
  refine wc_seq ?_
  refine wc_region ?_
  refine wl_1 trivial rfl (do_move rfl) ?_
  refine wl_1 trivial rfl (do_move rfl) ?_
  refine wl_do trivial rfl (do_call (get_zero B d name) ⟨rfl, rfl, trivial⟩ enters_74 [0] [1] ⟨rfl, trivial⟩ ⟨rfl, trivial⟩ (R := [_]) (by decide)) ?_
  rintro _ _ ⟨_, ⟨rfl, rfl⟩, rfl⟩
  refine wl_1 trivial rfl (do_move rfl) ?_
  refine wl_1 trivial rfl (do_extract rfl rfl) ?_
  refine wl_1 trivial rfl (do_extract rfl rfl) ?_
  refine wl_1 trivial rfl (do_assign rfl) ?_
  refine wl_1 trivial rfl (do_assign rfl) ?_
  refine wl_nil ?_
  refine at_then ?_
  refine wc_seq ?_
  refine wc_region ?_
  refine wl_1 trivial rfl (do_move rfl) ?_
  refine wl_1 trivial rfl (do_cmp (c := true) rfl rfl rfl) ?_
  refine wl_nil ?_
  refine at_then ?_
  refine wc_true rfl ?_
  refine wc_seq ?_
  refine wc_region ?_
  refine wl_1 trivial rfl (do_move rfl) ?_
  refine wl_1 trivial rfl (do_assign rfl) ?_
  refine wl_nil ?_
  refine at_then ?_
  refine wc_ret ?_
  refine at_then_ret ?_
  exact at_ret1 (M := [_]) rfl rfl ⟨rfl, rfl⟩ rfl

set_option maxRecDepth 100000 in
set_option maxHeartbeats 8000000 in
theorem sync_nil (B : Ctx) (name : ByteArray) :
    Tri Try.prog B 44 #[.pointer none, .string name] [] (fun u M => u = .int .i64 1 ∧ M = []) := by
  refine tri_body (n := 34) Try.func44 rfl rfl rfl ?_
  intro F
  show WC _ _ _ _ _ _ _ [(0, .pointer none), (1, .string name)] [F]
  refine wc_seq ?_
  refine wc_region ?_
  refine wl_1 trivial rfl (do_assign rfl) ?_
  refine wl_nil ?_
  refine at_then ?_
  refine wc_seq ?_
  refine wc_region ?_
  refine wl_1 trivial rfl (do_move rfl) ?_
  refine wl_1 trivial rfl (do_move rfl) ?_
  refine wl_do trivial rfl (do_call (get_nil B name) ⟨rfl, rfl, trivial⟩ enters_74 [] [0] trivial ⟨rfl, trivial⟩ (R := [_]) (by decide)) ?_
  rintro _ _ ⟨_, ⟨rfl, rfl⟩, rfl⟩
  refine wl_1 trivial rfl (do_move rfl) ?_
  refine wl_1 trivial rfl (do_extract rfl rfl) ?_
  refine wl_1 trivial rfl (do_extract rfl rfl) ?_
  refine wl_1 trivial rfl (do_assign rfl) ?_
  refine wl_1 trivial rfl (do_assign rfl) ?_
  refine wl_nil ?_
  refine at_then ?_
  refine wc_seq ?_
  refine wc_seq ?_
  refine wc_region ?_
  refine wl_1 trivial rfl (do_move rfl) ?_
  refine wl_1 trivial rfl (do_cmp (c := true) rfl rfl rfl) ?_
  refine wl_nil ?_
  refine at_then ?_
  refine wc_true rfl ?_
  refine wc_seq ?_
  refine wc_region ?_
  refine wl_1 trivial rfl (do_move rfl) ?_
  refine wl_1 trivial rfl (do_assign rfl) ?_
  refine wl_nil ?_
  refine at_then ?_
  refine wc_ret ?_
  refine at_then_ret ?_
  exact at_ret1 (M := []) rfl rfl ⟨rfl, rfl⟩ rfl

set_option maxRecDepth 100000 in
set_option maxHeartbeats 8000000 in
theorem sync_zero (B : Ctx) (d : Nat) (name : ByteArray) :
    Tri Try.prog B 44 #[.pointer (some ⟨d, 0, none⟩), .string name] [pt d (.cells #[.int .i64 0, .bool false, .int .i64 0, .bool false, .int .i64 0, .map none, .map none, .slice none 0 0] 87 (0, 0))] (fun u M => u = .int .i64 1 ∧ M = [pt d (.cells #[.int .i64 0, .bool false, .int .i64 0, .bool false, .int .i64 0, .map none, .map none, .slice none 0 0] 87 (0, 0))]) := by
  refine tri_body (n := 34) Try.func44 rfl rfl rfl ?_
  intro F
  show WC _ _ _ _ _ _ _ [(0, .pointer (some ⟨d, 0, none⟩)), (1, .string name)] [pt d (.cells #[.int .i64 0, .bool false, .int .i64 0, .bool false, .int .i64 0, .map none, .map none, .slice none 0 0] 87 (0, 0)), F]
  refine wc_seq ?_
  refine wc_region ?_
  refine wl_1 trivial rfl (do_assign rfl) ?_
  refine wl_nil ?_
  refine at_then ?_
  refine wc_seq ?_
  refine wc_region ?_
  refine wl_1 trivial rfl (do_move rfl) ?_
  refine wl_1 trivial rfl (do_move rfl) ?_
  refine wl_do trivial rfl (do_call (get_zero B d name) ⟨rfl, rfl, trivial⟩ enters_74 [0] [1] ⟨rfl, trivial⟩ ⟨rfl, trivial⟩ (R := [_]) (by decide)) ?_
  rintro _ _ ⟨_, ⟨rfl, rfl⟩, rfl⟩
  refine wl_1 trivial rfl (do_move rfl) ?_
  refine wl_1 trivial rfl (do_extract rfl rfl) ?_
  refine wl_1 trivial rfl (do_extract rfl rfl) ?_
  refine wl_1 trivial rfl (do_assign rfl) ?_
  refine wl_1 trivial rfl (do_assign rfl) ?_
  refine wl_nil ?_
  refine at_then ?_
  refine wc_seq ?_
  refine wc_seq ?_
  refine wc_region ?_
  refine wl_1 trivial rfl (do_move rfl) ?_
  refine wl_1 trivial rfl (do_cmp (c := true) rfl rfl rfl) ?_
  refine wl_nil ?_
  refine at_then ?_
  refine wc_true rfl ?_
  refine wc_seq ?_
  refine wc_region ?_
  refine wl_1 trivial rfl (do_move rfl) ?_
  refine wl_1 trivial rfl (do_assign rfl) ?_
  refine wl_nil ?_
  refine at_then ?_
  refine wc_ret ?_
  refine at_then_ret ?_
  exact at_ret1 (M := [_]) rfl rfl ⟨rfl, rfl⟩ rfl

set_option maxRecDepth 100000 in
set_option maxHeartbeats 8000000 in
theorem syncdir_nil (B : Ctx)  :
    Tri Try.prog B 45 #[.pointer none] [] (fun u M => u = .int .i64 1 ∧ M = []) := by
  refine tri_body (n := 31) Try.func45 rfl rfl rfl ?_
  intro F
  show WC _ _ _ _ _ _ _ [(0, .pointer none)] [F]
  refine wc_seq ?_
  refine wc_region ?_
  refine wl_1 trivial rfl (do_assign rfl) ?_
  refine wl_nil ?_
  refine at_then ?_
  refine wc_seq ?_
  refine wc_seq ?_
  refine wc_region ?_
  refine wl_1 trivial rfl (do_move rfl) ?_
  refine wl_do trivial rfl (do_call (may_nil B) ⟨rfl, trivial⟩ enters_80 [] [0] trivial ⟨rfl, trivial⟩ (R := [_]) (by decide)) ?_
  rintro _ _ ⟨_, ⟨rfl, rfl⟩, rfl⟩
  refine wl_1 trivial rfl (do_assign rfl) ?_
  refine wl_nil ?_
  refine at_then ?_
  refine wc_seq ?_
  refine wc_region ?_
  refine wl_1 trivial rfl (do_move rfl) ?_
  refine wl_1 trivial rfl (do_cmp (c := true) rfl rfl rfl) ?_
  refine wl_nil ?_
  refine at_then ?_
  refine wc_true rfl ?_
  refine wc_seq ?_
  refine wc_region ?_
  refine wl_1 trivial rfl (do_move rfl) ?_
  refine wl_1 trivial rfl (do_assign rfl) ?_
  refine wl_nil ?_
  refine at_then ?_
  refine wc_ret ?_
  refine at_then_ret ?_
  exact at_ret1 (M := []) rfl rfl ⟨rfl, rfl⟩ rfl

set_option maxRecDepth 100000 in
set_option maxHeartbeats 8000000 in
theorem syncdir_zero (B : Ctx) (d : Nat)  :
    Tri Try.prog B 45 #[.pointer (some ⟨d, 0, none⟩)] [pt d (.cells #[.int .i64 0, .bool false, .int .i64 0, .bool false, .int .i64 0, .map none, .map none, .slice none 0 0] 87 (0, 0))] (fun u M => u = .int .i64 1 ∧ M = [pt d (.cells #[.int .i64 0, .bool false, .int .i64 0, .bool false, .int .i64 0, .map none, .map none, .slice none 0 0] 87 (0, 0))]) := by
  refine tri_body (n := 31) Try.func45 rfl rfl rfl ?_
  intro F
  show WC _ _ _ _ _ _ _ [(0, .pointer (some ⟨d, 0, none⟩))] [pt d (.cells #[.int .i64 0, .bool false, .int .i64 0, .bool false, .int .i64 0, .map none, .map none, .slice none 0 0] 87 (0, 0)), F]
  refine wc_seq ?_
  refine wc_region ?_
  refine wl_1 trivial rfl (do_assign rfl) ?_
  refine wl_nil ?_
  refine at_then ?_
  refine wc_seq ?_
  refine wc_seq ?_
  refine wc_region ?_
  refine wl_1 trivial rfl (do_move rfl) ?_
  refine wl_do trivial rfl (do_call (may_zero B d) ⟨rfl, trivial⟩ enters_80 [0] [1] ⟨rfl, trivial⟩ ⟨rfl, trivial⟩ (R := [_]) (by decide)) ?_
  rintro _ _ ⟨_, ⟨rfl, rfl⟩, rfl⟩
  refine wl_1 trivial rfl (do_assign rfl) ?_
  refine wl_nil ?_
  refine at_then ?_
  refine wc_seq ?_
  refine wc_region ?_
  refine wl_1 trivial rfl (do_move rfl) ?_
  refine wl_1 trivial rfl (do_cmp (c := true) rfl rfl rfl) ?_
  refine wl_nil ?_
  refine at_then ?_
  refine wc_true rfl ?_
  refine wc_seq ?_
  refine wc_region ?_
  refine wl_1 trivial rfl (do_move rfl) ?_
  refine wl_1 trivial rfl (do_assign rfl) ?_
  refine wl_nil ?_
  refine at_then ?_
  refine wc_ret ?_
  refine at_then_ret ?_
  exact at_ret1 (M := [_]) rfl rfl ⟨rfl, rfl⟩ rfl

set_option maxRecDepth 100000 in
set_option maxHeartbeats 8000000 in
theorem read_nil (B : Ctx) (name : ByteArray) :
    Tri Try.prog B 34 #[.pointer none, .string name] [] (fun u M => u = .tuple #[.slice none 0 0, .int .i64 1] ∧ M = []) := by
  refine tri_body (n := 19) Try.func34 rfl rfl rfl ?_
  intro F
  show WC _ _ _ _ _ _ _ [(0, .pointer none), (1, .string name)] [F]
  refine wc_seq ?_
  refine wc_region ?_
  refine wl_1 trivial rfl (do_assign rfl) ?_
  refine wl_1 trivial rfl (do_assign rfl) ?_
  refine wl_nil ?_
  refine at_then ?_
  refine wc_seq ?_
  refine wc_region ?_
  refine wl_1 trivial rfl (do_move rfl) ?_
  refine wl_1 trivial rfl (do_move rfl) ?_
  refine wl_do trivial rfl (do_call (get_nil B name) ⟨rfl, rfl, trivial⟩ enters_74 [] [0] trivial ⟨rfl, trivial⟩ (R := [_]) (by decide)) ?_
  rintro _ _ ⟨_, ⟨rfl, rfl⟩, rfl⟩
  refine wl_1 trivial rfl (do_move rfl) ?_
  refine wl_1 trivial rfl (do_extract rfl rfl) ?_
  refine wl_1 trivial rfl (do_extract rfl rfl) ?_
  refine wl_1 trivial rfl (do_assign rfl) ?_
  refine wl_1 trivial rfl (do_assign rfl) ?_
  refine wl_nil ?_
  refine at_then ?_
  refine wc_seq ?_
  refine wc_seq ?_
  refine wc_region ?_
  refine wl_1 trivial rfl (do_move rfl) ?_
  refine wl_1 trivial rfl (do_cmp (c := true) rfl rfl rfl) ?_
  refine wl_nil ?_
  refine at_then ?_
  refine wc_true rfl ?_
  refine wc_seq ?_
  refine wc_region ?_
  refine wl_1 trivial rfl (do_move rfl) ?_
  refine wl_1 trivial rfl (do_assign rfl) ?_
  refine wl_1 trivial rfl (do_assign rfl) ?_
  refine wl_nil ?_
  refine at_then ?_
  refine wc_ret ?_
  refine at_then_ret ?_
  exact at_ret2 (M := []) rfl rfl rfl ⟨rfl, rfl⟩ rfl

set_option maxRecDepth 100000 in
set_option maxHeartbeats 8000000 in
theorem read_zero (B : Ctx) (d : Nat) (name : ByteArray) :
    Tri Try.prog B 34 #[.pointer (some ⟨d, 0, none⟩), .string name] [pt d (.cells #[.int .i64 0, .bool false, .int .i64 0, .bool false, .int .i64 0, .map none, .map none, .slice none 0 0] 87 (0, 0))] (fun u M => u = .tuple #[.slice none 0 0, .int .i64 1] ∧ M = [pt d (.cells #[.int .i64 0, .bool false, .int .i64 0, .bool false, .int .i64 0, .map none, .map none, .slice none 0 0] 87 (0, 0))]) := by
  refine tri_body (n := 19) Try.func34 rfl rfl rfl ?_
  intro F
  show WC _ _ _ _ _ _ _ [(0, .pointer (some ⟨d, 0, none⟩)), (1, .string name)] [pt d (.cells #[.int .i64 0, .bool false, .int .i64 0, .bool false, .int .i64 0, .map none, .map none, .slice none 0 0] 87 (0, 0)), F]
  refine wc_seq ?_
  refine wc_region ?_
  refine wl_1 trivial rfl (do_assign rfl) ?_
  refine wl_1 trivial rfl (do_assign rfl) ?_
  refine wl_nil ?_
  refine at_then ?_
  refine wc_seq ?_
  refine wc_region ?_
  refine wl_1 trivial rfl (do_move rfl) ?_
  refine wl_1 trivial rfl (do_move rfl) ?_
  refine wl_do trivial rfl (do_call (get_zero B d name) ⟨rfl, rfl, trivial⟩ enters_74 [0] [1] ⟨rfl, trivial⟩ ⟨rfl, trivial⟩ (R := [_]) (by decide)) ?_
  rintro _ _ ⟨_, ⟨rfl, rfl⟩, rfl⟩
  refine wl_1 trivial rfl (do_move rfl) ?_
  refine wl_1 trivial rfl (do_extract rfl rfl) ?_
  refine wl_1 trivial rfl (do_extract rfl rfl) ?_
  refine wl_1 trivial rfl (do_assign rfl) ?_
  refine wl_1 trivial rfl (do_assign rfl) ?_
  refine wl_nil ?_
  refine at_then ?_
  refine wc_seq ?_
  refine wc_seq ?_
  refine wc_region ?_
  refine wl_1 trivial rfl (do_move rfl) ?_
  refine wl_1 trivial rfl (do_cmp (c := true) rfl rfl rfl) ?_
  refine wl_nil ?_
  refine at_then ?_
  refine wc_true rfl ?_
  refine wc_seq ?_
  refine wc_region ?_
  refine wl_1 trivial rfl (do_move rfl) ?_
  refine wl_1 trivial rfl (do_assign rfl) ?_
  refine wl_1 trivial rfl (do_assign rfl) ?_
  refine wl_nil ?_
  refine at_then ?_
  refine wc_ret ?_
  refine at_then_ret ?_
  exact at_ret2 (M := [_]) rfl rfl rfl ⟨rfl, rfl⟩ rfl

set_option maxRecDepth 100000 in
set_option maxHeartbeats 8000000 in
theorem list_nil (B : Ctx)  :
    Tri Try.prog B 33 #[.pointer none] [] (fun u M => u = .slice none 0 0 ∧ M = []) := by
  refine tri_body (n := 11) Try.func33 rfl rfl rfl ?_
  intro F
  show WC _ _ _ _ _ _ _ [(0, .pointer none)] [F]
  refine wc_seq ?_
  refine wc_region ?_
  refine wl_1 trivial rfl (do_assign rfl) ?_
  refine wl_nil ?_
  refine at_then ?_
  refine wc_seq ?_
  refine wc_seq ?_
  refine wc_region ?_
  refine wl_1 trivial rfl (do_move rfl) ?_
  refine wl_do trivial rfl (do_call (none_nil B) ⟨rfl, trivial⟩ enters_72 [] [0] trivial ⟨rfl, trivial⟩ (R := [_]) (by decide)) ?_
  rintro _ _ ⟨_, ⟨rfl, rfl⟩, rfl⟩
  refine wl_nil ?_
  refine at_then ?_
  refine wc_true rfl ?_
  refine wc_seq ?_
  refine wc_region ?_
  refine wl_1 trivial rfl (do_assign rfl) ?_
  refine wl_nil ?_
  refine at_then ?_
  refine wc_ret ?_
  refine at_then_ret ?_
  exact at_ret1 (M := []) rfl rfl ⟨rfl, rfl⟩ rfl

set_option maxRecDepth 100000 in
set_option maxHeartbeats 8000000 in
theorem list_zero (B : Ctx) (d : Nat)  :
    Tri Try.prog B 33 #[.pointer (some ⟨d, 0, none⟩)] [pt d (.cells #[.int .i64 0, .bool false, .int .i64 0, .bool false, .int .i64 0, .map none, .map none, .slice none 0 0] 87 (0, 0))] (fun u M => u = .slice none 0 0 ∧ M = [pt d (.cells #[.int .i64 0, .bool false, .int .i64 0, .bool false, .int .i64 0, .map none, .map none, .slice none 0 0] 87 (0, 0))]) := by
  refine tri_body (n := 11) Try.func33 rfl rfl rfl ?_
  intro F
  show WC _ _ _ _ _ _ _ [(0, .pointer (some ⟨d, 0, none⟩))] [pt d (.cells #[.int .i64 0, .bool false, .int .i64 0, .bool false, .int .i64 0, .map none, .map none, .slice none 0 0] 87 (0, 0)), F]
  refine wc_seq ?_
  refine wc_region ?_
  refine wl_1 trivial rfl (do_assign rfl) ?_
  refine wl_nil ?_
  refine at_then ?_
  refine wc_seq ?_
  refine wc_seq ?_
  refine wc_region ?_
  refine wl_1 trivial rfl (do_move rfl) ?_
  refine wl_do trivial rfl (do_call (none_zero B d) ⟨rfl, trivial⟩ enters_72 [0] [1] ⟨rfl, trivial⟩ ⟨rfl, trivial⟩ (R := [_]) (by decide)) ?_
  rintro _ _ ⟨_, ⟨rfl, rfl⟩, rfl⟩
  refine wl_nil ?_
  refine at_then ?_
  refine wc_true rfl ?_
  refine wc_seq ?_
  refine wc_region ?_
  refine wl_1 trivial rfl (do_assign rfl) ?_
  refine wl_nil ?_
  refine at_then ?_
  refine wc_ret ?_
  refine at_then_ret ?_
  exact at_ret1 (M := [_]) rfl rfl ⟨rfl, rfl⟩ rfl

set_option maxRecDepth 100000 in
set_option maxHeartbeats 8000000 in
theorem used_nil (B : Ctx)  :
    Tri Try.prog B 39 #[.pointer none] [] (fun u M => u = .int .i64 0 ∧ M = []) := by
  refine tri_body (n := 25) Try.func39 rfl rfl rfl ?_
  intro F
  show WC _ _ _ _ _ _ _ [(0, .pointer none)] [F]
  refine wc_seq ?_
  refine wc_region ?_
  refine wl_1 trivial rfl (do_assign rfl) ?_
  refine wl_nil ?_
  refine at_then ?_
  refine wc_seq ?_
  refine wc_region ?_
  refine wl_1 trivial rfl (do_assign rfl) ?_
  refine wl_nil ?_
  refine at_then ?_
  refine wc_seq ?_
  refine wc_seq ?_
  refine wc_region ?_
  refine wl_1 trivial rfl (do_move rfl) ?_
  refine wl_do trivial rfl (do_call (list_nil B ) ⟨rfl, trivial⟩ enters_33 [] [0] trivial ⟨rfl, trivial⟩ (R := [_]) (by decide)) ?_
  rintro _ _ ⟨_, ⟨rfl, rfl⟩, rfl⟩
  refine wl_1 trivial rfl (do_lenSlice rfl isSlice_39 rfl) ?_
  refine wl_1 trivial rfl (do_move rfl) ?_
  refine wl_nil ?_
  refine at_then ?_
  refine wc_block ?_
  refine wc_rounds 0 ?_
  refine wc_seq ?_
  refine wc_region ?_
  refine wl_1 trivial rfl (do_cmp (c := false) rfl rfl rfl) ?_
  refine wl_nil ?_
  refine at_then ?_
  refine wc_seq ?_
  refine wc_false rfl ?_
  refine wc_exit ?_
  refine at_then_exit ?_
  refine at_then_exit ?_
  refine at_block_it ?_
  refine at_then ?_
  refine wc_seq ?_
  refine wc_region ?_
  refine wl_1 trivial rfl (do_move rfl) ?_
  refine wl_1 trivial rfl (do_assign rfl) ?_
  refine wl_nil ?_
  refine at_then ?_
  refine wc_ret ?_
  exact at_ret1 (M := []) rfl rfl ⟨rfl, rfl⟩ rfl

set_option maxRecDepth 100000 in
set_option maxHeartbeats 8000000 in
theorem used_zero (B : Ctx) (d : Nat)  :
    Tri Try.prog B 39 #[.pointer (some ⟨d, 0, none⟩)] [pt d (.cells #[.int .i64 0, .bool false, .int .i64 0, .bool false, .int .i64 0, .map none, .map none, .slice none 0 0] 87 (0, 0))] (fun u M => u = .int .i64 0 ∧ M = [pt d (.cells #[.int .i64 0, .bool false, .int .i64 0, .bool false, .int .i64 0, .map none, .map none, .slice none 0 0] 87 (0, 0))]) := by
  refine tri_body (n := 25) Try.func39 rfl rfl rfl ?_
  intro F
  show WC _ _ _ _ _ _ _ [(0, .pointer (some ⟨d, 0, none⟩))] [pt d (.cells #[.int .i64 0, .bool false, .int .i64 0, .bool false, .int .i64 0, .map none, .map none, .slice none 0 0] 87 (0, 0)), F]
  refine wc_seq ?_
  refine wc_region ?_
  refine wl_1 trivial rfl (do_assign rfl) ?_
  refine wl_nil ?_
  refine at_then ?_
  refine wc_seq ?_
  refine wc_region ?_
  refine wl_1 trivial rfl (do_assign rfl) ?_
  refine wl_nil ?_
  refine at_then ?_
  refine wc_seq ?_
  refine wc_seq ?_
  refine wc_region ?_
  refine wl_1 trivial rfl (do_move rfl) ?_
  refine wl_do trivial rfl (do_call (list_zero B d ) ⟨rfl, trivial⟩ enters_33 [0] [1] ⟨rfl, trivial⟩ ⟨rfl, trivial⟩ (R := [_]) (by decide)) ?_
  rintro _ _ ⟨_, ⟨rfl, rfl⟩, rfl⟩
  refine wl_1 trivial rfl (do_lenSlice rfl isSlice_39 rfl) ?_
  refine wl_1 trivial rfl (do_move rfl) ?_
  refine wl_nil ?_
  refine at_then ?_
  refine wc_block ?_
  refine wc_rounds 0 ?_
  refine wc_seq ?_
  refine wc_region ?_
  refine wl_1 trivial rfl (do_cmp (c := false) rfl rfl rfl) ?_
  refine wl_nil ?_
  refine at_then ?_
  refine wc_seq ?_
  refine wc_false rfl ?_
  refine wc_exit ?_
  refine at_then_exit ?_
  refine at_then_exit ?_
  refine at_block_it ?_
  refine at_then ?_
  refine wc_seq ?_
  refine wc_region ?_
  refine wl_1 trivial rfl (do_move rfl) ?_
  refine wl_1 trivial rfl (do_assign rfl) ?_
  refine wl_nil ?_
  refine at_then ?_
  refine wc_ret ?_
  exact at_ret1 (M := [_]) rfl rfl ⟨rfl, rfl⟩ rfl

set_option maxRecDepth 100000 in
set_option maxHeartbeats 8000000 in
theorem free_nil (B : Ctx)  :
    Tri Try.prog B 46 #[.pointer none] [] (fun u M => u = .int .i64 0 ∧ M = []) := by
  refine tri_body (n := 12) Try.func46 rfl rfl rfl ?_
  intro F
  show WC _ _ _ _ _ _ _ [(0, .pointer none)] [F]
  refine wc_seq ?_
  refine wc_region ?_
  refine wl_1 trivial rfl (do_assign rfl) ?_
  refine wl_nil ?_
  refine at_then ?_
  refine wc_seq ?_
  refine wc_seq ?_
  refine wc_region ?_
  refine wl_1 trivial rfl (do_move rfl) ?_
  refine wl_do trivial rfl (do_call (none_nil B) ⟨rfl, trivial⟩ enters_72 [] [0] trivial ⟨rfl, trivial⟩ (R := [_]) (by decide)) ?_
  rintro _ _ ⟨_, ⟨rfl, rfl⟩, rfl⟩
  refine wl_nil ?_
  refine at_then ?_
  refine wc_true rfl ?_
  refine wc_seq ?_
  refine wc_region ?_
  refine wl_1 trivial rfl (do_assign rfl) ?_
  refine wl_nil ?_
  refine at_then ?_
  refine wc_ret ?_
  refine at_then_ret ?_
  exact at_ret1 (M := []) rfl rfl ⟨rfl, rfl⟩ rfl

set_option maxRecDepth 100000 in
set_option maxHeartbeats 8000000 in
theorem free_zero (B : Ctx) (d : Nat)  :
    Tri Try.prog B 46 #[.pointer (some ⟨d, 0, none⟩)] [pt d (.cells #[.int .i64 0, .bool false, .int .i64 0, .bool false, .int .i64 0, .map none, .map none, .slice none 0 0] 87 (0, 0))] (fun u M => u = .int .i64 0 ∧ M = [pt d (.cells #[.int .i64 0, .bool false, .int .i64 0, .bool false, .int .i64 0, .map none, .map none, .slice none 0 0] 87 (0, 0))]) := by
  refine tri_body (n := 12) Try.func46 rfl rfl rfl ?_
  intro F
  show WC _ _ _ _ _ _ _ [(0, .pointer (some ⟨d, 0, none⟩))] [pt d (.cells #[.int .i64 0, .bool false, .int .i64 0, .bool false, .int .i64 0, .map none, .map none, .slice none 0 0] 87 (0, 0)), F]
  refine wc_seq ?_
  refine wc_region ?_
  refine wl_1 trivial rfl (do_assign rfl) ?_
  refine wl_nil ?_
  refine at_then ?_
  refine wc_seq ?_
  refine wc_seq ?_
  refine wc_region ?_
  refine wl_1 trivial rfl (do_move rfl) ?_
  refine wl_do trivial rfl (do_call (none_zero B d) ⟨rfl, trivial⟩ enters_72 [0] [1] ⟨rfl, trivial⟩ ⟨rfl, trivial⟩ (R := [_]) (by decide)) ?_
  rintro _ _ ⟨_, ⟨rfl, rfl⟩, rfl⟩
  refine wl_nil ?_
  refine at_then ?_
  refine wc_true rfl ?_
  refine wc_seq ?_
  refine wc_region ?_
  refine wl_1 trivial rfl (do_assign rfl) ?_
  refine wl_nil ?_
  refine at_then ?_
  refine wc_ret ?_
  refine at_then_ret ?_
  exact at_ret1 (M := [_]) rfl rfl ⟨rfl, rfl⟩ rfl

set_option maxRecDepth 100000 in
set_option maxHeartbeats 8000000 in
theorem down_nil (B : Ctx)  :
    Tri Try.prog B 47 #[.pointer none] [] (fun u M => u = .bool false ∧ M = []) := by
  refine tri_body (n := 13) Try.func47 rfl rfl rfl ?_
  intro F
  show WC _ _ _ _ _ _ _ [(0, .pointer none)] [F]
  refine wc_seq ?_
  refine wc_region ?_
  refine wl_1 trivial rfl (do_assign rfl) ?_
  refine wl_nil ?_
  refine at_then ?_
  refine wc_seq ?_
  refine wc_region ?_
  refine wl_1 trivial rfl (do_move rfl) ?_
  refine wl_do trivial rfl (do_call (none_nil B) ⟨rfl, trivial⟩ enters_72 [] [0] trivial ⟨rfl, trivial⟩ (R := [_]) (by decide)) ?_
  rintro _ _ ⟨_, ⟨rfl, rfl⟩, rfl⟩
  refine wl_1 trivial rfl (do_not (c := true) rfl) ?_
  refine wl_1 trivial rfl (do_move rfl) ?_
  refine wl_no rfl rfl rfl rfl rfl ?_
  refine wl_no rfl rfl rfl rfl rfl ?_
  refine wl_no rfl rfl rfl rfl rfl ?_
  refine wl_no rfl rfl rfl rfl rfl ?_
  refine wl_no rfl rfl rfl rfl rfl ?_
  refine wl_1 trivial rfl (do_pickF rfl rfl) ?_
  refine wl_1 trivial rfl (do_assign rfl) ?_
  refine wl_nil ?_
  refine at_then ?_
  refine wc_ret ?_
  exact at_ret1 (M := []) rfl rfl ⟨rfl, rfl⟩ rfl

set_option maxRecDepth 100000 in
set_option maxHeartbeats 8000000 in
theorem down_zero (B : Ctx) (d : Nat)  :
    Tri Try.prog B 47 #[.pointer (some ⟨d, 0, none⟩)] [pt d (.cells #[.int .i64 0, .bool false, .int .i64 0, .bool false, .int .i64 0, .map none, .map none, .slice none 0 0] 87 (0, 0))] (fun u M => u = .bool false ∧ M = [pt d (.cells #[.int .i64 0, .bool false, .int .i64 0, .bool false, .int .i64 0, .map none, .map none, .slice none 0 0] 87 (0, 0))]) := by
  refine tri_body (n := 13) Try.func47 rfl rfl rfl ?_
  intro F
  show WC _ _ _ _ _ _ _ [(0, .pointer (some ⟨d, 0, none⟩))] [pt d (.cells #[.int .i64 0, .bool false, .int .i64 0, .bool false, .int .i64 0, .map none, .map none, .slice none 0 0] 87 (0, 0)), F]
  refine wc_seq ?_
  refine wc_region ?_
  refine wl_1 trivial rfl (do_assign rfl) ?_
  refine wl_nil ?_
  refine at_then ?_
  refine wc_seq ?_
  refine wc_region ?_
  refine wl_1 trivial rfl (do_move rfl) ?_
  refine wl_do trivial rfl (do_call (none_zero B d) ⟨rfl, trivial⟩ enters_72 [0] [1] ⟨rfl, trivial⟩ ⟨rfl, trivial⟩ (R := [_]) (by decide)) ?_
  rintro _ _ ⟨_, ⟨rfl, rfl⟩, rfl⟩
  refine wl_1 trivial rfl (do_not (c := true) rfl) ?_
  refine wl_1 trivial rfl (do_move rfl) ?_
  refine wl_no rfl rfl rfl rfl rfl ?_
  refine wl_no rfl rfl rfl rfl rfl ?_
  refine wl_no rfl rfl rfl rfl rfl ?_
  refine wl_no rfl rfl rfl rfl rfl ?_
  refine wl_no rfl rfl rfl rfl rfl ?_
  refine wl_1 trivial rfl (do_pickF rfl rfl) ?_
  refine wl_1 trivial rfl (do_assign rfl) ?_
  refine wl_nil ?_
  refine at_then ?_
  refine wc_ret ?_
  exact at_ret1 (M := [_]) rfl rfl ⟨rfl, rfl⟩ rfl

set_option maxRecDepth 100000 in
set_option maxHeartbeats 8000000 in
theorem fail_nil (B : Ctx) (k : Int) (yes : Bool) :
    Tri Try.prog B 38 #[.pointer none, .int .i64 k, .bool yes] [] (fun u M => u = .tuple #[] ∧ M = []) := by
  refine tri_body (n := 20) Try.func38 rfl rfl rfl ?_
  intro F
  show WC _ _ _ _ _ _ _ [(0, .pointer none), (1, .int .i64 k), (2, .bool yes)] [F]
  refine wc_seq ?_
  refine wc_region ?_
  refine wl_1 trivial rfl (do_move rfl) ?_
  refine wl_do trivial rfl (do_call (none_nil B) ⟨rfl, trivial⟩ enters_72 [] [0] trivial ⟨rfl, trivial⟩ (R := [_]) (by decide)) ?_
  rintro _ _ ⟨_, ⟨rfl, rfl⟩, rfl⟩
  refine wl_1 trivial rfl (do_not (c := true) rfl) ?_
  refine wl_nil ?_
  refine at_then ?_
  refine wc_false rfl ?_
  refine wc_skip ?_
  exact at_end0 (M := []) rfl ⟨rfl, rfl⟩ rfl

set_option maxRecDepth 100000 in
set_option maxHeartbeats 8000000 in
theorem fail_zero (B : Ctx) (d : Nat) (k : Int) (yes : Bool) :
    Tri Try.prog B 38 #[.pointer (some ⟨d, 0, none⟩), .int .i64 k, .bool yes] [pt d (.cells #[.int .i64 0, .bool false, .int .i64 0, .bool false, .int .i64 0, .map none, .map none, .slice none 0 0] 87 (0, 0))] (fun u M => u = .tuple #[] ∧ M = [pt d (.cells #[.int .i64 0, .bool false, .int .i64 0, .bool false, .int .i64 0, .map none, .map none, .slice none 0 0] 87 (0, 0))]) := by
  refine tri_body (n := 20) Try.func38 rfl rfl rfl ?_
  intro F
  show WC _ _ _ _ _ _ _ [(0, .pointer (some ⟨d, 0, none⟩)), (1, .int .i64 k), (2, .bool yes)] [pt d (.cells #[.int .i64 0, .bool false, .int .i64 0, .bool false, .int .i64 0, .map none, .map none, .slice none 0 0] 87 (0, 0)), F]
  refine wc_seq ?_
  refine wc_region ?_
  refine wl_1 trivial rfl (do_move rfl) ?_
  refine wl_do trivial rfl (do_call (none_zero B d) ⟨rfl, trivial⟩ enters_72 [0] [1] ⟨rfl, trivial⟩ ⟨rfl, trivial⟩ (R := [_]) (by decide)) ?_
  rintro _ _ ⟨_, ⟨rfl, rfl⟩, rfl⟩
  refine wl_1 trivial rfl (do_not (c := true) rfl) ?_
  refine wl_nil ?_
  refine at_then ?_
  refine wc_false rfl ?_
  refine wc_skip ?_
  exact at_end0 (M := [_]) rfl ⟨rfl, rfl⟩ rfl

set_option maxRecDepth 100000 in
set_option maxHeartbeats 8000000 in
theorem cut_nil (B : Ctx) (k : Int) :
    Tri Try.prog B 37 #[.pointer none, .int .i64 k] [] (fun u M => u = .tuple #[] ∧ M = []) := by
  refine tri_body (n := 13) Try.func37 rfl rfl rfl ?_
  intro F
  show WC _ _ _ _ _ _ _ [(0, .pointer none), (1, .int .i64 k)] [F]
  refine wc_seq ?_
  refine wc_region ?_
  refine wl_1 trivial rfl (do_move rfl) ?_
  refine wl_do trivial rfl (do_call (none_nil B) ⟨rfl, trivial⟩ enters_72 [] [0] trivial ⟨rfl, trivial⟩ (R := [_]) (by decide)) ?_
  rintro _ _ ⟨_, ⟨rfl, rfl⟩, rfl⟩
  refine wl_1 trivial rfl (do_not (c := true) rfl) ?_
  refine wl_nil ?_
  refine at_then ?_
  refine wc_false rfl ?_
  refine wc_skip ?_
  exact at_end0 (M := []) rfl ⟨rfl, rfl⟩ rfl

set_option maxRecDepth 100000 in
set_option maxHeartbeats 8000000 in
theorem cut_zero (B : Ctx) (d : Nat) (k : Int) :
    Tri Try.prog B 37 #[.pointer (some ⟨d, 0, none⟩), .int .i64 k] [pt d (.cells #[.int .i64 0, .bool false, .int .i64 0, .bool false, .int .i64 0, .map none, .map none, .slice none 0 0] 87 (0, 0))] (fun u M => u = .tuple #[] ∧ M = [pt d (.cells #[.int .i64 0, .bool false, .int .i64 0, .bool false, .int .i64 0, .map none, .map none, .slice none 0 0] 87 (0, 0))]) := by
  refine tri_body (n := 13) Try.func37 rfl rfl rfl ?_
  intro F
  show WC _ _ _ _ _ _ _ [(0, .pointer (some ⟨d, 0, none⟩)), (1, .int .i64 k)] [pt d (.cells #[.int .i64 0, .bool false, .int .i64 0, .bool false, .int .i64 0, .map none, .map none, .slice none 0 0] 87 (0, 0)), F]
  refine wc_seq ?_
  refine wc_region ?_
  refine wl_1 trivial rfl (do_move rfl) ?_
  refine wl_do trivial rfl (do_call (none_zero B d) ⟨rfl, trivial⟩ enters_72 [0] [1] ⟨rfl, trivial⟩ ⟨rfl, trivial⟩ (R := [_]) (by decide)) ?_
  rintro _ _ ⟨_, ⟨rfl, rfl⟩, rfl⟩
  refine wl_1 trivial rfl (do_not (c := true) rfl) ?_
  refine wl_nil ?_
  refine at_then ?_
  refine wc_false rfl ?_
  refine wc_skip ?_
  exact at_end0 (M := [_]) rfl ⟨rfl, rfl⟩ rfl

set_option maxRecDepth 100000 in
set_option maxHeartbeats 8000000 in
theorem crash_nil (B : Ctx) (ka : Option Addr) (kl kc : Nat) :
    Tri Try.prog B 35 #[.pointer none, .slice ka kl kc] [] (fun u M => u = .tuple #[] ∧ M = []) := by
  refine tri_body (n := 61) Try.func35 rfl rfl rfl ?_
  intro F
  show WC _ _ _ _ _ _ _ [(0, .pointer none), (1, .slice ka kl kc)] [F]
  refine wc_seq ?_
  refine wc_region ?_
  refine wl_do trivial rfl (do_box rfl rfl) ?_
  rintro _ _ ⟨b1, rfl, rfl⟩
  refine wl_nil ?_
  refine at_then ?_
  refine wc_seq ?_
  refine wc_seq ?_
  refine wc_region ?_
  refine wl_1 trivial rfl (do_move rfl) ?_
  refine wl_do trivial rfl (do_call (none_nil B) ⟨rfl, trivial⟩ enters_72 [] [0, 1] trivial ⟨rfl, rfl, trivial⟩ (R := [_, _]) (by decide)) ?_
  rintro _ _ ⟨_, ⟨rfl, rfl⟩, rfl⟩
  refine wl_nil ?_
  refine at_then ?_
  refine wc_true rfl ?_
  refine wc_ret ?_
  refine at_then_ret ?_
  refine at_pick (M := [_]) [1] ⟨rfl, trivial⟩ (by decide) ?_
  exact at_ret0 (M := []) rfl ⟨rfl, rfl⟩ rfl

set_option maxRecDepth 100000 in
set_option maxHeartbeats 8000000 in
theorem crash_zero (B : Ctx) (d : Nat) (ka : Option Addr) (kl kc : Nat) :
    Tri Try.prog B 35 #[.pointer (some ⟨d, 0, none⟩), .slice ka kl kc] [pt d (.cells #[.int .i64 0, .bool false, .int .i64 0, .bool false, .int .i64 0, .map none, .map none, .slice none 0 0] 87 (0, 0))] (fun u M => u = .tuple #[] ∧ M = [pt d (.cells #[.int .i64 0, .bool false, .int .i64 0, .bool false, .int .i64 0, .map none, .map none, .slice none 0 0] 87 (0, 0))]) := by
  refine tri_body (n := 61) Try.func35 rfl rfl rfl ?_
  intro F
  show WC _ _ _ _ _ _ _ [(0, .pointer (some ⟨d, 0, none⟩)), (1, .slice ka kl kc)] [pt d (.cells #[.int .i64 0, .bool false, .int .i64 0, .bool false, .int .i64 0, .map none, .map none, .slice none 0 0] 87 (0, 0)), F]
  refine wc_seq ?_
  refine wc_region ?_
  refine wl_do trivial rfl (do_box rfl rfl) ?_
  rintro _ _ ⟨b1, rfl, rfl⟩
  refine wl_nil ?_
  refine at_then ?_
  refine wc_seq ?_
  refine wc_seq ?_
  refine wc_region ?_
  refine wl_1 trivial rfl (do_move rfl) ?_
  refine wl_do trivial rfl (do_call (none_zero B d) ⟨rfl, trivial⟩ enters_72 [1] [0, 2] ⟨rfl, trivial⟩ ⟨rfl, rfl, trivial⟩ (R := [_, _]) (by decide)) ?_
  rintro _ _ ⟨_, ⟨rfl, rfl⟩, rfl⟩
  refine wl_nil ?_
  refine at_then ?_
  refine wc_true rfl ?_
  refine wc_ret ?_
  refine at_then_ret ?_
  refine at_pick (M := [_, _]) [0, 2] ⟨rfl, rfl, trivial⟩ (by decide) ?_
  exact at_ret0 (M := [_]) rfl ⟨rfl, rfl⟩ rfl

set_option maxRecDepth 100000 in
set_option maxHeartbeats 8000000 in
theorem nil_tri (B : Ctx) (kd k : Int) (name to : ByteArray) (ba ka : Option Addr) (bl bc kl kc : Nat) (yes : Bool) :
    Tri Try.prog B 10 #[.agg #[.int .i64 kd, .string name, .string to, .slice ba bl bc, .int .i64 k, .bool yes, .slice ka kl kc]] [] (fun u M => u = .bool true ∧ M = []) := by
  refine tri_body (n := 105) Try.func10 rfl rfl rfl ?_
  intro F
  show WC _ _ _ _ _ _ _ [(0, .agg #[.int .i64 kd, .string name, .string to, .slice ba bl bc, .int .i64 k, .bool yes, .slice ka kl kc])] [F]
  refine wc_seq ?_
  refine wc_region ?_
  refine wl_do trivial rfl (do_box rfl rfl) ?_
  rintro _ _ ⟨b1, rfl, rfl⟩
  refine wl_1 trivial rfl (do_assign rfl) ?_
  refine wl_nil ?_
  refine at_then ?_
  refine wc_seq ?_
  refine wc_region ?_
  refine wl_1 trivial rfl (do_assign rfl) ?_
  refine wl_nil ?_
  refine at_then ?_
  refine wc_seq ?_
  refine wc_seq ?_
  refine wc_region ?_
  refine wl_1 trivial rfl (do_assign rfl) ?_
  refine wl_nil ?_
  refine at_then ?_
  refine wc_block ?_
  refine wc_rounds 2 ?_
  refine wc_seq ?_
  refine wc_seq ?_
  refine wc_region ?_
  refine wl_1 trivial rfl (do_move rfl) ?_
  refine wl_1 trivial rfl (do_cmp (c := true) rfl rfl rfl) ?_
  refine wl_nil ?_
  refine at_then ?_
  refine wc_true rfl ?_
  refine wc_skip ?_
  refine at_then ?_
  refine wc_seq ?_
  refine wc_block ?_
  refine wc_seq ?_
  refine wc_region ?_
  refine wl_1 trivial rfl (do_move rfl) ?_
  refine wl_1 trivial rfl (do_fieldAddr (k := 4) (k' := 4) fo_67_4 rfl (by rfl)) ?_
  refine wl_1 trivial rfl (do_load 0 rfl one_3 rfl rfl) ?_
  refine wl_1 trivial rfl (do_fieldAddr (k := 5) (k' := 5) fo_67_5 rfl (by rfl)) ?_
  refine wl_1 trivial rfl (do_load 0 rfl one_4 rfl rfl) ?_
  refine wl_do trivial rfl (do_call (fail_nil B k yes) ⟨rfl, rfl, rfl, trivial⟩ enters_38 [] [0, 1] trivial ⟨rfl, rfl, trivial⟩ (R := [_, _]) (by decide)) ?_
  rintro _ _ ⟨_, ⟨rfl, rfl⟩, rfl⟩
  refine wl_nil ?_
  refine at_then ?_
  refine wc_seq ?_
  refine wc_region ?_
  refine wl_1 trivial rfl (do_move rfl) ?_
  refine wl_1 trivial rfl (do_fieldAddr (k := 4) (k' := 4) fo_67_4 rfl (by rfl)) ?_
  refine wl_1 trivial rfl (do_load 0 rfl one_3 rfl rfl) ?_
  refine wl_do trivial rfl (do_call (cut_nil B k) ⟨rfl, rfl, trivial⟩ enters_37 [] [0, 1] trivial ⟨rfl, rfl, trivial⟩ (R := [_, _]) (by decide)) ?_
  rintro _ _ ⟨_, ⟨rfl, rfl⟩, rfl⟩
  refine wl_nil ?_
  refine at_then ?_
  refine wc_seq ?_
  refine wc_region ?_
  refine wl_1 trivial rfl (do_move rfl) ?_
  refine wl_1 trivial rfl (do_fieldAddr (k := 6) (k' := 6) fo_67_6 rfl (by rfl)) ?_
  refine wl_1 trivial rfl (do_load 0 rfl one_65 rfl rfl) ?_
  refine wl_do trivial rfl (do_call (crash_nil B ka kl kc) ⟨rfl, rfl, trivial⟩ enters_35 [] [0, 1] trivial ⟨rfl, rfl, trivial⟩ (R := [_, _]) (by decide)) ?_
  rintro _ _ ⟨_, ⟨rfl, rfl⟩, rfl⟩
  refine wl_nil ?_
  refine at_then ?_
  refine wc_seq ?_
  refine wc_region ?_
  refine wl_1 trivial rfl (do_move rfl) ?_
  refine wl_1 trivial rfl (do_fieldAddr (k := 1) (k' := 1) fo_67_1 rfl (by rfl)) ?_
  refine wl_1 trivial rfl (do_load 0 rfl one_9 rfl rfl) ?_
  refine wl_do trivial rfl (do_call (read_nil B name) ⟨rfl, rfl, trivial⟩ enters_34 [] [0, 1] trivial ⟨rfl, rfl, trivial⟩ (R := [_, _]) (by decide)) ?_
  rintro _ _ ⟨_, ⟨rfl, rfl⟩, rfl⟩
  refine wl_1 trivial rfl (do_move rfl) ?_
  refine wl_1 trivial rfl (do_extract rfl rfl) ?_
  refine wl_1 trivial rfl (do_extract rfl rfl) ?_
  refine wl_1 trivial rfl (do_assign rfl) ?_
  refine wl_1 trivial rfl (do_assign rfl) ?_
  refine wl_nil ?_
  refine at_then ?_
  refine wc_seq ?_
  refine wc_seq ?_
  refine wc_region ?_
  refine wl_1 trivial rfl (do_move rfl) ?_
  refine wl_1 trivial rfl (do_fieldAddr (k := 1) (k' := 1) fo_67_1 rfl (by rfl)) ?_
  refine wl_1 trivial rfl (do_load 0 rfl one_9 rfl rfl) ?_
  refine wl_do trivial rfl (do_call (create_nil B name) ⟨rfl, rfl, trivial⟩ enters_40 [] [0, 1] trivial ⟨rfl, rfl, trivial⟩ (R := [_, _]) (by decide)) ?_
  rintro _ _ ⟨_, ⟨rfl, rfl⟩, rfl⟩
  refine wl_do trivial rfl (do_call (num_tri B 1) ⟨rfl, trivial⟩ enters_30 [] [0, 1] trivial ⟨rfl, rfl, trivial⟩ (R := [_, _]) (by decide)) ?_
  rintro _ _ ⟨_, ⟨rfl, rfl⟩, rfl⟩
  refine wl_1 trivial rfl (do_cmp (c := false) rfl rfl rfl) ?_
  refine wl_1 trivial rfl (do_move rfl) ?_
  refine wl_1 ⟨_, rfl, rfl⟩ rfl (do_move rfl) ?_
  refine wl_1 ⟨_, rfl, rfl⟩ rfl (do_fieldAddr (k := 1) (k' := 1) fo_67_1 rfl (by rfl)) ?_
  refine wl_1 ⟨_, rfl, rfl⟩ rfl (do_load 0 rfl one_9 rfl rfl) ?_
  refine wl_1 ⟨_, rfl, rfl⟩ rfl (do_fieldAddr (k := 3) (k' := 3) fo_67_3 rfl (by rfl)) ?_
  refine wl_1 ⟨_, rfl, rfl⟩ rfl (do_load 0 rfl one_32 rfl rfl) ?_
  refine wl_do ⟨_, rfl, rfl⟩ rfl (do_call (append_nil B name ba bl bc) ⟨rfl, rfl, rfl, trivial⟩ enters_41 [] [0, 1] trivial ⟨rfl, rfl, trivial⟩ (R := [_, _]) (by decide)) ?_
  rintro _ _ ⟨_, ⟨rfl, rfl⟩, rfl⟩
  refine wl_do ⟨_, rfl, rfl⟩ rfl (do_call (num_tri B 1) ⟨rfl, trivial⟩ enters_30 [] [0, 1] trivial ⟨rfl, rfl, trivial⟩ (R := [_, _]) (by decide)) ?_
  rintro _ _ ⟨_, ⟨rfl, rfl⟩, rfl⟩
  refine wl_1 ⟨_, rfl, rfl⟩ rfl (do_cmp (c := false) rfl rfl rfl) ?_
  refine wl_1 trivial rfl (do_pickF rfl rfl) ?_
  refine wl_1 trivial rfl (do_move rfl) ?_
  refine wl_1 ⟨_, rfl, rfl⟩ rfl (do_move rfl) ?_
  refine wl_1 ⟨_, rfl, rfl⟩ rfl (do_fieldAddr (k := 1) (k' := 1) fo_67_1 rfl (by rfl)) ?_
  refine wl_1 ⟨_, rfl, rfl⟩ rfl (do_load 0 rfl one_9 rfl rfl) ?_
  refine wl_1 ⟨_, rfl, rfl⟩ rfl (do_fieldAddr (k := 2) (k' := 2) fo_67_2 rfl (by rfl)) ?_
  refine wl_1 ⟨_, rfl, rfl⟩ rfl (do_load 0 rfl one_9 rfl rfl) ?_
  refine wl_do ⟨_, rfl, rfl⟩ rfl (do_call (rename_nil B name to) ⟨rfl, rfl, rfl, trivial⟩ enters_42 [] [0, 1] trivial ⟨rfl, rfl, trivial⟩ (R := [_, _]) (by decide)) ?_
  rintro _ _ ⟨_, ⟨rfl, rfl⟩, rfl⟩
  refine wl_do ⟨_, rfl, rfl⟩ rfl (do_call (num_tri B 1) ⟨rfl, trivial⟩ enters_30 [] [0, 1] trivial ⟨rfl, rfl, trivial⟩ (R := [_, _]) (by decide)) ?_
  rintro _ _ ⟨_, ⟨rfl, rfl⟩, rfl⟩
  refine wl_1 ⟨_, rfl, rfl⟩ rfl (do_cmp (c := false) rfl rfl rfl) ?_
  refine wl_1 trivial rfl (do_pickF rfl rfl) ?_
  refine wl_1 trivial rfl (do_move rfl) ?_
  refine wl_1 ⟨_, rfl, rfl⟩ rfl (do_move rfl) ?_
  refine wl_1 ⟨_, rfl, rfl⟩ rfl (do_fieldAddr (k := 1) (k' := 1) fo_67_1 rfl (by rfl)) ?_
  refine wl_1 ⟨_, rfl, rfl⟩ rfl (do_load 0 rfl one_9 rfl rfl) ?_
  refine wl_do ⟨_, rfl, rfl⟩ rfl (do_call (remove_nil B name) ⟨rfl, rfl, trivial⟩ enters_43 [] [0, 1] trivial ⟨rfl, rfl, trivial⟩ (R := [_, _]) (by decide)) ?_
  rintro _ _ ⟨_, ⟨rfl, rfl⟩, rfl⟩
  refine wl_do ⟨_, rfl, rfl⟩ rfl (do_call (num_tri B 1) ⟨rfl, trivial⟩ enters_30 [] [0, 1] trivial ⟨rfl, rfl, trivial⟩ (R := [_, _]) (by decide)) ?_
  rintro _ _ ⟨_, ⟨rfl, rfl⟩, rfl⟩
  refine wl_1 ⟨_, rfl, rfl⟩ rfl (do_cmp (c := false) rfl rfl rfl) ?_
  refine wl_1 trivial rfl (do_pickF rfl rfl) ?_
  refine wl_1 trivial rfl (do_move rfl) ?_
  refine wl_1 ⟨_, rfl, rfl⟩ rfl (do_move rfl) ?_
  refine wl_1 ⟨_, rfl, rfl⟩ rfl (do_fieldAddr (k := 1) (k' := 1) fo_67_1 rfl (by rfl)) ?_
  refine wl_1 ⟨_, rfl, rfl⟩ rfl (do_load 0 rfl one_9 rfl rfl) ?_
  refine wl_do ⟨_, rfl, rfl⟩ rfl (do_call (sync_nil B name) ⟨rfl, rfl, trivial⟩ enters_44 [] [0, 1] trivial ⟨rfl, rfl, trivial⟩ (R := [_, _]) (by decide)) ?_
  rintro _ _ ⟨_, ⟨rfl, rfl⟩, rfl⟩
  refine wl_do ⟨_, rfl, rfl⟩ rfl (do_call (num_tri B 1) ⟨rfl, trivial⟩ enters_30 [] [0, 1] trivial ⟨rfl, rfl, trivial⟩ (R := [_, _]) (by decide)) ?_
  rintro _ _ ⟨_, ⟨rfl, rfl⟩, rfl⟩
  refine wl_1 ⟨_, rfl, rfl⟩ rfl (do_cmp (c := false) rfl rfl rfl) ?_
  refine wl_1 trivial rfl (do_pickF rfl rfl) ?_
  refine wl_1 trivial rfl (do_move rfl) ?_
  refine wl_1 ⟨_, rfl, rfl⟩ rfl (do_move rfl) ?_
  refine wl_do ⟨_, rfl, rfl⟩ rfl (do_call (syncdir_nil B ) ⟨rfl, trivial⟩ enters_45 [] [0, 1] trivial ⟨rfl, rfl, trivial⟩ (R := [_, _]) (by decide)) ?_
  rintro _ _ ⟨_, ⟨rfl, rfl⟩, rfl⟩
  refine wl_do ⟨_, rfl, rfl⟩ rfl (do_call (num_tri B 1) ⟨rfl, trivial⟩ enters_30 [] [0, 1] trivial ⟨rfl, rfl, trivial⟩ (R := [_, _]) (by decide)) ?_
  rintro _ _ ⟨_, ⟨rfl, rfl⟩, rfl⟩
  refine wl_1 ⟨_, rfl, rfl⟩ rfl (do_cmp (c := false) rfl rfl rfl) ?_
  refine wl_1 trivial rfl (do_pickF rfl rfl) ?_
  refine wl_1 trivial rfl (do_move rfl) ?_
  refine wl_1 ⟨_, rfl, rfl⟩ rfl (do_move rfl) ?_
  refine wl_do ⟨_, rfl, rfl⟩ rfl (do_call (num_tri B 1) ⟨rfl, trivial⟩ enters_30 [] [0, 1] trivial ⟨rfl, rfl, trivial⟩ (R := [_, _]) (by decide)) ?_
  rintro _ _ ⟨_, ⟨rfl, rfl⟩, rfl⟩
  refine wl_1 ⟨_, rfl, rfl⟩ rfl (do_cmp (c := false) rfl rfl rfl) ?_
  refine wl_1 trivial rfl (do_pickF rfl rfl) ?_
  refine wl_nil ?_
  refine at_then ?_
  refine wc_false rfl ?_
  refine wc_skip ?_
  refine at_then ?_
  refine wc_seq ?_
  refine wc_seq ?_
  refine wc_region ?_
  refine wl_1 trivial rfl (do_move rfl) ?_
  refine wl_1 trivial rfl (do_lenSlice rfl isSlice_32 rfl) ?_
  refine wl_1 trivial rfl (do_move rfl) ?_
  refine wl_do trivial rfl (do_call (list_nil B ) ⟨rfl, trivial⟩ enters_33 [] [0, 1] trivial ⟨rfl, rfl, trivial⟩ (R := [_, _]) (by decide)) ?_
  rintro _ _ ⟨_, ⟨rfl, rfl⟩, rfl⟩
  refine wl_1 trivial rfl (do_lenSlice rfl isSlice_39 rfl) ?_
  refine wl_1 trivial rfl (do_add (r := 0) rfl rfl rfl) ?_
  refine wl_1 trivial rfl (do_move rfl) ?_
  refine wl_do trivial rfl (do_call (used_nil B ) ⟨rfl, trivial⟩ enters_39 [] [0, 1] trivial ⟨rfl, rfl, trivial⟩ (R := [_, _]) (by decide)) ?_
  rintro _ _ ⟨_, ⟨rfl, rfl⟩, rfl⟩
  refine wl_1 trivial rfl (do_add (r := 0) rfl rfl rfl) ?_
  refine wl_1 trivial rfl (do_move rfl) ?_
  refine wl_do trivial rfl (do_call (free_nil B ) ⟨rfl, trivial⟩ enters_46 [] [0, 1] trivial ⟨rfl, rfl, trivial⟩ (R := [_, _]) (by decide)) ?_
  rintro _ _ ⟨_, ⟨rfl, rfl⟩, rfl⟩
  refine wl_1 trivial rfl (do_add (r := 0) rfl rfl rfl) ?_
  refine wl_1 trivial rfl (do_cmp (c := false) rfl rfl rfl) ?_
  refine wl_1 trivial rfl (do_move rfl) ?_
  refine wl_1 ⟨_, rfl, rfl⟩ rfl (do_move rfl) ?_
  refine wl_do ⟨_, rfl, rfl⟩ rfl (do_call (down_nil B ) ⟨rfl, trivial⟩ enters_47 [] [0, 1] trivial ⟨rfl, rfl, trivial⟩ (R := [_, _]) (by decide)) ?_
  rintro _ _ ⟨_, ⟨rfl, rfl⟩, rfl⟩
  refine wl_1 trivial rfl (do_pickF rfl rfl) ?_
  refine wl_nil ?_
  refine at_then ?_
  refine wc_false rfl ?_
  refine wc_skip ?_
  refine at_then ?_
  refine wc_region ?_
  refine wl_1 trivial rfl (do_build (ps := []) trivial (build_87 rfl)) ?_
  refine wl_do trivial rfl (do_box rfl rfl) ?_
  rintro _ _ ⟨b2, rfl, rfl⟩
  refine wl_1 trivial rfl (do_assign rfl) ?_
  refine wl_nil ?_
  refine at_block ?_
  refine at_then ?_
  refine wc_region ?_
  refine wl_1 trivial rfl (do_move rfl) ?_
  refine wl_1 trivial rfl (do_add (r := 1) rfl rfl rfl) ?_
  refine wl_1 trivial rfl (do_assign rfl) ?_
  refine wl_nil ?_
  refine at_rounds ?_
  refine wc_seq ?_
  refine wc_seq ?_
  refine wc_region ?_
  refine wl_1 trivial rfl (do_move rfl) ?_
  refine wl_1 trivial rfl (do_cmp (c := true) rfl rfl rfl) ?_
  refine wl_nil ?_
  refine at_then ?_
  refine wc_true rfl ?_
  refine wc_skip ?_
  refine at_then ?_
  refine wc_seq ?_
  refine wc_block ?_
  refine wc_seq ?_
  refine wc_region ?_
  refine wl_1 trivial rfl (do_move rfl) ?_
  refine wl_1 trivial rfl (do_fieldAddr (k := 4) (k' := 4) fo_67_4 rfl (by rfl)) ?_
  refine wl_1 trivial rfl (do_load 1 rfl one_3 rfl rfl) ?_
  refine wl_1 trivial rfl (do_fieldAddr (k := 5) (k' := 5) fo_67_5 rfl (by rfl)) ?_
  refine wl_1 trivial rfl (do_load 1 rfl one_4 rfl rfl) ?_
  refine wl_do trivial rfl (do_call (fail_zero B b2 k yes) ⟨rfl, rfl, rfl, trivial⟩ enters_38 [0] [1, 2] ⟨rfl, trivial⟩ ⟨rfl, rfl, trivial⟩ (R := [_, _]) (by decide)) ?_
  rintro _ _ ⟨_, ⟨rfl, rfl⟩, rfl⟩
  refine wl_nil ?_
  refine at_then ?_
  refine wc_seq ?_
  refine wc_region ?_
  refine wl_1 trivial rfl (do_move rfl) ?_
  refine wl_1 trivial rfl (do_fieldAddr (k := 4) (k' := 4) fo_67_4 rfl (by rfl)) ?_
  refine wl_1 trivial rfl (do_load 1 rfl one_3 rfl rfl) ?_
  refine wl_do trivial rfl (do_call (cut_zero B b2 k) ⟨rfl, rfl, trivial⟩ enters_37 [0] [1, 2] ⟨rfl, trivial⟩ ⟨rfl, rfl, trivial⟩ (R := [_, _]) (by decide)) ?_
  rintro _ _ ⟨_, ⟨rfl, rfl⟩, rfl⟩
  refine wl_nil ?_
  refine at_then ?_
  refine wc_seq ?_
  refine wc_region ?_
  refine wl_1 trivial rfl (do_move rfl) ?_
  refine wl_1 trivial rfl (do_fieldAddr (k := 6) (k' := 6) fo_67_6 rfl (by rfl)) ?_
  refine wl_1 trivial rfl (do_load 1 rfl one_65 rfl rfl) ?_
  refine wl_do trivial rfl (do_call (crash_zero B b2 ka kl kc) ⟨rfl, rfl, trivial⟩ enters_35 [0] [1, 2] ⟨rfl, trivial⟩ ⟨rfl, rfl, trivial⟩ (R := [_, _]) (by decide)) ?_
  rintro _ _ ⟨_, ⟨rfl, rfl⟩, rfl⟩
  refine wl_nil ?_
  refine at_then ?_
  refine wc_seq ?_
  refine wc_region ?_
  refine wl_1 trivial rfl (do_move rfl) ?_
  refine wl_1 trivial rfl (do_fieldAddr (k := 1) (k' := 1) fo_67_1 rfl (by rfl)) ?_
  refine wl_1 trivial rfl (do_load 1 rfl one_9 rfl rfl) ?_
  refine wl_do trivial rfl (do_call (read_zero B b2 name) ⟨rfl, rfl, trivial⟩ enters_34 [0] [1, 2] ⟨rfl, trivial⟩ ⟨rfl, rfl, trivial⟩ (R := [_, _]) (by decide)) ?_
  rintro _ _ ⟨_, ⟨rfl, rfl⟩, rfl⟩
  refine wl_1 trivial rfl (do_move rfl) ?_
  refine wl_1 trivial rfl (do_extract rfl rfl) ?_
  refine wl_1 trivial rfl (do_extract rfl rfl) ?_
  refine wl_1 trivial rfl (do_assign rfl) ?_
  refine wl_1 trivial rfl (do_assign rfl) ?_
  refine wl_nil ?_
  refine at_then ?_
  refine wc_seq ?_
  refine wc_seq ?_
  refine wc_region ?_
  refine wl_1 trivial rfl (do_move rfl) ?_
  refine wl_1 trivial rfl (do_fieldAddr (k := 1) (k' := 1) fo_67_1 rfl (by rfl)) ?_
  refine wl_1 trivial rfl (do_load 1 rfl one_9 rfl rfl) ?_
  refine wl_do trivial rfl (do_call (create_zero B b2 name) ⟨rfl, rfl, trivial⟩ enters_40 [0] [1, 2] ⟨rfl, trivial⟩ ⟨rfl, rfl, trivial⟩ (R := [_, _]) (by decide)) ?_
  rintro _ _ ⟨_, ⟨rfl, rfl⟩, rfl⟩
  refine wl_do trivial rfl (do_call (num_tri B 1) ⟨rfl, trivial⟩ enters_30 [] [0, 1, 2] trivial ⟨rfl, rfl, rfl, trivial⟩ (R := [_, _, _]) (by decide)) ?_
  rintro _ _ ⟨_, ⟨rfl, rfl⟩, rfl⟩
  refine wl_1 trivial rfl (do_cmp (c := false) rfl rfl rfl) ?_
  refine wl_1 trivial rfl (do_move rfl) ?_
  refine wl_1 ⟨_, rfl, rfl⟩ rfl (do_move rfl) ?_
  refine wl_1 ⟨_, rfl, rfl⟩ rfl (do_fieldAddr (k := 1) (k' := 1) fo_67_1 rfl (by rfl)) ?_
  refine wl_1 ⟨_, rfl, rfl⟩ rfl (do_load 1 rfl one_9 rfl rfl) ?_
  refine wl_1 ⟨_, rfl, rfl⟩ rfl (do_fieldAddr (k := 3) (k' := 3) fo_67_3 rfl (by rfl)) ?_
  refine wl_1 ⟨_, rfl, rfl⟩ rfl (do_load 1 rfl one_32 rfl rfl) ?_
  refine wl_do ⟨_, rfl, rfl⟩ rfl (do_call (append_zero B b2 name ba bl bc) ⟨rfl, rfl, rfl, trivial⟩ enters_41 [0] [1, 2] ⟨rfl, trivial⟩ ⟨rfl, rfl, trivial⟩ (R := [_, _]) (by decide)) ?_
  rintro _ _ ⟨_, ⟨rfl, rfl⟩, rfl⟩
  refine wl_do ⟨_, rfl, rfl⟩ rfl (do_call (num_tri B 1) ⟨rfl, trivial⟩ enters_30 [] [0, 1, 2] trivial ⟨rfl, rfl, rfl, trivial⟩ (R := [_, _, _]) (by decide)) ?_
  rintro _ _ ⟨_, ⟨rfl, rfl⟩, rfl⟩
  refine wl_1 ⟨_, rfl, rfl⟩ rfl (do_cmp (c := false) rfl rfl rfl) ?_
  refine wl_1 trivial rfl (do_pickF rfl rfl) ?_
  refine wl_1 trivial rfl (do_move rfl) ?_
  refine wl_1 ⟨_, rfl, rfl⟩ rfl (do_move rfl) ?_
  refine wl_1 ⟨_, rfl, rfl⟩ rfl (do_fieldAddr (k := 1) (k' := 1) fo_67_1 rfl (by rfl)) ?_
  refine wl_1 ⟨_, rfl, rfl⟩ rfl (do_load 1 rfl one_9 rfl rfl) ?_
  refine wl_1 ⟨_, rfl, rfl⟩ rfl (do_fieldAddr (k := 2) (k' := 2) fo_67_2 rfl (by rfl)) ?_
  refine wl_1 ⟨_, rfl, rfl⟩ rfl (do_load 1 rfl one_9 rfl rfl) ?_
  refine wl_do ⟨_, rfl, rfl⟩ rfl (do_call (rename_zero B b2 name to) ⟨rfl, rfl, rfl, trivial⟩ enters_42 [0] [1, 2] ⟨rfl, trivial⟩ ⟨rfl, rfl, trivial⟩ (R := [_, _]) (by decide)) ?_
  rintro _ _ ⟨_, ⟨rfl, rfl⟩, rfl⟩
  refine wl_do ⟨_, rfl, rfl⟩ rfl (do_call (num_tri B 1) ⟨rfl, trivial⟩ enters_30 [] [0, 1, 2] trivial ⟨rfl, rfl, rfl, trivial⟩ (R := [_, _, _]) (by decide)) ?_
  rintro _ _ ⟨_, ⟨rfl, rfl⟩, rfl⟩
  refine wl_1 ⟨_, rfl, rfl⟩ rfl (do_cmp (c := false) rfl rfl rfl) ?_
  refine wl_1 trivial rfl (do_pickF rfl rfl) ?_
  refine wl_1 trivial rfl (do_move rfl) ?_
  refine wl_1 ⟨_, rfl, rfl⟩ rfl (do_move rfl) ?_
  refine wl_1 ⟨_, rfl, rfl⟩ rfl (do_fieldAddr (k := 1) (k' := 1) fo_67_1 rfl (by rfl)) ?_
  refine wl_1 ⟨_, rfl, rfl⟩ rfl (do_load 1 rfl one_9 rfl rfl) ?_
  refine wl_do ⟨_, rfl, rfl⟩ rfl (do_call (remove_zero B b2 name) ⟨rfl, rfl, trivial⟩ enters_43 [0] [1, 2] ⟨rfl, trivial⟩ ⟨rfl, rfl, trivial⟩ (R := [_, _]) (by decide)) ?_
  rintro _ _ ⟨_, ⟨rfl, rfl⟩, rfl⟩
  refine wl_do ⟨_, rfl, rfl⟩ rfl (do_call (num_tri B 1) ⟨rfl, trivial⟩ enters_30 [] [0, 1, 2] trivial ⟨rfl, rfl, rfl, trivial⟩ (R := [_, _, _]) (by decide)) ?_
  rintro _ _ ⟨_, ⟨rfl, rfl⟩, rfl⟩
  refine wl_1 ⟨_, rfl, rfl⟩ rfl (do_cmp (c := false) rfl rfl rfl) ?_
  refine wl_1 trivial rfl (do_pickF rfl rfl) ?_
  refine wl_1 trivial rfl (do_move rfl) ?_
  refine wl_1 ⟨_, rfl, rfl⟩ rfl (do_move rfl) ?_
  refine wl_1 ⟨_, rfl, rfl⟩ rfl (do_fieldAddr (k := 1) (k' := 1) fo_67_1 rfl (by rfl)) ?_
  refine wl_1 ⟨_, rfl, rfl⟩ rfl (do_load 1 rfl one_9 rfl rfl) ?_
  refine wl_do ⟨_, rfl, rfl⟩ rfl (do_call (sync_zero B b2 name) ⟨rfl, rfl, trivial⟩ enters_44 [0] [1, 2] ⟨rfl, trivial⟩ ⟨rfl, rfl, trivial⟩ (R := [_, _]) (by decide)) ?_
  rintro _ _ ⟨_, ⟨rfl, rfl⟩, rfl⟩
  refine wl_do ⟨_, rfl, rfl⟩ rfl (do_call (num_tri B 1) ⟨rfl, trivial⟩ enters_30 [] [0, 1, 2] trivial ⟨rfl, rfl, rfl, trivial⟩ (R := [_, _, _]) (by decide)) ?_
  rintro _ _ ⟨_, ⟨rfl, rfl⟩, rfl⟩
  refine wl_1 ⟨_, rfl, rfl⟩ rfl (do_cmp (c := false) rfl rfl rfl) ?_
  refine wl_1 trivial rfl (do_pickF rfl rfl) ?_
  refine wl_1 trivial rfl (do_move rfl) ?_
  refine wl_1 ⟨_, rfl, rfl⟩ rfl (do_move rfl) ?_
  refine wl_do ⟨_, rfl, rfl⟩ rfl (do_call (syncdir_zero B b2 ) ⟨rfl, trivial⟩ enters_45 [0] [1, 2] ⟨rfl, trivial⟩ ⟨rfl, rfl, trivial⟩ (R := [_, _]) (by decide)) ?_
  rintro _ _ ⟨_, ⟨rfl, rfl⟩, rfl⟩
  refine wl_do ⟨_, rfl, rfl⟩ rfl (do_call (num_tri B 1) ⟨rfl, trivial⟩ enters_30 [] [0, 1, 2] trivial ⟨rfl, rfl, rfl, trivial⟩ (R := [_, _, _]) (by decide)) ?_
  rintro _ _ ⟨_, ⟨rfl, rfl⟩, rfl⟩
  refine wl_1 ⟨_, rfl, rfl⟩ rfl (do_cmp (c := false) rfl rfl rfl) ?_
  refine wl_1 trivial rfl (do_pickF rfl rfl) ?_
  refine wl_1 trivial rfl (do_move rfl) ?_
  refine wl_1 ⟨_, rfl, rfl⟩ rfl (do_move rfl) ?_
  refine wl_do ⟨_, rfl, rfl⟩ rfl (do_call (num_tri B 1) ⟨rfl, trivial⟩ enters_30 [] [0, 1, 2] trivial ⟨rfl, rfl, rfl, trivial⟩ (R := [_, _, _]) (by decide)) ?_
  rintro _ _ ⟨_, ⟨rfl, rfl⟩, rfl⟩
  refine wl_1 ⟨_, rfl, rfl⟩ rfl (do_cmp (c := false) rfl rfl rfl) ?_
  refine wl_1 trivial rfl (do_pickF rfl rfl) ?_
  refine wl_nil ?_
  refine at_then ?_
  refine wc_false rfl ?_
  refine wc_skip ?_
  refine at_then ?_
  refine wc_seq ?_
  refine wc_seq ?_
  refine wc_region ?_
  refine wl_1 trivial rfl (do_move rfl) ?_
  refine wl_1 trivial rfl (do_lenSlice rfl isSlice_32 rfl) ?_
  refine wl_1 trivial rfl (do_move rfl) ?_
  refine wl_do trivial rfl (do_call (list_zero B b2 ) ⟨rfl, trivial⟩ enters_33 [0] [1, 2] ⟨rfl, trivial⟩ ⟨rfl, rfl, trivial⟩ (R := [_, _]) (by decide)) ?_
  rintro _ _ ⟨_, ⟨rfl, rfl⟩, rfl⟩
  refine wl_1 trivial rfl (do_lenSlice rfl isSlice_39 rfl) ?_
  refine wl_1 trivial rfl (do_add (r := 0) rfl rfl rfl) ?_
  refine wl_1 trivial rfl (do_move rfl) ?_
  refine wl_do trivial rfl (do_call (used_zero B b2 ) ⟨rfl, trivial⟩ enters_39 [0] [1, 2] ⟨rfl, trivial⟩ ⟨rfl, rfl, trivial⟩ (R := [_, _]) (by decide)) ?_
  rintro _ _ ⟨_, ⟨rfl, rfl⟩, rfl⟩
  refine wl_1 trivial rfl (do_add (r := 0) rfl rfl rfl) ?_
  refine wl_1 trivial rfl (do_move rfl) ?_
  refine wl_do trivial rfl (do_call (free_zero B b2 ) ⟨rfl, trivial⟩ enters_46 [0] [1, 2] ⟨rfl, trivial⟩ ⟨rfl, rfl, trivial⟩ (R := [_, _]) (by decide)) ?_
  rintro _ _ ⟨_, ⟨rfl, rfl⟩, rfl⟩
  refine wl_1 trivial rfl (do_add (r := 0) rfl rfl rfl) ?_
  refine wl_1 trivial rfl (do_cmp (c := false) rfl rfl rfl) ?_
  refine wl_1 trivial rfl (do_move rfl) ?_
  refine wl_1 ⟨_, rfl, rfl⟩ rfl (do_move rfl) ?_
  refine wl_do ⟨_, rfl, rfl⟩ rfl (do_call (down_zero B b2 ) ⟨rfl, trivial⟩ enters_47 [0] [1, 2] ⟨rfl, trivial⟩ ⟨rfl, rfl, trivial⟩ (R := [_, _]) (by decide)) ?_
  rintro _ _ ⟨_, ⟨rfl, rfl⟩, rfl⟩
  refine wl_1 trivial rfl (do_pickF rfl rfl) ?_
  refine wl_nil ?_
  refine at_then ?_
  refine wc_false rfl ?_
  refine wc_skip ?_
  refine at_then ?_
  refine wc_region ?_
  refine wl_1 trivial rfl (do_build (ps := []) trivial (build_87 rfl)) ?_
  refine wl_do trivial rfl (do_box rfl rfl) ?_
  rintro _ _ ⟨b3, rfl, rfl⟩
  refine wl_1 trivial rfl (do_assign rfl) ?_
  refine wl_nil ?_
  refine at_block ?_
  refine at_then ?_
  refine wc_region ?_
  refine wl_1 trivial rfl (do_move rfl) ?_
  refine wl_1 trivial rfl (do_add (r := 2) rfl rfl rfl) ?_
  refine wl_1 trivial rfl (do_assign rfl) ?_
  refine wl_nil ?_
  refine at_rounds ?_
  refine wc_seq ?_
  refine wc_seq ?_
  refine wc_region ?_
  refine wl_1 trivial rfl (do_move rfl) ?_
  refine wl_1 trivial rfl (do_cmp (c := false) rfl rfl rfl) ?_
  refine wl_nil ?_
  refine at_then ?_
  refine wc_false rfl ?_
  refine wc_exit ?_
  refine at_then_exit ?_
  refine at_then_exit ?_
  refine at_block_it ?_
  refine at_then ?_
  refine wc_seq ?_
  refine wc_region ?_
  refine wl_do trivial rfl (do_call (knows_tri B) trivial enters_31 [] [0, 1, 2, 3] trivial ⟨rfl, rfl, rfl, rfl, trivial⟩ (R := [_, _, _, _]) (by decide)) ?_
  rintro _ _ ⟨_, ⟨rfl, rfl⟩, rfl⟩
  refine wl_1 trivial rfl (do_assign rfl) ?_
  refine wl_nil ?_
  refine at_then ?_
  refine wc_ret ?_
  refine at_pick (M := [_]) [3] ⟨rfl, trivial⟩ (by decide) ?_
  exact at_ret1 (M := []) rfl rfl ⟨rfl, rfl⟩ rfl
end Go.Proofs.Ytmefejfnddcelaa
