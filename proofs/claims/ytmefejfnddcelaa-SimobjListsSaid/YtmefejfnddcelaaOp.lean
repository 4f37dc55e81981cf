/- Printed by gen/simobj.py for this claim: what each of these functions of the program does, as its theorem says. No condition but what stands in each theorem. -/
import Derived.Test.YtmefejfnddcelaaOn
import Derived.Test.YtmefejfnddcelaaOg
import Derived.Test.YtmefejfnddcelaaOh
namespace Go.Proofs.Ytmefejfnddcelaa
set_option maxRecDepth 100000 in
set_option maxHeartbeats 8000000 in
theorem put_nil (B : Ctx) (key : ByteArray) (a : Option Addr) (n cap : Nat) :
    Tri Try.prog B 21 #[.pointer none, .string key, .slice a n cap] [] (fun u M => u = .int .i64 1 ∧ M = []) := by
  refine tri_body (n := 48) Try.func21 rfl rfl rfl ?_
  intro F
  show WC _ _ _ _ _ _ _ [(0, .pointer none), (1, .string key), (2, .slice a n cap)] [F]
  refine wc_seq ?_
  refine wc_region ?_
  refine wl_do trivial rfl (do_box rfl rfl) ?_
  rintro _ _ ⟨b1, rfl, rfl⟩
  refine wl_do trivial rfl (do_box rfl rfl) ?_
  rintro _ _ ⟨b2, rfl, rfl⟩
  refine wl_do trivial rfl (do_box rfl rfl) ?_
  rintro _ _ ⟨b3, rfl, rfl⟩
  refine wl_1 trivial rfl (do_assign rfl) ?_
  refine wl_nil ?_
  refine at_then ?_
  refine wc_seq ?_
  refine wc_seq ?_
  refine wc_region ?_
  refine wl_1 trivial rfl (do_load 2 rfl one_23 rfl rfl) ?_
  refine wl_do trivial rfl (do_call (none_nil B) ⟨rfl, trivial⟩ enters_59 [] [0, 1, 2, 3] trivial ⟨rfl, rfl, rfl, rfl, trivial⟩ (R := [_, _, _, _]) (by decide)) ?_
  rintro _ _ ⟨_, ⟨rfl, rfl⟩, rfl⟩
  refine wl_1 trivial rfl (do_move rfl) ?_
  refine wl_no rfl rfl rfl rfl rfl ?_
  refine wl_no rfl rfl rfl rfl rfl ?_
  refine wl_1 trivial rfl (do_pickT rfl rfl) ?_
  refine wl_1 trivial rfl (do_move rfl) ?_
  refine wl_no rfl rfl rfl rfl rfl ?_
  refine wl_no rfl rfl rfl rfl rfl ?_
  refine wl_no rfl rfl rfl rfl rfl ?_
  refine wl_1 trivial rfl (do_pickT rfl rfl) ?_
  refine wl_nil ?_
  refine at_then ?_
  refine wc_true rfl ?_
  refine wc_seq ?_
  refine wc_region ?_
  refine wl_1 trivial rfl (do_assign rfl) ?_
  refine wl_nil ?_
  refine at_then ?_
  refine wc_ret ?_
  refine at_then_ret ?_
  refine at_pick (M := [_]) [3] ⟨rfl, trivial⟩ (by decide) ?_
  exact at_ret1 (M := []) rfl rfl ⟨rfl, rfl⟩ rfl

set_option maxRecDepth 100000 in
set_option maxHeartbeats 8000000 in
theorem put_zero (B : Ctx) (b : Nat) (key : ByteArray) (a : Option Addr) (n cap : Nat) :
    Tri Try.prog B 21 #[.pointer (some ⟨b, 0, none⟩), .string key, .slice a n cap] [pt b (.cells #[.map none, .slice none 0 0, .int .i64 0, .int .i64 0, .int .i64 0, .int .i64 0, .int .i64 0, .bool false] 52 (0, 0))] (fun u M => u = .int .i64 1 ∧ M = [pt b (.cells #[.map none, .slice none 0 0, .int .i64 0, .int .i64 0, .int .i64 0, .int .i64 0, .int .i64 0, .bool false] 52 (0, 0))]) := by
  refine tri_body (n := 48) Try.func21 rfl rfl rfl ?_
  intro F
  show WC _ _ _ _ _ _ _ [(0, .pointer (some ⟨b, 0, none⟩)), (1, .string key), (2, .slice a n cap)] [pt b (.cells #[.map none, .slice none 0 0, .int .i64 0, .int .i64 0, .int .i64 0, .int .i64 0, .int .i64 0, .bool false] 52 (0, 0)), F]
  refine wc_seq ?_
  refine wc_region ?_
  refine wl_do trivial rfl (do_box rfl rfl) ?_
  rintro _ _ ⟨b1, rfl, rfl⟩
  refine wl_do trivial rfl (do_box rfl rfl) ?_
  rintro _ _ ⟨b2, rfl, rfl⟩
  refine wl_do trivial rfl (do_box rfl rfl) ?_
  rintro _ _ ⟨b3, rfl, rfl⟩
  refine wl_1 trivial rfl (do_assign rfl) ?_
  refine wl_nil ?_
  refine at_then ?_
  refine wc_seq ?_
  refine wc_seq ?_
  refine wc_region ?_
  refine wl_1 trivial rfl (do_load 2 rfl one_23 rfl rfl) ?_
  refine wl_do trivial rfl (do_call (none_zero B b) ⟨rfl, trivial⟩ enters_59 [3] [0, 1, 2, 4] ⟨rfl, trivial⟩ ⟨rfl, rfl, rfl, rfl, trivial⟩ (R := [_, _, _, _]) (by decide)) ?_
  rintro _ _ ⟨_, ⟨rfl, rfl⟩, rfl⟩
  refine wl_1 trivial rfl (do_move rfl) ?_
  refine wl_no rfl rfl rfl rfl rfl ?_
  refine wl_no rfl rfl rfl rfl rfl ?_
  refine wl_1 trivial rfl (do_pickT rfl rfl) ?_
  refine wl_1 trivial rfl (do_move rfl) ?_
  refine wl_no rfl rfl rfl rfl rfl ?_
  refine wl_no rfl rfl rfl rfl rfl ?_
  refine wl_no rfl rfl rfl rfl rfl ?_
  refine wl_1 trivial rfl (do_pickT rfl rfl) ?_
  refine wl_nil ?_
  refine at_then ?_
  refine wc_true rfl ?_
  refine wc_seq ?_
  refine wc_region ?_
  refine wl_1 trivial rfl (do_assign rfl) ?_
  refine wl_nil ?_
  refine at_then ?_
  refine wc_ret ?_
  refine at_then_ret ?_
  refine at_pick (M := [_, _]) [0, 4] ⟨rfl, rfl, trivial⟩ (by decide) ?_
  exact at_ret1 (M := [_]) rfl rfl ⟨rfl, rfl⟩ rfl

set_option maxRecDepth 100000 in
set_option maxHeartbeats 8000000 in
theorem get_nil (B : Ctx) (key : ByteArray) :
    Tri Try.prog B 18 #[.pointer none, .string key] [] (fun u M => u = .tuple #[.slice none 0 0, .int .i64 1] ∧ M = []) := by
  refine tri_body (n := 34) Try.func18 rfl rfl rfl ?_
  intro F
  show WC _ _ _ _ _ _ _ [(0, .pointer none), (1, .string key)] [F]
  refine wc_seq ?_
  refine wc_region ?_
  refine wl_1 trivial rfl (do_assign rfl) ?_
  refine wl_1 trivial rfl (do_assign rfl) ?_
  refine wl_nil ?_
  refine at_then ?_
  refine wc_seq ?_
  refine wc_seq ?_
  refine wc_region ?_
  refine wl_1 trivial rfl (do_move rfl) ?_
  refine wl_do trivial rfl (do_call (none_nil B) ⟨rfl, trivial⟩ enters_59 [] [0] trivial ⟨rfl, trivial⟩ (R := [_]) (by decide)) ?_
  rintro _ _ ⟨_, ⟨rfl, rfl⟩, rfl⟩
  refine wl_1 trivial rfl (do_move rfl) ?_
  refine wl_no rfl rfl rfl rfl rfl ?_
  refine wl_no rfl rfl rfl rfl rfl ?_
  refine wl_1 trivial rfl (do_pickT rfl rfl) ?_
  refine wl_1 trivial rfl (do_move rfl) ?_
  refine wl_no rfl rfl rfl rfl rfl ?_
  refine wl_no rfl rfl rfl rfl rfl ?_
  refine wl_no rfl rfl rfl rfl rfl ?_
  refine wl_1 trivial rfl (do_pickT rfl rfl) ?_
  refine wl_nil ?_
  refine at_then ?_
  refine wc_true rfl ?_
  refine wc_seq ?_
  refine wc_region ?_
  refine wl_1 trivial rfl (do_assign rfl) ?_
  refine wl_1 trivial rfl (do_assign rfl) ?_
  refine wl_nil ?_
  refine at_then ?_
  refine wc_ret ?_
  refine at_then_ret ?_
  exact at_ret2 (M := []) rfl rfl rfl ⟨rfl, rfl⟩ rfl

set_option maxRecDepth 100000 in
set_option maxHeartbeats 8000000 in
theorem get_zero (B : Ctx) (b : Nat) (key : ByteArray) :
    Tri Try.prog B 18 #[.pointer (some ⟨b, 0, none⟩), .string key] [pt b (.cells #[.map none, .slice none 0 0, .int .i64 0, .int .i64 0, .int .i64 0, .int .i64 0, .int .i64 0, .bool false] 52 (0, 0))] (fun u M => u = .tuple #[.slice none 0 0, .int .i64 1] ∧ M = [pt b (.cells #[.map none, .slice none 0 0, .int .i64 0, .int .i64 0, .int .i64 0, .int .i64 0, .int .i64 0, .bool false] 52 (0, 0))]) := by
  refine tri_body (n := 34) Try.func18 rfl rfl rfl ?_
  intro F
  show WC _ _ _ _ _ _ _ [(0, .pointer (some ⟨b, 0, none⟩)), (1, .string key)] [pt b (.cells #[.map none, .slice none 0 0, .int .i64 0, .int .i64 0, .int .i64 0, .int .i64 0, .int .i64 0, .bool false] 52 (0, 0)), F]
  refine wc_seq ?_
  refine wc_region ?_
  refine wl_1 trivial rfl (do_assign rfl) ?_
  refine wl_1 trivial rfl (do_assign rfl) ?_
  refine wl_nil ?_
  refine at_then ?_
  refine wc_seq ?_
  refine wc_seq ?_
  refine wc_region ?_
  refine wl_1 trivial rfl (do_move rfl) ?_
  refine wl_do trivial rfl (do_call (none_zero B b) ⟨rfl, trivial⟩ enters_59 [0] [1] ⟨rfl, trivial⟩ ⟨rfl, trivial⟩ (R := [_]) (by decide)) ?_
  rintro _ _ ⟨_, ⟨rfl, rfl⟩, rfl⟩
  refine wl_1 trivial rfl (do_move rfl) ?_
  refine wl_no rfl rfl rfl rfl rfl ?_
  refine wl_no rfl rfl rfl rfl rfl ?_
  refine wl_1 trivial rfl (do_pickT rfl rfl) ?_
  refine wl_1 trivial rfl (do_move rfl) ?_
  refine wl_no rfl rfl rfl rfl rfl ?_
  refine wl_no rfl rfl rfl rfl rfl ?_
  refine wl_no rfl rfl rfl rfl rfl ?_
  refine wl_1 trivial rfl (do_pickT rfl rfl) ?_
  refine wl_nil ?_
  refine at_then ?_
  refine wc_true rfl ?_
  refine wc_seq ?_
  refine wc_region ?_
  refine wl_1 trivial rfl (do_assign rfl) ?_
  refine wl_1 trivial rfl (do_assign rfl) ?_
  refine wl_nil ?_
  refine at_then ?_
  refine wc_ret ?_
  refine at_then_ret ?_
  exact at_ret2 (M := [_]) rfl rfl rfl ⟨rfl, rfl⟩ rfl

set_option maxRecDepth 100000 in
set_option maxHeartbeats 8000000 in
theorem look_nil (B : Ctx) (key : ByteArray) :
    Tri Try.prog B 20 #[.pointer none, .string key] [] (fun u M => u = .tuple #[.slice none 0 0, .bool false] ∧ M = []) := by
  refine tri_body (n := 23) Try.func20 rfl rfl rfl ?_
  intro F
  show WC _ _ _ _ _ _ _ [(0, .pointer none), (1, .string key)] [F]
  refine wc_seq ?_
  refine wc_region ?_
  refine wl_1 trivial rfl (do_assign rfl) ?_
  refine wl_1 trivial rfl (do_assign rfl) ?_
  refine wl_nil ?_
  refine at_then ?_
  refine wc_seq ?_
  refine wc_seq ?_
  refine wc_region ?_
  refine wl_1 trivial rfl (do_move rfl) ?_
  refine wl_do trivial rfl (do_call (none_nil B) ⟨rfl, trivial⟩ enters_59 [] [0] trivial ⟨rfl, trivial⟩ (R := [_]) (by decide)) ?_
  rintro _ _ ⟨_, ⟨rfl, rfl⟩, rfl⟩
  refine wl_nil ?_
  refine at_then ?_
  refine wc_true rfl ?_
  refine wc_seq ?_
  refine wc_region ?_
  refine wl_1 trivial rfl (do_assign rfl) ?_
  refine wl_1 trivial rfl (do_assign rfl) ?_
  refine wl_nil ?_
  refine at_then ?_
  refine wc_ret ?_
  refine at_then_ret ?_
  exact at_ret2 (M := []) rfl rfl rfl ⟨rfl, rfl⟩ rfl

set_option maxRecDepth 100000 in
set_option maxHeartbeats 8000000 in
theorem look_zero (B : Ctx) (b : Nat) (key : ByteArray) :
    Tri Try.prog B 20 #[.pointer (some ⟨b, 0, none⟩), .string key] [pt b (.cells #[.map none, .slice none 0 0, .int .i64 0, .int .i64 0, .int .i64 0, .int .i64 0, .int .i64 0, .bool false] 52 (0, 0))] (fun u M => u = .tuple #[.slice none 0 0, .bool false] ∧ M = [pt b (.cells #[.map none, .slice none 0 0, .int .i64 0, .int .i64 0, .int .i64 0, .int .i64 0, .int .i64 0, .bool false] 52 (0, 0))]) := by
  refine tri_body (n := 23) Try.func20 rfl rfl rfl ?_
  intro F
  show WC _ _ _ _ _ _ _ [(0, .pointer (some ⟨b, 0, none⟩)), (1, .string key)] [pt b (.cells #[.map none, .slice none 0 0, .int .i64 0, .int .i64 0, .int .i64 0, .int .i64 0, .int .i64 0, .bool false] 52 (0, 0)), F]
  refine wc_seq ?_
  refine wc_region ?_
  refine wl_1 trivial rfl (do_assign rfl) ?_
  refine wl_1 trivial rfl (do_assign rfl) ?_
  refine wl_nil ?_
  refine at_then ?_
  refine wc_seq ?_
  refine wc_seq ?_
  refine wc_region ?_
  refine wl_1 trivial rfl (do_move rfl) ?_
  refine wl_do trivial rfl (do_call (none_zero B b) ⟨rfl, trivial⟩ enters_59 [0] [1] ⟨rfl, trivial⟩ ⟨rfl, trivial⟩ (R := [_]) (by decide)) ?_
  rintro _ _ ⟨_, ⟨rfl, rfl⟩, rfl⟩
  refine wl_nil ?_
  refine at_then ?_
  refine wc_true rfl ?_
  refine wc_seq ?_
  refine wc_region ?_
  refine wl_1 trivial rfl (do_assign rfl) ?_
  refine wl_1 trivial rfl (do_assign rfl) ?_
  refine wl_nil ?_
  refine at_then ?_
  refine wc_ret ?_
  refine at_then_ret ?_
  exact at_ret2 (M := [_]) rfl rfl rfl ⟨rfl, rfl⟩ rfl

set_option maxRecDepth 100000 in
set_option maxHeartbeats 8000000 in
theorem list_nil (B : Ctx) (key : ByteArray) :
    Tri Try.prog B 19 #[.pointer none, .string key] [] (fun u M => u = .tuple #[.slice none 0 0, .int .i64 1] ∧ M = []) := by
  refine tri_body (n := 49) Try.func19 rfl rfl rfl ?_
  intro F
  show WC _ _ _ _ _ _ _ [(0, .pointer none), (1, .string key)] [F]
  refine wc_seq ?_
  refine wc_region ?_
  refine wl_do trivial rfl (do_box rfl rfl) ?_
  rintro _ _ ⟨b1, rfl, rfl⟩
  refine wl_1 trivial rfl (do_assign rfl) ?_
  refine wl_1 trivial rfl (do_assign rfl) ?_
  refine wl_nil ?_
  refine at_then ?_
  refine wc_seq ?_
  refine wc_seq ?_
  refine wc_region ?_
  refine wl_1 trivial rfl (do_move rfl) ?_
  refine wl_do trivial rfl (do_call (none_nil B) ⟨rfl, trivial⟩ enters_59 [] [0, 1] trivial ⟨rfl, rfl, trivial⟩ (R := [_, _]) (by decide)) ?_
  rintro _ _ ⟨_, ⟨rfl, rfl⟩, rfl⟩
  refine wl_1 trivial rfl (do_move rfl) ?_
  refine wl_no rfl rfl rfl rfl rfl ?_
  refine wl_no rfl rfl rfl rfl rfl ?_
  refine wl_no rfl rfl rfl rfl rfl ?_
  refine wl_1 trivial rfl (do_pickT rfl rfl) ?_
  refine wl_nil ?_
  refine at_then ?_
  refine wc_true rfl ?_
  refine wc_seq ?_
  refine wc_region ?_
  refine wl_1 trivial rfl (do_assign rfl) ?_
  refine wl_1 trivial rfl (do_assign rfl) ?_
  refine wl_nil ?_
  refine at_then ?_
  refine wc_ret ?_
  refine at_then_ret ?_
  refine at_pick (M := [_]) [1] ⟨rfl, trivial⟩ (by decide) ?_
  exact at_ret2 (M := []) rfl rfl rfl ⟨rfl, rfl⟩ rfl

set_option maxRecDepth 100000 in
set_option maxHeartbeats 8000000 in
theorem list_zero (B : Ctx) (b : Nat) (key : ByteArray) :
    Tri Try.prog B 19 #[.pointer (some ⟨b, 0, none⟩), .string key] [pt b (.cells #[.map none, .slice none 0 0, .int .i64 0, .int .i64 0, .int .i64 0, .int .i64 0, .int .i64 0, .bool false] 52 (0, 0))] (fun u M => u = .tuple #[.slice none 0 0, .int .i64 1] ∧ M = [pt b (.cells #[.map none, .slice none 0 0, .int .i64 0, .int .i64 0, .int .i64 0, .int .i64 0, .int .i64 0, .bool false] 52 (0, 0))]) := by
  refine tri_body (n := 49) Try.func19 rfl rfl rfl ?_
  intro F
  show WC _ _ _ _ _ _ _ [(0, .pointer (some ⟨b, 0, none⟩)), (1, .string key)] [pt b (.cells #[.map none, .slice none 0 0, .int .i64 0, .int .i64 0, .int .i64 0, .int .i64 0, .int .i64 0, .bool false] 52 (0, 0)), F]
  refine wc_seq ?_
  refine wc_region ?_
  refine wl_do trivial rfl (do_box rfl rfl) ?_
  rintro _ _ ⟨b1, rfl, rfl⟩
  refine wl_1 trivial rfl (do_assign rfl) ?_
  refine wl_1 trivial rfl (do_assign rfl) ?_
  refine wl_nil ?_
  refine at_then ?_
  refine wc_seq ?_
  refine wc_seq ?_
  refine wc_region ?_
  refine wl_1 trivial rfl (do_move rfl) ?_
  refine wl_do trivial rfl (do_call (none_zero B b) ⟨rfl, trivial⟩ enters_59 [1] [0, 2] ⟨rfl, trivial⟩ ⟨rfl, rfl, trivial⟩ (R := [_, _]) (by decide)) ?_
  rintro _ _ ⟨_, ⟨rfl, rfl⟩, rfl⟩
  refine wl_1 trivial rfl (do_move rfl) ?_
  refine wl_no rfl rfl rfl rfl rfl ?_
  refine wl_no rfl rfl rfl rfl rfl ?_
  refine wl_no rfl rfl rfl rfl rfl ?_
  refine wl_1 trivial rfl (do_pickT rfl rfl) ?_
  refine wl_nil ?_
  refine at_then ?_
  refine wc_true rfl ?_
  refine wc_seq ?_
  refine wc_region ?_
  refine wl_1 trivial rfl (do_assign rfl) ?_
  refine wl_1 trivial rfl (do_assign rfl) ?_
  refine wl_nil ?_
  refine at_then ?_
  refine wc_ret ?_
  refine at_then_ret ?_
  refine at_pick (M := [_, _]) [0, 2] ⟨rfl, rfl, trivial⟩ (by decide) ?_
  exact at_ret2 (M := [_]) rfl rfl rfl ⟨rfl, rfl⟩ rfl

set_option maxRecDepth 100000 in
set_option maxHeartbeats 8000000 in
theorem del_nil (B : Ctx) (key : ByteArray) :
    Tri Try.prog B 22 #[.pointer none, .string key] [] (fun u M => u = .int .i64 1 ∧ M = []) := by
  refine tri_body (n := 20) Try.func22 rfl rfl rfl ?_
  intro F
  show WC _ _ _ _ _ _ _ [(0, .pointer none), (1, .string key)] [F]
  refine wc_seq ?_
  refine wc_region ?_
  refine wl_do trivial rfl (do_box rfl rfl) ?_
  rintro _ _ ⟨b1, rfl, rfl⟩
  refine wl_do trivial rfl (do_box rfl rfl) ?_
  rintro _ _ ⟨b2, rfl, rfl⟩
  refine wl_1 trivial rfl (do_assign rfl) ?_
  refine wl_nil ?_
  refine at_then ?_
  refine wc_seq ?_
  refine wc_seq ?_
  refine wc_region ?_
  refine wl_1 trivial rfl (do_load 1 rfl one_23 rfl rfl) ?_
  refine wl_do trivial rfl (do_call (none_nil B) ⟨rfl, trivial⟩ enters_59 [] [0, 1, 2] trivial ⟨rfl, rfl, rfl, trivial⟩ (R := [_, _, _]) (by decide)) ?_
  rintro _ _ ⟨_, ⟨rfl, rfl⟩, rfl⟩
  refine wl_1 trivial rfl (do_move rfl) ?_
  refine wl_no rfl rfl rfl rfl rfl ?_
  refine wl_no rfl rfl rfl rfl rfl ?_
  refine wl_1 trivial rfl (do_pickT rfl rfl) ?_
  refine wl_1 trivial rfl (do_move rfl) ?_
  refine wl_no rfl rfl rfl rfl rfl ?_
  refine wl_no rfl rfl rfl rfl rfl ?_
  refine wl_no rfl rfl rfl rfl rfl ?_
  refine wl_1 trivial rfl (do_pickT rfl rfl) ?_
  refine wl_nil ?_
  refine at_then ?_
  refine wc_true rfl ?_
  refine wc_seq ?_
  refine wc_region ?_
  refine wl_1 trivial rfl (do_assign rfl) ?_
  refine wl_nil ?_
  refine at_then ?_
  refine wc_ret ?_
  refine at_then_ret ?_
  refine at_pick (M := [_]) [2] ⟨rfl, trivial⟩ (by decide) ?_
  exact at_ret1 (M := []) rfl rfl ⟨rfl, rfl⟩ rfl

set_option maxRecDepth 100000 in
set_option maxHeartbeats 8000000 in
theorem del_zero (B : Ctx) (b : Nat) (key : ByteArray) :
    Tri Try.prog B 22 #[.pointer (some ⟨b, 0, none⟩), .string key] [pt b (.cells #[.map none, .slice none 0 0, .int .i64 0, .int .i64 0, .int .i64 0, .int .i64 0, .int .i64 0, .bool false] 52 (0, 0))] (fun u M => u = .int .i64 1 ∧ M = [pt b (.cells #[.map none, .slice none 0 0, .int .i64 0, .int .i64 0, .int .i64 0, .int .i64 0, .int .i64 0, .bool false] 52 (0, 0))]) := by
  refine tri_body (n := 20) Try.func22 rfl rfl rfl ?_
  intro F
  show WC _ _ _ _ _ _ _ [(0, .pointer (some ⟨b, 0, none⟩)), (1, .string key)] [pt b (.cells #[.map none, .slice none 0 0, .int .i64 0, .int .i64 0, .int .i64 0, .int .i64 0, .int .i64 0, .bool false] 52 (0, 0)), F]
  refine wc_seq ?_
  refine wc_region ?_
  refine wl_do trivial rfl (do_box rfl rfl) ?_
  rintro _ _ ⟨b1, rfl, rfl⟩
  refine wl_do trivial rfl (do_box rfl rfl) ?_
  rintro _ _ ⟨b2, rfl, rfl⟩
  refine wl_1 trivial rfl (do_assign rfl) ?_
  refine wl_nil ?_
  refine at_then ?_
  refine wc_seq ?_
  refine wc_seq ?_
  refine wc_region ?_
  refine wl_1 trivial rfl (do_load 1 rfl one_23 rfl rfl) ?_
  refine wl_do trivial rfl (do_call (none_zero B b) ⟨rfl, trivial⟩ enters_59 [2] [0, 1, 3] ⟨rfl, trivial⟩ ⟨rfl, rfl, rfl, trivial⟩ (R := [_, _, _]) (by decide)) ?_
  rintro _ _ ⟨_, ⟨rfl, rfl⟩, rfl⟩
  refine wl_1 trivial rfl (do_move rfl) ?_
  refine wl_no rfl rfl rfl rfl rfl ?_
  refine wl_no rfl rfl rfl rfl rfl ?_
  refine wl_1 trivial rfl (do_pickT rfl rfl) ?_
  refine wl_1 trivial rfl (do_move rfl) ?_
  refine wl_no rfl rfl rfl rfl rfl ?_
  refine wl_no rfl rfl rfl rfl rfl ?_
  refine wl_no rfl rfl rfl rfl rfl ?_
  refine wl_1 trivial rfl (do_pickT rfl rfl) ?_
  refine wl_nil ?_
  refine at_then ?_
  refine wc_true rfl ?_
  refine wc_seq ?_
  refine wc_region ?_
  refine wl_1 trivial rfl (do_assign rfl) ?_
  refine wl_nil ?_
  refine at_then ?_
  refine wc_ret ?_
  refine at_then_ret ?_
  refine at_pick (M := [_, _]) [0, 3] ⟨rfl, rfl, trivial⟩ (by decide) ?_
  exact at_ret1 (M := [_]) rfl rfl ⟨rfl, rfl⟩ rfl

set_option maxRecDepth 100000 in
set_option maxHeartbeats 8000000 in
theorem keys_nil (B : Ctx) :
    Tri Try.prog B 25 #[.pointer none] [] (fun u M => u = .slice none 0 0 ∧ M = []) := by
  refine tri_body (n := 11) Try.func25 rfl rfl rfl ?_
  intro F
  show WC _ _ _ _ _ _ _ [(0, .pointer none)] [F]
  refine wc_seq ?_
  refine wc_region ?_
  refine wl_1 trivial rfl (do_assign rfl) ?_
  refine wl_nil ?_
  refine at_then ?_
  refine wc_seq ?_
  refine wc_seq ?_
  refine wc_region ?_
  refine wl_1 trivial rfl (do_move rfl) ?_
  refine wl_do trivial rfl (do_call (none_nil B) ⟨rfl, trivial⟩ enters_59 [] [0] trivial ⟨rfl, trivial⟩ (R := [_]) (by decide)) ?_
  rintro _ _ ⟨_, ⟨rfl, rfl⟩, rfl⟩
  refine wl_nil ?_
  refine at_then ?_
  refine wc_true rfl ?_
  refine wc_seq ?_
  refine wc_region ?_
  refine wl_1 trivial rfl (do_assign rfl) ?_
  refine wl_nil ?_
  refine at_then ?_
  refine wc_ret ?_
  refine at_then_ret ?_
  exact at_ret1 (M := []) rfl rfl ⟨rfl, rfl⟩ rfl

set_option maxRecDepth 100000 in
set_option maxHeartbeats 8000000 in
theorem keys_zero (B : Ctx) (b : Nat) :
    Tri Try.prog B 25 #[.pointer (some ⟨b, 0, none⟩)] [pt b (.cells #[.map none, .slice none 0 0, .int .i64 0, .int .i64 0, .int .i64 0, .int .i64 0, .int .i64 0, .bool false] 52 (0, 0))] (fun u M => u = .slice none 0 0 ∧ M = [pt b (.cells #[.map none, .slice none 0 0, .int .i64 0, .int .i64 0, .int .i64 0, .int .i64 0, .int .i64 0, .bool false] 52 (0, 0))]) := by
  refine tri_body (n := 11) Try.func25 rfl rfl rfl ?_
  intro F
  show WC _ _ _ _ _ _ _ [(0, .pointer (some ⟨b, 0, none⟩))] [pt b (.cells #[.map none, .slice none 0 0, .int .i64 0, .int .i64 0, .int .i64 0, .int .i64 0, .int .i64 0, .bool false] 52 (0, 0)), F]
  refine wc_seq ?_
  refine wc_region ?_
  refine wl_1 trivial rfl (do_assign rfl) ?_
  refine wl_nil ?_
  refine at_then ?_
  refine wc_seq ?_
  refine wc_seq ?_
  refine wc_region ?_
  refine wl_1 trivial rfl (do_move rfl) ?_
  refine wl_do trivial rfl (do_call (none_zero B b) ⟨rfl, trivial⟩ enters_59 [0] [1] ⟨rfl, trivial⟩ ⟨rfl, trivial⟩ (R := [_]) (by decide)) ?_
  rintro _ _ ⟨_, ⟨rfl, rfl⟩, rfl⟩
  refine wl_nil ?_
  refine at_then ?_
  refine wc_true rfl ?_
  refine wc_seq ?_
  refine wc_region ?_
  refine wl_1 trivial rfl (do_assign rfl) ?_
  refine wl_nil ?_
  refine at_then ?_
  refine wc_ret ?_
  refine at_then_ret ?_
  exact at_ret1 (M := [_]) rfl rfl ⟨rfl, rfl⟩ rfl

set_option maxRecDepth 100000 in
set_option maxHeartbeats 8000000 in
theorem num_tri (B : Ctx) (k : Int) :
    Tri Try.prog B 14 #[.int .i64 k] [] (fun u M => u = .int .i64 k ∧ M = []) := by
  refine tri_body (n := 4) Try.func14 rfl rfl rfl ?_
  intro F
  show WC _ _ _ _ _ _ _ [(0, .int .i64 k)] [F]
  refine wc_seq ?_
  refine wc_region ?_
  refine wl_1 trivial rfl (do_assign rfl) ?_
  refine wl_nil ?_
  refine at_then ?_
  refine wc_seq ?_
  refine wc_region ?_
  refine wl_1 trivial rfl (do_move rfl) ?_
  refine wl_1 trivial rfl (do_assign rfl) ?_
  refine wl_nil ?_
  refine at_then ?_
  refine wc_ret ?_
  exact at_ret1 (M := []) rfl rfl ⟨rfl, rfl⟩ rfl
end Go.Proofs.Ytmefejfnddcelaa
