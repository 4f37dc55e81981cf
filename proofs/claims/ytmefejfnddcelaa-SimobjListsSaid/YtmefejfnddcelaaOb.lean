/- Printed by gen/simobj.py for this claim: what each of these functions of the program does, as its theorem says. No condition but what stands in each theorem. -/
import Derived.Test.YtmefejfnddcelaaOa
namespace Go.Proofs.Ytmefejfnddcelaa
/-- The store, as the document tells it. -/
structure SS where
  objs : List (ByteArray × List UInt8)
  chg : List (ByteArray × Int × Bool)
  most : Int
  lag : Int
  now : Int
  calls : Int
  count : Int
  done : Bool

def chgCells (l : List (ByteArray × Int × Bool)) : List Value := l.flatMap fun c => [.string c.1, .int .i64 c.2.1, .bool c.2.2]
theorem chgCells_snoc (l : List (ByteArray × Int × Bool)) (k : ByteArray) (t : Int) (b : Bool) : chgCells (l ++ [(k, t, b)]) = chgCells l ++ [.string k, .int .i64 t, .bool b] := by simp [chgCells]
theorem chgCells_len (l : List (ByteArray × Int × Bool)) : (chgCells l).length = l.length * 3 := by
  induction l with
  | nil => rfl
  | cons x l ih => simp only [chgCells, List.flatMap_cons, List.length_append, List.length_cons, List.length_nil] at ih ⊢; rw [ih]; omega

def SL (B : Ctx) (b r : Nat) (v : Value) (lv : List (ByteArray × Value)) (s : SS) : List Assn :=
  [pt b (.cells #[.map (some r), v, .int .i64 s.most, .int .i64 s.lag, .int .i64 s.now, .int .i64 s.calls, .int .i64 s.count, .bool s.done] 52 (0, 0)), mapA encS r lv, row 113 3 v s.chg.length (chgCells s.chg), valsA B lv s.objs]

/-- What is kept of the numbers. -/
structure SOk (s : SS) : Prop where
  now0 : 0 ≤ s.now
  now1 : s.now ≤ 1099511627776
  lag0 : 0 ≤ s.lag
  lag1 : s.lag ≤ 100
  calls0 : 0 ≤ s.calls
  count0 : 0 ≤ s.count
  count1 : s.count ≤ 9223372036854775807
  val1 : ∀ k bs, aget s.objs k = some bs → bs.length ≤ 1048576
  most0 : 0 ≤ s.most
  most1 : s.most ≤ 100

/-- A call: its error, whether it is done, the store behind it. -/
def callS (s : SS) : Int × Bool × SS :=
  if 0 < s.count then (if s.count = 1 then (8, s.done, { s with calls := s.calls + 1, count := s.count - 1 }) else (0, true, { s with calls := s.calls + 1, count := s.count - 1 }))
  else (0, true, { s with calls := s.calls + 1 })
theorem callS_0 {s : SS} (h : s.count ≤ 0) : callS s = (0, true, { s with calls := s.calls + 1 }) := by unfold callS; rw [if_neg (by omega)]
theorem callS_1 {s : SS} (h : s.count = 1) : callS s = (8, s.done, { s with calls := s.calls + 1, count := s.count - 1 }) := by unfold callS; rw [if_pos (by omega), if_pos h]
theorem callS_2 {s : SS} (h : 1 < s.count) : callS s = (0, true, { s with calls := s.calls + 1, count := s.count - 1 }) := by unfold callS; rw [if_pos (by omega), if_neg (by omega)]
theorem isPtr_23 : isPtr Try.prog 23 = true := by kernel_rfl
theorem fo_52_0 : fieldOk Try.prog 52 0 0 = true := by kernel_rfl
theorem one_49 : oneOk Try.prog 49 = true := by kernel_rfl
theorem isMap_49 : isMap Try.prog 49 = true := by kernel_rfl
theorem enters_59 : Enters Try.prog 59 := enters_of Try.func59 (by kernel_rfl) (by kernel_rfl)
theorem fo_52_4 : fieldOk Try.prog 52 4 4 = true := by kernel_rfl
theorem one_3 : oneOk Try.prog 3 = true := by kernel_rfl
theorem fo_52_5 : fieldOk Try.prog 52 5 5 = true := by kernel_rfl
theorem fo_52_2 : fieldOk Try.prog 52 2 2 = true := by kernel_rfl
theorem fo_52_3 : fieldOk Try.prog 52 3 3 = true := by kernel_rfl
theorem fo_52_6 : fieldOk Try.prog 52 6 6 = true := by kernel_rfl
theorem isSlice_147 : isSlice Try.prog 147 = true := by kernel_rfl
theorem fo_52_7 : fieldOk Try.prog 52 7 7 = true := by kernel_rfl
theorem one_4 : oneOk Try.prog 4 = true := by kernel_rfl
theorem mixed : Try.prog.follows .mixedOrders = true := by kernel_rfl
set_option maxRecDepth 100000 in
set_option maxHeartbeats 8000000 in
theorem none_nil (B : Ctx) :
    Tri Try.prog B 59 #[.pointer none] [] (fun u M => u = .bool true ∧ M = []) := by
  refine tri_body (n := 12) Try.func59 rfl rfl rfl ?_
  intro F
  show WC _ _ _ _ _ _ _ [(0, .pointer none)] [F]
  refine wc_seq ?_
  refine wc_region ?_
  refine wl_1 trivial rfl (do_assign rfl) ?_
  refine wl_nil ?_
  refine at_then ?_
  refine wc_seq ?_
  refine wc_region ?_
  refine wl_1 trivial rfl (do_move rfl) ?_
  refine wl_1 trivial rfl (do_eqPtr isPtr_23 rfl rfl (.inl rfl)) ?_
  refine wl_1 trivial rfl (do_move rfl) ?_
  refine wl_no rfl rfl rfl rfl rfl ?_
  refine wl_no rfl rfl rfl rfl rfl ?_
  refine wl_no rfl rfl rfl rfl rfl ?_
  refine wl_no rfl rfl rfl rfl rfl ?_
  refine wl_no rfl rfl rfl rfl rfl ?_
  refine wl_1 trivial rfl (do_pickT rfl rfl) ?_
  refine wl_1 trivial rfl (do_assign rfl) ?_
  refine wl_nil ?_
  refine at_then ?_
  refine wc_ret ?_
  exact at_ret1 (M := []) rfl rfl ⟨rfl, rfl⟩ rfl

set_option maxRecDepth 100000 in
set_option maxHeartbeats 8000000 in
theorem none_zero (B : Ctx) (b : Nat) :
    Tri Try.prog B 59 #[.pointer (some ⟨b, 0, none⟩)] [pt b (.cells #[.map none, .slice none 0 0, .int .i64 0, .int .i64 0, .int .i64 0, .int .i64 0, .int .i64 0, .bool false] 52 (0, 0))] (fun u M => u = .bool true ∧ M = [pt b (.cells #[.map none, .slice none 0 0, .int .i64 0, .int .i64 0, .int .i64 0, .int .i64 0, .int .i64 0, .bool false] 52 (0, 0))]) := by
  refine tri_body (n := 12) Try.func59 rfl rfl rfl ?_
  intro F
  show WC _ _ _ _ _ _ _ [(0, .pointer (some ⟨b, 0, none⟩))] [pt b (.cells #[.map none, .slice none 0 0, .int .i64 0, .int .i64 0, .int .i64 0, .int .i64 0, .int .i64 0, .bool false] 52 (0, 0)), F]
  refine wc_seq ?_
  refine wc_region ?_
  refine wl_1 trivial rfl (do_assign rfl) ?_
  refine wl_nil ?_
  refine at_then ?_
  refine wc_seq ?_
  refine wc_region ?_
  refine wl_1 trivial rfl (do_move rfl) ?_
  refine wl_1 trivial rfl (do_eqPtr isPtr_23 rfl rfl (.inr rfl)) ?_
  refine wl_1 trivial rfl (do_move rfl) ?_
  refine wl_1 ⟨_, rfl, rfl⟩ rfl (do_move rfl) ?_
  refine wl_1 ⟨_, rfl, rfl⟩ rfl (do_nilCheck rfl) ?_
  refine wl_1 ⟨_, rfl, rfl⟩ rfl (do_fieldAddr (k := 0) (k' := 0) fo_52_0 rfl (by rfl)) ?_
  refine wl_1 ⟨_, rfl, rfl⟩ rfl (do_load 0 rfl one_49 rfl rfl) ?_
  refine wl_1 ⟨_, rfl, rfl⟩ rfl (do_eqMap isMap_49 rfl rfl) ?_
  refine wl_1 trivial rfl (do_pickF rfl rfl) ?_
  refine wl_1 trivial rfl (do_assign rfl) ?_
  refine wl_nil ?_
  refine at_then ?_
  refine wc_ret ?_
  exact at_ret1 (M := [_]) rfl rfl ⟨rfl, rfl⟩ rfl

set_option maxRecDepth 100000 in
set_option maxHeartbeats 8000000 in
theorem none_made (B : Ctx) (b r : Nat) (v : Value) (most lag now calls count : Int) (done : Bool) :
    Tri Try.prog B 59 #[.pointer (some ⟨b, 0, none⟩)] [pt b (.cells #[.map (some r), v, .int .i64 most, .int .i64 lag, .int .i64 now, .int .i64 calls, .int .i64 count, .bool done] 52 (0, 0))] (fun u M => u = .bool false ∧ M = [pt b (.cells #[.map (some r), v, .int .i64 most, .int .i64 lag, .int .i64 now, .int .i64 calls, .int .i64 count, .bool done] 52 (0, 0))]) := by
  refine tri_body (n := 12) Try.func59 rfl rfl rfl ?_
  intro F
  show WC _ _ _ _ _ _ _ [(0, .pointer (some ⟨b, 0, none⟩))] [pt b (.cells #[.map (some r), v, .int .i64 most, .int .i64 lag, .int .i64 now, .int .i64 calls, .int .i64 count, .bool done] 52 (0, 0)), F]
  refine wc_seq ?_
  refine wc_region ?_
  refine wl_1 trivial rfl (do_assign rfl) ?_
  refine wl_nil ?_
  refine at_then ?_
  refine wc_seq ?_
  refine wc_region ?_
  refine wl_1 trivial rfl (do_move rfl) ?_
  refine wl_1 trivial rfl (do_eqPtr isPtr_23 rfl rfl (.inr rfl)) ?_
  refine wl_1 trivial rfl (do_move rfl) ?_
  refine wl_1 ⟨_, rfl, rfl⟩ rfl (do_move rfl) ?_
  refine wl_1 ⟨_, rfl, rfl⟩ rfl (do_nilCheck rfl) ?_
  refine wl_1 ⟨_, rfl, rfl⟩ rfl (do_fieldAddr (k := 0) (k' := 0) fo_52_0 rfl (by rfl)) ?_
  refine wl_1 ⟨_, rfl, rfl⟩ rfl (do_load 0 rfl one_49 rfl rfl) ?_
  refine wl_1 ⟨_, rfl, rfl⟩ rfl (do_eqMap isMap_49 rfl rfl) ?_
  refine wl_1 trivial rfl (do_pickF rfl rfl) ?_
  refine wl_1 trivial rfl (do_assign rfl) ?_
  refine wl_nil ?_
  refine at_then ?_
  refine wc_ret ?_
  exact at_ret1 (M := [_]) rfl rfl ⟨rfl, rfl⟩ rfl

set_option maxRecDepth 100000 in
set_option maxHeartbeats 8000000 in
theorem now_nil (B : Ctx) :
    Tri Try.prog B 26 #[.pointer none] [] (fun u M => u = .int .i64 0 ∧ M = []) := by
  refine tri_body (n := 9) Try.func26 rfl rfl rfl ?_
  intro F
  show WC _ _ _ _ _ _ _ [(0, .pointer none)] [F]
  refine wc_seq ?_
  refine wc_region ?_
  refine wl_1 trivial rfl (do_assign rfl) ?_
  refine wl_nil ?_
  refine at_then ?_
  refine wc_seq ?_
  refine wc_seq ?_
  refine wc_region ?_
  refine wl_1 trivial rfl (do_move rfl) ?_
  refine wl_do trivial rfl (do_call (none_nil B) ⟨rfl, trivial⟩ enters_59 [] [0] trivial ⟨rfl, trivial⟩ (R := [_]) (by decide)) ?_
  rintro _ _ ⟨_, ⟨rfl, rfl⟩, rfl⟩
  refine wl_nil ?_
  refine at_then ?_
  refine wc_true rfl ?_
  refine wc_seq ?_
  refine wc_region ?_
  refine wl_1 trivial rfl (do_assign rfl) ?_
  refine wl_nil ?_
  refine at_then ?_
  refine wc_ret ?_
  refine at_then_ret ?_
  exact at_ret1 (M := []) rfl rfl ⟨rfl, rfl⟩ rfl

set_option maxRecDepth 100000 in
set_option maxHeartbeats 8000000 in
theorem now_zero (B : Ctx) (b : Nat) :
    Tri Try.prog B 26 #[.pointer (some ⟨b, 0, none⟩)] [pt b (.cells #[.map none, .slice none 0 0, .int .i64 0, .int .i64 0, .int .i64 0, .int .i64 0, .int .i64 0, .bool false] 52 (0, 0))] (fun u M => u = .int .i64 0 ∧ M = [pt b (.cells #[.map none, .slice none 0 0, .int .i64 0, .int .i64 0, .int .i64 0, .int .i64 0, .int .i64 0, .bool false] 52 (0, 0))]) := by
  refine tri_body (n := 9) Try.func26 rfl rfl rfl ?_
  intro F
  show WC _ _ _ _ _ _ _ [(0, .pointer (some ⟨b, 0, none⟩))] [pt b (.cells #[.map none, .slice none 0 0, .int .i64 0, .int .i64 0, .int .i64 0, .int .i64 0, .int .i64 0, .bool false] 52 (0, 0)), F]
  refine wc_seq ?_
  refine wc_region ?_
  refine wl_1 trivial rfl (do_assign rfl) ?_
  refine wl_nil ?_
  refine at_then ?_
  refine wc_seq ?_
  refine wc_seq ?_
  refine wc_region ?_
  refine wl_1 trivial rfl (do_move rfl) ?_
  refine wl_do trivial rfl (do_call (none_zero B b) ⟨rfl, trivial⟩ enters_59 [0] [1] ⟨rfl, trivial⟩ ⟨rfl, trivial⟩ (R := [_]) (by decide)) ?_
  rintro _ _ ⟨_, ⟨rfl, rfl⟩, rfl⟩
  refine wl_nil ?_
  refine at_then ?_
  refine wc_true rfl ?_
  refine wc_seq ?_
  refine wc_region ?_
  refine wl_1 trivial rfl (do_assign rfl) ?_
  refine wl_nil ?_
  refine at_then ?_
  refine wc_ret ?_
  refine at_then_ret ?_
  exact at_ret1 (M := [_]) rfl rfl ⟨rfl, rfl⟩ rfl

set_option maxRecDepth 100000 in
set_option maxHeartbeats 8000000 in
theorem calls_nil (B : Ctx) :
    Tri Try.prog B 27 #[.pointer none] [] (fun u M => u = .int .i64 0 ∧ M = []) := by
  refine tri_body (n := 9) Try.func27 rfl rfl rfl ?_
  intro F
  show WC _ _ _ _ _ _ _ [(0, .pointer none)] [F]
  refine wc_seq ?_
  refine wc_region ?_
  refine wl_1 trivial rfl (do_assign rfl) ?_
  refine wl_nil ?_
  refine at_then ?_
  refine wc_seq ?_
  refine wc_seq ?_
  refine wc_region ?_
  refine wl_1 trivial rfl (do_move rfl) ?_
  refine wl_do trivial rfl (do_call (none_nil B) ⟨rfl, trivial⟩ enters_59 [] [0] trivial ⟨rfl, trivial⟩ (R := [_]) (by decide)) ?_
  rintro _ _ ⟨_, ⟨rfl, rfl⟩, rfl⟩
  refine wl_nil ?_
  refine at_then ?_
  refine wc_true rfl ?_
  refine wc_seq ?_
  refine wc_region ?_
  refine wl_1 trivial rfl (do_assign rfl) ?_
  refine wl_nil ?_
  refine at_then ?_
  refine wc_ret ?_
  refine at_then_ret ?_
  exact at_ret1 (M := []) rfl rfl ⟨rfl, rfl⟩ rfl

set_option maxRecDepth 100000 in
set_option maxHeartbeats 8000000 in
theorem calls_zero (B : Ctx) (b : Nat) :
    Tri Try.prog B 27 #[.pointer (some ⟨b, 0, none⟩)] [pt b (.cells #[.map none, .slice none 0 0, .int .i64 0, .int .i64 0, .int .i64 0, .int .i64 0, .int .i64 0, .bool false] 52 (0, 0))] (fun u M => u = .int .i64 0 ∧ M = [pt b (.cells #[.map none, .slice none 0 0, .int .i64 0, .int .i64 0, .int .i64 0, .int .i64 0, .int .i64 0, .bool false] 52 (0, 0))]) := by
  refine tri_body (n := 9) Try.func27 rfl rfl rfl ?_
  intro F
  show WC _ _ _ _ _ _ _ [(0, .pointer (some ⟨b, 0, none⟩))] [pt b (.cells #[.map none, .slice none 0 0, .int .i64 0, .int .i64 0, .int .i64 0, .int .i64 0, .int .i64 0, .bool false] 52 (0, 0)), F]
  refine wc_seq ?_
  refine wc_region ?_
  refine wl_1 trivial rfl (do_assign rfl) ?_
  refine wl_nil ?_
  refine at_then ?_
  refine wc_seq ?_
  refine wc_seq ?_
  refine wc_region ?_
  refine wl_1 trivial rfl (do_move rfl) ?_
  refine wl_do trivial rfl (do_call (none_zero B b) ⟨rfl, trivial⟩ enters_59 [0] [1] ⟨rfl, trivial⟩ ⟨rfl, trivial⟩ (R := [_]) (by decide)) ?_
  rintro _ _ ⟨_, ⟨rfl, rfl⟩, rfl⟩
  refine wl_nil ?_
  refine at_then ?_
  refine wc_true rfl ?_
  refine wc_seq ?_
  refine wc_region ?_
  refine wl_1 trivial rfl (do_assign rfl) ?_
  refine wl_nil ?_
  refine at_then ?_
  refine wc_ret ?_
  refine at_then_ret ?_
  exact at_ret1 (M := [_]) rfl rfl ⟨rfl, rfl⟩ rfl

set_option maxRecDepth 100000 in
set_option maxHeartbeats 8000000 in
theorem tick_nil (B : Ctx) (k : Int) :
    Tri Try.prog B 23 #[.pointer none, .int .i64 k] [] (fun u M => u = .int .i64 1 ∧ M = []) := by
  refine tri_body (n := 32) Try.func23 rfl rfl rfl ?_
  intro F
  show WC _ _ _ _ _ _ _ [(0, .pointer none), (1, .int .i64 k)] [F]
  refine wc_seq ?_
  refine wc_region ?_
  refine wl_1 trivial rfl (do_assign rfl) ?_
  refine wl_nil ?_
  refine at_then ?_
  refine wc_seq ?_
  refine wc_seq ?_
  refine wc_region ?_
  refine wl_1 trivial rfl (do_move rfl) ?_
  refine wl_do trivial rfl (do_call (none_nil B) ⟨rfl, trivial⟩ enters_59 [] [0] trivial ⟨rfl, trivial⟩ (R := [_]) (by decide)) ?_
  rintro _ _ ⟨_, ⟨rfl, rfl⟩, rfl⟩
  refine wl_1 trivial rfl (do_move rfl) ?_
  refine wl_no rfl rfl rfl rfl rfl ?_
  refine wl_no rfl rfl rfl rfl rfl ?_
  refine wl_1 trivial rfl (do_pickT rfl rfl) ?_
  refine wl_1 trivial rfl (do_move rfl) ?_
  refine wl_no rfl rfl rfl rfl rfl ?_
  refine wl_no rfl rfl rfl rfl rfl ?_
  refine wl_1 trivial rfl (do_pickT rfl rfl) ?_
  refine wl_1 trivial rfl (do_move rfl) ?_
  refine wl_no rfl rfl rfl rfl rfl ?_
  refine wl_no rfl rfl rfl rfl rfl ?_
  refine wl_no rfl rfl rfl rfl rfl ?_
  refine wl_no rfl rfl rfl rfl rfl ?_
  refine wl_no rfl rfl rfl rfl rfl ?_
  refine wl_no rfl rfl rfl rfl rfl ?_
  refine wl_no rfl rfl rfl rfl rfl ?_
  refine wl_1 trivial rfl (do_pickT rfl rfl) ?_
  refine wl_nil ?_
  refine at_then ?_
  refine wc_true rfl ?_
  refine wc_seq ?_
  refine wc_region ?_
  refine wl_1 trivial rfl (do_assign rfl) ?_
  refine wl_nil ?_
  refine at_then ?_
  refine wc_ret ?_
  refine at_then_ret ?_
  exact at_ret1 (M := []) rfl rfl ⟨rfl, rfl⟩ rfl

set_option maxRecDepth 100000 in
set_option maxHeartbeats 8000000 in
theorem tick_zero (B : Ctx) (b : Nat) (k : Int) :
    Tri Try.prog B 23 #[.pointer (some ⟨b, 0, none⟩), .int .i64 k] [pt b (.cells #[.map none, .slice none 0 0, .int .i64 0, .int .i64 0, .int .i64 0, .int .i64 0, .int .i64 0, .bool false] 52 (0, 0))] (fun u M => u = .int .i64 1 ∧ M = [pt b (.cells #[.map none, .slice none 0 0, .int .i64 0, .int .i64 0, .int .i64 0, .int .i64 0, .int .i64 0, .bool false] 52 (0, 0))]) := by
  refine tri_body (n := 32) Try.func23 rfl rfl rfl ?_
  intro F
  show WC _ _ _ _ _ _ _ [(0, .pointer (some ⟨b, 0, none⟩)), (1, .int .i64 k)] [pt b (.cells #[.map none, .slice none 0 0, .int .i64 0, .int .i64 0, .int .i64 0, .int .i64 0, .int .i64 0, .bool false] 52 (0, 0)), F]
  refine wc_seq ?_
  refine wc_region ?_
  refine wl_1 trivial rfl (do_assign rfl) ?_
  refine wl_nil ?_
  refine at_then ?_
  refine wc_seq ?_
  refine wc_seq ?_
  refine wc_region ?_
  refine wl_1 trivial rfl (do_move rfl) ?_
  refine wl_do trivial rfl (do_call (none_zero B b) ⟨rfl, trivial⟩ enters_59 [0] [1] ⟨rfl, trivial⟩ ⟨rfl, trivial⟩ (R := [_]) (by decide)) ?_
  rintro _ _ ⟨_, ⟨rfl, rfl⟩, rfl⟩
  refine wl_1 trivial rfl (do_move rfl) ?_
  refine wl_no rfl rfl rfl rfl rfl ?_
  refine wl_no rfl rfl rfl rfl rfl ?_
  refine wl_1 trivial rfl (do_pickT rfl rfl) ?_
  refine wl_1 trivial rfl (do_move rfl) ?_
  refine wl_no rfl rfl rfl rfl rfl ?_
  refine wl_no rfl rfl rfl rfl rfl ?_
  refine wl_1 trivial rfl (do_pickT rfl rfl) ?_
  refine wl_1 trivial rfl (do_move rfl) ?_
  refine wl_no rfl rfl rfl rfl rfl ?_
  refine wl_no rfl rfl rfl rfl rfl ?_
  refine wl_no rfl rfl rfl rfl rfl ?_
  refine wl_no rfl rfl rfl rfl rfl ?_
  refine wl_no rfl rfl rfl rfl rfl ?_
  refine wl_no rfl rfl rfl rfl rfl ?_
  refine wl_no rfl rfl rfl rfl rfl ?_
  refine wl_1 trivial rfl (do_pickT rfl rfl) ?_
  refine wl_nil ?_
  refine at_then ?_
  refine wc_true rfl ?_
  refine wc_seq ?_
  refine wc_region ?_
  refine wl_1 trivial rfl (do_assign rfl) ?_
  refine wl_nil ?_
  refine at_then ?_
  refine wc_ret ?_
  refine at_then_ret ?_
  exact at_ret1 (M := [_]) rfl rfl ⟨rfl, rfl⟩ rfl

set_option maxRecDepth 100000 in
set_option maxHeartbeats 8000000 in
theorem lag_nil (B : Ctx) (k : Int) :
    Tri Try.prog B 24 #[.pointer none, .int .i64 k] [] (fun u M => u = .int .i64 1 ∧ M = []) := by
  refine tri_body (n := 23) Try.func24 rfl rfl rfl ?_
  intro F
  show WC _ _ _ _ _ _ _ [(0, .pointer none), (1, .int .i64 k)] [F]
  refine wc_seq ?_
  refine wc_region ?_
  refine wl_1 trivial rfl (do_assign rfl) ?_
  refine wl_nil ?_
  refine at_then ?_
  refine wc_seq ?_
  refine wc_seq ?_
  refine wc_region ?_
  refine wl_1 trivial rfl (do_move rfl) ?_
  refine wl_do trivial rfl (do_call (none_nil B) ⟨rfl, trivial⟩ enters_59 [] [0] trivial ⟨rfl, trivial⟩ (R := [_]) (by decide)) ?_
  rintro _ _ ⟨_, ⟨rfl, rfl⟩, rfl⟩
  refine wl_1 trivial rfl (do_move rfl) ?_
  refine wl_no rfl rfl rfl rfl rfl ?_
  refine wl_no rfl rfl rfl rfl rfl ?_
  refine wl_1 trivial rfl (do_pickT rfl rfl) ?_
  refine wl_1 trivial rfl (do_move rfl) ?_
  refine wl_no rfl rfl rfl rfl rfl ?_
  refine wl_no rfl rfl rfl rfl rfl ?_
  refine wl_no rfl rfl rfl rfl rfl ?_
  refine wl_no rfl rfl rfl rfl rfl ?_
  refine wl_no rfl rfl rfl rfl rfl ?_
  refine wl_no rfl rfl rfl rfl rfl ?_
  refine wl_1 trivial rfl (do_pickT rfl rfl) ?_
  refine wl_nil ?_
  refine at_then ?_
  refine wc_true rfl ?_
  refine wc_seq ?_
  refine wc_region ?_
  refine wl_1 trivial rfl (do_assign rfl) ?_
  refine wl_nil ?_
  refine at_then ?_
  refine wc_ret ?_
  refine at_then_ret ?_
  exact at_ret1 (M := []) rfl rfl ⟨rfl, rfl⟩ rfl

set_option maxRecDepth 100000 in
set_option maxHeartbeats 8000000 in
theorem lag_zero (B : Ctx) (b : Nat) (k : Int) :
    Tri Try.prog B 24 #[.pointer (some ⟨b, 0, none⟩), .int .i64 k] [pt b (.cells #[.map none, .slice none 0 0, .int .i64 0, .int .i64 0, .int .i64 0, .int .i64 0, .int .i64 0, .bool false] 52 (0, 0))] (fun u M => u = .int .i64 1 ∧ M = [pt b (.cells #[.map none, .slice none 0 0, .int .i64 0, .int .i64 0, .int .i64 0, .int .i64 0, .int .i64 0, .bool false] 52 (0, 0))]) := by
  refine tri_body (n := 23) Try.func24 rfl rfl rfl ?_
  intro F
  show WC _ _ _ _ _ _ _ [(0, .pointer (some ⟨b, 0, none⟩)), (1, .int .i64 k)] [pt b (.cells #[.map none, .slice none 0 0, .int .i64 0, .int .i64 0, .int .i64 0, .int .i64 0, .int .i64 0, .bool false] 52 (0, 0)), F]
  refine wc_seq ?_
  refine wc_region ?_
  refine wl_1 trivial rfl (do_assign rfl) ?_
  refine wl_nil ?_
  refine at_then ?_
  refine wc_seq ?_
  refine wc_seq ?_
  refine wc_region ?_
  refine wl_1 trivial rfl (do_move rfl) ?_
  refine wl_do trivial rfl (do_call (none_zero B b) ⟨rfl, trivial⟩ enters_59 [0] [1] ⟨rfl, trivial⟩ ⟨rfl, trivial⟩ (R := [_]) (by decide)) ?_
  rintro _ _ ⟨_, ⟨rfl, rfl⟩, rfl⟩
  refine wl_1 trivial rfl (do_move rfl) ?_
  refine wl_no rfl rfl rfl rfl rfl ?_
  refine wl_no rfl rfl rfl rfl rfl ?_
  refine wl_1 trivial rfl (do_pickT rfl rfl) ?_
  refine wl_1 trivial rfl (do_move rfl) ?_
  refine wl_no rfl rfl rfl rfl rfl ?_
  refine wl_no rfl rfl rfl rfl rfl ?_
  refine wl_no rfl rfl rfl rfl rfl ?_
  refine wl_no rfl rfl rfl rfl rfl ?_
  refine wl_no rfl rfl rfl rfl rfl ?_
  refine wl_no rfl rfl rfl rfl rfl ?_
  refine wl_1 trivial rfl (do_pickT rfl rfl) ?_
  refine wl_nil ?_
  refine at_then ?_
  refine wc_true rfl ?_
  refine wc_seq ?_
  refine wc_region ?_
  refine wl_1 trivial rfl (do_assign rfl) ?_
  refine wl_nil ?_
  refine at_then ?_
  refine wc_ret ?_
  refine at_then_ret ?_
  exact at_ret1 (M := [_]) rfl rfl ⟨rfl, rfl⟩ rfl

set_option maxRecDepth 100000 in
set_option maxHeartbeats 8000000 in
theorem fail_nil (B : Ctx) (k : Int) (d : Bool) :
    Tri Try.prog B 17 #[.pointer none, .int .i64 k, .bool d] [] (fun u M => u = .tuple #[] ∧ M = []) := by
  refine tri_body (n := 18) Try.func17 rfl rfl rfl ?_
  intro F
  show WC _ _ _ _ _ _ _ [(0, .pointer none), (1, .int .i64 k), (2, .bool d)] [F]
  refine wc_seq ?_
  refine wc_region ?_
  refine wl_1 trivial rfl (do_move rfl) ?_
  refine wl_do trivial rfl (do_call (none_nil B) ⟨rfl, trivial⟩ enters_59 [] [0] trivial ⟨rfl, trivial⟩ (R := [_]) (by decide)) ?_
  rintro _ _ ⟨_, ⟨rfl, rfl⟩, rfl⟩
  refine wl_1 trivial rfl (do_not (c := true) rfl) ?_
  refine wl_nil ?_
  refine at_then ?_
  refine wc_false rfl ?_
  refine wc_skip ?_
  exact at_end0 (M := []) rfl ⟨rfl, rfl⟩ rfl

set_option maxRecDepth 100000 in
set_option maxHeartbeats 8000000 in
theorem fail_zero (B : Ctx) (b : Nat) (k : Int) (d : Bool) :
    Tri Try.prog B 17 #[.pointer (some ⟨b, 0, none⟩), .int .i64 k, .bool d] [pt b (.cells #[.map none, .slice none 0 0, .int .i64 0, .int .i64 0, .int .i64 0, .int .i64 0, .int .i64 0, .bool false] 52 (0, 0))] (fun u M => u = .tuple #[] ∧ M = [pt b (.cells #[.map none, .slice none 0 0, .int .i64 0, .int .i64 0, .int .i64 0, .int .i64 0, .int .i64 0, .bool false] 52 (0, 0))]) := by
  refine tri_body (n := 18) Try.func17 rfl rfl rfl ?_
  intro F
  show WC _ _ _ _ _ _ _ [(0, .pointer (some ⟨b, 0, none⟩)), (1, .int .i64 k), (2, .bool d)] [pt b (.cells #[.map none, .slice none 0 0, .int .i64 0, .int .i64 0, .int .i64 0, .int .i64 0, .int .i64 0, .bool false] 52 (0, 0)), F]
  refine wc_seq ?_
  refine wc_region ?_
  refine wl_1 trivial rfl (do_move rfl) ?_
  refine wl_do trivial rfl (do_call (none_zero B b) ⟨rfl, trivial⟩ enters_59 [0] [1] ⟨rfl, trivial⟩ ⟨rfl, trivial⟩ (R := [_]) (by decide)) ?_
  rintro _ _ ⟨_, ⟨rfl, rfl⟩, rfl⟩
  refine wl_1 trivial rfl (do_not (c := true) rfl) ?_
  refine wl_nil ?_
  refine at_then ?_
  refine wc_false rfl ?_
  refine wc_skip ?_
  exact at_end0 (M := [_]) rfl ⟨rfl, rfl⟩ rfl

set_option maxRecDepth 100000 in
set_option maxHeartbeats 8000000 in
theorem now_made (B : Ctx) (b r : Nat) (v : Value) (lv : List (ByteArray × Value)) (s : SS) :
    Tri Try.prog B 26 #[.pointer (some ⟨b, 0, none⟩)] [pt b (.cells #[.map (some r), v, .int .i64 s.most, .int .i64 s.lag, .int .i64 s.now, .int .i64 s.calls, .int .i64 s.count, .bool s.done] 52 (0, 0))] (fun u M => u = .int .i64 s.now ∧ M = [pt b (.cells #[.map (some r), v, .int .i64 s.most, .int .i64 s.lag, .int .i64 s.now, .int .i64 s.calls, .int .i64 s.count, .bool s.done] 52 (0, 0))]) := by
  refine tri_body (n := 9) Try.func26 rfl rfl rfl ?_
  intro F
  show WC _ _ _ _ _ _ _ [(0, .pointer (some ⟨b, 0, none⟩))] [pt b (.cells #[.map (some r), v, .int .i64 s.most, .int .i64 s.lag, .int .i64 s.now, .int .i64 s.calls, .int .i64 s.count, .bool s.done] 52 (0, 0)), F]
  refine wc_seq ?_
  refine wc_region ?_
  refine wl_1 trivial rfl (do_assign rfl) ?_
  refine wl_nil ?_
  refine at_then ?_
  refine wc_seq ?_
  refine wc_seq ?_
  refine wc_region ?_
  refine wl_1 trivial rfl (do_move rfl) ?_
  refine wl_do trivial rfl (do_call (none_made B b r v s.most s.lag s.now s.calls s.count s.done) ⟨rfl, trivial⟩ enters_59 [0] [1] ⟨rfl, trivial⟩ ⟨rfl, trivial⟩ (R := [_]) (by decide)) ?_
  rintro _ _ ⟨_, ⟨rfl, rfl⟩, rfl⟩
  refine wl_nil ?_
  refine at_then ?_
  refine wc_false rfl ?_
  refine wc_skip ?_
  refine at_then ?_
  refine wc_seq ?_
  refine wc_region ?_
  refine wl_1 trivial rfl (do_move rfl) ?_
  refine wl_1 trivial rfl (do_nilCheck rfl) ?_
  refine wl_1 trivial rfl (do_fieldAddr (k := 4) (k' := 4) fo_52_4 rfl (by rfl)) ?_
  refine wl_1 trivial rfl (do_load 0 rfl one_3 rfl rfl) ?_
  refine wl_1 trivial rfl (do_assign rfl) ?_
  refine wl_nil ?_
  refine at_then ?_
  refine wc_ret ?_
  exact at_ret1 (M := [_]) rfl rfl ⟨rfl, rfl⟩ rfl

set_option maxRecDepth 100000 in
set_option maxHeartbeats 8000000 in
theorem calls_made (B : Ctx) (b r : Nat) (v : Value) (lv : List (ByteArray × Value)) (s : SS) :
    Tri Try.prog B 27 #[.pointer (some ⟨b, 0, none⟩)] [pt b (.cells #[.map (some r), v, .int .i64 s.most, .int .i64 s.lag, .int .i64 s.now, .int .i64 s.calls, .int .i64 s.count, .bool s.done] 52 (0, 0))] (fun u M => u = .int .i64 s.calls ∧ M = [pt b (.cells #[.map (some r), v, .int .i64 s.most, .int .i64 s.lag, .int .i64 s.now, .int .i64 s.calls, .int .i64 s.count, .bool s.done] 52 (0, 0))]) := by
  refine tri_body (n := 9) Try.func27 rfl rfl rfl ?_
  intro F
  show WC _ _ _ _ _ _ _ [(0, .pointer (some ⟨b, 0, none⟩))] [pt b (.cells #[.map (some r), v, .int .i64 s.most, .int .i64 s.lag, .int .i64 s.now, .int .i64 s.calls, .int .i64 s.count, .bool s.done] 52 (0, 0)), F]
  refine wc_seq ?_
  refine wc_region ?_
  refine wl_1 trivial rfl (do_assign rfl) ?_
  refine wl_nil ?_
  refine at_then ?_
  refine wc_seq ?_
  refine wc_seq ?_
  refine wc_region ?_
  refine wl_1 trivial rfl (do_move rfl) ?_
  refine wl_do trivial rfl (do_call (none_made B b r v s.most s.lag s.now s.calls s.count s.done) ⟨rfl, trivial⟩ enters_59 [0] [1] ⟨rfl, trivial⟩ ⟨rfl, trivial⟩ (R := [_]) (by decide)) ?_
  rintro _ _ ⟨_, ⟨rfl, rfl⟩, rfl⟩
  refine wl_nil ?_
  refine at_then ?_
  refine wc_false rfl ?_
  refine wc_skip ?_
  refine at_then ?_
  refine wc_seq ?_
  refine wc_region ?_
  refine wl_1 trivial rfl (do_move rfl) ?_
  refine wl_1 trivial rfl (do_nilCheck rfl) ?_
  refine wl_1 trivial rfl (do_fieldAddr (k := 5) (k' := 5) fo_52_5 rfl (by rfl)) ?_
  refine wl_1 trivial rfl (do_load 0 rfl one_3 rfl rfl) ?_
  refine wl_1 trivial rfl (do_assign rfl) ?_
  refine wl_nil ?_
  refine at_then ?_
  refine wc_ret ?_
  exact at_ret1 (M := [_]) rfl rfl ⟨rfl, rfl⟩ rfl

def tickS (s : SS) (k : Int) : Int × SS := if 0 ≤ k ∧ k ≤ 1073741824 ∧ s.now + k ≤ 1099511627776 then (0, { s with now := s.now + k }) else (1, s)

set_option maxRecDepth 100000 in
set_option maxHeartbeats 8000000 in
theorem tick_made (B : Ctx) (b r : Nat) (v : Value) (lv : List (ByteArray × Value)) (s : SS) (k : Int) (hok : SOk s) (hcl : s.calls ≤ 1099511627776) (hcg : s.chg.length ≤ 1099511627776) :
    Tri Try.prog B 23 #[.pointer (some ⟨b, 0, none⟩), .int .i64 k] [pt b (.cells #[.map (some r), v, .int .i64 s.most, .int .i64 s.lag, .int .i64 s.now, .int .i64 s.calls, .int .i64 s.count, .bool s.done] 52 (0, 0))] (fun u M => u = .int .i64 (tickS s k).1 ∧ M = [pt b (.cells #[.map (some r), v, .int .i64 ((tickS s k).2.most), .int .i64 ((tickS s k).2.lag), .int .i64 ((tickS s k).2.now), .int .i64 ((tickS s k).2.calls), .int .i64 ((tickS s k).2.count), .bool ((tickS s k).2.done)] 52 (0, 0))]) := by
  refine tri_body (n := 32) Try.func23 rfl rfl rfl ?_
  intro F
  show WC _ _ _ _ _ _ _ [(0, .pointer (some ⟨b, 0, none⟩)), (1, .int .i64 k)] [pt b (.cells #[.map (some r), v, .int .i64 s.most, .int .i64 s.lag, .int .i64 s.now, .int .i64 s.calls, .int .i64 s.count, .bool s.done] 52 (0, 0)), F]
  have hok0 := hok
  obtain ⟨hn0, hn1, hl0, hl1, hc0, hk0, hk1, hv1, hm0, hm1⟩ := hok
  refine wc_seq ?_
  refine wc_region ?_
  refine wl_1 trivial rfl (do_assign rfl) ?_
  refine wl_nil ?_
  refine at_then ?_
  refine wc_seq ?_
  refine wc_seq ?_
  refine wc_region ?_
  refine wl_1 trivial rfl (do_move rfl) ?_
  refine wl_do trivial rfl (do_call (none_made B b r v s.most s.lag s.now s.calls s.count s.done) ⟨rfl, trivial⟩ enters_59 [0] [1] ⟨rfl, trivial⟩ ⟨rfl, trivial⟩ (R := [_]) (by decide)) ?_
  rintro _ _ ⟨_, ⟨rfl, rfl⟩, rfl⟩
  refine wl_1 trivial rfl (do_move rfl) ?_
  refine wl_1 ⟨_, rfl, rfl⟩ rfl (do_move rfl) ?_
  obtain ⟨c1, h_c1⟩ : ∃ c : Bool, cmpB .lss k 0 = some c := ⟨_, rfl⟩
  refine wl_1 ⟨_, rfl, rfl⟩ rfl (do_cmp rfl rfl h_c1) ?_
  refine wl_1 trivial rfl (do_pickF rfl rfl) ?_
  refine wl_1 trivial rfl (do_move rfl) ?_
  cases c1
  · have p_c1 := cmp_lss_f h_c1
    refine wl_1 ⟨_, rfl, rfl⟩ rfl (do_move rfl) ?_
    obtain ⟨c2, h_c2⟩ : ∃ c : Bool, cmpB .gtr k 1073741824 = some c := ⟨_, rfl⟩
    refine wl_1 ⟨_, rfl, rfl⟩ rfl (do_cmp rfl rfl h_c2) ?_
    refine wl_1 trivial rfl (do_pickF rfl rfl) ?_
    refine wl_1 trivial rfl (do_move rfl) ?_
    cases c2
    · have p_c2 := cmp_gtr_f h_c2
      refine wl_1 ⟨_, rfl, rfl⟩ rfl (do_move rfl) ?_
      refine wl_1 ⟨_, rfl, rfl⟩ rfl (do_move rfl) ?_
      refine wl_1 ⟨_, rfl, rfl⟩ rfl (do_nilCheck rfl) ?_
      refine wl_1 ⟨_, rfl, rfl⟩ rfl (do_fieldAddr (k := 4) (k' := 4) fo_52_4 rfl (by rfl)) ?_
      refine wl_1 ⟨_, rfl, rfl⟩ rfl (do_load 0 rfl one_3 rfl rfl) ?_
      refine wl_1 ⟨_, rfl, rfl⟩ rfl (do_sub (r := 1099511627776 - s.now) rfl rfl (wrap_i64 (by omega) (by omega))) ?_
      obtain ⟨c3, h_c3⟩ : ∃ c : Bool, cmpB .gtr k (1099511627776 - s.now) = some c := ⟨_, rfl⟩
      refine wl_1 ⟨_, rfl, rfl⟩ rfl (do_cmp rfl rfl h_c3) ?_
      refine wl_1 trivial rfl (do_pickF rfl rfl) ?_
      refine wl_nil ?_
      refine at_then ?_
      cases c3
      · have p_c3 := cmp_gtr_f h_c3
        refine wc_false rfl ?_
        refine wc_skip ?_
        refine at_then ?_
        refine wc_seq ?_
        refine wc_region ?_
        refine wl_1 trivial rfl (do_move rfl) ?_
        refine wl_1 trivial rfl (do_nilCheck rfl) ?_
        refine wl_1 trivial rfl (do_fieldAddr (k := 4) (k' := 4) fo_52_4 rfl (by rfl)) ?_
        refine wl_1 trivial rfl (do_load 0 rfl one_3 rfl rfl) ?_
        refine wl_1 trivial rfl (do_move rfl) ?_
        refine wl_1 trivial rfl (do_add (r := s.now + k) rfl rfl (wrap_i64 (by omega) (by omega))) ?_
        refine wl_1 trivial rfl (do_nilCheck rfl) ?_
        refine wl_1 trivial rfl (do_fieldAddr (k := 4) (k' := 4) fo_52_4 rfl (by rfl)) ?_
        refine wl_1 trivial rfl (do_store (L1 := []) rfl rfl one_3 rfl rfl (cs' := #[.map (some r), v, .int .i64 s.most, .int .i64 s.lag, .int .i64 (s.now + k), .int .i64 s.calls, .int .i64 s.count, .bool s.done]) rfl) ?_
        refine wl_nil ?_
        refine at_then ?_
        refine wc_seq ?_
        refine wc_region ?_
        refine wl_1 trivial rfl (do_assign rfl) ?_
        refine wl_nil ?_
        refine at_then ?_
        refine wc_ret ?_
        exact at_ret1 (M := [_]) rfl rfl (by unfold tickS; rw [if_pos (by omega)]; exact ⟨rfl, rfl⟩) rfl
      · have p_c3 := cmp_gtr_t h_c3
        refine wc_true rfl ?_
        refine wc_seq ?_
        refine wc_region ?_
        refine wl_1 trivial rfl (do_assign rfl) ?_
        refine wl_nil ?_
        refine at_then ?_
        refine wc_ret ?_
        refine at_then_ret ?_
        exact at_ret1 (M := [_]) rfl rfl (by unfold tickS; rw [if_neg (by omega)]; exact ⟨rfl, rfl⟩) rfl
    · have p_c2 := cmp_gtr_t h_c2
      refine wl_no rfl rfl rfl rfl rfl ?_
      refine wl_no rfl rfl rfl rfl rfl ?_
      refine wl_no rfl rfl rfl rfl rfl ?_
      refine wl_no rfl rfl rfl rfl rfl ?_
      refine wl_no rfl rfl rfl rfl rfl ?_
      refine wl_no rfl rfl rfl rfl rfl ?_
      refine wl_no rfl rfl rfl rfl rfl ?_
      refine wl_1 trivial rfl (do_pickT rfl rfl) ?_
      refine wl_nil ?_
      refine at_then ?_
      refine wc_true rfl ?_
      refine wc_seq ?_
      refine wc_region ?_
      refine wl_1 trivial rfl (do_assign rfl) ?_
      refine wl_nil ?_
      refine at_then ?_
      refine wc_ret ?_
      refine at_then_ret ?_
      exact at_ret1 (M := [_]) rfl rfl (by unfold tickS; rw [if_neg (by omega)]; exact ⟨rfl, rfl⟩) rfl
  · have p_c1 := cmp_lss_t h_c1
    refine wl_no rfl rfl rfl rfl rfl ?_
    refine wl_no rfl rfl rfl rfl rfl ?_
    refine wl_1 trivial rfl (do_pickT rfl rfl) ?_
    refine wl_1 trivial rfl (do_move rfl) ?_
    refine wl_no rfl rfl rfl rfl rfl ?_
    refine wl_no rfl rfl rfl rfl rfl ?_
    refine wl_no rfl rfl rfl rfl rfl ?_
    refine wl_no rfl rfl rfl rfl rfl ?_
    refine wl_no rfl rfl rfl rfl rfl ?_
    refine wl_no rfl rfl rfl rfl rfl ?_
    refine wl_no rfl rfl rfl rfl rfl ?_
    refine wl_1 trivial rfl (do_pickT rfl rfl) ?_
    refine wl_nil ?_
    refine at_then ?_
    refine wc_true rfl ?_
    refine wc_seq ?_
    refine wc_region ?_
    refine wl_1 trivial rfl (do_assign rfl) ?_
    refine wl_nil ?_
    refine at_then ?_
    refine wc_ret ?_
    refine at_then_ret ?_
    exact at_ret1 (M := [_]) rfl rfl (by unfold tickS; rw [if_neg (by omega)]; exact ⟨rfl, rfl⟩) rfl

def lagS (s : SS) (k : Int) : Int × SS := if 0 ≤ k ∧ k ≤ s.most then (0, { s with lag := k }) else (1, s)

set_option maxRecDepth 100000 in
set_option maxHeartbeats 8000000 in
theorem lag_made (B : Ctx) (b r : Nat) (v : Value) (lv : List (ByteArray × Value)) (s : SS) (k : Int) :
    Tri Try.prog B 24 #[.pointer (some ⟨b, 0, none⟩), .int .i64 k] [pt b (.cells #[.map (some r), v, .int .i64 s.most, .int .i64 s.lag, .int .i64 s.now, .int .i64 s.calls, .int .i64 s.count, .bool s.done] 52 (0, 0))] (fun u M => u = .int .i64 (lagS s k).1 ∧ M = [pt b (.cells #[.map (some r), v, .int .i64 ((lagS s k).2.most), .int .i64 ((lagS s k).2.lag), .int .i64 ((lagS s k).2.now), .int .i64 ((lagS s k).2.calls), .int .i64 ((lagS s k).2.count), .bool ((lagS s k).2.done)] 52 (0, 0))]) := by
  refine tri_body (n := 23) Try.func24 rfl rfl rfl ?_
  intro F
  show WC _ _ _ _ _ _ _ [(0, .pointer (some ⟨b, 0, none⟩)), (1, .int .i64 k)] [pt b (.cells #[.map (some r), v, .int .i64 s.most, .int .i64 s.lag, .int .i64 s.now, .int .i64 s.calls, .int .i64 s.count, .bool s.done] 52 (0, 0)), F]
  refine wc_seq ?_
  refine wc_region ?_
  refine wl_1 trivial rfl (do_assign rfl) ?_
  refine wl_nil ?_
  refine at_then ?_
  refine wc_seq ?_
  refine wc_seq ?_
  refine wc_region ?_
  refine wl_1 trivial rfl (do_move rfl) ?_
  refine wl_do trivial rfl (do_call (none_made B b r v s.most s.lag s.now s.calls s.count s.done) ⟨rfl, trivial⟩ enters_59 [0] [1] ⟨rfl, trivial⟩ ⟨rfl, trivial⟩ (R := [_]) (by decide)) ?_
  rintro _ _ ⟨_, ⟨rfl, rfl⟩, rfl⟩
  refine wl_1 trivial rfl (do_move rfl) ?_
  refine wl_1 ⟨_, rfl, rfl⟩ rfl (do_move rfl) ?_
  obtain ⟨c1, h_c1⟩ : ∃ c : Bool, cmpB .lss k 0 = some c := ⟨_, rfl⟩
  refine wl_1 ⟨_, rfl, rfl⟩ rfl (do_cmp rfl rfl h_c1) ?_
  refine wl_1 trivial rfl (do_pickF rfl rfl) ?_
  refine wl_1 trivial rfl (do_move rfl) ?_
  cases c1
  · have p_c1 := cmp_lss_f h_c1
    refine wl_1 ⟨_, rfl, rfl⟩ rfl (do_move rfl) ?_
    refine wl_1 ⟨_, rfl, rfl⟩ rfl (do_move rfl) ?_
    refine wl_1 ⟨_, rfl, rfl⟩ rfl (do_nilCheck rfl) ?_
    refine wl_1 ⟨_, rfl, rfl⟩ rfl (do_fieldAddr (k := 2) (k' := 2) fo_52_2 rfl (by rfl)) ?_
    refine wl_1 ⟨_, rfl, rfl⟩ rfl (do_load 0 rfl one_3 rfl rfl) ?_
    obtain ⟨c2, h_c2⟩ : ∃ c : Bool, cmpB .gtr k s.most = some c := ⟨_, rfl⟩
    refine wl_1 ⟨_, rfl, rfl⟩ rfl (do_cmp rfl rfl h_c2) ?_
    refine wl_1 trivial rfl (do_pickF rfl rfl) ?_
    refine wl_nil ?_
    refine at_then ?_
    cases c2
    · have p_c2 := cmp_gtr_f h_c2
      refine wc_false rfl ?_
      refine wc_skip ?_
      refine at_then ?_
      refine wc_seq ?_
      refine wc_region ?_
      refine wl_1 trivial rfl (do_move rfl) ?_
      refine wl_1 trivial rfl (do_move rfl) ?_
      refine wl_1 trivial rfl (do_nilCheck rfl) ?_
      refine wl_1 trivial rfl (do_fieldAddr (k := 3) (k' := 3) fo_52_3 rfl (by rfl)) ?_
      refine wl_1 trivial rfl (do_store (L1 := []) rfl rfl one_3 rfl rfl (cs' := #[.map (some r), v, .int .i64 s.most, .int .i64 k, .int .i64 s.now, .int .i64 s.calls, .int .i64 s.count, .bool s.done]) rfl) ?_
      refine wl_nil ?_
      refine at_then ?_
      refine wc_seq ?_
      refine wc_region ?_
      refine wl_1 trivial rfl (do_assign rfl) ?_
      refine wl_nil ?_
      refine at_then ?_
      refine wc_ret ?_
      exact at_ret1 (M := [_]) rfl rfl (by unfold lagS; rw [if_pos (by omega)]; exact ⟨rfl, rfl⟩) rfl
    · have p_c2 := cmp_gtr_t h_c2
      refine wc_true rfl ?_
      refine wc_seq ?_
      refine wc_region ?_
      refine wl_1 trivial rfl (do_assign rfl) ?_
      refine wl_nil ?_
      refine at_then ?_
      refine wc_ret ?_
      refine at_then_ret ?_
      exact at_ret1 (M := [_]) rfl rfl (by unfold lagS; rw [if_neg (by omega)]; exact ⟨rfl, rfl⟩) rfl
  · have p_c1 := cmp_lss_t h_c1
    refine wl_no rfl rfl rfl rfl rfl ?_
    refine wl_no rfl rfl rfl rfl rfl ?_
    refine wl_no rfl rfl rfl rfl rfl ?_
    refine wl_no rfl rfl rfl rfl rfl ?_
    refine wl_no rfl rfl rfl rfl rfl ?_
    refine wl_no rfl rfl rfl rfl rfl ?_
    refine wl_1 trivial rfl (do_pickT rfl rfl) ?_
    refine wl_nil ?_
    refine at_then ?_
    refine wc_true rfl ?_
    refine wc_seq ?_
    refine wc_region ?_
    refine wl_1 trivial rfl (do_assign rfl) ?_
    refine wl_nil ?_
    refine at_then ?_
    refine wc_ret ?_
    refine at_then_ret ?_
    exact at_ret1 (M := [_]) rfl rfl (by unfold lagS; rw [if_neg (by omega)]; exact ⟨rfl, rfl⟩) rfl

set_option maxRecDepth 100000 in
set_option maxHeartbeats 8000000 in
theorem call_none (B : Ctx) (b r : Nat) (v : Value) (lv : List (ByteArray × Value)) (s : SS) (hok : SOk s) (hcl : s.calls ≤ 1099511627776) (hcg : s.chg.length ≤ 1099511627776) :
    Tri Try.prog B 61 #[.pointer (some ⟨b, 0, none⟩), .slice none 0 0] [pt b (.cells #[.map (some r), v, .int .i64 s.most, .int .i64 s.lag, .int .i64 s.now, .int .i64 s.calls, .int .i64 s.count, .bool s.done] 52 (0, 0)), mapA encS r lv, row 113 3 v s.chg.length (chgCells s.chg), valsA B lv s.objs] (fun u M => u = .int .i64 (callS s).1 ∧ M = [pt b (.cells #[.map (some r), v, .int .i64 ((callS s).2.2.most), .int .i64 ((callS s).2.2.lag), .int .i64 ((callS s).2.2.now), .int .i64 ((callS s).2.2.calls), .int .i64 ((callS s).2.2.count), .bool ((callS s).2.2.done)] 52 (0, 0)), mapA encS r lv, row 113 3 v ((callS s).2.2.chg.length) (chgCells ((callS s).2.2.chg)), valsA B lv ((callS s).2.2.objs)]) := by
  refine tri_body (n := 48) Try.func61 rfl rfl rfl ?_
  intro F
  show WC _ _ _ _ _ _ _ [(0, .pointer (some ⟨b, 0, none⟩)), (1, .slice none 0 0)] [pt b (.cells #[.map (some r), v, .int .i64 s.most, .int .i64 s.lag, .int .i64 s.now, .int .i64 s.calls, .int .i64 s.count, .bool s.done] 52 (0, 0)), mapA encS r lv, row 113 3 v s.chg.length (chgCells s.chg), valsA B lv s.objs, F]
  have hok0 := hok
  obtain ⟨hn0, hn1, hl0, hl1, hc0, hk0, hk1, hv1, hm0, hm1⟩ := hok
  refine wc_seq ?_
  refine wc_region ?_
  refine wl_1 trivial rfl (do_assign rfl) ?_
  refine wl_nil ?_
  refine at_then ?_
  refine wc_seq ?_
  refine wc_region ?_
  refine wl_1 trivial rfl (do_move rfl) ?_
  refine wl_1 trivial rfl (do_nilCheck rfl) ?_
  refine wl_1 trivial rfl (do_fieldAddr (k := 5) (k' := 5) fo_52_5 rfl (by rfl)) ?_
  refine wl_1 trivial rfl (do_load 0 rfl one_3 rfl rfl) ?_
  refine wl_1 trivial rfl (do_add (r := s.calls + 1) rfl rfl (wrap_i64 (by omega) (by omega))) ?_
  refine wl_1 trivial rfl (do_nilCheck rfl) ?_
  refine wl_1 trivial rfl (do_fieldAddr (k := 5) (k' := 5) fo_52_5 rfl (by rfl)) ?_
  refine wl_1 trivial rfl (do_store (L1 := []) rfl rfl one_3 rfl rfl (cs' := #[.map (some r), v, .int .i64 s.most, .int .i64 s.lag, .int .i64 s.now, .int .i64 (s.calls + 1), .int .i64 s.count, .bool s.done]) rfl) ?_
  refine wl_nil ?_
  refine at_then ?_
  refine wc_seq ?_
  refine wc_region ?_
  refine wl_1 trivial rfl (do_assign rfl) ?_
  refine wl_1 trivial rfl (do_assign rfl) ?_
  refine wl_nil ?_
  refine at_then ?_
  refine wc_seq ?_
  refine wc_seq ?_
  refine wc_region ?_
  refine wl_1 trivial rfl (do_move rfl) ?_
  refine wl_1 trivial rfl (do_nilCheck rfl) ?_
  refine wl_1 trivial rfl (do_fieldAddr (k := 6) (k' := 6) fo_52_6 rfl (by rfl)) ?_
  refine wl_1 trivial rfl (do_load 0 rfl one_3 rfl rfl) ?_
  obtain ⟨c1, h_c1⟩ : ∃ c : Bool, cmpB .gtr s.count 0 = some c := ⟨_, rfl⟩
  refine wl_1 trivial rfl (do_cmp rfl rfl h_c1) ?_
  refine wl_nil ?_
  refine at_then ?_
  cases c1
  · have p_c1 := cmp_gtr_f h_c1
    refine wc_false rfl ?_
    refine wc_skip ?_
    refine at_then ?_
    refine wc_seq ?_
    refine wc_seq ?_
    refine wc_region ?_
    refine wl_1 trivial rfl (do_move rfl) ?_
    refine wl_1 trivial rfl (do_lenSlice rfl isSlice_147 rfl) ?_
    refine wl_1 trivial rfl (do_move rfl) ?_
    refine wl_nil ?_
    refine at_then ?_
    refine wc_block ?_
    refine wc_rounds 0 ?_
    refine wc_seq ?_
    refine wc_region ?_
    refine wl_1 trivial rfl (do_cmp (c := false) rfl rfl rfl) ?_
    refine wl_nil ?_
    refine at_then ?_
    refine wc_seq ?_
    refine wc_false rfl ?_
    refine wc_exit ?_
    refine at_then_exit ?_
    refine at_then_exit ?_
    refine at_block_it ?_
    refine at_then ?_
    refine wc_seq ?_
    refine wc_region ?_
    refine wl_1 trivial rfl (do_move rfl) ?_
    refine wl_1 trivial rfl (do_assign rfl) ?_
    refine wl_nil ?_
    refine at_then ?_
    refine wc_ret ?_
    exact at_ret1 (M := [_, _, _, _]) rfl rfl (by rw [callS_0 (by omega)]; exact ⟨rfl, rfl⟩) rfl
  · have p_c1 := cmp_gtr_t h_c1
    refine wc_true rfl ?_
    refine wc_seq ?_
    refine wc_region ?_
    refine wl_1 trivial rfl (do_move rfl) ?_
    refine wl_1 trivial rfl (do_nilCheck rfl) ?_
    refine wl_1 trivial rfl (do_fieldAddr (k := 6) (k' := 6) fo_52_6 rfl (by rfl)) ?_
    refine wl_1 trivial rfl (do_load 0 rfl one_3 rfl rfl) ?_
    refine wl_1 trivial rfl (do_sub (r := s.count - 1) rfl rfl (wrap_i64 (by omega) (by omega))) ?_
    refine wl_1 trivial rfl (do_nilCheck rfl) ?_
    refine wl_1 trivial rfl (do_fieldAddr (k := 6) (k' := 6) fo_52_6 rfl (by rfl)) ?_
    refine wl_1 trivial rfl (do_store (L1 := []) rfl rfl one_3 rfl rfl (cs' := #[.map (some r), v, .int .i64 s.most, .int .i64 s.lag, .int .i64 s.now, .int .i64 (s.calls + 1), .int .i64 (s.count - 1), .bool s.done]) rfl) ?_
    refine wl_nil ?_
    refine at_then ?_
    refine wc_seq ?_
    refine wc_region ?_
    refine wl_1 trivial rfl (do_move rfl) ?_
    refine wl_1 trivial rfl (do_nilCheck rfl) ?_
    refine wl_1 trivial rfl (do_fieldAddr (k := 6) (k' := 6) fo_52_6 rfl (by rfl)) ?_
    refine wl_1 trivial rfl (do_load 0 rfl one_3 rfl rfl) ?_
    obtain ⟨c2, h_c2⟩ : ∃ c : Bool, cmpB .eql (s.count - 1) 0 = some c := ⟨_, rfl⟩
    refine wl_1 trivial rfl (do_cmp rfl rfl h_c2) ?_
    refine wl_nil ?_
    refine at_then ?_
    cases c2
    · have p_c2 := cmp_eql_f h_c2
      refine wc_false rfl ?_
      refine wc_skip ?_
      refine at_then ?_
      refine wc_seq ?_
      refine wc_seq ?_
      refine wc_region ?_
      refine wl_1 trivial rfl (do_move rfl) ?_
      refine wl_1 trivial rfl (do_lenSlice rfl isSlice_147 rfl) ?_
      refine wl_1 trivial rfl (do_move rfl) ?_
      refine wl_nil ?_
      refine at_then ?_
      refine wc_block ?_
      refine wc_rounds 0 ?_
      refine wc_seq ?_
      refine wc_region ?_
      refine wl_1 trivial rfl (do_cmp (c := false) rfl rfl rfl) ?_
      refine wl_nil ?_
      refine at_then ?_
      refine wc_seq ?_
      refine wc_false rfl ?_
      refine wc_exit ?_
      refine at_then_exit ?_
      refine at_then_exit ?_
      refine at_block_it ?_
      refine at_then ?_
      refine wc_seq ?_
      refine wc_region ?_
      refine wl_1 trivial rfl (do_move rfl) ?_
      refine wl_1 trivial rfl (do_assign rfl) ?_
      refine wl_nil ?_
      refine at_then ?_
      refine wc_ret ?_
      exact at_ret1 (M := [_, _, _, _]) rfl rfl (by rw [callS_2 (by omega)]; exact ⟨rfl, rfl⟩) rfl
    · have p_c2 := cmp_eql_t h_c2
      refine wc_true rfl ?_
      refine wc_draw [[], [0], [0, 1], [0, 1, 2], [], [0, 1, 2, 3, 4]] [some (.pointer (some ⟨b, 0, none⟩)), some (.pointer (some ⟨b, 0, none⟩)), some (.pointer (some ⟨b, 7, none⟩)), some (.bool s.done), some (.int .i64 8), some (.bool s.done)] [] mixed (by kernel_rfl) (by decide) ⟨rfl, ⟨.inr ⟨_, [.old 0], rfl, rfl, .inl ⟨trivial, do_move rfl⟩⟩, .inr ⟨_, [.op 0], rfl, rfl, .inl ⟨trivial, do_nilCheck rfl⟩⟩, .inr ⟨_, [.op 1], rfl, rfl, .inl ⟨trivial, do_fieldAddr (k := 7) (k' := 7) fo_52_7 rfl (by rfl)⟩⟩, .inr ⟨_, [.op 2], rfl, rfl, .inl ⟨trivial, do_load 0 rfl one_4 rfl rfl⟩⟩, .inr ⟨_, [], rfl, rfl, .inl ⟨trivial, do_assign rfl⟩⟩, .inr ⟨_, [.op 3], rfl, rfl, .inl ⟨trivial, do_assign rfl⟩⟩, trivial⟩, [.op 4, .op 5, .old 1, .old 4], [(5, .int .i64 8), (6, .bool s.done), (1, .slice none 0 0), (4, .int .i64 0)], rfl, rfl, ?_⟩
      refine at_then ?_
      refine wc_seq ?_
      refine wc_seq ?_
      refine wc_region ?_
      refine wl_1 trivial rfl (do_move rfl) ?_
      refine wl_1 trivial rfl (do_lenSlice rfl isSlice_147 rfl) ?_
      refine wl_1 trivial rfl (do_move rfl) ?_
      refine wl_nil ?_
      refine at_then ?_
      refine wc_block ?_
      refine wc_rounds 0 ?_
      refine wc_seq ?_
      refine wc_region ?_
      refine wl_1 trivial rfl (do_cmp (c := false) rfl rfl rfl) ?_
      refine wl_nil ?_
      refine at_then ?_
      refine wc_seq ?_
      refine wc_false rfl ?_
      refine wc_exit ?_
      refine at_then_exit ?_
      refine at_then_exit ?_
      refine at_block_it ?_
      refine at_then ?_
      refine wc_seq ?_
      refine wc_region ?_
      refine wl_1 trivial rfl (do_move rfl) ?_
      refine wl_1 trivial rfl (do_assign rfl) ?_
      refine wl_nil ?_
      refine at_then ?_
      refine wc_ret ?_
      exact at_ret1 (M := [_, _, _, _]) rfl rfl (by rw [callS_1 (by omega)]; exact ⟨rfl, rfl⟩) rfl
end Go.Proofs.Ytmefejfnddcelaa
