/- Printed by gen/simobj.py for this claim: what each of these functions of the program does, as its theorem says. No condition but what stands in each theorem. -/
import Derived.Test.YtmefejfnddcelaaOf
namespace Go.Proofs.Ytmefejfnddcelaa
theorem und_147 : Try.prog.underlying 147 = some (.slice 1) := by kernel_rfl
theorem ty_1 : tyOk Try.prog 1 1 8 .nilFunc := ty_mk (by kernel_rfl) rfl
theorem one_1 : oneOk Try.prog 1 = true := by kernel_rfl
theorem enters_69 : Enters Try.prog 69 := enters_of Try.func69 (by kernel_rfl) (by kernel_rfl)
theorem enters_70 : Enters Try.prog 70 := enters_of Try.func70 (by kernel_rfl) (by kernel_rfl)
set_option maxRecDepth 100000 in
set_option maxHeartbeats 8000000 in
theorem call_put_old (B : Ctx) (b r : Nat) (v : Value) (lv : List (ByteArray × Value)) (s : SS) (gs g0 g1 g2 g3 : Nat) (key : ByteArray) (a : Option Addr) (cap : Nat) (bs : List UInt8) (R : Assn) (hok : SOk s) (hcl : s.calls ≤ 1099511627776) (hcg : s.chg.length ≤ 1099511627776) (hkeys : akeys lv = akeys s.objs) (bs' : List UInt8) (hth : aget s.objs key = some bs') (hR : Rd B R 1 (.slice a bs.length cap) bs.length (byv bs)) (hl : bs.length ≤ 1048576) :
    Tri Try.prog B 61 #[.pointer (some ⟨b, 0, none⟩), .slice (some ⟨gs, 0, none⟩) 1 1] [pt b (.cells #[.map (some r), v, .int .i64 s.most, .int .i64 s.lag, .int .i64 s.now, .int .i64 s.calls, .int .i64 s.count, .bool s.done] 52 (0, 0)), mapA encS r lv, row 113 3 v s.chg.length (chgCells s.chg), valsA B lv s.objs, pt gs (.cells #[.func (.func 69) #[] #[.pointer (some ⟨g0, 0, none⟩), .pointer (some ⟨g1, 0, none⟩), .pointer (some ⟨g2, 0, none⟩), .pointer (some ⟨g3, 0, none⟩)]] 1 (0, 0)), pt g0 (.cells #[.slice a bs.length cap] 32 (0, 0)), pt g1 (.cells #[.pointer (some ⟨b, 0, none⟩)] 23 (0, 0)), pt g2 (.cells #[.string key] 9 (0, 0)), pt g3 (.cells #[.bool true] 4 (0, 0)), R] (fun u M => ∃ v' lv', u = .int .i64 (doS (putO key bs) s).1 ∧ M = SL B b r v' lv' (doS (putO key bs) s).2 ++ [R]) := by
  refine tri_body (n := 48) Try.func61 rfl rfl rfl ?_
  intro F
  show WC _ _ _ _ _ _ _ [(0, .pointer (some ⟨b, 0, none⟩)), (1, .slice (some ⟨gs, 0, none⟩) 1 1)] [pt b (.cells #[.map (some r), v, .int .i64 s.most, .int .i64 s.lag, .int .i64 s.now, .int .i64 s.calls, .int .i64 s.count, .bool s.done] 52 (0, 0)), mapA encS r lv, row 113 3 v s.chg.length (chgCells s.chg), valsA B lv s.objs, pt gs (.cells #[.func (.func 69) #[] #[.pointer (some ⟨g0, 0, none⟩), .pointer (some ⟨g1, 0, none⟩), .pointer (some ⟨g2, 0, none⟩), .pointer (some ⟨g3, 0, none⟩)]] 1 (0, 0)), pt g0 (.cells #[.slice a bs.length cap] 32 (0, 0)), pt g1 (.cells #[.pointer (some ⟨b, 0, none⟩)] 23 (0, 0)), pt g2 (.cells #[.string key] 9 (0, 0)), pt g3 (.cells #[.bool true] 4 (0, 0)), R, F]
  have hok0 := hok
  obtain ⟨hn0, hn1, hl0, hl1, hc0, hk0, hk1, hv1, hm0, hm1⟩ := hok
  refine wc_seq ?_
  refine wc_region ?_
  refine wl_1 trivial rfl (do_assign rfl) ?_
  refine wl_nil ?_
  refine at_then ?_
  refine wc_seq ?_
  refine wc_region ?_
  refine wl_1 trivial rfl (do_move rfl) ?_
  refine wl_1 trivial rfl (do_nilCheck rfl) ?_
  refine wl_1 trivial rfl (do_fieldAddr (k := 5) (k' := 5) fo_52_5 rfl (by rfl)) ?_
  refine wl_1 trivial rfl (do_load 0 rfl one_3 rfl rfl) ?_
  refine wl_1 trivial rfl (do_add (r := s.calls + 1) rfl rfl (wrap_i64 (by omega) (by omega))) ?_
  refine wl_1 trivial rfl (do_nilCheck rfl) ?_
  refine wl_1 trivial rfl (do_fieldAddr (k := 5) (k' := 5) fo_52_5 rfl (by rfl)) ?_
  refine wl_1 trivial rfl (do_store (L1 := []) rfl rfl one_3 rfl rfl (cs' := #[.map (some r), v, .int .i64 s.most, .int .i64 s.lag, .int .i64 s.now, .int .i64 (s.calls + 1), .int .i64 s.count, .bool s.done]) rfl) ?_
  refine wl_nil ?_
  refine at_then ?_
  refine wc_seq ?_
  refine wc_region ?_
  refine wl_1 trivial rfl (do_assign rfl) ?_
  refine wl_1 trivial rfl (do_assign rfl) ?_
  refine wl_nil ?_
  refine at_then ?_
  refine wc_seq ?_
  refine wc_seq ?_
  refine wc_region ?_
  refine wl_1 trivial rfl (do_move rfl) ?_
  refine wl_1 trivial rfl (do_nilCheck rfl) ?_
  refine wl_1 trivial rfl (do_fieldAddr (k := 6) (k' := 6) fo_52_6 rfl (by rfl)) ?_
  refine wl_1 trivial rfl (do_load 0 rfl one_3 rfl rfl) ?_
  obtain ⟨c1, h_c1⟩ : ∃ c : Bool, cmpB .gtr s.count 0 = some c := ⟨_, rfl⟩
  refine wl_1 trivial rfl (do_cmp rfl rfl h_c1) ?_
  refine wl_nil ?_
  refine at_then ?_
  cases c1
  · have p_c1 := cmp_gtr_f h_c1
    refine wc_false rfl ?_
    refine wc_skip ?_
    refine at_then ?_
    refine wc_seq ?_
    refine wc_seq ?_
    refine wc_region ?_
    refine wl_1 trivial rfl (do_move rfl) ?_
    refine wl_1 trivial rfl (do_lenSlice rfl isSlice_147 rfl) ?_
    refine wl_1 trivial rfl (do_move rfl) ?_
    refine wl_nil ?_
    refine at_then ?_
    refine wc_block ?_
    refine wc_rounds 1 ?_
    refine wc_seq ?_
    refine wc_region ?_
    refine wl_1 trivial rfl (do_cmp (c := true) rfl rfl rfl) ?_
    refine wl_nil ?_
    refine at_then ?_
    refine wc_seq ?_
    refine wc_true rfl ?_
    refine wc_skip ?_
    refine at_then ?_
    refine wc_seq ?_
    refine wc_block ?_
    refine wc_seq ?_
    refine wc_region ?_
    refine wl_1 trivial rfl (do_indexAddr (j := 0) (p := 0) und_147 ty_1 rfl rfl rfl (by decide) rfl) ?_
    refine wl_1 trivial rfl (do_load 4 rfl one_1 rfl rfl) ?_
    refine wl_1 trivial rfl (do_assign rfl) ?_
    refine wl_nil ?_
    refine at_then ?_
    refine wc_seq ?_
    refine wc_region ?_
    refine wl_1 trivial rfl (do_move rfl) ?_
    refine wl_nil ?_
    refine at_then ?_
    refine wc_true rfl ?_
    refine wc_region ?_
    refine wl_1 trivial rfl (do_move rfl) ?_
    refine wl_do trivial rfl (do_callv (vs := []) rfl (put1_old B b r v lv (⟨s.objs, s.chg, s.most, s.lag, s.now, s.calls + 1, s.count, s.done⟩ : SS) g0 g1 g2 g3 key a cap bs R hcg hkeys bs' hth hR hl) rfl trivial enters_69 [0, 1, 2, 3, 5, 6, 7, 8, 9] [4, 10] ⟨rfl, rfl, rfl, rfl, rfl, rfl, rfl, rfl, rfl, trivial⟩ ⟨rfl, rfl, trivial⟩ (R := [_, _]) (by decide)) ?_
    rintro _ _ ⟨_, ⟨v2, l3, rfl, rfl⟩, rfl⟩
    refine wl_nil ?_
    refine at_block ?_
    refine at_then ?_
    refine wc_region ?_
    refine wl_1 trivial rfl (do_add (r := 1) rfl rfl rfl) ?_
    refine wl_1 trivial rfl (do_move rfl) ?_
    refine wl_nil ?_
    refine at_rounds ?_
    refine wc_seq ?_
    refine wc_region ?_
    refine wl_1 trivial rfl (do_cmp (c := false) rfl rfl rfl) ?_
    refine wl_nil ?_
    refine at_then ?_
    refine wc_seq ?_
    refine wc_false rfl ?_
    refine wc_exit ?_
    refine at_then_exit ?_
    refine at_then_exit ?_
    refine at_block_it ?_
    refine at_then ?_
    refine wc_seq ?_
    refine wc_region ?_
    refine wl_1 trivial rfl (do_move rfl) ?_
    refine wl_1 trivial rfl (do_assign rfl) ?_
    refine wl_nil ?_
    refine at_then ?_
    refine wc_ret ?_
    refine at_pick (M := [_, _, _, _, _, _]) [0, 1, 2, 3, 8, 10] ⟨rfl, rfl, rfl, rfl, rfl, rfl, trivial⟩ (by decide) ?_
    exact at_ret1 (M := [_, _, _, _, _]) rfl rfl ⟨v2, l3, by rw [doS_0 (by omega)], by rw [doS_0 (by omega)]; rfl⟩ rfl
  · have p_c1 := cmp_gtr_t h_c1
    refine wc_true rfl ?_
    refine wc_seq ?_
    refine wc_region ?_
    refine wl_1 trivial rfl (do_move rfl) ?_
    refine wl_1 trivial rfl (do_nilCheck rfl) ?_
    refine wl_1 trivial rfl (do_fieldAddr (k := 6) (k' := 6) fo_52_6 rfl (by rfl)) ?_
    refine wl_1 trivial rfl (do_load 0 rfl one_3 rfl rfl) ?_
    refine wl_1 trivial rfl (do_sub (r := s.count - 1) rfl rfl (wrap_i64 (by omega) (by omega))) ?_
    refine wl_1 trivial rfl (do_nilCheck rfl) ?_
    refine wl_1 trivial rfl (do_fieldAddr (k := 6) (k' := 6) fo_52_6 rfl (by rfl)) ?_
    refine wl_1 trivial rfl (do_store (L1 := []) rfl rfl one_3 rfl rfl (cs' := #[.map (some r), v, .int .i64 s.most, .int .i64 s.lag, .int .i64 s.now, .int .i64 (s.calls + 1), .int .i64 (s.count - 1), .bool s.done]) rfl) ?_
    refine wl_nil ?_
    refine at_then ?_
    refine wc_seq ?_
    refine wc_region ?_
    refine wl_1 trivial rfl (do_move rfl) ?_
    refine wl_1 trivial rfl (do_nilCheck rfl) ?_
    refine wl_1 trivial rfl (do_fieldAddr (k := 6) (k' := 6) fo_52_6 rfl (by rfl)) ?_
    refine wl_1 trivial rfl (do_load 0 rfl one_3 rfl rfl) ?_
    obtain ⟨c4, h_c4⟩ : ∃ c : Bool, cmpB .eql (s.count - 1) 0 = some c := ⟨_, rfl⟩
    refine wl_1 trivial rfl (do_cmp rfl rfl h_c4) ?_
    refine wl_nil ?_
    refine at_then ?_
    cases c4
    · have p_c4 := cmp_eql_f h_c4
      refine wc_false rfl ?_
      refine wc_skip ?_
      refine at_then ?_
      refine wc_seq ?_
      refine wc_seq ?_
      refine wc_region ?_
      refine wl_1 trivial rfl (do_move rfl) ?_
      refine wl_1 trivial rfl (do_lenSlice rfl isSlice_147 rfl) ?_
      refine wl_1 trivial rfl (do_move rfl) ?_
      refine wl_nil ?_
      refine at_then ?_
      refine wc_block ?_
      refine wc_rounds 1 ?_
      refine wc_seq ?_
      refine wc_region ?_
      refine wl_1 trivial rfl (do_cmp (c := true) rfl rfl rfl) ?_
      refine wl_nil ?_
      refine at_then ?_
      refine wc_seq ?_
      refine wc_true rfl ?_
      refine wc_skip ?_
      refine at_then ?_
      refine wc_seq ?_
      refine wc_block ?_
      refine wc_seq ?_
      refine wc_region ?_
      refine wl_1 trivial rfl (do_indexAddr (j := 0) (p := 0) und_147 ty_1 rfl rfl rfl (by decide) rfl) ?_
      refine wl_1 trivial rfl (do_load 4 rfl one_1 rfl rfl) ?_
      refine wl_1 trivial rfl (do_assign rfl) ?_
      refine wl_nil ?_
      refine at_then ?_
      refine wc_seq ?_
      refine wc_region ?_
      refine wl_1 trivial rfl (do_move rfl) ?_
      refine wl_nil ?_
      refine at_then ?_
      refine wc_true rfl ?_
      refine wc_region ?_
      refine wl_1 trivial rfl (do_move rfl) ?_
      refine wl_do trivial rfl (do_callv (vs := []) rfl (put1_old B b r v lv (⟨s.objs, s.chg, s.most, s.lag, s.now, s.calls + 1, s.count - 1, s.done⟩ : SS) g0 g1 g2 g3 key a cap bs R hcg hkeys bs' hth hR hl) rfl trivial enters_69 [0, 1, 2, 3, 5, 6, 7, 8, 9] [4, 10] ⟨rfl, rfl, rfl, rfl, rfl, rfl, rfl, rfl, rfl, trivial⟩ ⟨rfl, rfl, trivial⟩ (R := [_, _]) (by decide)) ?_
      rintro _ _ ⟨_, ⟨v5, l6, rfl, rfl⟩, rfl⟩
      refine wl_nil ?_
      refine at_block ?_
      refine at_then ?_
      refine wc_region ?_
      refine wl_1 trivial rfl (do_add (r := 1) rfl rfl rfl) ?_
      refine wl_1 trivial rfl (do_move rfl) ?_
      refine wl_nil ?_
      refine at_rounds ?_
      refine wc_seq ?_
      refine wc_region ?_
      refine wl_1 trivial rfl (do_cmp (c := false) rfl rfl rfl) ?_
      refine wl_nil ?_
      refine at_then ?_
      refine wc_seq ?_
      refine wc_false rfl ?_
      refine wc_exit ?_
      refine at_then_exit ?_
      refine at_then_exit ?_
      refine at_block_it ?_
      refine at_then ?_
      refine wc_seq ?_
      refine wc_region ?_
      refine wl_1 trivial rfl (do_move rfl) ?_
      refine wl_1 trivial rfl (do_assign rfl) ?_
      refine wl_nil ?_
      refine at_then ?_
      refine wc_ret ?_
      refine at_pick (M := [_, _, _, _, _, _]) [0, 1, 2, 3, 8, 10] ⟨rfl, rfl, rfl, rfl, rfl, rfl, trivial⟩ (by decide) ?_
      exact at_ret1 (M := [_, _, _, _, _]) rfl rfl ⟨v5, l6, by rw [doS_2 (by omega)], by rw [doS_2 (by omega)]; rfl⟩ rfl
    · have p_c4 := cmp_eql_t h_c4
      refine wc_true rfl ?_
      refine wc_draw [[], [0], [0, 1], [0, 1, 2], [], [0, 1, 2, 3, 4]] [some (.pointer (some ⟨b, 0, none⟩)), some (.pointer (some ⟨b, 0, none⟩)), some (.pointer (some ⟨b, 7, none⟩)), some (.bool s.done), some (.int .i64 8), some (.bool s.done)] [] mixed (by kernel_rfl) (by decide) ⟨rfl, ⟨.inr ⟨_, [.old 0], rfl, rfl, .inl ⟨trivial, do_move rfl⟩⟩, .inr ⟨_, [.op 0], rfl, rfl, .inl ⟨trivial, do_nilCheck rfl⟩⟩, .inr ⟨_, [.op 1], rfl, rfl, .inl ⟨trivial, do_fieldAddr (k := 7) (k' := 7) fo_52_7 rfl (by rfl)⟩⟩, .inr ⟨_, [.op 2], rfl, rfl, .inl ⟨trivial, do_load 0 rfl one_4 rfl rfl⟩⟩, .inr ⟨_, [], rfl, rfl, .inl ⟨trivial, do_assign rfl⟩⟩, .inr ⟨_, [.op 3], rfl, rfl, .inl ⟨trivial, do_assign rfl⟩⟩, trivial⟩, [.op 4, .op 5, .old 1, .old 4], [(5, .int .i64 8), (6, .bool s.done), (1, .slice (some ⟨gs, 0, none⟩) 1 1), (4, .int .i64 0)], rfl, rfl, ?_⟩
      refine at_then ?_
      refine wc_seq ?_
      refine wc_seq ?_
      refine wc_region ?_
      refine wl_1 trivial rfl (do_move rfl) ?_
      refine wl_1 trivial rfl (do_lenSlice rfl isSlice_147 rfl) ?_
      refine wl_1 trivial rfl (do_move rfl) ?_
      refine wl_nil ?_
      refine at_then ?_
      refine wc_block ?_
      refine wc_rounds 1 ?_
      refine wc_seq ?_
      refine wc_region ?_
      refine wl_1 trivial rfl (do_cmp (c := true) rfl rfl rfl) ?_
      refine wl_nil ?_
      refine at_then ?_
      refine wc_seq ?_
      refine wc_true rfl ?_
      refine wc_skip ?_
      refine at_then ?_
      refine wc_seq ?_
      refine wc_block ?_
      refine wc_seq ?_
      refine wc_region ?_
      refine wl_1 trivial rfl (do_indexAddr (j := 0) (p := 0) und_147 ty_1 rfl rfl rfl (by decide) rfl) ?_
      refine wl_1 trivial rfl (do_load 4 rfl one_1 rfl rfl) ?_
      refine wl_1 trivial rfl (do_assign rfl) ?_
      refine wl_nil ?_
      refine at_then ?_
      refine wc_seq ?_
      refine wc_region ?_
      refine wl_1 trivial rfl (do_move rfl) ?_
      refine wl_nil ?_
      refine at_then ?_
      cases hb7 : s.done
      · skip
        refine wc_false rfl ?_
        refine wc_skip ?_
        refine at_block ?_
        refine at_then ?_
        refine wc_region ?_
        refine wl_1 trivial rfl (do_add (r := 1) rfl rfl rfl) ?_
        refine wl_1 trivial rfl (do_move rfl) ?_
        refine wl_nil ?_
        refine at_rounds ?_
        refine wc_seq ?_
        refine wc_region ?_
        refine wl_1 trivial rfl (do_cmp (c := false) rfl rfl rfl) ?_
        refine wl_nil ?_
        refine at_then ?_
        refine wc_seq ?_
        refine wc_false rfl ?_
        refine wc_exit ?_
        refine at_then_exit ?_
        refine at_then_exit ?_
        refine at_block_it ?_
        refine at_then ?_
        refine wc_seq ?_
        refine wc_region ?_
        refine wl_1 trivial rfl (do_move rfl) ?_
        refine wl_1 trivial rfl (do_assign rfl) ?_
        refine wl_nil ?_
        refine at_then ?_
        refine wc_ret ?_
        refine at_pick (M := [_, _, _, _, _, _]) [0, 1, 2, 3, 9, 10] ⟨rfl, rfl, rfl, rfl, rfl, rfl, trivial⟩ (by decide) ?_
        exact at_ret1 (M := [_, _, _, _, _]) rfl rfl ⟨v, lv, by rw [doS_1f (by omega) hb7], by rw [doS_1f (by omega) hb7]; rfl⟩ rfl
      · skip
        refine wc_true rfl ?_
        refine wc_region ?_
        refine wl_1 trivial rfl (do_move rfl) ?_
        refine wl_do trivial rfl (do_callv (vs := []) rfl (put1_old B b r v lv (⟨s.objs, s.chg, s.most, s.lag, s.now, s.calls + 1, s.count - 1, true⟩ : SS) g0 g1 g2 g3 key a cap bs R hcg hkeys bs' hth hR hl) rfl trivial enters_69 [0, 1, 2, 3, 5, 6, 7, 8, 9] [4, 10] ⟨rfl, rfl, rfl, rfl, rfl, rfl, rfl, rfl, rfl, trivial⟩ ⟨rfl, rfl, trivial⟩ (R := [_, _]) (by decide)) ?_
        rintro _ _ ⟨_, ⟨v8, l9, rfl, rfl⟩, rfl⟩
        refine wl_nil ?_
        refine at_block ?_
        refine at_then ?_
        refine wc_region ?_
        refine wl_1 trivial rfl (do_add (r := 1) rfl rfl rfl) ?_
        refine wl_1 trivial rfl (do_move rfl) ?_
        refine wl_nil ?_
        refine at_rounds ?_
        refine wc_seq ?_
        refine wc_region ?_
        refine wl_1 trivial rfl (do_cmp (c := false) rfl rfl rfl) ?_
        refine wl_nil ?_
        refine at_then ?_
        refine wc_seq ?_
        refine wc_false rfl ?_
        refine wc_exit ?_
        refine at_then_exit ?_
        refine at_then_exit ?_
        refine at_block_it ?_
        refine at_then ?_
        refine wc_seq ?_
        refine wc_region ?_
        refine wl_1 trivial rfl (do_move rfl) ?_
        refine wl_1 trivial rfl (do_assign rfl) ?_
        refine wl_nil ?_
        refine at_then ?_
        refine wc_ret ?_
        refine at_pick (M := [_, _, _, _, _, _]) [0, 1, 2, 3, 8, 10] ⟨rfl, rfl, rfl, rfl, rfl, rfl, trivial⟩ (by decide) ?_
        exact at_ret1 (M := [_, _, _, _, _]) rfl rfl ⟨v8, l9, by rw [doS_1t (by omega) hb7], by rw [doS_1t (by omega) hb7]; rfl⟩ rfl

set_option maxRecDepth 100000 in
set_option maxHeartbeats 8000000 in
theorem call_put_new (B : Ctx) (b r : Nat) (v : Value) (lv : List (ByteArray × Value)) (s : SS) (gs g0 g1 g2 g3 : Nat) (key : ByteArray) (a : Option Addr) (cap : Nat) (bs : List UInt8) (R : Assn) (hok : SOk s) (hcl : s.calls ≤ 1099511627776) (hcg : s.chg.length ≤ 1099511627776) (hkeys : akeys lv = akeys s.objs) (hth : aget s.objs key = none) (hR : Rd B R 1 (.slice a bs.length cap) bs.length (byv bs)) (hl : bs.length ≤ 1048576) :
    Tri Try.prog B 61 #[.pointer (some ⟨b, 0, none⟩), .slice (some ⟨gs, 0, none⟩) 1 1] [pt b (.cells #[.map (some r), v, .int .i64 s.most, .int .i64 s.lag, .int .i64 s.now, .int .i64 s.calls, .int .i64 s.count, .bool s.done] 52 (0, 0)), mapA encS r lv, row 113 3 v s.chg.length (chgCells s.chg), valsA B lv s.objs, pt gs (.cells #[.func (.func 69) #[] #[.pointer (some ⟨g0, 0, none⟩), .pointer (some ⟨g1, 0, none⟩), .pointer (some ⟨g2, 0, none⟩), .pointer (some ⟨g3, 0, none⟩)]] 1 (0, 0)), pt g0 (.cells #[.slice a bs.length cap] 32 (0, 0)), pt g1 (.cells #[.pointer (some ⟨b, 0, none⟩)] 23 (0, 0)), pt g2 (.cells #[.string key] 9 (0, 0)), pt g3 (.cells #[.bool false] 4 (0, 0)), R] (fun u M => ∃ v' lv', u = .int .i64 (doS (putO key bs) s).1 ∧ M = SL B b r v' lv' (doS (putO key bs) s).2 ++ [R]) := by
  refine tri_body (n := 48) Try.func61 rfl rfl rfl ?_
  intro F
  show WC _ _ _ _ _ _ _ [(0, .pointer (some ⟨b, 0, none⟩)), (1, .slice (some ⟨gs, 0, none⟩) 1 1)] [pt b (.cells #[.map (some r), v, .int .i64 s.most, .int .i64 s.lag, .int .i64 s.now, .int .i64 s.calls, .int .i64 s.count, .bool s.done] 52 (0, 0)), mapA encS r lv, row 113 3 v s.chg.length (chgCells s.chg), valsA B lv s.objs, pt gs (.cells #[.func (.func 69) #[] #[.pointer (some ⟨g0, 0, none⟩), .pointer (some ⟨g1, 0, none⟩), .pointer (some ⟨g2, 0, none⟩), .pointer (some ⟨g3, 0, none⟩)]] 1 (0, 0)), pt g0 (.cells #[.slice a bs.length cap] 32 (0, 0)), pt g1 (.cells #[.pointer (some ⟨b, 0, none⟩)] 23 (0, 0)), pt g2 (.cells #[.string key] 9 (0, 0)), pt g3 (.cells #[.bool false] 4 (0, 0)), R, F]
  have hok0 := hok
  obtain ⟨hn0, hn1, hl0, hl1, hc0, hk0, hk1, hv1, hm0, hm1⟩ := hok
  refine wc_seq ?_
  refine wc_region ?_
  refine wl_1 trivial rfl (do_assign rfl) ?_
  refine wl_nil ?_
  refine at_then ?_
  refine wc_seq ?_
  refine wc_region ?_
  refine wl_1 trivial rfl (do_move rfl) ?_
  refine wl_1 trivial rfl (do_nilCheck rfl) ?_
  refine wl_1 trivial rfl (do_fieldAddr (k := 5) (k' := 5) fo_52_5 rfl (by rfl)) ?_
  refine wl_1 trivial rfl (do_load 0 rfl one_3 rfl rfl) ?_
  refine wl_1 trivial rfl (do_add (r := s.calls + 1) rfl rfl (wrap_i64 (by omega) (by omega))) ?_
  refine wl_1 trivial rfl (do_nilCheck rfl) ?_
  refine wl_1 trivial rfl (do_fieldAddr (k := 5) (k' := 5) fo_52_5 rfl (by rfl)) ?_
  refine wl_1 trivial rfl (do_store (L1 := []) rfl rfl one_3 rfl rfl (cs' := #[.map (some r), v, .int .i64 s.most, .int .i64 s.lag, .int .i64 s.now, .int .i64 (s.calls + 1), .int .i64 s.count, .bool s.done]) rfl) ?_
  refine wl_nil ?_
  refine at_then ?_
  refine wc_seq ?_
  refine wc_region ?_
  refine wl_1 trivial rfl (do_assign rfl) ?_
  refine wl_1 trivial rfl (do_assign rfl) ?_
  refine wl_nil ?_
  refine at_then ?_
  refine wc_seq ?_
  refine wc_seq ?_
  refine wc_region ?_
  refine wl_1 trivial rfl (do_move rfl) ?_
  refine wl_1 trivial rfl (do_nilCheck rfl) ?_
  refine wl_1 trivial rfl (do_fieldAddr (k := 6) (k' := 6) fo_52_6 rfl (by rfl)) ?_
  refine wl_1 trivial rfl (do_load 0 rfl one_3 rfl rfl) ?_
  obtain ⟨c1, h_c1⟩ : ∃ c : Bool, cmpB .gtr s.count 0 = some c := ⟨_, rfl⟩
  refine wl_1 trivial rfl (do_cmp rfl rfl h_c1) ?_
  refine wl_nil ?_
  refine at_then ?_
  cases c1
  · have p_c1 := cmp_gtr_f h_c1
    refine wc_false rfl ?_
    refine wc_skip ?_
    refine at_then ?_
    refine wc_seq ?_
    refine wc_seq ?_
    refine wc_region ?_
    refine wl_1 trivial rfl (do_move rfl) ?_
    refine wl_1 trivial rfl (do_lenSlice rfl isSlice_147 rfl) ?_
    refine wl_1 trivial rfl (do_move rfl) ?_
    refine wl_nil ?_
    refine at_then ?_
    refine wc_block ?_
    refine wc_rounds 1 ?_
    refine wc_seq ?_
    refine wc_region ?_
    refine wl_1 trivial rfl (do_cmp (c := true) rfl rfl rfl) ?_
    refine wl_nil ?_
    refine at_then ?_
    refine wc_seq ?_
    refine wc_true rfl ?_
    refine wc_skip ?_
    refine at_then ?_
    refine wc_seq ?_
    refine wc_block ?_
    refine wc_seq ?_
    refine wc_region ?_
    refine wl_1 trivial rfl (do_indexAddr (j := 0) (p := 0) und_147 ty_1 rfl rfl rfl (by decide) rfl) ?_
    refine wl_1 trivial rfl (do_load 4 rfl one_1 rfl rfl) ?_
    refine wl_1 trivial rfl (do_assign rfl) ?_
    refine wl_nil ?_
    refine at_then ?_
    refine wc_seq ?_
    refine wc_region ?_
    refine wl_1 trivial rfl (do_move rfl) ?_
    refine wl_nil ?_
    refine at_then ?_
    refine wc_true rfl ?_
    refine wc_region ?_
    refine wl_1 trivial rfl (do_move rfl) ?_
    refine wl_do trivial rfl (do_callv (vs := []) rfl (put1_new B b r v lv (⟨s.objs, s.chg, s.most, s.lag, s.now, s.calls + 1, s.count, s.done⟩ : SS) g0 g1 g2 g3 key a cap bs R hcg hkeys hth hR hl) rfl trivial enters_69 [0, 1, 2, 3, 5, 6, 7, 8, 9] [4, 10] ⟨rfl, rfl, rfl, rfl, rfl, rfl, rfl, rfl, rfl, trivial⟩ ⟨rfl, rfl, trivial⟩ (R := [_, _]) (by decide)) ?_
    rintro _ _ ⟨_, ⟨v2, l3, rfl, rfl⟩, rfl⟩
    refine wl_nil ?_
    refine at_block ?_
    refine at_then ?_
    refine wc_region ?_
    refine wl_1 trivial rfl (do_add (r := 1) rfl rfl rfl) ?_
    refine wl_1 trivial rfl (do_move rfl) ?_
    refine wl_nil ?_
    refine at_rounds ?_
    refine wc_seq ?_
    refine wc_region ?_
    refine wl_1 trivial rfl (do_cmp (c := false) rfl rfl rfl) ?_
    refine wl_nil ?_
    refine at_then ?_
    refine wc_seq ?_
    refine wc_false rfl ?_
    refine wc_exit ?_
    refine at_then_exit ?_
    refine at_then_exit ?_
    refine at_block_it ?_
    refine at_then ?_
    refine wc_seq ?_
    refine wc_region ?_
    refine wl_1 trivial rfl (do_move rfl) ?_
    refine wl_1 trivial rfl (do_assign rfl) ?_
    refine wl_nil ?_
    refine at_then ?_
    refine wc_ret ?_
    refine at_pick (M := [_, _, _, _, _, _]) [0, 1, 2, 3, 8, 10] ⟨rfl, rfl, rfl, rfl, rfl, rfl, trivial⟩ (by decide) ?_
    exact at_ret1 (M := [_, _, _, _, _]) rfl rfl ⟨v2, l3, by rw [doS_0 (by omega)], by rw [doS_0 (by omega)]; rfl⟩ rfl
  · have p_c1 := cmp_gtr_t h_c1
    refine wc_true rfl ?_
    refine wc_seq ?_
    refine wc_region ?_
    refine wl_1 trivial rfl (do_move rfl) ?_
    refine wl_1 trivial rfl (do_nilCheck rfl) ?_
    refine wl_1 trivial rfl (do_fieldAddr (k := 6) (k' := 6) fo_52_6 rfl (by rfl)) ?_
    refine wl_1 trivial rfl (do_load 0 rfl one_3 rfl rfl) ?_
    refine wl_1 trivial rfl (do_sub (r := s.count - 1) rfl rfl (wrap_i64 (by omega) (by omega))) ?_
    refine wl_1 trivial rfl (do_nilCheck rfl) ?_
    refine wl_1 trivial rfl (do_fieldAddr (k := 6) (k' := 6) fo_52_6 rfl (by rfl)) ?_
    refine wl_1 trivial rfl (do_store (L1 := []) rfl rfl one_3 rfl rfl (cs' := #[.map (some r), v, .int .i64 s.most, .int .i64 s.lag, .int .i64 s.now, .int .i64 (s.calls + 1), .int .i64 (s.count - 1), .bool s.done]) rfl) ?_
    refine wl_nil ?_
    refine at_then ?_
    refine wc_seq ?_
    refine wc_region ?_
    refine wl_1 trivial rfl (do_move rfl) ?_
    refine wl_1 trivial rfl (do_nilCheck rfl) ?_
    refine wl_1 trivial rfl (do_fieldAddr (k := 6) (k' := 6) fo_52_6 rfl (by rfl)) ?_
    refine wl_1 trivial rfl (do_load 0 rfl one_3 rfl rfl) ?_
    obtain ⟨c4, h_c4⟩ : ∃ c : Bool, cmpB .eql (s.count - 1) 0 = some c := ⟨_, rfl⟩
    refine wl_1 trivial rfl (do_cmp rfl rfl h_c4) ?_
    refine wl_nil ?_
    refine at_then ?_
    cases c4
    · have p_c4 := cmp_eql_f h_c4
      refine wc_false rfl ?_
      refine wc_skip ?_
      refine at_then ?_
      refine wc_seq ?_
      refine wc_seq ?_
      refine wc_region ?_
      refine wl_1 trivial rfl (do_move rfl) ?_
      refine wl_1 trivial rfl (do_lenSlice rfl isSlice_147 rfl) ?_
      refine wl_1 trivial rfl (do_move rfl) ?_
      refine wl_nil ?_
      refine at_then ?_
      refine wc_block ?_
      refine wc_rounds 1 ?_
      refine wc_seq ?_
      refine wc_region ?_
      refine wl_1 trivial rfl (do_cmp (c := true) rfl rfl rfl) ?_
      refine wl_nil ?_
      refine at_then ?_
      refine wc_seq ?_
      refine wc_true rfl ?_
      refine wc_skip ?_
      refine at_then ?_
      refine wc_seq ?_
      refine wc_block ?_
      refine wc_seq ?_
      refine wc_region ?_
      refine wl_1 trivial rfl (do_indexAddr (j := 0) (p := 0) und_147 ty_1 rfl rfl rfl (by decide) rfl) ?_
      refine wl_1 trivial rfl (do_load 4 rfl one_1 rfl rfl) ?_
      refine wl_1 trivial rfl (do_assign rfl) ?_
      refine wl_nil ?_
      refine at_then ?_
      refine wc_seq ?_
      refine wc_region ?_
      refine wl_1 trivial rfl (do_move rfl) ?_
      refine wl_nil ?_
      refine at_then ?_
      refine wc_true rfl ?_
      refine wc_region ?_
      refine wl_1 trivial rfl (do_move rfl) ?_
      refine wl_do trivial rfl (do_callv (vs := []) rfl (put1_new B b r v lv (⟨s.objs, s.chg, s.most, s.lag, s.now, s.calls + 1, s.count - 1, s.done⟩ : SS) g0 g1 g2 g3 key a cap bs R hcg hkeys hth hR hl) rfl trivial enters_69 [0, 1, 2, 3, 5, 6, 7, 8, 9] [4, 10] ⟨rfl, rfl, rfl, rfl, rfl, rfl, rfl, rfl, rfl, trivial⟩ ⟨rfl, rfl, trivial⟩ (R := [_, _]) (by decide)) ?_
      rintro _ _ ⟨_, ⟨v5, l6, rfl, rfl⟩, rfl⟩
      refine wl_nil ?_
      refine at_block ?_
      refine at_then ?_
      refine wc_region ?_
      refine wl_1 trivial rfl (do_add (r := 1) rfl rfl rfl) ?_
      refine wl_1 trivial rfl (do_move rfl) ?_
      refine wl_nil ?_
      refine at_rounds ?_
      refine wc_seq ?_
      refine wc_region ?_
      refine wl_1 trivial rfl (do_cmp (c := false) rfl rfl rfl) ?_
      refine wl_nil ?_
      refine at_then ?_
      refine wc_seq ?_
      refine wc_false rfl ?_
      refine wc_exit ?_
      refine at_then_exit ?_
      refine at_then_exit ?_
      refine at_block_it ?_
      refine at_then ?_
      refine wc_seq ?_
      refine wc_region ?_
      refine wl_1 trivial rfl (do_move rfl) ?_
      refine wl_1 trivial rfl (do_assign rfl) ?_
      refine wl_nil ?_
      refine at_then ?_
      refine wc_ret ?_
      refine at_pick (M := [_, _, _, _, _, _]) [0, 1, 2, 3, 8, 10] ⟨rfl, rfl, rfl, rfl, rfl, rfl, trivial⟩ (by decide) ?_
      exact at_ret1 (M := [_, _, _, _, _]) rfl rfl ⟨v5, l6, by rw [doS_2 (by omega)], by rw [doS_2 (by omega)]; rfl⟩ rfl
    · have p_c4 := cmp_eql_t h_c4
      refine wc_true rfl ?_
      refine wc_draw [[], [0], [0, 1], [0, 1, 2], [], [0, 1, 2, 3, 4]] [some (.pointer (some ⟨b, 0, none⟩)), some (.pointer (some ⟨b, 0, none⟩)), some (.pointer (some ⟨b, 7, none⟩)), some (.bool s.done), some (.int .i64 8), some (.bool s.done)] [] mixed (by kernel_rfl) (by decide) ⟨rfl, ⟨.inr ⟨_, [.old 0], rfl, rfl, .inl ⟨trivial, do_move rfl⟩⟩, .inr ⟨_, [.op 0], rfl, rfl, .inl ⟨trivial, do_nilCheck rfl⟩⟩, .inr ⟨_, [.op 1], rfl, rfl, .inl ⟨trivial, do_fieldAddr (k := 7) (k' := 7) fo_52_7 rfl (by rfl)⟩⟩, .inr ⟨_, [.op 2], rfl, rfl, .inl ⟨trivial, do_load 0 rfl one_4 rfl rfl⟩⟩, .inr ⟨_, [], rfl, rfl, .inl ⟨trivial, do_assign rfl⟩⟩, .inr ⟨_, [.op 3], rfl, rfl, .inl ⟨trivial, do_assign rfl⟩⟩, trivial⟩, [.op 4, .op 5, .old 1, .old 4], [(5, .int .i64 8), (6, .bool s.done), (1, .slice (some ⟨gs, 0, none⟩) 1 1), (4, .int .i64 0)], rfl, rfl, ?_⟩
      refine at_then ?_
      refine wc_seq ?_
      refine wc_seq ?_
      refine wc_region ?_
      refine wl_1 trivial rfl (do_move rfl) ?_
      refine wl_1 trivial rfl (do_lenSlice rfl isSlice_147 rfl) ?_
      refine wl_1 trivial rfl (do_move rfl) ?_
      refine wl_nil ?_
      refine at_then ?_
      refine wc_block ?_
      refine wc_rounds 1 ?_
      refine wc_seq ?_
      refine wc_region ?_
      refine wl_1 trivial rfl (do_cmp (c := true) rfl rfl rfl) ?_
      refine wl_nil ?_
      refine at_then ?_
      refine wc_seq ?_
      refine wc_true rfl ?_
      refine wc_skip ?_
      refine at_then ?_
      refine wc_seq ?_
      refine wc_block ?_
      refine wc_seq ?_
      refine wc_region ?_
      refine wl_1 trivial rfl (do_indexAddr (j := 0) (p := 0) und_147 ty_1 rfl rfl rfl (by decide) rfl) ?_
      refine wl_1 trivial rfl (do_load 4 rfl one_1 rfl rfl) ?_
      refine wl_1 trivial rfl (do_assign rfl) ?_
      refine wl_nil ?_
      refine at_then ?_
      refine wc_seq ?_
      refine wc_region ?_
      refine wl_1 trivial rfl (do_move rfl) ?_
      refine wl_nil ?_
      refine at_then ?_
      cases hb7 : s.done
      · skip
        refine wc_false rfl ?_
        refine wc_skip ?_
        refine at_block ?_
        refine at_then ?_
        refine wc_region ?_
        refine wl_1 trivial rfl (do_add (r := 1) rfl rfl rfl) ?_
        refine wl_1 trivial rfl (do_move rfl) ?_
        refine wl_nil ?_
        refine at_rounds ?_
        refine wc_seq ?_
        refine wc_region ?_
        refine wl_1 trivial rfl (do_cmp (c := false) rfl rfl rfl) ?_
        refine wl_nil ?_
        refine at_then ?_
        refine wc_seq ?_
        refine wc_false rfl ?_
        refine wc_exit ?_
        refine at_then_exit ?_
        refine at_then_exit ?_
        refine at_block_it ?_
        refine at_then ?_
        refine wc_seq ?_
        refine wc_region ?_
        refine wl_1 trivial rfl (do_move rfl) ?_
        refine wl_1 trivial rfl (do_assign rfl) ?_
        refine wl_nil ?_
        refine at_then ?_
        refine wc_ret ?_
        refine at_pick (M := [_, _, _, _, _, _]) [0, 1, 2, 3, 9, 10] ⟨rfl, rfl, rfl, rfl, rfl, rfl, trivial⟩ (by decide) ?_
        exact at_ret1 (M := [_, _, _, _, _]) rfl rfl ⟨v, lv, by rw [doS_1f (by omega) hb7], by rw [doS_1f (by omega) hb7]; rfl⟩ rfl
      · skip
        refine wc_true rfl ?_
        refine wc_region ?_
        refine wl_1 trivial rfl (do_move rfl) ?_
        refine wl_do trivial rfl (do_callv (vs := []) rfl (put1_new B b r v lv (⟨s.objs, s.chg, s.most, s.lag, s.now, s.calls + 1, s.count - 1, true⟩ : SS) g0 g1 g2 g3 key a cap bs R hcg hkeys hth hR hl) rfl trivial enters_69 [0, 1, 2, 3, 5, 6, 7, 8, 9] [4, 10] ⟨rfl, rfl, rfl, rfl, rfl, rfl, rfl, rfl, rfl, trivial⟩ ⟨rfl, rfl, trivial⟩ (R := [_, _]) (by decide)) ?_
        rintro _ _ ⟨_, ⟨v8, l9, rfl, rfl⟩, rfl⟩
        refine wl_nil ?_
        refine at_block ?_
        refine at_then ?_
        refine wc_region ?_
        refine wl_1 trivial rfl (do_add (r := 1) rfl rfl rfl) ?_
        refine wl_1 trivial rfl (do_move rfl) ?_
        refine wl_nil ?_
        refine at_rounds ?_
        refine wc_seq ?_
        refine wc_region ?_
        refine wl_1 trivial rfl (do_cmp (c := false) rfl rfl rfl) ?_
        refine wl_nil ?_
        refine at_then ?_
        refine wc_seq ?_
        refine wc_false rfl ?_
        refine wc_exit ?_
        refine at_then_exit ?_
        refine at_then_exit ?_
        refine at_block_it ?_
        refine at_then ?_
        refine wc_seq ?_
        refine wc_region ?_
        refine wl_1 trivial rfl (do_move rfl) ?_
        refine wl_1 trivial rfl (do_assign rfl) ?_
        refine wl_nil ?_
        refine at_then ?_
        refine wc_ret ?_
        refine at_pick (M := [_, _, _, _, _, _]) [0, 1, 2, 3, 8, 10] ⟨rfl, rfl, rfl, rfl, rfl, rfl, trivial⟩ (by decide) ?_
        exact at_ret1 (M := [_, _, _, _, _]) rfl rfl ⟨v8, l9, by rw [doS_1t (by omega) hb7], by rw [doS_1t (by omega) hb7]; rfl⟩ rfl

set_option maxRecDepth 100000 in
set_option maxHeartbeats 8000000 in
theorem call_del_old (B : Ctx) (b r : Nat) (v : Value) (lv : List (ByteArray × Value)) (s : SS) (gs g0 g1 : Nat) (key : ByteArray) (R : Assn) (hok : SOk s) (hcl : s.calls ≤ 1099511627776) (hcg : s.chg.length ≤ 1099511627776) (hkeys : akeys lv = akeys s.objs) (bs' : List UInt8) (hth : aget s.objs key = some bs') :
    Tri Try.prog B 61 #[.pointer (some ⟨b, 0, none⟩), .slice (some ⟨gs, 0, none⟩) 1 1] [pt b (.cells #[.map (some r), v, .int .i64 s.most, .int .i64 s.lag, .int .i64 s.now, .int .i64 s.calls, .int .i64 s.count, .bool s.done] 52 (0, 0)), mapA encS r lv, row 113 3 v s.chg.length (chgCells s.chg), valsA B lv s.objs, pt gs (.cells #[.func (.func 70) #[] #[.pointer (some ⟨g0, 0, none⟩), .pointer (some ⟨g1, 0, none⟩)]] 1 (0, 0)), pt g0 (.cells #[.pointer (some ⟨b, 0, none⟩)] 23 (0, 0)), pt g1 (.cells #[.string key] 9 (0, 0)), R] (fun u M => ∃ v' lv', u = .int .i64 (doS (delO key) s).1 ∧ M = SL B b r v' lv' (doS (delO key) s).2 ++ [R]) := by
  refine tri_body (n := 48) Try.func61 rfl rfl rfl ?_
  intro F
  show WC _ _ _ _ _ _ _ [(0, .pointer (some ⟨b, 0, none⟩)), (1, .slice (some ⟨gs, 0, none⟩) 1 1)] [pt b (.cells #[.map (some r), v, .int .i64 s.most, .int .i64 s.lag, .int .i64 s.now, .int .i64 s.calls, .int .i64 s.count, .bool s.done] 52 (0, 0)), mapA encS r lv, row 113 3 v s.chg.length (chgCells s.chg), valsA B lv s.objs, pt gs (.cells #[.func (.func 70) #[] #[.pointer (some ⟨g0, 0, none⟩), .pointer (some ⟨g1, 0, none⟩)]] 1 (0, 0)), pt g0 (.cells #[.pointer (some ⟨b, 0, none⟩)] 23 (0, 0)), pt g1 (.cells #[.string key] 9 (0, 0)), R, F]
  have hok0 := hok
  obtain ⟨hn0, hn1, hl0, hl1, hc0, hk0, hk1, hv1, hm0, hm1⟩ := hok
  refine wc_seq ?_
  refine wc_region ?_
  refine wl_1 trivial rfl (do_assign rfl) ?_
  refine wl_nil ?_
  refine at_then ?_
  refine wc_seq ?_
  refine wc_region ?_
  refine wl_1 trivial rfl (do_move rfl) ?_
  refine wl_1 trivial rfl (do_nilCheck rfl) ?_
  refine wl_1 trivial rfl (do_fieldAddr (k := 5) (k' := 5) fo_52_5 rfl (by rfl)) ?_
  refine wl_1 trivial rfl (do_load 0 rfl one_3 rfl rfl) ?_
  refine wl_1 trivial rfl (do_add (r := s.calls + 1) rfl rfl (wrap_i64 (by omega) (by omega))) ?_
  refine wl_1 trivial rfl (do_nilCheck rfl) ?_
  refine wl_1 trivial rfl (do_fieldAddr (k := 5) (k' := 5) fo_52_5 rfl (by rfl)) ?_
  refine wl_1 trivial rfl (do_store (L1 := []) rfl rfl one_3 rfl rfl (cs' := #[.map (some r), v, .int .i64 s.most, .int .i64 s.lag, .int .i64 s.now, .int .i64 (s.calls + 1), .int .i64 s.count, .bool s.done]) rfl) ?_
  refine wl_nil ?_
  refine at_then ?_
  refine wc_seq ?_
  refine wc_region ?_
  refine wl_1 trivial rfl (do_assign rfl) ?_
  refine wl_1 trivial rfl (do_assign rfl) ?_
  refine wl_nil ?_
  refine at_then ?_
  refine wc_seq ?_
  refine wc_seq ?_
  refine wc_region ?_
  refine wl_1 trivial rfl (do_move rfl) ?_
  refine wl_1 trivial rfl (do_nilCheck rfl) ?_
  refine wl_1 trivial rfl (do_fieldAddr (k := 6) (k' := 6) fo_52_6 rfl (by rfl)) ?_
  refine wl_1 trivial rfl (do_load 0 rfl one_3 rfl rfl) ?_
  obtain ⟨c1, h_c1⟩ : ∃ c : Bool, cmpB .gtr s.count 0 = some c := ⟨_, rfl⟩
  refine wl_1 trivial rfl (do_cmp rfl rfl h_c1) ?_
  refine wl_nil ?_
  refine at_then ?_
  cases c1
  · have p_c1 := cmp_gtr_f h_c1
    refine wc_false rfl ?_
    refine wc_skip ?_
    refine at_then ?_
    refine wc_seq ?_
    refine wc_seq ?_
    refine wc_region ?_
    refine wl_1 trivial rfl (do_move rfl) ?_
    refine wl_1 trivial rfl (do_lenSlice rfl isSlice_147 rfl) ?_
    refine wl_1 trivial rfl (do_move rfl) ?_
    refine wl_nil ?_
    refine at_then ?_
    refine wc_block ?_
    refine wc_rounds 1 ?_
    refine wc_seq ?_
    refine wc_region ?_
    refine wl_1 trivial rfl (do_cmp (c := true) rfl rfl rfl) ?_
    refine wl_nil ?_
    refine at_then ?_
    refine wc_seq ?_
    refine wc_true rfl ?_
    refine wc_skip ?_
    refine at_then ?_
    refine wc_seq ?_
    refine wc_block ?_
    refine wc_seq ?_
    refine wc_region ?_
    refine wl_1 trivial rfl (do_indexAddr (j := 0) (p := 0) und_147 ty_1 rfl rfl rfl (by decide) rfl) ?_
    refine wl_1 trivial rfl (do_load 4 rfl one_1 rfl rfl) ?_
    refine wl_1 trivial rfl (do_assign rfl) ?_
    refine wl_nil ?_
    refine at_then ?_
    refine wc_seq ?_
    refine wc_region ?_
    refine wl_1 trivial rfl (do_move rfl) ?_
    refine wl_nil ?_
    refine at_then ?_
    refine wc_true rfl ?_
    refine wc_region ?_
    refine wl_1 trivial rfl (do_move rfl) ?_
    refine wl_do trivial rfl (do_callv (vs := []) rfl (del1_old B b r v lv (⟨s.objs, s.chg, s.most, s.lag, s.now, s.calls + 1, s.count, s.done⟩ : SS) g0 g1 key R hcg hkeys bs' hth) rfl trivial enters_70 [0, 1, 2, 3, 5, 6, 7] [4, 8] ⟨rfl, rfl, rfl, rfl, rfl, rfl, rfl, trivial⟩ ⟨rfl, rfl, trivial⟩ (R := [_, _]) (by decide)) ?_
    rintro _ _ ⟨_, ⟨v2, l3, rfl, rfl⟩, rfl⟩
    refine wl_nil ?_
    refine at_block ?_
    refine at_then ?_
    refine wc_region ?_
    refine wl_1 trivial rfl (do_add (r := 1) rfl rfl rfl) ?_
    refine wl_1 trivial rfl (do_move rfl) ?_
    refine wl_nil ?_
    refine at_rounds ?_
    refine wc_seq ?_
    refine wc_region ?_
    refine wl_1 trivial rfl (do_cmp (c := false) rfl rfl rfl) ?_
    refine wl_nil ?_
    refine at_then ?_
    refine wc_seq ?_
    refine wc_false rfl ?_
    refine wc_exit ?_
    refine at_then_exit ?_
    refine at_then_exit ?_
    refine at_block_it ?_
    refine at_then ?_
    refine wc_seq ?_
    refine wc_region ?_
    refine wl_1 trivial rfl (do_move rfl) ?_
    refine wl_1 trivial rfl (do_assign rfl) ?_
    refine wl_nil ?_
    refine at_then ?_
    refine wc_ret ?_
    refine at_pick (M := [_, _, _, _, _, _]) [0, 1, 2, 3, 6, 8] ⟨rfl, rfl, rfl, rfl, rfl, rfl, trivial⟩ (by decide) ?_
    exact at_ret1 (M := [_, _, _, _, _]) rfl rfl ⟨v2, l3, by rw [doS_0 (by omega)], by rw [doS_0 (by omega)]; rfl⟩ rfl
  · have p_c1 := cmp_gtr_t h_c1
    refine wc_true rfl ?_
    refine wc_seq ?_
    refine wc_region ?_
    refine wl_1 trivial rfl (do_move rfl) ?_
    refine wl_1 trivial rfl (do_nilCheck rfl) ?_
    refine wl_1 trivial rfl (do_fieldAddr (k := 6) (k' := 6) fo_52_6 rfl (by rfl)) ?_
    refine wl_1 trivial rfl (do_load 0 rfl one_3 rfl rfl) ?_
    refine wl_1 trivial rfl (do_sub (r := s.count - 1) rfl rfl (wrap_i64 (by omega) (by omega))) ?_
    refine wl_1 trivial rfl (do_nilCheck rfl) ?_
    refine wl_1 trivial rfl (do_fieldAddr (k := 6) (k' := 6) fo_52_6 rfl (by rfl)) ?_
    refine wl_1 trivial rfl (do_store (L1 := []) rfl rfl one_3 rfl rfl (cs' := #[.map (some r), v, .int .i64 s.most, .int .i64 s.lag, .int .i64 s.now, .int .i64 (s.calls + 1), .int .i64 (s.count - 1), .bool s.done]) rfl) ?_
    refine wl_nil ?_
    refine at_then ?_
    refine wc_seq ?_
    refine wc_region ?_
    refine wl_1 trivial rfl (do_move rfl) ?_
    refine wl_1 trivial rfl (do_nilCheck rfl) ?_
    refine wl_1 trivial rfl (do_fieldAddr (k := 6) (k' := 6) fo_52_6 rfl (by rfl)) ?_
    refine wl_1 trivial rfl (do_load 0 rfl one_3 rfl rfl) ?_
    obtain ⟨c4, h_c4⟩ : ∃ c : Bool, cmpB .eql (s.count - 1) 0 = some c := ⟨_, rfl⟩
    refine wl_1 trivial rfl (do_cmp rfl rfl h_c4) ?_
    refine wl_nil ?_
    refine at_then ?_
    cases c4
    · have p_c4 := cmp_eql_f h_c4
      refine wc_false rfl ?_
      refine wc_skip ?_
      refine at_then ?_
      refine wc_seq ?_
      refine wc_seq ?_
      refine wc_region ?_
      refine wl_1 trivial rfl (do_move rfl) ?_
      refine wl_1 trivial rfl (do_lenSlice rfl isSlice_147 rfl) ?_
      refine wl_1 trivial rfl (do_move rfl) ?_
      refine wl_nil ?_
      refine at_then ?_
      refine wc_block ?_
      refine wc_rounds 1 ?_
      refine wc_seq ?_
      refine wc_region ?_
      refine wl_1 trivial rfl (do_cmp (c := true) rfl rfl rfl) ?_
      refine wl_nil ?_
      refine at_then ?_
      refine wc_seq ?_
      refine wc_true rfl ?_
      refine wc_skip ?_
      refine at_then ?_
      refine wc_seq ?_
      refine wc_block ?_
      refine wc_seq ?_
      refine wc_region ?_
      refine wl_1 trivial rfl (do_indexAddr (j := 0) (p := 0) und_147 ty_1 rfl rfl rfl (by decide) rfl) ?_
      refine wl_1 trivial rfl (do_load 4 rfl one_1 rfl rfl) ?_
      refine wl_1 trivial rfl (do_assign rfl) ?_
      refine wl_nil ?_
      refine at_then ?_
      refine wc_seq ?_
      refine wc_region ?_
      refine wl_1 trivial rfl (do_move rfl) ?_
      refine wl_nil ?_
      refine at_then ?_
      refine wc_true rfl ?_
      refine wc_region ?_
      refine wl_1 trivial rfl (do_move rfl) ?_
      refine wl_do trivial rfl (do_callv (vs := []) rfl (del1_old B b r v lv (⟨s.objs, s.chg, s.most, s.lag, s.now, s.calls + 1, s.count - 1, s.done⟩ : SS) g0 g1 key R hcg hkeys bs' hth) rfl trivial enters_70 [0, 1, 2, 3, 5, 6, 7] [4, 8] ⟨rfl, rfl, rfl, rfl, rfl, rfl, rfl, trivial⟩ ⟨rfl, rfl, trivial⟩ (R := [_, _]) (by decide)) ?_
      rintro _ _ ⟨_, ⟨v5, l6, rfl, rfl⟩, rfl⟩
      refine wl_nil ?_
      refine at_block ?_
      refine at_then ?_
      refine wc_region ?_
      refine wl_1 trivial rfl (do_add (r := 1) rfl rfl rfl) ?_
      refine wl_1 trivial rfl (do_move rfl) ?_
      refine wl_nil ?_
      refine at_rounds ?_
      refine wc_seq ?_
      refine wc_region ?_
      refine wl_1 trivial rfl (do_cmp (c := false) rfl rfl rfl) ?_
      refine wl_nil ?_
      refine at_then ?_
      refine wc_seq ?_
      refine wc_false rfl ?_
      refine wc_exit ?_
      refine at_then_exit ?_
      refine at_then_exit ?_
      refine at_block_it ?_
      refine at_then ?_
      refine wc_seq ?_
      refine wc_region ?_
      refine wl_1 trivial rfl (do_move rfl) ?_
      refine wl_1 trivial rfl (do_assign rfl) ?_
      refine wl_nil ?_
      refine at_then ?_
      refine wc_ret ?_
      refine at_pick (M := [_, _, _, _, _, _]) [0, 1, 2, 3, 6, 8] ⟨rfl, rfl, rfl, rfl, rfl, rfl, trivial⟩ (by decide) ?_
      exact at_ret1 (M := [_, _, _, _, _]) rfl rfl ⟨v5, l6, by rw [doS_2 (by omega)], by rw [doS_2 (by omega)]; rfl⟩ rfl
    · have p_c4 := cmp_eql_t h_c4
      refine wc_true rfl ?_
      refine wc_draw [[], [0], [0, 1], [0, 1, 2], [], [0, 1, 2, 3, 4]] [some (.pointer (some ⟨b, 0, none⟩)), some (.pointer (some ⟨b, 0, none⟩)), some (.pointer (some ⟨b, 7, none⟩)), some (.bool s.done), some (.int .i64 8), some (.bool s.done)] [] mixed (by kernel_rfl) (by decide) ⟨rfl, ⟨.inr ⟨_, [.old 0], rfl, rfl, .inl ⟨trivial, do_move rfl⟩⟩, .inr ⟨_, [.op 0], rfl, rfl, .inl ⟨trivial, do_nilCheck rfl⟩⟩, .inr ⟨_, [.op 1], rfl, rfl, .inl ⟨trivial, do_fieldAddr (k := 7) (k' := 7) fo_52_7 rfl (by rfl)⟩⟩, .inr ⟨_, [.op 2], rfl, rfl, .inl ⟨trivial, do_load 0 rfl one_4 rfl rfl⟩⟩, .inr ⟨_, [], rfl, rfl, .inl ⟨trivial, do_assign rfl⟩⟩, .inr ⟨_, [.op 3], rfl, rfl, .inl ⟨trivial, do_assign rfl⟩⟩, trivial⟩, [.op 4, .op 5, .old 1, .old 4], [(5, .int .i64 8), (6, .bool s.done), (1, .slice (some ⟨gs, 0, none⟩) 1 1), (4, .int .i64 0)], rfl, rfl, ?_⟩
      refine at_then ?_
      refine wc_seq ?_
      refine wc_seq ?_
      refine wc_region ?_
      refine wl_1 trivial rfl (do_move rfl) ?_
      refine wl_1 trivial rfl (do_lenSlice rfl isSlice_147 rfl) ?_
      refine wl_1 trivial rfl (do_move rfl) ?_
      refine wl_nil ?_
      refine at_then ?_
      refine wc_block ?_
      refine wc_rounds 1 ?_
      refine wc_seq ?_
      refine wc_region ?_
      refine wl_1 trivial rfl (do_cmp (c := true) rfl rfl rfl) ?_
      refine wl_nil ?_
      refine at_then ?_
      refine wc_seq ?_
      refine wc_true rfl ?_
      refine wc_skip ?_
      refine at_then ?_
      refine wc_seq ?_
      refine wc_block ?_
      refine wc_seq ?_
      refine wc_region ?_
      refine wl_1 trivial rfl (do_indexAddr (j := 0) (p := 0) und_147 ty_1 rfl rfl rfl (by decide) rfl) ?_
      refine wl_1 trivial rfl (do_load 4 rfl one_1 rfl rfl) ?_
      refine wl_1 trivial rfl (do_assign rfl) ?_
      refine wl_nil ?_
      refine at_then ?_
      refine wc_seq ?_
      refine wc_region ?_
      refine wl_1 trivial rfl (do_move rfl) ?_
      refine wl_nil ?_
      refine at_then ?_
      cases hb7 : s.done
      · skip
        refine wc_false rfl ?_
        refine wc_skip ?_
        refine at_block ?_
        refine at_then ?_
        refine wc_region ?_
        refine wl_1 trivial rfl (do_add (r := 1) rfl rfl rfl) ?_
        refine wl_1 trivial rfl (do_move rfl) ?_
        refine wl_nil ?_
        refine at_rounds ?_
        refine wc_seq ?_
        refine wc_region ?_
        refine wl_1 trivial rfl (do_cmp (c := false) rfl rfl rfl) ?_
        refine wl_nil ?_
        refine at_then ?_
        refine wc_seq ?_
        refine wc_false rfl ?_
        refine wc_exit ?_
        refine at_then_exit ?_
        refine at_then_exit ?_
        refine at_block_it ?_
        refine at_then ?_
        refine wc_seq ?_
        refine wc_region ?_
        refine wl_1 trivial rfl (do_move rfl) ?_
        refine wl_1 trivial rfl (do_assign rfl) ?_
        refine wl_nil ?_
        refine at_then ?_
        refine wc_ret ?_
        refine at_pick (M := [_, _, _, _, _, _]) [0, 1, 2, 3, 7, 8] ⟨rfl, rfl, rfl, rfl, rfl, rfl, trivial⟩ (by decide) ?_
        exact at_ret1 (M := [_, _, _, _, _]) rfl rfl ⟨v, lv, by rw [doS_1f (by omega) hb7], by rw [doS_1f (by omega) hb7]; rfl⟩ rfl
      · skip
        refine wc_true rfl ?_
        refine wc_region ?_
        refine wl_1 trivial rfl (do_move rfl) ?_
        refine wl_do trivial rfl (do_callv (vs := []) rfl (del1_old B b r v lv (⟨s.objs, s.chg, s.most, s.lag, s.now, s.calls + 1, s.count - 1, true⟩ : SS) g0 g1 key R hcg hkeys bs' hth) rfl trivial enters_70 [0, 1, 2, 3, 5, 6, 7] [4, 8] ⟨rfl, rfl, rfl, rfl, rfl, rfl, rfl, trivial⟩ ⟨rfl, rfl, trivial⟩ (R := [_, _]) (by decide)) ?_
        rintro _ _ ⟨_, ⟨v8, l9, rfl, rfl⟩, rfl⟩
        refine wl_nil ?_
        refine at_block ?_
        refine at_then ?_
        refine wc_region ?_
        refine wl_1 trivial rfl (do_add (r := 1) rfl rfl rfl) ?_
        refine wl_1 trivial rfl (do_move rfl) ?_
        refine wl_nil ?_
        refine at_rounds ?_
        refine wc_seq ?_
        refine wc_region ?_
        refine wl_1 trivial rfl (do_cmp (c := false) rfl rfl rfl) ?_
        refine wl_nil ?_
        refine at_then ?_
        refine wc_seq ?_
        refine wc_false rfl ?_
        refine wc_exit ?_
        refine at_then_exit ?_
        refine at_then_exit ?_
        refine at_block_it ?_
        refine at_then ?_
        refine wc_seq ?_
        refine wc_region ?_
        refine wl_1 trivial rfl (do_move rfl) ?_
        refine wl_1 trivial rfl (do_assign rfl) ?_
        refine wl_nil ?_
        refine at_then ?_
        refine wc_ret ?_
        refine at_pick (M := [_, _, _, _, _, _]) [0, 1, 2, 3, 6, 8] ⟨rfl, rfl, rfl, rfl, rfl, rfl, trivial⟩ (by decide) ?_
        exact at_ret1 (M := [_, _, _, _, _]) rfl rfl ⟨v8, l9, by rw [doS_1t (by omega) hb7], by rw [doS_1t (by omega) hb7]; rfl⟩ rfl

set_option maxRecDepth 100000 in
set_option maxHeartbeats 8000000 in
theorem call_del_new (B : Ctx) (b r : Nat) (v : Value) (lv : List (ByteArray × Value)) (s : SS) (gs g0 g1 : Nat) (key : ByteArray) (R : Assn) (hok : SOk s) (hcl : s.calls ≤ 1099511627776) (hcg : s.chg.length ≤ 1099511627776) (hkeys : akeys lv = akeys s.objs) (hth : aget s.objs key = none) :
    Tri Try.prog B 61 #[.pointer (some ⟨b, 0, none⟩), .slice (some ⟨gs, 0, none⟩) 1 1] [pt b (.cells #[.map (some r), v, .int .i64 s.most, .int .i64 s.lag, .int .i64 s.now, .int .i64 s.calls, .int .i64 s.count, .bool s.done] 52 (0, 0)), mapA encS r lv, row 113 3 v s.chg.length (chgCells s.chg), valsA B lv s.objs, pt gs (.cells #[.func (.func 70) #[] #[.pointer (some ⟨g0, 0, none⟩), .pointer (some ⟨g1, 0, none⟩)]] 1 (0, 0)), pt g0 (.cells #[.pointer (some ⟨b, 0, none⟩)] 23 (0, 0)), pt g1 (.cells #[.string key] 9 (0, 0)), R] (fun u M => ∃ v' lv', u = .int .i64 (doS (delO key) s).1 ∧ M = SL B b r v' lv' (doS (delO key) s).2 ++ [R]) := by
  refine tri_body (n := 48) Try.func61 rfl rfl rfl ?_
  intro F
  show WC _ _ _ _ _ _ _ [(0, .pointer (some ⟨b, 0, none⟩)), (1, .slice (some ⟨gs, 0, none⟩) 1 1)] [pt b (.cells #[.map (some r), v, .int .i64 s.most, .int .i64 s.lag, .int .i64 s.now, .int .i64 s.calls, .int .i64 s.count, .bool s.done] 52 (0, 0)), mapA encS r lv, row 113 3 v s.chg.length (chgCells s.chg), valsA B lv s.objs, pt gs (.cells #[.func (.func 70) #[] #[.pointer (some ⟨g0, 0, none⟩), .pointer (some ⟨g1, 0, none⟩)]] 1 (0, 0)), pt g0 (.cells #[.pointer (some ⟨b, 0, none⟩)] 23 (0, 0)), pt g1 (.cells #[.string key] 9 (0, 0)), R, F]
  have hok0 := hok
  obtain ⟨hn0, hn1, hl0, hl1, hc0, hk0, hk1, hv1, hm0, hm1⟩ := hok
  refine wc_seq ?_
  refine wc_region ?_
  refine wl_1 trivial rfl (do_assign rfl) ?_
  refine wl_nil ?_
  refine at_then ?_
  refine wc_seq ?_
  refine wc_region ?_
  refine wl_1 trivial rfl (do_move rfl) ?_
  refine wl_1 trivial rfl (do_nilCheck rfl) ?_
  refine wl_1 trivial rfl (do_fieldAddr (k := 5) (k' := 5) fo_52_5 rfl (by rfl)) ?_
  refine wl_1 trivial rfl (do_load 0 rfl one_3 rfl rfl) ?_
  refine wl_1 trivial rfl (do_add (r := s.calls + 1) rfl rfl (wrap_i64 (by omega) (by omega))) ?_
  refine wl_1 trivial rfl (do_nilCheck rfl) ?_
  refine wl_1 trivial rfl (do_fieldAddr (k := 5) (k' := 5) fo_52_5 rfl (by rfl)) ?_
  refine wl_1 trivial rfl (do_store (L1 := []) rfl rfl one_3 rfl rfl (cs' := #[.map (some r), v, .int .i64 s.most, .int .i64 s.lag, .int .i64 s.now, .int .i64 (s.calls + 1), .int .i64 s.count, .bool s.done]) rfl) ?_
  refine wl_nil ?_
  refine at_then ?_
  refine wc_seq ?_
  refine wc_region ?_
  refine wl_1 trivial rfl (do_assign rfl) ?_
  refine wl_1 trivial rfl (do_assign rfl) ?_
  refine wl_nil ?_
  refine at_then ?_
  refine wc_seq ?_
  refine wc_seq ?_
  refine wc_region ?_
  refine wl_1 trivial rfl (do_move rfl) ?_
  refine wl_1 trivial rfl (do_nilCheck rfl) ?_
  refine wl_1 trivial rfl (do_fieldAddr (k := 6) (k' := 6) fo_52_6 rfl (by rfl)) ?_
  refine wl_1 trivial rfl (do_load 0 rfl one_3 rfl rfl) ?_
  obtain ⟨c1, h_c1⟩ : ∃ c : Bool, cmpB .gtr s.count 0 = some c := ⟨_, rfl⟩
  refine wl_1 trivial rfl (do_cmp rfl rfl h_c1) ?_
  refine wl_nil ?_
  refine at_then ?_
  cases c1
  · have p_c1 := cmp_gtr_f h_c1
    refine wc_false rfl ?_
    refine wc_skip ?_
    refine at_then ?_
    refine wc_seq ?_
    refine wc_seq ?_
    refine wc_region ?_
    refine wl_1 trivial rfl (do_move rfl) ?_
    refine wl_1 trivial rfl (do_lenSlice rfl isSlice_147 rfl) ?_
    refine wl_1 trivial rfl (do_move rfl) ?_
    refine wl_nil ?_
    refine at_then ?_
    refine wc_block ?_
    refine wc_rounds 1 ?_
    refine wc_seq ?_
    refine wc_region ?_
    refine wl_1 trivial rfl (do_cmp (c := true) rfl rfl rfl) ?_
    refine wl_nil ?_
    refine at_then ?_
    refine wc_seq ?_
    refine wc_true rfl ?_
    refine wc_skip ?_
    refine at_then ?_
    refine wc_seq ?_
    refine wc_block ?_
    refine wc_seq ?_
    refine wc_region ?_
    refine wl_1 trivial rfl (do_indexAddr (j := 0) (p := 0) und_147 ty_1 rfl rfl rfl (by decide) rfl) ?_
    refine wl_1 trivial rfl (do_load 4 rfl one_1 rfl rfl) ?_
    refine wl_1 trivial rfl (do_assign rfl) ?_
    refine wl_nil ?_
    refine at_then ?_
    refine wc_seq ?_
    refine wc_region ?_
    refine wl_1 trivial rfl (do_move rfl) ?_
    refine wl_nil ?_
    refine at_then ?_
    refine wc_true rfl ?_
    refine wc_region ?_
    refine wl_1 trivial rfl (do_move rfl) ?_
    refine wl_do trivial rfl (do_callv (vs := []) rfl (del1_new B b r v lv (⟨s.objs, s.chg, s.most, s.lag, s.now, s.calls + 1, s.count, s.done⟩ : SS) g0 g1 key R hcg hkeys hth) rfl trivial enters_70 [0, 1, 2, 3, 5, 6, 7] [4, 8] ⟨rfl, rfl, rfl, rfl, rfl, rfl, rfl, trivial⟩ ⟨rfl, rfl, trivial⟩ (R := [_, _]) (by decide)) ?_
    rintro _ _ ⟨_, ⟨v2, l3, rfl, rfl⟩, rfl⟩
    refine wl_nil ?_
    refine at_block ?_
    refine at_then ?_
    refine wc_region ?_
    refine wl_1 trivial rfl (do_add (r := 1) rfl rfl rfl) ?_
    refine wl_1 trivial rfl (do_move rfl) ?_
    refine wl_nil ?_
    refine at_rounds ?_
    refine wc_seq ?_
    refine wc_region ?_
    refine wl_1 trivial rfl (do_cmp (c := false) rfl rfl rfl) ?_
    refine wl_nil ?_
    refine at_then ?_
    refine wc_seq ?_
    refine wc_false rfl ?_
    refine wc_exit ?_
    refine at_then_exit ?_
    refine at_then_exit ?_
    refine at_block_it ?_
    refine at_then ?_
    refine wc_seq ?_
    refine wc_region ?_
    refine wl_1 trivial rfl (do_move rfl) ?_
    refine wl_1 trivial rfl (do_assign rfl) ?_
    refine wl_nil ?_
    refine at_then ?_
    refine wc_ret ?_
    refine at_pick (M := [_, _, _, _, _, _]) [0, 1, 2, 3, 6, 8] ⟨rfl, rfl, rfl, rfl, rfl, rfl, trivial⟩ (by decide) ?_
    exact at_ret1 (M := [_, _, _, _, _]) rfl rfl ⟨v2, l3, by rw [doS_0 (by omega)], by rw [doS_0 (by omega)]; rfl⟩ rfl
  · have p_c1 := cmp_gtr_t h_c1
    refine wc_true rfl ?_
    refine wc_seq ?_
    refine wc_region ?_
    refine wl_1 trivial rfl (do_move rfl) ?_
    refine wl_1 trivial rfl (do_nilCheck rfl) ?_
    refine wl_1 trivial rfl (do_fieldAddr (k := 6) (k' := 6) fo_52_6 rfl (by rfl)) ?_
    refine wl_1 trivial rfl (do_load 0 rfl one_3 rfl rfl) ?_
    refine wl_1 trivial rfl (do_sub (r := s.count - 1) rfl rfl (wrap_i64 (by omega) (by omega))) ?_
    refine wl_1 trivial rfl (do_nilCheck rfl) ?_
    refine wl_1 trivial rfl (do_fieldAddr (k := 6) (k' := 6) fo_52_6 rfl (by rfl)) ?_
    refine wl_1 trivial rfl (do_store (L1 := []) rfl rfl one_3 rfl rfl (cs' := #[.map (some r), v, .int .i64 s.most, .int .i64 s.lag, .int .i64 s.now, .int .i64 (s.calls + 1), .int .i64 (s.count - 1), .bool s.done]) rfl) ?_
    refine wl_nil ?_
    refine at_then ?_
    refine wc_seq ?_
    refine wc_region ?_
    refine wl_1 trivial rfl (do_move rfl) ?_
    refine wl_1 trivial rfl (do_nilCheck rfl) ?_
    refine wl_1 trivial rfl (do_fieldAddr (k := 6) (k' := 6) fo_52_6 rfl (by rfl)) ?_
    refine wl_1 trivial rfl (do_load 0 rfl one_3 rfl rfl) ?_
    obtain ⟨c4, h_c4⟩ : ∃ c : Bool, cmpB .eql (s.count - 1) 0 = some c := ⟨_, rfl⟩
    refine wl_1 trivial rfl (do_cmp rfl rfl h_c4) ?_
    refine wl_nil ?_
    refine at_then ?_
    cases c4
    · have p_c4 := cmp_eql_f h_c4
      refine wc_false rfl ?_
      refine wc_skip ?_
      refine at_then ?_
      refine wc_seq ?_
      refine wc_seq ?_
      refine wc_region ?_
      refine wl_1 trivial rfl (do_move rfl) ?_
      refine wl_1 trivial rfl (do_lenSlice rfl isSlice_147 rfl) ?_
      refine wl_1 trivial rfl (do_move rfl) ?_
      refine wl_nil ?_
      refine at_then ?_
      refine wc_block ?_
      refine wc_rounds 1 ?_
      refine wc_seq ?_
      refine wc_region ?_
      refine wl_1 trivial rfl (do_cmp (c := true) rfl rfl rfl) ?_
      refine wl_nil ?_
      refine at_then ?_
      refine wc_seq ?_
      refine wc_true rfl ?_
      refine wc_skip ?_
      refine at_then ?_
      refine wc_seq ?_
      refine wc_block ?_
      refine wc_seq ?_
      refine wc_region ?_
      refine wl_1 trivial rfl (do_indexAddr (j := 0) (p := 0) und_147 ty_1 rfl rfl rfl (by decide) rfl) ?_
      refine wl_1 trivial rfl (do_load 4 rfl one_1 rfl rfl) ?_
      refine wl_1 trivial rfl (do_assign rfl) ?_
      refine wl_nil ?_
      refine at_then ?_
      refine wc_seq ?_
      refine wc_region ?_
      refine wl_1 trivial rfl (do_move rfl) ?_
      refine wl_nil ?_
      refine at_then ?_
      refine wc_true rfl ?_
      refine wc_region ?_
      refine wl_1 trivial rfl (do_move rfl) ?_
      refine wl_do trivial rfl (do_callv (vs := []) rfl (del1_new B b r v lv (⟨s.objs, s.chg, s.most, s.lag, s.now, s.calls + 1, s.count - 1, s.done⟩ : SS) g0 g1 key R hcg hkeys hth) rfl trivial enters_70 [0, 1, 2, 3, 5, 6, 7] [4, 8] ⟨rfl, rfl, rfl, rfl, rfl, rfl, rfl, trivial⟩ ⟨rfl, rfl, trivial⟩ (R := [_, _]) (by decide)) ?_
      rintro _ _ ⟨_, ⟨v5, l6, rfl, rfl⟩, rfl⟩
      refine wl_nil ?_
      refine at_block ?_
      refine at_then ?_
      refine wc_region ?_
      refine wl_1 trivial rfl (do_add (r := 1) rfl rfl rfl) ?_
      refine wl_1 trivial rfl (do_move rfl) ?_
      refine wl_nil ?_
      refine at_rounds ?_
      refine wc_seq ?_
      refine wc_region ?_
      refine wl_1 trivial rfl (do_cmp (c := false) rfl rfl rfl) ?_
      refine wl_nil ?_
      refine at_then ?_
      refine wc_seq ?_
      refine wc_false rfl ?_
      refine wc_exit ?_
      refine at_then_exit ?_
      refine at_then_exit ?_
      refine at_block_it ?_
      refine at_then ?_
      refine wc_seq ?_
      refine wc_region ?_
      refine wl_1 trivial rfl (do_move rfl) ?_
      refine wl_1 trivial rfl (do_assign rfl) ?_
      refine wl_nil ?_
      refine at_then ?_
      refine wc_ret ?_
      refine at_pick (M := [_, _, _, _, _, _]) [0, 1, 2, 3, 6, 8] ⟨rfl, rfl, rfl, rfl, rfl, rfl, trivial⟩ (by decide) ?_
      exact at_ret1 (M := [_, _, _, _, _]) rfl rfl ⟨v5, l6, by rw [doS_2 (by omega)], by rw [doS_2 (by omega)]; rfl⟩ rfl
    · have p_c4 := cmp_eql_t h_c4
      refine wc_true rfl ?_
      refine wc_draw [[], [0], [0, 1], [0, 1, 2], [], [0, 1, 2, 3, 4]] [some (.pointer (some ⟨b, 0, none⟩)), some (.pointer (some ⟨b, 0, none⟩)), some (.pointer (some ⟨b, 7, none⟩)), some (.bool s.done), some (.int .i64 8), some (.bool s.done)] [] mixed (by kernel_rfl) (by decide) ⟨rfl, ⟨.inr ⟨_, [.old 0], rfl, rfl, .inl ⟨trivial, do_move rfl⟩⟩, .inr ⟨_, [.op 0], rfl, rfl, .inl ⟨trivial, do_nilCheck rfl⟩⟩, .inr ⟨_, [.op 1], rfl, rfl, .inl ⟨trivial, do_fieldAddr (k := 7) (k' := 7) fo_52_7 rfl (by rfl)⟩⟩, .inr ⟨_, [.op 2], rfl, rfl, .inl ⟨trivial, do_load 0 rfl one_4 rfl rfl⟩⟩, .inr ⟨_, [], rfl, rfl, .inl ⟨trivial, do_assign rfl⟩⟩, .inr ⟨_, [.op 3], rfl, rfl, .inl ⟨trivial, do_assign rfl⟩⟩, trivial⟩, [.op 4, .op 5, .old 1, .old 4], [(5, .int .i64 8), (6, .bool s.done), (1, .slice (some ⟨gs, 0, none⟩) 1 1), (4, .int .i64 0)], rfl, rfl, ?_⟩
      refine at_then ?_
      refine wc_seq ?_
      refine wc_seq ?_
      refine wc_region ?_
      refine wl_1 trivial rfl (do_move rfl) ?_
      refine wl_1 trivial rfl (do_lenSlice rfl isSlice_147 rfl) ?_
      refine wl_1 trivial rfl (do_move rfl) ?_
      refine wl_nil ?_
      refine at_then ?_
      refine wc_block ?_
      refine wc_rounds 1 ?_
      refine wc_seq ?_
      refine wc_region ?_
      refine wl_1 trivial rfl (do_cmp (c := true) rfl rfl rfl) ?_
      refine wl_nil ?_
      refine at_then ?_
      refine wc_seq ?_
      refine wc_true rfl ?_
      refine wc_skip ?_
      refine at_then ?_
      refine wc_seq ?_
      refine wc_block ?_
      refine wc_seq ?_
      refine wc_region ?_
      refine wl_1 trivial rfl (do_indexAddr (j := 0) (p := 0) und_147 ty_1 rfl rfl rfl (by decide) rfl) ?_
      refine wl_1 trivial rfl (do_load 4 rfl one_1 rfl rfl) ?_
      refine wl_1 trivial rfl (do_assign rfl) ?_
      refine wl_nil ?_
      refine at_then ?_
      refine wc_seq ?_
      refine wc_region ?_
      refine wl_1 trivial rfl (do_move rfl) ?_
      refine wl_nil ?_
      refine at_then ?_
      cases hb7 : s.done
      · skip
        refine wc_false rfl ?_
        refine wc_skip ?_
        refine at_block ?_
        refine at_then ?_
        refine wc_region ?_
        refine wl_1 trivial rfl (do_add (r := 1) rfl rfl rfl) ?_
        refine wl_1 trivial rfl (do_move rfl) ?_
        refine wl_nil ?_
        refine at_rounds ?_
        refine wc_seq ?_
        refine wc_region ?_
        refine wl_1 trivial rfl (do_cmp (c := false) rfl rfl rfl) ?_
        refine wl_nil ?_
        refine at_then ?_
        refine wc_seq ?_
        refine wc_false rfl ?_
        refine wc_exit ?_
        refine at_then_exit ?_
        refine at_then_exit ?_
        refine at_block_it ?_
        refine at_then ?_
        refine wc_seq ?_
        refine wc_region ?_
        refine wl_1 trivial rfl (do_move rfl) ?_
        refine wl_1 trivial rfl (do_assign rfl) ?_
        refine wl_nil ?_
        refine at_then ?_
        refine wc_ret ?_
        refine at_pick (M := [_, _, _, _, _, _]) [0, 1, 2, 3, 7, 8] ⟨rfl, rfl, rfl, rfl, rfl, rfl, trivial⟩ (by decide) ?_
        exact at_ret1 (M := [_, _, _, _, _]) rfl rfl ⟨v, lv, by rw [doS_1f (by omega) hb7], by rw [doS_1f (by omega) hb7]; rfl⟩ rfl
      · skip
        refine wc_true rfl ?_
        refine wc_region ?_
        refine wl_1 trivial rfl (do_move rfl) ?_
        refine wl_do trivial rfl (do_callv (vs := []) rfl (del1_new B b r v lv (⟨s.objs, s.chg, s.most, s.lag, s.now, s.calls + 1, s.count - 1, true⟩ : SS) g0 g1 key R hcg hkeys hth) rfl trivial enters_70 [0, 1, 2, 3, 5, 6, 7] [4, 8] ⟨rfl, rfl, rfl, rfl, rfl, rfl, rfl, trivial⟩ ⟨rfl, rfl, trivial⟩ (R := [_, _]) (by decide)) ?_
        rintro _ _ ⟨_, ⟨v8, l9, rfl, rfl⟩, rfl⟩
        refine wl_nil ?_
        refine at_block ?_
        refine at_then ?_
        refine wc_region ?_
        refine wl_1 trivial rfl (do_add (r := 1) rfl rfl rfl) ?_
        refine wl_1 trivial rfl (do_move rfl) ?_
        refine wl_nil ?_
        refine at_rounds ?_
        refine wc_seq ?_
        refine wc_region ?_
        refine wl_1 trivial rfl (do_cmp (c := false) rfl rfl rfl) ?_
        refine wl_nil ?_
        refine at_then ?_
        refine wc_seq ?_
        refine wc_false rfl ?_
        refine wc_exit ?_
        refine at_then_exit ?_
        refine at_then_exit ?_
        refine at_block_it ?_
        refine at_then ?_
        refine wc_seq ?_
        refine wc_region ?_
        refine wl_1 trivial rfl (do_move rfl) ?_
        refine wl_1 trivial rfl (do_assign rfl) ?_
        refine wl_nil ?_
        refine at_then ?_
        refine wc_ret ?_
        refine at_pick (M := [_, _, _, _, _, _]) [0, 1, 2, 3, 6, 8] ⟨rfl, rfl, rfl, rfl, rfl, rfl, trivial⟩ (by decide) ?_
        exact at_ret1 (M := [_, _, _, _, _]) rfl rfl ⟨v8, l9, by rw [doS_1t (by omega) hb7], by rw [doS_1t (by omega) hb7]; rfl⟩ rfl

theorem call_del (B : Ctx) (b r : Nat) (v : Value) (lv : List (ByteArray × Value)) (s : SS) (gs g0 g1 : Nat) (key : ByteArray) (R : Assn) (hok : SOk s) (hcl : s.calls ≤ 1099511627776) (hcg : s.chg.length ≤ 1099511627776) (hkeys : akeys lv = akeys s.objs) :
    Tri Try.prog B 61 #[.pointer (some ⟨b, 0, none⟩), .slice (some ⟨gs, 0, none⟩) 1 1] [pt b (.cells #[.map (some r), v, .int .i64 s.most, .int .i64 s.lag, .int .i64 s.now, .int .i64 s.calls, .int .i64 s.count, .bool s.done] 52 (0, 0)), mapA encS r lv, row 113 3 v s.chg.length (chgCells s.chg), valsA B lv s.objs, pt gs (.cells #[.func (.func 70) #[] #[.pointer (some ⟨g0, 0, none⟩), .pointer (some ⟨g1, 0, none⟩)]] 1 (0, 0)), pt g0 (.cells #[.pointer (some ⟨b, 0, none⟩)] 23 (0, 0)), pt g1 (.cells #[.string key] 9 (0, 0)), R] (fun u M => ∃ v' lv', u = .int .i64 (doS (delO key) s).1 ∧ M = SL B b r v' lv' (doS (delO key) s).2 ++ [R]) := by
  cases hth : aget s.objs key with
  | none => exact call_del_new B b r v lv s gs g0 g1 key R hok hcl hcg hkeys hth
  | some bs' => exact call_del_old B b r v lv s gs g0 g1 key R hok hcl hcg hkeys bs' hth
end Go.Proofs.Ytmefejfnddcelaa
