/- Printed by gen/simobj.py for this claim: what each of these functions of the program does, as its theorem says. No condition but what stands in each theorem. -/
import Derived.Test.YtmefejfnddcelaaOd
namespace Go.Proofs.Ytmefejfnddcelaa
def lk (s : SS) (key : ByteArray) : List UInt8 := (aget s.objs key).getD []

set_option maxRecDepth 100000 in
set_option maxHeartbeats 8000000 in
theorem look_tri (B : Ctx) (b r : Nat) (v : Value) (lv : List (ByteArray × Value)) (s : SS) (key : ByteArray) (hok : SOk s) :
    Tri Try.prog B 20 #[.pointer (some ⟨b, 0, none⟩), .string key] [pt b (.cells #[.map (some r), v, .int .i64 s.most, .int .i64 s.lag, .int .i64 s.now, .int .i64 s.calls, .int .i64 s.count, .bool s.done] 52 (0, 0)), mapA encS r lv, row 113 3 v s.chg.length (chgCells s.chg), valsA B lv s.objs] (fun u M => ∃ x, u = .tuple #[x, .bool (aget s.objs key).isSome] ∧ M = SL B b r v lv s ++ [row 5 1 x ((lk s key).length) (byv (lk s key))]) := by
  refine tri_pure (φ := akeys lv = akeys s.objs) 3 rfl vals_fact fun hkeys => ?_
  refine tri_body (n := 23) Try.func20 rfl rfl rfl ?_
  intro F
  show WC _ _ _ _ _ _ _ [(0, .pointer (some ⟨b, 0, none⟩)), (1, .string key)] [pt b (.cells #[.map (some r), v, .int .i64 s.most, .int .i64 s.lag, .int .i64 s.now, .int .i64 s.calls, .int .i64 s.count, .bool s.done] 52 (0, 0)), mapA encS r lv, row 113 3 v s.chg.length (chgCells s.chg), valsA B lv s.objs, F]
  obtain ⟨hn0, hn1, hl0, hl1, hc0, hk0, hk1, hv1, hm0, hm1⟩ := hok
  refine wc_seq ?_
  refine wc_region ?_
  refine wl_1 trivial rfl (do_assign rfl) ?_
  refine wl_1 trivial rfl (do_assign rfl) ?_
  refine wl_nil ?_
  refine at_then ?_
  refine wc_seq ?_
  refine wc_seq ?_
  refine wc_region ?_
  refine wl_1 trivial rfl (do_move rfl) ?_
  refine wl_do trivial rfl (do_call (none_made B b r v s.most s.lag s.now s.calls s.count s.done) ⟨rfl, trivial⟩ enters_59 [0] [1, 2, 3, 4] ⟨rfl, trivial⟩ ⟨rfl, rfl, rfl, rfl, trivial⟩ (R := [_, _, _, _]) (by decide)) ?_
  rintro _ _ ⟨_, ⟨rfl, rfl⟩, rfl⟩
  refine wl_nil ?_
  refine at_then ?_
  refine wc_false rfl ?_
  refine wc_skip ?_
  refine at_then ?_
  refine wc_seq ?_
  refine wc_region ?_
  refine wl_1 trivial rfl (do_move rfl) ?_
  refine wl_1 trivial rfl (do_nilCheck rfl) ?_
  refine wl_1 trivial rfl (do_fieldAddr (k := 0) (k' := 0) fo_52_0 rfl (by rfl)) ?_
  refine wl_1 trivial rfl (do_load 0 rfl one_49 rfl rfl) ?_
  refine wl_1 trivial rfl (do_move rfl) ?_
  rcases hg1 : aget lv key with _ | v2
  · skip
    refine wl_1 trivial rfl (do_lookup2N und_49 key_9 zero_32 1 rfl rfl rfl hg1) ?_
    refine wl_1 trivial rfl (do_move rfl) ?_
    refine wl_1 trivial rfl (do_extract rfl rfl) ?_
    refine wl_1 trivial rfl (do_extract rfl rfl) ?_
    refine wl_1 trivial rfl (do_assign rfl) ?_
    refine wl_1 trivial rfl (do_assign rfl) ?_
    refine wl_nil ?_
    refine at_then ?_
    refine wc_seq ?_
    refine wc_seq ?_
    refine wc_region ?_
    refine wl_1 trivial rfl (do_move rfl) ?_
    refine wl_1 trivial rfl (do_not (c := false) rfl) ?_
    refine wl_nil ?_
    refine at_then ?_
    refine wc_true rfl ?_
    refine wc_seq ?_
    refine wc_region ?_
    refine wl_1 trivial rfl (do_assign rfl) ?_
    refine wl_1 trivial rfl (do_assign rfl) ?_
    refine wl_nil ?_
    refine at_then ?_
    refine wc_ret ?_
    refine at_then_ret ?_
    refine at_mem (L' := [row 5 1 (.slice none 0 0) 0 ([]), pt b (.cells #[.map (some r), v, .int .i64 s.most, .int .i64 s.lag, .int .i64 s.now, .int .i64 s.calls, .int .i64 s.count, .bool s.done] 52 (0, 0)), mapA encS r lv, row 113 3 v s.chg.length (chgCells s.chg), valsA B lv s.objs, F]) (fun w_ h_ => h_.intro row_nil) ?_
    refine at_pick (M := [_, _, _, _, _, _]) [1, 2, 3, 4, 0, 5] ⟨rfl, rfl, rfl, rfl, rfl, rfl, trivial⟩ (by decide) ?_
    exact at_ret2 (M := [_, _, _, _, _]) rfl rfl rfl ⟨.slice none 0 0, by simp [aget_none2 hkeys hg1], by simp [lk, aget_none2 hkeys hg1, SL, byv]⟩ rfl
  · skip
    obtain ⟨bsv2, hbv2⟩ := aget_some2 hkeys hg1
    refine wl_1 trivial rfl (do_lookup2S und_49 key_9 zero_32 1 rfl rfl rfl hg1) ?_
    refine wl_1 trivial rfl (do_move rfl) ?_
    refine wl_1 trivial rfl (do_extract rfl rfl) ?_
    refine wl_1 trivial rfl (do_extract rfl rfl) ?_
    refine wl_1 trivial rfl (do_assign rfl) ?_
    refine wl_1 trivial rfl (do_assign rfl) ?_
    refine wl_nil ?_
    refine at_then ?_
    refine wc_seq ?_
    refine wc_seq ?_
    refine wc_region ?_
    refine wl_1 trivial rfl (do_move rfl) ?_
    refine wl_1 trivial rfl (do_not (c := true) rfl) ?_
    refine wl_nil ?_
    refine at_then ?_
    refine wc_false rfl ?_
    refine wc_skip ?_
    refine at_then ?_
    refine wc_seq ?_
    refine wc_region ?_
    refine wl_1 trivial rfl (do_move rfl) ?_
    refine wl_do trivial rfl (do_call (clone_tri B (valsA B lv s.objs) v2 bsv2 (fun h _ hv => vals_get hv hg1 hbv2) (Nat.le_trans (hv1 _ _ hbv2) (by decide))) ⟨rfl, trivial⟩ enters_68 [3] [0, 1, 2, 4] ⟨rfl, trivial⟩ ⟨rfl, rfl, rfl, rfl, trivial⟩ (R := [_, _, _, _]) (by decide)) ?_
    rintro _ _ ⟨_, ⟨x3, rfl, rfl⟩, rfl⟩
    refine wl_1 trivial rfl (do_assign rfl) ?_
    refine wl_1 trivial rfl (do_assign rfl) ?_
    refine wl_nil ?_
    refine at_then ?_
    refine wc_ret ?_
    refine at_pick (M := [_, _, _, _, _, _]) [2, 3, 4, 0, 1, 5] ⟨rfl, rfl, rfl, rfl, rfl, rfl, trivial⟩ (by decide) ?_
    exact at_ret2 (M := [_, _, _, _, _]) rfl rfl rfl ⟨x3, by simp [lk, hbv2], by simp [lk, hbv2, SL]⟩ rfl
end Go.Proofs.Ytmefejfnddcelaa
