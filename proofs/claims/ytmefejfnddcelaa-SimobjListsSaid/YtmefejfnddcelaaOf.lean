/- Printed by gen/simobj.py for this claim: what each of these functions of the program does, as its theorem says. No condition but what stands in each theorem. -/
import Derived.Test.YtmefejfnddcelaaOe
namespace Go.Proofs.Ytmefejfnddcelaa
theorem SOk.call {s : SS} (h : SOk s) : SOk (callS s).2.2 := by
  obtain ⟨hn0, hn1, hl0, hl1, hc0, hk0, hk1, hv1, hm0, hm1⟩ := h
  unfold callS
  split
  · split <;> exact ⟨hn0, hn1, hl0, hl1, by show 0 ≤ s.calls + 1; omega, by show 0 ≤ s.count - 1; omega, by show s.count - 1 ≤ _; omega, hv1, hm0, hm1⟩
  · exact ⟨hn0, hn1, hl0, hl1, by show 0 ≤ s.calls + 1; omega, hk0, hk1, hv1, hm0, hm1⟩
theorem callS_objs (s : SS) : (callS s).2.2.objs = s.objs := by unfold callS; split <;> (try split) <;> rfl
theorem callS_chg (s : SS) : (callS s).2.2.chg = s.chg := by unfold callS; split <;> (try split) <;> rfl
theorem callS_calls (s : SS) : (callS s).2.2.calls = s.calls + 1 := by unfold callS; split <;> (try split) <;> rfl
theorem callS_now (s : SS) : (callS s).2.2.now = s.now := by unfold callS; split <;> (try split) <;> rfl
theorem callS_lag (s : SS) : (callS s).2.2.lag = s.lag := by unfold callS; split <;> (try split) <;> rfl
def badK (key : ByteArray) : Prop := key = ⟨#[]⟩ ∨ fineB key = false
instance (key : ByteArray) : Decidable (badK key) := by unfold badK; infer_instance
def getS (key : ByteArray) (s : SS) : Int × List UInt8 × SS :=
  if badK key then (1, [], s) else
  if (callS s).1 = 0 then (match aget s.objs key with | none => (3, [], (callS s).2.2) | some bs => (0, bs, (callS s).2.2)) else ((callS s).1, [], (callS s).2.2)
def putS (key : ByteArray) (bs : List UInt8) (s : SS) : Int × SS :=
  if badK key then (1, s) else if 1048576 < bs.length then (6, s) else if aget s.objs key = none ∧ 4096 ≤ s.objs.length then (7, s) else doS (putO key bs) s
def delS (key : ByteArray) (s : SS) : Int × SS := if badK key then (1, s) else doS (delO key) s
theorem getS_bad {key : ByteArray} {s : SS} (h : badK key) : getS key s = (1, [], s) := by unfold getS; rw [if_pos h]
theorem getS_err {key : ByteArray} {s : SS} (h : ¬ badK key) (h2 : ¬ (callS s).1 = 0) : getS key s = ((callS s).1, [], (callS s).2.2) := by unfold getS; rw [if_neg h, if_neg h2]
theorem getS_none {key : ByteArray} {s : SS} (h : ¬ badK key) (h2 : (callS s).1 = 0) (h3 : (aget (callS s).2.2.objs key).isSome = false) : getS key s = (3, [], (callS s).2.2) := by
  rw [callS_objs] at h3; unfold getS; rw [if_neg h, if_pos h2]; cases hg : aget s.objs key with | none => rfl | some x => rw [hg] at h3; cases h3
theorem getS_some {key : ByteArray} {s : SS} (h : ¬ badK key) (h2 : (callS s).1 = 0) (h3 : (aget (callS s).2.2.objs key).isSome = true) : getS key s = (0, lk (callS s).2.2 key, (callS s).2.2) := by
  unfold lk; rw [callS_objs] at h3 ⊢; unfold getS; rw [if_neg h, if_pos h2]; cases hg : aget s.objs key with | none => rw [hg] at h3; cases h3 | some x => rfl
theorem putS_bad {key : ByteArray} {bs : List UInt8} {s : SS} (h : badK key) : putS key bs s = (1, s) := by unfold putS; rw [if_pos h]
theorem putS_size {key : ByteArray} {bs : List UInt8} {s : SS} (h : ¬ badK key) (h2 : 1048576 < bs.length) : putS key bs s = (6, s) := by unfold putS; rw [if_neg h, if_pos h2]
theorem putS_full {key : ByteArray} {bs : List UInt8} {s : SS} (h : ¬ badK key) (h2 : ¬ 1048576 < bs.length) (h3 : aget s.objs key = none) (h4 : 4096 ≤ s.objs.length) : putS key bs s = (7, s) := by unfold putS; rw [if_neg h, if_neg h2, if_pos ⟨h3, h4⟩]
theorem putS_old {key : ByteArray} {bs bs' : List UInt8} {s : SS} (h : ¬ badK key) (h2 : ¬ 1048576 < bs.length) (h3 : aget s.objs key = some bs') : putS key bs s = doS (putO key bs) s := by unfold putS; rw [if_neg h, if_neg h2, if_neg (by rintro ⟨h4, _⟩; rw [h3] at h4; cases h4)]
theorem putS_new {key : ByteArray} {bs : List UInt8} {s : SS} (h : ¬ badK key) (h2 : ¬ 1048576 < bs.length) (h3 : ¬ 4096 ≤ s.objs.length) : putS key bs s = doS (putO key bs) s := by unfold putS; rw [if_neg h, if_neg h2, if_neg (by rintro ⟨_, h4⟩; exact h3 h4)]
theorem delS_bad {key : ByteArray} {s : SS} (h : badK key) : delS key s = (1, s) := by unfold delS; rw [if_pos h]
theorem delS_ok {key : ByteArray} {s : SS} (h : ¬ badK key) : delS key s = doS (delO key) s := by unfold delS; rw [if_neg h]
theorem badK_1 {key : ByteArray} (h : key = ⟨#[]⟩) : badK key := .inl h
theorem badK_2 {key : ByteArray} (h : fineB key = false) : badK key := .inr h
theorem badK_0 {key : ByteArray} (h : ¬ key = ⟨#[]⟩) (h2 : fineB key = true) : ¬ badK key := by rintro (h3 | h3); exact h h3; rw [h2] at h3; cases h3
theorem enters_60 : Enters Try.prog 60 := enters_of Try.func60 (by kernel_rfl) (by kernel_rfl)
theorem enters_61 : Enters Try.prog 61 := enters_of Try.func61 (by kernel_rfl) (by kernel_rfl)
theorem enters_20 : Enters Try.prog 20 := enters_of Try.func20 (by kernel_rfl) (by kernel_rfl)
set_option maxRecDepth 100000 in
set_option maxHeartbeats 8000000 in
theorem get_tri (B : Ctx) (b r : Nat) (v : Value) (lv : List (ByteArray × Value)) (s : SS) (key : ByteArray) (hok : SOk s) (hcl : s.calls ≤ 1099511627776) (hcg : s.chg.length ≤ 1099511627776) (hks : key.size ≤ 9223372036854775807) :
    Tri Try.prog B 18 #[.pointer (some ⟨b, 0, none⟩), .string key] [pt b (.cells #[.map (some r), v, .int .i64 s.most, .int .i64 s.lag, .int .i64 s.now, .int .i64 s.calls, .int .i64 s.count, .bool s.done] 52 (0, 0)), mapA encS r lv, row 113 3 v s.chg.length (chgCells s.chg), valsA B lv s.objs] (fun u M => ∃ x, u = .tuple #[x, .int .i64 (getS key s).1] ∧ M = SL B b r v lv (getS key s).2.2 ++ [row 5 1 x (getS key s).2.1.length (byv (getS key s).2.1)]) := by
  refine tri_body (n := 34) Try.func18 rfl rfl rfl ?_
  intro F
  show WC _ _ _ _ _ _ _ [(0, .pointer (some ⟨b, 0, none⟩)), (1, .string key)] [pt b (.cells #[.map (some r), v, .int .i64 s.most, .int .i64 s.lag, .int .i64 s.now, .int .i64 s.calls, .int .i64 s.count, .bool s.done] 52 (0, 0)), mapA encS r lv, row 113 3 v s.chg.length (chgCells s.chg), valsA B lv s.objs, F]
  have hok0 := hok
  obtain ⟨hn0, hn1, hl0, hl1, hc0, hk0, hk1, hv1, hm0, hm1⟩ := hok
  have hok1 := hok0.call
  refine wc_seq ?_
  refine wc_region ?_
  refine wl_1 trivial rfl (do_assign rfl) ?_
  refine wl_1 trivial rfl (do_assign rfl) ?_
  refine wl_nil ?_
  refine at_then ?_
  refine wc_seq ?_
  refine wc_seq ?_
  refine wc_region ?_
  refine wl_1 trivial rfl (do_move rfl) ?_
  refine wl_do trivial rfl (do_call (none_made B b r v s.most s.lag s.now s.calls s.count s.done) ⟨rfl, trivial⟩ enters_59 [0] [1, 2, 3, 4] ⟨rfl, trivial⟩ ⟨rfl, rfl, rfl, rfl, trivial⟩ (R := [_, _, _, _]) (by decide)) ?_
  rintro _ _ ⟨_, ⟨rfl, rfl⟩, rfl⟩
  refine wl_1 trivial rfl (do_move rfl) ?_
  refine wl_1 ⟨_, rfl, rfl⟩ rfl (do_move rfl) ?_
  obtain ⟨c1, h_c1⟩ : ∃ c : Bool, strB .eql (key : ByteArray).toList (⟨#[]⟩ : ByteArray).toList = some c := ⟨_, rfl⟩
  refine wl_1 ⟨_, rfl, rfl⟩ rfl (do_strcmp rfl rfl h_c1) ?_
  refine wl_1 trivial rfl (do_pickF rfl rfl) ?_
  refine wl_1 trivial rfl (do_move rfl) ?_
  cases c1
  · have p_c1 := str_eql_f h_c1
    refine wl_1 ⟨_, rfl, rfl⟩ rfl (do_move rfl) ?_
    refine wl_do ⟨_, rfl, rfl⟩ rfl (do_call (fine_tri B key (by omega)) ⟨rfl, trivial⟩ enters_60 [] [0, 1, 2, 3, 4] trivial ⟨rfl, rfl, rfl, rfl, rfl, trivial⟩ (R := [_, _, _, _, _]) (by decide)) ?_
    rintro _ _ ⟨_, ⟨rfl, rfl⟩, rfl⟩
    refine wl_1 ⟨_, rfl, rfl⟩ rfl (do_not (c := (fineB key)) rfl) ?_
    refine wl_1 trivial rfl (do_pickF rfl rfl) ?_
    refine wl_nil ?_
    refine at_then ?_
    cases hb2 : (fineB key)
    · skip
      refine wc_true rfl ?_
      refine wc_seq ?_
      refine wc_region ?_
      refine wl_1 trivial rfl (do_assign rfl) ?_
      refine wl_1 trivial rfl (do_assign rfl) ?_
      refine wl_nil ?_
      refine at_then ?_
      refine wc_ret ?_
      refine at_then_ret ?_
      refine at_mem (L' := [row 5 1 (.slice none 0 0) 0 ([]), pt b (.cells #[.map (some r), v, .int .i64 s.most, .int .i64 s.lag, .int .i64 s.now, .int .i64 s.calls, .int .i64 s.count, .bool s.done] 52 (0, 0)), mapA encS r lv, row 113 3 v s.chg.length (chgCells s.chg), valsA B lv s.objs, F]) (fun w_ h_ => h_.intro row_nil) ?_
      refine at_pick (M := [_, _, _, _, _, _]) [1, 2, 3, 4, 0, 5] ⟨rfl, rfl, rfl, rfl, rfl, rfl, trivial⟩ (by decide) ?_
      exact at_ret2 (M := [_, _, _, _, _]) rfl rfl rfl ⟨_, by rw [getS_bad (by first | exact badK_1 ‹_› | exact badK_2 ‹_›)], by rw [getS_bad (by first | exact badK_1 ‹_› | exact badK_2 ‹_›)]; rfl⟩ rfl
    · skip
      refine wc_false rfl ?_
      refine wc_skip ?_
      refine at_then ?_
      refine wc_seq ?_
      refine wc_seq ?_
      refine wc_region ?_
      refine wl_1 trivial rfl (do_move rfl) ?_
      refine wl_do trivial rfl (do_call (call_none B b r v lv s hok0 hcl hcg) ⟨rfl, rfl, trivial⟩ enters_61 [0, 1, 2, 3] [4] ⟨rfl, rfl, rfl, rfl, trivial⟩ ⟨rfl, trivial⟩ (R := [_]) (by decide)) ?_
      rintro _ _ ⟨_, ⟨rfl, rfl⟩, rfl⟩
      refine wl_1 trivial rfl (do_assign rfl) ?_
      refine wl_nil ?_
      refine at_then ?_
      refine wc_seq ?_
      refine wc_region ?_
      refine wl_1 trivial rfl (do_move rfl) ?_
      obtain ⟨c3, h_c3⟩ : ∃ c : Bool, cmpB .neq ((callS s).1) 0 = some c := ⟨_, rfl⟩
      refine wl_1 trivial rfl (do_cmp rfl rfl h_c3) ?_
      refine wl_nil ?_
      refine at_then ?_
      cases c3
      · have p_c3 := cmp_neq_f h_c3
        refine wc_false rfl ?_
        refine wc_skip ?_
        refine at_then ?_
        refine wc_seq ?_
        refine wc_region ?_
        refine wl_1 trivial rfl (do_move rfl) ?_
        refine wl_1 trivial rfl (do_move rfl) ?_
        refine wl_do trivial rfl (do_call (look_tri B b r v lv (callS s).2.2 key hok1) ⟨rfl, rfl, trivial⟩ enters_20 [0, 1, 2, 3] [4] ⟨rfl, rfl, rfl, rfl, trivial⟩ ⟨rfl, trivial⟩ (R := [_]) (by decide)) ?_
        rintro _ _ ⟨_, ⟨x4, rfl, rfl⟩, rfl⟩
        refine wl_1 trivial rfl (do_move rfl) ?_
        refine wl_1 trivial rfl (do_extract rfl rfl) ?_
        refine wl_1 trivial rfl (do_extract rfl rfl) ?_
        refine wl_1 trivial rfl (do_assign rfl) ?_
        refine wl_1 trivial rfl (do_assign rfl) ?_
        refine wl_nil ?_
        refine at_then ?_
        refine wc_seq ?_
        refine wc_seq ?_
        refine wc_region ?_
        refine wl_1 trivial rfl (do_move rfl) ?_
        refine wl_1 trivial rfl (do_not (c := (aget (callS s).2.2.objs key).isSome) rfl) ?_
        refine wl_nil ?_
        refine at_then ?_
        cases hb5 : (aget (callS s).2.2.objs key).isSome
        · skip
          refine wc_true rfl ?_
          refine wc_seq ?_
          refine wc_region ?_
          refine wl_1 trivial rfl (do_assign rfl) ?_
          refine wl_1 trivial rfl (do_assign rfl) ?_
          refine wl_nil ?_
          refine at_then ?_
          refine wc_ret ?_
          refine at_then_ret ?_
          refine at_mem (L' := [row 5 1 (.slice none 0 0) 0 ([]), pt b (.cells #[.map (some r), v, .int .i64 ((callS s).2.2.most), .int .i64 ((callS s).2.2.lag), .int .i64 ((callS s).2.2.now), .int .i64 ((callS s).2.2.calls), .int .i64 ((callS s).2.2.count), .bool ((callS s).2.2.done)] 52 (0, 0)), mapA encS r lv, row 113 3 v ((callS s).2.2.chg.length) (chgCells ((callS s).2.2.chg)), valsA B lv ((callS s).2.2.objs), row 5 1 x4 ((lk (callS s).2.2 key).length) (byv (lk (callS s).2.2 key)), F]) (fun w_ h_ => h_.intro row_nil) ?_
          refine at_pick (M := [_, _, _, _, _, _]) [1, 2, 3, 4, 0, 6] ⟨rfl, rfl, rfl, rfl, rfl, rfl, trivial⟩ (by decide) ?_
          exact at_ret2 (M := [_, _, _, _, _]) rfl rfl rfl ⟨_, by rw [getS_none (badK_0 ‹_› ‹_›) (by omega) ‹_›], by rw [getS_none (badK_0 ‹_› ‹_›) (by omega) ‹_›]; rfl⟩ rfl
        · skip
          refine wc_false rfl ?_
          refine wc_skip ?_
          refine at_then ?_
          refine wc_seq ?_
          refine wc_region ?_
          refine wl_1 trivial rfl (do_move rfl) ?_
          refine wl_1 trivial rfl (do_assign rfl) ?_
          refine wl_1 trivial rfl (do_assign rfl) ?_
          refine wl_nil ?_
          refine at_then ?_
          refine wc_ret ?_
          exact at_ret2 (M := [_, _, _, _, _]) rfl rfl rfl ⟨_, by rw [getS_some (badK_0 ‹_› ‹_›) (by omega) ‹_›], by rw [getS_some (badK_0 ‹_› ‹_›) (by omega) ‹_›]; rfl⟩ rfl
      · have p_c3 := cmp_neq_t h_c3
        refine wc_true rfl ?_
        refine wc_seq ?_
        refine wc_region ?_
        refine wl_1 trivial rfl (do_move rfl) ?_
        refine wl_1 trivial rfl (do_assign rfl) ?_
        refine wl_1 trivial rfl (do_assign rfl) ?_
        refine wl_nil ?_
        refine at_then ?_
        refine wc_ret ?_
        refine at_then_ret ?_
        refine at_mem (L' := [row 5 1 (.slice none 0 0) 0 ([]), pt b (.cells #[.map (some r), v, .int .i64 ((callS s).2.2.most), .int .i64 ((callS s).2.2.lag), .int .i64 ((callS s).2.2.now), .int .i64 ((callS s).2.2.calls), .int .i64 ((callS s).2.2.count), .bool ((callS s).2.2.done)] 52 (0, 0)), mapA encS r lv, row 113 3 v ((callS s).2.2.chg.length) (chgCells ((callS s).2.2.chg)), valsA B lv ((callS s).2.2.objs), F]) (fun w_ h_ => h_.intro row_nil) ?_
        refine at_pick (M := [_, _, _, _, _, _]) [1, 2, 3, 4, 0, 5] ⟨rfl, rfl, rfl, rfl, rfl, rfl, trivial⟩ (by decide) ?_
        exact at_ret2 (M := [_, _, _, _, _]) rfl rfl rfl ⟨_, by rw [getS_err (badK_0 ‹_› ‹_›) (by omega)], by rw [getS_err (badK_0 ‹_› ‹_›) (by omega)]; rfl⟩ rfl
  · have p_c1 := str_eql_t h_c1
    refine wl_no rfl rfl rfl rfl rfl ?_
    refine wl_no rfl rfl rfl rfl rfl ?_
    refine wl_no rfl rfl rfl rfl rfl ?_
    refine wl_1 trivial rfl (do_pickT rfl rfl) ?_
    refine wl_nil ?_
    refine at_then ?_
    refine wc_true rfl ?_
    refine wc_seq ?_
    refine wc_region ?_
    refine wl_1 trivial rfl (do_assign rfl) ?_
    refine wl_1 trivial rfl (do_assign rfl) ?_
    refine wl_nil ?_
    refine at_then ?_
    refine wc_ret ?_
    refine at_then_ret ?_
    refine at_mem (L' := [row 5 1 (.slice none 0 0) 0 ([]), pt b (.cells #[.map (some r), v, .int .i64 s.most, .int .i64 s.lag, .int .i64 s.now, .int .i64 s.calls, .int .i64 s.count, .bool s.done] 52 (0, 0)), mapA encS r lv, row 113 3 v s.chg.length (chgCells s.chg), valsA B lv s.objs, F]) (fun w_ h_ => h_.intro row_nil) ?_
    refine at_pick (M := [_, _, _, _, _, _]) [1, 2, 3, 4, 0, 5] ⟨rfl, rfl, rfl, rfl, rfl, rfl, trivial⟩ (by decide) ?_
    exact at_ret2 (M := [_, _, _, _, _]) rfl rfl rfl ⟨_, by rw [getS_bad (by first | exact badK_1 ‹_› | exact badK_2 ‹_›)], by rw [getS_bad (by first | exact badK_1 ‹_› | exact badK_2 ‹_›)]; rfl⟩ rfl
end Go.Proofs.Ytmefejfnddcelaa
