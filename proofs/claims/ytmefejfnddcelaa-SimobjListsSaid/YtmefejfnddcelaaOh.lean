/- Printed by gen/simobj.py for this claim: what each of these functions of the program does, as its theorem says. No condition but what stands in each theorem. -/
import Derived.Test.YtmefejfnddcelaaOg
namespace Go.Proofs.Ytmefejfnddcelaa
theorem zero_4 : zeroOk Try.prog 4 (.bool false) := zero_mk (by kernel_rfl)
theorem zs_1_1 : ((Array.range (1 * 1)).map ((.nilFunc : Value).cells[· % (.nilFunc : Value).cells.size]!)) = #[.nilFunc] := by kernel_rfl
set_option maxRecDepth 100000 in
set_option maxHeartbeats 8000000 in
theorem put_tri (B : Ctx) (b r : Nat) (v : Value) (lv : List (ByteArray × Value)) (s : SS) (key : ByteArray) (a : Option Addr) (cap : Nat) (bs : List UInt8) (R : Assn) (hok : SOk s) (hcl : s.calls ≤ 1099511627776) (hcg : s.chg.length ≤ 1099511627776) (hks : key.size ≤ 9223372036854775807) (hR : Rd B R 1 (.slice a bs.length cap) bs.length (byv bs)) :
    Tri Try.prog B 21 #[.pointer (some ⟨b, 0, none⟩), .string key, .slice a bs.length cap] [pt b (.cells #[.map (some r), v, .int .i64 s.most, .int .i64 s.lag, .int .i64 s.now, .int .i64 s.calls, .int .i64 s.count, .bool s.done] 52 (0, 0)), mapA encS r lv, row 113 3 v s.chg.length (chgCells s.chg), valsA B lv s.objs, R] (fun u M => ∃ v' lv', u = .int .i64 (putS key bs s).1 ∧ M = SL B b r v' lv' (putS key bs s).2 ++ [R]) := by
  refine tri_pure (φ := akeys lv = akeys s.objs) 3 rfl vals_fact fun hkeys => ?_
  refine tri_body (n := 48) Try.func21 rfl rfl rfl ?_
  intro F
  show WC _ _ _ _ _ _ _ [(0, .pointer (some ⟨b, 0, none⟩)), (1, .string key), (2, .slice a bs.length cap)] [pt b (.cells #[.map (some r), v, .int .i64 s.most, .int .i64 s.lag, .int .i64 s.now, .int .i64 s.calls, .int .i64 s.count, .bool s.done] 52 (0, 0)), mapA encS r lv, row 113 3 v s.chg.length (chgCells s.chg), valsA B lv s.objs, R, F]
  have hok0 := hok
  obtain ⟨hn0, hn1, hl0, hl1, hc0, hk0, hk1, hv1, hm0, hm1⟩ := hok
  refine wc_seq ?_
  refine wc_region ?_
  refine wl_do trivial rfl (do_box rfl rfl) ?_
  rintro _ _ ⟨b1, rfl, rfl⟩
  refine wl_do trivial rfl (do_box rfl rfl) ?_
  rintro _ _ ⟨b2, rfl, rfl⟩
  refine wl_do trivial rfl (do_box rfl rfl) ?_
  rintro _ _ ⟨b3, rfl, rfl⟩
  refine wl_1 trivial rfl (do_assign rfl) ?_
  refine wl_nil ?_
  refine at_then ?_
  refine wc_seq ?_
  refine wc_seq ?_
  refine wc_region ?_
  refine wl_1 trivial rfl (do_load 2 rfl one_23 rfl rfl) ?_
  refine wl_do trivial rfl (do_call (none_made B b r v s.most s.lag s.now s.calls s.count s.done) ⟨rfl, trivial⟩ enters_59 [3] [0, 1, 2, 4, 5, 6, 7, 8] ⟨rfl, trivial⟩ ⟨rfl, rfl, rfl, rfl, rfl, rfl, rfl, rfl, trivial⟩ (R := [_, _, _, _, _, _, _, _]) (by decide)) ?_
  rintro _ _ ⟨_, ⟨rfl, rfl⟩, rfl⟩
  refine wl_1 trivial rfl (do_move rfl) ?_
  refine wl_1 ⟨_, rfl, rfl⟩ rfl (do_load 2 rfl one_9 rfl rfl) ?_
  obtain ⟨c4, h_c4⟩ : ∃ c : Bool, strB .eql (key : ByteArray).toList (⟨#[]⟩ : ByteArray).toList = some c := ⟨_, rfl⟩
  refine wl_1 ⟨_, rfl, rfl⟩ rfl (do_strcmp rfl rfl h_c4) ?_
  refine wl_1 trivial rfl (do_pickF rfl rfl) ?_
  refine wl_1 trivial rfl (do_move rfl) ?_
  cases c4
  · have p_c4 := str_eql_f h_c4
    refine wl_1 ⟨_, rfl, rfl⟩ rfl (do_load 2 rfl one_9 rfl rfl) ?_
    refine wl_do ⟨_, rfl, rfl⟩ rfl (do_call (fine_tri B key (by omega)) ⟨rfl, trivial⟩ enters_60 [] [0, 1, 2, 3, 4, 5, 6, 7, 8] trivial ⟨rfl, rfl, rfl, rfl, rfl, rfl, rfl, rfl, rfl, trivial⟩ (R := [_, _, _, _, _, _, _, _, _]) (by decide)) ?_
    rintro _ _ ⟨_, ⟨rfl, rfl⟩, rfl⟩
    refine wl_1 ⟨_, rfl, rfl⟩ rfl (do_not (c := (fineB key)) rfl) ?_
    refine wl_1 trivial rfl (do_pickF rfl rfl) ?_
    refine wl_nil ?_
    refine at_then ?_
    cases hb5 : (fineB key)
    · skip
      refine wc_true rfl ?_
      refine wc_seq ?_
      refine wc_region ?_
      refine wl_1 trivial rfl (do_assign rfl) ?_
      refine wl_nil ?_
      refine at_then ?_
      refine wc_ret ?_
      refine at_then_ret ?_
      refine at_pick (M := [_, _, _, _, _, _]) [0, 4, 5, 6, 7, 8] ⟨rfl, rfl, rfl, rfl, rfl, rfl, trivial⟩ (by decide) ?_
      exact at_ret1 (M := [_, _, _, _, _]) rfl rfl ⟨v, lv, by rw [putS_bad (by first | exact badK_1 ‹_› | exact badK_2 ‹_›)], by rw [putS_bad (by first | exact badK_1 ‹_› | exact badK_2 ‹_›)]; rfl⟩ rfl
    · skip
      refine wc_false rfl ?_
      refine wc_skip ?_
      refine at_then ?_
      refine wc_seq ?_
      rcases hg6 : aget lv key with _ | v7
      · skip
        refine wc_draw [[], [0], [0, 1], [0, 1, 2], [], [0, 1, 2, 3, 4], [0, 1, 2, 3, 4, 5], [0, 1, 2, 3, 4, 5, 6], [0, 1, 2, 3, 4, 5, 6], [], [0, 1, 2, 3, 4, 5, 6, 7, 9], [0, 1, 2, 3, 4, 5, 6, 7, 8, 9, 10]] [some (.pointer (some ⟨b, 0, none⟩)), some (.pointer (some ⟨b, 0, none⟩)), some (.pointer (some ⟨b, 0, none⟩)), some (.map (some r)), some (.string key), some (.tuple #[.slice none 0 0, .bool false]), some (.tuple #[.slice none 0 0, .bool false]), some (.slice none 0 0), some (.bool false), none, none, none] [9, 11] mixed (by kernel_rfl) (by decide) ⟨rfl, rfl, ⟨.inr ⟨_, [.old 3], rfl, rfl, .inl ⟨trivial, do_load 3 rfl one_23 rfl rfl⟩⟩, .inr ⟨_, [.op 0], rfl, rfl, .inl ⟨trivial, do_nilCheck rfl⟩⟩, .inr ⟨_, [.op 1], rfl, rfl, .inl ⟨trivial, do_fieldAddr (k := 0) (k' := 0) fo_52_0 rfl (by rfl)⟩⟩, .inr ⟨_, [.op 2], rfl, rfl, .inl ⟨trivial, do_load 0 rfl one_49 rfl rfl⟩⟩, .inr ⟨_, [.old 4], rfl, rfl, .inl ⟨trivial, do_load 2 rfl one_9 rfl rfl⟩⟩, .inr ⟨_, [.op 3, .op 4], rfl, rfl, .inl ⟨trivial, do_lookup2N und_49 key_9 zero_32 4 rfl rfl rfl hg6⟩⟩, .inr ⟨_, [.op 5], rfl, rfl, .inl ⟨trivial, do_move rfl⟩⟩, .inr ⟨_, [.op 6], rfl, rfl, .inl ⟨trivial, do_extract rfl rfl⟩⟩, .inr ⟨_, [.op 6], rfl, rfl, .inl ⟨trivial, do_extract rfl rfl⟩⟩, trivial⟩, _, [], _, rfl, rfl, trivial, do_alloc zero_4 rfl, ?_⟩
        rintro _ _ ⟨b8, rfl, rfl⟩
        refine ⟨[some (.pointer (some ⟨b, 0, none⟩)), some (.pointer (some ⟨b, 0, none⟩)), some (.pointer (some ⟨b, 0, none⟩)), some (.map (some r)), some (.string key), some (.tuple #[.slice none 0 0, .bool false]), some (.tuple #[.slice none 0 0, .bool false]), some (.slice none 0 0), some (.bool false), some (.pointer (some ⟨b8, 0, none⟩)), some (.slice none 0 0), none], more_mk ⟨rfl, rfl, rfl, rfl, rfl, rfl, rfl, rfl, rfl, trivial⟩ rfl, ?_⟩
        refine ⟨rfl, rfl, ⟨.inr ⟨_, [.old 3], rfl, rfl, .inl ⟨trivial, do_load 4 rfl one_23 rfl rfl⟩⟩, .inr ⟨_, [.op 0], rfl, rfl, .inl ⟨trivial, do_nilCheck rfl⟩⟩, .inr ⟨_, [.op 1], rfl, rfl, .inl ⟨trivial, do_fieldAddr (k := 0) (k' := 0) fo_52_0 rfl (by rfl)⟩⟩, .inr ⟨_, [.op 2], rfl, rfl, .inl ⟨trivial, do_load 1 rfl one_49 rfl rfl⟩⟩, .inr ⟨_, [.old 4], rfl, rfl, .inl ⟨trivial, do_load 3 rfl one_9 rfl rfl⟩⟩, .inr ⟨_, [.op 3, .op 4], rfl, rfl, .inl ⟨trivial, do_lookup2N und_49 key_9 zero_32 5 rfl rfl rfl hg6⟩⟩, .inr ⟨_, [.op 5], rfl, rfl, .inl ⟨trivial, do_move rfl⟩⟩, .inr ⟨_, [.op 6], rfl, rfl, .inl ⟨trivial, do_extract rfl rfl⟩⟩, .inr ⟨_, [.op 6], rfl, rfl, .inl ⟨trivial, do_extract rfl rfl⟩⟩, .inl rfl, .inr ⟨_, [.op 7], rfl, rfl, .inl ⟨trivial, do_assign rfl⟩⟩, trivial⟩, _, [.op 9, .op 8], _, rfl, rfl, trivial, do_store (L1 := []) rfl rfl one_4 rfl rfl (cs' := #[.bool false]) rfl, ?_⟩
        rintro _ _ ⟨rfl, rfl⟩
        refine ⟨[some (.pointer (some ⟨b, 0, none⟩)), some (.pointer (some ⟨b, 0, none⟩)), some (.pointer (some ⟨b, 0, none⟩)), some (.map (some r)), some (.string key), some (.tuple #[.slice none 0 0, .bool false]), some (.tuple #[.slice none 0 0, .bool false]), some (.slice none 0 0), some (.bool false), some (.pointer (some ⟨b8, 0, none⟩)), some (.slice none 0 0), some (undef)], more_mk ⟨rfl, rfl, rfl, rfl, rfl, rfl, rfl, rfl, rfl, rfl, rfl, trivial⟩ rfl, ?_⟩
        refine ⟨rfl, ⟨.inl rfl, .inl rfl, .inl rfl, .inl rfl, .inl rfl, .inl rfl, .inl rfl, .inl rfl, .inl rfl, .inl rfl, .inl rfl, .inl rfl, trivial⟩, [.op 9, .old 3, .old 4, .old 5, .old 6], [(8, .pointer (some ⟨b8, 0, none⟩)), (3, .pointer (some ⟨b1, 0, none⟩)), (4, .pointer (some ⟨b2, 0, none⟩)), (5, .pointer (some ⟨b3, 0, none⟩)), (6, .int .i64 0)], rfl, rfl, ?_⟩
        refine at_then ?_
        refine wc_seq ?_
        refine wc_block ?_
        refine wc_seq ?_
        refine wc_region ?_
        refine wl_1 trivial rfl (do_load 2 rfl one_32 rfl rfl) ?_
        refine wl_1 trivial rfl (do_lenSlice rfl isSlice_32 rfl) ?_
        obtain ⟨c9, h_c9⟩ : ∃ c : Bool, cmpB .gtr ((bs.length : Nat) : Int) 1048576 = some c := ⟨_, rfl⟩
        refine wl_1 trivial rfl (do_cmp rfl rfl h_c9) ?_
        refine wl_1 trivial rfl (do_assign rfl) ?_
        refine wl_nil ?_
        refine at_then ?_
        cases c9
        · have p_c9 := cmp_gtr_f h_c9
          refine wc_false rfl ?_
          refine wc_seq ?_
          refine wc_region ?_
          refine wl_1 trivial rfl (do_load 0 rfl one_4 rfl rfl) ?_
          refine wl_1 trivial rfl (do_not (c := false) rfl) ?_
          refine wl_1 trivial rfl (do_move rfl) ?_
          refine wl_1 ⟨_, rfl, rfl⟩ rfl (do_load 4 rfl one_23 rfl rfl) ?_
          refine wl_1 ⟨_, rfl, rfl⟩ rfl (do_nilCheck rfl) ?_
          refine wl_1 ⟨_, rfl, rfl⟩ rfl (do_fieldAddr (k := 0) (k' := 0) fo_52_0 rfl (by rfl)) ?_
          refine wl_1 ⟨_, rfl, rfl⟩ rfl (do_load 1 rfl one_49 rfl rfl) ?_
          refine wl_1 ⟨_, rfl, rfl⟩ rfl (do_lenMapA 5 rfl isMap_49 rfl rfl) ?_
          obtain ⟨c10, h_c10⟩ : ∃ c : Bool, cmpB .geq ((lv.length : Nat) : Int) 4096 = some c := ⟨_, rfl⟩
          refine wl_1 ⟨_, rfl, rfl⟩ rfl (do_cmp rfl rfl h_c10) ?_
          refine wl_1 trivial rfl (do_pickT rfl rfl) ?_
          refine wl_1 trivial rfl (do_assign rfl) ?_
          refine wl_nil ?_
          refine at_then ?_
          cases c10
          · have p_c10 := cmp_geq_f h_c10
            refine wc_false rfl ?_
            refine wc_skip ?_
            refine at_block ?_
            refine at_then ?_
            refine wc_seq ?_
            refine wc_region ?_
            refine wl_1 trivial rfl (do_load 4 rfl one_23 rfl rfl) ?_
            refine wl_1 trivial rfl (do_makeFunc (vs := []) (us := [.pointer (some ⟨b3, 0, none⟩), .pointer (some ⟨b1, 0, none⟩), .pointer (some ⟨b2, 0, none⟩), .pointer (some ⟨b8, 0, none⟩)]) trivial ⟨rfl, rfl, rfl, rfl, trivial⟩) ?_
            refine wl_do trivial rfl (do_buildSlice (ps := [(0, .func (.func 69) #[] #[.pointer (some ⟨b3, 0, none⟩), .pointer (some ⟨b1, 0, none⟩), .pointer (some ⟨b2, 0, none⟩), .pointer (some ⟨b8, 0, none⟩)])]) ⟨rfl, rfl, trivial⟩ (bslice_mk zs_1_1 und_147 ty_1 (by decide) (by decide) rfl)) ?_
            rintro _ _ ⟨b11, rfl, rfl⟩
            refine wl_do trivial rfl (do_call (call_put_new B b r v lv s b11 b3 b1 b2 b8 key a cap bs R hok0 hcl hcg hkeys (aget_none2 hkeys hg6) hR (by omega)) ⟨rfl, rfl, trivial⟩ enters_61 [2, 6, 7, 8, 0, 3, 5, 4, 1, 9] [10] ⟨rfl, rfl, rfl, rfl, rfl, rfl, rfl, rfl, rfl, rfl, trivial⟩ ⟨rfl, trivial⟩ (R := [_]) (by decide)) ?_
            rintro _ _ ⟨_, ⟨v12, l13, rfl, rfl⟩, rfl⟩
            refine wl_1 trivial rfl (do_assign rfl) ?_
            refine wl_nil ?_
            refine at_then ?_
            refine wc_ret ?_
            exact at_ret1 (M := [_, _, _, _, _]) rfl rfl ⟨v12, l13, by rw [putS_new (badK_0 ‹_› ‹_›) (by omega) (by have := len_same hkeys; omega)], by rw [putS_new (badK_0 ‹_› ‹_›) (by omega) (by have := len_same hkeys; omega)]; rfl⟩ rfl
          · have p_c10 := cmp_geq_t h_c10
            refine wc_true rfl ?_
            refine wc_seq ?_
            refine wc_region ?_
            refine wl_1 trivial rfl (do_assign rfl) ?_
            refine wl_nil ?_
            refine at_then ?_
            refine wc_ret ?_
            refine at_block_ret ?_
            refine at_then_ret ?_
            refine at_pick (M := [_, _, _, _, _, _]) [1, 5, 6, 7, 8, 9] ⟨rfl, rfl, rfl, rfl, rfl, rfl, trivial⟩ (by decide) ?_
            exact at_ret1 (M := [_, _, _, _, _]) rfl rfl ⟨v, lv, by rw [putS_full (badK_0 ‹_› ‹_›) (by omega) (aget_none2 hkeys ‹_›) (by have := len_same hkeys; omega)], by rw [putS_full (badK_0 ‹_› ‹_›) (by omega) (aget_none2 hkeys ‹_›) (by have := len_same hkeys; omega)]; rfl⟩ rfl
        · have p_c9 := cmp_gtr_t h_c9
          refine wc_true rfl ?_
          refine wc_seq ?_
          refine wc_region ?_
          refine wl_1 trivial rfl (do_assign rfl) ?_
          refine wl_nil ?_
          refine at_then ?_
          refine wc_ret ?_
          refine at_block_ret ?_
          refine at_then_ret ?_
          refine at_pick (M := [_, _, _, _, _, _]) [1, 5, 6, 7, 8, 9] ⟨rfl, rfl, rfl, rfl, rfl, rfl, trivial⟩ (by decide) ?_
          exact at_ret1 (M := [_, _, _, _, _]) rfl rfl ⟨v, lv, by rw [putS_size (badK_0 ‹_› ‹_›) (by omega)], by rw [putS_size (badK_0 ‹_› ‹_›) (by omega)]; rfl⟩ rfl
      · skip
        obtain ⟨bsv7, hbv7⟩ := aget_some2 hkeys hg6
        refine wc_draw [[], [0], [0, 1], [0, 1, 2], [], [0, 1, 2, 3, 4], [0, 1, 2, 3, 4, 5], [0, 1, 2, 3, 4, 5, 6], [0, 1, 2, 3, 4, 5, 6], [], [0, 1, 2, 3, 4, 5, 6, 7, 9], [0, 1, 2, 3, 4, 5, 6, 7, 8, 9, 10]] [some (.pointer (some ⟨b, 0, none⟩)), some (.pointer (some ⟨b, 0, none⟩)), some (.pointer (some ⟨b, 0, none⟩)), some (.map (some r)), some (.string key), some (.tuple #[v7, .bool true]), some (.tuple #[v7, .bool true]), some (v7), some (.bool true), none, none, none] [9, 11] mixed (by kernel_rfl) (by decide) ⟨rfl, rfl, ⟨.inr ⟨_, [.old 3], rfl, rfl, .inl ⟨trivial, do_load 3 rfl one_23 rfl rfl⟩⟩, .inr ⟨_, [.op 0], rfl, rfl, .inl ⟨trivial, do_nilCheck rfl⟩⟩, .inr ⟨_, [.op 1], rfl, rfl, .inl ⟨trivial, do_fieldAddr (k := 0) (k' := 0) fo_52_0 rfl (by rfl)⟩⟩, .inr ⟨_, [.op 2], rfl, rfl, .inl ⟨trivial, do_load 0 rfl one_49 rfl rfl⟩⟩, .inr ⟨_, [.old 4], rfl, rfl, .inl ⟨trivial, do_load 2 rfl one_9 rfl rfl⟩⟩, .inr ⟨_, [.op 3, .op 4], rfl, rfl, .inl ⟨trivial, do_lookup2S und_49 key_9 zero_32 4 rfl rfl rfl hg6⟩⟩, .inr ⟨_, [.op 5], rfl, rfl, .inl ⟨trivial, do_move rfl⟩⟩, .inr ⟨_, [.op 6], rfl, rfl, .inl ⟨trivial, do_extract rfl rfl⟩⟩, .inr ⟨_, [.op 6], rfl, rfl, .inl ⟨trivial, do_extract rfl rfl⟩⟩, trivial⟩, _, [], _, rfl, rfl, trivial, do_alloc zero_4 rfl, ?_⟩
        rintro _ _ ⟨b14, rfl, rfl⟩
        refine ⟨[some (.pointer (some ⟨b, 0, none⟩)), some (.pointer (some ⟨b, 0, none⟩)), some (.pointer (some ⟨b, 0, none⟩)), some (.map (some r)), some (.string key), some (.tuple #[v7, .bool true]), some (.tuple #[v7, .bool true]), some (v7), some (.bool true), some (.pointer (some ⟨b14, 0, none⟩)), some (v7), none], more_mk ⟨rfl, rfl, rfl, rfl, rfl, rfl, rfl, rfl, rfl, trivial⟩ rfl, ?_⟩
        refine ⟨rfl, rfl, ⟨.inr ⟨_, [.old 3], rfl, rfl, .inl ⟨trivial, do_load 4 rfl one_23 rfl rfl⟩⟩, .inr ⟨_, [.op 0], rfl, rfl, .inl ⟨trivial, do_nilCheck rfl⟩⟩, .inr ⟨_, [.op 1], rfl, rfl, .inl ⟨trivial, do_fieldAddr (k := 0) (k' := 0) fo_52_0 rfl (by rfl)⟩⟩, .inr ⟨_, [.op 2], rfl, rfl, .inl ⟨trivial, do_load 1 rfl one_49 rfl rfl⟩⟩, .inr ⟨_, [.old 4], rfl, rfl, .inl ⟨trivial, do_load 3 rfl one_9 rfl rfl⟩⟩, .inr ⟨_, [.op 3, .op 4], rfl, rfl, .inl ⟨trivial, do_lookup2S und_49 key_9 zero_32 5 rfl rfl rfl hg6⟩⟩, .inr ⟨_, [.op 5], rfl, rfl, .inl ⟨trivial, do_move rfl⟩⟩, .inr ⟨_, [.op 6], rfl, rfl, .inl ⟨trivial, do_extract rfl rfl⟩⟩, .inr ⟨_, [.op 6], rfl, rfl, .inl ⟨trivial, do_extract rfl rfl⟩⟩, .inl rfl, .inr ⟨_, [.op 7], rfl, rfl, .inl ⟨trivial, do_assign rfl⟩⟩, trivial⟩, _, [.op 9, .op 8], _, rfl, rfl, trivial, do_store (L1 := []) rfl rfl one_4 rfl rfl (cs' := #[.bool true]) rfl, ?_⟩
        rintro _ _ ⟨rfl, rfl⟩
        refine ⟨[some (.pointer (some ⟨b, 0, none⟩)), some (.pointer (some ⟨b, 0, none⟩)), some (.pointer (some ⟨b, 0, none⟩)), some (.map (some r)), some (.string key), some (.tuple #[v7, .bool true]), some (.tuple #[v7, .bool true]), some (v7), some (.bool true), some (.pointer (some ⟨b14, 0, none⟩)), some (v7), some (undef)], more_mk ⟨rfl, rfl, rfl, rfl, rfl, rfl, rfl, rfl, rfl, rfl, rfl, trivial⟩ rfl, ?_⟩
        refine ⟨rfl, ⟨.inl rfl, .inl rfl, .inl rfl, .inl rfl, .inl rfl, .inl rfl, .inl rfl, .inl rfl, .inl rfl, .inl rfl, .inl rfl, .inl rfl, trivial⟩, [.op 9, .old 3, .old 4, .old 5, .old 6], [(8, .pointer (some ⟨b14, 0, none⟩)), (3, .pointer (some ⟨b1, 0, none⟩)), (4, .pointer (some ⟨b2, 0, none⟩)), (5, .pointer (some ⟨b3, 0, none⟩)), (6, .int .i64 0)], rfl, rfl, ?_⟩
        refine at_then ?_
        refine wc_seq ?_
        refine wc_block ?_
        refine wc_seq ?_
        refine wc_region ?_
        refine wl_1 trivial rfl (do_load 2 rfl one_32 rfl rfl) ?_
        refine wl_1 trivial rfl (do_lenSlice rfl isSlice_32 rfl) ?_
        obtain ⟨c15, h_c15⟩ : ∃ c : Bool, cmpB .gtr ((bs.length : Nat) : Int) 1048576 = some c := ⟨_, rfl⟩
        refine wl_1 trivial rfl (do_cmp rfl rfl h_c15) ?_
        refine wl_1 trivial rfl (do_assign rfl) ?_
        refine wl_nil ?_
        refine at_then ?_
        cases c15
        · have p_c15 := cmp_gtr_f h_c15
          refine wc_false rfl ?_
          refine wc_seq ?_
          refine wc_region ?_
          refine wl_1 trivial rfl (do_load 0 rfl one_4 rfl rfl) ?_
          refine wl_1 trivial rfl (do_not (c := true) rfl) ?_
          refine wl_1 trivial rfl (do_move rfl) ?_
          refine wl_no rfl rfl rfl rfl rfl ?_
          refine wl_no rfl rfl rfl rfl rfl ?_
          refine wl_no rfl rfl rfl rfl rfl ?_
          refine wl_no rfl rfl rfl rfl rfl ?_
          refine wl_no rfl rfl rfl rfl rfl ?_
          refine wl_no rfl rfl rfl rfl rfl ?_
          refine wl_1 trivial rfl (do_pickF rfl rfl) ?_
          refine wl_1 trivial rfl (do_assign rfl) ?_
          refine wl_nil ?_
          refine at_then ?_
          refine wc_false rfl ?_
          refine wc_skip ?_
          refine at_block ?_
          refine at_then ?_
          refine wc_seq ?_
          refine wc_region ?_
          refine wl_1 trivial rfl (do_load 4 rfl one_23 rfl rfl) ?_
          refine wl_1 trivial rfl (do_makeFunc (vs := []) (us := [.pointer (some ⟨b3, 0, none⟩), .pointer (some ⟨b1, 0, none⟩), .pointer (some ⟨b2, 0, none⟩), .pointer (some ⟨b14, 0, none⟩)]) trivial ⟨rfl, rfl, rfl, rfl, trivial⟩) ?_
          refine wl_do trivial rfl (do_buildSlice (ps := [(0, .func (.func 69) #[] #[.pointer (some ⟨b3, 0, none⟩), .pointer (some ⟨b1, 0, none⟩), .pointer (some ⟨b2, 0, none⟩), .pointer (some ⟨b14, 0, none⟩)])]) ⟨rfl, rfl, trivial⟩ (bslice_mk zs_1_1 und_147 ty_1 (by decide) (by decide) rfl)) ?_
          rintro _ _ ⟨b16, rfl, rfl⟩
          refine wl_do trivial rfl (do_call (call_put_old B b r v lv s b16 b3 b1 b2 b14 key a cap bs R hok0 hcl hcg hkeys _ hbv7 hR (by omega)) ⟨rfl, rfl, trivial⟩ enters_61 [2, 6, 7, 8, 0, 3, 5, 4, 1, 9] [10] ⟨rfl, rfl, rfl, rfl, rfl, rfl, rfl, rfl, rfl, rfl, trivial⟩ ⟨rfl, trivial⟩ (R := [_]) (by decide)) ?_
          rintro _ _ ⟨_, ⟨v17, l18, rfl, rfl⟩, rfl⟩
          refine wl_1 trivial rfl (do_assign rfl) ?_
          refine wl_nil ?_
          refine at_then ?_
          refine wc_ret ?_
          exact at_ret1 (M := [_, _, _, _, _]) rfl rfl ⟨v17, l18, by rw [putS_old (badK_0 ‹_› ‹_›) (by omega) ‹aget s.objs key = some _›], by rw [putS_old (badK_0 ‹_› ‹_›) (by omega) ‹aget s.objs key = some _›]; rfl⟩ rfl
        · have p_c15 := cmp_gtr_t h_c15
          refine wc_true rfl ?_
          refine wc_seq ?_
          refine wc_region ?_
          refine wl_1 trivial rfl (do_assign rfl) ?_
          refine wl_nil ?_
          refine at_then ?_
          refine wc_ret ?_
          refine at_block_ret ?_
          refine at_then_ret ?_
          refine at_pick (M := [_, _, _, _, _, _]) [1, 5, 6, 7, 8, 9] ⟨rfl, rfl, rfl, rfl, rfl, rfl, trivial⟩ (by decide) ?_
          exact at_ret1 (M := [_, _, _, _, _]) rfl rfl ⟨v, lv, by rw [putS_size (badK_0 ‹_› ‹_›) (by omega)], by rw [putS_size (badK_0 ‹_› ‹_›) (by omega)]; rfl⟩ rfl
  · have p_c4 := str_eql_t h_c4
    refine wl_no rfl rfl rfl rfl rfl ?_
    refine wl_no rfl rfl rfl rfl rfl ?_
    refine wl_no rfl rfl rfl rfl rfl ?_
    refine wl_1 trivial rfl (do_pickT rfl rfl) ?_
    refine wl_nil ?_
    refine at_then ?_
    refine wc_true rfl ?_
    refine wc_seq ?_
    refine wc_region ?_
    refine wl_1 trivial rfl (do_assign rfl) ?_
    refine wl_nil ?_
    refine at_then ?_
    refine wc_ret ?_
    refine at_then_ret ?_
    refine at_pick (M := [_, _, _, _, _, _]) [0, 4, 5, 6, 7, 8] ⟨rfl, rfl, rfl, rfl, rfl, rfl, trivial⟩ (by decide) ?_
    exact at_ret1 (M := [_, _, _, _, _]) rfl rfl ⟨v, lv, by rw [putS_bad (by first | exact badK_1 ‹_› | exact badK_2 ‹_›)], by rw [putS_bad (by first | exact badK_1 ‹_› | exact badK_2 ‹_›)]; rfl⟩ rfl

set_option maxRecDepth 100000 in
set_option maxHeartbeats 8000000 in
theorem del_tri (B : Ctx) (b r : Nat) (v : Value) (lv : List (ByteArray × Value)) (s : SS) (key : ByteArray) (hok : SOk s) (hcl : s.calls ≤ 1099511627776) (hcg : s.chg.length ≤ 1099511627776) (hks : key.size ≤ 9223372036854775807) :
    Tri Try.prog B 22 #[.pointer (some ⟨b, 0, none⟩), .string key] [pt b (.cells #[.map (some r), v, .int .i64 s.most, .int .i64 s.lag, .int .i64 s.now, .int .i64 s.calls, .int .i64 s.count, .bool s.done] 52 (0, 0)), mapA encS r lv, row 113 3 v s.chg.length (chgCells s.chg), valsA B lv s.objs] (fun u M => ∃ v' lv', u = .int .i64 (delS key s).1 ∧ M = SL B b r v' lv' (delS key s).2) := by
  refine tri_pure (φ := akeys lv = akeys s.objs) 3 rfl vals_fact fun hkeys => ?_
  refine tri_body (n := 20) Try.func22 rfl rfl rfl ?_
  intro F
  show WC _ _ _ _ _ _ _ [(0, .pointer (some ⟨b, 0, none⟩)), (1, .string key)] [pt b (.cells #[.map (some r), v, .int .i64 s.most, .int .i64 s.lag, .int .i64 s.now, .int .i64 s.calls, .int .i64 s.count, .bool s.done] 52 (0, 0)), mapA encS r lv, row 113 3 v s.chg.length (chgCells s.chg), valsA B lv s.objs, F]
  have hok0 := hok
  obtain ⟨hn0, hn1, hl0, hl1, hc0, hk0, hk1, hv1, hm0, hm1⟩ := hok
  refine wc_seq ?_
  refine wc_region ?_
  refine wl_do trivial rfl (do_box rfl rfl) ?_
  rintro _ _ ⟨b1, rfl, rfl⟩
  refine wl_do trivial rfl (do_box rfl rfl) ?_
  rintro _ _ ⟨b2, rfl, rfl⟩
  refine wl_1 trivial rfl (do_assign rfl) ?_
  refine wl_nil ?_
  refine at_then ?_
  refine wc_seq ?_
  refine wc_seq ?_
  refine wc_region ?_
  refine wl_1 trivial rfl (do_load 1 rfl one_23 rfl rfl) ?_
  refine wl_do trivial rfl (do_call (none_made B b r v s.most s.lag s.now s.calls s.count s.done) ⟨rfl, trivial⟩ enters_59 [2] [0, 1, 3, 4, 5, 6] ⟨rfl, trivial⟩ ⟨rfl, rfl, rfl, rfl, rfl, rfl, trivial⟩ (R := [_, _, _, _, _, _]) (by decide)) ?_
  rintro _ _ ⟨_, ⟨rfl, rfl⟩, rfl⟩
  refine wl_1 trivial rfl (do_move rfl) ?_
  refine wl_1 ⟨_, rfl, rfl⟩ rfl (do_load 1 rfl one_9 rfl rfl) ?_
  obtain ⟨c3, h_c3⟩ : ∃ c : Bool, strB .eql (key : ByteArray).toList (⟨#[]⟩ : ByteArray).toList = some c := ⟨_, rfl⟩
  refine wl_1 ⟨_, rfl, rfl⟩ rfl (do_strcmp rfl rfl h_c3) ?_
  refine wl_1 trivial rfl (do_pickF rfl rfl) ?_
  refine wl_1 trivial rfl (do_move rfl) ?_
  cases c3
  · have p_c3 := str_eql_f h_c3
    refine wl_1 ⟨_, rfl, rfl⟩ rfl (do_load 1 rfl one_9 rfl rfl) ?_
    refine wl_do ⟨_, rfl, rfl⟩ rfl (do_call (fine_tri B key (by omega)) ⟨rfl, trivial⟩ enters_60 [] [0, 1, 2, 3, 4, 5, 6] trivial ⟨rfl, rfl, rfl, rfl, rfl, rfl, rfl, trivial⟩ (R := [_, _, _, _, _, _, _]) (by decide)) ?_
    rintro _ _ ⟨_, ⟨rfl, rfl⟩, rfl⟩
    refine wl_1 ⟨_, rfl, rfl⟩ rfl (do_not (c := (fineB key)) rfl) ?_
    refine wl_1 trivial rfl (do_pickF rfl rfl) ?_
    refine wl_nil ?_
    refine at_then ?_
    cases hb4 : (fineB key)
    · skip
      refine wc_true rfl ?_
      refine wc_seq ?_
      refine wc_region ?_
      refine wl_1 trivial rfl (do_assign rfl) ?_
      refine wl_nil ?_
      refine at_then ?_
      refine wc_ret ?_
      refine at_then_ret ?_
      refine at_pick (M := [_, _, _, _, _]) [0, 3, 4, 5, 6] ⟨rfl, rfl, rfl, rfl, rfl, trivial⟩ (by decide) ?_
      exact at_ret1 (M := [_, _, _, _]) rfl rfl ⟨v, lv, by rw [delS_bad (by first | exact badK_1 ‹_› | exact badK_2 ‹_›)], by rw [delS_bad (by first | exact badK_1 ‹_› | exact badK_2 ‹_›)]; rfl⟩ rfl
    · skip
      refine wc_false rfl ?_
      refine wc_skip ?_
      refine at_then ?_
      refine wc_seq ?_
      refine wc_region ?_
      refine wl_1 trivial rfl (do_load 2 rfl one_23 rfl rfl) ?_
      refine wl_1 trivial rfl (do_makeFunc (vs := []) (us := [.pointer (some ⟨b1, 0, none⟩), .pointer (some ⟨b2, 0, none⟩)]) trivial ⟨rfl, rfl, trivial⟩) ?_
      refine wl_do trivial rfl (do_buildSlice (ps := [(0, .func (.func 70) #[] #[.pointer (some ⟨b1, 0, none⟩), .pointer (some ⟨b2, 0, none⟩)])]) ⟨rfl, rfl, trivial⟩ (bslice_mk zs_1_1 und_147 ty_1 (by decide) (by decide) rfl)) ?_
      rintro _ _ ⟨b5, rfl, rfl⟩
      refine wl_do trivial rfl (do_call (call_del B b r v lv s b5 b1 b2 key F hok0 hcl hcg hkeys) ⟨rfl, rfl, trivial⟩ enters_61 [1, 4, 5, 6, 0, 3, 2, 7] [] ⟨rfl, rfl, rfl, rfl, rfl, rfl, rfl, rfl, trivial⟩ trivial (R := []) (by decide)) ?_
      rintro _ _ ⟨_, ⟨v6, l7, rfl, rfl⟩, rfl⟩
      refine wl_1 trivial rfl (do_assign rfl) ?_
      refine wl_nil ?_
      refine at_then ?_
      refine wc_ret ?_
      exact at_ret1 (M := [_, _, _, _]) rfl rfl ⟨v6, l7, by rw [delS_ok (badK_0 ‹_› ‹_›)], by rw [delS_ok (badK_0 ‹_› ‹_›)]; rfl⟩ rfl
  · have p_c3 := str_eql_t h_c3
    refine wl_no rfl rfl rfl rfl rfl ?_
    refine wl_no rfl rfl rfl rfl rfl ?_
    refine wl_no rfl rfl rfl rfl rfl ?_
    refine wl_1 trivial rfl (do_pickT rfl rfl) ?_
    refine wl_nil ?_
    refine at_then ?_
    refine wc_true rfl ?_
    refine wc_seq ?_
    refine wc_region ?_
    refine wl_1 trivial rfl (do_assign rfl) ?_
    refine wl_nil ?_
    refine at_then ?_
    refine wc_ret ?_
    refine at_then_ret ?_
    refine at_pick (M := [_, _, _, _, _]) [0, 3, 4, 5, 6] ⟨rfl, rfl, rfl, rfl, rfl, trivial⟩ (by decide) ?_
    exact at_ret1 (M := [_, _, _, _]) rfl rfl ⟨v, lv, by rw [delS_bad (by first | exact badK_1 ‹_› | exact badK_2 ‹_›)], by rw [delS_bad (by first | exact badK_1 ‹_› | exact badK_2 ‹_›)]; rfl⟩ rfl
end Go.Proofs.Ytmefejfnddcelaa
