/- Printed by gen/simobj.py for this claim: what each of these functions of the program does, as its theorem says. No condition but what stands in each theorem. -/
import Derived.Test.YtmefejfnddcelaaOyb
namespace Go.Proofs.Ytmefejfnddcelaa
theorem und_57 : Try.prog.underlying 57 = some (.map 9 3) := by kernel_rfl
theorem enters_28 : Enters Try.prog 28 := enters_of Try.func28 (by kernel_rfl) (by kernel_rfl)
theorem zero_3 : zeroOk Try.prog 3 (.int .i64 0) := zero_mk (by kernel_rfl)
theorem lag20 (B : Ctx) (b r : Nat) (v : Value) (lv : List (ByteArray × Value)) (k : Int) (h0 : 0 ≤ k) (h1 : k ≤ 20) : Tri Try.prog B 24 #[.pointer (some ⟨b, 0, none⟩), .int .i64 k] [pt b (.cells #[.map (some r), v, .int .i64 kS20.most, .int .i64 kS20.lag, .int .i64 kS20.now, .int .i64 kS20.calls, .int .i64 kS20.count, .bool kS20.done] 52 (0, 0)), mapA encS r lv, row 113 3 v kS20.chg.length (chgCells kS20.chg), valsA B lv kS20.objs] (fun u M => u = .int .i64 0 ∧ M = SL B b r v lv (lagK k)) := by
  refine tri_post (lag_sl B b r v lv kS20 k) ?_
  have h : lagS kS20 k = (0, lagK k) := by unfold lagS; rw [if_pos (show 0 ≤ k ∧ k ≤ kS20.most from ⟨h0, h1⟩)]; rfl
  rintro u M ⟨rfl, rfl⟩
  rw [h]
  exact ⟨rfl, rfl⟩
theorem tick_yes (B : Ctx) (b r : Nat) (v : Value) (lv : List (ByteArray × Value)) (s : SS) (k : Int) (N : Nat) (hst : StOk s N) (hN : N ≤ 1000000) (h0 : 0 ≤ k) (h1 : k ≤ 1073741824) (h2 : s.now + k ≤ 1099511627776) : Tri Try.prog B 23 #[.pointer (some ⟨b, 0, none⟩), .int .i64 k] [pt b (.cells #[.map (some r), v, .int .i64 s.most, .int .i64 s.lag, .int .i64 s.now, .int .i64 s.calls, .int .i64 s.count, .bool s.done] 52 (0, 0)), mapA encS r lv, row 113 3 v s.chg.length (chgCells s.chg), valsA B lv s.objs] (fun u M => u = .int .i64 0 ∧ M = SL B b r v lv (tickT s k)) := by
  refine tri_post (tick_sl B b r v lv s N hst hN k) ?_
  have h : tickS s k = (0, tickT s k) := by unfold tickS; rw [if_pos ⟨h0, h1, h2⟩]; rfl
  rintro u M ⟨rfl, rfl⟩
  rw [h]
  exact ⟨rfl, rfl⟩
theorem list_e (B : Ctx) (b r : Nat) (v : Value) (lv : List (ByteArray × Value)) (s : SS) (N : Nat) (hst : StOk s N) (hN : N ≤ 1000000) : Tri Try.prog B 19 #[.pointer (some ⟨b, 0, none⟩), .string ⟨#[]⟩] [pt b (.cells #[.map (some r), v, .int .i64 s.most, .int .i64 s.lag, .int .i64 s.now, .int .i64 s.calls, .int .i64 s.count, .bool s.done] 52 (0, 0)), mapA encS r lv, row 113 3 v s.chg.length (chgCells s.chg), valsA B lv s.objs] (fun u M => (∃ x, u = .tuple #[x, .int .i64 8] ∧ M = SL B b r v lv (callS s).2.2 ++ [row 9 1 x 0 (([]).map .string)]) ∨ (∃ x, u = .tuple #[x, .int .i64 0] ∧ M = SL B b r v lv (callS s).2.2 ++ [row 9 1 x ((listK kE (callS s).2.2).length) ((listK kE (callS s).2.2).map .string)])) := by
  refine tri_post (list_tri B b r v lv s ⟨#[]⟩ hst.ok (by have := hst.calls1; omega) (by have := hst.chg1; omega) (by decide) (by have := hst.objs1; omega)) ?_
  rintro u M ⟨x, rfl, rfl⟩
  rcases listS_e s with h | h <;> (have h' : listS ⟨#[]⟩ s = _ := h; rw [h'])
  · exact .inl ⟨x, rfl, rfl⟩
  · exact .inr ⟨x, rfl, rfl⟩
theorem list_yes (B : Ctx) (b r : Nat) (v : Value) (lv : List (ByteArray × Value)) (s : SS) (N : Nat) (hst : StOk s N) (hN : N ≤ 1000000) (hc : s.count ≤ 0) : Tri Try.prog B 19 #[.pointer (some ⟨b, 0, none⟩), .string ⟨#[]⟩] [pt b (.cells #[.map (some r), v, .int .i64 s.most, .int .i64 s.lag, .int .i64 s.now, .int .i64 s.calls, .int .i64 s.count, .bool s.done] 52 (0, 0)), mapA encS r lv, row 113 3 v s.chg.length (chgCells s.chg), valsA B lv s.objs] (fun u M => ∃ x, u = .tuple #[x, .int .i64 0] ∧ M = SL B b r v lv (callS s).2.2 ++ [row 9 1 x ((listK kE (callS s).2.2).length) ((listK kE (callS s).2.2).map .string)]) := by
  refine tri_post (list_tri B b r v lv s ⟨#[]⟩ hst.ok (by have := hst.calls1; omega) (by have := hst.chg1; omega) (by decide) (by have := hst.objs1; omega)) ?_
  rintro u M ⟨x, rfl, rfl⟩
  have h' : listS ⟨#[]⟩ s = (0, listK kE (callS s).2.2, (callS s).2.2) := listS_ok (p := kE) (by kernel_rfl) (by rw [callS_0 hc])
  rw [h']
  exact ⟨x, rfl, rfl⟩
theorem texts_same (B : Ctx) (x y : Value) (X Y : List ByteArray) (n : Nat) (h : X = Y) (hX : X.length ≤ 1099511627776) (hn : Y.length = n) : Tri Try.prog B 28 #[x, y] [row 9 1 x X.length (X.map .string), row 9 1 y n (Y.map .string)] (fun u M => u = .bool true ∧ M = [row 9 1 x X.length (X.map .string), row 9 1 y n (Y.map .string)]) := by
  subst hn
  refine tri_post (texts_tri B x y X Y hX (h ▸ hX)) ?_
  rintro u M ⟨rfl, rfl⟩
  exact ⟨by rw [decide_eq_true h], rfl⟩
theorem view_len {s : SS} {N : Nat} (h : StOk s N) (hN : N ≤ 1000000) : (listK kE s).length ≤ 2000000 := by
  unfold listK viewS
  rw [sortB_len]
  have h1 := List.length_filter_le (keepQ kE) (hidF (allT (akeys s.objs)) (hidL s))
  have h2 := hidF_len (m := allT (akeys s.objs)) (l := hidL s)
  have h3 := hid_le s
  have h4 := h.chg1
  have h5 := h.objs1
  simp only [allT, akeys, List.length_map] at h1 h2 ⊢
  omega

set_option maxRecDepth 100000 in
set_option maxHeartbeats 8000000 in
theorem lists_tri (B : Ctx) (a0 : Option Addr) (cap0 b0 off0 : Nat) (ops : List OpR) (lag0 : Int) (hops : ∀ (j : Nat) (o : OpR), ops[j]? = some o → a0 = some ⟨b0, off0, none⟩ ∧ OpB B b0 off0 j o) :
    Tri Try.prog B 6 #[.slice a0 ops.length cap0, .int .i64 lag0] [AnyP] (fun u M => u = .bool true ∧ M = [AnyP]) := by
  refine tri_body (n := 258) Try.func6 rfl rfl rfl ?_
  intro F
  show WC _ _ _ _ _ _ _ [(0, .slice a0 ops.length cap0), (1, .int .i64 lag0)] [AnyP, F]
  refine wc_seq ?_
  refine wc_region ?_
  refine wl_1 trivial rfl (do_assign rfl) ?_
  refine wl_nil ?_
  refine at_then ?_
  refine wc_seq ?_
  refine wc_region ?_
  refine wl_1 trivial rfl (do_move rfl) ?_
  obtain ⟨m1, h_m1⟩ : ∃ r : Int, r = lag0.tmod 20 := ⟨_, rfl⟩
  have l_m1 := rem_rng lag0 20 (by decide)
  rw [← h_m1] at l_m1
  refine wl_1 trivial rfl (do_rem (r := m1) rfl rfl (by decide) h_m1.symm) ?_
  refine wl_1 trivial rfl (do_add (r := m1 + 20) rfl rfl (wrap_i64 (by omega) (by omega))) ?_
  obtain ⟨m2, h_m2⟩ : ∃ r : Int, r = (m1 + 20).tmod 20 := ⟨_, rfl⟩
  have l_m2 := rem_rng (m1 + 20) 20 (by decide)
  rw [← h_m2] at l_m2
  refine wl_1 trivial rfl (do_rem (r := m2) rfl rfl (by decide) h_m2.symm) ?_
  refine wl_1 trivial rfl (do_assign rfl) ?_
  refine wl_nil ?_
  refine at_then ?_
  refine wc_seq ?_
  refine wc_region ?_
  refine wl_do trivial rfl (do_call (k_new20 B) ⟨rfl, trivial⟩ enters_12 [] [0, 1] trivial ⟨rfl, rfl, trivial⟩ (R := [_, _]) (by decide)) ?_
  rintro _ _ ⟨_, ⟨b, r, rfl, rfl⟩, rfl⟩
  refine wl_1 trivial rfl (do_move rfl) ?_
  refine wl_1 trivial rfl (do_extract rfl rfl) ?_
  refine wl_1 trivial rfl (do_extract rfl rfl) ?_
  refine wl_1 trivial rfl (do_assign rfl) ?_
  refine wl_1 trivial rfl (do_assign rfl) ?_
  refine wl_nil ?_
  refine at_then ?_
  refine wc_seq ?_
  refine wc_seq ?_
  refine wc_region ?_
  refine wl_1 trivial rfl (do_move rfl) ?_
  refine wl_do trivial rfl (do_call (num_tri B 0) ⟨rfl, trivial⟩ enters_14 [] [0, 1, 2, 3, 4, 5] trivial ⟨rfl, rfl, rfl, rfl, rfl, rfl, trivial⟩ (R := [_, _, _, _, _, _]) (by decide)) ?_
  rintro _ _ ⟨_, ⟨rfl, rfl⟩, rfl⟩
  refine wl_1 trivial rfl (do_cmp (c := false) rfl rfl rfl) ?_
  refine wl_1 trivial rfl (do_move rfl) ?_
  refine wl_1 ⟨_, rfl, rfl⟩ rfl (do_move rfl) ?_
  refine wl_1 ⟨_, rfl, rfl⟩ rfl (do_eqPtr isPtr_23 rfl rfl (.inr rfl)) ?_
  refine wl_1 trivial rfl (do_pickF rfl rfl) ?_
  refine wl_1 trivial rfl (do_move rfl) ?_
  refine wl_1 ⟨_, rfl, rfl⟩ rfl (do_move rfl) ?_
  refine wl_1 ⟨_, rfl, rfl⟩ rfl (do_move rfl) ?_
  refine wl_do ⟨_, rfl, rfl⟩ rfl (do_call (lag20 B b r (.slice none 0 0) ([]) m2 (by omega) (by omega)) ⟨rfl, rfl, trivial⟩ enters_24 [0, 1, 2, 3] [4, 5] ⟨rfl, rfl, rfl, rfl, trivial⟩ ⟨rfl, rfl, trivial⟩ (R := [_, _]) (by decide)) ?_
  rintro _ _ ⟨_, ⟨rfl, rfl⟩, rfl⟩
  refine wl_do ⟨_, rfl, rfl⟩ rfl (do_call (num_tri B 0) ⟨rfl, trivial⟩ enters_14 [] [0, 1, 2, 3, 4, 5] trivial ⟨rfl, rfl, rfl, rfl, rfl, rfl, trivial⟩ (R := [_, _, _, _, _, _]) (by decide)) ?_
  rintro _ _ ⟨_, ⟨rfl, rfl⟩, rfl⟩
  refine wl_1 ⟨_, rfl, rfl⟩ rfl (do_cmp (c := false) rfl rfl rfl) ?_
  refine wl_1 trivial rfl (do_pickF rfl rfl) ?_
  refine wl_1 trivial rfl (do_move rfl) ?_
  refine wl_do ⟨_, rfl, rfl⟩ rfl (do_call (knows_tri B) trivial enters_15 [] [0, 1, 2, 3, 4, 5] trivial ⟨rfl, rfl, rfl, rfl, rfl, rfl, trivial⟩ (R := [_, _, _, _, _, _]) (by decide)) ?_
  rintro _ _ ⟨_, ⟨rfl, rfl⟩, rfl⟩
  refine wl_1 ⟨_, rfl, rfl⟩ rfl (do_not (c := true) rfl) ?_
  refine wl_1 trivial rfl (do_pickF rfl rfl) ?_
  refine wl_nil ?_
  refine at_then ?_
  refine wc_false rfl ?_
  refine wc_skip ?_
  refine at_then ?_
  refine wc_seq ?_
  refine wc_region ?_
  refine wl_do trivial rfl do_makeMap ?_
  rintro _ _ ⟨b3, rfl, rfl⟩
  refine wl_mem (L' := [mapA encS b3 ([] : List (ByteArray × Value)), pt b (.cells #[.map (some r), .slice none 0 0, .int .i64 ((lagK m2).most), .int .i64 ((lagK m2).lag), .int .i64 ((lagK m2).now), .int .i64 ((lagK m2).calls), .int .i64 ((lagK m2).count), .bool ((lagK m2).done)] 52 (0, 0)), mapA encS r ([]), row 113 3 (.slice none 0 0) ((lagK m2).chg.length) (chgCells ((lagK m2).chg)), valsA B ([]) ((lagK m2).objs), AnyP, F]) (fun w h => Sat.imp (L1 := []) h (fun _ => mapA_empty _)) ?_
  refine wl_1 trivial rfl (do_assign rfl) ?_
  refine wl_nil ?_
  refine at_then ?_
  refine wc_seq ?_
  refine wc_region ?_
  refine wl_do trivial rfl do_makeMap ?_
  rintro _ _ ⟨b4, rfl, rfl⟩
  refine wl_mem (L' := [mapA encS b4 ([] : List (ByteArray × Value)), mapA encS b3 ([] : List (ByteArray × Value)), pt b (.cells #[.map (some r), .slice none 0 0, .int .i64 ((lagK m2).most), .int .i64 ((lagK m2).lag), .int .i64 ((lagK m2).now), .int .i64 ((lagK m2).calls), .int .i64 ((lagK m2).count), .bool ((lagK m2).done)] 52 (0, 0)), mapA encS r ([]), row 113 3 (.slice none 0 0) ((lagK m2).chg.length) (chgCells ((lagK m2).chg)), valsA B ([]) ((lagK m2).objs), AnyP, F]) (fun w h => Sat.imp (L1 := []) h (fun _ => mapA_empty _)) ?_
  refine wl_1 trivial rfl (do_assign rfl) ?_
  refine wl_nil ?_
  refine at_then ?_
  refine wc_seq ?_
  refine wc_seq ?_
  refine wc_region ?_
  refine wl_1 trivial rfl (do_assign rfl) ?_
  refine wl_nil ?_
  refine at_then ?_
  refine wc_block ?_
  refine wc_mem (fun w_ h_ => h_.pick (M := [pt b (.cells #[.map (some r), .slice none 0 0, .int .i64 ((lagK m2).most), .int .i64 ((lagK m2).lag), .int .i64 ((lagK m2).now), .int .i64 ((lagK m2).calls), .int .i64 ((lagK m2).count), .bool ((lagK m2).done)] 52 (0, 0)), mapA encS r ([]), row 113 3 (.slice none 0 0) ((lagK m2).chg.length) (chgCells ((lagK m2).chg)), valsA B ([]) ((lagK m2).objs), mapA encS b3 ([] : List (ByteArray × Value)), mapA encS b4 ([] : List (ByteArray × Value)), AnyP, F]) [2, 3, 4, 5, 1, 0, 6, 7] ⟨rfl, rfl, rfl, rfl, rfl, rfl, rfl, rfl, trivial⟩ (by decide)) ?_
  refine wc_loop (fun (z_ : Nat × SS × Value × List (ByteArray × Value) × List (ByteArray × Int) × List (ByteArray × Int)) => match z_ with | (i, s, v, lv, ca, we) => StOk s (2 * i) ∧ i ≤ 150 ∧ LI s ca we ∧ LN s m2 i) (fun (z_ : Nat × SS × Value × List (ByteArray × Value) × List (ByteArray × Int) × List (ByteArray × Int)) => match z_ with | (i, s, v, lv, ca, we) => [(0, .slice a0 ops.length cap0), (1, .int .i64 m2), (5, .pointer (some ⟨b, 0, none⟩)), (7, .map (some b3)), (8, .map (some b4)), (9, .int .i64 ((i : Nat) : Int))]) (fun (z_ : Nat × SS × Value × List (ByteArray × Value) × List (ByteArray × Int) × List (ByteArray × Int)) => match z_ with | (i, s, v, lv, ca, we) => [pt b (.cells #[.map (some r), v, .int .i64 s.most, .int .i64 s.lag, .int .i64 s.now, .int .i64 s.calls, .int .i64 s.count, .bool s.done] 52 (0, 0)), mapA encS r lv, row 113 3 v s.chg.length (chgCells s.chg), valsA B lv s.objs, mapA encS b3 (cv ca), mapA encS b4 (cv we), AnyP, F]) (fun (z_ : Nat × SS × Value × List (ByteArray × Value) × List (ByteArray × Int) × List (ByteArray × Int)) => match z_ with | (i, s, v, lv, ca, we) => 150 - i) (0, (lagK m2), (.slice none 0 0), [], [], []) ⟨(lagK_ok (by omega) (by omega)), by omega, lagK_li _, rfl, Int.le_refl 0⟩ ⟨rfl, rfl, rfl, rfl, rfl, rfl, trivial⟩ rfl ?_
  rintro ⟨i, s, v, lv, ca, we⟩ hphi
  obtain ⟨hst, hi, hli, hln⟩ := hphi
  show WC _ _ _ _ _ _ _ [(0, .slice a0 ops.length cap0), (1, .int .i64 m2), (5, .pointer (some ⟨b, 0, none⟩)), (7, .map (some b3)), (8, .map (some b4)), (9, .int .i64 ((i : Nat) : Int))] [pt b (.cells #[.map (some r), v, .int .i64 s.most, .int .i64 s.lag, .int .i64 s.now, .int .i64 s.calls, .int .i64 s.count, .bool s.done] 52 (0, 0)), mapA encS r lv, row 113 3 v s.chg.length (chgCells s.chg), valsA B lv s.objs, mapA encS b3 (cv ca), mapA encS b4 (cv we), AnyP, F]
  refine wc_seq ?_
  refine wc_seq ?_
  refine wc_region ?_
  refine wl_1 trivial rfl (do_move rfl) ?_
  refine wl_1 trivial rfl (do_move rfl) ?_
  refine wl_1 trivial rfl (do_lenSlice rfl isSlice_22 rfl) ?_
  obtain ⟨c5, h_c5⟩ : ∃ c : Bool, cmpB .lss ((i : Nat) : Int) ((ops.length : Nat) : Int) = some c := ⟨_, rfl⟩
  refine wl_1 trivial rfl (do_cmp rfl rfl h_c5) ?_
  refine wl_1 trivial rfl (do_move rfl) ?_
  cases c5
  · have p_c5 := cmp_lss_f h_c5
    refine wl_no rfl rfl rfl rfl rfl ?_
    refine wl_no rfl rfl rfl rfl rfl ?_
    refine wl_1 trivial rfl (do_pickF rfl rfl) ?_
    refine wl_nil ?_
    refine at_then ?_
    refine wc_false rfl ?_
    refine wc_exit ?_
    refine at_then_exit ?_
    refine at_then_exit ?_
    refine at_block_it ?_
    refine at_then ?_
    refine wc_seq ?_
    refine wc_region ?_
    refine wl_1 trivial rfl (do_move rfl) ?_
    refine wl_do trivial rfl (do_call (fail_sl B b r v lv s 0 false) ⟨rfl, rfl, rfl, trivial⟩ enters_17 [0, 1, 2, 3] [4, 5, 6, 7] ⟨rfl, rfl, rfl, rfl, trivial⟩ ⟨rfl, rfl, rfl, rfl, trivial⟩ (R := [_, _, _, _]) (by decide)) ?_
    rintro _ _ ⟨_, ⟨rfl, rfl⟩, rfl⟩
    refine wl_nil ?_
    refine at_then ?_
    refine wc_seq ?_
    refine wc_seq ?_
    refine wc_region ?_
    refine wl_1 trivial rfl (do_move rfl) ?_
    refine wl_1 trivial rfl (do_move rfl) ?_
    refine wl_do trivial rfl (do_call (tick_yes B b r v lv (failS s 0 false) m2 (2 * i) (hst.fail (k := 0) (by decide) false) (by omega) (by omega) (by omega) (show s.now + m2 ≤ 1099511627776 by have := hln.now; omega)) ⟨rfl, rfl, trivial⟩ enters_23 [0, 1, 2, 3] [4, 5, 6, 7] ⟨rfl, rfl, rfl, rfl, trivial⟩ ⟨rfl, rfl, rfl, rfl, trivial⟩ (R := [_, _, _, _]) (by decide)) ?_
    rintro _ _ ⟨_, ⟨rfl, rfl⟩, rfl⟩
    have hTt : StOk (tickT (failS s 0 false) m2) (2 * i) := by have hf := hst.fail (k := 0) (by decide) false; exact ⟨by show 0 ≤ s.now + m2; have := hst.now0; omega, by show s.now + m2 ≤ _; have := hln.now; omega, hf.lag0, hf.lag1, hf.count0, hf.count1, hf.most0, hf.most1, hf.calls0, hf.calls1, hf.chg1, hf.objs1, hf.mem⟩
    refine wl_do trivial rfl (do_call (num_tri B 0) ⟨rfl, trivial⟩ enters_14 [] [0, 1, 2, 3, 4, 5, 6, 7] trivial ⟨rfl, rfl, rfl, rfl, rfl, rfl, rfl, rfl, trivial⟩ (R := [_, _, _, _, _, _, _, _]) (by decide)) ?_
    rintro _ _ ⟨_, ⟨rfl, rfl⟩, rfl⟩
    refine wl_1 trivial rfl (do_cmp (c := false) rfl rfl rfl) ?_
    refine wl_nil ?_
    refine at_then ?_
    refine wc_false rfl ?_
    refine wc_skip ?_
    refine at_then ?_
    refine wc_seq ?_
    refine wc_region ?_
    refine wl_1 trivial rfl (do_move rfl) ?_
    refine wl_do trivial rfl (do_call (list_yes B b r v lv (tickT (failS s 0 false) m2) (2 * i) (hTt) (by omega) (Int.le_refl 0)) ⟨rfl, rfl, trivial⟩ enters_19 [0, 1, 2, 3] [4, 5, 6, 7] ⟨rfl, rfl, rfl, rfl, trivial⟩ ⟨rfl, rfl, rfl, rfl, trivial⟩ (R := [_, _, _, _]) (by decide)) ?_
    rintro _ _ ⟨_, ⟨x6, rfl, rfl⟩, rfl⟩
    refine wl_1 trivial rfl (do_move rfl) ?_
    refine wl_1 trivial rfl (do_extract rfl rfl) ?_
    refine wl_1 trivial rfl (do_extract rfl rfl) ?_
    refine wl_1 trivial rfl (do_assign rfl) ?_
    refine wl_1 trivial rfl (do_assign rfl) ?_
    refine wl_nil ?_
    refine at_then ?_
    refine wc_seq ?_
    refine wc_region ?_
    refine wl_1 trivial rfl (do_move rfl) ?_
    refine wl_do trivial rfl (do_call (num_tri B 0) ⟨rfl, trivial⟩ enters_14 [] [0, 1, 2, 3, 4, 5, 6, 7, 8] trivial ⟨rfl, rfl, rfl, rfl, rfl, rfl, rfl, rfl, rfl, trivial⟩ (R := [_, _, _, _, _, _, _, _, _]) (by decide)) ?_
    rintro _ _ ⟨_, ⟨rfl, rfl⟩, rfl⟩
    refine wl_1 trivial rfl (do_cmp (c := true) rfl rfl rfl) ?_
    refine wl_1 trivial rfl (do_move rfl) ?_
    refine wl_1 ⟨_, rfl, rfl⟩ rfl (do_move rfl) ?_
    refine wl_1 ⟨_, rfl, rfl⟩ rfl (do_move rfl) ?_
    refine wl_do ⟨_, rfl, rfl⟩ rfl (do_call (keys_tri B b r v lv (callS (tickT (failS s 0 false) m2)).2.2 (by have := ((hTt.call)).objs1; omega)) ⟨rfl, trivial⟩ enters_25 [0, 1, 2, 3] [4, 5, 6, 7, 8] ⟨rfl, rfl, rfl, rfl, trivial⟩ ⟨rfl, rfl, rfl, rfl, rfl, trivial⟩ (R := [_, _, _, _, _]) (by decide)) ?_
    rintro _ _ ⟨_, ⟨x7, rfl, rfl⟩, rfl⟩
    have hend := end_quiet hli hln
    have hlen : ((sortB (akeys (callS (tickT (failS s 0 false) m2)).2.2.objs))).length = (callS (tickT (failS s 0 false) m2)).2.2.objs.length := by rw [sortB_len]; simp [akeys]
    refine wl_do ⟨_, rfl, rfl⟩ rfl (do_call (texts_same B x6 x7 (listK kE (callS (tickT (failS s 0 false) m2)).2.2) (sortB (akeys (callS (tickT (failS s 0 false) m2)).2.2.objs)) _ hend (Nat.le_trans (view_len hTt.call (by omega)) (by decide)) hlen) ⟨rfl, rfl, trivial⟩ enters_28 [5, 4] [0, 1, 2, 3, 6, 7, 8, 9] ⟨rfl, rfl, trivial⟩ ⟨rfl, rfl, rfl, rfl, rfl, rfl, rfl, rfl, trivial⟩ (R := [_, _, _, _, _, _, _, _]) (by decide)) ?_
    rintro _ _ ⟨_, ⟨rfl, rfl⟩, rfl⟩
    refine wl_1 trivial rfl (do_pickT rfl rfl) ?_
    refine wl_1 trivial rfl (do_assign rfl) ?_
    refine wl_nil ?_
    refine at_then ?_
    refine wc_ret ?_
    refine at_pick (M := [_, _]) [8, 9] ⟨rfl, rfl, trivial⟩ (by decide) ?_
    exact at_ret1 (M := [_]) rfl rfl ⟨rfl, rfl⟩ rfl
  · have p_c5 := cmp_lss_t h_c5
    refine wl_1 ⟨_, rfl, rfl⟩ rfl (do_move rfl) ?_
    obtain ⟨c8, h_c8⟩ : ∃ c : Bool, cmpB .lss ((i : Nat) : Int) 150 = some c := ⟨_, rfl⟩
    refine wl_1 ⟨_, rfl, rfl⟩ rfl (do_cmp rfl rfl h_c8) ?_
    refine wl_1 trivial rfl (do_pickT rfl rfl) ?_
    refine wl_nil ?_
    refine at_then ?_
    cases c8
    · have p_c8 := cmp_lss_f h_c8
      refine wc_false rfl ?_
      refine wc_exit ?_
      refine at_then_exit ?_
      refine at_then_exit ?_
      refine at_block_it ?_
      refine at_then ?_
      refine wc_seq ?_
      refine wc_region ?_
      refine wl_1 trivial rfl (do_move rfl) ?_
      refine wl_do trivial rfl (do_call (fail_sl B b r v lv s 0 false) ⟨rfl, rfl, rfl, trivial⟩ enters_17 [0, 1, 2, 3] [4, 5, 6, 7] ⟨rfl, rfl, rfl, rfl, trivial⟩ ⟨rfl, rfl, rfl, rfl, trivial⟩ (R := [_, _, _, _]) (by decide)) ?_
      rintro _ _ ⟨_, ⟨rfl, rfl⟩, rfl⟩
      refine wl_nil ?_
      refine at_then ?_
      refine wc_seq ?_
      refine wc_seq ?_
      refine wc_region ?_
      refine wl_1 trivial rfl (do_move rfl) ?_
      refine wl_1 trivial rfl (do_move rfl) ?_
      refine wl_do trivial rfl (do_call (tick_yes B b r v lv (failS s 0 false) m2 (2 * i) (hst.fail (k := 0) (by decide) false) (by omega) (by omega) (by omega) (show s.now + m2 ≤ 1099511627776 by have := hln.now; omega)) ⟨rfl, rfl, trivial⟩ enters_23 [0, 1, 2, 3] [4, 5, 6, 7] ⟨rfl, rfl, rfl, rfl, trivial⟩ ⟨rfl, rfl, rfl, rfl, trivial⟩ (R := [_, _, _, _]) (by decide)) ?_
      rintro _ _ ⟨_, ⟨rfl, rfl⟩, rfl⟩
      have hTt : StOk (tickT (failS s 0 false) m2) (2 * i) := by have hf := hst.fail (k := 0) (by decide) false; exact ⟨by show 0 ≤ s.now + m2; have := hst.now0; omega, by show s.now + m2 ≤ _; have := hln.now; omega, hf.lag0, hf.lag1, hf.count0, hf.count1, hf.most0, hf.most1, hf.calls0, hf.calls1, hf.chg1, hf.objs1, hf.mem⟩
      refine wl_do trivial rfl (do_call (num_tri B 0) ⟨rfl, trivial⟩ enters_14 [] [0, 1, 2, 3, 4, 5, 6, 7] trivial ⟨rfl, rfl, rfl, rfl, rfl, rfl, rfl, rfl, trivial⟩ (R := [_, _, _, _, _, _, _, _]) (by decide)) ?_
      rintro _ _ ⟨_, ⟨rfl, rfl⟩, rfl⟩
      refine wl_1 trivial rfl (do_cmp (c := false) rfl rfl rfl) ?_
      refine wl_nil ?_
      refine at_then ?_
      refine wc_false rfl ?_
      refine wc_skip ?_
      refine at_then ?_
      refine wc_seq ?_
      refine wc_region ?_
      refine wl_1 trivial rfl (do_move rfl) ?_
      refine wl_do trivial rfl (do_call (list_yes B b r v lv (tickT (failS s 0 false) m2) (2 * i) (hTt) (by omega) (Int.le_refl 0)) ⟨rfl, rfl, trivial⟩ enters_19 [0, 1, 2, 3] [4, 5, 6, 7] ⟨rfl, rfl, rfl, rfl, trivial⟩ ⟨rfl, rfl, rfl, rfl, trivial⟩ (R := [_, _, _, _]) (by decide)) ?_
      rintro _ _ ⟨_, ⟨x9, rfl, rfl⟩, rfl⟩
      refine wl_1 trivial rfl (do_move rfl) ?_
      refine wl_1 trivial rfl (do_extract rfl rfl) ?_
      refine wl_1 trivial rfl (do_extract rfl rfl) ?_
      refine wl_1 trivial rfl (do_assign rfl) ?_
      refine wl_1 trivial rfl (do_assign rfl) ?_
      refine wl_nil ?_
      refine at_then ?_
      refine wc_seq ?_
      refine wc_region ?_
      refine wl_1 trivial rfl (do_move rfl) ?_
      refine wl_do trivial rfl (do_call (num_tri B 0) ⟨rfl, trivial⟩ enters_14 [] [0, 1, 2, 3, 4, 5, 6, 7, 8] trivial ⟨rfl, rfl, rfl, rfl, rfl, rfl, rfl, rfl, rfl, trivial⟩ (R := [_, _, _, _, _, _, _, _, _]) (by decide)) ?_
      rintro _ _ ⟨_, ⟨rfl, rfl⟩, rfl⟩
      refine wl_1 trivial rfl (do_cmp (c := true) rfl rfl rfl) ?_
      refine wl_1 trivial rfl (do_move rfl) ?_
      refine wl_1 ⟨_, rfl, rfl⟩ rfl (do_move rfl) ?_
      refine wl_1 ⟨_, rfl, rfl⟩ rfl (do_move rfl) ?_
      refine wl_do ⟨_, rfl, rfl⟩ rfl (do_call (keys_tri B b r v lv (callS (tickT (failS s 0 false) m2)).2.2 (by have := ((hTt.call)).objs1; omega)) ⟨rfl, trivial⟩ enters_25 [0, 1, 2, 3] [4, 5, 6, 7, 8] ⟨rfl, rfl, rfl, rfl, trivial⟩ ⟨rfl, rfl, rfl, rfl, rfl, trivial⟩ (R := [_, _, _, _, _]) (by decide)) ?_
      rintro _ _ ⟨_, ⟨x10, rfl, rfl⟩, rfl⟩
      have hend := end_quiet hli hln
      have hlen : ((sortB (akeys (callS (tickT (failS s 0 false) m2)).2.2.objs))).length = (callS (tickT (failS s 0 false) m2)).2.2.objs.length := by rw [sortB_len]; simp [akeys]
      refine wl_do ⟨_, rfl, rfl⟩ rfl (do_call (texts_same B x9 x10 (listK kE (callS (tickT (failS s 0 false) m2)).2.2) (sortB (akeys (callS (tickT (failS s 0 false) m2)).2.2.objs)) _ hend (Nat.le_trans (view_len hTt.call (by omega)) (by decide)) hlen) ⟨rfl, rfl, trivial⟩ enters_28 [5, 4] [0, 1, 2, 3, 6, 7, 8, 9] ⟨rfl, rfl, trivial⟩ ⟨rfl, rfl, rfl, rfl, rfl, rfl, rfl, rfl, trivial⟩ (R := [_, _, _, _, _, _, _, _]) (by decide)) ?_
      rintro _ _ ⟨_, ⟨rfl, rfl⟩, rfl⟩
      refine wl_1 trivial rfl (do_pickT rfl rfl) ?_
      refine wl_1 trivial rfl (do_assign rfl) ?_
      refine wl_nil ?_
      refine at_then ?_
      refine wc_ret ?_
      refine at_pick (M := [_, _]) [8, 9] ⟨rfl, rfl, trivial⟩ (by decide) ?_
      exact at_ret1 (M := [_]) rfl rfl ⟨rfl, rfl⟩ rfl
    · have p_c8 := cmp_lss_t h_c8
      refine wc_true rfl ?_
      refine wc_skip ?_
      refine at_then ?_
      refine wc_seq ?_
      refine wc_block ?_
      refine wc_seq ?_
      refine wc_region ?_
      refine wl_1 trivial rfl (do_move rfl) ?_
      refine wl_1 trivial rfl (do_move rfl) ?_
      obtain ⟨⟨kd, key, ob, bs, k, yes⟩, ho⟩ : ∃ o, ops[i]? = some o := ⟨_, List.getElem?_eq_getElem (by omega)⟩
      obtain ⟨hae, hop⟩ := hops _ _ ho
      subst hae
      obtain ⟨a2, cap2, hb2⟩ := hop.slice
      have hb3 : ob = .slice a2 bs.length cap2 := hb2
      subst hb3
      have hkhi : k ≤ 9223372036854775807 := has_hi hop.n
      have hklo : -9223372036854775808 ≤ k := has_lo hop.n
      refine wl_1 trivial rfl (do_indexAddr (j := i) (p := (off0 + i * 5)) und_22 ty_34 rfl rfl rfl (by omega) (by omega)) ?_
      refine wl_1 trivial rfl (do_loadAB (vs := [.int .i64 kd, .string key, .slice a2 bs.length cap2, .int .i64 k, .bool yes]) rfl agg_34 rfl (fun j u hj => by have := hop.cells j u hj; rw [← Nat.add_assoc] at this; exact this)) ?_
      refine wl_do trivial rfl (do_alloc zero_34 rfl) ?_
      rintro _ _ ⟨b11, rfl, rfl⟩
      refine wl_1 trivial rfl (do_storeL (L1 := []) rfl rfl agg_34 rfl (cs' := #[.int .i64 kd, .string key, .slice a2 bs.length cap2, .int .i64 k, .bool yes]) rfl trivial) ?_
      refine wl_nil ?_
      refine at_then ?_
      refine wc_seq_mid (fun (z_ : SS × Value × List (ByteArray × Value) × List (ByteArray × Int) × List (ByteArray × Int)) => match z_ with | (s, v, lv, ca, we) => StOk s (2 * i + 1) ∧ LI s ca we ∧ LN s m2 (i + 1)) (fun (z_ : SS × Value × List (ByteArray × Value) × List (ByteArray × Int) × List (ByteArray × Int)) => match z_ with | (s, v, lv, ca, we) => [(0, .slice (some ⟨b0, off0, none⟩) ops.length cap0), (1, .int .i64 m2), (5, .pointer (some ⟨b, 0, none⟩)), (7, .map (some b3)), (8, .map (some b4)), (9, .int .i64 ((i : Nat) : Int))]) (fun (z_ : SS × Value × List (ByteArray × Value) × List (ByteArray × Int) × List (ByteArray × Int)) => match z_ with | (s, v, lv, ca, we) => [pt b (.cells #[.map (some r), v, .int .i64 s.most, .int .i64 s.lag, .int .i64 s.now, .int .i64 s.calls, .int .i64 s.count, .bool s.done] 52 (0, 0)), mapA encS r lv, row 113 3 v s.chg.length (chgCells s.chg), valsA B lv s.objs, mapA encS b3 (cv ca), mapA encS b4 (cv we), AnyP, F]) ?_ ?_
      · refine wc_seq ?_
        refine wc_region ?_
        refine wl_1 trivial rfl (do_fieldAddr (k := 0) (k' := 0) fo_34_0 rfl (by rfl)) ?_
        refine wl_1 trivial rfl (do_load 0 rfl one_3 rfl rfl) ?_
        refine wl_nil ?_
        refine at_then ?_
        refine wc_block ?_
        refine wc_seq ?_
        refine wc_region ?_
        obtain ⟨c12, h_c12⟩ : ∃ c : Bool, cmpB .eql kd 0 = some c := ⟨_, rfl⟩
        refine wl_1 trivial rfl (do_cmp rfl rfl h_c12) ?_
        refine wl_1 trivial rfl (do_assign rfl) ?_
        refine wl_nil ?_
        refine at_then ?_
        cases c12
        · have p_c12 := cmp_eql_f h_c12
          refine wc_false rfl ?_
          refine wc_seq ?_
          refine wc_region ?_
          obtain ⟨c13, h_c13⟩ : ∃ c : Bool, cmpB .eql kd 2 = some c := ⟨_, rfl⟩
          refine wl_1 trivial rfl (do_cmp rfl rfl h_c13) ?_
          refine wl_1 trivial rfl (do_assign rfl) ?_
          refine wl_nil ?_
          refine at_then ?_
          cases c13
          · have p_c13 := cmp_eql_f h_c13
            refine wc_false rfl ?_
            refine wc_seq ?_
            refine wc_region ?_
            obtain ⟨c14, h_c14⟩ : ∃ c : Bool, cmpB .eql kd 4 = some c := ⟨_, rfl⟩
            refine wl_1 trivial rfl (do_cmp rfl rfl h_c14) ?_
            refine wl_1 trivial rfl (do_assign rfl) ?_
            refine wl_nil ?_
            refine at_then ?_
            cases c14
            · have p_c14 := cmp_eql_f h_c14
              refine wc_false rfl ?_
              refine wc_seq ?_
              refine wc_region ?_
              obtain ⟨c15, h_c15⟩ : ∃ c : Bool, cmpB .eql kd 6 = some c := ⟨_, rfl⟩
              refine wl_1 trivial rfl (do_cmp rfl rfl h_c15) ?_
              refine wl_1 trivial rfl (do_assign rfl) ?_
              refine wl_nil ?_
              refine at_then ?_
              cases c15
              · have p_c15 := cmp_eql_f h_c15
                refine wc_false rfl ?_
                refine wc_skip ?_
                refine at_block ?_
                refine at_pick (M := [_, _, _, _, _, _, _, _]) [1, 2, 3, 4, 5, 6, 7, 8] ⟨rfl, rfl, rfl, rfl, rfl, rfl, rfl, rfl, trivial⟩ (by decide) ?_
                have hphi : StOk s (2 * i + 1) ∧ LI s (ca) (we) ∧ LN s m2 (i + 1) := ⟨hst.more (Nat.le_succ _), hli, hln.more⟩
                exact at_mid (s, v, lv, ca, we) hphi ⟨rfl, rfl, rfl, rfl, rfl, rfl, trivial⟩ rfl
              · have p_c15 := cmp_eql_t h_c15
                refine wc_true rfl ?_
                refine wc_region ?_
                refine wl_1 trivial rfl (do_move rfl) ?_
                refine wl_1 trivial rfl (do_fieldAddr (k := 3) (k' := 3) fo_34_3 rfl (by rfl)) ?_
                refine wl_1 trivial rfl (do_load 0 rfl one_3 rfl rfl) ?_
                refine wl_1 trivial rfl (do_fieldAddr (k := 4) (k' := 4) fo_34_4 rfl (by rfl)) ?_
                refine wl_1 trivial rfl (do_load 0 rfl one_4 rfl rfl) ?_
                refine wl_do trivial rfl (do_call (fail_sl B b r v lv s k yes) ⟨rfl, rfl, rfl, trivial⟩ enters_17 [1, 2, 3, 4] [0, 5, 6, 7, 8] ⟨rfl, rfl, rfl, rfl, trivial⟩ ⟨rfl, rfl, rfl, rfl, rfl, trivial⟩ (R := [_, _, _, _, _]) (by decide)) ?_
                rintro _ _ ⟨_, ⟨rfl, rfl⟩, rfl⟩
                have hgd : StOk (failS s k yes) (2 * i + 1) := (hst.fail hkhi yes).more (Nat.le_succ _)
                have hgn := hgd.now0
                have hgm := hgd.now1
                refine wl_nil ?_
                refine at_block ?_
                refine at_pick (M := [_, _, _, _, _, _, _, _]) [0, 1, 2, 3, 5, 6, 7, 8] ⟨rfl, rfl, rfl, rfl, rfl, rfl, rfl, rfl, trivial⟩ (by decide) ?_
                have hphi : StOk (failS s k yes) (2 * i + 1) ∧ LI (failS s k yes) (ca) (we) ∧ LN (failS s k yes) m2 (i + 1) := ⟨(hst.fail hkhi yes).more (Nat.le_succ _), hli.same rfl rfl (Int.le_refl _), (hln.fail k yes).more⟩
                exact at_mid ((failS s k yes), v, lv, ca, we) hphi ⟨rfl, rfl, rfl, rfl, rfl, rfl, trivial⟩ rfl
            · have p_c14 := cmp_eql_t h_c14
              refine wc_true rfl ?_
              refine wc_region ?_
              refine wl_1 trivial rfl (do_move rfl) ?_
              refine wl_1 trivial rfl (do_fieldAddr (k := 3) (k' := 3) fo_34_3 rfl (by rfl)) ?_
              refine wl_1 trivial rfl (do_load 0 rfl one_3 rfl rfl) ?_
              obtain ⟨m16, h_m16⟩ : ∃ r : Int, r = k.tmod 30 := ⟨_, rfl⟩
              have l_m16 := rem_rng k 30 (by decide)
              rw [← h_m16] at l_m16
              refine wl_1 trivial rfl (do_rem (r := m16) rfl rfl (by decide) h_m16.symm) ?_
              refine wl_1 trivial rfl (do_add (r := m16 + 30) rfl rfl (wrap_i64 (by omega) (by omega))) ?_
              obtain ⟨m17, h_m17⟩ : ∃ r : Int, r = (m16 + 30).tmod 30 := ⟨_, rfl⟩
              have l_m17 := rem_rng (m16 + 30) 30 (by decide)
              rw [← h_m17] at l_m17
              refine wl_1 trivial rfl (do_rem (r := m17) rfl rfl (by decide) h_m17.symm) ?_
              refine wl_do trivial rfl (do_call (tick_sl B b r v lv s ((2 * i)) (hst) (by omega) m17) ⟨rfl, rfl, trivial⟩ enters_23 [1, 2, 3, 4] [0, 5, 6, 7, 8] ⟨rfl, rfl, rfl, rfl, trivial⟩ ⟨rfl, rfl, rfl, rfl, rfl, trivial⟩ (R := [_, _, _, _, _]) (by decide)) ?_
              rintro _ _ ⟨_, ⟨rfl, rfl⟩, rfl⟩
              have hgd : StOk (tickS s m17).2 (2 * i + 1) := (hst.tick _).more (Nat.le_succ _)
              have hgn := hgd.now0
              have hgm := hgd.now1
              refine wl_nil ?_
              refine at_block ?_
              refine at_pick (M := [_, _, _, _, _, _, _, _]) [0, 1, 2, 3, 5, 6, 7, 8] ⟨rfl, rfl, rfl, rfl, rfl, rfl, rfl, rfl, trivial⟩ (by decide) ?_
              have hphi : StOk (tickS s m17).2 (2 * i + 1) ∧ LI (tickS s m17).2 (ca) (we) ∧ LN (tickS s m17).2 m2 (i + 1) := ⟨(hst.tick _).more (Nat.le_succ _), hli.same (tickS_objs _ _) (tickS_chg _ _) (tickS_now _ _).1, hln.tick (by omega)⟩
              exact at_mid ((tickS s m17).2, v, lv, ca, we) hphi ⟨rfl, rfl, rfl, rfl, rfl, rfl, trivial⟩ rfl
          · have p_c13 := cmp_eql_t h_c13
            refine wc_true rfl ?_
            refine wc_seq ?_
            refine wc_region ?_
            refine wl_1 trivial rfl (do_move rfl) ?_
            refine wl_1 trivial rfl (do_fieldAddr (k := 1) (k' := 1) fo_34_1 rfl (by rfl)) ?_
            refine wl_1 trivial rfl (do_load 0 rfl one_9 rfl rfl) ?_
            rcases hg19 : aget s.objs key with _ | v20
            · skip
              refine wl_do trivial rfl (do_call (look_none B b r v lv s key (hst).ok hg19) ⟨rfl, rfl, trivial⟩ enters_20 [1, 2, 3, 4] [0, 5, 6, 7, 8] ⟨rfl, rfl, rfl, rfl, trivial⟩ ⟨rfl, rfl, rfl, rfl, rfl, trivial⟩ (R := [_, _, _, _, _]) (by decide)) ?_
              rintro _ _ ⟨_, ⟨x21, rfl, rfl⟩, rfl⟩
              refine wl_1 trivial rfl (do_move rfl) ?_
              refine wl_1 trivial rfl (do_extract rfl rfl) ?_
              refine wl_1 trivial rfl (do_extract rfl rfl) ?_
              refine wl_1 trivial rfl (do_assign rfl) ?_
              refine wl_1 trivial rfl (do_assign rfl) ?_
              refine wl_nil ?_
              refine at_then ?_
              refine wc_seq ?_
              refine wc_region ?_
              refine wl_1 trivial rfl (do_move rfl) ?_
              refine wl_1 trivial rfl (do_fieldAddr (k := 1) (k' := 1) fo_34_1 rfl (by rfl)) ?_
              refine wl_1 trivial rfl (do_load 5 rfl one_9 rfl rfl) ?_
              refine wl_do trivial rfl (do_call (del_alts B b r v lv s key ((2 * i)) (hst) (by omega) hop.key) ⟨rfl, rfl, trivial⟩ enters_22 [0, 1, 2, 3] [4, 5, 6, 7, 8, 9] ⟨rfl, rfl, rfl, rfl, trivial⟩ ⟨rfl, rfl, rfl, rfl, rfl, rfl, trivial⟩ (R := [_, _, _, _, _, _]) (by decide)) ?_
              rintro _ _ ⟨_, (⟨v22, l23, rfl, rfl⟩ | ⟨_, v22, l23, (rfl | rfl), rfl, rfl⟩ | ⟨v22, l23, rfl, rfl⟩), rfl⟩
              · skip
                have hgd : StOk s (2 * i + 1) := hst.more (Nat.le_succ _)
                have hgn := hgd.now0
                have hgm := hgd.now1
                refine wl_nil ?_
                refine at_then ?_
                refine wc_seq ?_
                refine wc_region ?_
                refine wl_1 trivial rfl (do_move rfl) ?_
                refine wl_1 trivial rfl (do_fieldAddr (k := 1) (k' := 1) fo_34_1 rfl (by rfl)) ?_
                refine wl_1 trivial rfl (do_load 5 rfl one_9 rfl rfl) ?_
                refine wl_do trivial rfl (do_call (look_none B b r v22 l23 s key (hgd).ok hg19) ⟨rfl, rfl, trivial⟩ enters_20 [0, 1, 2, 3] [4, 5, 6, 7, 8, 9] ⟨rfl, rfl, rfl, rfl, trivial⟩ ⟨rfl, rfl, rfl, rfl, rfl, rfl, trivial⟩ (R := [_, _, _, _, _, _]) (by decide)) ?_
                rintro _ _ ⟨_, ⟨x24, rfl, rfl⟩, rfl⟩
                refine wl_1 trivial rfl (do_move rfl) ?_
                refine wl_1 trivial rfl (do_extract rfl rfl) ?_
                refine wl_1 trivial rfl (do_extract rfl rfl) ?_
                refine wl_1 trivial rfl (do_assign rfl) ?_
                refine wl_1 trivial rfl (do_assign rfl) ?_
                refine wl_nil ?_
                refine at_then ?_
                refine wc_seq ?_
                refine wc_region ?_
                refine wl_1 trivial rfl (do_move rfl) ?_
                refine wl_1 trivial rfl (do_move rfl) ?_
                refine wl_no rfl rfl rfl rfl rfl ?_
                refine wl_no rfl rfl rfl rfl rfl ?_
                refine wl_1 trivial rfl (do_pickF rfl rfl) ?_
                refine wl_nil ?_
                refine at_then ?_
                refine wc_false rfl ?_
                refine wc_skip ?_
                refine at_block ?_
                refine at_pick (M := [_, _, _, _, _, _, _, _]) [0, 1, 2, 3, 7, 8, 9, 10] ⟨rfl, rfl, rfl, rfl, rfl, rfl, rfl, rfl, trivial⟩ (by decide) ?_
                have hphi : StOk s (2 * i + 1) ∧ LI s (ca) (we) ∧ LN s m2 (i + 1) := ⟨hst.more (Nat.le_succ _), hli, hln.more⟩
                exact at_mid (s, v22, l23, ca, we) hphi ⟨rfl, rfl, rfl, rfl, rfl, rfl, trivial⟩ rfl
              · skip
                have hl25 : aget (delO key (callS s).2.2).objs key = none := by rw [delO_get _ (by rw [callS_objs]; exact hli.nd), if_pos rfl]
                have hgd : StOk (delO key (callS s).2.2) (2 * i + 1) := hst.callDel key
                have hgn := hgd.now0
                have hgm := hgd.now1
                refine wl_nil ?_
                refine at_then ?_
                refine wc_seq ?_
                refine wc_region ?_
                refine wl_1 trivial rfl (do_move rfl) ?_
                refine wl_1 trivial rfl (do_fieldAddr (k := 1) (k' := 1) fo_34_1 rfl (by rfl)) ?_
                refine wl_1 trivial rfl (do_load 5 rfl one_9 rfl rfl) ?_
                refine wl_do trivial rfl (do_call (look_none B b r v22 l23 (delO key (callS s).2.2) key (hgd).ok hl25) ⟨rfl, rfl, trivial⟩ enters_20 [0, 1, 2, 3] [4, 5, 6, 7, 8, 9] ⟨rfl, rfl, rfl, rfl, trivial⟩ ⟨rfl, rfl, rfl, rfl, rfl, rfl, trivial⟩ (R := [_, _, _, _, _, _]) (by decide)) ?_
                rintro _ _ ⟨_, ⟨x26, rfl, rfl⟩, rfl⟩
                refine wl_1 trivial rfl (do_move rfl) ?_
                refine wl_1 trivial rfl (do_extract rfl rfl) ?_
                refine wl_1 trivial rfl (do_extract rfl rfl) ?_
                refine wl_1 trivial rfl (do_assign rfl) ?_
                refine wl_1 trivial rfl (do_assign rfl) ?_
                refine wl_nil ?_
                refine at_then ?_
                refine wc_seq ?_
                refine wc_region ?_
                refine wl_1 trivial rfl (do_move rfl) ?_
                refine wl_1 trivial rfl (do_move rfl) ?_
                refine wl_no rfl rfl rfl rfl rfl ?_
                refine wl_no rfl rfl rfl rfl rfl ?_
                refine wl_1 trivial rfl (do_pickF rfl rfl) ?_
                refine wl_nil ?_
                refine at_then ?_
                refine wc_false rfl ?_
                refine wc_skip ?_
                refine at_block ?_
                refine at_pick (M := [_, _, _, _, _, _, _, _]) [0, 1, 2, 3, 7, 8, 9, 10] ⟨rfl, rfl, rfl, rfl, rfl, rfl, rfl, rfl, trivial⟩ (by decide) ?_
                have hphi : StOk (delO key (callS s).2.2) (2 * i + 1) ∧ LI (delO key (callS s).2.2) (ca) (we) ∧ LN (delO key (callS s).2.2) m2 (i + 1) := ⟨hst.callDel key, hli.call.delNew (by rw [callS_objs, hg19]; simp), (hln.call.del key).more⟩
                exact at_mid ((delO key (callS s).2.2), v22, l23, ca, we) hphi ⟨rfl, rfl, rfl, rfl, rfl, rfl, trivial⟩ rfl
              · skip
                have hl27 : aget (delO key (callS s).2.2).objs key = none := by rw [delO_get _ (by rw [callS_objs]; exact hli.nd), if_pos rfl]
                have hgd : StOk (delO key (callS s).2.2) (2 * i + 1) := hst.callDel key
                have hgn := hgd.now0
                have hgm := hgd.now1
                refine wl_nil ?_
                refine at_then ?_
                refine wc_seq ?_
                refine wc_region ?_
                refine wl_1 trivial rfl (do_move rfl) ?_
                refine wl_1 trivial rfl (do_fieldAddr (k := 1) (k' := 1) fo_34_1 rfl (by rfl)) ?_
                refine wl_1 trivial rfl (do_load 5 rfl one_9 rfl rfl) ?_
                refine wl_do trivial rfl (do_call (look_none B b r v22 l23 (delO key (callS s).2.2) key (hgd).ok hl27) ⟨rfl, rfl, trivial⟩ enters_20 [0, 1, 2, 3] [4, 5, 6, 7, 8, 9] ⟨rfl, rfl, rfl, rfl, trivial⟩ ⟨rfl, rfl, rfl, rfl, rfl, rfl, trivial⟩ (R := [_, _, _, _, _, _]) (by decide)) ?_
                rintro _ _ ⟨_, ⟨x28, rfl, rfl⟩, rfl⟩
                refine wl_1 trivial rfl (do_move rfl) ?_
                refine wl_1 trivial rfl (do_extract rfl rfl) ?_
                refine wl_1 trivial rfl (do_extract rfl rfl) ?_
                refine wl_1 trivial rfl (do_assign rfl) ?_
                refine wl_1 trivial rfl (do_assign rfl) ?_
                refine wl_nil ?_
                refine at_then ?_
                refine wc_seq ?_
                refine wc_region ?_
                refine wl_1 trivial rfl (do_move rfl) ?_
                refine wl_1 trivial rfl (do_move rfl) ?_
                refine wl_no rfl rfl rfl rfl rfl ?_
                refine wl_no rfl rfl rfl rfl rfl ?_
                refine wl_1 trivial rfl (do_pickF rfl rfl) ?_
                refine wl_nil ?_
                refine at_then ?_
                refine wc_false rfl ?_
                refine wc_skip ?_
                refine at_block ?_
                refine at_pick (M := [_, _, _, _, _, _, _, _]) [0, 1, 2, 3, 7, 8, 9, 10] ⟨rfl, rfl, rfl, rfl, rfl, rfl, rfl, rfl, trivial⟩ (by decide) ?_
                have hphi : StOk (delO key (callS s).2.2) (2 * i + 1) ∧ LI (delO key (callS s).2.2) (ca) (we) ∧ LN (delO key (callS s).2.2) m2 (i + 1) := ⟨hst.callDel key, hli.call.delNew (by rw [callS_objs, hg19]; simp), (hln.call.del key).more⟩
                exact at_mid ((delO key (callS s).2.2), v22, l23, ca, we) hphi ⟨rfl, rfl, rfl, rfl, rfl, rfl, trivial⟩ rfl
              · skip
                have hl29 : aget (callS s).2.2.objs key = none := by rw [callS_objs]; exact hg19
                have hgd : StOk (callS s).2.2 (2 * i + 1) := hst.call
                have hgn := hgd.now0
                have hgm := hgd.now1
                refine wl_nil ?_
                refine at_then ?_
                refine wc_seq ?_
                refine wc_region ?_
                refine wl_1 trivial rfl (do_move rfl) ?_
                refine wl_1 trivial rfl (do_fieldAddr (k := 1) (k' := 1) fo_34_1 rfl (by rfl)) ?_
                refine wl_1 trivial rfl (do_load 5 rfl one_9 rfl rfl) ?_
                refine wl_do trivial rfl (do_call (look_none B b r v22 l23 (callS s).2.2 key (hgd).ok hl29) ⟨rfl, rfl, trivial⟩ enters_20 [0, 1, 2, 3] [4, 5, 6, 7, 8, 9] ⟨rfl, rfl, rfl, rfl, trivial⟩ ⟨rfl, rfl, rfl, rfl, rfl, rfl, trivial⟩ (R := [_, _, _, _, _, _]) (by decide)) ?_
                rintro _ _ ⟨_, ⟨x30, rfl, rfl⟩, rfl⟩
                refine wl_1 trivial rfl (do_move rfl) ?_
                refine wl_1 trivial rfl (do_extract rfl rfl) ?_
                refine wl_1 trivial rfl (do_extract rfl rfl) ?_
                refine wl_1 trivial rfl (do_assign rfl) ?_
                refine wl_1 trivial rfl (do_assign rfl) ?_
                refine wl_nil ?_
                refine at_then ?_
                refine wc_seq ?_
                refine wc_region ?_
                refine wl_1 trivial rfl (do_move rfl) ?_
                refine wl_1 trivial rfl (do_move rfl) ?_
                refine wl_no rfl rfl rfl rfl rfl ?_
                refine wl_no rfl rfl rfl rfl rfl ?_
                refine wl_1 trivial rfl (do_pickF rfl rfl) ?_
                refine wl_nil ?_
                refine at_then ?_
                refine wc_false rfl ?_
                refine wc_skip ?_
                refine at_block ?_
                refine at_pick (M := [_, _, _, _, _, _, _, _]) [0, 1, 2, 3, 7, 8, 9, 10] ⟨rfl, rfl, rfl, rfl, rfl, rfl, rfl, rfl, trivial⟩ (by decide) ?_
                have hphi : StOk (callS s).2.2 (2 * i + 1) ∧ LI (callS s).2.2 (ca) (we) ∧ LN (callS s).2.2 m2 (i + 1) := ⟨hst.call, hli.call, hln.call.more⟩
                exact at_mid ((callS s).2.2, v22, l23, ca, we) hphi ⟨rfl, rfl, rfl, rfl, rfl, rfl, trivial⟩ rfl
            · skip
              refine wl_do trivial rfl (do_call (look_some B b r v lv s key (hst).ok v20 hg19) ⟨rfl, rfl, trivial⟩ enters_20 [1, 2, 3, 4] [0, 5, 6, 7, 8] ⟨rfl, rfl, rfl, rfl, trivial⟩ ⟨rfl, rfl, rfl, rfl, rfl, trivial⟩ (R := [_, _, _, _, _]) (by decide)) ?_
              rintro _ _ ⟨_, ⟨x31, rfl, rfl⟩, rfl⟩
              refine wl_1 trivial rfl (do_move rfl) ?_
              refine wl_1 trivial rfl (do_extract rfl rfl) ?_
              refine wl_1 trivial rfl (do_extract rfl rfl) ?_
              refine wl_1 trivial rfl (do_assign rfl) ?_
              refine wl_1 trivial rfl (do_assign rfl) ?_
              refine wl_nil ?_
              refine at_then ?_
              refine wc_seq ?_
              refine wc_region ?_
              refine wl_1 trivial rfl (do_move rfl) ?_
              refine wl_1 trivial rfl (do_fieldAddr (k := 1) (k' := 1) fo_34_1 rfl (by rfl)) ?_
              refine wl_1 trivial rfl (do_load 5 rfl one_9 rfl rfl) ?_
              refine wl_do trivial rfl (do_call (del_alts B b r v lv s key ((2 * i)) (hst) (by omega) hop.key) ⟨rfl, rfl, trivial⟩ enters_22 [0, 1, 2, 3] [4, 5, 6, 7, 8, 9] ⟨rfl, rfl, rfl, rfl, trivial⟩ ⟨rfl, rfl, rfl, rfl, rfl, rfl, trivial⟩ (R := [_, _, _, _, _, _]) (by decide)) ?_
              rintro _ _ ⟨_, (⟨v32, l33, rfl, rfl⟩ | ⟨_, v32, l33, (rfl | rfl), rfl, rfl⟩ | ⟨v32, l33, rfl, rfl⟩), rfl⟩
              · skip
                have hgd : StOk s (2 * i + 1) := hst.more (Nat.le_succ _)
                have hgn := hgd.now0
                have hgm := hgd.now1
                refine wl_nil ?_
                refine at_then ?_
                refine wc_seq ?_
                refine wc_region ?_
                refine wl_1 trivial rfl (do_move rfl) ?_
                refine wl_1 trivial rfl (do_fieldAddr (k := 1) (k' := 1) fo_34_1 rfl (by rfl)) ?_
                refine wl_1 trivial rfl (do_load 5 rfl one_9 rfl rfl) ?_
                refine wl_do trivial rfl (do_call (look_some B b r v32 l33 s key (hgd).ok v20 hg19) ⟨rfl, rfl, trivial⟩ enters_20 [0, 1, 2, 3] [4, 5, 6, 7, 8, 9] ⟨rfl, rfl, rfl, rfl, trivial⟩ ⟨rfl, rfl, rfl, rfl, rfl, rfl, trivial⟩ (R := [_, _, _, _, _, _]) (by decide)) ?_
                rintro _ _ ⟨_, ⟨x34, rfl, rfl⟩, rfl⟩
                refine wl_1 trivial rfl (do_move rfl) ?_
                refine wl_1 trivial rfl (do_extract rfl rfl) ?_
                refine wl_1 trivial rfl (do_extract rfl rfl) ?_
                refine wl_1 trivial rfl (do_assign rfl) ?_
                refine wl_1 trivial rfl (do_assign rfl) ?_
                refine wl_nil ?_
                refine at_then ?_
                refine wc_seq ?_
                refine wc_region ?_
                refine wl_1 trivial rfl (do_move rfl) ?_
                refine wl_1 trivial rfl (do_move rfl) ?_
                refine wl_1 ⟨_, rfl, rfl⟩ rfl (do_move rfl) ?_
                refine wl_1 ⟨_, rfl, rfl⟩ rfl (do_not (c := true) rfl) ?_
                refine wl_1 trivial rfl (do_pickT rfl rfl) ?_
                refine wl_nil ?_
                refine at_then ?_
                refine wc_false rfl ?_
                refine wc_skip ?_
                refine at_block ?_
                refine at_pick (M := [_, _, _, _, _, _, _, _]) [0, 1, 2, 3, 7, 8, 9, 10] ⟨rfl, rfl, rfl, rfl, rfl, rfl, rfl, rfl, trivial⟩ (by decide) ?_
                have hphi : StOk s (2 * i + 1) ∧ LI s (ca) (we) ∧ LN s m2 (i + 1) := ⟨hst.more (Nat.le_succ _), hli, hln.more⟩
                exact at_mid (s, v32, l33, ca, we) hphi ⟨rfl, rfl, rfl, rfl, rfl, rfl, trivial⟩ rfl
              · skip
                have hl35 : aget (delO key (callS s).2.2).objs key = none := by rw [delO_get _ (by rw [callS_objs]; exact hli.nd), if_pos rfl]
                have hgd : StOk (delO key (callS s).2.2) (2 * i + 1) := hst.callDel key
                have hgn := hgd.now0
                have hgm := hgd.now1
                refine wl_nil ?_
                refine at_then ?_
                refine wc_seq ?_
                refine wc_region ?_
                refine wl_1 trivial rfl (do_move rfl) ?_
                refine wl_1 trivial rfl (do_fieldAddr (k := 1) (k' := 1) fo_34_1 rfl (by rfl)) ?_
                refine wl_1 trivial rfl (do_load 5 rfl one_9 rfl rfl) ?_
                refine wl_do trivial rfl (do_call (look_none B b r v32 l33 (delO key (callS s).2.2) key (hgd).ok hl35) ⟨rfl, rfl, trivial⟩ enters_20 [0, 1, 2, 3] [4, 5, 6, 7, 8, 9] ⟨rfl, rfl, rfl, rfl, trivial⟩ ⟨rfl, rfl, rfl, rfl, rfl, rfl, trivial⟩ (R := [_, _, _, _, _, _]) (by decide)) ?_
                rintro _ _ ⟨_, ⟨x36, rfl, rfl⟩, rfl⟩
                refine wl_1 trivial rfl (do_move rfl) ?_
                refine wl_1 trivial rfl (do_extract rfl rfl) ?_
                refine wl_1 trivial rfl (do_extract rfl rfl) ?_
                refine wl_1 trivial rfl (do_assign rfl) ?_
                refine wl_1 trivial rfl (do_assign rfl) ?_
                refine wl_nil ?_
                refine at_then ?_
                refine wc_seq ?_
                refine wc_region ?_
                refine wl_1 trivial rfl (do_move rfl) ?_
                refine wl_1 trivial rfl (do_move rfl) ?_
                refine wl_1 ⟨_, rfl, rfl⟩ rfl (do_move rfl) ?_
                refine wl_1 ⟨_, rfl, rfl⟩ rfl (do_not (c := false) rfl) ?_
                refine wl_1 trivial rfl (do_pickT rfl rfl) ?_
                refine wl_nil ?_
                refine at_then ?_
                refine wc_true rfl ?_
                refine wc_draw [[], [], [1], [], [3], [3, 4], [0, 1, 2, 3, 4, 5]] [some (.map (some b4)), some (.pointer (some ⟨b11, 1, none⟩)), some (.string key), some (.pointer (some ⟨b, 0, none⟩)), none, none, none] [4, 6] mixed (by kernel_rfl) (by decide) ⟨rfl, rfl, ⟨.inr ⟨_, [.old 8], rfl, rfl, .inl ⟨trivial, do_move rfl⟩⟩, .inr ⟨_, [.old 10], rfl, rfl, .inl ⟨trivial, do_fieldAddr (k := 1) (k' := 1) fo_34_1 rfl (by rfl)⟩⟩, .inr ⟨_, [.op 1], rfl, rfl, .inl ⟨trivial, do_load 6 rfl one_9 rfl rfl⟩⟩, .inr ⟨_, [.old 5], rfl, rfl, .inl ⟨trivial, do_move rfl⟩⟩, trivial⟩, _, [.op 3], _, rfl, rfl, trivial, do_call (now_made B b r v32 l33 (delO key (callS s).2.2)) ⟨rfl, trivial⟩ enters_26 [0] [1, 2, 3, 4, 5, 6, 7, 8, 9, 10] ⟨rfl, trivial⟩ ⟨rfl, rfl, rfl, rfl, rfl, rfl, rfl, rfl, rfl, rfl, trivial⟩ (R := [_, _, _, _, _, _, _, _, _, _]) (by decide), ?_⟩
                rintro _ _ ⟨_, ⟨rfl, rfl⟩, rfl⟩
                refine ⟨[some (.map (some b4)), some (.pointer (some ⟨b11, 1, none⟩)), some (.string key), some (.pointer (some ⟨b, 0, none⟩)), some (.int .i64 ((delO key (callS s).2.2).now)), some (.int .i64 (((delO key (callS s).2.2).now) + 1)), none], more_mk ⟨rfl, rfl, rfl, rfl, trivial⟩ rfl, ?_⟩
                refine ⟨rfl, rfl, ⟨.inr ⟨_, [.old 8], rfl, rfl, .inl ⟨trivial, do_move rfl⟩⟩, .inr ⟨_, [.old 10], rfl, rfl, .inl ⟨trivial, do_fieldAddr (k := 1) (k' := 1) fo_34_1 rfl (by rfl)⟩⟩, .inr ⟨_, [.op 1], rfl, rfl, .inl ⟨trivial, do_load 6 rfl one_9 rfl rfl⟩⟩, .inl rfl, .inl rfl, .inr ⟨_, [.op 4], rfl, rfl, .inl ⟨trivial, do_add (r := ((delO key (callS s).2.2).now) + 1) rfl rfl (wrap_i64 (by omega) (by omega))⟩⟩, trivial⟩, _, [.op 0, .op 2, .op 5], _, rfl, rfl, trivial, do_mapUpdate (L1 := [_, _, _, _, _, _, _, _]) und_57 key_9 rfl rfl rfl, ?_⟩
                rintro _ _ ⟨rfl, rfl⟩
                refine ⟨[some (.map (some b4)), some (.pointer (some ⟨b11, 1, none⟩)), some (.string key), some (.pointer (some ⟨b, 0, none⟩)), some (.int .i64 ((delO key (callS s).2.2).now)), some (.int .i64 (((delO key (callS s).2.2).now) + 1)), some (undef)], more_mk ⟨rfl, rfl, rfl, rfl, rfl, rfl, trivial⟩ rfl, ?_⟩
                refine ⟨rfl, ⟨.inl rfl, .inl rfl, .inl rfl, .inl rfl, .inl rfl, .inl rfl, .inl rfl, trivial⟩, [.old 0, .old 1, .old 5, .old 7, .old 8, .old 9], [(0, .slice (some ⟨b0, off0, none⟩) ops.length cap0), (1, .int .i64 m2), (5, .pointer (some ⟨b, 0, none⟩)), (7, .map (some b3)), (8, .map (some b4)), (9, .int .i64 ((i : Nat) : Int))], rfl, rfl, ?_⟩
                refine at_block ?_
                refine at_pick (M := [_, _, _, _, _, _, _, _]) [0, 1, 2, 3, 7, 8, 9, 10] ⟨rfl, rfl, rfl, rfl, rfl, rfl, rfl, rfl, trivial⟩ (by decide) ?_
                rw [cv_put]
                have hphi : StOk (delO key (callS s).2.2) (2 * i + 1) ∧ LI (delO key (callS s).2.2) (ca) (aput we key ((delO key (callS s).2.2).now + 1)) ∧ LN (delO key (callS s).2.2) m2 (i + 1) := ⟨hst.callDel key, (by rw [delO_now]; exact hli.call.delOld (by rw [callS_objs, hg19]; rfl) (by rw [callS_now]; exact hst.now0) (by rw [callS_now]; exact hst.now1)), (hln.call.del key).more⟩
                exact at_mid ((delO key (callS s).2.2), v32, l33, ca, aput we key ((delO key (callS s).2.2).now + 1)) hphi ⟨rfl, rfl, rfl, rfl, rfl, rfl, trivial⟩ rfl
              · skip
                have hl37 : aget (delO key (callS s).2.2).objs key = none := by rw [delO_get _ (by rw [callS_objs]; exact hli.nd), if_pos rfl]
                have hgd : StOk (delO key (callS s).2.2) (2 * i + 1) := hst.callDel key
                have hgn := hgd.now0
                have hgm := hgd.now1
                refine wl_nil ?_
                refine at_then ?_
                refine wc_seq ?_
                refine wc_region ?_
                refine wl_1 trivial rfl (do_move rfl) ?_
                refine wl_1 trivial rfl (do_fieldAddr (k := 1) (k' := 1) fo_34_1 rfl (by rfl)) ?_
                refine wl_1 trivial rfl (do_load 5 rfl one_9 rfl rfl) ?_
                refine wl_do trivial rfl (do_call (look_none B b r v32 l33 (delO key (callS s).2.2) key (hgd).ok hl37) ⟨rfl, rfl, trivial⟩ enters_20 [0, 1, 2, 3] [4, 5, 6, 7, 8, 9] ⟨rfl, rfl, rfl, rfl, trivial⟩ ⟨rfl, rfl, rfl, rfl, rfl, rfl, trivial⟩ (R := [_, _, _, _, _, _]) (by decide)) ?_
                rintro _ _ ⟨_, ⟨x38, rfl, rfl⟩, rfl⟩
                refine wl_1 trivial rfl (do_move rfl) ?_
                refine wl_1 trivial rfl (do_extract rfl rfl) ?_
                refine wl_1 trivial rfl (do_extract rfl rfl) ?_
                refine wl_1 trivial rfl (do_assign rfl) ?_
                refine wl_1 trivial rfl (do_assign rfl) ?_
                refine wl_nil ?_
                refine at_then ?_
                refine wc_seq ?_
                refine wc_region ?_
                refine wl_1 trivial rfl (do_move rfl) ?_
                refine wl_1 trivial rfl (do_move rfl) ?_
                refine wl_1 ⟨_, rfl, rfl⟩ rfl (do_move rfl) ?_
                refine wl_1 ⟨_, rfl, rfl⟩ rfl (do_not (c := false) rfl) ?_
                refine wl_1 trivial rfl (do_pickT rfl rfl) ?_
                refine wl_nil ?_
                refine at_then ?_
                refine wc_true rfl ?_
                refine wc_draw [[], [], [1], [], [3], [3, 4], [0, 1, 2, 3, 4, 5]] [some (.map (some b4)), some (.pointer (some ⟨b11, 1, none⟩)), some (.string key), some (.pointer (some ⟨b, 0, none⟩)), none, none, none] [4, 6] mixed (by kernel_rfl) (by decide) ⟨rfl, rfl, ⟨.inr ⟨_, [.old 8], rfl, rfl, .inl ⟨trivial, do_move rfl⟩⟩, .inr ⟨_, [.old 10], rfl, rfl, .inl ⟨trivial, do_fieldAddr (k := 1) (k' := 1) fo_34_1 rfl (by rfl)⟩⟩, .inr ⟨_, [.op 1], rfl, rfl, .inl ⟨trivial, do_load 6 rfl one_9 rfl rfl⟩⟩, .inr ⟨_, [.old 5], rfl, rfl, .inl ⟨trivial, do_move rfl⟩⟩, trivial⟩, _, [.op 3], _, rfl, rfl, trivial, do_call (now_made B b r v32 l33 (delO key (callS s).2.2)) ⟨rfl, trivial⟩ enters_26 [0] [1, 2, 3, 4, 5, 6, 7, 8, 9, 10] ⟨rfl, trivial⟩ ⟨rfl, rfl, rfl, rfl, rfl, rfl, rfl, rfl, rfl, rfl, trivial⟩ (R := [_, _, _, _, _, _, _, _, _, _]) (by decide), ?_⟩
                rintro _ _ ⟨_, ⟨rfl, rfl⟩, rfl⟩
                refine ⟨[some (.map (some b4)), some (.pointer (some ⟨b11, 1, none⟩)), some (.string key), some (.pointer (some ⟨b, 0, none⟩)), some (.int .i64 ((delO key (callS s).2.2).now)), some (.int .i64 (((delO key (callS s).2.2).now) + 1)), none], more_mk ⟨rfl, rfl, rfl, rfl, trivial⟩ rfl, ?_⟩
                refine ⟨rfl, rfl, ⟨.inr ⟨_, [.old 8], rfl, rfl, .inl ⟨trivial, do_move rfl⟩⟩, .inr ⟨_, [.old 10], rfl, rfl, .inl ⟨trivial, do_fieldAddr (k := 1) (k' := 1) fo_34_1 rfl (by rfl)⟩⟩, .inr ⟨_, [.op 1], rfl, rfl, .inl ⟨trivial, do_load 6 rfl one_9 rfl rfl⟩⟩, .inl rfl, .inl rfl, .inr ⟨_, [.op 4], rfl, rfl, .inl ⟨trivial, do_add (r := ((delO key (callS s).2.2).now) + 1) rfl rfl (wrap_i64 (by omega) (by omega))⟩⟩, trivial⟩, _, [.op 0, .op 2, .op 5], _, rfl, rfl, trivial, do_mapUpdate (L1 := [_, _, _, _, _, _, _, _]) und_57 key_9 rfl rfl rfl, ?_⟩
                rintro _ _ ⟨rfl, rfl⟩
                refine ⟨[some (.map (some b4)), some (.pointer (some ⟨b11, 1, none⟩)), some (.string key), some (.pointer (some ⟨b, 0, none⟩)), some (.int .i64 ((delO key (callS s).2.2).now)), some (.int .i64 (((delO key (callS s).2.2).now) + 1)), some (undef)], more_mk ⟨rfl, rfl, rfl, rfl, rfl, rfl, trivial⟩ rfl, ?_⟩
                refine ⟨rfl, ⟨.inl rfl, .inl rfl, .inl rfl, .inl rfl, .inl rfl, .inl rfl, .inl rfl, trivial⟩, [.old 0, .old 1, .old 5, .old 7, .old 8, .old 9], [(0, .slice (some ⟨b0, off0, none⟩) ops.length cap0), (1, .int .i64 m2), (5, .pointer (some ⟨b, 0, none⟩)), (7, .map (some b3)), (8, .map (some b4)), (9, .int .i64 ((i : Nat) : Int))], rfl, rfl, ?_⟩
                refine at_block ?_
                refine at_pick (M := [_, _, _, _, _, _, _, _]) [0, 1, 2, 3, 7, 8, 9, 10] ⟨rfl, rfl, rfl, rfl, rfl, rfl, rfl, rfl, trivial⟩ (by decide) ?_
                rw [cv_put]
                have hphi : StOk (delO key (callS s).2.2) (2 * i + 1) ∧ LI (delO key (callS s).2.2) (ca) (aput we key ((delO key (callS s).2.2).now + 1)) ∧ LN (delO key (callS s).2.2) m2 (i + 1) := ⟨hst.callDel key, (by rw [delO_now]; exact hli.call.delOld (by rw [callS_objs, hg19]; rfl) (by rw [callS_now]; exact hst.now0) (by rw [callS_now]; exact hst.now1)), (hln.call.del key).more⟩
                exact at_mid ((delO key (callS s).2.2), v32, l33, ca, aput we key ((delO key (callS s).2.2).now + 1)) hphi ⟨rfl, rfl, rfl, rfl, rfl, rfl, trivial⟩ rfl
              · skip
                have hl39 : aget (callS s).2.2.objs key = some v20 := by rw [callS_objs]; exact hg19
                have hgd : StOk (callS s).2.2 (2 * i + 1) := hst.call
                have hgn := hgd.now0
                have hgm := hgd.now1
                refine wl_nil ?_
                refine at_then ?_
                refine wc_seq ?_
                refine wc_region ?_
                refine wl_1 trivial rfl (do_move rfl) ?_
                refine wl_1 trivial rfl (do_fieldAddr (k := 1) (k' := 1) fo_34_1 rfl (by rfl)) ?_
                refine wl_1 trivial rfl (do_load 5 rfl one_9 rfl rfl) ?_
                refine wl_do trivial rfl (do_call (look_some B b r v32 l33 (callS s).2.2 key (hgd).ok v20 hl39) ⟨rfl, rfl, trivial⟩ enters_20 [0, 1, 2, 3] [4, 5, 6, 7, 8, 9] ⟨rfl, rfl, rfl, rfl, trivial⟩ ⟨rfl, rfl, rfl, rfl, rfl, rfl, trivial⟩ (R := [_, _, _, _, _, _]) (by decide)) ?_
                rintro _ _ ⟨_, ⟨x40, rfl, rfl⟩, rfl⟩
                refine wl_1 trivial rfl (do_move rfl) ?_
                refine wl_1 trivial rfl (do_extract rfl rfl) ?_
                refine wl_1 trivial rfl (do_extract rfl rfl) ?_
                refine wl_1 trivial rfl (do_assign rfl) ?_
                refine wl_1 trivial rfl (do_assign rfl) ?_
                refine wl_nil ?_
                refine at_then ?_
                refine wc_seq ?_
                refine wc_region ?_
                refine wl_1 trivial rfl (do_move rfl) ?_
                refine wl_1 trivial rfl (do_move rfl) ?_
                refine wl_1 ⟨_, rfl, rfl⟩ rfl (do_move rfl) ?_
                refine wl_1 ⟨_, rfl, rfl⟩ rfl (do_not (c := true) rfl) ?_
                refine wl_1 trivial rfl (do_pickT rfl rfl) ?_
                refine wl_nil ?_
                refine at_then ?_
                refine wc_false rfl ?_
                refine wc_skip ?_
                refine at_block ?_
                refine at_pick (M := [_, _, _, _, _, _, _, _]) [0, 1, 2, 3, 7, 8, 9, 10] ⟨rfl, rfl, rfl, rfl, rfl, rfl, rfl, rfl, trivial⟩ (by decide) ?_
                have hphi : StOk (callS s).2.2 (2 * i + 1) ∧ LI (callS s).2.2 (ca) (we) ∧ LN (callS s).2.2 m2 (i + 1) := ⟨hst.call, hli.call, hln.call.more⟩
                exact at_mid ((callS s).2.2, v32, l33, ca, we) hphi ⟨rfl, rfl, rfl, rfl, rfl, rfl, trivial⟩ rfl
        · have p_c12 := cmp_eql_t h_c12
          refine wc_true rfl ?_
          refine wc_seq ?_
          refine wc_region ?_
          refine wl_1 trivial rfl (do_move rfl) ?_
          refine wl_1 trivial rfl (do_fieldAddr (k := 1) (k' := 1) fo_34_1 rfl (by rfl)) ?_
          refine wl_1 trivial rfl (do_load 0 rfl one_9 rfl rfl) ?_
          rcases hg42 : aget s.objs key with _ | v43
          · skip
            refine wl_do trivial rfl (do_call (look_none B b r v lv s key (hst).ok hg42) ⟨rfl, rfl, trivial⟩ enters_20 [1, 2, 3, 4] [0, 5, 6, 7, 8] ⟨rfl, rfl, rfl, rfl, trivial⟩ ⟨rfl, rfl, rfl, rfl, rfl, trivial⟩ (R := [_, _, _, _, _]) (by decide)) ?_
            rintro _ _ ⟨_, ⟨x44, rfl, rfl⟩, rfl⟩
            refine wl_1 trivial rfl (do_move rfl) ?_
            refine wl_1 trivial rfl (do_extract rfl rfl) ?_
            refine wl_1 trivial rfl (do_extract rfl rfl) ?_
            refine wl_1 trivial rfl (do_assign rfl) ?_
            refine wl_1 trivial rfl (do_assign rfl) ?_
            refine wl_nil ?_
            refine at_then ?_
            refine wc_seq ?_
            refine wc_region ?_
            refine wl_1 trivial rfl (do_move rfl) ?_
            refine wl_1 trivial rfl (do_fieldAddr (k := 1) (k' := 1) fo_34_1 rfl (by rfl)) ?_
            refine wl_1 trivial rfl (do_load 5 rfl one_9 rfl rfl) ?_
            refine wl_1 trivial rfl (do_fieldAddr (k := 2) (k' := 2) fo_34_2 rfl (by rfl)) ?_
            refine wl_1 trivial rfl (do_load 5 rfl one_32 rfl rfl) ?_
            refine wl_do trivial rfl (do_call (put_alts B b r v lv s key a2 cap2 bs AnyP ((2 * i)) (hst) (by omega) hop.key hop.rd) ⟨rfl, rfl, rfl, trivial⟩ enters_21 [0, 1, 2, 3, 8] [4, 5, 6, 7, 9] ⟨rfl, rfl, rfl, rfl, rfl, trivial⟩ ⟨rfl, rfl, rfl, rfl, rfl, trivial⟩ (R := [_, _, _, _, _]) (by decide)) ?_
            rintro _ _ ⟨_, (⟨_, v45, l46, (rfl | rfl | rfl), rfl, rfl⟩ | ⟨_, v45, l46, (rfl | rfl), hbl, rfl, rfl⟩ | ⟨v45, l46, rfl, rfl⟩), rfl⟩
            · skip
              have hgd : StOk s (2 * i + 1) := hst.more (Nat.le_succ _)
              have hgn := hgd.now0
              have hgm := hgd.now1
              refine wl_nil ?_
              refine at_then ?_
              refine wc_seq ?_
              refine wc_region ?_
              refine wl_1 trivial rfl (do_move rfl) ?_
              refine wl_1 trivial rfl (do_fieldAddr (k := 1) (k' := 1) fo_34_1 rfl (by rfl)) ?_
              refine wl_1 trivial rfl (do_load 6 rfl one_9 rfl rfl) ?_
              refine wl_do trivial rfl (do_call (look_none B b r v45 l46 s key (hgd).ok hg42) ⟨rfl, rfl, trivial⟩ enters_20 [0, 1, 2, 3] [4, 5, 6, 7, 8, 9] ⟨rfl, rfl, rfl, rfl, trivial⟩ ⟨rfl, rfl, rfl, rfl, rfl, rfl, trivial⟩ (R := [_, _, _, _, _, _]) (by decide)) ?_
              rintro _ _ ⟨_, ⟨x47, rfl, rfl⟩, rfl⟩
              refine wl_1 trivial rfl (do_move rfl) ?_
              refine wl_1 trivial rfl (do_extract rfl rfl) ?_
              refine wl_1 trivial rfl (do_extract rfl rfl) ?_
              refine wl_1 trivial rfl (do_assign rfl) ?_
              refine wl_1 trivial rfl (do_assign rfl) ?_
              refine wl_nil ?_
              refine at_then ?_
              refine wc_seq ?_
              refine wc_region ?_
              refine wl_1 trivial rfl (do_move rfl) ?_
              refine wl_1 trivial rfl (do_move rfl) ?_
              refine wl_no rfl rfl rfl rfl rfl ?_
              refine wl_no rfl rfl rfl rfl rfl ?_
              refine wl_1 trivial rfl (do_pickF rfl rfl) ?_
              refine wl_nil ?_
              refine at_then ?_
              refine wc_false rfl ?_
              refine wc_skip ?_
              refine at_block ?_
              refine at_pick (M := [_, _, _, _, _, _, _, _]) [0, 1, 2, 3, 8, 9, 5, 10] ⟨rfl, rfl, rfl, rfl, rfl, rfl, rfl, rfl, trivial⟩ (by decide) ?_
              have hphi : StOk s (2 * i + 1) ∧ LI s (ca) (we) ∧ LN s m2 (i + 1) := ⟨hst.more (Nat.le_succ _), hli, hln.more⟩
              exact at_mid (s, v45, l46, ca, we) hphi ⟨rfl, rfl, rfl, rfl, rfl, rfl, trivial⟩ rfl
            · skip
              have hgd : StOk s (2 * i + 1) := hst.more (Nat.le_succ _)
              have hgn := hgd.now0
              have hgm := hgd.now1
              refine wl_nil ?_
              refine at_then ?_
              refine wc_seq ?_
              refine wc_region ?_
              refine wl_1 trivial rfl (do_move rfl) ?_
              refine wl_1 trivial rfl (do_fieldAddr (k := 1) (k' := 1) fo_34_1 rfl (by rfl)) ?_
              refine wl_1 trivial rfl (do_load 6 rfl one_9 rfl rfl) ?_
              refine wl_do trivial rfl (do_call (look_none B b r v45 l46 s key (hgd).ok hg42) ⟨rfl, rfl, trivial⟩ enters_20 [0, 1, 2, 3] [4, 5, 6, 7, 8, 9] ⟨rfl, rfl, rfl, rfl, trivial⟩ ⟨rfl, rfl, rfl, rfl, rfl, rfl, trivial⟩ (R := [_, _, _, _, _, _]) (by decide)) ?_
              rintro _ _ ⟨_, ⟨x48, rfl, rfl⟩, rfl⟩
              refine wl_1 trivial rfl (do_move rfl) ?_
              refine wl_1 trivial rfl (do_extract rfl rfl) ?_
              refine wl_1 trivial rfl (do_extract rfl rfl) ?_
              refine wl_1 trivial rfl (do_assign rfl) ?_
              refine wl_1 trivial rfl (do_assign rfl) ?_
              refine wl_nil ?_
              refine at_then ?_
              refine wc_seq ?_
              refine wc_region ?_
              refine wl_1 trivial rfl (do_move rfl) ?_
              refine wl_1 trivial rfl (do_move rfl) ?_
              refine wl_no rfl rfl rfl rfl rfl ?_
              refine wl_no rfl rfl rfl rfl rfl ?_
              refine wl_1 trivial rfl (do_pickF rfl rfl) ?_
              refine wl_nil ?_
              refine at_then ?_
              refine wc_false rfl ?_
              refine wc_skip ?_
              refine at_block ?_
              refine at_pick (M := [_, _, _, _, _, _, _, _]) [0, 1, 2, 3, 8, 9, 5, 10] ⟨rfl, rfl, rfl, rfl, rfl, rfl, rfl, rfl, trivial⟩ (by decide) ?_
              have hphi : StOk s (2 * i + 1) ∧ LI s (ca) (we) ∧ LN s m2 (i + 1) := ⟨hst.more (Nat.le_succ _), hli, hln.more⟩
              exact at_mid (s, v45, l46, ca, we) hphi ⟨rfl, rfl, rfl, rfl, rfl, rfl, trivial⟩ rfl
            · skip
              have hgd : StOk s (2 * i + 1) := hst.more (Nat.le_succ _)
              have hgn := hgd.now0
              have hgm := hgd.now1
              refine wl_nil ?_
              refine at_then ?_
              refine wc_seq ?_
              refine wc_region ?_
              refine wl_1 trivial rfl (do_move rfl) ?_
              refine wl_1 trivial rfl (do_fieldAddr (k := 1) (k' := 1) fo_34_1 rfl (by rfl)) ?_
              refine wl_1 trivial rfl (do_load 6 rfl one_9 rfl rfl) ?_
              refine wl_do trivial rfl (do_call (look_none B b r v45 l46 s key (hgd).ok hg42) ⟨rfl, rfl, trivial⟩ enters_20 [0, 1, 2, 3] [4, 5, 6, 7, 8, 9] ⟨rfl, rfl, rfl, rfl, trivial⟩ ⟨rfl, rfl, rfl, rfl, rfl, rfl, trivial⟩ (R := [_, _, _, _, _, _]) (by decide)) ?_
              rintro _ _ ⟨_, ⟨x49, rfl, rfl⟩, rfl⟩
              refine wl_1 trivial rfl (do_move rfl) ?_
              refine wl_1 trivial rfl (do_extract rfl rfl) ?_
              refine wl_1 trivial rfl (do_extract rfl rfl) ?_
              refine wl_1 trivial rfl (do_assign rfl) ?_
              refine wl_1 trivial rfl (do_assign rfl) ?_
              refine wl_nil ?_
              refine at_then ?_
              refine wc_seq ?_
              refine wc_region ?_
              refine wl_1 trivial rfl (do_move rfl) ?_
              refine wl_1 trivial rfl (do_move rfl) ?_
              refine wl_no rfl rfl rfl rfl rfl ?_
              refine wl_no rfl rfl rfl rfl rfl ?_
              refine wl_1 trivial rfl (do_pickF rfl rfl) ?_
              refine wl_nil ?_
              refine at_then ?_
              refine wc_false rfl ?_
              refine wc_skip ?_
              refine at_block ?_
              refine at_pick (M := [_, _, _, _, _, _, _, _]) [0, 1, 2, 3, 8, 9, 5, 10] ⟨rfl, rfl, rfl, rfl, rfl, rfl, rfl, rfl, trivial⟩ (by decide) ?_
              have hphi : StOk s (2 * i + 1) ∧ LI s (ca) (we) ∧ LN s m2 (i + 1) := ⟨hst.more (Nat.le_succ _), hli, hln.more⟩
              exact at_mid (s, v45, l46, ca, we) hphi ⟨rfl, rfl, rfl, rfl, rfl, rfl, trivial⟩ rfl
            · skip
              have hl50 : aget (putO key bs (callS s).2.2).objs key = some bs := by rw [putO_get, if_pos rfl]
              have hgd : StOk (putO key bs (callS s).2.2) (2 * i + 1) := hst.callPut key hbl
              have hgn := hgd.now0
              have hgm := hgd.now1
              refine wl_nil ?_
              refine at_then ?_
              refine wc_seq ?_
              refine wc_region ?_
              refine wl_1 trivial rfl (do_move rfl) ?_
              refine wl_1 trivial rfl (do_fieldAddr (k := 1) (k' := 1) fo_34_1 rfl (by rfl)) ?_
              refine wl_1 trivial rfl (do_load 6 rfl one_9 rfl rfl) ?_
              refine wl_do trivial rfl (do_call (look_some B b r v45 l46 (putO key bs (callS s).2.2) key (hgd).ok bs hl50) ⟨rfl, rfl, trivial⟩ enters_20 [0, 1, 2, 3] [4, 5, 6, 7, 8, 9] ⟨rfl, rfl, rfl, rfl, trivial⟩ ⟨rfl, rfl, rfl, rfl, rfl, rfl, trivial⟩ (R := [_, _, _, _, _, _]) (by decide)) ?_
              rintro _ _ ⟨_, ⟨x51, rfl, rfl⟩, rfl⟩
              refine wl_1 trivial rfl (do_move rfl) ?_
              refine wl_1 trivial rfl (do_extract rfl rfl) ?_
              refine wl_1 trivial rfl (do_extract rfl rfl) ?_
              refine wl_1 trivial rfl (do_assign rfl) ?_
              refine wl_1 trivial rfl (do_assign rfl) ?_
              refine wl_nil ?_
              refine at_then ?_
              refine wc_seq ?_
              refine wc_region ?_
              refine wl_1 trivial rfl (do_move rfl) ?_
              refine wl_1 trivial rfl (do_move rfl) ?_
              refine wl_1 ⟨_, rfl, rfl⟩ rfl (do_move rfl) ?_
              refine wl_1 ⟨_, rfl, rfl⟩ rfl (do_not (c := false) rfl) ?_
              refine wl_1 trivial rfl (do_pickT rfl rfl) ?_
              refine wl_nil ?_
              refine at_then ?_
              refine wc_true rfl ?_
              refine wc_draw [[], [], [1], [], [3], [3, 4], [0, 1, 2, 3, 4, 5]] [some (.map (some b3)), some (.pointer (some ⟨b11, 1, none⟩)), some (.string key), some (.pointer (some ⟨b, 0, none⟩)), none, none, none] [4, 6] mixed (by kernel_rfl) (by decide) ⟨rfl, rfl, ⟨.inr ⟨_, [.old 7], rfl, rfl, .inl ⟨trivial, do_move rfl⟩⟩, .inr ⟨_, [.old 10], rfl, rfl, .inl ⟨trivial, do_fieldAddr (k := 1) (k' := 1) fo_34_1 rfl (by rfl)⟩⟩, .inr ⟨_, [.op 1], rfl, rfl, .inl ⟨trivial, do_load 7 rfl one_9 rfl rfl⟩⟩, .inr ⟨_, [.old 5], rfl, rfl, .inl ⟨trivial, do_move rfl⟩⟩, trivial⟩, _, [.op 3], _, rfl, rfl, trivial, do_call (now_made B b r v45 l46 (putO key bs (callS s).2.2)) ⟨rfl, trivial⟩ enters_26 [0] [1, 2, 3, 4, 5, 6, 7, 8, 9, 10] ⟨rfl, trivial⟩ ⟨rfl, rfl, rfl, rfl, rfl, rfl, rfl, rfl, rfl, rfl, trivial⟩ (R := [_, _, _, _, _, _, _, _, _, _]) (by decide), ?_⟩
              rintro _ _ ⟨_, ⟨rfl, rfl⟩, rfl⟩
              refine ⟨[some (.map (some b3)), some (.pointer (some ⟨b11, 1, none⟩)), some (.string key), some (.pointer (some ⟨b, 0, none⟩)), some (.int .i64 ((putO key bs (callS s).2.2).now)), some (.int .i64 (((putO key bs (callS s).2.2).now) + 1)), none], more_mk ⟨rfl, rfl, rfl, rfl, trivial⟩ rfl, ?_⟩
              refine ⟨rfl, rfl, ⟨.inr ⟨_, [.old 7], rfl, rfl, .inl ⟨trivial, do_move rfl⟩⟩, .inr ⟨_, [.old 10], rfl, rfl, .inl ⟨trivial, do_fieldAddr (k := 1) (k' := 1) fo_34_1 rfl (by rfl)⟩⟩, .inr ⟨_, [.op 1], rfl, rfl, .inl ⟨trivial, do_load 7 rfl one_9 rfl rfl⟩⟩, .inl rfl, .inl rfl, .inr ⟨_, [.op 4], rfl, rfl, .inl ⟨trivial, do_add (r := ((putO key bs (callS s).2.2).now) + 1) rfl rfl (wrap_i64 (by omega) (by omega))⟩⟩, trivial⟩, _, [.op 0, .op 2, .op 5], _, rfl, rfl, trivial, do_mapUpdate (L1 := [_, _, _, _, _, _, _, _]) und_57 key_9 rfl rfl rfl, ?_⟩
              rintro _ _ ⟨rfl, rfl⟩
              refine ⟨[some (.map (some b3)), some (.pointer (some ⟨b11, 1, none⟩)), some (.string key), some (.pointer (some ⟨b, 0, none⟩)), some (.int .i64 ((putO key bs (callS s).2.2).now)), some (.int .i64 (((putO key bs (callS s).2.2).now) + 1)), some (undef)], more_mk ⟨rfl, rfl, rfl, rfl, rfl, rfl, trivial⟩ rfl, ?_⟩
              refine ⟨rfl, ⟨.inl rfl, .inl rfl, .inl rfl, .inl rfl, .inl rfl, .inl rfl, .inl rfl, trivial⟩, [.old 0, .old 1, .old 5, .old 7, .old 8, .old 9], [(0, .slice (some ⟨b0, off0, none⟩) ops.length cap0), (1, .int .i64 m2), (5, .pointer (some ⟨b, 0, none⟩)), (7, .map (some b3)), (8, .map (some b4)), (9, .int .i64 ((i : Nat) : Int))], rfl, rfl, ?_⟩
              refine at_block ?_
              refine at_pick (M := [_, _, _, _, _, _, _, _]) [0, 1, 2, 3, 8, 9, 5, 10] ⟨rfl, rfl, rfl, rfl, rfl, rfl, rfl, rfl, trivial⟩ (by decide) ?_
              rw [cv_put]
              have hphi : StOk (putO key bs (callS s).2.2) (2 * i + 1) ∧ LI (putO key bs (callS s).2.2) (aput ca key ((putO key bs (callS s).2.2).now + 1)) (we) ∧ LN (putO key bs (callS s).2.2) m2 (i + 1) := ⟨hst.callPut key hbl, (by rw [putO_now]; exact hli.call.putNew bs (by rw [callS_objs, hg42]; simp) (by rw [callS_now]; exact hst.now0) (by rw [callS_now]; exact hst.now1)), (hln.call.put key bs).more⟩
              exact at_mid ((putO key bs (callS s).2.2), v45, l46, aput ca key ((putO key bs (callS s).2.2).now + 1), we) hphi ⟨rfl, rfl, rfl, rfl, rfl, rfl, trivial⟩ rfl
            · skip
              have hl52 : aget (putO key bs (callS s).2.2).objs key = some bs := by rw [putO_get, if_pos rfl]
              have hgd : StOk (putO key bs (callS s).2.2) (2 * i + 1) := hst.callPut key hbl
              have hgn := hgd.now0
              have hgm := hgd.now1
              refine wl_nil ?_
              refine at_then ?_
              refine wc_seq ?_
              refine wc_region ?_
              refine wl_1 trivial rfl (do_move rfl) ?_
              refine wl_1 trivial rfl (do_fieldAddr (k := 1) (k' := 1) fo_34_1 rfl (by rfl)) ?_
              refine wl_1 trivial rfl (do_load 6 rfl one_9 rfl rfl) ?_
              refine wl_do trivial rfl (do_call (look_some B b r v45 l46 (putO key bs (callS s).2.2) key (hgd).ok bs hl52) ⟨rfl, rfl, trivial⟩ enters_20 [0, 1, 2, 3] [4, 5, 6, 7, 8, 9] ⟨rfl, rfl, rfl, rfl, trivial⟩ ⟨rfl, rfl, rfl, rfl, rfl, rfl, trivial⟩ (R := [_, _, _, _, _, _]) (by decide)) ?_
              rintro _ _ ⟨_, ⟨x53, rfl, rfl⟩, rfl⟩
              refine wl_1 trivial rfl (do_move rfl) ?_
              refine wl_1 trivial rfl (do_extract rfl rfl) ?_
              refine wl_1 trivial rfl (do_extract rfl rfl) ?_
              refine wl_1 trivial rfl (do_assign rfl) ?_
              refine wl_1 trivial rfl (do_assign rfl) ?_
              refine wl_nil ?_
              refine at_then ?_
              refine wc_seq ?_
              refine wc_region ?_
              refine wl_1 trivial rfl (do_move rfl) ?_
              refine wl_1 trivial rfl (do_move rfl) ?_
              refine wl_1 ⟨_, rfl, rfl⟩ rfl (do_move rfl) ?_
              refine wl_1 ⟨_, rfl, rfl⟩ rfl (do_not (c := false) rfl) ?_
              refine wl_1 trivial rfl (do_pickT rfl rfl) ?_
              refine wl_nil ?_
              refine at_then ?_
              refine wc_true rfl ?_
              refine wc_draw [[], [], [1], [], [3], [3, 4], [0, 1, 2, 3, 4, 5]] [some (.map (some b3)), some (.pointer (some ⟨b11, 1, none⟩)), some (.string key), some (.pointer (some ⟨b, 0, none⟩)), none, none, none] [4, 6] mixed (by kernel_rfl) (by decide) ⟨rfl, rfl, ⟨.inr ⟨_, [.old 7], rfl, rfl, .inl ⟨trivial, do_move rfl⟩⟩, .inr ⟨_, [.old 10], rfl, rfl, .inl ⟨trivial, do_fieldAddr (k := 1) (k' := 1) fo_34_1 rfl (by rfl)⟩⟩, .inr ⟨_, [.op 1], rfl, rfl, .inl ⟨trivial, do_load 7 rfl one_9 rfl rfl⟩⟩, .inr ⟨_, [.old 5], rfl, rfl, .inl ⟨trivial, do_move rfl⟩⟩, trivial⟩, _, [.op 3], _, rfl, rfl, trivial, do_call (now_made B b r v45 l46 (putO key bs (callS s).2.2)) ⟨rfl, trivial⟩ enters_26 [0] [1, 2, 3, 4, 5, 6, 7, 8, 9, 10] ⟨rfl, trivial⟩ ⟨rfl, rfl, rfl, rfl, rfl, rfl, rfl, rfl, rfl, rfl, trivial⟩ (R := [_, _, _, _, _, _, _, _, _, _]) (by decide), ?_⟩
              rintro _ _ ⟨_, ⟨rfl, rfl⟩, rfl⟩
              refine ⟨[some (.map (some b3)), some (.pointer (some ⟨b11, 1, none⟩)), some (.string key), some (.pointer (some ⟨b, 0, none⟩)), some (.int .i64 ((putO key bs (callS s).2.2).now)), some (.int .i64 (((putO key bs (callS s).2.2).now) + 1)), none], more_mk ⟨rfl, rfl, rfl, rfl, trivial⟩ rfl, ?_⟩
              refine ⟨rfl, rfl, ⟨.inr ⟨_, [.old 7], rfl, rfl, .inl ⟨trivial, do_move rfl⟩⟩, .inr ⟨_, [.old 10], rfl, rfl, .inl ⟨trivial, do_fieldAddr (k := 1) (k' := 1) fo_34_1 rfl (by rfl)⟩⟩, .inr ⟨_, [.op 1], rfl, rfl, .inl ⟨trivial, do_load 7 rfl one_9 rfl rfl⟩⟩, .inl rfl, .inl rfl, .inr ⟨_, [.op 4], rfl, rfl, .inl ⟨trivial, do_add (r := ((putO key bs (callS s).2.2).now) + 1) rfl rfl (wrap_i64 (by omega) (by omega))⟩⟩, trivial⟩, _, [.op 0, .op 2, .op 5], _, rfl, rfl, trivial, do_mapUpdate (L1 := [_, _, _, _, _, _, _, _]) und_57 key_9 rfl rfl rfl, ?_⟩
              rintro _ _ ⟨rfl, rfl⟩
              refine ⟨[some (.map (some b3)), some (.pointer (some ⟨b11, 1, none⟩)), some (.string key), some (.pointer (some ⟨b, 0, none⟩)), some (.int .i64 ((putO key bs (callS s).2.2).now)), some (.int .i64 (((putO key bs (callS s).2.2).now) + 1)), some (undef)], more_mk ⟨rfl, rfl, rfl, rfl, rfl, rfl, trivial⟩ rfl, ?_⟩
              refine ⟨rfl, ⟨.inl rfl, .inl rfl, .inl rfl, .inl rfl, .inl rfl, .inl rfl, .inl rfl, trivial⟩, [.old 0, .old 1, .old 5, .old 7, .old 8, .old 9], [(0, .slice (some ⟨b0, off0, none⟩) ops.length cap0), (1, .int .i64 m2), (5, .pointer (some ⟨b, 0, none⟩)), (7, .map (some b3)), (8, .map (some b4)), (9, .int .i64 ((i : Nat) : Int))], rfl, rfl, ?_⟩
              refine at_block ?_
              refine at_pick (M := [_, _, _, _, _, _, _, _]) [0, 1, 2, 3, 8, 9, 5, 10] ⟨rfl, rfl, rfl, rfl, rfl, rfl, rfl, rfl, trivial⟩ (by decide) ?_
              rw [cv_put]
              have hphi : StOk (putO key bs (callS s).2.2) (2 * i + 1) ∧ LI (putO key bs (callS s).2.2) (aput ca key ((putO key bs (callS s).2.2).now + 1)) (we) ∧ LN (putO key bs (callS s).2.2) m2 (i + 1) := ⟨hst.callPut key hbl, (by rw [putO_now]; exact hli.call.putNew bs (by rw [callS_objs, hg42]; simp) (by rw [callS_now]; exact hst.now0) (by rw [callS_now]; exact hst.now1)), (hln.call.put key bs).more⟩
              exact at_mid ((putO key bs (callS s).2.2), v45, l46, aput ca key ((putO key bs (callS s).2.2).now + 1), we) hphi ⟨rfl, rfl, rfl, rfl, rfl, rfl, trivial⟩ rfl
            · skip
              have hl54 : aget (callS s).2.2.objs key = none := by rw [callS_objs]; exact hg42
              have hgd : StOk (callS s).2.2 (2 * i + 1) := hst.call
              have hgn := hgd.now0
              have hgm := hgd.now1
              refine wl_nil ?_
              refine at_then ?_
              refine wc_seq ?_
              refine wc_region ?_
              refine wl_1 trivial rfl (do_move rfl) ?_
              refine wl_1 trivial rfl (do_fieldAddr (k := 1) (k' := 1) fo_34_1 rfl (by rfl)) ?_
              refine wl_1 trivial rfl (do_load 6 rfl one_9 rfl rfl) ?_
              refine wl_do trivial rfl (do_call (look_none B b r v45 l46 (callS s).2.2 key (hgd).ok hl54) ⟨rfl, rfl, trivial⟩ enters_20 [0, 1, 2, 3] [4, 5, 6, 7, 8, 9] ⟨rfl, rfl, rfl, rfl, trivial⟩ ⟨rfl, rfl, rfl, rfl, rfl, rfl, trivial⟩ (R := [_, _, _, _, _, _]) (by decide)) ?_
              rintro _ _ ⟨_, ⟨x55, rfl, rfl⟩, rfl⟩
              refine wl_1 trivial rfl (do_move rfl) ?_
              refine wl_1 trivial rfl (do_extract rfl rfl) ?_
              refine wl_1 trivial rfl (do_extract rfl rfl) ?_
              refine wl_1 trivial rfl (do_assign rfl) ?_
              refine wl_1 trivial rfl (do_assign rfl) ?_
              refine wl_nil ?_
              refine at_then ?_
              refine wc_seq ?_
              refine wc_region ?_
              refine wl_1 trivial rfl (do_move rfl) ?_
              refine wl_1 trivial rfl (do_move rfl) ?_
              refine wl_no rfl rfl rfl rfl rfl ?_
              refine wl_no rfl rfl rfl rfl rfl ?_
              refine wl_1 trivial rfl (do_pickF rfl rfl) ?_
              refine wl_nil ?_
              refine at_then ?_
              refine wc_false rfl ?_
              refine wc_skip ?_
              refine at_block ?_
              refine at_pick (M := [_, _, _, _, _, _, _, _]) [0, 1, 2, 3, 8, 9, 5, 10] ⟨rfl, rfl, rfl, rfl, rfl, rfl, rfl, rfl, trivial⟩ (by decide) ?_
              have hphi : StOk (callS s).2.2 (2 * i + 1) ∧ LI (callS s).2.2 (ca) (we) ∧ LN (callS s).2.2 m2 (i + 1) := ⟨hst.call, hli.call, hln.call.more⟩
              exact at_mid ((callS s).2.2, v45, l46, ca, we) hphi ⟨rfl, rfl, rfl, rfl, rfl, rfl, trivial⟩ rfl
          · skip
            refine wl_do trivial rfl (do_call (look_some B b r v lv s key (hst).ok v43 hg42) ⟨rfl, rfl, trivial⟩ enters_20 [1, 2, 3, 4] [0, 5, 6, 7, 8] ⟨rfl, rfl, rfl, rfl, trivial⟩ ⟨rfl, rfl, rfl, rfl, rfl, trivial⟩ (R := [_, _, _, _, _]) (by decide)) ?_
            rintro _ _ ⟨_, ⟨x56, rfl, rfl⟩, rfl⟩
            refine wl_1 trivial rfl (do_move rfl) ?_
            refine wl_1 trivial rfl (do_extract rfl rfl) ?_
            refine wl_1 trivial rfl (do_extract rfl rfl) ?_
            refine wl_1 trivial rfl (do_assign rfl) ?_
            refine wl_1 trivial rfl (do_assign rfl) ?_
            refine wl_nil ?_
            refine at_then ?_
            refine wc_seq ?_
            refine wc_region ?_
            refine wl_1 trivial rfl (do_move rfl) ?_
            refine wl_1 trivial rfl (do_fieldAddr (k := 1) (k' := 1) fo_34_1 rfl (by rfl)) ?_
            refine wl_1 trivial rfl (do_load 5 rfl one_9 rfl rfl) ?_
            refine wl_1 trivial rfl (do_fieldAddr (k := 2) (k' := 2) fo_34_2 rfl (by rfl)) ?_
            refine wl_1 trivial rfl (do_load 5 rfl one_32 rfl rfl) ?_
            refine wl_do trivial rfl (do_call (put_alts B b r v lv s key a2 cap2 bs AnyP ((2 * i)) (hst) (by omega) hop.key hop.rd) ⟨rfl, rfl, rfl, trivial⟩ enters_21 [0, 1, 2, 3, 8] [4, 5, 6, 7, 9] ⟨rfl, rfl, rfl, rfl, rfl, trivial⟩ ⟨rfl, rfl, rfl, rfl, rfl, trivial⟩ (R := [_, _, _, _, _]) (by decide)) ?_
            rintro _ _ ⟨_, (⟨_, v57, l58, (rfl | rfl | rfl), rfl, rfl⟩ | ⟨_, v57, l58, (rfl | rfl), hbl, rfl, rfl⟩ | ⟨v57, l58, rfl, rfl⟩), rfl⟩
            · skip
              have hgd : StOk s (2 * i + 1) := hst.more (Nat.le_succ _)
              have hgn := hgd.now0
              have hgm := hgd.now1
              refine wl_nil ?_
              refine at_then ?_
              refine wc_seq ?_
              refine wc_region ?_
              refine wl_1 trivial rfl (do_move rfl) ?_
              refine wl_1 trivial rfl (do_fieldAddr (k := 1) (k' := 1) fo_34_1 rfl (by rfl)) ?_
              refine wl_1 trivial rfl (do_load 6 rfl one_9 rfl rfl) ?_
              refine wl_do trivial rfl (do_call (look_some B b r v57 l58 s key (hgd).ok v43 hg42) ⟨rfl, rfl, trivial⟩ enters_20 [0, 1, 2, 3] [4, 5, 6, 7, 8, 9] ⟨rfl, rfl, rfl, rfl, trivial⟩ ⟨rfl, rfl, rfl, rfl, rfl, rfl, trivial⟩ (R := [_, _, _, _, _, _]) (by decide)) ?_
              rintro _ _ ⟨_, ⟨x59, rfl, rfl⟩, rfl⟩
              refine wl_1 trivial rfl (do_move rfl) ?_
              refine wl_1 trivial rfl (do_extract rfl rfl) ?_
              refine wl_1 trivial rfl (do_extract rfl rfl) ?_
              refine wl_1 trivial rfl (do_assign rfl) ?_
              refine wl_1 trivial rfl (do_assign rfl) ?_
              refine wl_nil ?_
              refine at_then ?_
              refine wc_seq ?_
              refine wc_region ?_
              refine wl_1 trivial rfl (do_move rfl) ?_
              refine wl_1 trivial rfl (do_move rfl) ?_
              refine wl_1 ⟨_, rfl, rfl⟩ rfl (do_move rfl) ?_
              refine wl_1 ⟨_, rfl, rfl⟩ rfl (do_not (c := true) rfl) ?_
              refine wl_1 trivial rfl (do_pickT rfl rfl) ?_
              refine wl_nil ?_
              refine at_then ?_
              refine wc_false rfl ?_
              refine wc_skip ?_
              refine at_block ?_
              refine at_pick (M := [_, _, _, _, _, _, _, _]) [0, 1, 2, 3, 8, 9, 5, 10] ⟨rfl, rfl, rfl, rfl, rfl, rfl, rfl, rfl, trivial⟩ (by decide) ?_
              have hphi : StOk s (2 * i + 1) ∧ LI s (ca) (we) ∧ LN s m2 (i + 1) := ⟨hst.more (Nat.le_succ _), hli, hln.more⟩
              exact at_mid (s, v57, l58, ca, we) hphi ⟨rfl, rfl, rfl, rfl, rfl, rfl, trivial⟩ rfl
            · skip
              have hgd : StOk s (2 * i + 1) := hst.more (Nat.le_succ _)
              have hgn := hgd.now0
              have hgm := hgd.now1
              refine wl_nil ?_
              refine at_then ?_
              refine wc_seq ?_
              refine wc_region ?_
              refine wl_1 trivial rfl (do_move rfl) ?_
              refine wl_1 trivial rfl (do_fieldAddr (k := 1) (k' := 1) fo_34_1 rfl (by rfl)) ?_
              refine wl_1 trivial rfl (do_load 6 rfl one_9 rfl rfl) ?_
              refine wl_do trivial rfl (do_call (look_some B b r v57 l58 s key (hgd).ok v43 hg42) ⟨rfl, rfl, trivial⟩ enters_20 [0, 1, 2, 3] [4, 5, 6, 7, 8, 9] ⟨rfl, rfl, rfl, rfl, trivial⟩ ⟨rfl, rfl, rfl, rfl, rfl, rfl, trivial⟩ (R := [_, _, _, _, _, _]) (by decide)) ?_
              rintro _ _ ⟨_, ⟨x60, rfl, rfl⟩, rfl⟩
              refine wl_1 trivial rfl (do_move rfl) ?_
              refine wl_1 trivial rfl (do_extract rfl rfl) ?_
              refine wl_1 trivial rfl (do_extract rfl rfl) ?_
              refine wl_1 trivial rfl (do_assign rfl) ?_
              refine wl_1 trivial rfl (do_assign rfl) ?_
              refine wl_nil ?_
              refine at_then ?_
              refine wc_seq ?_
              refine wc_region ?_
              refine wl_1 trivial rfl (do_move rfl) ?_
              refine wl_1 trivial rfl (do_move rfl) ?_
              refine wl_1 ⟨_, rfl, rfl⟩ rfl (do_move rfl) ?_
              refine wl_1 ⟨_, rfl, rfl⟩ rfl (do_not (c := true) rfl) ?_
              refine wl_1 trivial rfl (do_pickT rfl rfl) ?_
              refine wl_nil ?_
              refine at_then ?_
              refine wc_false rfl ?_
              refine wc_skip ?_
              refine at_block ?_
              refine at_pick (M := [_, _, _, _, _, _, _, _]) [0, 1, 2, 3, 8, 9, 5, 10] ⟨rfl, rfl, rfl, rfl, rfl, rfl, rfl, rfl, trivial⟩ (by decide) ?_
              have hphi : StOk s (2 * i + 1) ∧ LI s (ca) (we) ∧ LN s m2 (i + 1) := ⟨hst.more (Nat.le_succ _), hli, hln.more⟩
              exact at_mid (s, v57, l58, ca, we) hphi ⟨rfl, rfl, rfl, rfl, rfl, rfl, trivial⟩ rfl
            · skip
              have hgd : StOk s (2 * i + 1) := hst.more (Nat.le_succ _)
              have hgn := hgd.now0
              have hgm := hgd.now1
              refine wl_nil ?_
              refine at_then ?_
              refine wc_seq ?_
              refine wc_region ?_
              refine wl_1 trivial rfl (do_move rfl) ?_
              refine wl_1 trivial rfl (do_fieldAddr (k := 1) (k' := 1) fo_34_1 rfl (by rfl)) ?_
              refine wl_1 trivial rfl (do_load 6 rfl one_9 rfl rfl) ?_
              refine wl_do trivial rfl (do_call (look_some B b r v57 l58 s key (hgd).ok v43 hg42) ⟨rfl, rfl, trivial⟩ enters_20 [0, 1, 2, 3] [4, 5, 6, 7, 8, 9] ⟨rfl, rfl, rfl, rfl, trivial⟩ ⟨rfl, rfl, rfl, rfl, rfl, rfl, trivial⟩ (R := [_, _, _, _, _, _]) (by decide)) ?_
              rintro _ _ ⟨_, ⟨x61, rfl, rfl⟩, rfl⟩
              refine wl_1 trivial rfl (do_move rfl) ?_
              refine wl_1 trivial rfl (do_extract rfl rfl) ?_
              refine wl_1 trivial rfl (do_extract rfl rfl) ?_
              refine wl_1 trivial rfl (do_assign rfl) ?_
              refine wl_1 trivial rfl (do_assign rfl) ?_
              refine wl_nil ?_
              refine at_then ?_
              refine wc_seq ?_
              refine wc_region ?_
              refine wl_1 trivial rfl (do_move rfl) ?_
              refine wl_1 trivial rfl (do_move rfl) ?_
              refine wl_1 ⟨_, rfl, rfl⟩ rfl (do_move rfl) ?_
              refine wl_1 ⟨_, rfl, rfl⟩ rfl (do_not (c := true) rfl) ?_
              refine wl_1 trivial rfl (do_pickT rfl rfl) ?_
              refine wl_nil ?_
              refine at_then ?_
              refine wc_false rfl ?_
              refine wc_skip ?_
              refine at_block ?_
              refine at_pick (M := [_, _, _, _, _, _, _, _]) [0, 1, 2, 3, 8, 9, 5, 10] ⟨rfl, rfl, rfl, rfl, rfl, rfl, rfl, rfl, trivial⟩ (by decide) ?_
              have hphi : StOk s (2 * i + 1) ∧ LI s (ca) (we) ∧ LN s m2 (i + 1) := ⟨hst.more (Nat.le_succ _), hli, hln.more⟩
              exact at_mid (s, v57, l58, ca, we) hphi ⟨rfl, rfl, rfl, rfl, rfl, rfl, trivial⟩ rfl
            · skip
              have hl62 : aget (putO key bs (callS s).2.2).objs key = some bs := by rw [putO_get, if_pos rfl]
              have hgd : StOk (putO key bs (callS s).2.2) (2 * i + 1) := hst.callPut key hbl
              have hgn := hgd.now0
              have hgm := hgd.now1
              refine wl_nil ?_
              refine at_then ?_
              refine wc_seq ?_
              refine wc_region ?_
              refine wl_1 trivial rfl (do_move rfl) ?_
              refine wl_1 trivial rfl (do_fieldAddr (k := 1) (k' := 1) fo_34_1 rfl (by rfl)) ?_
              refine wl_1 trivial rfl (do_load 6 rfl one_9 rfl rfl) ?_
              refine wl_do trivial rfl (do_call (look_some B b r v57 l58 (putO key bs (callS s).2.2) key (hgd).ok bs hl62) ⟨rfl, rfl, trivial⟩ enters_20 [0, 1, 2, 3] [4, 5, 6, 7, 8, 9] ⟨rfl, rfl, rfl, rfl, trivial⟩ ⟨rfl, rfl, rfl, rfl, rfl, rfl, trivial⟩ (R := [_, _, _, _, _, _]) (by decide)) ?_
              rintro _ _ ⟨_, ⟨x63, rfl, rfl⟩, rfl⟩
              refine wl_1 trivial rfl (do_move rfl) ?_
              refine wl_1 trivial rfl (do_extract rfl rfl) ?_
              refine wl_1 trivial rfl (do_extract rfl rfl) ?_
              refine wl_1 trivial rfl (do_assign rfl) ?_
              refine wl_1 trivial rfl (do_assign rfl) ?_
              refine wl_nil ?_
              refine at_then ?_
              refine wc_seq ?_
              refine wc_region ?_
              refine wl_1 trivial rfl (do_move rfl) ?_
              refine wl_1 trivial rfl (do_move rfl) ?_
              refine wl_1 ⟨_, rfl, rfl⟩ rfl (do_move rfl) ?_
              refine wl_1 ⟨_, rfl, rfl⟩ rfl (do_not (c := true) rfl) ?_
              refine wl_1 trivial rfl (do_pickT rfl rfl) ?_
              refine wl_nil ?_
              refine at_then ?_
              refine wc_false rfl ?_
              refine wc_skip ?_
              refine at_block ?_
              refine at_pick (M := [_, _, _, _, _, _, _, _]) [0, 1, 2, 3, 8, 9, 5, 10] ⟨rfl, rfl, rfl, rfl, rfl, rfl, rfl, rfl, trivial⟩ (by decide) ?_
              have hphi : StOk (putO key bs (callS s).2.2) (2 * i + 1) ∧ LI (putO key bs (callS s).2.2) (ca) (we) ∧ LN (putO key bs (callS s).2.2) m2 (i + 1) := ⟨hst.callPut key hbl, hli.call.putOld bs (by rw [callS_objs, hg42]; rfl), (hln.call.put key bs).more⟩
              exact at_mid ((putO key bs (callS s).2.2), v57, l58, ca, we) hphi ⟨rfl, rfl, rfl, rfl, rfl, rfl, trivial⟩ rfl
            · skip
              have hl64 : aget (putO key bs (callS s).2.2).objs key = some bs := by rw [putO_get, if_pos rfl]
              have hgd : StOk (putO key bs (callS s).2.2) (2 * i + 1) := hst.callPut key hbl
              have hgn := hgd.now0
              have hgm := hgd.now1
              refine wl_nil ?_
              refine at_then ?_
              refine wc_seq ?_
              refine wc_region ?_
              refine wl_1 trivial rfl (do_move rfl) ?_
              refine wl_1 trivial rfl (do_fieldAddr (k := 1) (k' := 1) fo_34_1 rfl (by rfl)) ?_
              refine wl_1 trivial rfl (do_load 6 rfl one_9 rfl rfl) ?_
              refine wl_do trivial rfl (do_call (look_some B b r v57 l58 (putO key bs (callS s).2.2) key (hgd).ok bs hl64) ⟨rfl, rfl, trivial⟩ enters_20 [0, 1, 2, 3] [4, 5, 6, 7, 8, 9] ⟨rfl, rfl, rfl, rfl, trivial⟩ ⟨rfl, rfl, rfl, rfl, rfl, rfl, trivial⟩ (R := [_, _, _, _, _, _]) (by decide)) ?_
              rintro _ _ ⟨_, ⟨x65, rfl, rfl⟩, rfl⟩
              refine wl_1 trivial rfl (do_move rfl) ?_
              refine wl_1 trivial rfl (do_extract rfl rfl) ?_
              refine wl_1 trivial rfl (do_extract rfl rfl) ?_
              refine wl_1 trivial rfl (do_assign rfl) ?_
              refine wl_1 trivial rfl (do_assign rfl) ?_
              refine wl_nil ?_
              refine at_then ?_
              refine wc_seq ?_
              refine wc_region ?_
              refine wl_1 trivial rfl (do_move rfl) ?_
              refine wl_1 trivial rfl (do_move rfl) ?_
              refine wl_1 ⟨_, rfl, rfl⟩ rfl (do_move rfl) ?_
              refine wl_1 ⟨_, rfl, rfl⟩ rfl (do_not (c := true) rfl) ?_
              refine wl_1 trivial rfl (do_pickT rfl rfl) ?_
              refine wl_nil ?_
              refine at_then ?_
              refine wc_false rfl ?_
              refine wc_skip ?_
              refine at_block ?_
              refine at_pick (M := [_, _, _, _, _, _, _, _]) [0, 1, 2, 3, 8, 9, 5, 10] ⟨rfl, rfl, rfl, rfl, rfl, rfl, rfl, rfl, trivial⟩ (by decide) ?_
              have hphi : StOk (putO key bs (callS s).2.2) (2 * i + 1) ∧ LI (putO key bs (callS s).2.2) (ca) (we) ∧ LN (putO key bs (callS s).2.2) m2 (i + 1) := ⟨hst.callPut key hbl, hli.call.putOld bs (by rw [callS_objs, hg42]; rfl), (hln.call.put key bs).more⟩
              exact at_mid ((putO key bs (callS s).2.2), v57, l58, ca, we) hphi ⟨rfl, rfl, rfl, rfl, rfl, rfl, trivial⟩ rfl
            · skip
              have hl66 : aget (callS s).2.2.objs key = some v43 := by rw [callS_objs]; exact hg42
              have hgd : StOk (callS s).2.2 (2 * i + 1) := hst.call
              have hgn := hgd.now0
              have hgm := hgd.now1
              refine wl_nil ?_
              refine at_then ?_
              refine wc_seq ?_
              refine wc_region ?_
              refine wl_1 trivial rfl (do_move rfl) ?_
              refine wl_1 trivial rfl (do_fieldAddr (k := 1) (k' := 1) fo_34_1 rfl (by rfl)) ?_
              refine wl_1 trivial rfl (do_load 6 rfl one_9 rfl rfl) ?_
              refine wl_do trivial rfl (do_call (look_some B b r v57 l58 (callS s).2.2 key (hgd).ok v43 hl66) ⟨rfl, rfl, trivial⟩ enters_20 [0, 1, 2, 3] [4, 5, 6, 7, 8, 9] ⟨rfl, rfl, rfl, rfl, trivial⟩ ⟨rfl, rfl, rfl, rfl, rfl, rfl, trivial⟩ (R := [_, _, _, _, _, _]) (by decide)) ?_
              rintro _ _ ⟨_, ⟨x67, rfl, rfl⟩, rfl⟩
              refine wl_1 trivial rfl (do_move rfl) ?_
              refine wl_1 trivial rfl (do_extract rfl rfl) ?_
              refine wl_1 trivial rfl (do_extract rfl rfl) ?_
              refine wl_1 trivial rfl (do_assign rfl) ?_
              refine wl_1 trivial rfl (do_assign rfl) ?_
              refine wl_nil ?_
              refine at_then ?_
              refine wc_seq ?_
              refine wc_region ?_
              refine wl_1 trivial rfl (do_move rfl) ?_
              refine wl_1 trivial rfl (do_move rfl) ?_
              refine wl_1 ⟨_, rfl, rfl⟩ rfl (do_move rfl) ?_
              refine wl_1 ⟨_, rfl, rfl⟩ rfl (do_not (c := true) rfl) ?_
              refine wl_1 trivial rfl (do_pickT rfl rfl) ?_
              refine wl_nil ?_
              refine at_then ?_
              refine wc_false rfl ?_
              refine wc_skip ?_
              refine at_block ?_
              refine at_pick (M := [_, _, _, _, _, _, _, _]) [0, 1, 2, 3, 8, 9, 5, 10] ⟨rfl, rfl, rfl, rfl, rfl, rfl, rfl, rfl, trivial⟩ (by decide) ?_
              have hphi : StOk (callS s).2.2 (2 * i + 1) ∧ LI (callS s).2.2 (ca) (we) ∧ LN (callS s).2.2 m2 (i + 1) := ⟨hst.call, hli.call, hln.call.more⟩
              exact at_mid ((callS s).2.2, v57, l58, ca, we) hphi ⟨rfl, rfl, rfl, rfl, rfl, rfl, trivial⟩ rfl
      · rintro ⟨s, v, lv, ca, we⟩ hphi
        obtain ⟨hst1, hli1, hln1⟩ := hphi
        show WC _ _ _ _ _ _ _ [(0, .slice (some ⟨b0, off0, none⟩) ops.length cap0), (1, .int .i64 m2), (5, .pointer (some ⟨b, 0, none⟩)), (7, .map (some b3)), (8, .map (some b4)), (9, .int .i64 ((i : Nat) : Int))] [pt b (.cells #[.map (some r), v, .int .i64 s.most, .int .i64 s.lag, .int .i64 s.now, .int .i64 s.calls, .int .i64 s.count, .bool s.done] 52 (0, 0)), mapA encS r lv, row 113 3 v s.chg.length (chgCells s.chg), valsA B lv s.objs, mapA encS b3 (cv ca), mapA encS b4 (cv we), AnyP, F]
        have hst2 : StOk (callS s).2.2 (2 * i + 2) := hst1.call
        have hli2 := hli1.call
        have hln2 := hln1.call
        have hlag2 := hln2.lag
        have hnow0 := hst2.now0
        have hnow1 := hst2.now1
        have hvl := view_len hst2 (by omega)
        have hol := hst2.objs1
        refine wc_seq ?_
        refine wc_region ?_
        refine wl_1 trivial rfl (do_move rfl) ?_
        refine wl_do trivial rfl (do_call (list_e B b r v lv s (2 * i + 1) hst1 (by omega)) ⟨rfl, rfl, trivial⟩ enters_19 [0, 1, 2, 3] [4, 5, 6, 7] ⟨rfl, rfl, rfl, rfl, trivial⟩ ⟨rfl, rfl, rfl, rfl, trivial⟩ (R := [_, _, _, _]) (by decide)) ?_
        rintro _ _ ⟨_, (⟨x68, rfl, rfl⟩ | ⟨x68, rfl, rfl⟩), rfl⟩
        · skip
          refine wl_1 trivial rfl (do_move rfl) ?_
          refine wl_1 trivial rfl (do_extract rfl rfl) ?_
          refine wl_1 trivial rfl (do_extract rfl rfl) ?_
          refine wl_1 trivial rfl (do_assign rfl) ?_
          refine wl_1 trivial rfl (do_assign rfl) ?_
          refine wl_nil ?_
          refine at_then ?_
          refine wc_seq ?_
          refine wc_seq ?_
          refine wc_region ?_
          refine wl_1 trivial rfl (do_move rfl) ?_
          refine wl_do trivial rfl (do_call (num_tri B 8) ⟨rfl, trivial⟩ enters_14 [] [0, 1, 2, 3, 4, 5, 6, 7, 8] trivial ⟨rfl, rfl, rfl, rfl, rfl, rfl, rfl, rfl, rfl, trivial⟩ (R := [_, _, _, _, _, _, _, _, _]) (by decide)) ?_
          rintro _ _ ⟨_, ⟨rfl, rfl⟩, rfl⟩
          refine wl_1 trivial rfl (do_cmp (c := true) rfl rfl rfl) ?_
          refine wl_nil ?_
          refine at_then ?_
          refine wc_true rfl ?_
          refine wc_exit ?_
          refine at_then_exit ?_
          refine at_block_it ?_
          refine at_then ?_
          refine wc_region ?_
          refine wl_1 trivial rfl (do_move rfl) ?_
          refine wl_1 trivial rfl (do_add (r := ((i + 1 : Nat) : Int)) rfl rfl (wrap_nat (by omega) (by omega))) ?_
          refine wl_1 trivial rfl (do_assign rfl) ?_
          refine wl_nil ?_
          refine at_pick (M := [_, _, _, _, _, _, _, _]) [0, 1, 2, 3, 5, 6, 7, 8] ⟨rfl, rfl, rfl, rfl, rfl, rfl, rfl, rfl, trivial⟩ (by decide) ?_
          exact at_round (i + 1, (callS s).2.2, v, lv, ca, we) ⟨by show StOk _ (2 * i + 2); exact hst1.call, by omega, hli1.call, hln1.call⟩ (by show 150 - (i + 1) < 150 - i; omega) ⟨rfl, rfl, rfl, rfl, rfl, rfl, trivial⟩ rfl
        · skip
          refine wl_1 trivial rfl (do_move rfl) ?_
          refine wl_1 trivial rfl (do_extract rfl rfl) ?_
          refine wl_1 trivial rfl (do_extract rfl rfl) ?_
          refine wl_1 trivial rfl (do_assign rfl) ?_
          refine wl_1 trivial rfl (do_assign rfl) ?_
          refine wl_nil ?_
          refine at_then ?_
          refine wc_seq ?_
          refine wc_seq ?_
          refine wc_region ?_
          refine wl_1 trivial rfl (do_move rfl) ?_
          refine wl_do trivial rfl (do_call (num_tri B 0) ⟨rfl, trivial⟩ enters_14 [] [0, 1, 2, 3, 4, 5, 6, 7, 8] trivial ⟨rfl, rfl, rfl, rfl, rfl, rfl, rfl, rfl, rfl, trivial⟩ (R := [_, _, _, _, _, _, _, _, _]) (by decide)) ?_
          rintro _ _ ⟨_, ⟨rfl, rfl⟩, rfl⟩
          refine wl_1 trivial rfl (do_cmp (c := false) rfl rfl rfl) ?_
          refine wl_nil ?_
          refine at_then ?_
          refine wc_false rfl ?_
          refine wc_skip ?_
          refine at_then ?_
          refine wc_seq ?_
          refine wc_region ?_
          refine wl_do trivial rfl do_makeMap ?_
          rintro _ _ ⟨b69, rfl, rfl⟩
          refine wl_mem (L' := [mapA encS b69 ([] : List (ByteArray × Value)), pt b (.cells #[.map (some r), v, .int .i64 ((callS s).2.2.most), .int .i64 ((callS s).2.2.lag), .int .i64 ((callS s).2.2.now), .int .i64 ((callS s).2.2.calls), .int .i64 ((callS s).2.2.count), .bool ((callS s).2.2.done)] 52 (0, 0)), mapA encS r lv, row 113 3 v ((callS s).2.2.chg.length) (chgCells ((callS s).2.2.chg)), valsA B lv ((callS s).2.2.objs), row 9 1 x68 ((listK kE (callS s).2.2).length) ((listK kE (callS s).2.2).map .string), mapA encS b3 (cv ca), mapA encS b4 (cv we), AnyP, F]) (fun w h => Sat.imp (L1 := []) h (fun _ => mapA_empty _)) ?_
          refine wl_1 trivial rfl (do_assign rfl) ?_
          refine wl_nil ?_
          refine at_then ?_
          refine wc_seq ?_
          refine wc_seq ?_
          refine wc_region ?_
          refine wl_1 trivial rfl (do_assign rfl) ?_
          refine wl_nil ?_
          refine at_then ?_
          refine wc_block ?_
          refine wc_mem (fun w_ h_ => h_.pick (M := [pt b (.cells #[.map (some r), v, .int .i64 ((callS s).2.2.most), .int .i64 ((callS s).2.2.lag), .int .i64 ((callS s).2.2.now), .int .i64 ((callS s).2.2.calls), .int .i64 ((callS s).2.2.count), .bool ((callS s).2.2.done)] 52 (0, 0)), mapA encS r lv, row 113 3 v ((callS s).2.2.chg.length) (chgCells ((callS s).2.2.chg)), valsA B lv ((callS s).2.2.objs), mapA encS b3 (cv ca), mapA encS b4 (cv we), AnyP, mapA encS b69 ([] : List (ByteArray × Value)), row 9 1 x68 ((listK kE (callS s).2.2).length) ((listK kE (callS s).2.2).map .string), F]) [1, 2, 3, 4, 6, 7, 8, 0, 5, 9] ⟨rfl, rfl, rfl, rfl, rfl, rfl, rfl, rfl, rfl, rfl, trivial⟩ (by decide)) ?_
          refine wc_loop (fun (z_ : Nat × List (ByteArray × Bool)) => match z_ with | (k2, im) => k2 ≤ (listK kE (callS s).2.2).length ∧ ∀ j y, j < k2 → (listK kE (callS s).2.2)[j]? = some y → aget im y = some true) (fun (z_ : Nat × List (ByteArray × Bool)) => match z_ with | (k2, im) => [(0, .slice (some ⟨b0, off0, none⟩) ops.length cap0), (1, .int .i64 m2), (5, .pointer (some ⟨b, 0, none⟩)), (7, .map (some b3)), (8, .map (some b4)), (9, .int .i64 ((i : Nat) : Int)), (19, x68), (21, .map (some b69)), (22, .int .i64 ((k2 : Nat) : Int))]) (fun (z_ : Nat × List (ByteArray × Bool)) => match z_ with | (k2, im) => [pt b (.cells #[.map (some r), v, .int .i64 ((callS s).2.2.most), .int .i64 ((callS s).2.2.lag), .int .i64 ((callS s).2.2.now), .int .i64 ((callS s).2.2.calls), .int .i64 ((callS s).2.2.count), .bool ((callS s).2.2.done)] 52 (0, 0)), mapA encS r lv, row 113 3 v ((callS s).2.2.chg.length) (chgCells ((callS s).2.2.chg)), valsA B lv ((callS s).2.2.objs), mapA encS b3 (cv ca), mapA encS b4 (cv we), AnyP, mapA encS b69 (bv im), row 9 1 x68 ((listK kE (callS s).2.2).length) ((listK kE (callS s).2.2).map .string), F]) (fun (z_ : Nat × List (ByteArray × Bool)) => match z_ with | (k2, im) => (listK kE (callS s).2.2).length - k2) (0, []) ⟨Nat.zero_le _, fun j y h => by omega⟩ ⟨rfl, rfl, rfl, rfl, rfl, rfl, rfl, rfl, rfl, trivial⟩ rfl ?_
          rintro ⟨k2, im⟩ hphi
          obtain ⟨hk2, hph⟩ := hphi
          show WC _ _ _ _ _ _ _ [(0, .slice (some ⟨b0, off0, none⟩) ops.length cap0), (1, .int .i64 m2), (5, .pointer (some ⟨b, 0, none⟩)), (7, .map (some b3)), (8, .map (some b4)), (9, .int .i64 ((i : Nat) : Int)), (19, x68), (21, .map (some b69)), (22, .int .i64 ((k2 : Nat) : Int))] [pt b (.cells #[.map (some r), v, .int .i64 ((callS s).2.2.most), .int .i64 ((callS s).2.2.lag), .int .i64 ((callS s).2.2.now), .int .i64 ((callS s).2.2.calls), .int .i64 ((callS s).2.2.count), .bool ((callS s).2.2.done)] 52 (0, 0)), mapA encS r lv, row 113 3 v ((callS s).2.2.chg.length) (chgCells ((callS s).2.2.chg)), valsA B lv ((callS s).2.2.objs), mapA encS b3 (cv ca), mapA encS b4 (cv we), AnyP, mapA encS b69 (bv im), row 9 1 x68 ((listK kE (callS s).2.2).length) ((listK kE (callS s).2.2).map .string), F]
          refine wc_seq ?_
          refine wc_seq ?_
          refine wc_region ?_
          refine wl_1 trivial rfl (do_move rfl) ?_
          refine wl_1 trivial rfl (do_move rfl) ?_
          refine wl_1 trivial rfl (do_lenRow 8 rfl isSlice_39 rfl rfl) ?_
          obtain ⟨c70, h_c70⟩ : ∃ c : Bool, cmpB .lss ((k2 : Nat) : Int) (((listK kE (callS s).2.2).length : Nat) : Int) = some c := ⟨_, rfl⟩
          refine wl_1 trivial rfl (do_cmp rfl rfl h_c70) ?_
          refine wl_nil ?_
          refine at_then ?_
          cases c70
          · have p_c70 := cmp_lss_f h_c70
            refine wc_false rfl ?_
            refine wc_exit ?_
            refine at_then_exit ?_
            refine at_then_exit ?_
            refine at_block_it ?_
            refine at_then ?_
            refine wc_seq ?_
            refine wc_region ?_
            refine wl_1 trivial rfl (do_move rfl) ?_
            refine wl_do trivial rfl (do_call (keys_tri B b r v lv (callS s).2.2 (by have := (hst2).objs1; omega)) ⟨rfl, trivial⟩ enters_25 [0, 1, 2, 3] [4, 5, 6, 7, 8, 9] ⟨rfl, rfl, rfl, rfl, trivial⟩ ⟨rfl, rfl, rfl, rfl, rfl, rfl, trivial⟩ (R := [_, _, _, _, _, _]) (by decide)) ?_
            rintro _ _ ⟨_, ⟨x71, rfl, rfl⟩, rfl⟩
            have him : ∀ y, y ∈ (listK kE (callS s).2.2) → aget im y = some true := fun y hy => by obtain ⟨j, hj, rfl⟩ := List.mem_iff_getElem.1 hy; exact hph j _ (by omega) (List.getElem?_eq_getElem hj)
            have hkl : (sortB (akeys (callS s).2.2.objs)).length = (callS s).2.2.objs.length := by rw [sortB_len]; simp [akeys]
            refine wl_1 trivial rfl (do_assign rfl) ?_
            refine wl_nil ?_
            refine at_then ?_
            refine wc_seq ?_
            refine wc_region ?_
            refine wl_1 trivial rfl (do_assign rfl) ?_
            refine wl_nil ?_
            refine at_then ?_
            refine wc_block ?_
            refine wc_mem (fun w_ h_ => h_.pick (M := [pt b (.cells #[.map (some r), v, .int .i64 ((callS s).2.2.most), .int .i64 ((callS s).2.2.lag), .int .i64 ((callS s).2.2.now), .int .i64 ((callS s).2.2.calls), .int .i64 ((callS s).2.2.count), .bool ((callS s).2.2.done)] 52 (0, 0)), mapA encS r lv, row 113 3 v ((callS s).2.2.chg.length) (chgCells ((callS s).2.2.chg)), valsA B lv ((callS s).2.2.objs), mapA encS b3 (cv ca), mapA encS b4 (cv we), AnyP, mapA encS b69 (bv im), row 9 1 x71 ((callS s).2.2.objs.length) ((sortB (akeys (callS s).2.2.objs)).map .string), F]) [0, 1, 2, 3, 5, 6, 7, 8, 4, 10] ⟨rfl, rfl, rfl, rfl, rfl, rfl, rfl, rfl, rfl, rfl, trivial⟩ (by decide)) ?_
            refine wc_loop (fun (k3 : Nat) => k3 ≤ (callS s).2.2.objs.length ∧ True) (fun (k3 : Nat) => [(0, .slice (some ⟨b0, off0, none⟩) ops.length cap0), (1, .int .i64 m2), (5, .pointer (some ⟨b, 0, none⟩)), (7, .map (some b3)), (8, .map (some b4)), (9, .int .i64 ((i : Nat) : Int)), (21, .map (some b69)), (25, x71), (26, .int .i64 ((k3 : Nat) : Int))]) (fun (k3 : Nat) => [pt b (.cells #[.map (some r), v, .int .i64 ((callS s).2.2.most), .int .i64 ((callS s).2.2.lag), .int .i64 ((callS s).2.2.now), .int .i64 ((callS s).2.2.calls), .int .i64 ((callS s).2.2.count), .bool ((callS s).2.2.done)] 52 (0, 0)), mapA encS r lv, row 113 3 v ((callS s).2.2.chg.length) (chgCells ((callS s).2.2.chg)), valsA B lv ((callS s).2.2.objs), mapA encS b3 (cv ca), mapA encS b4 (cv we), AnyP, mapA encS b69 (bv im), row 9 1 x71 ((callS s).2.2.objs.length) ((sortB (akeys (callS s).2.2.objs)).map .string), F]) (fun (k3 : Nat) => (callS s).2.2.objs.length - k3) 0 ⟨Nat.zero_le _, trivial⟩ ⟨rfl, rfl, rfl, rfl, rfl, rfl, rfl, rfl, rfl, trivial⟩ rfl ?_
            rintro k3 hphi
            obtain ⟨hk3, _⟩ := hphi
            show WC _ _ _ _ _ _ _ [(0, .slice (some ⟨b0, off0, none⟩) ops.length cap0), (1, .int .i64 m2), (5, .pointer (some ⟨b, 0, none⟩)), (7, .map (some b3)), (8, .map (some b4)), (9, .int .i64 ((i : Nat) : Int)), (21, .map (some b69)), (25, x71), (26, .int .i64 ((k3 : Nat) : Int))] [pt b (.cells #[.map (some r), v, .int .i64 ((callS s).2.2.most), .int .i64 ((callS s).2.2.lag), .int .i64 ((callS s).2.2.now), .int .i64 ((callS s).2.2.calls), .int .i64 ((callS s).2.2.count), .bool ((callS s).2.2.done)] 52 (0, 0)), mapA encS r lv, row 113 3 v ((callS s).2.2.chg.length) (chgCells ((callS s).2.2.chg)), valsA B lv ((callS s).2.2.objs), mapA encS b3 (cv ca), mapA encS b4 (cv we), AnyP, mapA encS b69 (bv im), row 9 1 x71 ((callS s).2.2.objs.length) ((sortB (akeys (callS s).2.2.objs)).map .string), F]
            have hk3' : k3 ≤ (callS s).2.2.objs.length := hk3
            refine wc_seq ?_
            refine wc_seq ?_
            refine wc_region ?_
            refine wl_1 trivial rfl (do_move rfl) ?_
            refine wl_1 trivial rfl (do_move rfl) ?_
            refine wl_1 trivial rfl (do_lenRow 8 rfl isSlice_39 rfl rfl) ?_
            obtain ⟨c72, h_c72⟩ : ∃ c : Bool, cmpB .lss ((k3 : Nat) : Int) (((callS s).2.2.objs.length : Nat) : Int) = some c := ⟨_, rfl⟩
            refine wl_1 trivial rfl (do_cmp rfl rfl h_c72) ?_
            refine wl_nil ?_
            refine at_then ?_
            cases c72
            · have p_c72 := cmp_lss_f h_c72
              refine wc_false rfl ?_
              refine wc_exit ?_
              refine at_then_exit ?_
              refine at_then_exit ?_
              refine at_block_it ?_
              refine at_block ?_
              refine at_then ?_
              refine wc_region ?_
              refine wl_1 trivial rfl (do_move rfl) ?_
              refine wl_1 trivial rfl (do_add (r := ((i + 1 : Nat) : Int)) rfl rfl (wrap_nat (by omega) (by omega))) ?_
              refine wl_1 trivial rfl (do_assign rfl) ?_
              refine wl_nil ?_
              refine at_pick (M := [_, _, _, _, _, _, _, _]) [0, 1, 2, 3, 4, 5, 6, 9] ⟨rfl, rfl, rfl, rfl, rfl, rfl, rfl, rfl, trivial⟩ (by decide) ?_
              exact at_round (i + 1, (callS s).2.2, v, lv, ca, we) ⟨by show StOk _ (2 * i + 2); exact hst1.call, by omega, hli1.call, hln1.call⟩ (by show 150 - (i + 1) < 150 - i; omega) ⟨rfl, rfl, rfl, rfl, rfl, rfl, trivial⟩ rfl
            · have p_c72 := cmp_lss_t h_c72
              refine wc_true rfl ?_
              refine wc_skip ?_
              refine at_then ?_
              refine wc_seq ?_
              refine wc_block ?_
              refine wc_seq ?_
              refine wc_fact 8 rfl (row_some (by omega)) ?_
              rintro ⟨g73, cap74, rfl⟩
              obtain ⟨y75, hy76⟩ : ∃ y, (sortB (akeys (callS s).2.2.objs))[k3]? = some y := ⟨_, List.getElem?_eq_getElem (by omega)⟩
              have hmem := sortB_mem.1 (List.mem_of_getElem? hy76)
              have hrc := hli2.rc y75
              have hrw := hli2.rw y75
              rcases hg77 : aget (bv im) y75 with _ | v78
              · skip
                have hout := view_out hli2 hmem (fun hm => by have hq := him _ hm; rw [bv_none hg77] at hq; cases hq)
                rcases hg79 : aget (cv ca) y75 with _ | v80
                · skip
                  have hz_ca := cv_none hg79
                  refine wc_draw [[], [], [], [1, 2], [1, 2, 3], [0, 1, 2, 3, 4], [0, 1, 2, 3, 4, 5], [0, 1, 2, 3, 4, 5, 6], [0, 1, 2, 3, 4, 5, 6, 7], [0, 1, 2, 3, 4, 5, 6, 7], [0, 1, 2, 3, 4, 5, 6, 7], [0, 1, 2, 3, 4, 5, 6, 7, 9, 10], [0, 1, 2, 3, 4, 5, 6, 7, 9, 10, 11], [0, 1, 2, 3, 4, 5, 6, 7, 8, 9, 10, 11, 12], [0, 1, 2, 3, 4, 5, 6, 7, 8, 9, 10, 11, 12, 13], [0, 1, 2, 3, 4, 5, 6, 7], [0, 1, 2, 3, 4, 5, 6, 7, 15], [0, 1, 2, 3, 4, 5, 6, 7], [0, 1, 2, 3, 4, 5, 6, 7, 15, 16, 17], [0, 1, 2, 3, 4, 5, 6, 7, 8, 9, 10, 11, 12, 13, 14, 15, 16, 17, 18], [0, 1, 2, 3, 4, 5, 6, 7, 8, 9, 10, 11, 12, 13, 14, 15, 16, 17, 18, 19]] [some (.map (some b69)), some (.slice (some ⟨g73, 0, none⟩) ((callS s).2.2.objs.length) cap74), some (.int .i64 ((k3 : Nat) : Int)), some (.pointer (some ⟨g73, k3, none⟩)), some (.string y75), some (.bool false), some (.bool true), some (.bool true), some (.map (some b3)), some (.slice (some ⟨g73, 0, none⟩) ((callS s).2.2.objs.length) cap74), some (.int .i64 ((k3 : Nat) : Int)), some (.pointer (some ⟨g73, k3, none⟩)), some (.string y75), some (.int .i64 0), some (.int .i64 (-1)), some (.pointer (some ⟨b, 0, none⟩)), none, some (.int .i64 m2), none, none, none] [16] mixed (by kernel_rfl) (by decide) ⟨rfl, rfl, ⟨.inr ⟨_, [.old 21], rfl, rfl, .inl ⟨trivial, do_move rfl⟩⟩, .inr ⟨_, [.old 25], rfl, rfl, .inl ⟨trivial, do_move rfl⟩⟩, .inr ⟨_, [.old 26], rfl, rfl, .inl ⟨trivial, do_move rfl⟩⟩, .inr ⟨_, [.op 1, .op 2], rfl, rfl, .inl ⟨trivial, do_indexAddr (j := k3) (p := k3) und_39 ty_9 rfl rfl rfl (by omega) (by omega)⟩⟩, .inr ⟨_, [.op 3], rfl, rfl, .inl ⟨trivial, do_loadR (j := k3) 8 rfl one_9 rfl row_R (by omega) (str_at hy76)⟩⟩, .inr ⟨_, [.op 0, .op 4], rfl, rfl, .inl ⟨trivial, do_lookup1N und_58 key_9 zero_4 7 rfl rfl rfl hg77⟩⟩, .inr ⟨_, [.op 5], rfl, rfl, .inl ⟨trivial, do_not (c := false) rfl⟩⟩, .inr ⟨_, [.op 6], rfl, rfl, .inl ⟨trivial, do_move rfl⟩⟩, .inr ⟨_, [.old 7, .op 7], rfl, rfl, .inl ⟨⟨_, rfl, rfl⟩, do_move rfl⟩⟩, .inr ⟨_, [.old 25, .op 7], rfl, rfl, .inl ⟨⟨_, rfl, rfl⟩, do_move rfl⟩⟩, .inr ⟨_, [.old 26, .op 7], rfl, rfl, .inl ⟨⟨_, rfl, rfl⟩, do_move rfl⟩⟩, .inr ⟨_, [.op 7, .op 9, .op 10], rfl, rfl, .inl ⟨⟨_, rfl, rfl⟩, do_indexAddr (j := k3) (p := k3) und_39 ty_9 rfl rfl rfl (by omega) (by omega)⟩⟩, .inr ⟨_, [.op 7, .op 11], rfl, rfl, .inl ⟨⟨_, rfl, rfl⟩, do_loadR (j := k3) 8 rfl one_9 rfl row_R (by omega) (str_at hy76)⟩⟩, .inr ⟨_, [.op 7, .op 8, .op 12], rfl, rfl, .inl ⟨⟨_, rfl, rfl⟩, do_lookup1N und_57 key_9 zero_3 4 rfl rfl rfl hg79⟩⟩, .inr ⟨_, [.op 7, .op 13], rfl, rfl, .inl ⟨⟨_, rfl, rfl⟩, do_sub (r := (-1)) rfl rfl rfl⟩⟩, .inr ⟨_, [.old 5, .op 7], rfl, rfl, .inl ⟨⟨_, rfl, rfl⟩, do_move rfl⟩⟩, .inr ⟨_, [.old 1, .op 7], rfl, rfl, .inl ⟨⟨_, rfl, rfl⟩, do_move rfl⟩⟩, trivial⟩, _, [.op 7, .op 15], _, rfl, rfl, ⟨_, rfl, rfl⟩, do_call (now_made B b r v lv (callS s).2.2) ⟨rfl, trivial⟩ enters_26 [0] [1, 2, 3, 4, 5, 6, 7, 8, 9] ⟨rfl, trivial⟩ ⟨rfl, rfl, rfl, rfl, rfl, rfl, rfl, rfl, rfl, trivial⟩ (R := [_, _, _, _, _, _, _, _, _]) (by decide), ?_⟩
                  rintro _ _ ⟨_, ⟨rfl, rfl⟩, rfl⟩
                  obtain ⟨c81, h_c81⟩ : ∃ c : Bool, cmpB .leq (-1) (((callS s).2.2.now) - m2) = some c := ⟨_, rfl⟩
                  refine ⟨[some (.map (some b69)), some (.slice (some ⟨g73, 0, none⟩) ((callS s).2.2.objs.length) cap74), some (.int .i64 ((k3 : Nat) : Int)), some (.pointer (some ⟨g73, k3, none⟩)), some (.string y75), some (.bool false), some (.bool true), some (.bool true), some (.map (some b3)), some (.slice (some ⟨g73, 0, none⟩) ((callS s).2.2.objs.length) cap74), some (.int .i64 ((k3 : Nat) : Int)), some (.pointer (some ⟨g73, k3, none⟩)), some (.string y75), some (.int .i64 0), some (.int .i64 (-1)), some (.pointer (some ⟨b, 0, none⟩)), some (.int .i64 ((callS s).2.2.now)), some (.int .i64 m2), some (.int .i64 (((callS s).2.2.now) - m2)), some (.bool c81), some (.bool c81)], more_mk ⟨rfl, rfl, rfl, rfl, rfl, rfl, rfl, rfl, rfl, rfl, rfl, rfl, rfl, rfl, rfl, rfl, rfl, trivial⟩ rfl, ?_⟩
                  refine ⟨rfl, ⟨.inl rfl, .inl rfl, .inl rfl, .inl rfl, .inl rfl, .inl rfl, .inl rfl, .inl rfl, .inr ⟨_, [.old 7, .op 7], rfl, rfl, .inl ⟨⟨_, rfl, rfl⟩, do_move rfl⟩⟩, .inr ⟨_, [.old 25, .op 7], rfl, rfl, .inl ⟨⟨_, rfl, rfl⟩, do_move rfl⟩⟩, .inr ⟨_, [.old 26, .op 7], rfl, rfl, .inl ⟨⟨_, rfl, rfl⟩, do_move rfl⟩⟩, .inr ⟨_, [.op 7, .op 9, .op 10], rfl, rfl, .inl ⟨⟨_, rfl, rfl⟩, do_indexAddr (j := k3) (p := k3) und_39 ty_9 rfl rfl rfl (by omega) (by omega)⟩⟩, .inr ⟨_, [.op 7, .op 11], rfl, rfl, .inl ⟨⟨_, rfl, rfl⟩, do_loadR (j := k3) 8 rfl one_9 rfl row_R (by omega) (str_at hy76)⟩⟩, .inr ⟨_, [.op 7, .op 8, .op 12], rfl, rfl, .inl ⟨⟨_, rfl, rfl⟩, do_lookup1N und_57 key_9 zero_3 4 rfl rfl rfl hg79⟩⟩, .inr ⟨_, [.op 7, .op 13], rfl, rfl, .inl ⟨⟨_, rfl, rfl⟩, do_sub (r := (-1)) rfl rfl rfl⟩⟩, .inl rfl, .inl rfl, .inr ⟨_, [.old 1, .op 7], rfl, rfl, .inl ⟨⟨_, rfl, rfl⟩, do_move rfl⟩⟩, .inr ⟨_, [.op 7, .op 16, .op 17], rfl, rfl, .inl ⟨⟨_, rfl, rfl⟩, do_sub (r := ((callS s).2.2.now) - m2) rfl rfl (wrap_i64 (by omega) (by omega))⟩⟩, .inr ⟨_, [.op 7, .op 14, .op 18], rfl, rfl, .inl ⟨⟨_, rfl, rfl⟩, do_cmp rfl rfl h_c81⟩⟩, .inr ⟨_, [.op 7, .op 19], rfl, rfl, .inl ⟨trivial, do_pickT rfl rfl⟩⟩, trivial⟩, [.op 20, .old 0, .old 1, .old 5, .old 7, .old 8, .old 9, .old 21, .old 25, .old 26], [(236, .bool c81), (0, .slice (some ⟨b0, off0, none⟩) ops.length cap0), (1, .int .i64 m2), (5, .pointer (some ⟨b, 0, none⟩)), (7, .map (some b3)), (8, .map (some b4)), (9, .int .i64 ((i : Nat) : Int)), (21, .map (some b69)), (25, .slice (some ⟨g73, 0, none⟩) ((callS s).2.2.objs.length) cap74), (26, .int .i64 ((k3 : Nat) : Int))], rfl, rfl, ?_⟩
                  refine at_then ?_
                  cases c81
                  · have p_c81 := cmp_leq_f h_c81
                    refine wc_false rfl ?_
                    refine wc_skip ?_
                    refine at_block ?_
                    refine at_then ?_
                    refine wc_region ?_
                    refine wl_1 trivial rfl (do_move rfl) ?_
                    refine wl_1 trivial rfl (do_add (r := ((k3 + 1 : Nat) : Int)) rfl rfl (wrap_nat (by omega) (by omega))) ?_
                    refine wl_1 trivial rfl (do_assign rfl) ?_
                    refine wl_nil ?_
                    exact at_round (k3 + 1) ⟨by show k3 + 1 ≤ _; omega, trivial⟩ (by show (callS s).2.2.objs.length - (k3 + 1) < (callS s).2.2.objs.length - k3; omega) ⟨rfl, rfl, rfl, rfl, rfl, rfl, rfl, rfl, rfl, trivial⟩ rfl
                  · have p_c81 := cmp_leq_t h_c81
                    exfalso; omega
                · skip
                  obtain ⟨t_ca, rfl, ht_ca⟩ := cv_some hg79
                  refine wc_draw [[], [], [], [1, 2], [1, 2, 3], [0, 1, 2, 3, 4], [0, 1, 2, 3, 4, 5], [0, 1, 2, 3, 4, 5, 6], [0, 1, 2, 3, 4, 5, 6, 7], [0, 1, 2, 3, 4, 5, 6, 7], [0, 1, 2, 3, 4, 5, 6, 7], [0, 1, 2, 3, 4, 5, 6, 7, 9, 10], [0, 1, 2, 3, 4, 5, 6, 7, 9, 10, 11], [0, 1, 2, 3, 4, 5, 6, 7, 8, 9, 10, 11, 12], [0, 1, 2, 3, 4, 5, 6, 7, 8, 9, 10, 11, 12, 13], [0, 1, 2, 3, 4, 5, 6, 7], [0, 1, 2, 3, 4, 5, 6, 7, 15], [0, 1, 2, 3, 4, 5, 6, 7], [0, 1, 2, 3, 4, 5, 6, 7, 15, 16, 17], [0, 1, 2, 3, 4, 5, 6, 7, 8, 9, 10, 11, 12, 13, 14, 15, 16, 17, 18], [0, 1, 2, 3, 4, 5, 6, 7, 8, 9, 10, 11, 12, 13, 14, 15, 16, 17, 18, 19]] [some (.map (some b69)), some (.slice (some ⟨g73, 0, none⟩) ((callS s).2.2.objs.length) cap74), some (.int .i64 ((k3 : Nat) : Int)), some (.pointer (some ⟨g73, k3, none⟩)), some (.string y75), some (.bool false), some (.bool true), some (.bool true), some (.map (some b3)), some (.slice (some ⟨g73, 0, none⟩) ((callS s).2.2.objs.length) cap74), some (.int .i64 ((k3 : Nat) : Int)), some (.pointer (some ⟨g73, k3, none⟩)), some (.string y75), some (.int .i64 t_ca), some (.int .i64 (t_ca - 1)), some (.pointer (some ⟨b, 0, none⟩)), none, some (.int .i64 m2), none, none, none] [16] mixed (by kernel_rfl) (by decide) ⟨rfl, rfl, ⟨.inr ⟨_, [.old 21], rfl, rfl, .inl ⟨trivial, do_move rfl⟩⟩, .inr ⟨_, [.old 25], rfl, rfl, .inl ⟨trivial, do_move rfl⟩⟩, .inr ⟨_, [.old 26], rfl, rfl, .inl ⟨trivial, do_move rfl⟩⟩, .inr ⟨_, [.op 1, .op 2], rfl, rfl, .inl ⟨trivial, do_indexAddr (j := k3) (p := k3) und_39 ty_9 rfl rfl rfl (by omega) (by omega)⟩⟩, .inr ⟨_, [.op 3], rfl, rfl, .inl ⟨trivial, do_loadR (j := k3) 8 rfl one_9 rfl row_R (by omega) (str_at hy76)⟩⟩, .inr ⟨_, [.op 0, .op 4], rfl, rfl, .inl ⟨trivial, do_lookup1N und_58 key_9 zero_4 7 rfl rfl rfl hg77⟩⟩, .inr ⟨_, [.op 5], rfl, rfl, .inl ⟨trivial, do_not (c := false) rfl⟩⟩, .inr ⟨_, [.op 6], rfl, rfl, .inl ⟨trivial, do_move rfl⟩⟩, .inr ⟨_, [.old 7, .op 7], rfl, rfl, .inl ⟨⟨_, rfl, rfl⟩, do_move rfl⟩⟩, .inr ⟨_, [.old 25, .op 7], rfl, rfl, .inl ⟨⟨_, rfl, rfl⟩, do_move rfl⟩⟩, .inr ⟨_, [.old 26, .op 7], rfl, rfl, .inl ⟨⟨_, rfl, rfl⟩, do_move rfl⟩⟩, .inr ⟨_, [.op 7, .op 9, .op 10], rfl, rfl, .inl ⟨⟨_, rfl, rfl⟩, do_indexAddr (j := k3) (p := k3) und_39 ty_9 rfl rfl rfl (by omega) (by omega)⟩⟩, .inr ⟨_, [.op 7, .op 11], rfl, rfl, .inl ⟨⟨_, rfl, rfl⟩, do_loadR (j := k3) 8 rfl one_9 rfl row_R (by omega) (str_at hy76)⟩⟩, .inr ⟨_, [.op 7, .op 8, .op 12], rfl, rfl, .inl ⟨⟨_, rfl, rfl⟩, do_lookup1S und_57 key_9 zero_3 4 rfl rfl rfl hg79⟩⟩, .inr ⟨_, [.op 7, .op 13], rfl, rfl, .inl ⟨⟨_, rfl, rfl⟩, do_sub (r := t_ca - 1) rfl rfl (wrap_i64 (by omega) (by omega))⟩⟩, .inr ⟨_, [.old 5, .op 7], rfl, rfl, .inl ⟨⟨_, rfl, rfl⟩, do_move rfl⟩⟩, .inr ⟨_, [.old 1, .op 7], rfl, rfl, .inl ⟨⟨_, rfl, rfl⟩, do_move rfl⟩⟩, trivial⟩, _, [.op 7, .op 15], _, rfl, rfl, ⟨_, rfl, rfl⟩, do_call (now_made B b r v lv (callS s).2.2) ⟨rfl, trivial⟩ enters_26 [0] [1, 2, 3, 4, 5, 6, 7, 8, 9] ⟨rfl, trivial⟩ ⟨rfl, rfl, rfl, rfl, rfl, rfl, rfl, rfl, rfl, trivial⟩ (R := [_, _, _, _, _, _, _, _, _]) (by decide), ?_⟩
                  rintro _ _ ⟨_, ⟨rfl, rfl⟩, rfl⟩
                  obtain ⟨c82, h_c82⟩ : ∃ c : Bool, cmpB .leq (t_ca - 1) (((callS s).2.2.now) - m2) = some c := ⟨_, rfl⟩
                  refine ⟨[some (.map (some b69)), some (.slice (some ⟨g73, 0, none⟩) ((callS s).2.2.objs.length) cap74), some (.int .i64 ((k3 : Nat) : Int)), some (.pointer (some ⟨g73, k3, none⟩)), some (.string y75), some (.bool false), some (.bool true), some (.bool true), some (.map (some b3)), some (.slice (some ⟨g73, 0, none⟩) ((callS s).2.2.objs.length) cap74), some (.int .i64 ((k3 : Nat) : Int)), some (.pointer (some ⟨g73, k3, none⟩)), some (.string y75), some (.int .i64 t_ca), some (.int .i64 (t_ca - 1)), some (.pointer (some ⟨b, 0, none⟩)), some (.int .i64 ((callS s).2.2.now)), some (.int .i64 m2), some (.int .i64 (((callS s).2.2.now) - m2)), some (.bool c82), some (.bool c82)], more_mk ⟨rfl, rfl, rfl, rfl, rfl, rfl, rfl, rfl, rfl, rfl, rfl, rfl, rfl, rfl, rfl, rfl, rfl, trivial⟩ rfl, ?_⟩
                  refine ⟨rfl, ⟨.inl rfl, .inl rfl, .inl rfl, .inl rfl, .inl rfl, .inl rfl, .inl rfl, .inl rfl, .inr ⟨_, [.old 7, .op 7], rfl, rfl, .inl ⟨⟨_, rfl, rfl⟩, do_move rfl⟩⟩, .inr ⟨_, [.old 25, .op 7], rfl, rfl, .inl ⟨⟨_, rfl, rfl⟩, do_move rfl⟩⟩, .inr ⟨_, [.old 26, .op 7], rfl, rfl, .inl ⟨⟨_, rfl, rfl⟩, do_move rfl⟩⟩, .inr ⟨_, [.op 7, .op 9, .op 10], rfl, rfl, .inl ⟨⟨_, rfl, rfl⟩, do_indexAddr (j := k3) (p := k3) und_39 ty_9 rfl rfl rfl (by omega) (by omega)⟩⟩, .inr ⟨_, [.op 7, .op 11], rfl, rfl, .inl ⟨⟨_, rfl, rfl⟩, do_loadR (j := k3) 8 rfl one_9 rfl row_R (by omega) (str_at hy76)⟩⟩, .inr ⟨_, [.op 7, .op 8, .op 12], rfl, rfl, .inl ⟨⟨_, rfl, rfl⟩, do_lookup1S und_57 key_9 zero_3 4 rfl rfl rfl hg79⟩⟩, .inr ⟨_, [.op 7, .op 13], rfl, rfl, .inl ⟨⟨_, rfl, rfl⟩, do_sub (r := t_ca - 1) rfl rfl (wrap_i64 (by omega) (by omega))⟩⟩, .inl rfl, .inl rfl, .inr ⟨_, [.old 1, .op 7], rfl, rfl, .inl ⟨⟨_, rfl, rfl⟩, do_move rfl⟩⟩, .inr ⟨_, [.op 7, .op 16, .op 17], rfl, rfl, .inl ⟨⟨_, rfl, rfl⟩, do_sub (r := ((callS s).2.2.now) - m2) rfl rfl (wrap_i64 (by omega) (by omega))⟩⟩, .inr ⟨_, [.op 7, .op 14, .op 18], rfl, rfl, .inl ⟨⟨_, rfl, rfl⟩, do_cmp rfl rfl h_c82⟩⟩, .inr ⟨_, [.op 7, .op 19], rfl, rfl, .inl ⟨trivial, do_pickT rfl rfl⟩⟩, trivial⟩, [.op 20, .old 0, .old 1, .old 5, .old 7, .old 8, .old 9, .old 21, .old 25, .old 26], [(236, .bool c82), (0, .slice (some ⟨b0, off0, none⟩) ops.length cap0), (1, .int .i64 m2), (5, .pointer (some ⟨b, 0, none⟩)), (7, .map (some b3)), (8, .map (some b4)), (9, .int .i64 ((i : Nat) : Int)), (21, .map (some b69)), (25, .slice (some ⟨g73, 0, none⟩) ((callS s).2.2.objs.length) cap74), (26, .int .i64 ((k3 : Nat) : Int))], rfl, rfl, ?_⟩
                  refine at_then ?_
                  cases c82
                  · have p_c82 := cmp_leq_f h_c82
                    refine wc_false rfl ?_
                    refine wc_skip ?_
                    refine at_block ?_
                    refine at_then ?_
                    refine wc_region ?_
                    refine wl_1 trivial rfl (do_move rfl) ?_
                    refine wl_1 trivial rfl (do_add (r := ((k3 + 1 : Nat) : Int)) rfl rfl (wrap_nat (by omega) (by omega))) ?_
                    refine wl_1 trivial rfl (do_assign rfl) ?_
                    refine wl_nil ?_
                    exact at_round (k3 + 1) ⟨by show k3 + 1 ≤ _; omega, trivial⟩ (by show (callS s).2.2.objs.length - (k3 + 1) < (callS s).2.2.objs.length - k3; omega) ⟨rfl, rfl, rfl, rfl, rfl, rfl, rfl, rfl, rfl, trivial⟩ rfl
                  · have p_c82 := cmp_leq_t h_c82
                    exfalso; omega
              · skip
                obtain ⟨bq, rfl, hbq⟩ := bv_some hg77
                cases bq
                · have hout := view_out hli2 hmem (fun hm => by have hq := him _ hm; rw [hbq] at hq; cases hq)
                  rcases hg83 : aget (cv ca) y75 with _ | v84
                  · skip
                    have hz_ca := cv_none hg83
                    refine wc_draw [[], [], [], [1, 2], [1, 2, 3], [0, 1, 2, 3, 4], [0, 1, 2, 3, 4, 5], [0, 1, 2, 3, 4, 5, 6], [0, 1, 2, 3, 4, 5, 6, 7], [0, 1, 2, 3, 4, 5, 6, 7], [0, 1, 2, 3, 4, 5, 6, 7], [0, 1, 2, 3, 4, 5, 6, 7, 9, 10], [0, 1, 2, 3, 4, 5, 6, 7, 9, 10, 11], [0, 1, 2, 3, 4, 5, 6, 7, 8, 9, 10, 11, 12], [0, 1, 2, 3, 4, 5, 6, 7, 8, 9, 10, 11, 12, 13], [0, 1, 2, 3, 4, 5, 6, 7], [0, 1, 2, 3, 4, 5, 6, 7, 15], [0, 1, 2, 3, 4, 5, 6, 7], [0, 1, 2, 3, 4, 5, 6, 7, 15, 16, 17], [0, 1, 2, 3, 4, 5, 6, 7, 8, 9, 10, 11, 12, 13, 14, 15, 16, 17, 18], [0, 1, 2, 3, 4, 5, 6, 7, 8, 9, 10, 11, 12, 13, 14, 15, 16, 17, 18, 19]] [some (.map (some b69)), some (.slice (some ⟨g73, 0, none⟩) ((callS s).2.2.objs.length) cap74), some (.int .i64 ((k3 : Nat) : Int)), some (.pointer (some ⟨g73, k3, none⟩)), some (.string y75), some (.bool false), some (.bool true), some (.bool true), some (.map (some b3)), some (.slice (some ⟨g73, 0, none⟩) ((callS s).2.2.objs.length) cap74), some (.int .i64 ((k3 : Nat) : Int)), some (.pointer (some ⟨g73, k3, none⟩)), some (.string y75), some (.int .i64 0), some (.int .i64 (-1)), some (.pointer (some ⟨b, 0, none⟩)), none, some (.int .i64 m2), none, none, none] [16] mixed (by kernel_rfl) (by decide) ⟨rfl, rfl, ⟨.inr ⟨_, [.old 21], rfl, rfl, .inl ⟨trivial, do_move rfl⟩⟩, .inr ⟨_, [.old 25], rfl, rfl, .inl ⟨trivial, do_move rfl⟩⟩, .inr ⟨_, [.old 26], rfl, rfl, .inl ⟨trivial, do_move rfl⟩⟩, .inr ⟨_, [.op 1, .op 2], rfl, rfl, .inl ⟨trivial, do_indexAddr (j := k3) (p := k3) und_39 ty_9 rfl rfl rfl (by omega) (by omega)⟩⟩, .inr ⟨_, [.op 3], rfl, rfl, .inl ⟨trivial, do_loadR (j := k3) 8 rfl one_9 rfl row_R (by omega) (str_at hy76)⟩⟩, .inr ⟨_, [.op 0, .op 4], rfl, rfl, .inl ⟨trivial, do_lookup1S und_58 key_9 zero_4 7 rfl rfl rfl hg77⟩⟩, .inr ⟨_, [.op 5], rfl, rfl, .inl ⟨trivial, do_not (c := false) rfl⟩⟩, .inr ⟨_, [.op 6], rfl, rfl, .inl ⟨trivial, do_move rfl⟩⟩, .inr ⟨_, [.old 7, .op 7], rfl, rfl, .inl ⟨⟨_, rfl, rfl⟩, do_move rfl⟩⟩, .inr ⟨_, [.old 25, .op 7], rfl, rfl, .inl ⟨⟨_, rfl, rfl⟩, do_move rfl⟩⟩, .inr ⟨_, [.old 26, .op 7], rfl, rfl, .inl ⟨⟨_, rfl, rfl⟩, do_move rfl⟩⟩, .inr ⟨_, [.op 7, .op 9, .op 10], rfl, rfl, .inl ⟨⟨_, rfl, rfl⟩, do_indexAddr (j := k3) (p := k3) und_39 ty_9 rfl rfl rfl (by omega) (by omega)⟩⟩, .inr ⟨_, [.op 7, .op 11], rfl, rfl, .inl ⟨⟨_, rfl, rfl⟩, do_loadR (j := k3) 8 rfl one_9 rfl row_R (by omega) (str_at hy76)⟩⟩, .inr ⟨_, [.op 7, .op 8, .op 12], rfl, rfl, .inl ⟨⟨_, rfl, rfl⟩, do_lookup1N und_57 key_9 zero_3 4 rfl rfl rfl hg83⟩⟩, .inr ⟨_, [.op 7, .op 13], rfl, rfl, .inl ⟨⟨_, rfl, rfl⟩, do_sub (r := (-1)) rfl rfl rfl⟩⟩, .inr ⟨_, [.old 5, .op 7], rfl, rfl, .inl ⟨⟨_, rfl, rfl⟩, do_move rfl⟩⟩, .inr ⟨_, [.old 1, .op 7], rfl, rfl, .inl ⟨⟨_, rfl, rfl⟩, do_move rfl⟩⟩, trivial⟩, _, [.op 7, .op 15], _, rfl, rfl, ⟨_, rfl, rfl⟩, do_call (now_made B b r v lv (callS s).2.2) ⟨rfl, trivial⟩ enters_26 [0] [1, 2, 3, 4, 5, 6, 7, 8, 9] ⟨rfl, trivial⟩ ⟨rfl, rfl, rfl, rfl, rfl, rfl, rfl, rfl, rfl, trivial⟩ (R := [_, _, _, _, _, _, _, _, _]) (by decide), ?_⟩
                    rintro _ _ ⟨_, ⟨rfl, rfl⟩, rfl⟩
                    obtain ⟨c85, h_c85⟩ : ∃ c : Bool, cmpB .leq (-1) (((callS s).2.2.now) - m2) = some c := ⟨_, rfl⟩
                    refine ⟨[some (.map (some b69)), some (.slice (some ⟨g73, 0, none⟩) ((callS s).2.2.objs.length) cap74), some (.int .i64 ((k3 : Nat) : Int)), some (.pointer (some ⟨g73, k3, none⟩)), some (.string y75), some (.bool false), some (.bool true), some (.bool true), some (.map (some b3)), some (.slice (some ⟨g73, 0, none⟩) ((callS s).2.2.objs.length) cap74), some (.int .i64 ((k3 : Nat) : Int)), some (.pointer (some ⟨g73, k3, none⟩)), some (.string y75), some (.int .i64 0), some (.int .i64 (-1)), some (.pointer (some ⟨b, 0, none⟩)), some (.int .i64 ((callS s).2.2.now)), some (.int .i64 m2), some (.int .i64 (((callS s).2.2.now) - m2)), some (.bool c85), some (.bool c85)], more_mk ⟨rfl, rfl, rfl, rfl, rfl, rfl, rfl, rfl, rfl, rfl, rfl, rfl, rfl, rfl, rfl, rfl, rfl, trivial⟩ rfl, ?_⟩
                    refine ⟨rfl, ⟨.inl rfl, .inl rfl, .inl rfl, .inl rfl, .inl rfl, .inl rfl, .inl rfl, .inl rfl, .inr ⟨_, [.old 7, .op 7], rfl, rfl, .inl ⟨⟨_, rfl, rfl⟩, do_move rfl⟩⟩, .inr ⟨_, [.old 25, .op 7], rfl, rfl, .inl ⟨⟨_, rfl, rfl⟩, do_move rfl⟩⟩, .inr ⟨_, [.old 26, .op 7], rfl, rfl, .inl ⟨⟨_, rfl, rfl⟩, do_move rfl⟩⟩, .inr ⟨_, [.op 7, .op 9, .op 10], rfl, rfl, .inl ⟨⟨_, rfl, rfl⟩, do_indexAddr (j := k3) (p := k3) und_39 ty_9 rfl rfl rfl (by omega) (by omega)⟩⟩, .inr ⟨_, [.op 7, .op 11], rfl, rfl, .inl ⟨⟨_, rfl, rfl⟩, do_loadR (j := k3) 8 rfl one_9 rfl row_R (by omega) (str_at hy76)⟩⟩, .inr ⟨_, [.op 7, .op 8, .op 12], rfl, rfl, .inl ⟨⟨_, rfl, rfl⟩, do_lookup1N und_57 key_9 zero_3 4 rfl rfl rfl hg83⟩⟩, .inr ⟨_, [.op 7, .op 13], rfl, rfl, .inl ⟨⟨_, rfl, rfl⟩, do_sub (r := (-1)) rfl rfl rfl⟩⟩, .inl rfl, .inl rfl, .inr ⟨_, [.old 1, .op 7], rfl, rfl, .inl ⟨⟨_, rfl, rfl⟩, do_move rfl⟩⟩, .inr ⟨_, [.op 7, .op 16, .op 17], rfl, rfl, .inl ⟨⟨_, rfl, rfl⟩, do_sub (r := ((callS s).2.2.now) - m2) rfl rfl (wrap_i64 (by omega) (by omega))⟩⟩, .inr ⟨_, [.op 7, .op 14, .op 18], rfl, rfl, .inl ⟨⟨_, rfl, rfl⟩, do_cmp rfl rfl h_c85⟩⟩, .inr ⟨_, [.op 7, .op 19], rfl, rfl, .inl ⟨trivial, do_pickT rfl rfl⟩⟩, trivial⟩, [.op 20, .old 0, .old 1, .old 5, .old 7, .old 8, .old 9, .old 21, .old 25, .old 26], [(236, .bool c85), (0, .slice (some ⟨b0, off0, none⟩) ops.length cap0), (1, .int .i64 m2), (5, .pointer (some ⟨b, 0, none⟩)), (7, .map (some b3)), (8, .map (some b4)), (9, .int .i64 ((i : Nat) : Int)), (21, .map (some b69)), (25, .slice (some ⟨g73, 0, none⟩) ((callS s).2.2.objs.length) cap74), (26, .int .i64 ((k3 : Nat) : Int))], rfl, rfl, ?_⟩
                    refine at_then ?_
                    cases c85
                    · have p_c85 := cmp_leq_f h_c85
                      refine wc_false rfl ?_
                      refine wc_skip ?_
                      refine at_block ?_
                      refine at_then ?_
                      refine wc_region ?_
                      refine wl_1 trivial rfl (do_move rfl) ?_
                      refine wl_1 trivial rfl (do_add (r := ((k3 + 1 : Nat) : Int)) rfl rfl (wrap_nat (by omega) (by omega))) ?_
                      refine wl_1 trivial rfl (do_assign rfl) ?_
                      refine wl_nil ?_
                      exact at_round (k3 + 1) ⟨by show k3 + 1 ≤ _; omega, trivial⟩ (by show (callS s).2.2.objs.length - (k3 + 1) < (callS s).2.2.objs.length - k3; omega) ⟨rfl, rfl, rfl, rfl, rfl, rfl, rfl, rfl, rfl, trivial⟩ rfl
                    · have p_c85 := cmp_leq_t h_c85
                      exfalso; omega
                  · skip
                    obtain ⟨t_ca, rfl, ht_ca⟩ := cv_some hg83
                    refine wc_draw [[], [], [], [1, 2], [1, 2, 3], [0, 1, 2, 3, 4], [0, 1, 2, 3, 4, 5], [0, 1, 2, 3, 4, 5, 6], [0, 1, 2, 3, 4, 5, 6, 7], [0, 1, 2, 3, 4, 5, 6, 7], [0, 1, 2, 3, 4, 5, 6, 7], [0, 1, 2, 3, 4, 5, 6, 7, 9, 10], [0, 1, 2, 3, 4, 5, 6, 7, 9, 10, 11], [0, 1, 2, 3, 4, 5, 6, 7, 8, 9, 10, 11, 12], [0, 1, 2, 3, 4, 5, 6, 7, 8, 9, 10, 11, 12, 13], [0, 1, 2, 3, 4, 5, 6, 7], [0, 1, 2, 3, 4, 5, 6, 7, 15], [0, 1, 2, 3, 4, 5, 6, 7], [0, 1, 2, 3, 4, 5, 6, 7, 15, 16, 17], [0, 1, 2, 3, 4, 5, 6, 7, 8, 9, 10, 11, 12, 13, 14, 15, 16, 17, 18], [0, 1, 2, 3, 4, 5, 6, 7, 8, 9, 10, 11, 12, 13, 14, 15, 16, 17, 18, 19]] [some (.map (some b69)), some (.slice (some ⟨g73, 0, none⟩) ((callS s).2.2.objs.length) cap74), some (.int .i64 ((k3 : Nat) : Int)), some (.pointer (some ⟨g73, k3, none⟩)), some (.string y75), some (.bool false), some (.bool true), some (.bool true), some (.map (some b3)), some (.slice (some ⟨g73, 0, none⟩) ((callS s).2.2.objs.length) cap74), some (.int .i64 ((k3 : Nat) : Int)), some (.pointer (some ⟨g73, k3, none⟩)), some (.string y75), some (.int .i64 t_ca), some (.int .i64 (t_ca - 1)), some (.pointer (some ⟨b, 0, none⟩)), none, some (.int .i64 m2), none, none, none] [16] mixed (by kernel_rfl) (by decide) ⟨rfl, rfl, ⟨.inr ⟨_, [.old 21], rfl, rfl, .inl ⟨trivial, do_move rfl⟩⟩, .inr ⟨_, [.old 25], rfl, rfl, .inl ⟨trivial, do_move rfl⟩⟩, .inr ⟨_, [.old 26], rfl, rfl, .inl ⟨trivial, do_move rfl⟩⟩, .inr ⟨_, [.op 1, .op 2], rfl, rfl, .inl ⟨trivial, do_indexAddr (j := k3) (p := k3) und_39 ty_9 rfl rfl rfl (by omega) (by omega)⟩⟩, .inr ⟨_, [.op 3], rfl, rfl, .inl ⟨trivial, do_loadR (j := k3) 8 rfl one_9 rfl row_R (by omega) (str_at hy76)⟩⟩, .inr ⟨_, [.op 0, .op 4], rfl, rfl, .inl ⟨trivial, do_lookup1S und_58 key_9 zero_4 7 rfl rfl rfl hg77⟩⟩, .inr ⟨_, [.op 5], rfl, rfl, .inl ⟨trivial, do_not (c := false) rfl⟩⟩, .inr ⟨_, [.op 6], rfl, rfl, .inl ⟨trivial, do_move rfl⟩⟩, .inr ⟨_, [.old 7, .op 7], rfl, rfl, .inl ⟨⟨_, rfl, rfl⟩, do_move rfl⟩⟩, .inr ⟨_, [.old 25, .op 7], rfl, rfl, .inl ⟨⟨_, rfl, rfl⟩, do_move rfl⟩⟩, .inr ⟨_, [.old 26, .op 7], rfl, rfl, .inl ⟨⟨_, rfl, rfl⟩, do_move rfl⟩⟩, .inr ⟨_, [.op 7, .op 9, .op 10], rfl, rfl, .inl ⟨⟨_, rfl, rfl⟩, do_indexAddr (j := k3) (p := k3) und_39 ty_9 rfl rfl rfl (by omega) (by omega)⟩⟩, .inr ⟨_, [.op 7, .op 11], rfl, rfl, .inl ⟨⟨_, rfl, rfl⟩, do_loadR (j := k3) 8 rfl one_9 rfl row_R (by omega) (str_at hy76)⟩⟩, .inr ⟨_, [.op 7, .op 8, .op 12], rfl, rfl, .inl ⟨⟨_, rfl, rfl⟩, do_lookup1S und_57 key_9 zero_3 4 rfl rfl rfl hg83⟩⟩, .inr ⟨_, [.op 7, .op 13], rfl, rfl, .inl ⟨⟨_, rfl, rfl⟩, do_sub (r := t_ca - 1) rfl rfl (wrap_i64 (by omega) (by omega))⟩⟩, .inr ⟨_, [.old 5, .op 7], rfl, rfl, .inl ⟨⟨_, rfl, rfl⟩, do_move rfl⟩⟩, .inr ⟨_, [.old 1, .op 7], rfl, rfl, .inl ⟨⟨_, rfl, rfl⟩, do_move rfl⟩⟩, trivial⟩, _, [.op 7, .op 15], _, rfl, rfl, ⟨_, rfl, rfl⟩, do_call (now_made B b r v lv (callS s).2.2) ⟨rfl, trivial⟩ enters_26 [0] [1, 2, 3, 4, 5, 6, 7, 8, 9] ⟨rfl, trivial⟩ ⟨rfl, rfl, rfl, rfl, rfl, rfl, rfl, rfl, rfl, trivial⟩ (R := [_, _, _, _, _, _, _, _, _]) (by decide), ?_⟩
                    rintro _ _ ⟨_, ⟨rfl, rfl⟩, rfl⟩
                    obtain ⟨c86, h_c86⟩ : ∃ c : Bool, cmpB .leq (t_ca - 1) (((callS s).2.2.now) - m2) = some c := ⟨_, rfl⟩
                    refine ⟨[some (.map (some b69)), some (.slice (some ⟨g73, 0, none⟩) ((callS s).2.2.objs.length) cap74), some (.int .i64 ((k3 : Nat) : Int)), some (.pointer (some ⟨g73, k3, none⟩)), some (.string y75), some (.bool false), some (.bool true), some (.bool true), some (.map (some b3)), some (.slice (some ⟨g73, 0, none⟩) ((callS s).2.2.objs.length) cap74), some (.int .i64 ((k3 : Nat) : Int)), some (.pointer (some ⟨g73, k3, none⟩)), some (.string y75), some (.int .i64 t_ca), some (.int .i64 (t_ca - 1)), some (.pointer (some ⟨b, 0, none⟩)), some (.int .i64 ((callS s).2.2.now)), some (.int .i64 m2), some (.int .i64 (((callS s).2.2.now) - m2)), some (.bool c86), some (.bool c86)], more_mk ⟨rfl, rfl, rfl, rfl, rfl, rfl, rfl, rfl, rfl, rfl, rfl, rfl, rfl, rfl, rfl, rfl, rfl, trivial⟩ rfl, ?_⟩
                    refine ⟨rfl, ⟨.inl rfl, .inl rfl, .inl rfl, .inl rfl, .inl rfl, .inl rfl, .inl rfl, .inl rfl, .inr ⟨_, [.old 7, .op 7], rfl, rfl, .inl ⟨⟨_, rfl, rfl⟩, do_move rfl⟩⟩, .inr ⟨_, [.old 25, .op 7], rfl, rfl, .inl ⟨⟨_, rfl, rfl⟩, do_move rfl⟩⟩, .inr ⟨_, [.old 26, .op 7], rfl, rfl, .inl ⟨⟨_, rfl, rfl⟩, do_move rfl⟩⟩, .inr ⟨_, [.op 7, .op 9, .op 10], rfl, rfl, .inl ⟨⟨_, rfl, rfl⟩, do_indexAddr (j := k3) (p := k3) und_39 ty_9 rfl rfl rfl (by omega) (by omega)⟩⟩, .inr ⟨_, [.op 7, .op 11], rfl, rfl, .inl ⟨⟨_, rfl, rfl⟩, do_loadR (j := k3) 8 rfl one_9 rfl row_R (by omega) (str_at hy76)⟩⟩, .inr ⟨_, [.op 7, .op 8, .op 12], rfl, rfl, .inl ⟨⟨_, rfl, rfl⟩, do_lookup1S und_57 key_9 zero_3 4 rfl rfl rfl hg83⟩⟩, .inr ⟨_, [.op 7, .op 13], rfl, rfl, .inl ⟨⟨_, rfl, rfl⟩, do_sub (r := t_ca - 1) rfl rfl (wrap_i64 (by omega) (by omega))⟩⟩, .inl rfl, .inl rfl, .inr ⟨_, [.old 1, .op 7], rfl, rfl, .inl ⟨⟨_, rfl, rfl⟩, do_move rfl⟩⟩, .inr ⟨_, [.op 7, .op 16, .op 17], rfl, rfl, .inl ⟨⟨_, rfl, rfl⟩, do_sub (r := ((callS s).2.2.now) - m2) rfl rfl (wrap_i64 (by omega) (by omega))⟩⟩, .inr ⟨_, [.op 7, .op 14, .op 18], rfl, rfl, .inl ⟨⟨_, rfl, rfl⟩, do_cmp rfl rfl h_c86⟩⟩, .inr ⟨_, [.op 7, .op 19], rfl, rfl, .inl ⟨trivial, do_pickT rfl rfl⟩⟩, trivial⟩, [.op 20, .old 0, .old 1, .old 5, .old 7, .old 8, .old 9, .old 21, .old 25, .old 26], [(236, .bool c86), (0, .slice (some ⟨b0, off0, none⟩) ops.length cap0), (1, .int .i64 m2), (5, .pointer (some ⟨b, 0, none⟩)), (7, .map (some b3)), (8, .map (some b4)), (9, .int .i64 ((i : Nat) : Int)), (21, .map (some b69)), (25, .slice (some ⟨g73, 0, none⟩) ((callS s).2.2.objs.length) cap74), (26, .int .i64 ((k3 : Nat) : Int))], rfl, rfl, ?_⟩
                    refine at_then ?_
                    cases c86
                    · have p_c86 := cmp_leq_f h_c86
                      refine wc_false rfl ?_
                      refine wc_skip ?_
                      refine at_block ?_
                      refine at_then ?_
                      refine wc_region ?_
                      refine wl_1 trivial rfl (do_move rfl) ?_
                      refine wl_1 trivial rfl (do_add (r := ((k3 + 1 : Nat) : Int)) rfl rfl (wrap_nat (by omega) (by omega))) ?_
                      refine wl_1 trivial rfl (do_assign rfl) ?_
                      refine wl_nil ?_
                      exact at_round (k3 + 1) ⟨by show k3 + 1 ≤ _; omega, trivial⟩ (by show (callS s).2.2.objs.length - (k3 + 1) < (callS s).2.2.objs.length - k3; omega) ⟨rfl, rfl, rfl, rfl, rfl, rfl, rfl, rfl, rfl, trivial⟩ rfl
                    · have p_c86 := cmp_leq_t h_c86
                      exfalso; omega
                · skip
                  refine wc_draw [[], [], [], [1, 2], [1, 2, 3], [0, 1, 2, 3, 4], [0, 1, 2, 3, 4, 5], [0, 1, 2, 3, 4, 5, 6], [0, 1, 2, 3, 4, 5, 6, 7], [0, 1, 2, 3, 4, 5, 6, 7], [0, 1, 2, 3, 4, 5, 6, 7], [0, 1, 2, 3, 4, 5, 6, 7, 9, 10], [0, 1, 2, 3, 4, 5, 6, 7, 9, 10, 11], [0, 1, 2, 3, 4, 5, 6, 7, 8, 9, 10, 11, 12], [0, 1, 2, 3, 4, 5, 6, 7, 8, 9, 10, 11, 12, 13], [0, 1, 2, 3, 4, 5, 6, 7], [0, 1, 2, 3, 4, 5, 6, 7, 15], [0, 1, 2, 3, 4, 5, 6, 7], [0, 1, 2, 3, 4, 5, 6, 7, 15, 16, 17], [0, 1, 2, 3, 4, 5, 6, 7, 8, 9, 10, 11, 12, 13, 14, 15, 16, 17, 18], [0, 1, 2, 3, 4, 5, 6, 7, 8, 9, 10, 11, 12, 13, 14, 15, 16, 17, 18, 19]] [some (.map (some b69)), some (.slice (some ⟨g73, 0, none⟩) ((callS s).2.2.objs.length) cap74), some (.int .i64 ((k3 : Nat) : Int)), some (.pointer (some ⟨g73, k3, none⟩)), some (.string y75), some (.bool true), some (.bool false), some (.bool false), some (undef), some (undef), some (undef), some (undef), some (undef), some (undef), some (undef), some (undef), some (undef), some (undef), some (undef), some (undef), some (.bool false)] [] mixed (by kernel_rfl) (by decide) ⟨rfl, ⟨.inr ⟨_, [.old 21], rfl, rfl, .inl ⟨trivial, do_move rfl⟩⟩, .inr ⟨_, [.old 25], rfl, rfl, .inl ⟨trivial, do_move rfl⟩⟩, .inr ⟨_, [.old 26], rfl, rfl, .inl ⟨trivial, do_move rfl⟩⟩, .inr ⟨_, [.op 1, .op 2], rfl, rfl, .inl ⟨trivial, do_indexAddr (j := k3) (p := k3) und_39 ty_9 rfl rfl rfl (by omega) (by omega)⟩⟩, .inr ⟨_, [.op 3], rfl, rfl, .inl ⟨trivial, do_loadR (j := k3) 8 rfl one_9 rfl row_R (by omega) (str_at hy76)⟩⟩, .inr ⟨_, [.op 0, .op 4], rfl, rfl, .inl ⟨trivial, do_lookup1S und_58 key_9 zero_4 7 rfl rfl rfl hg77⟩⟩, .inr ⟨_, [.op 5], rfl, rfl, .inl ⟨trivial, do_not (c := true) rfl⟩⟩, .inr ⟨_, [.op 6], rfl, rfl, .inl ⟨trivial, do_move rfl⟩⟩, .inr ⟨_, [.old 7, .op 7], rfl, rfl, .inr ⟨rfl, _, _, _, _, rfl, rfl, rfl, rfl⟩⟩, .inr ⟨_, [.old 25, .op 7], rfl, rfl, .inr ⟨rfl, _, _, _, _, rfl, rfl, rfl, rfl⟩⟩, .inr ⟨_, [.old 26, .op 7], rfl, rfl, .inr ⟨rfl, _, _, _, _, rfl, rfl, rfl, rfl⟩⟩, .inr ⟨_, [.op 7, .op 9, .op 10], rfl, rfl, .inr ⟨rfl, _, _, _, _, rfl, rfl, rfl, rfl⟩⟩, .inr ⟨_, [.op 7, .op 11], rfl, rfl, .inr ⟨rfl, _, _, _, _, rfl, rfl, rfl, rfl⟩⟩, .inr ⟨_, [.op 7, .op 8, .op 12], rfl, rfl, .inr ⟨rfl, _, _, _, _, rfl, rfl, rfl, rfl⟩⟩, .inr ⟨_, [.op 7, .op 13], rfl, rfl, .inr ⟨rfl, _, _, _, _, rfl, rfl, rfl, rfl⟩⟩, .inr ⟨_, [.old 5, .op 7], rfl, rfl, .inr ⟨rfl, _, _, _, _, rfl, rfl, rfl, rfl⟩⟩, .inr ⟨_, [.op 7, .op 15], rfl, rfl, .inr ⟨rfl, _, _, _, _, rfl, rfl, rfl, rfl⟩⟩, .inr ⟨_, [.old 1, .op 7], rfl, rfl, .inr ⟨rfl, _, _, _, _, rfl, rfl, rfl, rfl⟩⟩, .inr ⟨_, [.op 7, .op 16, .op 17], rfl, rfl, .inr ⟨rfl, _, _, _, _, rfl, rfl, rfl, rfl⟩⟩, .inr ⟨_, [.op 7, .op 14, .op 18], rfl, rfl, .inr ⟨rfl, _, _, _, _, rfl, rfl, rfl, rfl⟩⟩, .inr ⟨_, [.op 7, .op 19], rfl, rfl, .inl ⟨trivial, do_pickF rfl rfl⟩⟩, trivial⟩, [.op 20, .old 0, .old 1, .old 5, .old 7, .old 8, .old 9, .old 21, .old 25, .old 26], [(236, .bool false), (0, .slice (some ⟨b0, off0, none⟩) ops.length cap0), (1, .int .i64 m2), (5, .pointer (some ⟨b, 0, none⟩)), (7, .map (some b3)), (8, .map (some b4)), (9, .int .i64 ((i : Nat) : Int)), (21, .map (some b69)), (25, .slice (some ⟨g73, 0, none⟩) ((callS s).2.2.objs.length) cap74), (26, .int .i64 ((k3 : Nat) : Int))], rfl, rfl, ?_⟩
                  refine at_then ?_
                  refine wc_false rfl ?_
                  refine wc_skip ?_
                  refine at_block ?_
                  refine at_then ?_
                  refine wc_region ?_
                  refine wl_1 trivial rfl (do_move rfl) ?_
                  refine wl_1 trivial rfl (do_add (r := ((k3 + 1 : Nat) : Int)) rfl rfl (wrap_nat (by omega) (by omega))) ?_
                  refine wl_1 trivial rfl (do_assign rfl) ?_
                  refine wl_nil ?_
                  exact at_round (k3 + 1) ⟨by show k3 + 1 ≤ _; omega, trivial⟩ (by show (callS s).2.2.objs.length - (k3 + 1) < (callS s).2.2.objs.length - k3; omega) ⟨rfl, rfl, rfl, rfl, rfl, rfl, rfl, rfl, rfl, trivial⟩ rfl
          · have p_c70 := cmp_lss_t h_c70
            refine wc_true rfl ?_
            refine wc_skip ?_
            refine at_then ?_
            refine wc_seq ?_
            refine wc_block ?_
            refine wc_seq ?_
            refine wc_region ?_
            refine wl_1 trivial rfl (do_move rfl) ?_
            refine wl_1 trivial rfl (do_move rfl) ?_
            refine wl_1 trivial rfl (do_move rfl) ?_
            refine wl_fact 8 rfl (row_some (by omega)) ?_
            rintro ⟨g87, cap88, rfl⟩
            refine wl_1 trivial rfl (do_indexAddr (j := k2) (p := k2) und_39 ty_9 rfl rfl rfl (by omega) (by omega)) ?_
            obtain ⟨y89, hy90⟩ : ∃ y, (listK kE (callS s).2.2)[k2]? = some y := ⟨_, List.getElem?_eq_getElem (by omega)⟩
            have hvi := view_in hli2 (List.mem_of_getElem? hy90)
            have hrc := hli2.rc y89
            have hrw := hli2.rw y89
            refine wl_1 trivial rfl (do_loadR (j := k2) 8 rfl one_9 rfl row_R (by omega) (str_at hy90)) ?_
            refine wl_1 trivial rfl (do_mapUpdate (L1 := [_, _, _, _, _, _, _]) und_58 key_9 rfl rfl rfl) ?_
            refine wl_nil ?_
            refine at_then ?_
            refine wc_seq ?_
            refine wc_region ?_
            refine wl_1 trivial rfl (do_move rfl) ?_
            refine wl_1 trivial rfl (do_move rfl) ?_
            refine wl_1 trivial rfl (do_move rfl) ?_
            refine wl_1 trivial rfl (do_indexAddr (j := k2) (p := k2) und_39 ty_9 rfl rfl rfl (by omega) (by omega)) ?_
            refine wl_1 trivial rfl (do_loadR (j := k2) 8 rfl one_9 rfl row_R (by omega) (str_at hy90)) ?_
            rcases hg92 : aget (callS s).2.2.objs y89 with _ | v93
            · skip
              have hvi2 := hvi.2 (by rw [hg92]; rfl)
              refine wl_do trivial rfl (do_call (look_none B b r v lv (callS s).2.2 y89 (hst2).ok hg92) ⟨rfl, rfl, trivial⟩ enters_20 [0, 1, 2, 3] [4, 5, 6, 7, 8, 9] ⟨rfl, rfl, rfl, rfl, trivial⟩ ⟨rfl, rfl, rfl, rfl, rfl, rfl, trivial⟩ (R := [_, _, _, _, _, _]) (by decide)) ?_
              rintro _ _ ⟨_, ⟨x94, rfl, rfl⟩, rfl⟩
              refine wl_1 trivial rfl (do_move rfl) ?_
              refine wl_1 trivial rfl (do_extract rfl rfl) ?_
              refine wl_1 trivial rfl (do_extract rfl rfl) ?_
              refine wl_1 trivial rfl (do_assign rfl) ?_
              refine wl_1 trivial rfl (do_assign rfl) ?_
              refine wl_nil ?_
              refine at_then ?_
              refine wc_seq ?_
              rcases hg95 : aget (cv ca) y89 with _ | v96
              · skip
                have hz_ca := cv_none hg95
                omega
              · skip
                obtain ⟨t_ca, rfl, ht_ca⟩ := cv_some hg95
                obtain ⟨c97, h_c97⟩ : ∃ c : Bool, cmpB .eql t_ca 0 = some c := ⟨_, rfl⟩
                cases c97
                · have p_c97 := cmp_eql_f h_c97
                  rcases hg98 : aget (cv we) y89 with _ | v99
                  · skip
                    have hz_we := cv_none hg98
                    refine wc_draw [[], [], [], [1, 2], [1, 2, 3], [0, 1, 2, 3, 4], [0, 1, 2, 3, 4, 5], [0, 1, 2, 3, 4, 5, 6], [0, 1, 2, 3, 4, 5, 6, 7], [0, 1, 2, 3, 4, 5, 6, 7, 8], [0, 1, 2, 3, 4, 5, 6, 7, 8, 9], [0, 1, 2, 3, 4, 5, 6, 7, 8, 9, 10], [0, 1, 2, 3, 4, 5, 6, 7, 8, 9, 10], [0, 1, 2, 3, 4, 5, 6, 7, 8, 9, 10], [0, 1, 2, 3, 4, 5, 6, 7, 8, 9, 10, 12, 13], [0, 1, 2, 3, 4, 5, 6, 7, 8, 9, 10, 12, 13, 14], [0, 1, 2, 3, 4, 5, 6, 7, 8, 9, 10, 11, 12, 13, 14, 15], [0, 1, 2, 3, 4, 5, 6, 7, 8, 9, 10, 11, 12, 13, 14, 15, 16], [0, 1, 2, 3, 4, 5, 6, 7, 8, 9, 10], [0, 1, 2, 3, 4, 5, 6, 7, 8, 9, 10, 18], [0, 1, 2, 3, 4, 5, 6, 7, 8, 9, 10], [0, 1, 2, 3, 4, 5, 6, 7, 8, 9, 10, 18, 19, 20], [0, 1, 2, 3, 4, 5, 6, 7, 8, 9, 10, 11, 12, 13, 14, 15, 16, 17, 18, 19, 20, 21], [0, 1, 2, 3, 4, 5, 6, 7, 8, 9, 10, 11, 12, 13, 14, 15, 16, 17, 18, 19, 20, 21, 22], [0, 1, 2, 3, 4, 5, 6, 7, 8, 9, 10, 11, 12, 13, 14, 15, 16, 17, 18, 19, 20, 21, 22, 23]] [some (.map (some b3)), some (.slice (some ⟨g87, 0, none⟩) ((listK kE (callS s).2.2).length) cap88), some (.int .i64 ((k2 : Nat) : Int)), some (.pointer (some ⟨g87, k2, none⟩)), some (.string y89), some (.int .i64 t_ca), some (.bool false), some (.bool false), some (.bool false), some (.bool true), some (.bool true), some (.map (some b4)), some (.slice (some ⟨g87, 0, none⟩) ((listK kE (callS s).2.2).length) cap88), some (.int .i64 ((k2 : Nat) : Int)), some (.pointer (some ⟨g87, k2, none⟩)), some (.string y89), some (.int .i64 0), some (.int .i64 (-1)), some (.pointer (some ⟨b, 0, none⟩)), none, some (.int .i64 m2), none, none, none, none] [19] mixed (by kernel_rfl) (by decide) ⟨rfl, rfl, ⟨.inr ⟨_, [.old 7], rfl, rfl, .inl ⟨trivial, do_move rfl⟩⟩, .inr ⟨_, [.old 19], rfl, rfl, .inl ⟨trivial, do_move rfl⟩⟩, .inr ⟨_, [.old 22], rfl, rfl, .inl ⟨trivial, do_move rfl⟩⟩, .inr ⟨_, [.op 1, .op 2], rfl, rfl, .inl ⟨trivial, do_indexAddr (j := k2) (p := k2) und_39 ty_9 rfl rfl rfl (by omega) (by omega)⟩⟩, .inr ⟨_, [.op 3], rfl, rfl, .inl ⟨trivial, do_loadR (j := k2) 9 rfl one_9 rfl row_R (by omega) (str_at hy90)⟩⟩, .inr ⟨_, [.op 0, .op 4], rfl, rfl, .inl ⟨trivial, do_lookup1S und_57 key_9 zero_3 5 rfl rfl rfl hg95⟩⟩, .inr ⟨_, [.op 5], rfl, rfl, .inl ⟨trivial, do_cmp rfl rfl h_c97⟩⟩, .inr ⟨_, [.op 6], rfl, rfl, .inl ⟨trivial, do_move rfl⟩⟩, .inr ⟨_, [.old 24, .op 7], rfl, rfl, .inl ⟨⟨_, rfl, rfl⟩, do_move rfl⟩⟩, .inr ⟨_, [.op 7, .op 8], rfl, rfl, .inl ⟨⟨_, rfl, rfl⟩, do_not (c := false) rfl⟩⟩, .inr ⟨_, [.op 7, .op 9], rfl, rfl, .inl ⟨⟨_, rfl, rfl⟩, do_move rfl⟩⟩, .inr ⟨_, [.old 8, .op 10], rfl, rfl, .inl ⟨⟨_, rfl, rfl⟩, do_move rfl⟩⟩, .inr ⟨_, [.old 19, .op 10], rfl, rfl, .inl ⟨⟨_, rfl, rfl⟩, do_move rfl⟩⟩, .inr ⟨_, [.old 22, .op 10], rfl, rfl, .inl ⟨⟨_, rfl, rfl⟩, do_move rfl⟩⟩, .inr ⟨_, [.op 10, .op 12, .op 13], rfl, rfl, .inl ⟨⟨_, rfl, rfl⟩, do_indexAddr (j := k2) (p := k2) und_39 ty_9 rfl rfl rfl (by omega) (by omega)⟩⟩, .inr ⟨_, [.op 10, .op 14], rfl, rfl, .inl ⟨⟨_, rfl, rfl⟩, do_loadR (j := k2) 9 rfl one_9 rfl row_R (by omega) (str_at hy90)⟩⟩, .inr ⟨_, [.op 10, .op 11, .op 15], rfl, rfl, .inl ⟨⟨_, rfl, rfl⟩, do_lookup1N und_57 key_9 zero_3 6 rfl rfl rfl hg98⟩⟩, .inr ⟨_, [.op 10, .op 16], rfl, rfl, .inl ⟨⟨_, rfl, rfl⟩, do_sub (r := (-1)) rfl rfl rfl⟩⟩, .inr ⟨_, [.old 5, .op 10], rfl, rfl, .inl ⟨⟨_, rfl, rfl⟩, do_move rfl⟩⟩, .inr ⟨_, [.old 1, .op 10], rfl, rfl, .inl ⟨⟨_, rfl, rfl⟩, do_move rfl⟩⟩, trivial⟩, _, [.op 10, .op 18], _, rfl, rfl, ⟨_, rfl, rfl⟩, do_call (now_made B b r v lv (callS s).2.2) ⟨rfl, trivial⟩ enters_26 [0] [1, 2, 3, 4, 5, 6, 7, 8, 9, 10] ⟨rfl, trivial⟩ ⟨rfl, rfl, rfl, rfl, rfl, rfl, rfl, rfl, rfl, rfl, trivial⟩ (R := [_, _, _, _, _, _, _, _, _, _]) (by decide), ?_⟩
                    rintro _ _ ⟨_, ⟨rfl, rfl⟩, rfl⟩
                    obtain ⟨c100, h_c100⟩ : ∃ c : Bool, cmpB .leq (-1) (((callS s).2.2.now) - m2) = some c := ⟨_, rfl⟩
                    refine ⟨[some (.map (some b3)), some (.slice (some ⟨g87, 0, none⟩) ((listK kE (callS s).2.2).length) cap88), some (.int .i64 ((k2 : Nat) : Int)), some (.pointer (some ⟨g87, k2, none⟩)), some (.string y89), some (.int .i64 t_ca), some (.bool false), some (.bool false), some (.bool false), some (.bool true), some (.bool true), some (.map (some b4)), some (.slice (some ⟨g87, 0, none⟩) ((listK kE (callS s).2.2).length) cap88), some (.int .i64 ((k2 : Nat) : Int)), some (.pointer (some ⟨g87, k2, none⟩)), some (.string y89), some (.int .i64 0), some (.int .i64 (-1)), some (.pointer (some ⟨b, 0, none⟩)), some (.int .i64 ((callS s).2.2.now)), some (.int .i64 m2), some (.int .i64 (((callS s).2.2.now) - m2)), some (.bool c100), some (.bool c100), some (.bool c100)], more_mk ⟨rfl, rfl, rfl, rfl, rfl, rfl, rfl, rfl, rfl, rfl, rfl, rfl, rfl, rfl, rfl, rfl, rfl, rfl, rfl, rfl, trivial⟩ rfl, ?_⟩
                    refine ⟨rfl, ⟨.inl rfl, .inl rfl, .inl rfl, .inl rfl, .inl rfl, .inl rfl, .inl rfl, .inl rfl, .inl rfl, .inl rfl, .inl rfl, .inr ⟨_, [.old 8, .op 10], rfl, rfl, .inl ⟨⟨_, rfl, rfl⟩, do_move rfl⟩⟩, .inr ⟨_, [.old 19, .op 10], rfl, rfl, .inl ⟨⟨_, rfl, rfl⟩, do_move rfl⟩⟩, .inr ⟨_, [.old 22, .op 10], rfl, rfl, .inl ⟨⟨_, rfl, rfl⟩, do_move rfl⟩⟩, .inr ⟨_, [.op 10, .op 12, .op 13], rfl, rfl, .inl ⟨⟨_, rfl, rfl⟩, do_indexAddr (j := k2) (p := k2) und_39 ty_9 rfl rfl rfl (by omega) (by omega)⟩⟩, .inr ⟨_, [.op 10, .op 14], rfl, rfl, .inl ⟨⟨_, rfl, rfl⟩, do_loadR (j := k2) 9 rfl one_9 rfl row_R (by omega) (str_at hy90)⟩⟩, .inr ⟨_, [.op 10, .op 11, .op 15], rfl, rfl, .inl ⟨⟨_, rfl, rfl⟩, do_lookup1N und_57 key_9 zero_3 6 rfl rfl rfl hg98⟩⟩, .inr ⟨_, [.op 10, .op 16], rfl, rfl, .inl ⟨⟨_, rfl, rfl⟩, do_sub (r := (-1)) rfl rfl rfl⟩⟩, .inl rfl, .inl rfl, .inr ⟨_, [.old 1, .op 10], rfl, rfl, .inl ⟨⟨_, rfl, rfl⟩, do_move rfl⟩⟩, .inr ⟨_, [.op 10, .op 19, .op 20], rfl, rfl, .inl ⟨⟨_, rfl, rfl⟩, do_sub (r := ((callS s).2.2.now) - m2) rfl rfl (wrap_i64 (by omega) (by omega))⟩⟩, .inr ⟨_, [.op 10, .op 17, .op 21], rfl, rfl, .inl ⟨⟨_, rfl, rfl⟩, do_cmp rfl rfl h_c100⟩⟩, .inr ⟨_, [.op 7, .op 10, .op 22], rfl, rfl, .inl ⟨⟨_, rfl, rfl⟩, do_pickT rfl rfl⟩⟩, .inr ⟨_, [.op 7, .op 23], rfl, rfl, .inl ⟨trivial, do_pickF rfl rfl⟩⟩, trivial⟩, [.op 24, .old 0, .old 1, .old 5, .old 7, .old 8, .old 9, .old 19, .old 21, .old 22], [(207, .bool c100), (0, .slice (some ⟨b0, off0, none⟩) ops.length cap0), (1, .int .i64 m2), (5, .pointer (some ⟨b, 0, none⟩)), (7, .map (some b3)), (8, .map (some b4)), (9, .int .i64 ((i : Nat) : Int)), (19, .slice (some ⟨g87, 0, none⟩) ((listK kE (callS s).2.2).length) cap88), (21, .map (some b69)), (22, .int .i64 ((k2 : Nat) : Int))], rfl, rfl, ?_⟩
                    refine at_then ?_
                    cases c100
                    · have p_c100 := cmp_leq_f h_c100
                      refine wc_false rfl ?_
                      refine wc_skip ?_
                      refine at_block ?_
                      refine at_then ?_
                      refine wc_region ?_
                      refine wl_1 trivial rfl (do_move rfl) ?_
                      refine wl_1 trivial rfl (do_add (r := ((k2 + 1 : Nat) : Int)) rfl rfl (wrap_nat (by omega) (by omega))) ?_
                      refine wl_1 trivial rfl (do_assign rfl) ?_
                      refine wl_nil ?_
                      refine at_pick (M := [_, _, _, _, _, _, _, _, _, _]) [0, 1, 2, 3, 5, 6, 7, 8, 9, 10] ⟨rfl, rfl, rfl, rfl, rfl, rfl, rfl, rfl, rfl, rfl, trivial⟩ (by decide) ?_
                      rw [bv_put]
                      have hphi : k2 + 1 ≤ (listK kE (callS s).2.2).length ∧ ∀ j z, j < k2 + 1 → (listK kE (callS s).2.2)[j]? = some z → aget (aput im y89 true) z = some true := ⟨by omega, fun j z hj hz => by rw [aget_aput]; split; rfl; exact hph j z (by rcases Nat.lt_or_eq_of_le (Nat.le_of_lt_succ hj) with h | rfl; exact h; rw [hz] at hy90; cases hy90; contradiction) hz⟩
                      exact at_round (k2 + 1, aput im y89 true) hphi (by show (listK kE (callS s).2.2).length - (k2 + 1) < (listK kE (callS s).2.2).length - k2; omega) ⟨rfl, rfl, rfl, rfl, rfl, rfl, rfl, rfl, rfl, trivial⟩ rfl
                    · have p_c100 := cmp_leq_t h_c100
                      exfalso; omega
                  · skip
                    obtain ⟨t_we, rfl, ht_we⟩ := cv_some hg98
                    refine wc_draw [[], [], [], [1, 2], [1, 2, 3], [0, 1, 2, 3, 4], [0, 1, 2, 3, 4, 5], [0, 1, 2, 3, 4, 5, 6], [0, 1, 2, 3, 4, 5, 6, 7], [0, 1, 2, 3, 4, 5, 6, 7, 8], [0, 1, 2, 3, 4, 5, 6, 7, 8, 9], [0, 1, 2, 3, 4, 5, 6, 7, 8, 9, 10], [0, 1, 2, 3, 4, 5, 6, 7, 8, 9, 10], [0, 1, 2, 3, 4, 5, 6, 7, 8, 9, 10], [0, 1, 2, 3, 4, 5, 6, 7, 8, 9, 10, 12, 13], [0, 1, 2, 3, 4, 5, 6, 7, 8, 9, 10, 12, 13, 14], [0, 1, 2, 3, 4, 5, 6, 7, 8, 9, 10, 11, 12, 13, 14, 15], [0, 1, 2, 3, 4, 5, 6, 7, 8, 9, 10, 11, 12, 13, 14, 15, 16], [0, 1, 2, 3, 4, 5, 6, 7, 8, 9, 10], [0, 1, 2, 3, 4, 5, 6, 7, 8, 9, 10, 18], [0, 1, 2, 3, 4, 5, 6, 7, 8, 9, 10], [0, 1, 2, 3, 4, 5, 6, 7, 8, 9, 10, 18, 19, 20], [0, 1, 2, 3, 4, 5, 6, 7, 8, 9, 10, 11, 12, 13, 14, 15, 16, 17, 18, 19, 20, 21], [0, 1, 2, 3, 4, 5, 6, 7, 8, 9, 10, 11, 12, 13, 14, 15, 16, 17, 18, 19, 20, 21, 22], [0, 1, 2, 3, 4, 5, 6, 7, 8, 9, 10, 11, 12, 13, 14, 15, 16, 17, 18, 19, 20, 21, 22, 23]] [some (.map (some b3)), some (.slice (some ⟨g87, 0, none⟩) ((listK kE (callS s).2.2).length) cap88), some (.int .i64 ((k2 : Nat) : Int)), some (.pointer (some ⟨g87, k2, none⟩)), some (.string y89), some (.int .i64 t_ca), some (.bool false), some (.bool false), some (.bool false), some (.bool true), some (.bool true), some (.map (some b4)), some (.slice (some ⟨g87, 0, none⟩) ((listK kE (callS s).2.2).length) cap88), some (.int .i64 ((k2 : Nat) : Int)), some (.pointer (some ⟨g87, k2, none⟩)), some (.string y89), some (.int .i64 t_we), some (.int .i64 (t_we - 1)), some (.pointer (some ⟨b, 0, none⟩)), none, some (.int .i64 m2), none, none, none, none] [19] mixed (by kernel_rfl) (by decide) ⟨rfl, rfl, ⟨.inr ⟨_, [.old 7], rfl, rfl, .inl ⟨trivial, do_move rfl⟩⟩, .inr ⟨_, [.old 19], rfl, rfl, .inl ⟨trivial, do_move rfl⟩⟩, .inr ⟨_, [.old 22], rfl, rfl, .inl ⟨trivial, do_move rfl⟩⟩, .inr ⟨_, [.op 1, .op 2], rfl, rfl, .inl ⟨trivial, do_indexAddr (j := k2) (p := k2) und_39 ty_9 rfl rfl rfl (by omega) (by omega)⟩⟩, .inr ⟨_, [.op 3], rfl, rfl, .inl ⟨trivial, do_loadR (j := k2) 9 rfl one_9 rfl row_R (by omega) (str_at hy90)⟩⟩, .inr ⟨_, [.op 0, .op 4], rfl, rfl, .inl ⟨trivial, do_lookup1S und_57 key_9 zero_3 5 rfl rfl rfl hg95⟩⟩, .inr ⟨_, [.op 5], rfl, rfl, .inl ⟨trivial, do_cmp rfl rfl h_c97⟩⟩, .inr ⟨_, [.op 6], rfl, rfl, .inl ⟨trivial, do_move rfl⟩⟩, .inr ⟨_, [.old 24, .op 7], rfl, rfl, .inl ⟨⟨_, rfl, rfl⟩, do_move rfl⟩⟩, .inr ⟨_, [.op 7, .op 8], rfl, rfl, .inl ⟨⟨_, rfl, rfl⟩, do_not (c := false) rfl⟩⟩, .inr ⟨_, [.op 7, .op 9], rfl, rfl, .inl ⟨⟨_, rfl, rfl⟩, do_move rfl⟩⟩, .inr ⟨_, [.old 8, .op 10], rfl, rfl, .inl ⟨⟨_, rfl, rfl⟩, do_move rfl⟩⟩, .inr ⟨_, [.old 19, .op 10], rfl, rfl, .inl ⟨⟨_, rfl, rfl⟩, do_move rfl⟩⟩, .inr ⟨_, [.old 22, .op 10], rfl, rfl, .inl ⟨⟨_, rfl, rfl⟩, do_move rfl⟩⟩, .inr ⟨_, [.op 10, .op 12, .op 13], rfl, rfl, .inl ⟨⟨_, rfl, rfl⟩, do_indexAddr (j := k2) (p := k2) und_39 ty_9 rfl rfl rfl (by omega) (by omega)⟩⟩, .inr ⟨_, [.op 10, .op 14], rfl, rfl, .inl ⟨⟨_, rfl, rfl⟩, do_loadR (j := k2) 9 rfl one_9 rfl row_R (by omega) (str_at hy90)⟩⟩, .inr ⟨_, [.op 10, .op 11, .op 15], rfl, rfl, .inl ⟨⟨_, rfl, rfl⟩, do_lookup1S und_57 key_9 zero_3 6 rfl rfl rfl hg98⟩⟩, .inr ⟨_, [.op 10, .op 16], rfl, rfl, .inl ⟨⟨_, rfl, rfl⟩, do_sub (r := t_we - 1) rfl rfl (wrap_i64 (by omega) (by omega))⟩⟩, .inr ⟨_, [.old 5, .op 10], rfl, rfl, .inl ⟨⟨_, rfl, rfl⟩, do_move rfl⟩⟩, .inr ⟨_, [.old 1, .op 10], rfl, rfl, .inl ⟨⟨_, rfl, rfl⟩, do_move rfl⟩⟩, trivial⟩, _, [.op 10, .op 18], _, rfl, rfl, ⟨_, rfl, rfl⟩, do_call (now_made B b r v lv (callS s).2.2) ⟨rfl, trivial⟩ enters_26 [0] [1, 2, 3, 4, 5, 6, 7, 8, 9, 10] ⟨rfl, trivial⟩ ⟨rfl, rfl, rfl, rfl, rfl, rfl, rfl, rfl, rfl, rfl, trivial⟩ (R := [_, _, _, _, _, _, _, _, _, _]) (by decide), ?_⟩
                    rintro _ _ ⟨_, ⟨rfl, rfl⟩, rfl⟩
                    obtain ⟨c101, h_c101⟩ : ∃ c : Bool, cmpB .leq (t_we - 1) (((callS s).2.2.now) - m2) = some c := ⟨_, rfl⟩
                    refine ⟨[some (.map (some b3)), some (.slice (some ⟨g87, 0, none⟩) ((listK kE (callS s).2.2).length) cap88), some (.int .i64 ((k2 : Nat) : Int)), some (.pointer (some ⟨g87, k2, none⟩)), some (.string y89), some (.int .i64 t_ca), some (.bool false), some (.bool false), some (.bool false), some (.bool true), some (.bool true), some (.map (some b4)), some (.slice (some ⟨g87, 0, none⟩) ((listK kE (callS s).2.2).length) cap88), some (.int .i64 ((k2 : Nat) : Int)), some (.pointer (some ⟨g87, k2, none⟩)), some (.string y89), some (.int .i64 t_we), some (.int .i64 (t_we - 1)), some (.pointer (some ⟨b, 0, none⟩)), some (.int .i64 ((callS s).2.2.now)), some (.int .i64 m2), some (.int .i64 (((callS s).2.2.now) - m2)), some (.bool c101), some (.bool c101), some (.bool c101)], more_mk ⟨rfl, rfl, rfl, rfl, rfl, rfl, rfl, rfl, rfl, rfl, rfl, rfl, rfl, rfl, rfl, rfl, rfl, rfl, rfl, rfl, trivial⟩ rfl, ?_⟩
                    refine ⟨rfl, ⟨.inl rfl, .inl rfl, .inl rfl, .inl rfl, .inl rfl, .inl rfl, .inl rfl, .inl rfl, .inl rfl, .inl rfl, .inl rfl, .inr ⟨_, [.old 8, .op 10], rfl, rfl, .inl ⟨⟨_, rfl, rfl⟩, do_move rfl⟩⟩, .inr ⟨_, [.old 19, .op 10], rfl, rfl, .inl ⟨⟨_, rfl, rfl⟩, do_move rfl⟩⟩, .inr ⟨_, [.old 22, .op 10], rfl, rfl, .inl ⟨⟨_, rfl, rfl⟩, do_move rfl⟩⟩, .inr ⟨_, [.op 10, .op 12, .op 13], rfl, rfl, .inl ⟨⟨_, rfl, rfl⟩, do_indexAddr (j := k2) (p := k2) und_39 ty_9 rfl rfl rfl (by omega) (by omega)⟩⟩, .inr ⟨_, [.op 10, .op 14], rfl, rfl, .inl ⟨⟨_, rfl, rfl⟩, do_loadR (j := k2) 9 rfl one_9 rfl row_R (by omega) (str_at hy90)⟩⟩, .inr ⟨_, [.op 10, .op 11, .op 15], rfl, rfl, .inl ⟨⟨_, rfl, rfl⟩, do_lookup1S und_57 key_9 zero_3 6 rfl rfl rfl hg98⟩⟩, .inr ⟨_, [.op 10, .op 16], rfl, rfl, .inl ⟨⟨_, rfl, rfl⟩, do_sub (r := t_we - 1) rfl rfl (wrap_i64 (by omega) (by omega))⟩⟩, .inl rfl, .inl rfl, .inr ⟨_, [.old 1, .op 10], rfl, rfl, .inl ⟨⟨_, rfl, rfl⟩, do_move rfl⟩⟩, .inr ⟨_, [.op 10, .op 19, .op 20], rfl, rfl, .inl ⟨⟨_, rfl, rfl⟩, do_sub (r := ((callS s).2.2.now) - m2) rfl rfl (wrap_i64 (by omega) (by omega))⟩⟩, .inr ⟨_, [.op 10, .op 17, .op 21], rfl, rfl, .inl ⟨⟨_, rfl, rfl⟩, do_cmp rfl rfl h_c101⟩⟩, .inr ⟨_, [.op 7, .op 10, .op 22], rfl, rfl, .inl ⟨⟨_, rfl, rfl⟩, do_pickT rfl rfl⟩⟩, .inr ⟨_, [.op 7, .op 23], rfl, rfl, .inl ⟨trivial, do_pickF rfl rfl⟩⟩, trivial⟩, [.op 24, .old 0, .old 1, .old 5, .old 7, .old 8, .old 9, .old 19, .old 21, .old 22], [(207, .bool c101), (0, .slice (some ⟨b0, off0, none⟩) ops.length cap0), (1, .int .i64 m2), (5, .pointer (some ⟨b, 0, none⟩)), (7, .map (some b3)), (8, .map (some b4)), (9, .int .i64 ((i : Nat) : Int)), (19, .slice (some ⟨g87, 0, none⟩) ((listK kE (callS s).2.2).length) cap88), (21, .map (some b69)), (22, .int .i64 ((k2 : Nat) : Int))], rfl, rfl, ?_⟩
                    refine at_then ?_
                    cases c101
                    · have p_c101 := cmp_leq_f h_c101
                      refine wc_false rfl ?_
                      refine wc_skip ?_
                      refine at_block ?_
                      refine at_then ?_
                      refine wc_region ?_
                      refine wl_1 trivial rfl (do_move rfl) ?_
                      refine wl_1 trivial rfl (do_add (r := ((k2 + 1 : Nat) : Int)) rfl rfl (wrap_nat (by omega) (by omega))) ?_
                      refine wl_1 trivial rfl (do_assign rfl) ?_
                      refine wl_nil ?_
                      refine at_pick (M := [_, _, _, _, _, _, _, _, _, _]) [0, 1, 2, 3, 5, 6, 7, 8, 9, 10] ⟨rfl, rfl, rfl, rfl, rfl, rfl, rfl, rfl, rfl, rfl, trivial⟩ (by decide) ?_
                      rw [bv_put]
                      have hphi : k2 + 1 ≤ (listK kE (callS s).2.2).length ∧ ∀ j z, j < k2 + 1 → (listK kE (callS s).2.2)[j]? = some z → aget (aput im y89 true) z = some true := ⟨by omega, fun j z hj hz => by rw [aget_aput]; split; rfl; exact hph j z (by rcases Nat.lt_or_eq_of_le (Nat.le_of_lt_succ hj) with h | rfl; exact h; rw [hz] at hy90; cases hy90; contradiction) hz⟩
                      exact at_round (k2 + 1, aput im y89 true) hphi (by show (listK kE (callS s).2.2).length - (k2 + 1) < (listK kE (callS s).2.2).length - k2; omega) ⟨rfl, rfl, rfl, rfl, rfl, rfl, rfl, rfl, rfl, trivial⟩ rfl
                    · have p_c101 := cmp_leq_t h_c101
                      exfalso; omega
                · have p_c97 := cmp_eql_t h_c97
                  refine wc_draw [[], [], [], [1, 2], [1, 2, 3], [0, 1, 2, 3, 4], [0, 1, 2, 3, 4, 5], [0, 1, 2, 3, 4, 5, 6], [0, 1, 2, 3, 4, 5, 6, 7], [0, 1, 2, 3, 4, 5, 6, 7, 8], [0, 1, 2, 3, 4, 5, 6, 7, 8, 9], [0, 1, 2, 3, 4, 5, 6, 7, 8, 9, 10], [0, 1, 2, 3, 4, 5, 6, 7, 8, 9, 10], [0, 1, 2, 3, 4, 5, 6, 7, 8, 9, 10], [0, 1, 2, 3, 4, 5, 6, 7, 8, 9, 10, 12, 13], [0, 1, 2, 3, 4, 5, 6, 7, 8, 9, 10, 12, 13, 14], [0, 1, 2, 3, 4, 5, 6, 7, 8, 9, 10, 11, 12, 13, 14, 15], [0, 1, 2, 3, 4, 5, 6, 7, 8, 9, 10, 11, 12, 13, 14, 15, 16], [0, 1, 2, 3, 4, 5, 6, 7, 8, 9, 10], [0, 1, 2, 3, 4, 5, 6, 7, 8, 9, 10, 18], [0, 1, 2, 3, 4, 5, 6, 7, 8, 9, 10], [0, 1, 2, 3, 4, 5, 6, 7, 8, 9, 10, 18, 19, 20], [0, 1, 2, 3, 4, 5, 6, 7, 8, 9, 10, 11, 12, 13, 14, 15, 16, 17, 18, 19, 20, 21], [0, 1, 2, 3, 4, 5, 6, 7, 8, 9, 10, 11, 12, 13, 14, 15, 16, 17, 18, 19, 20, 21, 22], [0, 1, 2, 3, 4, 5, 6, 7, 8, 9, 10, 11, 12, 13, 14, 15, 16, 17, 18, 19, 20, 21, 22, 23]] [some (.map (some b3)), some (.slice (some ⟨g87, 0, none⟩) ((listK kE (callS s).2.2).length) cap88), some (.int .i64 ((k2 : Nat) : Int)), some (.pointer (some ⟨g87, k2, none⟩)), some (.string y89), some (.int .i64 t_ca), some (.bool true), some (.bool true), some (undef), some (undef), some (undef), some (undef), some (undef), some (undef), some (undef), some (undef), some (undef), some (undef), some (undef), some (undef), some (undef), some (undef), some (undef), some (undef), some (.bool true)] [] mixed (by kernel_rfl) (by decide) ⟨rfl, ⟨.inr ⟨_, [.old 7], rfl, rfl, .inl ⟨trivial, do_move rfl⟩⟩, .inr ⟨_, [.old 19], rfl, rfl, .inl ⟨trivial, do_move rfl⟩⟩, .inr ⟨_, [.old 22], rfl, rfl, .inl ⟨trivial, do_move rfl⟩⟩, .inr ⟨_, [.op 1, .op 2], rfl, rfl, .inl ⟨trivial, do_indexAddr (j := k2) (p := k2) und_39 ty_9 rfl rfl rfl (by omega) (by omega)⟩⟩, .inr ⟨_, [.op 3], rfl, rfl, .inl ⟨trivial, do_loadR (j := k2) 9 rfl one_9 rfl row_R (by omega) (str_at hy90)⟩⟩, .inr ⟨_, [.op 0, .op 4], rfl, rfl, .inl ⟨trivial, do_lookup1S und_57 key_9 zero_3 5 rfl rfl rfl hg95⟩⟩, .inr ⟨_, [.op 5], rfl, rfl, .inl ⟨trivial, do_cmp rfl rfl h_c97⟩⟩, .inr ⟨_, [.op 6], rfl, rfl, .inl ⟨trivial, do_move rfl⟩⟩, .inr ⟨_, [.old 24, .op 7], rfl, rfl, .inr ⟨rfl, _, _, _, _, rfl, rfl, rfl, rfl⟩⟩, .inr ⟨_, [.op 7, .op 8], rfl, rfl, .inr ⟨rfl, _, _, _, _, rfl, rfl, rfl, rfl⟩⟩, .inr ⟨_, [.op 7, .op 9], rfl, rfl, .inr ⟨rfl, _, _, _, _, rfl, rfl, rfl, rfl⟩⟩, .inr ⟨_, [.old 8, .op 10], rfl, rfl, .inr ⟨rfl, _, _, _, _, rfl, rfl, rfl, rfl⟩⟩, .inr ⟨_, [.old 19, .op 10], rfl, rfl, .inr ⟨rfl, _, _, _, _, rfl, rfl, rfl, rfl⟩⟩, .inr ⟨_, [.old 22, .op 10], rfl, rfl, .inr ⟨rfl, _, _, _, _, rfl, rfl, rfl, rfl⟩⟩, .inr ⟨_, [.op 10, .op 12, .op 13], rfl, rfl, .inr ⟨rfl, _, _, _, _, rfl, rfl, rfl, rfl⟩⟩, .inr ⟨_, [.op 10, .op 14], rfl, rfl, .inr ⟨rfl, _, _, _, _, rfl, rfl, rfl, rfl⟩⟩, .inr ⟨_, [.op 10, .op 11, .op 15], rfl, rfl, .inr ⟨rfl, _, _, _, _, rfl, rfl, rfl, rfl⟩⟩, .inr ⟨_, [.op 10, .op 16], rfl, rfl, .inr ⟨rfl, _, _, _, _, rfl, rfl, rfl, rfl⟩⟩, .inr ⟨_, [.old 5, .op 10], rfl, rfl, .inr ⟨rfl, _, _, _, _, rfl, rfl, rfl, rfl⟩⟩, .inr ⟨_, [.op 10, .op 18], rfl, rfl, .inr ⟨rfl, _, _, _, _, rfl, rfl, rfl, rfl⟩⟩, .inr ⟨_, [.old 1, .op 10], rfl, rfl, .inr ⟨rfl, _, _, _, _, rfl, rfl, rfl, rfl⟩⟩, .inr ⟨_, [.op 10, .op 19, .op 20], rfl, rfl, .inr ⟨rfl, _, _, _, _, rfl, rfl, rfl, rfl⟩⟩, .inr ⟨_, [.op 10, .op 17, .op 21], rfl, rfl, .inr ⟨rfl, _, _, _, _, rfl, rfl, rfl, rfl⟩⟩, .inr ⟨_, [.op 7, .op 10, .op 22], rfl, rfl, .inr ⟨rfl, _, _, _, _, rfl, rfl, rfl, rfl⟩⟩, .inr ⟨_, [.op 7, .op 23], rfl, rfl, .inl ⟨trivial, do_pickT rfl rfl⟩⟩, trivial⟩, [.op 24, .old 0, .old 1, .old 5, .old 7, .old 8, .old 9, .old 19, .old 21, .old 22], [(207, .bool true), (0, .slice (some ⟨b0, off0, none⟩) ops.length cap0), (1, .int .i64 m2), (5, .pointer (some ⟨b, 0, none⟩)), (7, .map (some b3)), (8, .map (some b4)), (9, .int .i64 ((i : Nat) : Int)), (19, .slice (some ⟨g87, 0, none⟩) ((listK kE (callS s).2.2).length) cap88), (21, .map (some b69)), (22, .int .i64 ((k2 : Nat) : Int))], rfl, rfl, ?_⟩
                  refine at_then ?_
                  exfalso; omega
            · skip
              refine wl_do trivial rfl (do_call (look_some B b r v lv (callS s).2.2 y89 (hst2).ok v93 hg92) ⟨rfl, rfl, trivial⟩ enters_20 [0, 1, 2, 3] [4, 5, 6, 7, 8, 9] ⟨rfl, rfl, rfl, rfl, trivial⟩ ⟨rfl, rfl, rfl, rfl, rfl, rfl, trivial⟩ (R := [_, _, _, _, _, _]) (by decide)) ?_
              rintro _ _ ⟨_, ⟨x102, rfl, rfl⟩, rfl⟩
              refine wl_1 trivial rfl (do_move rfl) ?_
              refine wl_1 trivial rfl (do_extract rfl rfl) ?_
              refine wl_1 trivial rfl (do_extract rfl rfl) ?_
              refine wl_1 trivial rfl (do_assign rfl) ?_
              refine wl_1 trivial rfl (do_assign rfl) ?_
              refine wl_nil ?_
              refine at_then ?_
              refine wc_seq ?_
              rcases hg103 : aget (cv ca) y89 with _ | v104
              · skip
                have hz_ca := cv_none hg103
                omega
              · skip
                obtain ⟨t_ca, rfl, ht_ca⟩ := cv_some hg103
                obtain ⟨c105, h_c105⟩ : ∃ c : Bool, cmpB .eql t_ca 0 = some c := ⟨_, rfl⟩
                cases c105
                · have p_c105 := cmp_eql_f h_c105
                  refine wc_draw [[], [], [], [1, 2], [1, 2, 3], [0, 1, 2, 3, 4], [0, 1, 2, 3, 4, 5], [0, 1, 2, 3, 4, 5, 6], [0, 1, 2, 3, 4, 5, 6, 7], [0, 1, 2, 3, 4, 5, 6, 7, 8], [0, 1, 2, 3, 4, 5, 6, 7, 8, 9], [0, 1, 2, 3, 4, 5, 6, 7, 8, 9, 10], [0, 1, 2, 3, 4, 5, 6, 7, 8, 9, 10], [0, 1, 2, 3, 4, 5, 6, 7, 8, 9, 10], [0, 1, 2, 3, 4, 5, 6, 7, 8, 9, 10, 12, 13], [0, 1, 2, 3, 4, 5, 6, 7, 8, 9, 10, 12, 13, 14], [0, 1, 2, 3, 4, 5, 6, 7, 8, 9, 10, 11, 12, 13, 14, 15], [0, 1, 2, 3, 4, 5, 6, 7, 8, 9, 10, 11, 12, 13, 14, 15, 16], [0, 1, 2, 3, 4, 5, 6, 7, 8, 9, 10], [0, 1, 2, 3, 4, 5, 6, 7, 8, 9, 10, 18], [0, 1, 2, 3, 4, 5, 6, 7, 8, 9, 10], [0, 1, 2, 3, 4, 5, 6, 7, 8, 9, 10, 18, 19, 20], [0, 1, 2, 3, 4, 5, 6, 7, 8, 9, 10, 11, 12, 13, 14, 15, 16, 17, 18, 19, 20, 21], [0, 1, 2, 3, 4, 5, 6, 7, 8, 9, 10, 11, 12, 13, 14, 15, 16, 17, 18, 19, 20, 21, 22], [0, 1, 2, 3, 4, 5, 6, 7, 8, 9, 10, 11, 12, 13, 14, 15, 16, 17, 18, 19, 20, 21, 22, 23]] [some (.map (some b3)), some (.slice (some ⟨g87, 0, none⟩) ((listK kE (callS s).2.2).length) cap88), some (.int .i64 ((k2 : Nat) : Int)), some (.pointer (some ⟨g87, k2, none⟩)), some (.string y89), some (.int .i64 t_ca), some (.bool false), some (.bool false), some (.bool true), some (.bool false), some (.bool false), some (undef), some (undef), some (undef), some (undef), some (undef), some (undef), some (undef), some (undef), some (undef), some (undef), some (undef), some (undef), some (.bool false), some (.bool false)] [] mixed (by kernel_rfl) (by decide) ⟨rfl, ⟨.inr ⟨_, [.old 7], rfl, rfl, .inl ⟨trivial, do_move rfl⟩⟩, .inr ⟨_, [.old 19], rfl, rfl, .inl ⟨trivial, do_move rfl⟩⟩, .inr ⟨_, [.old 22], rfl, rfl, .inl ⟨trivial, do_move rfl⟩⟩, .inr ⟨_, [.op 1, .op 2], rfl, rfl, .inl ⟨trivial, do_indexAddr (j := k2) (p := k2) und_39 ty_9 rfl rfl rfl (by omega) (by omega)⟩⟩, .inr ⟨_, [.op 3], rfl, rfl, .inl ⟨trivial, do_loadR (j := k2) 9 rfl one_9 rfl row_R (by omega) (str_at hy90)⟩⟩, .inr ⟨_, [.op 0, .op 4], rfl, rfl, .inl ⟨trivial, do_lookup1S und_57 key_9 zero_3 5 rfl rfl rfl hg103⟩⟩, .inr ⟨_, [.op 5], rfl, rfl, .inl ⟨trivial, do_cmp rfl rfl h_c105⟩⟩, .inr ⟨_, [.op 6], rfl, rfl, .inl ⟨trivial, do_move rfl⟩⟩, .inr ⟨_, [.old 24, .op 7], rfl, rfl, .inl ⟨⟨_, rfl, rfl⟩, do_move rfl⟩⟩, .inr ⟨_, [.op 7, .op 8], rfl, rfl, .inl ⟨⟨_, rfl, rfl⟩, do_not (c := true) rfl⟩⟩, .inr ⟨_, [.op 7, .op 9], rfl, rfl, .inl ⟨⟨_, rfl, rfl⟩, do_move rfl⟩⟩, .inr ⟨_, [.old 8, .op 10], rfl, rfl, .inr ⟨rfl, _, _, _, _, rfl, rfl, rfl, rfl⟩⟩, .inr ⟨_, [.old 19, .op 10], rfl, rfl, .inr ⟨rfl, _, _, _, _, rfl, rfl, rfl, rfl⟩⟩, .inr ⟨_, [.old 22, .op 10], rfl, rfl, .inr ⟨rfl, _, _, _, _, rfl, rfl, rfl, rfl⟩⟩, .inr ⟨_, [.op 10, .op 12, .op 13], rfl, rfl, .inr ⟨rfl, _, _, _, _, rfl, rfl, rfl, rfl⟩⟩, .inr ⟨_, [.op 10, .op 14], rfl, rfl, .inr ⟨rfl, _, _, _, _, rfl, rfl, rfl, rfl⟩⟩, .inr ⟨_, [.op 10, .op 11, .op 15], rfl, rfl, .inr ⟨rfl, _, _, _, _, rfl, rfl, rfl, rfl⟩⟩, .inr ⟨_, [.op 10, .op 16], rfl, rfl, .inr ⟨rfl, _, _, _, _, rfl, rfl, rfl, rfl⟩⟩, .inr ⟨_, [.old 5, .op 10], rfl, rfl, .inr ⟨rfl, _, _, _, _, rfl, rfl, rfl, rfl⟩⟩, .inr ⟨_, [.op 10, .op 18], rfl, rfl, .inr ⟨rfl, _, _, _, _, rfl, rfl, rfl, rfl⟩⟩, .inr ⟨_, [.old 1, .op 10], rfl, rfl, .inr ⟨rfl, _, _, _, _, rfl, rfl, rfl, rfl⟩⟩, .inr ⟨_, [.op 10, .op 19, .op 20], rfl, rfl, .inr ⟨rfl, _, _, _, _, rfl, rfl, rfl, rfl⟩⟩, .inr ⟨_, [.op 10, .op 17, .op 21], rfl, rfl, .inr ⟨rfl, _, _, _, _, rfl, rfl, rfl, rfl⟩⟩, .inr ⟨_, [.op 7, .op 10, .op 22], rfl, rfl, .inl ⟨⟨_, rfl, rfl⟩, do_pickF rfl rfl⟩⟩, .inr ⟨_, [.op 7, .op 23], rfl, rfl, .inl ⟨trivial, do_pickF rfl rfl⟩⟩, trivial⟩, [.op 24, .old 0, .old 1, .old 5, .old 7, .old 8, .old 9, .old 19, .old 21, .old 22], [(207, .bool false), (0, .slice (some ⟨b0, off0, none⟩) ops.length cap0), (1, .int .i64 m2), (5, .pointer (some ⟨b, 0, none⟩)), (7, .map (some b3)), (8, .map (some b4)), (9, .int .i64 ((i : Nat) : Int)), (19, .slice (some ⟨g87, 0, none⟩) ((listK kE (callS s).2.2).length) cap88), (21, .map (some b69)), (22, .int .i64 ((k2 : Nat) : Int))], rfl, rfl, ?_⟩
                  refine at_then ?_
                  refine wc_false rfl ?_
                  refine wc_skip ?_
                  refine at_block ?_
                  refine at_then ?_
                  refine wc_region ?_
                  refine wl_1 trivial rfl (do_move rfl) ?_
                  refine wl_1 trivial rfl (do_add (r := ((k2 + 1 : Nat) : Int)) rfl rfl (wrap_nat (by omega) (by omega))) ?_
                  refine wl_1 trivial rfl (do_assign rfl) ?_
                  refine wl_nil ?_
                  refine at_pick (M := [_, _, _, _, _, _, _, _, _, _]) [0, 1, 2, 3, 5, 6, 7, 8, 9, 10] ⟨rfl, rfl, rfl, rfl, rfl, rfl, rfl, rfl, rfl, rfl, trivial⟩ (by decide) ?_
                  rw [bv_put]
                  have hphi : k2 + 1 ≤ (listK kE (callS s).2.2).length ∧ ∀ j z, j < k2 + 1 → (listK kE (callS s).2.2)[j]? = some z → aget (aput im y89 true) z = some true := ⟨by omega, fun j z hj hz => by rw [aget_aput]; split; rfl; exact hph j z (by rcases Nat.lt_or_eq_of_le (Nat.le_of_lt_succ hj) with h | rfl; exact h; rw [hz] at hy90; cases hy90; contradiction) hz⟩
                  exact at_round (k2 + 1, aput im y89 true) hphi (by show (listK kE (callS s).2.2).length - (k2 + 1) < (listK kE (callS s).2.2).length - k2; omega) ⟨rfl, rfl, rfl, rfl, rfl, rfl, rfl, rfl, rfl, trivial⟩ rfl
                · have p_c105 := cmp_eql_t h_c105
                  refine wc_draw [[], [], [], [1, 2], [1, 2, 3], [0, 1, 2, 3, 4], [0, 1, 2, 3, 4, 5], [0, 1, 2, 3, 4, 5, 6], [0, 1, 2, 3, 4, 5, 6, 7], [0, 1, 2, 3, 4, 5, 6, 7, 8], [0, 1, 2, 3, 4, 5, 6, 7, 8, 9], [0, 1, 2, 3, 4, 5, 6, 7, 8, 9, 10], [0, 1, 2, 3, 4, 5, 6, 7, 8, 9, 10], [0, 1, 2, 3, 4, 5, 6, 7, 8, 9, 10], [0, 1, 2, 3, 4, 5, 6, 7, 8, 9, 10, 12, 13], [0, 1, 2, 3, 4, 5, 6, 7, 8, 9, 10, 12, 13, 14], [0, 1, 2, 3, 4, 5, 6, 7, 8, 9, 10, 11, 12, 13, 14, 15], [0, 1, 2, 3, 4, 5, 6, 7, 8, 9, 10, 11, 12, 13, 14, 15, 16], [0, 1, 2, 3, 4, 5, 6, 7, 8, 9, 10], [0, 1, 2, 3, 4, 5, 6, 7, 8, 9, 10, 18], [0, 1, 2, 3, 4, 5, 6, 7, 8, 9, 10], [0, 1, 2, 3, 4, 5, 6, 7, 8, 9, 10, 18, 19, 20], [0, 1, 2, 3, 4, 5, 6, 7, 8, 9, 10, 11, 12, 13, 14, 15, 16, 17, 18, 19, 20, 21], [0, 1, 2, 3, 4, 5, 6, 7, 8, 9, 10, 11, 12, 13, 14, 15, 16, 17, 18, 19, 20, 21, 22], [0, 1, 2, 3, 4, 5, 6, 7, 8, 9, 10, 11, 12, 13, 14, 15, 16, 17, 18, 19, 20, 21, 22, 23]] [some (.map (some b3)), some (.slice (some ⟨g87, 0, none⟩) ((listK kE (callS s).2.2).length) cap88), some (.int .i64 ((k2 : Nat) : Int)), some (.pointer (some ⟨g87, k2, none⟩)), some (.string y89), some (.int .i64 t_ca), some (.bool true), some (.bool true), some (undef), some (undef), some (undef), some (undef), some (undef), some (undef), some (undef), some (undef), some (undef), some (undef), some (undef), some (undef), some (undef), some (undef), some (undef), some (undef), some (.bool true)] [] mixed (by kernel_rfl) (by decide) ⟨rfl, ⟨.inr ⟨_, [.old 7], rfl, rfl, .inl ⟨trivial, do_move rfl⟩⟩, .inr ⟨_, [.old 19], rfl, rfl, .inl ⟨trivial, do_move rfl⟩⟩, .inr ⟨_, [.old 22], rfl, rfl, .inl ⟨trivial, do_move rfl⟩⟩, .inr ⟨_, [.op 1, .op 2], rfl, rfl, .inl ⟨trivial, do_indexAddr (j := k2) (p := k2) und_39 ty_9 rfl rfl rfl (by omega) (by omega)⟩⟩, .inr ⟨_, [.op 3], rfl, rfl, .inl ⟨trivial, do_loadR (j := k2) 9 rfl one_9 rfl row_R (by omega) (str_at hy90)⟩⟩, .inr ⟨_, [.op 0, .op 4], rfl, rfl, .inl ⟨trivial, do_lookup1S und_57 key_9 zero_3 5 rfl rfl rfl hg103⟩⟩, .inr ⟨_, [.op 5], rfl, rfl, .inl ⟨trivial, do_cmp rfl rfl h_c105⟩⟩, .inr ⟨_, [.op 6], rfl, rfl, .inl ⟨trivial, do_move rfl⟩⟩, .inr ⟨_, [.old 24, .op 7], rfl, rfl, .inr ⟨rfl, _, _, _, _, rfl, rfl, rfl, rfl⟩⟩, .inr ⟨_, [.op 7, .op 8], rfl, rfl, .inr ⟨rfl, _, _, _, _, rfl, rfl, rfl, rfl⟩⟩, .inr ⟨_, [.op 7, .op 9], rfl, rfl, .inr ⟨rfl, _, _, _, _, rfl, rfl, rfl, rfl⟩⟩, .inr ⟨_, [.old 8, .op 10], rfl, rfl, .inr ⟨rfl, _, _, _, _, rfl, rfl, rfl, rfl⟩⟩, .inr ⟨_, [.old 19, .op 10], rfl, rfl, .inr ⟨rfl, _, _, _, _, rfl, rfl, rfl, rfl⟩⟩, .inr ⟨_, [.old 22, .op 10], rfl, rfl, .inr ⟨rfl, _, _, _, _, rfl, rfl, rfl, rfl⟩⟩, .inr ⟨_, [.op 10, .op 12, .op 13], rfl, rfl, .inr ⟨rfl, _, _, _, _, rfl, rfl, rfl, rfl⟩⟩, .inr ⟨_, [.op 10, .op 14], rfl, rfl, .inr ⟨rfl, _, _, _, _, rfl, rfl, rfl, rfl⟩⟩, .inr ⟨_, [.op 10, .op 11, .op 15], rfl, rfl, .inr ⟨rfl, _, _, _, _, rfl, rfl, rfl, rfl⟩⟩, .inr ⟨_, [.op 10, .op 16], rfl, rfl, .inr ⟨rfl, _, _, _, _, rfl, rfl, rfl, rfl⟩⟩, .inr ⟨_, [.old 5, .op 10], rfl, rfl, .inr ⟨rfl, _, _, _, _, rfl, rfl, rfl, rfl⟩⟩, .inr ⟨_, [.op 10, .op 18], rfl, rfl, .inr ⟨rfl, _, _, _, _, rfl, rfl, rfl, rfl⟩⟩, .inr ⟨_, [.old 1, .op 10], rfl, rfl, .inr ⟨rfl, _, _, _, _, rfl, rfl, rfl, rfl⟩⟩, .inr ⟨_, [.op 10, .op 19, .op 20], rfl, rfl, .inr ⟨rfl, _, _, _, _, rfl, rfl, rfl, rfl⟩⟩, .inr ⟨_, [.op 10, .op 17, .op 21], rfl, rfl, .inr ⟨rfl, _, _, _, _, rfl, rfl, rfl, rfl⟩⟩, .inr ⟨_, [.op 7, .op 10, .op 22], rfl, rfl, .inr ⟨rfl, _, _, _, _, rfl, rfl, rfl, rfl⟩⟩, .inr ⟨_, [.op 7, .op 23], rfl, rfl, .inl ⟨trivial, do_pickT rfl rfl⟩⟩, trivial⟩, [.op 24, .old 0, .old 1, .old 5, .old 7, .old 8, .old 9, .old 19, .old 21, .old 22], [(207, .bool true), (0, .slice (some ⟨b0, off0, none⟩) ops.length cap0), (1, .int .i64 m2), (5, .pointer (some ⟨b, 0, none⟩)), (7, .map (some b3)), (8, .map (some b4)), (9, .int .i64 ((i : Nat) : Int)), (19, .slice (some ⟨g87, 0, none⟩) ((listK kE (callS s).2.2).length) cap88), (21, .map (some b69)), (22, .int .i64 ((k2 : Nat) : Int))], rfl, rfl, ?_⟩
                  refine at_then ?_
                  exfalso; omega
end Go.Proofs.Ytmefejfnddcelaa
