/- Printed by gen/simobj.py for this claim: what each of these functions of the program does, as its theorem says. No condition but what stands in each theorem. -/
import Derived.Test.YtmefejfnddcelaaOw
namespace Go.Proofs.Ytmefejfnddcelaa
def wv (w : List (ByteArray × ByteArray)) : List (ByteArray × Value) := w.map fun q => (q.1, .string q.2)
theorem wv_get {w : List (ByteArray × ByteArray)} {k : ByteArray} : aget (wv w) k = (aget w k).map Value.string := by
  induction w with
  | nil => rfl
  | cons q w ih =>
    obtain ⟨a, x⟩ := q
    show aget ((a, .string x) :: wv w) k = _
    simp only [aget]
    split
    · rfl
    · exact ih
theorem wv_put {w : List (ByteArray × ByteArray)} (k x : ByteArray) : aput (wv w) k (.string x) = wv (aput w k x) := by
  induction w with
  | nil => rfl
  | cons q w ih =>
    obtain ⟨a, y⟩ := q
    show aput ((a, .string y) :: wv w) k _ = _
    simp only [aput]
    split
    · rfl
    · rw [ih]; rfl
theorem wv_del {w : List (ByteArray × ByteArray)} (k : ByteArray) : adel (wv w) k = wv (adel w k) := by
  induction w with
  | nil => rfl
  | cons q w ih =>
    obtain ⟨a, y⟩ := q
    show adel ((a, .string y) :: wv w) k = _
    simp only [adel]
    split
    · rfl
    · rw [ih]; rfl
theorem ao20 : AO kS20 [] := ⟨.nil, .nil, fun k => rfl⟩
theorem wv_len {s : SS} {wt : List (ByteArray × ByteArray)} (h : AO s wt) : ((s.objs.length : Nat) : Int) = (((wv wt).length : Nat) : Int) := by rw [h.len]; simp [wv]
theorem AO.again {s : SS} {wt : List (ByteArray × ByteArray)} (h : AO s wt) {key : ByteArray} {x : List UInt8} (hg : aget s.objs key = some x) : AO s (aput wt key (baOf x)) :=
  ⟨h.nd, nodup_aput h.nw _ _, fun k => by
    rw [aget_aput]
    by_cases e : k = key
    · rw [if_pos e, e, hg]; rfl
    · rw [if_neg e]; exact h.ag k⟩
theorem AO.gone {s : SS} {wt : List (ByteArray × ByteArray)} (h : AO s wt) {key : ByteArray} (hg : aget s.objs key = none) : AO s (adel wt key) :=
  ⟨h.nd, nodup_adel h.nw _, fun k => by
    rw [aget_adel h.nw]
    by_cases e : k = key
    · rw [if_pos e, e, hg]; rfl
    · rw [if_neg e]; exact h.ag k⟩
theorem AO.call {s : SS} {wt : List (ByteArray × ByteArray)} (h : AO s wt) : AO (callS s).2.2 wt := h.same (callS_objs s)
theorem tickS_objs (s : SS) (k : Int) : (tickS s k).2.objs = s.objs := by unfold tickS; split <;> rfl
theorem lagS_objs (s : SS) (k : Int) : (lagS s k).2.objs = s.objs := by unfold lagS; split <;> rfl
theorem listS_objs (p : ByteArray) (s : SS) : (listS p s).2.2.objs = s.objs := by unfold listS; split; rfl; split <;> exact callS_objs s
theorem has_hi {k : Int} (h : IntKind.i64.has k) : k ≤ 9223372036854775807 := by simp only [IntKind.has, Bool.and_eq_true, decide_eq_true_eq] at h; exact h.2
theorem has_lo {k : Int} (h : IntKind.i64.has k) : -9223372036854775808 ≤ k := by simp only [IntKind.has, Bool.and_eq_true, decide_eq_true_eq] at h; exact h.1
theorem und_54 : Try.prog.underlying 54 = some (.map 9 9) := by kernel_rfl
theorem isSlice_22 : isSlice Try.prog 22 = true := by kernel_rfl
theorem isMap_54 : isMap Try.prog 54 = true := by kernel_rfl
theorem und_22 : Try.prog.underlying 22 = some (.slice 34) := by kernel_rfl
theorem ty_34 : tyOk Try.prog 34 5 64 (.agg #[.int .i64 0, .string ⟨#[]⟩, .slice none 0 0, .int .i64 0, .bool false]) := ty_mk (by kernel_rfl) rfl
theorem agg_34 : aggOk Try.prog 34 5 = true := by kernel_rfl
theorem zero_34 : zeroOk Try.prog 34 (.agg #[.int .i64 0, .string ⟨#[]⟩, .slice none 0 0, .int .i64 0, .bool false]) := zero_mk (by kernel_rfl)
theorem fo_34_0 : fieldOk Try.prog 34 0 0 = true := by kernel_rfl
theorem zero_9 : zeroOk Try.prog 9 (.string ⟨#[]⟩) := zero_mk (by kernel_rfl)
theorem isBool_4 : isBool Try.prog 4 = true := by kernel_rfl
set_option maxRecDepth 100000 in
set_option maxHeartbeats 8000000 in
theorem at1_tri (B : Ctx) (a0 : Option Addr) (cap0 b0 off0 : Nat) (ops : List OpR) (hops : ∀ (j : Nat) (o : OpR), ops[j]? = some o → a0 = some ⟨b0, off0, none⟩ ∧ OpB B b0 off0 j o) :
    Tri Try.prog B 5 #[.slice a0 ops.length cap0] [AnyP] (fun u M => u = .bool true ∧ M = [AnyP]) := by
  refine tri_body (n := 235) Try.func5 rfl rfl rfl ?_
  intro F
  show WC _ _ _ _ _ _ _ [(0, .slice a0 ops.length cap0)] [AnyP, F]
  refine wc_seq ?_
  refine wc_region ?_
  refine wl_1 trivial rfl (do_assign rfl) ?_
  refine wl_nil ?_
  refine at_then ?_
  refine wc_seq ?_
  refine wc_region ?_
  refine wl_do trivial rfl (do_call (k_new20 B) ⟨rfl, trivial⟩ enters_12 [] [0, 1] trivial ⟨rfl, rfl, trivial⟩ (R := [_, _]) (by decide)) ?_
  rintro _ _ ⟨_, ⟨b, r, rfl, rfl⟩, rfl⟩
  refine wl_1 trivial rfl (do_move rfl) ?_
  refine wl_1 trivial rfl (do_extract rfl rfl) ?_
  refine wl_1 trivial rfl (do_extract rfl rfl) ?_
  refine wl_1 trivial rfl (do_assign rfl) ?_
  refine wl_1 trivial rfl (do_assign rfl) ?_
  refine wl_nil ?_
  refine at_then ?_
  refine wc_seq ?_
  refine wc_seq ?_
  refine wc_region ?_
  refine wl_1 trivial rfl (do_move rfl) ?_
  refine wl_do trivial rfl (do_call (num_tri B 0) ⟨rfl, trivial⟩ enters_14 [] [0, 1, 2, 3, 4, 5] trivial ⟨rfl, rfl, rfl, rfl, rfl, rfl, trivial⟩ (R := [_, _, _, _, _, _]) (by decide)) ?_
  rintro _ _ ⟨_, ⟨rfl, rfl⟩, rfl⟩
  refine wl_1 trivial rfl (do_cmp (c := false) rfl rfl rfl) ?_
  refine wl_1 trivial rfl (do_move rfl) ?_
  refine wl_1 ⟨_, rfl, rfl⟩ rfl (do_move rfl) ?_
  refine wl_1 ⟨_, rfl, rfl⟩ rfl (do_eqPtr isPtr_23 rfl rfl (.inr rfl)) ?_
  refine wl_1 trivial rfl (do_pickF rfl rfl) ?_
  refine wl_1 trivial rfl (do_move rfl) ?_
  refine wl_do ⟨_, rfl, rfl⟩ rfl (do_call (knows_tri B) trivial enters_15 [] [0, 1, 2, 3, 4, 5] trivial ⟨rfl, rfl, rfl, rfl, rfl, rfl, trivial⟩ (R := [_, _, _, _, _, _]) (by decide)) ?_
  rintro _ _ ⟨_, ⟨rfl, rfl⟩, rfl⟩
  refine wl_1 ⟨_, rfl, rfl⟩ rfl (do_not (c := true) rfl) ?_
  refine wl_1 trivial rfl (do_pickF rfl rfl) ?_
  refine wl_nil ?_
  refine at_then ?_
  refine wc_false rfl ?_
  refine wc_skip ?_
  refine at_then ?_
  refine wc_seq ?_
  refine wc_region ?_
  refine wl_do trivial rfl do_makeMap ?_
  rintro _ _ ⟨b1, rfl, rfl⟩
  refine wl_mem (L' := [mapA encS b1 ([] : List (ByteArray × Value)), pt b (.cells #[.map (some r), .slice none 0 0, .int .i64 kS20.most, .int .i64 kS20.lag, .int .i64 kS20.now, .int .i64 kS20.calls, .int .i64 kS20.count, .bool kS20.done] 52 (0, 0)), mapA encS r ([]), row 113 3 (.slice none 0 0) kS20.chg.length (chgCells kS20.chg), valsA B ([]) kS20.objs, AnyP, F]) (fun w h => Sat.imp (L1 := []) h (fun _ => mapA_empty _)) ?_
  refine wl_1 trivial rfl (do_assign rfl) ?_
  refine wl_nil ?_
  refine at_then ?_
  refine wc_seq ?_
  refine wc_seq ?_
  refine wc_region ?_
  refine wl_1 trivial rfl (do_assign rfl) ?_
  refine wl_nil ?_
  refine at_then ?_
  refine wc_block ?_
  refine wc_mem (fun w_ h_ => h_.pick (M := [pt b (.cells #[.map (some r), .slice none 0 0, .int .i64 kS20.most, .int .i64 kS20.lag, .int .i64 kS20.now, .int .i64 kS20.calls, .int .i64 kS20.count, .bool kS20.done] 52 (0, 0)), mapA encS r ([]), row 113 3 (.slice none 0 0) kS20.chg.length (chgCells kS20.chg), valsA B ([]) kS20.objs, mapA encS b1 ([] : List (ByteArray × Value)), AnyP, F]) [1, 2, 3, 4, 0, 5, 6] ⟨rfl, rfl, rfl, rfl, rfl, rfl, rfl, trivial⟩ (by decide)) ?_
  refine wc_loop (fun (z_ : Nat × SS × Value × List (ByteArray × Value) × List (ByteArray × ByteArray)) => match z_ with | (i, s, v, lv, wt) => StOk s i ∧ i ≤ 200 ∧ AO s wt) (fun (z_ : Nat × SS × Value × List (ByteArray × Value) × List (ByteArray × ByteArray)) => match z_ with | (i, s, v, lv, wt) => [(0, .slice a0 ops.length cap0), (3, .pointer (some ⟨b, 0, none⟩)), (5, .map (some b1)), (6, .int .i64 ((i : Nat) : Int))]) (fun (z_ : Nat × SS × Value × List (ByteArray × Value) × List (ByteArray × ByteArray)) => match z_ with | (i, s, v, lv, wt) => [pt b (.cells #[.map (some r), v, .int .i64 s.most, .int .i64 s.lag, .int .i64 s.now, .int .i64 s.calls, .int .i64 s.count, .bool s.done] 52 (0, 0)), mapA encS r lv, row 113 3 v s.chg.length (chgCells s.chg), valsA B lv s.objs, mapA encS b1 (wv wt), AnyP, F]) (fun (z_ : Nat × SS × Value × List (ByteArray × Value) × List (ByteArray × ByteArray)) => match z_ with | (i, s, v, lv, wt) => 200 - i) (0, kS20, (.slice none 0 0), [], []) ⟨st20, by omega, ao20⟩ ⟨rfl, rfl, rfl, rfl, trivial⟩ rfl ?_
  rintro ⟨i, s, v, lv, wt⟩ hphi
  obtain ⟨hst, hi, hao⟩ := hphi
  show WC _ _ _ _ _ _ _ [(0, .slice a0 ops.length cap0), (3, .pointer (some ⟨b, 0, none⟩)), (5, .map (some b1)), (6, .int .i64 ((i : Nat) : Int))] [pt b (.cells #[.map (some r), v, .int .i64 s.most, .int .i64 s.lag, .int .i64 s.now, .int .i64 s.calls, .int .i64 s.count, .bool s.done] 52 (0, 0)), mapA encS r lv, row 113 3 v s.chg.length (chgCells s.chg), valsA B lv s.objs, mapA encS b1 (wv wt), AnyP, F]
  refine wc_seq ?_
  refine wc_seq ?_
  refine wc_region ?_
  refine wl_1 trivial rfl (do_move rfl) ?_
  refine wl_1 trivial rfl (do_move rfl) ?_
  refine wl_1 trivial rfl (do_lenSlice rfl isSlice_22 rfl) ?_
  obtain ⟨c2, h_c2⟩ : ∃ c : Bool, cmpB .lss ((i : Nat) : Int) ((ops.length : Nat) : Int) = some c := ⟨_, rfl⟩
  refine wl_1 trivial rfl (do_cmp rfl rfl h_c2) ?_
  refine wl_1 trivial rfl (do_move rfl) ?_
  cases c2
  · have p_c2 := cmp_lss_f h_c2
    refine wl_no rfl rfl rfl rfl rfl ?_
    refine wl_no rfl rfl rfl rfl rfl ?_
    refine wl_1 trivial rfl (do_pickF rfl rfl) ?_
    refine wl_nil ?_
    refine at_then ?_
    refine wc_false rfl ?_
    refine wc_exit ?_
    refine at_then_exit ?_
    refine at_then_exit ?_
    refine at_block_it ?_
    refine at_then ?_
    refine wc_seq ?_
    refine wc_region ?_
    refine wl_1 trivial rfl (do_move rfl) ?_
    refine wl_do trivial rfl (do_call (keys_tri B b r v lv s (by have := (hst).objs1; omega)) ⟨rfl, trivial⟩ enters_25 [0, 1, 2, 3] [4, 5, 6] ⟨rfl, rfl, rfl, rfl, trivial⟩ ⟨rfl, rfl, rfl, trivial⟩ (R := [_, _, _]) (by decide)) ?_
    rintro _ _ ⟨_, ⟨x3, rfl, rfl⟩, rfl⟩
    refine wl_1 trivial rfl (do_lenRow 4 rfl isSlice_39 rfl rfl) ?_
    refine wl_1 trivial rfl (do_move rfl) ?_
    refine wl_1 trivial rfl (do_lenMapA 5 rfl isMap_54 rfl rfl) ?_
    obtain ⟨c4, h_c4⟩ : ∃ c : Bool, cmpB .eql ((s.objs.length : Nat) : Int) (((wv wt).length : Nat) : Int) = some c := ⟨_, rfl⟩
    refine wl_1 trivial rfl (do_cmp rfl rfl h_c4) ?_
    refine wl_1 trivial rfl (do_assign rfl) ?_
    refine wl_nil ?_
    refine at_then ?_
    refine wc_ret ?_
    cases c4
    · have p_c4 := cmp_eql_f h_c4
      exact absurd (wv_len hao) p_c4
    · have p_c4 := cmp_eql_t h_c4
      refine at_pick (M := [_, _]) [6, 7] ⟨rfl, rfl, trivial⟩ (by decide) ?_
      exact at_ret1 (M := [_]) rfl rfl ⟨rfl, rfl⟩ rfl
  · have p_c2 := cmp_lss_t h_c2
    refine wl_1 ⟨_, rfl, rfl⟩ rfl (do_move rfl) ?_
    obtain ⟨c5, h_c5⟩ : ∃ c : Bool, cmpB .lss ((i : Nat) : Int) 200 = some c := ⟨_, rfl⟩
    refine wl_1 ⟨_, rfl, rfl⟩ rfl (do_cmp rfl rfl h_c5) ?_
    refine wl_1 trivial rfl (do_pickT rfl rfl) ?_
    refine wl_nil ?_
    refine at_then ?_
    cases c5
    · have p_c5 := cmp_lss_f h_c5
      refine wc_false rfl ?_
      refine wc_exit ?_
      refine at_then_exit ?_
      refine at_then_exit ?_
      refine at_block_it ?_
      refine at_then ?_
      refine wc_seq ?_
      refine wc_region ?_
      refine wl_1 trivial rfl (do_move rfl) ?_
      refine wl_do trivial rfl (do_call (keys_tri B b r v lv s (by have := (hst).objs1; omega)) ⟨rfl, trivial⟩ enters_25 [0, 1, 2, 3] [4, 5, 6] ⟨rfl, rfl, rfl, rfl, trivial⟩ ⟨rfl, rfl, rfl, trivial⟩ (R := [_, _, _]) (by decide)) ?_
      rintro _ _ ⟨_, ⟨x6, rfl, rfl⟩, rfl⟩
      refine wl_1 trivial rfl (do_lenRow 4 rfl isSlice_39 rfl rfl) ?_
      refine wl_1 trivial rfl (do_move rfl) ?_
      refine wl_1 trivial rfl (do_lenMapA 5 rfl isMap_54 rfl rfl) ?_
      obtain ⟨c7, h_c7⟩ : ∃ c : Bool, cmpB .eql ((s.objs.length : Nat) : Int) (((wv wt).length : Nat) : Int) = some c := ⟨_, rfl⟩
      refine wl_1 trivial rfl (do_cmp rfl rfl h_c7) ?_
      refine wl_1 trivial rfl (do_assign rfl) ?_
      refine wl_nil ?_
      refine at_then ?_
      refine wc_ret ?_
      cases c7
      · have p_c7 := cmp_eql_f h_c7
        exact absurd (wv_len hao) p_c7
      · have p_c7 := cmp_eql_t h_c7
        refine at_pick (M := [_, _]) [6, 7] ⟨rfl, rfl, trivial⟩ (by decide) ?_
        exact at_ret1 (M := [_]) rfl rfl ⟨rfl, rfl⟩ rfl
    · have p_c5 := cmp_lss_t h_c5
      refine wc_true rfl ?_
      refine wc_skip ?_
      refine at_then ?_
      refine wc_seq ?_
      refine wc_block ?_
      refine wc_seq ?_
      refine wc_region ?_
      refine wl_1 trivial rfl (do_move rfl) ?_
      refine wl_1 trivial rfl (do_move rfl) ?_
      obtain ⟨⟨kd, key, ob, bs, k, yes⟩, ho⟩ : ∃ o, ops[i]? = some o := ⟨_, List.getElem?_eq_getElem (by omega)⟩
      obtain ⟨hae, hop⟩ := hops _ _ ho
      subst hae
      obtain ⟨a2, cap2, hb2⟩ := hop.slice
      have hb3 : ob = .slice a2 bs.length cap2 := hb2
      subst hb3
      have hkhi : k ≤ 9223372036854775807 := has_hi hop.n
      have hklo : -9223372036854775808 ≤ k := has_lo hop.n
      refine wl_1 trivial rfl (do_indexAddr (j := i) (p := (off0 + i * 5)) und_22 ty_34 rfl rfl rfl (by omega) (by omega)) ?_
      refine wl_1 trivial rfl (do_loadAB (vs := [.int .i64 kd, .string key, .slice a2 bs.length cap2, .int .i64 k, .bool yes]) rfl agg_34 rfl (fun j u hj => by have := hop.cells j u hj; rw [← Nat.add_assoc] at this; exact this)) ?_
      refine wl_do trivial rfl (do_alloc zero_34 rfl) ?_
      rintro _ _ ⟨b8, rfl, rfl⟩
      refine wl_1 trivial rfl (do_storeL (L1 := []) rfl rfl agg_34 rfl (cs' := #[.int .i64 kd, .string key, .slice a2 bs.length cap2, .int .i64 k, .bool yes]) rfl trivial) ?_
      refine wl_nil ?_
      refine at_then ?_
      refine wc_seq ?_
      refine wc_region ?_
      refine wl_1 trivial rfl (do_fieldAddr (k := 0) (k' := 0) fo_34_0 rfl (by rfl)) ?_
      refine wl_1 trivial rfl (do_load 0 rfl one_3 rfl rfl) ?_
      refine wl_nil ?_
      refine at_then ?_
      refine wc_block ?_
      refine wc_seq ?_
      refine wc_region ?_
      obtain ⟨c9, h_c9⟩ : ∃ c : Bool, cmpB .eql kd 0 = some c := ⟨_, rfl⟩
      refine wl_1 trivial rfl (do_cmp rfl rfl h_c9) ?_
      refine wl_1 trivial rfl (do_assign rfl) ?_
      refine wl_nil ?_
      refine at_then ?_
      cases c9
      · have p_c9 := cmp_eql_f h_c9
        refine wc_false rfl ?_
        refine wc_seq ?_
        refine wc_region ?_
        obtain ⟨c10, h_c10⟩ : ∃ c : Bool, cmpB .eql kd 1 = some c := ⟨_, rfl⟩
        refine wl_1 trivial rfl (do_cmp rfl rfl h_c10) ?_
        refine wl_1 trivial rfl (do_assign rfl) ?_
        refine wl_nil ?_
        refine at_then ?_
        cases c10
        · have p_c10 := cmp_eql_f h_c10
          refine wc_false rfl ?_
          refine wc_seq ?_
          refine wc_region ?_
          obtain ⟨c11, h_c11⟩ : ∃ c : Bool, cmpB .eql kd 2 = some c := ⟨_, rfl⟩
          refine wl_1 trivial rfl (do_cmp rfl rfl h_c11) ?_
          refine wl_1 trivial rfl (do_assign rfl) ?_
          refine wl_nil ?_
          refine at_then ?_
          cases c11
          · have p_c11 := cmp_eql_f h_c11
            refine wc_false rfl ?_
            refine wc_seq ?_
            refine wc_region ?_
            obtain ⟨c12, h_c12⟩ : ∃ c : Bool, cmpB .eql kd 3 = some c := ⟨_, rfl⟩
            refine wl_1 trivial rfl (do_cmp rfl rfl h_c12) ?_
            refine wl_1 trivial rfl (do_assign rfl) ?_
            refine wl_nil ?_
            refine at_then ?_
            cases c12
            · have p_c12 := cmp_eql_f h_c12
              refine wc_false rfl ?_
              refine wc_seq ?_
              refine wc_region ?_
              obtain ⟨c13, h_c13⟩ : ∃ c : Bool, cmpB .eql kd 4 = some c := ⟨_, rfl⟩
              refine wl_1 trivial rfl (do_cmp rfl rfl h_c13) ?_
              refine wl_1 trivial rfl (do_assign rfl) ?_
              refine wl_nil ?_
              refine at_then ?_
              cases c13
              · have p_c13 := cmp_eql_f h_c13
                refine wc_false rfl ?_
                refine wc_seq ?_
                refine wc_region ?_
                obtain ⟨c14, h_c14⟩ : ∃ c : Bool, cmpB .eql kd 5 = some c := ⟨_, rfl⟩
                refine wl_1 trivial rfl (do_cmp rfl rfl h_c14) ?_
                refine wl_1 trivial rfl (do_assign rfl) ?_
                refine wl_nil ?_
                refine at_then ?_
                cases c14
                · have p_c14 := cmp_eql_f h_c14
                  refine wc_false rfl ?_
                  refine wc_seq ?_
                  refine wc_region ?_
                  obtain ⟨c15, h_c15⟩ : ∃ c : Bool, cmpB .eql kd 6 = some c := ⟨_, rfl⟩
                  refine wl_1 trivial rfl (do_cmp rfl rfl h_c15) ?_
                  refine wl_1 trivial rfl (do_assign rfl) ?_
                  refine wl_nil ?_
                  refine at_then ?_
                  cases c15
                  · have p_c15 := cmp_eql_f h_c15
                    refine wc_false rfl ?_
                    refine wc_skip ?_
                    refine at_block ?_
                    refine at_block ?_
                    refine at_then ?_
                    refine wc_region ?_
                    refine wl_1 trivial rfl (do_move rfl) ?_
                    refine wl_1 trivial rfl (do_add (r := ((i + 1 : Nat) : Int)) rfl rfl (wrap_nat (by omega) (by omega))) ?_
                    refine wl_1 trivial rfl (do_assign rfl) ?_
                    refine wl_nil ?_
                    refine at_pick (M := [_, _, _, _, _, _, _]) [1, 2, 3, 4, 5, 6, 7] ⟨rfl, rfl, rfl, rfl, rfl, rfl, rfl, trivial⟩ (by decide) ?_
                    have hphi : StOk s (i + 1) ∧ i + 1 ≤ 200 ∧ AO s (wt) := ⟨hst.more (Nat.le_succ i), by omega, hao⟩
                    exact at_round (i + 1, s, v, lv, wt) hphi (by show 200 - (i + 1) < 200 - i; omega) ⟨rfl, rfl, rfl, rfl, trivial⟩ rfl
                  · have p_c15 := cmp_eql_t h_c15
                    refine wc_true rfl ?_
                    refine wc_region ?_
                    refine wl_1 trivial rfl (do_move rfl) ?_
                    refine wl_1 trivial rfl (do_fieldAddr (k := 3) (k' := 3) fo_34_3 rfl (by rfl)) ?_
                    refine wl_1 trivial rfl (do_load 0 rfl one_3 rfl rfl) ?_
                    refine wl_1 trivial rfl (do_fieldAddr (k := 4) (k' := 4) fo_34_4 rfl (by rfl)) ?_
                    refine wl_1 trivial rfl (do_load 0 rfl one_4 rfl rfl) ?_
                    refine wl_do trivial rfl (do_call (fail_sl B b r v lv s k yes) ⟨rfl, rfl, rfl, trivial⟩ enters_17 [1, 2, 3, 4] [0, 5, 6, 7] ⟨rfl, rfl, rfl, rfl, trivial⟩ ⟨rfl, rfl, rfl, rfl, trivial⟩ (R := [_, _, _, _]) (by decide)) ?_
                    rintro _ _ ⟨_, ⟨rfl, rfl⟩, rfl⟩
                    refine wl_nil ?_
                    refine at_block ?_
                    refine at_block ?_
                    refine at_then ?_
                    refine wc_region ?_
                    refine wl_1 trivial rfl (do_move rfl) ?_
                    refine wl_1 trivial rfl (do_add (r := ((i + 1 : Nat) : Int)) rfl rfl (wrap_nat (by omega) (by omega))) ?_
                    refine wl_1 trivial rfl (do_assign rfl) ?_
                    refine wl_nil ?_
                    refine at_pick (M := [_, _, _, _, _, _, _]) [0, 1, 2, 3, 5, 6, 7] ⟨rfl, rfl, rfl, rfl, rfl, rfl, rfl, trivial⟩ (by decide) ?_
                    have hphi : StOk (failS s k yes) (i + 1) ∧ i + 1 ≤ 200 ∧ AO (failS s k yes) (wt) := ⟨(hst.fail hkhi yes).more (Nat.le_succ i), by omega, hao.same rfl⟩
                    exact at_round (i + 1, (failS s k yes), v, lv, wt) hphi (by show 200 - (i + 1) < 200 - i; omega) ⟨rfl, rfl, rfl, rfl, trivial⟩ rfl
                · have p_c14 := cmp_eql_t h_c14
                  refine wc_true rfl ?_
                  refine wc_region ?_
                  refine wl_1 trivial rfl (do_move rfl) ?_
                  refine wl_1 trivial rfl (do_fieldAddr (k := 3) (k' := 3) fo_34_3 rfl (by rfl)) ?_
                  refine wl_1 trivial rfl (do_load 0 rfl one_3 rfl rfl) ?_
                  refine wl_do trivial rfl (do_call (lag_sl B b r v lv s k) ⟨rfl, rfl, trivial⟩ enters_24 [1, 2, 3, 4] [0, 5, 6, 7] ⟨rfl, rfl, rfl, rfl, trivial⟩ ⟨rfl, rfl, rfl, rfl, trivial⟩ (R := [_, _, _, _]) (by decide)) ?_
                  rintro _ _ ⟨_, ⟨rfl, rfl⟩, rfl⟩
                  refine wl_nil ?_
                  refine at_block ?_
                  refine at_block ?_
                  refine at_then ?_
                  refine wc_region ?_
                  refine wl_1 trivial rfl (do_move rfl) ?_
                  refine wl_1 trivial rfl (do_add (r := ((i + 1 : Nat) : Int)) rfl rfl (wrap_nat (by omega) (by omega))) ?_
                  refine wl_1 trivial rfl (do_assign rfl) ?_
                  refine wl_nil ?_
                  refine at_pick (M := [_, _, _, _, _, _, _]) [0, 1, 2, 3, 5, 6, 7] ⟨rfl, rfl, rfl, rfl, rfl, rfl, rfl, trivial⟩ (by decide) ?_
                  have hphi : StOk (lagS s k).2 (i + 1) ∧ i + 1 ≤ 200 ∧ AO (lagS s k).2 (wt) := ⟨(hst.lag k).more (Nat.le_succ i), by omega, hao.same (lagS_objs s k)⟩
                  exact at_round (i + 1, (lagS s k).2, v, lv, wt) hphi (by show 200 - (i + 1) < 200 - i; omega) ⟨rfl, rfl, rfl, rfl, trivial⟩ rfl
              · have p_c13 := cmp_eql_t h_c13
                refine wc_true rfl ?_
                refine wc_region ?_
                refine wl_1 trivial rfl (do_move rfl) ?_
                refine wl_1 trivial rfl (do_fieldAddr (k := 3) (k' := 3) fo_34_3 rfl (by rfl)) ?_
                refine wl_1 trivial rfl (do_load 0 rfl one_3 rfl rfl) ?_
                refine wl_do trivial rfl (do_call (tick_sl B b r v lv s (i) (hst) (by omega) k) ⟨rfl, rfl, trivial⟩ enters_23 [1, 2, 3, 4] [0, 5, 6, 7] ⟨rfl, rfl, rfl, rfl, trivial⟩ ⟨rfl, rfl, rfl, rfl, trivial⟩ (R := [_, _, _, _]) (by decide)) ?_
                rintro _ _ ⟨_, ⟨rfl, rfl⟩, rfl⟩
                refine wl_nil ?_
                refine at_block ?_
                refine at_block ?_
                refine at_then ?_
                refine wc_region ?_
                refine wl_1 trivial rfl (do_move rfl) ?_
                refine wl_1 trivial rfl (do_add (r := ((i + 1 : Nat) : Int)) rfl rfl (wrap_nat (by omega) (by omega))) ?_
                refine wl_1 trivial rfl (do_assign rfl) ?_
                refine wl_nil ?_
                refine at_pick (M := [_, _, _, _, _, _, _]) [0, 1, 2, 3, 5, 6, 7] ⟨rfl, rfl, rfl, rfl, rfl, rfl, rfl, trivial⟩ (by decide) ?_
                have hphi : StOk (tickS s k).2 (i + 1) ∧ i + 1 ≤ 200 ∧ AO (tickS s k).2 (wt) := ⟨(hst.tick k).more (Nat.le_succ i), by omega, hao.same (tickS_objs s k)⟩
                exact at_round (i + 1, (tickS s k).2, v, lv, wt) hphi (by show 200 - (i + 1) < 200 - i; omega) ⟨rfl, rfl, rfl, rfl, trivial⟩ rfl
            · have p_c12 := cmp_eql_t h_c12
              refine wc_true rfl ?_
              refine wc_region ?_
              refine wl_1 trivial rfl (do_move rfl) ?_
              refine wl_1 trivial rfl (do_fieldAddr (k := 1) (k' := 1) fo_34_1 rfl (by rfl)) ?_
              refine wl_1 trivial rfl (do_load 0 rfl one_9 rfl rfl) ?_
              refine wl_do trivial rfl (do_call (list_tri B b r v lv s key (hst).ok (by have := (hst).calls1; omega) (by have := (hst).chg1; omega) hop.key (by have := (hst).objs1; omega)) ⟨rfl, rfl, trivial⟩ enters_19 [1, 2, 3, 4] [0, 5, 6, 7] ⟨rfl, rfl, rfl, rfl, trivial⟩ ⟨rfl, rfl, rfl, rfl, trivial⟩ (R := [_, _, _, _]) (by decide)) ?_
              rintro _ _ ⟨_, ⟨x16, rfl, rfl⟩, rfl⟩
              refine wl_nil ?_
              refine at_block ?_
              refine at_block ?_
              refine at_then ?_
              refine wc_region ?_
              refine wl_1 trivial rfl (do_move rfl) ?_
              refine wl_1 trivial rfl (do_add (r := ((i + 1 : Nat) : Int)) rfl rfl (wrap_nat (by omega) (by omega))) ?_
              refine wl_1 trivial rfl (do_assign rfl) ?_
              refine wl_nil ?_
              refine at_pick (M := [_, _, _, _, _, _, _]) [0, 1, 2, 3, 6, 7, 8] ⟨rfl, rfl, rfl, rfl, rfl, rfl, rfl, trivial⟩ (by decide) ?_
              have hphi : StOk (listS key s).2.2 (i + 1) ∧ i + 1 ≤ 200 ∧ AO (listS key s).2.2 (wt) := ⟨hst.list key, by omega, hao.same (listS_objs key s)⟩
              exact at_round (i + 1, (listS key s).2.2, v, lv, wt) hphi (by show 200 - (i + 1) < 200 - i; omega) ⟨rfl, rfl, rfl, rfl, trivial⟩ rfl
          · have p_c11 := cmp_eql_t h_c11
            refine wc_true rfl ?_
            refine wc_seq ?_
            refine wc_region ?_
            refine wl_1 trivial rfl (do_move rfl) ?_
            refine wl_1 trivial rfl (do_fieldAddr (k := 1) (k' := 1) fo_34_1 rfl (by rfl)) ?_
            refine wl_1 trivial rfl (do_load 0 rfl one_9 rfl rfl) ?_
            rcases hg17 : aget s.objs key with _ | v18
            · skip
              have hw : aget (wv wt) key = none := by rw [wv_get, hao.ag, hg17]; rfl
              refine wl_do trivial rfl (do_call (del_alts B b r v lv s key (i) (hst) (by omega) hop.key) ⟨rfl, rfl, trivial⟩ enters_22 [1, 2, 3, 4] [0, 5, 6, 7] ⟨rfl, rfl, rfl, rfl, trivial⟩ ⟨rfl, rfl, rfl, rfl, trivial⟩ (R := [_, _, _, _]) (by decide)) ?_
              rintro _ _ ⟨_, (⟨v19, l20, rfl, rfl⟩ | ⟨_, v19, l20, (rfl | rfl), rfl, rfl⟩ | ⟨v19, l20, rfl, rfl⟩), rfl⟩
              · skip
                refine wl_do trivial rfl (do_call (num_tri B 1) ⟨rfl, trivial⟩ enters_14 [] [0, 1, 2, 3, 4, 5, 6, 7] trivial ⟨rfl, rfl, rfl, rfl, rfl, rfl, rfl, rfl, trivial⟩ (R := [_, _, _, _, _, _, _, _]) (by decide)) ?_
                rintro _ _ ⟨_, ⟨rfl, rfl⟩, rfl⟩
                refine wl_1 trivial rfl (do_assign rfl) ?_
                refine wl_nil ?_
                refine at_then ?_
                refine wc_seq ?_
                refine wc_region ?_
                refine wl_1 trivial rfl (do_move rfl) ?_
                refine wl_1 trivial rfl (do_fieldAddr (k := 1) (k' := 1) fo_34_1 rfl (by rfl)) ?_
                refine wl_1 trivial rfl (do_load 4 rfl one_9 rfl rfl) ?_
                refine wl_do trivial rfl (do_call (look_none B b r v19 l20 s key (hst).ok hg17) ⟨rfl, rfl, trivial⟩ enters_20 [0, 1, 2, 3] [4, 5, 6, 7] ⟨rfl, rfl, rfl, rfl, trivial⟩ ⟨rfl, rfl, rfl, rfl, trivial⟩ (R := [_, _, _, _]) (by decide)) ?_
                rintro _ _ ⟨_, ⟨x21, rfl, rfl⟩, rfl⟩
                refine wl_1 trivial rfl (do_move rfl) ?_
                refine wl_1 trivial rfl (do_extract rfl rfl) ?_
                refine wl_1 trivial rfl (do_extract rfl rfl) ?_
                refine wl_1 trivial rfl (do_assign rfl) ?_
                refine wl_1 trivial rfl (do_assign rfl) ?_
                refine wl_nil ?_
                refine at_then ?_
                refine wc_seq ?_
                refine wc_seq ?_
                refine wc_region ?_
                refine wl_1 trivial rfl (do_move rfl) ?_
                refine wl_1 trivial rfl (do_cmp (c := false) rfl rfl rfl) ?_
                refine wl_1 trivial rfl (do_move rfl) ?_
                refine wl_no rfl rfl rfl rfl rfl ?_
                refine wl_1 trivial rfl (do_pickF rfl rfl) ?_
                refine wl_nil ?_
                refine at_then ?_
                refine wc_false rfl ?_
                refine wc_skip ?_
                refine at_then ?_
                refine wc_seq ?_
                refine wc_region ?_
                refine wl_1 trivial rfl (do_move rfl) ?_
                refine wl_1 trivial rfl (do_not (c := false) rfl) ?_
                refine wl_nil ?_
                refine at_then ?_
                refine wc_true rfl ?_
                refine wc_region ?_
                refine wl_1 trivial rfl (do_move rfl) ?_
                refine wl_1 trivial rfl (do_fieldAddr (k := 1) (k' := 1) fo_34_1 rfl (by rfl)) ?_
                refine wl_1 trivial rfl (do_load 5 rfl one_9 rfl rfl) ?_
                refine wl_1 trivial rfl (do_delete (L1 := [_, _, _, _, _, _]) rfl und_54 key_9 rfl rfl) ?_
                refine wl_nil ?_
                refine at_block ?_
                refine at_block ?_
                refine at_then ?_
                refine wc_region ?_
                refine wl_1 trivial rfl (do_move rfl) ?_
                refine wl_1 trivial rfl (do_add (r := ((i + 1 : Nat) : Int)) rfl rfl (wrap_nat (by omega) (by omega))) ?_
                refine wl_1 trivial rfl (do_assign rfl) ?_
                refine wl_nil ?_
                refine at_pick (M := [_, _, _, _, _, _, _]) [0, 1, 2, 3, 6, 7, 8] ⟨rfl, rfl, rfl, rfl, rfl, rfl, rfl, trivial⟩ (by decide) ?_
                rw [wv_del]
                have hphi : StOk s (i + 1) ∧ i + 1 ≤ 200 ∧ AO s (adel wt key) := ⟨hst.more (Nat.le_succ i), by omega, hao.gone hg17⟩
                exact at_round (i + 1, s, v19, l20, adel wt key) hphi (by show 200 - (i + 1) < 200 - i; omega) ⟨rfl, rfl, rfl, rfl, trivial⟩ rfl
              · skip
                have hl22 : aget (delO key (callS s).2.2).objs key = none := by rw [delO_get _ (by rw [callS_objs]; exact hao.nd), if_pos rfl]
                refine wl_do trivial rfl (do_call (num_tri B 0) ⟨rfl, trivial⟩ enters_14 [] [0, 1, 2, 3, 4, 5, 6, 7] trivial ⟨rfl, rfl, rfl, rfl, rfl, rfl, rfl, rfl, trivial⟩ (R := [_, _, _, _, _, _, _, _]) (by decide)) ?_
                rintro _ _ ⟨_, ⟨rfl, rfl⟩, rfl⟩
                refine wl_1 trivial rfl (do_assign rfl) ?_
                refine wl_nil ?_
                refine at_then ?_
                refine wc_seq ?_
                refine wc_region ?_
                refine wl_1 trivial rfl (do_move rfl) ?_
                refine wl_1 trivial rfl (do_fieldAddr (k := 1) (k' := 1) fo_34_1 rfl (by rfl)) ?_
                refine wl_1 trivial rfl (do_load 4 rfl one_9 rfl rfl) ?_
                refine wl_do trivial rfl (do_call (look_none B b r v19 l20 (delO key (callS s).2.2) key ((hst.callDel key)).ok hl22) ⟨rfl, rfl, trivial⟩ enters_20 [0, 1, 2, 3] [4, 5, 6, 7] ⟨rfl, rfl, rfl, rfl, trivial⟩ ⟨rfl, rfl, rfl, rfl, trivial⟩ (R := [_, _, _, _]) (by decide)) ?_
                rintro _ _ ⟨_, ⟨x23, rfl, rfl⟩, rfl⟩
                refine wl_1 trivial rfl (do_move rfl) ?_
                refine wl_1 trivial rfl (do_extract rfl rfl) ?_
                refine wl_1 trivial rfl (do_extract rfl rfl) ?_
                refine wl_1 trivial rfl (do_assign rfl) ?_
                refine wl_1 trivial rfl (do_assign rfl) ?_
                refine wl_nil ?_
                refine at_then ?_
                refine wc_seq ?_
                refine wc_seq ?_
                refine wc_region ?_
                refine wl_1 trivial rfl (do_move rfl) ?_
                refine wl_1 trivial rfl (do_cmp (c := true) rfl rfl rfl) ?_
                refine wl_1 trivial rfl (do_move rfl) ?_
                refine wl_1 ⟨_, rfl, rfl⟩ rfl (do_move rfl) ?_
                refine wl_1 trivial rfl (do_pickT rfl rfl) ?_
                refine wl_nil ?_
                refine at_then ?_
                refine wc_false rfl ?_
                refine wc_skip ?_
                refine at_then ?_
                refine wc_seq ?_
                refine wc_region ?_
                refine wl_1 trivial rfl (do_move rfl) ?_
                refine wl_1 trivial rfl (do_not (c := false) rfl) ?_
                refine wl_nil ?_
                refine at_then ?_
                refine wc_true rfl ?_
                refine wc_region ?_
                refine wl_1 trivial rfl (do_move rfl) ?_
                refine wl_1 trivial rfl (do_fieldAddr (k := 1) (k' := 1) fo_34_1 rfl (by rfl)) ?_
                refine wl_1 trivial rfl (do_load 5 rfl one_9 rfl rfl) ?_
                refine wl_1 trivial rfl (do_delete (L1 := [_, _, _, _, _, _]) rfl und_54 key_9 rfl rfl) ?_
                refine wl_nil ?_
                refine at_block ?_
                refine at_block ?_
                refine at_then ?_
                refine wc_region ?_
                refine wl_1 trivial rfl (do_move rfl) ?_
                refine wl_1 trivial rfl (do_add (r := ((i + 1 : Nat) : Int)) rfl rfl (wrap_nat (by omega) (by omega))) ?_
                refine wl_1 trivial rfl (do_assign rfl) ?_
                refine wl_nil ?_
                refine at_pick (M := [_, _, _, _, _, _, _]) [0, 1, 2, 3, 6, 7, 8] ⟨rfl, rfl, rfl, rfl, rfl, rfl, rfl, trivial⟩ (by decide) ?_
                rw [wv_del]
                have hphi : StOk (delO key (callS s).2.2) (i + 1) ∧ i + 1 ≤ 200 ∧ AO (delO key (callS s).2.2) (adel wt key) := ⟨hst.callDel key, by omega, hao.call.del key⟩
                exact at_round (i + 1, (delO key (callS s).2.2), v19, l20, adel wt key) hphi (by show 200 - (i + 1) < 200 - i; omega) ⟨rfl, rfl, rfl, rfl, trivial⟩ rfl
              · skip
                have hl24 : aget (delO key (callS s).2.2).objs key = none := by rw [delO_get _ (by rw [callS_objs]; exact hao.nd), if_pos rfl]
                refine wl_do trivial rfl (do_call (num_tri B 8) ⟨rfl, trivial⟩ enters_14 [] [0, 1, 2, 3, 4, 5, 6, 7] trivial ⟨rfl, rfl, rfl, rfl, rfl, rfl, rfl, rfl, trivial⟩ (R := [_, _, _, _, _, _, _, _]) (by decide)) ?_
                rintro _ _ ⟨_, ⟨rfl, rfl⟩, rfl⟩
                refine wl_1 trivial rfl (do_assign rfl) ?_
                refine wl_nil ?_
                refine at_then ?_
                refine wc_seq ?_
                refine wc_region ?_
                refine wl_1 trivial rfl (do_move rfl) ?_
                refine wl_1 trivial rfl (do_fieldAddr (k := 1) (k' := 1) fo_34_1 rfl (by rfl)) ?_
                refine wl_1 trivial rfl (do_load 4 rfl one_9 rfl rfl) ?_
                refine wl_do trivial rfl (do_call (look_none B b r v19 l20 (delO key (callS s).2.2) key ((hst.callDel key)).ok hl24) ⟨rfl, rfl, trivial⟩ enters_20 [0, 1, 2, 3] [4, 5, 6, 7] ⟨rfl, rfl, rfl, rfl, trivial⟩ ⟨rfl, rfl, rfl, rfl, trivial⟩ (R := [_, _, _, _]) (by decide)) ?_
                rintro _ _ ⟨_, ⟨x25, rfl, rfl⟩, rfl⟩
                refine wl_1 trivial rfl (do_move rfl) ?_
                refine wl_1 trivial rfl (do_extract rfl rfl) ?_
                refine wl_1 trivial rfl (do_extract rfl rfl) ?_
                refine wl_1 trivial rfl (do_assign rfl) ?_
                refine wl_1 trivial rfl (do_assign rfl) ?_
                refine wl_nil ?_
                refine at_then ?_
                refine wc_seq ?_
                refine wc_seq ?_
                refine wc_region ?_
                refine wl_1 trivial rfl (do_move rfl) ?_
                refine wl_1 trivial rfl (do_cmp (c := false) rfl rfl rfl) ?_
                refine wl_1 trivial rfl (do_move rfl) ?_
                refine wl_no rfl rfl rfl rfl rfl ?_
                refine wl_1 trivial rfl (do_pickF rfl rfl) ?_
                refine wl_nil ?_
                refine at_then ?_
                refine wc_false rfl ?_
                refine wc_skip ?_
                refine at_then ?_
                refine wc_seq ?_
                refine wc_region ?_
                refine wl_1 trivial rfl (do_move rfl) ?_
                refine wl_1 trivial rfl (do_not (c := false) rfl) ?_
                refine wl_nil ?_
                refine at_then ?_
                refine wc_true rfl ?_
                refine wc_region ?_
                refine wl_1 trivial rfl (do_move rfl) ?_
                refine wl_1 trivial rfl (do_fieldAddr (k := 1) (k' := 1) fo_34_1 rfl (by rfl)) ?_
                refine wl_1 trivial rfl (do_load 5 rfl one_9 rfl rfl) ?_
                refine wl_1 trivial rfl (do_delete (L1 := [_, _, _, _, _, _]) rfl und_54 key_9 rfl rfl) ?_
                refine wl_nil ?_
                refine at_block ?_
                refine at_block ?_
                refine at_then ?_
                refine wc_region ?_
                refine wl_1 trivial rfl (do_move rfl) ?_
                refine wl_1 trivial rfl (do_add (r := ((i + 1 : Nat) : Int)) rfl rfl (wrap_nat (by omega) (by omega))) ?_
                refine wl_1 trivial rfl (do_assign rfl) ?_
                refine wl_nil ?_
                refine at_pick (M := [_, _, _, _, _, _, _]) [0, 1, 2, 3, 6, 7, 8] ⟨rfl, rfl, rfl, rfl, rfl, rfl, rfl, trivial⟩ (by decide) ?_
                rw [wv_del]
                have hphi : StOk (delO key (callS s).2.2) (i + 1) ∧ i + 1 ≤ 200 ∧ AO (delO key (callS s).2.2) (adel wt key) := ⟨hst.callDel key, by omega, hao.call.del key⟩
                exact at_round (i + 1, (delO key (callS s).2.2), v19, l20, adel wt key) hphi (by show 200 - (i + 1) < 200 - i; omega) ⟨rfl, rfl, rfl, rfl, trivial⟩ rfl
              · skip
                have hl26 : aget (callS s).2.2.objs key = none := by rw [callS_objs]; exact hg17
                refine wl_do trivial rfl (do_call (num_tri B 8) ⟨rfl, trivial⟩ enters_14 [] [0, 1, 2, 3, 4, 5, 6, 7] trivial ⟨rfl, rfl, rfl, rfl, rfl, rfl, rfl, rfl, trivial⟩ (R := [_, _, _, _, _, _, _, _]) (by decide)) ?_
                rintro _ _ ⟨_, ⟨rfl, rfl⟩, rfl⟩
                refine wl_1 trivial rfl (do_assign rfl) ?_
                refine wl_nil ?_
                refine at_then ?_
                refine wc_seq ?_
                refine wc_region ?_
                refine wl_1 trivial rfl (do_move rfl) ?_
                refine wl_1 trivial rfl (do_fieldAddr (k := 1) (k' := 1) fo_34_1 rfl (by rfl)) ?_
                refine wl_1 trivial rfl (do_load 4 rfl one_9 rfl rfl) ?_
                refine wl_do trivial rfl (do_call (look_none B b r v19 l20 (callS s).2.2 key ((hst.call)).ok hl26) ⟨rfl, rfl, trivial⟩ enters_20 [0, 1, 2, 3] [4, 5, 6, 7] ⟨rfl, rfl, rfl, rfl, trivial⟩ ⟨rfl, rfl, rfl, rfl, trivial⟩ (R := [_, _, _, _]) (by decide)) ?_
                rintro _ _ ⟨_, ⟨x27, rfl, rfl⟩, rfl⟩
                refine wl_1 trivial rfl (do_move rfl) ?_
                refine wl_1 trivial rfl (do_extract rfl rfl) ?_
                refine wl_1 trivial rfl (do_extract rfl rfl) ?_
                refine wl_1 trivial rfl (do_assign rfl) ?_
                refine wl_1 trivial rfl (do_assign rfl) ?_
                refine wl_nil ?_
                refine at_then ?_
                refine wc_seq ?_
                refine wc_seq ?_
                refine wc_region ?_
                refine wl_1 trivial rfl (do_move rfl) ?_
                refine wl_1 trivial rfl (do_cmp (c := false) rfl rfl rfl) ?_
                refine wl_1 trivial rfl (do_move rfl) ?_
                refine wl_no rfl rfl rfl rfl rfl ?_
                refine wl_1 trivial rfl (do_pickF rfl rfl) ?_
                refine wl_nil ?_
                refine at_then ?_
                refine wc_false rfl ?_
                refine wc_skip ?_
                refine at_then ?_
                refine wc_seq ?_
                refine wc_region ?_
                refine wl_1 trivial rfl (do_move rfl) ?_
                refine wl_1 trivial rfl (do_not (c := false) rfl) ?_
                refine wl_nil ?_
                refine at_then ?_
                refine wc_true rfl ?_
                refine wc_region ?_
                refine wl_1 trivial rfl (do_move rfl) ?_
                refine wl_1 trivial rfl (do_fieldAddr (k := 1) (k' := 1) fo_34_1 rfl (by rfl)) ?_
                refine wl_1 trivial rfl (do_load 5 rfl one_9 rfl rfl) ?_
                refine wl_1 trivial rfl (do_delete (L1 := [_, _, _, _, _, _]) rfl und_54 key_9 rfl rfl) ?_
                refine wl_nil ?_
                refine at_block ?_
                refine at_block ?_
                refine at_then ?_
                refine wc_region ?_
                refine wl_1 trivial rfl (do_move rfl) ?_
                refine wl_1 trivial rfl (do_add (r := ((i + 1 : Nat) : Int)) rfl rfl (wrap_nat (by omega) (by omega))) ?_
                refine wl_1 trivial rfl (do_assign rfl) ?_
                refine wl_nil ?_
                refine at_pick (M := [_, _, _, _, _, _, _]) [0, 1, 2, 3, 6, 7, 8] ⟨rfl, rfl, rfl, rfl, rfl, rfl, rfl, trivial⟩ (by decide) ?_
                rw [wv_del]
                have hphi : StOk (callS s).2.2 (i + 1) ∧ i + 1 ≤ 200 ∧ AO (callS s).2.2 (adel wt key) := ⟨hst.call, by omega, hao.call.gone hl26⟩
                exact at_round (i + 1, (callS s).2.2, v19, l20, adel wt key) hphi (by show 200 - (i + 1) < 200 - i; omega) ⟨rfl, rfl, rfl, rfl, trivial⟩ rfl
            · skip
              have hw : aget (wv wt) key = some (.string ⟨(v18).toArray⟩) := by rw [wv_get, hao.ag, hg17]; rfl
              refine wl_do trivial rfl (do_call (del_alts B b r v lv s key (i) (hst) (by omega) hop.key) ⟨rfl, rfl, trivial⟩ enters_22 [1, 2, 3, 4] [0, 5, 6, 7] ⟨rfl, rfl, rfl, rfl, trivial⟩ ⟨rfl, rfl, rfl, rfl, trivial⟩ (R := [_, _, _, _]) (by decide)) ?_
              rintro _ _ ⟨_, (⟨v28, l29, rfl, rfl⟩ | ⟨_, v28, l29, (rfl | rfl), rfl, rfl⟩ | ⟨v28, l29, rfl, rfl⟩), rfl⟩
              · skip
                refine wl_do trivial rfl (do_call (num_tri B 1) ⟨rfl, trivial⟩ enters_14 [] [0, 1, 2, 3, 4, 5, 6, 7] trivial ⟨rfl, rfl, rfl, rfl, rfl, rfl, rfl, rfl, trivial⟩ (R := [_, _, _, _, _, _, _, _]) (by decide)) ?_
                rintro _ _ ⟨_, ⟨rfl, rfl⟩, rfl⟩
                refine wl_1 trivial rfl (do_assign rfl) ?_
                refine wl_nil ?_
                refine at_then ?_
                refine wc_seq ?_
                refine wc_region ?_
                refine wl_1 trivial rfl (do_move rfl) ?_
                refine wl_1 trivial rfl (do_fieldAddr (k := 1) (k' := 1) fo_34_1 rfl (by rfl)) ?_
                refine wl_1 trivial rfl (do_load 4 rfl one_9 rfl rfl) ?_
                refine wl_do trivial rfl (do_call (look_some B b r v28 l29 s key (hst).ok v18 hg17) ⟨rfl, rfl, trivial⟩ enters_20 [0, 1, 2, 3] [4, 5, 6, 7] ⟨rfl, rfl, rfl, rfl, trivial⟩ ⟨rfl, rfl, rfl, rfl, trivial⟩ (R := [_, _, _, _]) (by decide)) ?_
                rintro _ _ ⟨_, ⟨x30, rfl, rfl⟩, rfl⟩
                refine wl_1 trivial rfl (do_move rfl) ?_
                refine wl_1 trivial rfl (do_extract rfl rfl) ?_
                refine wl_1 trivial rfl (do_extract rfl rfl) ?_
                refine wl_1 trivial rfl (do_assign rfl) ?_
                refine wl_1 trivial rfl (do_assign rfl) ?_
                refine wl_nil ?_
                refine at_then ?_
                refine wc_seq ?_
                refine wc_seq ?_
                refine wc_region ?_
                refine wl_1 trivial rfl (do_move rfl) ?_
                refine wl_1 trivial rfl (do_cmp (c := false) rfl rfl rfl) ?_
                refine wl_1 trivial rfl (do_move rfl) ?_
                refine wl_no rfl rfl rfl rfl rfl ?_
                refine wl_1 trivial rfl (do_pickF rfl rfl) ?_
                refine wl_nil ?_
                refine at_then ?_
                refine wc_false rfl ?_
                refine wc_skip ?_
                refine at_then ?_
                refine wc_seq ?_
                refine wc_region ?_
                refine wl_1 trivial rfl (do_move rfl) ?_
                refine wl_1 trivial rfl (do_not (c := true) rfl) ?_
                refine wl_nil ?_
                refine at_then ?_
                refine wc_false rfl ?_
                refine wc_skip ?_
                refine at_block ?_
                refine at_block ?_
                refine at_then ?_
                refine wc_region ?_
                refine wl_1 trivial rfl (do_move rfl) ?_
                refine wl_1 trivial rfl (do_add (r := ((i + 1 : Nat) : Int)) rfl rfl (wrap_nat (by omega) (by omega))) ?_
                refine wl_1 trivial rfl (do_assign rfl) ?_
                refine wl_nil ?_
                refine at_pick (M := [_, _, _, _, _, _, _]) [0, 1, 2, 3, 6, 7, 8] ⟨rfl, rfl, rfl, rfl, rfl, rfl, rfl, trivial⟩ (by decide) ?_
                have hphi : StOk s (i + 1) ∧ i + 1 ≤ 200 ∧ AO s (wt) := ⟨hst.more (Nat.le_succ i), by omega, hao⟩
                exact at_round (i + 1, s, v28, l29, wt) hphi (by show 200 - (i + 1) < 200 - i; omega) ⟨rfl, rfl, rfl, rfl, trivial⟩ rfl
              · skip
                have hl31 : aget (delO key (callS s).2.2).objs key = none := by rw [delO_get _ (by rw [callS_objs]; exact hao.nd), if_pos rfl]
                refine wl_do trivial rfl (do_call (num_tri B 0) ⟨rfl, trivial⟩ enters_14 [] [0, 1, 2, 3, 4, 5, 6, 7] trivial ⟨rfl, rfl, rfl, rfl, rfl, rfl, rfl, rfl, trivial⟩ (R := [_, _, _, _, _, _, _, _]) (by decide)) ?_
                rintro _ _ ⟨_, ⟨rfl, rfl⟩, rfl⟩
                refine wl_1 trivial rfl (do_assign rfl) ?_
                refine wl_nil ?_
                refine at_then ?_
                refine wc_seq ?_
                refine wc_region ?_
                refine wl_1 trivial rfl (do_move rfl) ?_
                refine wl_1 trivial rfl (do_fieldAddr (k := 1) (k' := 1) fo_34_1 rfl (by rfl)) ?_
                refine wl_1 trivial rfl (do_load 4 rfl one_9 rfl rfl) ?_
                refine wl_do trivial rfl (do_call (look_none B b r v28 l29 (delO key (callS s).2.2) key ((hst.callDel key)).ok hl31) ⟨rfl, rfl, trivial⟩ enters_20 [0, 1, 2, 3] [4, 5, 6, 7] ⟨rfl, rfl, rfl, rfl, trivial⟩ ⟨rfl, rfl, rfl, rfl, trivial⟩ (R := [_, _, _, _]) (by decide)) ?_
                rintro _ _ ⟨_, ⟨x32, rfl, rfl⟩, rfl⟩
                refine wl_1 trivial rfl (do_move rfl) ?_
                refine wl_1 trivial rfl (do_extract rfl rfl) ?_
                refine wl_1 trivial rfl (do_extract rfl rfl) ?_
                refine wl_1 trivial rfl (do_assign rfl) ?_
                refine wl_1 trivial rfl (do_assign rfl) ?_
                refine wl_nil ?_
                refine at_then ?_
                refine wc_seq ?_
                refine wc_seq ?_
                refine wc_region ?_
                refine wl_1 trivial rfl (do_move rfl) ?_
                refine wl_1 trivial rfl (do_cmp (c := true) rfl rfl rfl) ?_
                refine wl_1 trivial rfl (do_move rfl) ?_
                refine wl_1 ⟨_, rfl, rfl⟩ rfl (do_move rfl) ?_
                refine wl_1 trivial rfl (do_pickT rfl rfl) ?_
                refine wl_nil ?_
                refine at_then ?_
                refine wc_false rfl ?_
                refine wc_skip ?_
                refine at_then ?_
                refine wc_seq ?_
                refine wc_region ?_
                refine wl_1 trivial rfl (do_move rfl) ?_
                refine wl_1 trivial rfl (do_not (c := false) rfl) ?_
                refine wl_nil ?_
                refine at_then ?_
                refine wc_true rfl ?_
                refine wc_region ?_
                refine wl_1 trivial rfl (do_move rfl) ?_
                refine wl_1 trivial rfl (do_fieldAddr (k := 1) (k' := 1) fo_34_1 rfl (by rfl)) ?_
                refine wl_1 trivial rfl (do_load 5 rfl one_9 rfl rfl) ?_
                refine wl_1 trivial rfl (do_delete (L1 := [_, _, _, _, _, _]) rfl und_54 key_9 rfl rfl) ?_
                refine wl_nil ?_
                refine at_block ?_
                refine at_block ?_
                refine at_then ?_
                refine wc_region ?_
                refine wl_1 trivial rfl (do_move rfl) ?_
                refine wl_1 trivial rfl (do_add (r := ((i + 1 : Nat) : Int)) rfl rfl (wrap_nat (by omega) (by omega))) ?_
                refine wl_1 trivial rfl (do_assign rfl) ?_
                refine wl_nil ?_
                refine at_pick (M := [_, _, _, _, _, _, _]) [0, 1, 2, 3, 6, 7, 8] ⟨rfl, rfl, rfl, rfl, rfl, rfl, rfl, trivial⟩ (by decide) ?_
                rw [wv_del]
                have hphi : StOk (delO key (callS s).2.2) (i + 1) ∧ i + 1 ≤ 200 ∧ AO (delO key (callS s).2.2) (adel wt key) := ⟨hst.callDel key, by omega, hao.call.del key⟩
                exact at_round (i + 1, (delO key (callS s).2.2), v28, l29, adel wt key) hphi (by show 200 - (i + 1) < 200 - i; omega) ⟨rfl, rfl, rfl, rfl, trivial⟩ rfl
              · skip
                have hl33 : aget (delO key (callS s).2.2).objs key = none := by rw [delO_get _ (by rw [callS_objs]; exact hao.nd), if_pos rfl]
                refine wl_do trivial rfl (do_call (num_tri B 8) ⟨rfl, trivial⟩ enters_14 [] [0, 1, 2, 3, 4, 5, 6, 7] trivial ⟨rfl, rfl, rfl, rfl, rfl, rfl, rfl, rfl, trivial⟩ (R := [_, _, _, _, _, _, _, _]) (by decide)) ?_
                rintro _ _ ⟨_, ⟨rfl, rfl⟩, rfl⟩
                refine wl_1 trivial rfl (do_assign rfl) ?_
                refine wl_nil ?_
                refine at_then ?_
                refine wc_seq ?_
                refine wc_region ?_
                refine wl_1 trivial rfl (do_move rfl) ?_
                refine wl_1 trivial rfl (do_fieldAddr (k := 1) (k' := 1) fo_34_1 rfl (by rfl)) ?_
                refine wl_1 trivial rfl (do_load 4 rfl one_9 rfl rfl) ?_
                refine wl_do trivial rfl (do_call (look_none B b r v28 l29 (delO key (callS s).2.2) key ((hst.callDel key)).ok hl33) ⟨rfl, rfl, trivial⟩ enters_20 [0, 1, 2, 3] [4, 5, 6, 7] ⟨rfl, rfl, rfl, rfl, trivial⟩ ⟨rfl, rfl, rfl, rfl, trivial⟩ (R := [_, _, _, _]) (by decide)) ?_
                rintro _ _ ⟨_, ⟨x34, rfl, rfl⟩, rfl⟩
                refine wl_1 trivial rfl (do_move rfl) ?_
                refine wl_1 trivial rfl (do_extract rfl rfl) ?_
                refine wl_1 trivial rfl (do_extract rfl rfl) ?_
                refine wl_1 trivial rfl (do_assign rfl) ?_
                refine wl_1 trivial rfl (do_assign rfl) ?_
                refine wl_nil ?_
                refine at_then ?_
                refine wc_seq ?_
                refine wc_seq ?_
                refine wc_region ?_
                refine wl_1 trivial rfl (do_move rfl) ?_
                refine wl_1 trivial rfl (do_cmp (c := false) rfl rfl rfl) ?_
                refine wl_1 trivial rfl (do_move rfl) ?_
                refine wl_no rfl rfl rfl rfl rfl ?_
                refine wl_1 trivial rfl (do_pickF rfl rfl) ?_
                refine wl_nil ?_
                refine at_then ?_
                refine wc_false rfl ?_
                refine wc_skip ?_
                refine at_then ?_
                refine wc_seq ?_
                refine wc_region ?_
                refine wl_1 trivial rfl (do_move rfl) ?_
                refine wl_1 trivial rfl (do_not (c := false) rfl) ?_
                refine wl_nil ?_
                refine at_then ?_
                refine wc_true rfl ?_
                refine wc_region ?_
                refine wl_1 trivial rfl (do_move rfl) ?_
                refine wl_1 trivial rfl (do_fieldAddr (k := 1) (k' := 1) fo_34_1 rfl (by rfl)) ?_
                refine wl_1 trivial rfl (do_load 5 rfl one_9 rfl rfl) ?_
                refine wl_1 trivial rfl (do_delete (L1 := [_, _, _, _, _, _]) rfl und_54 key_9 rfl rfl) ?_
                refine wl_nil ?_
                refine at_block ?_
                refine at_block ?_
                refine at_then ?_
                refine wc_region ?_
                refine wl_1 trivial rfl (do_move rfl) ?_
                refine wl_1 trivial rfl (do_add (r := ((i + 1 : Nat) : Int)) rfl rfl (wrap_nat (by omega) (by omega))) ?_
                refine wl_1 trivial rfl (do_assign rfl) ?_
                refine wl_nil ?_
                refine at_pick (M := [_, _, _, _, _, _, _]) [0, 1, 2, 3, 6, 7, 8] ⟨rfl, rfl, rfl, rfl, rfl, rfl, rfl, trivial⟩ (by decide) ?_
                rw [wv_del]
                have hphi : StOk (delO key (callS s).2.2) (i + 1) ∧ i + 1 ≤ 200 ∧ AO (delO key (callS s).2.2) (adel wt key) := ⟨hst.callDel key, by omega, hao.call.del key⟩
                exact at_round (i + 1, (delO key (callS s).2.2), v28, l29, adel wt key) hphi (by show 200 - (i + 1) < 200 - i; omega) ⟨rfl, rfl, rfl, rfl, trivial⟩ rfl
              · skip
                have hl35 : aget (callS s).2.2.objs key = some v18 := by rw [callS_objs]; exact hg17
                refine wl_do trivial rfl (do_call (num_tri B 8) ⟨rfl, trivial⟩ enters_14 [] [0, 1, 2, 3, 4, 5, 6, 7] trivial ⟨rfl, rfl, rfl, rfl, rfl, rfl, rfl, rfl, trivial⟩ (R := [_, _, _, _, _, _, _, _]) (by decide)) ?_
                rintro _ _ ⟨_, ⟨rfl, rfl⟩, rfl⟩
                refine wl_1 trivial rfl (do_assign rfl) ?_
                refine wl_nil ?_
                refine at_then ?_
                refine wc_seq ?_
                refine wc_region ?_
                refine wl_1 trivial rfl (do_move rfl) ?_
                refine wl_1 trivial rfl (do_fieldAddr (k := 1) (k' := 1) fo_34_1 rfl (by rfl)) ?_
                refine wl_1 trivial rfl (do_load 4 rfl one_9 rfl rfl) ?_
                refine wl_do trivial rfl (do_call (look_some B b r v28 l29 (callS s).2.2 key ((hst.call)).ok v18 hl35) ⟨rfl, rfl, trivial⟩ enters_20 [0, 1, 2, 3] [4, 5, 6, 7] ⟨rfl, rfl, rfl, rfl, trivial⟩ ⟨rfl, rfl, rfl, rfl, trivial⟩ (R := [_, _, _, _]) (by decide)) ?_
                rintro _ _ ⟨_, ⟨x36, rfl, rfl⟩, rfl⟩
                refine wl_1 trivial rfl (do_move rfl) ?_
                refine wl_1 trivial rfl (do_extract rfl rfl) ?_
                refine wl_1 trivial rfl (do_extract rfl rfl) ?_
                refine wl_1 trivial rfl (do_assign rfl) ?_
                refine wl_1 trivial rfl (do_assign rfl) ?_
                refine wl_nil ?_
                refine at_then ?_
                refine wc_seq ?_
                refine wc_seq ?_
                refine wc_region ?_
                refine wl_1 trivial rfl (do_move rfl) ?_
                refine wl_1 trivial rfl (do_cmp (c := false) rfl rfl rfl) ?_
                refine wl_1 trivial rfl (do_move rfl) ?_
                refine wl_no rfl rfl rfl rfl rfl ?_
                refine wl_1 trivial rfl (do_pickF rfl rfl) ?_
                refine wl_nil ?_
                refine at_then ?_
                refine wc_false rfl ?_
                refine wc_skip ?_
                refine at_then ?_
                refine wc_seq ?_
                refine wc_region ?_
                refine wl_1 trivial rfl (do_move rfl) ?_
                refine wl_1 trivial rfl (do_not (c := true) rfl) ?_
                refine wl_nil ?_
                refine at_then ?_
                refine wc_false rfl ?_
                refine wc_skip ?_
                refine at_block ?_
                refine at_block ?_
                refine at_then ?_
                refine wc_region ?_
                refine wl_1 trivial rfl (do_move rfl) ?_
                refine wl_1 trivial rfl (do_add (r := ((i + 1 : Nat) : Int)) rfl rfl (wrap_nat (by omega) (by omega))) ?_
                refine wl_1 trivial rfl (do_assign rfl) ?_
                refine wl_nil ?_
                refine at_pick (M := [_, _, _, _, _, _, _]) [0, 1, 2, 3, 6, 7, 8] ⟨rfl, rfl, rfl, rfl, rfl, rfl, rfl, trivial⟩ (by decide) ?_
                have hphi : StOk (callS s).2.2 (i + 1) ∧ i + 1 ≤ 200 ∧ AO (callS s).2.2 (wt) := ⟨hst.call, by omega, hao.call⟩
                exact at_round (i + 1, (callS s).2.2, v28, l29, wt) hphi (by show 200 - (i + 1) < 200 - i; omega) ⟨rfl, rfl, rfl, rfl, trivial⟩ rfl
        · have p_c10 := cmp_eql_t h_c10
          refine wc_true rfl ?_
          refine wc_seq ?_
          refine wc_region ?_
          refine wl_1 trivial rfl (do_move rfl) ?_
          refine wl_1 trivial rfl (do_fieldAddr (k := 1) (k' := 1) fo_34_1 rfl (by rfl)) ?_
          refine wl_1 trivial rfl (do_load 0 rfl one_9 rfl rfl) ?_
          rcases hg37 : aget s.objs key with _ | v38
          · skip
            have hw : aget (wv wt) key = none := by rw [wv_get, hao.ag, hg37]; rfl
            refine wl_do trivial rfl (do_call (get_alts B b r v lv s key (i) (hst) (by omega) hop.key) ⟨rfl, rfl, trivial⟩ enters_18 [1, 2, 3, 4] [0, 5, 6, 7] ⟨rfl, rfl, rfl, rfl, trivial⟩ ⟨rfl, rfl, rfl, rfl, trivial⟩ (R := [_, _, _, _]) (by decide)) ?_
            rintro _ _ ⟨_, (⟨x39, rfl, rfl⟩ | ⟨x39, hq40, rfl, rfl⟩ | ⟨x39, bq41, hq40, rfl, rfl⟩ | ⟨x39, rfl, rfl⟩), rfl⟩
            · skip
              refine wl_1 trivial rfl (do_move rfl) ?_
              refine wl_1 trivial rfl (do_extract rfl rfl) ?_
              refine wl_1 trivial rfl (do_extract rfl rfl) ?_
              refine wl_1 trivial rfl (do_assign rfl) ?_
              refine wl_1 trivial rfl (do_assign rfl) ?_
              refine wl_nil ?_
              refine at_then ?_
              refine wc_seq ?_
              refine wc_region ?_
              refine wl_1 trivial rfl (do_move rfl) ?_
              refine wl_1 trivial rfl (do_fieldAddr (k := 1) (k' := 1) fo_34_1 rfl (by rfl)) ?_
              refine wl_1 trivial rfl (do_load 5 rfl one_9 rfl rfl) ?_
              refine wl_1 trivial rfl (do_lookup2N und_54 key_9 zero_9 6 rfl rfl rfl hw) ?_
              refine wl_1 trivial rfl (do_move rfl) ?_
              refine wl_1 trivial rfl (do_extract rfl rfl) ?_
              refine wl_1 trivial rfl (do_extract rfl rfl) ?_
              refine wl_1 trivial rfl (do_assign rfl) ?_
              refine wl_1 trivial rfl (do_assign rfl) ?_
              refine wl_nil ?_
              refine at_then ?_
              refine wc_seq ?_
              refine wc_region ?_
              refine wl_1 trivial rfl (do_move rfl) ?_
              refine wl_do trivial rfl (do_call (num_tri B 1) ⟨rfl, trivial⟩ enters_14 [] [0, 1, 2, 3, 4, 5, 6, 7, 8] trivial ⟨rfl, rfl, rfl, rfl, rfl, rfl, rfl, rfl, rfl, trivial⟩ (R := [_, _, _, _, _, _, _, _, _]) (by decide)) ?_
              rintro _ _ ⟨_, ⟨rfl, rfl⟩, rfl⟩
              refine wl_1 trivial rfl (do_cmp (c := false) rfl rfl rfl) ?_
              refine wl_1 trivial rfl (do_move rfl) ?_
              refine wl_no rfl rfl rfl rfl rfl ?_
              refine wl_no rfl rfl rfl rfl rfl ?_
              refine wl_no rfl rfl rfl rfl rfl ?_
              refine wl_noU rfl rfl rfl rfl ?_
              refine wl_noU rfl rfl rfl rfl ?_
              refine wl_noU rfl rfl rfl rfl ?_
              refine wl_noU rfl rfl rfl rfl ?_
              refine wl_no rfl rfl rfl rfl rfl ?_
              refine wl_1 trivial rfl (do_pickF rfl rfl) ?_
              refine wl_1 trivial rfl (do_move rfl) ?_
              refine wl_1 ⟨_, rfl, rfl⟩ rfl (do_move rfl) ?_
              refine wl_do ⟨_, rfl, rfl⟩ rfl (do_call (num_tri B 1) ⟨rfl, trivial⟩ enters_14 [] [0, 1, 2, 3, 4, 5, 6, 7, 8] trivial ⟨rfl, rfl, rfl, rfl, rfl, rfl, rfl, rfl, rfl, trivial⟩ (R := [_, _, _, _, _, _, _, _, _]) (by decide)) ?_
              rintro _ _ ⟨_, ⟨rfl, rfl⟩, rfl⟩
              refine wl_1 ⟨_, rfl, rfl⟩ rfl (do_cmp (c := false) rfl rfl rfl) ?_
              refine wl_1 ⟨_, rfl, rfl⟩ rfl (do_move rfl) ?_
              refine wl_no rfl rfl rfl rfl rfl ?_
              refine wl_1 ⟨_, rfl, rfl⟩ rfl (do_pickF rfl rfl) ?_
              refine wl_1 trivial rfl (do_pickF rfl rfl) ?_
              refine wl_nil ?_
              refine at_then ?_
              refine wc_false rfl ?_
              refine wc_skip ?_
              refine at_block ?_
              refine at_block ?_
              refine at_then ?_
              refine wc_region ?_
              refine wl_1 trivial rfl (do_move rfl) ?_
              refine wl_1 trivial rfl (do_add (r := ((i + 1 : Nat) : Int)) rfl rfl (wrap_nat (by omega) (by omega))) ?_
              refine wl_1 trivial rfl (do_assign rfl) ?_
              refine wl_nil ?_
              refine at_pick (M := [_, _, _, _, _, _, _]) [0, 1, 2, 3, 6, 7, 8] ⟨rfl, rfl, rfl, rfl, rfl, rfl, rfl, trivial⟩ (by decide) ?_
              have hphi : StOk s (i + 1) ∧ i + 1 ≤ 200 ∧ AO s (wt) := ⟨hst.more (Nat.le_succ i), by omega, hao⟩
              exact at_round (i + 1, s, v, lv, wt) hphi (by show 200 - (i + 1) < 200 - i; omega) ⟨rfl, rfl, rfl, rfl, trivial⟩ rfl
            · skip
              refine wl_1 trivial rfl (do_move rfl) ?_
              refine wl_1 trivial rfl (do_extract rfl rfl) ?_
              refine wl_1 trivial rfl (do_extract rfl rfl) ?_
              refine wl_1 trivial rfl (do_assign rfl) ?_
              refine wl_1 trivial rfl (do_assign rfl) ?_
              refine wl_nil ?_
              refine at_then ?_
              refine wc_seq ?_
              refine wc_region ?_
              refine wl_1 trivial rfl (do_move rfl) ?_
              refine wl_1 trivial rfl (do_fieldAddr (k := 1) (k' := 1) fo_34_1 rfl (by rfl)) ?_
              refine wl_1 trivial rfl (do_load 5 rfl one_9 rfl rfl) ?_
              refine wl_1 trivial rfl (do_lookup2N und_54 key_9 zero_9 6 rfl rfl rfl hw) ?_
              refine wl_1 trivial rfl (do_move rfl) ?_
              refine wl_1 trivial rfl (do_extract rfl rfl) ?_
              refine wl_1 trivial rfl (do_extract rfl rfl) ?_
              refine wl_1 trivial rfl (do_assign rfl) ?_
              refine wl_1 trivial rfl (do_assign rfl) ?_
              refine wl_nil ?_
              refine at_then ?_
              refine wc_seq ?_
              refine wc_region ?_
              refine wl_1 trivial rfl (do_move rfl) ?_
              refine wl_do trivial rfl (do_call (num_tri B 3) ⟨rfl, trivial⟩ enters_14 [] [0, 1, 2, 3, 4, 5, 6, 7, 8] trivial ⟨rfl, rfl, rfl, rfl, rfl, rfl, rfl, rfl, rfl, trivial⟩ (R := [_, _, _, _, _, _, _, _, _]) (by decide)) ?_
              rintro _ _ ⟨_, ⟨rfl, rfl⟩, rfl⟩
              refine wl_1 trivial rfl (do_cmp (c := false) rfl rfl rfl) ?_
              refine wl_1 trivial rfl (do_move rfl) ?_
              refine wl_no rfl rfl rfl rfl rfl ?_
              refine wl_no rfl rfl rfl rfl rfl ?_
              refine wl_no rfl rfl rfl rfl rfl ?_
              refine wl_noU rfl rfl rfl rfl ?_
              refine wl_noU rfl rfl rfl rfl ?_
              refine wl_noU rfl rfl rfl rfl ?_
              refine wl_noU rfl rfl rfl rfl ?_
              refine wl_no rfl rfl rfl rfl rfl ?_
              refine wl_1 trivial rfl (do_pickF rfl rfl) ?_
              refine wl_1 trivial rfl (do_move rfl) ?_
              refine wl_1 ⟨_, rfl, rfl⟩ rfl (do_move rfl) ?_
              refine wl_do ⟨_, rfl, rfl⟩ rfl (do_call (num_tri B 3) ⟨rfl, trivial⟩ enters_14 [] [0, 1, 2, 3, 4, 5, 6, 7, 8] trivial ⟨rfl, rfl, rfl, rfl, rfl, rfl, rfl, rfl, rfl, trivial⟩ (R := [_, _, _, _, _, _, _, _, _]) (by decide)) ?_
              rintro _ _ ⟨_, ⟨rfl, rfl⟩, rfl⟩
              refine wl_1 ⟨_, rfl, rfl⟩ rfl (do_cmp (c := true) rfl rfl rfl) ?_
              refine wl_1 ⟨_, rfl, rfl⟩ rfl (do_move rfl) ?_
              refine wl_1 ⟨_, rfl, rfl⟩ rfl (do_move rfl) ?_
              refine wl_1 ⟨_, rfl, rfl⟩ rfl (do_pickT rfl rfl) ?_
              refine wl_1 trivial rfl (do_pickF rfl rfl) ?_
              refine wl_nil ?_
              refine at_then ?_
              refine wc_false rfl ?_
              refine wc_skip ?_
              refine at_block ?_
              refine at_block ?_
              refine at_then ?_
              refine wc_region ?_
              refine wl_1 trivial rfl (do_move rfl) ?_
              refine wl_1 trivial rfl (do_add (r := ((i + 1 : Nat) : Int)) rfl rfl (wrap_nat (by omega) (by omega))) ?_
              refine wl_1 trivial rfl (do_assign rfl) ?_
              refine wl_nil ?_
              refine at_pick (M := [_, _, _, _, _, _, _]) [0, 1, 2, 3, 6, 7, 8] ⟨rfl, rfl, rfl, rfl, rfl, rfl, rfl, trivial⟩ (by decide) ?_
              have hphi : StOk (callS s).2.2 (i + 1) ∧ i + 1 ≤ 200 ∧ AO (callS s).2.2 (wt) := ⟨hst.call, by omega, hao.call⟩
              exact at_round (i + 1, (callS s).2.2, v, lv, wt) hphi (by show 200 - (i + 1) < 200 - i; omega) ⟨rfl, rfl, rfl, rfl, trivial⟩ rfl
            · skip
              rw [hg37] at hq40; cases hq40
            · skip
              refine wl_1 trivial rfl (do_move rfl) ?_
              refine wl_1 trivial rfl (do_extract rfl rfl) ?_
              refine wl_1 trivial rfl (do_extract rfl rfl) ?_
              refine wl_1 trivial rfl (do_assign rfl) ?_
              refine wl_1 trivial rfl (do_assign rfl) ?_
              refine wl_nil ?_
              refine at_then ?_
              refine wc_seq ?_
              refine wc_region ?_
              refine wl_1 trivial rfl (do_move rfl) ?_
              refine wl_1 trivial rfl (do_fieldAddr (k := 1) (k' := 1) fo_34_1 rfl (by rfl)) ?_
              refine wl_1 trivial rfl (do_load 5 rfl one_9 rfl rfl) ?_
              refine wl_1 trivial rfl (do_lookup2N und_54 key_9 zero_9 6 rfl rfl rfl hw) ?_
              refine wl_1 trivial rfl (do_move rfl) ?_
              refine wl_1 trivial rfl (do_extract rfl rfl) ?_
              refine wl_1 trivial rfl (do_extract rfl rfl) ?_
              refine wl_1 trivial rfl (do_assign rfl) ?_
              refine wl_1 trivial rfl (do_assign rfl) ?_
              refine wl_nil ?_
              refine at_then ?_
              refine wc_seq ?_
              refine wc_region ?_
              refine wl_1 trivial rfl (do_move rfl) ?_
              refine wl_do trivial rfl (do_call (num_tri B 8) ⟨rfl, trivial⟩ enters_14 [] [0, 1, 2, 3, 4, 5, 6, 7, 8] trivial ⟨rfl, rfl, rfl, rfl, rfl, rfl, rfl, rfl, rfl, trivial⟩ (R := [_, _, _, _, _, _, _, _, _]) (by decide)) ?_
              rintro _ _ ⟨_, ⟨rfl, rfl⟩, rfl⟩
              refine wl_1 trivial rfl (do_cmp (c := false) rfl rfl rfl) ?_
              refine wl_1 trivial rfl (do_move rfl) ?_
              refine wl_no rfl rfl rfl rfl rfl ?_
              refine wl_no rfl rfl rfl rfl rfl ?_
              refine wl_no rfl rfl rfl rfl rfl ?_
              refine wl_noU rfl rfl rfl rfl ?_
              refine wl_noU rfl rfl rfl rfl ?_
              refine wl_noU rfl rfl rfl rfl ?_
              refine wl_noU rfl rfl rfl rfl ?_
              refine wl_no rfl rfl rfl rfl rfl ?_
              refine wl_1 trivial rfl (do_pickF rfl rfl) ?_
              refine wl_1 trivial rfl (do_move rfl) ?_
              refine wl_1 ⟨_, rfl, rfl⟩ rfl (do_move rfl) ?_
              refine wl_do ⟨_, rfl, rfl⟩ rfl (do_call (num_tri B 8) ⟨rfl, trivial⟩ enters_14 [] [0, 1, 2, 3, 4, 5, 6, 7, 8] trivial ⟨rfl, rfl, rfl, rfl, rfl, rfl, rfl, rfl, rfl, trivial⟩ (R := [_, _, _, _, _, _, _, _, _]) (by decide)) ?_
              rintro _ _ ⟨_, ⟨rfl, rfl⟩, rfl⟩
              refine wl_1 ⟨_, rfl, rfl⟩ rfl (do_cmp (c := false) rfl rfl rfl) ?_
              refine wl_1 ⟨_, rfl, rfl⟩ rfl (do_move rfl) ?_
              refine wl_no rfl rfl rfl rfl rfl ?_
              refine wl_1 ⟨_, rfl, rfl⟩ rfl (do_pickF rfl rfl) ?_
              refine wl_1 trivial rfl (do_pickF rfl rfl) ?_
              refine wl_nil ?_
              refine at_then ?_
              refine wc_false rfl ?_
              refine wc_skip ?_
              refine at_block ?_
              refine at_block ?_
              refine at_then ?_
              refine wc_region ?_
              refine wl_1 trivial rfl (do_move rfl) ?_
              refine wl_1 trivial rfl (do_add (r := ((i + 1 : Nat) : Int)) rfl rfl (wrap_nat (by omega) (by omega))) ?_
              refine wl_1 trivial rfl (do_assign rfl) ?_
              refine wl_nil ?_
              refine at_pick (M := [_, _, _, _, _, _, _]) [0, 1, 2, 3, 6, 7, 8] ⟨rfl, rfl, rfl, rfl, rfl, rfl, rfl, trivial⟩ (by decide) ?_
              have hphi : StOk (callS s).2.2 (i + 1) ∧ i + 1 ≤ 200 ∧ AO (callS s).2.2 (wt) := ⟨hst.call, by omega, hao.call⟩
              exact at_round (i + 1, (callS s).2.2, v, lv, wt) hphi (by show 200 - (i + 1) < 200 - i; omega) ⟨rfl, rfl, rfl, rfl, trivial⟩ rfl
          · skip
            have hw : aget (wv wt) key = some (.string ⟨(v38).toArray⟩) := by rw [wv_get, hao.ag, hg37]; rfl
            refine wl_do trivial rfl (do_call (get_alts B b r v lv s key (i) (hst) (by omega) hop.key) ⟨rfl, rfl, trivial⟩ enters_18 [1, 2, 3, 4] [0, 5, 6, 7] ⟨rfl, rfl, rfl, rfl, trivial⟩ ⟨rfl, rfl, rfl, rfl, trivial⟩ (R := [_, _, _, _]) (by decide)) ?_
            rintro _ _ ⟨_, (⟨x42, rfl, rfl⟩ | ⟨x42, hq43, rfl, rfl⟩ | ⟨x42, bq44, hq43, rfl, rfl⟩ | ⟨x42, rfl, rfl⟩), rfl⟩
            · skip
              refine wl_1 trivial rfl (do_move rfl) ?_
              refine wl_1 trivial rfl (do_extract rfl rfl) ?_
              refine wl_1 trivial rfl (do_extract rfl rfl) ?_
              refine wl_1 trivial rfl (do_assign rfl) ?_
              refine wl_1 trivial rfl (do_assign rfl) ?_
              refine wl_nil ?_
              refine at_then ?_
              refine wc_seq ?_
              refine wc_region ?_
              refine wl_1 trivial rfl (do_move rfl) ?_
              refine wl_1 trivial rfl (do_fieldAddr (k := 1) (k' := 1) fo_34_1 rfl (by rfl)) ?_
              refine wl_1 trivial rfl (do_load 5 rfl one_9 rfl rfl) ?_
              refine wl_1 trivial rfl (do_lookup2S und_54 key_9 zero_9 6 rfl rfl rfl hw) ?_
              refine wl_1 trivial rfl (do_move rfl) ?_
              refine wl_1 trivial rfl (do_extract rfl rfl) ?_
              refine wl_1 trivial rfl (do_extract rfl rfl) ?_
              refine wl_1 trivial rfl (do_assign rfl) ?_
              refine wl_1 trivial rfl (do_assign rfl) ?_
              refine wl_nil ?_
              refine at_then ?_
              refine wc_seq ?_
              refine wc_region ?_
              refine wl_1 trivial rfl (do_move rfl) ?_
              refine wl_do trivial rfl (do_call (num_tri B 1) ⟨rfl, trivial⟩ enters_14 [] [0, 1, 2, 3, 4, 5, 6, 7, 8] trivial ⟨rfl, rfl, rfl, rfl, rfl, rfl, rfl, rfl, rfl, trivial⟩ (R := [_, _, _, _, _, _, _, _, _]) (by decide)) ?_
              rintro _ _ ⟨_, ⟨rfl, rfl⟩, rfl⟩
              refine wl_1 trivial rfl (do_cmp (c := false) rfl rfl rfl) ?_
              refine wl_1 trivial rfl (do_move rfl) ?_
              refine wl_no rfl rfl rfl rfl rfl ?_
              refine wl_no rfl rfl rfl rfl rfl ?_
              refine wl_no rfl rfl rfl rfl rfl ?_
              refine wl_noU rfl rfl rfl rfl ?_
              refine wl_noU rfl rfl rfl rfl ?_
              refine wl_noU rfl rfl rfl rfl ?_
              refine wl_noU rfl rfl rfl rfl ?_
              refine wl_no rfl rfl rfl rfl rfl ?_
              refine wl_1 trivial rfl (do_pickF rfl rfl) ?_
              refine wl_1 trivial rfl (do_move rfl) ?_
              refine wl_1 ⟨_, rfl, rfl⟩ rfl (do_move rfl) ?_
              refine wl_do ⟨_, rfl, rfl⟩ rfl (do_call (num_tri B 1) ⟨rfl, trivial⟩ enters_14 [] [0, 1, 2, 3, 4, 5, 6, 7, 8] trivial ⟨rfl, rfl, rfl, rfl, rfl, rfl, rfl, rfl, rfl, trivial⟩ (R := [_, _, _, _, _, _, _, _, _]) (by decide)) ?_
              rintro _ _ ⟨_, ⟨rfl, rfl⟩, rfl⟩
              refine wl_1 ⟨_, rfl, rfl⟩ rfl (do_cmp (c := false) rfl rfl rfl) ?_
              refine wl_1 ⟨_, rfl, rfl⟩ rfl (do_move rfl) ?_
              refine wl_no rfl rfl rfl rfl rfl ?_
              refine wl_1 ⟨_, rfl, rfl⟩ rfl (do_pickF rfl rfl) ?_
              refine wl_1 trivial rfl (do_pickF rfl rfl) ?_
              refine wl_nil ?_
              refine at_then ?_
              refine wc_false rfl ?_
              refine wc_skip ?_
              refine at_block ?_
              refine at_block ?_
              refine at_then ?_
              refine wc_region ?_
              refine wl_1 trivial rfl (do_move rfl) ?_
              refine wl_1 trivial rfl (do_add (r := ((i + 1 : Nat) : Int)) rfl rfl (wrap_nat (by omega) (by omega))) ?_
              refine wl_1 trivial rfl (do_assign rfl) ?_
              refine wl_nil ?_
              refine at_pick (M := [_, _, _, _, _, _, _]) [0, 1, 2, 3, 6, 7, 8] ⟨rfl, rfl, rfl, rfl, rfl, rfl, rfl, trivial⟩ (by decide) ?_
              have hphi : StOk s (i + 1) ∧ i + 1 ≤ 200 ∧ AO s (wt) := ⟨hst.more (Nat.le_succ i), by omega, hao⟩
              exact at_round (i + 1, s, v, lv, wt) hphi (by show 200 - (i + 1) < 200 - i; omega) ⟨rfl, rfl, rfl, rfl, trivial⟩ rfl
            · skip
              rw [hg37] at hq43; cases hq43
            · skip
              rw [hg37] at hq43
              cases hq43
              refine wl_1 trivial rfl (do_move rfl) ?_
              refine wl_1 trivial rfl (do_extract rfl rfl) ?_
              refine wl_1 trivial rfl (do_extract rfl rfl) ?_
              refine wl_1 trivial rfl (do_assign rfl) ?_
              refine wl_1 trivial rfl (do_assign rfl) ?_
              refine wl_nil ?_
              refine at_then ?_
              refine wc_seq ?_
              refine wc_region ?_
              refine wl_1 trivial rfl (do_move rfl) ?_
              refine wl_1 trivial rfl (do_fieldAddr (k := 1) (k' := 1) fo_34_1 rfl (by rfl)) ?_
              refine wl_1 trivial rfl (do_load 5 rfl one_9 rfl rfl) ?_
              refine wl_1 trivial rfl (do_lookup2S und_54 key_9 zero_9 6 rfl rfl rfl hw) ?_
              refine wl_1 trivial rfl (do_move rfl) ?_
              refine wl_1 trivial rfl (do_extract rfl rfl) ?_
              refine wl_1 trivial rfl (do_extract rfl rfl) ?_
              refine wl_1 trivial rfl (do_assign rfl) ?_
              refine wl_1 trivial rfl (do_assign rfl) ?_
              refine wl_nil ?_
              refine at_then ?_
              refine wc_seq ?_
              refine wc_region ?_
              refine wl_1 trivial rfl (do_move rfl) ?_
              refine wl_do trivial rfl (do_call (num_tri B 0) ⟨rfl, trivial⟩ enters_14 [] [0, 1, 2, 3, 4, 5, 6, 7, 8] trivial ⟨rfl, rfl, rfl, rfl, rfl, rfl, rfl, rfl, rfl, trivial⟩ (R := [_, _, _, _, _, _, _, _, _]) (by decide)) ?_
              rintro _ _ ⟨_, ⟨rfl, rfl⟩, rfl⟩
              refine wl_1 trivial rfl (do_cmp (c := true) rfl rfl rfl) ?_
              refine wl_1 trivial rfl (do_move rfl) ?_
              refine wl_1 ⟨_, rfl, rfl⟩ rfl (do_move rfl) ?_
              refine wl_1 ⟨_, rfl, rfl⟩ rfl (do_not (c := true) rfl) ?_
              refine wl_1 ⟨_, rfl, rfl⟩ rfl (do_move rfl) ?_
              refine wl_1 ⟨_, rfl, rfl⟩ rfl (do_move rfl) ?_
              refine wl_1 ⟨_, rfl, rfl⟩ rfl (do_convBS (R := row 5 1 x42 v38.length (byv v38)) (bs := v38) 4 und_32 und_5 und_9 rfl rfl row_R) ?_
              refine wl_1 ⟨_, rfl, rfl⟩ rfl (do_move rfl) ?_
              refine wl_1 ⟨_, rfl, rfl⟩ rfl (do_strcmp rfl rfl (str_same_neq _)) ?_
              refine wl_1 ⟨_, rfl, rfl⟩ rfl (do_pickF rfl rfl) ?_
              refine wl_1 trivial rfl (do_pickT rfl rfl) ?_
              refine wl_1 trivial rfl (do_move rfl) ?_
              refine wl_1 ⟨_, rfl, rfl⟩ rfl (do_move rfl) ?_
              refine wl_do ⟨_, rfl, rfl⟩ rfl (do_call (num_tri B 0) ⟨rfl, trivial⟩ enters_14 [] [0, 1, 2, 3, 4, 5, 6, 7, 8] trivial ⟨rfl, rfl, rfl, rfl, rfl, rfl, rfl, rfl, rfl, trivial⟩ (R := [_, _, _, _, _, _, _, _, _]) (by decide)) ?_
              rintro _ _ ⟨_, ⟨rfl, rfl⟩, rfl⟩
              refine wl_1 ⟨_, rfl, rfl⟩ rfl (do_cmp (c := false) rfl rfl rfl) ?_
              refine wl_1 ⟨_, rfl, rfl⟩ rfl (do_move rfl) ?_
              refine wl_no rfl rfl rfl rfl rfl ?_
              refine wl_1 ⟨_, rfl, rfl⟩ rfl (do_pickF rfl rfl) ?_
              refine wl_1 trivial rfl (do_pickF rfl rfl) ?_
              refine wl_nil ?_
              refine at_then ?_
              refine wc_false rfl ?_
              refine wc_skip ?_
              refine at_block ?_
              refine at_block ?_
              refine at_then ?_
              refine wc_region ?_
              refine wl_1 trivial rfl (do_move rfl) ?_
              refine wl_1 trivial rfl (do_add (r := ((i + 1 : Nat) : Int)) rfl rfl (wrap_nat (by omega) (by omega))) ?_
              refine wl_1 trivial rfl (do_assign rfl) ?_
              refine wl_nil ?_
              refine at_pick (M := [_, _, _, _, _, _, _]) [0, 1, 2, 3, 6, 7, 8] ⟨rfl, rfl, rfl, rfl, rfl, rfl, rfl, trivial⟩ (by decide) ?_
              have hphi : StOk (callS s).2.2 (i + 1) ∧ i + 1 ≤ 200 ∧ AO (callS s).2.2 (wt) := ⟨hst.call, by omega, hao.call⟩
              exact at_round (i + 1, (callS s).2.2, v, lv, wt) hphi (by show 200 - (i + 1) < 200 - i; omega) ⟨rfl, rfl, rfl, rfl, trivial⟩ rfl
            · skip
              refine wl_1 trivial rfl (do_move rfl) ?_
              refine wl_1 trivial rfl (do_extract rfl rfl) ?_
              refine wl_1 trivial rfl (do_extract rfl rfl) ?_
              refine wl_1 trivial rfl (do_assign rfl) ?_
              refine wl_1 trivial rfl (do_assign rfl) ?_
              refine wl_nil ?_
              refine at_then ?_
              refine wc_seq ?_
              refine wc_region ?_
              refine wl_1 trivial rfl (do_move rfl) ?_
              refine wl_1 trivial rfl (do_fieldAddr (k := 1) (k' := 1) fo_34_1 rfl (by rfl)) ?_
              refine wl_1 trivial rfl (do_load 5 rfl one_9 rfl rfl) ?_
              refine wl_1 trivial rfl (do_lookup2S und_54 key_9 zero_9 6 rfl rfl rfl hw) ?_
              refine wl_1 trivial rfl (do_move rfl) ?_
              refine wl_1 trivial rfl (do_extract rfl rfl) ?_
              refine wl_1 trivial rfl (do_extract rfl rfl) ?_
              refine wl_1 trivial rfl (do_assign rfl) ?_
              refine wl_1 trivial rfl (do_assign rfl) ?_
              refine wl_nil ?_
              refine at_then ?_
              refine wc_seq ?_
              refine wc_region ?_
              refine wl_1 trivial rfl (do_move rfl) ?_
              refine wl_do trivial rfl (do_call (num_tri B 8) ⟨rfl, trivial⟩ enters_14 [] [0, 1, 2, 3, 4, 5, 6, 7, 8] trivial ⟨rfl, rfl, rfl, rfl, rfl, rfl, rfl, rfl, rfl, trivial⟩ (R := [_, _, _, _, _, _, _, _, _]) (by decide)) ?_
              rintro _ _ ⟨_, ⟨rfl, rfl⟩, rfl⟩
              refine wl_1 trivial rfl (do_cmp (c := false) rfl rfl rfl) ?_
              refine wl_1 trivial rfl (do_move rfl) ?_
              refine wl_no rfl rfl rfl rfl rfl ?_
              refine wl_no rfl rfl rfl rfl rfl ?_
              refine wl_no rfl rfl rfl rfl rfl ?_
              refine wl_noU rfl rfl rfl rfl ?_
              refine wl_noU rfl rfl rfl rfl ?_
              refine wl_noU rfl rfl rfl rfl ?_
              refine wl_noU rfl rfl rfl rfl ?_
              refine wl_no rfl rfl rfl rfl rfl ?_
              refine wl_1 trivial rfl (do_pickF rfl rfl) ?_
              refine wl_1 trivial rfl (do_move rfl) ?_
              refine wl_1 ⟨_, rfl, rfl⟩ rfl (do_move rfl) ?_
              refine wl_do ⟨_, rfl, rfl⟩ rfl (do_call (num_tri B 8) ⟨rfl, trivial⟩ enters_14 [] [0, 1, 2, 3, 4, 5, 6, 7, 8] trivial ⟨rfl, rfl, rfl, rfl, rfl, rfl, rfl, rfl, rfl, trivial⟩ (R := [_, _, _, _, _, _, _, _, _]) (by decide)) ?_
              rintro _ _ ⟨_, ⟨rfl, rfl⟩, rfl⟩
              refine wl_1 ⟨_, rfl, rfl⟩ rfl (do_cmp (c := false) rfl rfl rfl) ?_
              refine wl_1 ⟨_, rfl, rfl⟩ rfl (do_move rfl) ?_
              refine wl_no rfl rfl rfl rfl rfl ?_
              refine wl_1 ⟨_, rfl, rfl⟩ rfl (do_pickF rfl rfl) ?_
              refine wl_1 trivial rfl (do_pickF rfl rfl) ?_
              refine wl_nil ?_
              refine at_then ?_
              refine wc_false rfl ?_
              refine wc_skip ?_
              refine at_block ?_
              refine at_block ?_
              refine at_then ?_
              refine wc_region ?_
              refine wl_1 trivial rfl (do_move rfl) ?_
              refine wl_1 trivial rfl (do_add (r := ((i + 1 : Nat) : Int)) rfl rfl (wrap_nat (by omega) (by omega))) ?_
              refine wl_1 trivial rfl (do_assign rfl) ?_
              refine wl_nil ?_
              refine at_pick (M := [_, _, _, _, _, _, _]) [0, 1, 2, 3, 6, 7, 8] ⟨rfl, rfl, rfl, rfl, rfl, rfl, rfl, trivial⟩ (by decide) ?_
              have hphi : StOk (callS s).2.2 (i + 1) ∧ i + 1 ≤ 200 ∧ AO (callS s).2.2 (wt) := ⟨hst.call, by omega, hao.call⟩
              exact at_round (i + 1, (callS s).2.2, v, lv, wt) hphi (by show 200 - (i + 1) < 200 - i; omega) ⟨rfl, rfl, rfl, rfl, trivial⟩ rfl
      · have p_c9 := cmp_eql_t h_c9
        refine wc_true rfl ?_
        refine wc_seq ?_
        refine wc_region ?_
        refine wl_1 trivial rfl (do_move rfl) ?_
        refine wl_1 trivial rfl (do_fieldAddr (k := 1) (k' := 1) fo_34_1 rfl (by rfl)) ?_
        refine wl_1 trivial rfl (do_load 0 rfl one_9 rfl rfl) ?_
        refine wl_1 trivial rfl (do_fieldAddr (k := 2) (k' := 2) fo_34_2 rfl (by rfl)) ?_
        refine wl_1 trivial rfl (do_load 0 rfl one_32 rfl rfl) ?_
        rcases hg45 : aget s.objs key with _ | v46
        · skip
          have hw : aget (wv wt) key = none := by rw [wv_get, hao.ag, hg45]; rfl
          refine wl_do trivial rfl (do_call (put_alts B b r v lv s key a2 cap2 bs AnyP (i) (hst) (by omega) hop.key hop.rd) ⟨rfl, rfl, rfl, trivial⟩ enters_21 [1, 2, 3, 4, 6] [0, 5, 7] ⟨rfl, rfl, rfl, rfl, rfl, trivial⟩ ⟨rfl, rfl, rfl, trivial⟩ (R := [_, _, _]) (by decide)) ?_
          rintro _ _ ⟨_, (⟨_, v47, l48, (rfl | rfl | rfl), rfl, rfl⟩ | ⟨_, v47, l48, (rfl | rfl), hbl, rfl, rfl⟩ | ⟨v47, l48, rfl, rfl⟩), rfl⟩
          · skip
            refine wl_do trivial rfl (do_call (num_tri B 1) ⟨rfl, trivial⟩ enters_14 [] [0, 1, 2, 3, 4, 5, 6, 7] trivial ⟨rfl, rfl, rfl, rfl, rfl, rfl, rfl, rfl, trivial⟩ (R := [_, _, _, _, _, _, _, _]) (by decide)) ?_
            rintro _ _ ⟨_, ⟨rfl, rfl⟩, rfl⟩
            refine wl_1 trivial rfl (do_assign rfl) ?_
            refine wl_nil ?_
            refine at_then ?_
            refine wc_seq ?_
            refine wc_region ?_
            refine wl_1 trivial rfl (do_move rfl) ?_
            refine wl_1 trivial rfl (do_fieldAddr (k := 1) (k' := 1) fo_34_1 rfl (by rfl)) ?_
            refine wl_1 trivial rfl (do_load 5 rfl one_9 rfl rfl) ?_
            refine wl_do trivial rfl (do_call (look_none B b r v47 l48 s key (hst).ok hg45) ⟨rfl, rfl, trivial⟩ enters_20 [0, 1, 2, 3] [4, 5, 6, 7] ⟨rfl, rfl, rfl, rfl, trivial⟩ ⟨rfl, rfl, rfl, rfl, trivial⟩ (R := [_, _, _, _]) (by decide)) ?_
            rintro _ _ ⟨_, ⟨x49, rfl, rfl⟩, rfl⟩
            refine wl_1 trivial rfl (do_move rfl) ?_
            refine wl_1 trivial rfl (do_extract rfl rfl) ?_
            refine wl_1 trivial rfl (do_extract rfl rfl) ?_
            refine wl_1 trivial rfl (do_assign rfl) ?_
            refine wl_1 trivial rfl (do_assign rfl) ?_
            refine wl_nil ?_
            refine at_then ?_
            refine wc_seq ?_
            refine wc_region ?_
            refine wl_1 trivial rfl (do_move rfl) ?_
            refine wl_1 trivial rfl (do_fieldAddr (k := 1) (k' := 1) fo_34_1 rfl (by rfl)) ?_
            refine wl_1 trivial rfl (do_load 6 rfl one_9 rfl rfl) ?_
            refine wl_1 trivial rfl (do_lookup2N und_54 key_9 zero_9 7 rfl rfl rfl hw) ?_
            refine wl_1 trivial rfl (do_move rfl) ?_
            refine wl_1 trivial rfl (do_extract rfl rfl) ?_
            refine wl_1 trivial rfl (do_extract rfl rfl) ?_
            refine wl_1 trivial rfl (do_assign rfl) ?_
            refine wl_1 trivial rfl (do_assign rfl) ?_
            refine wl_nil ?_
            refine at_then ?_
            refine wc_seq ?_
            refine wc_seq ?_
            refine wc_region ?_
            refine wl_1 trivial rfl (do_move rfl) ?_
            refine wl_1 trivial rfl (do_cmp (c := false) rfl rfl rfl) ?_
            refine wl_1 trivial rfl (do_move rfl) ?_
            refine wl_no rfl rfl rfl rfl rfl ?_
            refine wl_no rfl rfl rfl rfl rfl ?_
            refine wl_no rfl rfl rfl rfl rfl ?_
            refine wl_noU rfl rfl rfl rfl ?_
            refine wl_noU rfl rfl rfl rfl ?_
            refine wl_noU rfl rfl rfl rfl ?_
            refine wl_noU rfl rfl rfl rfl ?_
            refine wl_noU rfl rfl rfl rfl ?_
            refine wl_noU rfl rfl rfl rfl ?_
            refine wl_no rfl rfl rfl rfl rfl ?_
            refine wl_1 trivial rfl (do_pickF rfl rfl) ?_
            refine wl_1 trivial rfl (do_move rfl) ?_
            refine wl_1 ⟨_, rfl, rfl⟩ rfl (do_move rfl) ?_
            refine wl_1 ⟨_, rfl, rfl⟩ rfl (do_cmp (c := true) rfl rfl rfl) ?_
            refine wl_1 ⟨_, rfl, rfl⟩ rfl (do_move rfl) ?_
            refine wl_1 ⟨_, rfl, rfl⟩ rfl (do_move rfl) ?_
            refine wl_1 ⟨_, rfl, rfl⟩ rfl (do_cmp (c := true) rfl rfl rfl) ?_
            refine wl_1 ⟨_, rfl, rfl⟩ rfl (do_pickT rfl rfl) ?_
            refine wl_1 ⟨_, rfl, rfl⟩ rfl (do_move rfl) ?_
            refine wl_1 ⟨_, rfl, rfl⟩ rfl (do_move rfl) ?_
            refine wl_1 ⟨_, rfl, rfl⟩ rfl (do_move rfl) ?_
            refine wl_1 ⟨_, rfl, rfl⟩ rfl (do_neBool isBool_4 rfl rfl) ?_
            refine wl_1 ⟨_, rfl, rfl⟩ rfl (do_move rfl) ?_
            refine wl_1 ⟨_, rfl, rfl⟩ rfl (do_move rfl) ?_
            refine wl_1 ⟨_, rfl, rfl⟩ rfl (do_move rfl) ?_
            refine wl_no rfl rfl rfl rfl rfl ?_
            refine wl_no rfl rfl rfl rfl rfl ?_
            refine wl_no rfl rfl rfl rfl rfl ?_
            refine wl_no rfl rfl rfl rfl rfl ?_
            refine wl_1 ⟨_, rfl, rfl⟩ rfl (do_pickF rfl rfl) ?_
            refine wl_1 ⟨_, rfl, rfl⟩ rfl (do_pickF rfl rfl) ?_
            refine wl_1 ⟨_, rfl, rfl⟩ rfl (do_pickT rfl rfl) ?_
            refine wl_1 trivial rfl (do_pickF rfl rfl) ?_
            refine wl_nil ?_
            refine at_then ?_
            refine wc_false rfl ?_
            refine wc_skip ?_
            refine at_then ?_
            refine wc_seq ?_
            refine wc_seq ?_
            refine wc_region ?_
            refine wl_1 trivial rfl (do_move rfl) ?_
            refine wl_1 trivial rfl (do_cmp (c := false) rfl rfl rfl) ?_
            refine wl_1 trivial rfl (do_move rfl) ?_
            refine wl_no rfl rfl rfl rfl rfl ?_
            refine wl_no rfl rfl rfl rfl rfl ?_
            refine wl_no rfl rfl rfl rfl rfl ?_
            refine wl_no rfl rfl rfl rfl rfl ?_
            refine wl_noU rfl rfl rfl rfl ?_
            refine wl_noU rfl rfl rfl rfl ?_
            refine wl_noU rfl rfl rfl rfl ?_
            refine wl_noU rfl rfl rfl rfl ?_
            refine wl_no rfl rfl rfl rfl rfl ?_
            refine wl_1 trivial rfl (do_pickF rfl rfl) ?_
            refine wl_1 trivial rfl (do_move rfl) ?_
            refine wl_no rfl rfl rfl rfl rfl ?_
            refine wl_no rfl rfl rfl rfl rfl ?_
            refine wl_no rfl rfl rfl rfl rfl ?_
            refine wl_noU rfl rfl rfl rfl ?_
            refine wl_noU rfl rfl rfl rfl ?_
            refine wl_noU rfl rfl rfl rfl ?_
            refine wl_noU rfl rfl rfl rfl ?_
            refine wl_noU rfl rfl rfl rfl ?_
            refine wl_noU rfl rfl rfl rfl ?_
            refine wl_no rfl rfl rfl rfl rfl ?_
            refine wl_1 trivial rfl (do_pickF rfl rfl) ?_
            refine wl_nil ?_
            refine at_then ?_
            refine wc_false rfl ?_
            refine wc_skip ?_
            refine at_then ?_
            refine wc_seq ?_
            refine wc_region ?_
            refine wl_1 trivial rfl (do_move rfl) ?_
            refine wl_nil ?_
            refine at_then ?_
            refine wc_false rfl ?_
            refine wc_skip ?_
            refine at_block ?_
            refine at_block ?_
            refine at_then ?_
            refine wc_region ?_
            refine wl_1 trivial rfl (do_move rfl) ?_
            refine wl_1 trivial rfl (do_add (r := ((i + 1 : Nat) : Int)) rfl rfl (wrap_nat (by omega) (by omega))) ?_
            refine wl_1 trivial rfl (do_assign rfl) ?_
            refine wl_nil ?_
            refine at_pick (M := [_, _, _, _, _, _, _]) [0, 1, 2, 3, 7, 5, 8] ⟨rfl, rfl, rfl, rfl, rfl, rfl, rfl, trivial⟩ (by decide) ?_
            have hphi : StOk s (i + 1) ∧ i + 1 ≤ 200 ∧ AO s (wt) := ⟨hst.more (Nat.le_succ i), by omega, hao⟩
            exact at_round (i + 1, s, v47, l48, wt) hphi (by show 200 - (i + 1) < 200 - i; omega) ⟨rfl, rfl, rfl, rfl, trivial⟩ rfl
          · skip
            refine wl_do trivial rfl (do_call (num_tri B 6) ⟨rfl, trivial⟩ enters_14 [] [0, 1, 2, 3, 4, 5, 6, 7] trivial ⟨rfl, rfl, rfl, rfl, rfl, rfl, rfl, rfl, trivial⟩ (R := [_, _, _, _, _, _, _, _]) (by decide)) ?_
            rintro _ _ ⟨_, ⟨rfl, rfl⟩, rfl⟩
            refine wl_1 trivial rfl (do_assign rfl) ?_
            refine wl_nil ?_
            refine at_then ?_
            refine wc_seq ?_
            refine wc_region ?_
            refine wl_1 trivial rfl (do_move rfl) ?_
            refine wl_1 trivial rfl (do_fieldAddr (k := 1) (k' := 1) fo_34_1 rfl (by rfl)) ?_
            refine wl_1 trivial rfl (do_load 5 rfl one_9 rfl rfl) ?_
            refine wl_do trivial rfl (do_call (look_none B b r v47 l48 s key (hst).ok hg45) ⟨rfl, rfl, trivial⟩ enters_20 [0, 1, 2, 3] [4, 5, 6, 7] ⟨rfl, rfl, rfl, rfl, trivial⟩ ⟨rfl, rfl, rfl, rfl, trivial⟩ (R := [_, _, _, _]) (by decide)) ?_
            rintro _ _ ⟨_, ⟨x50, rfl, rfl⟩, rfl⟩
            refine wl_1 trivial rfl (do_move rfl) ?_
            refine wl_1 trivial rfl (do_extract rfl rfl) ?_
            refine wl_1 trivial rfl (do_extract rfl rfl) ?_
            refine wl_1 trivial rfl (do_assign rfl) ?_
            refine wl_1 trivial rfl (do_assign rfl) ?_
            refine wl_nil ?_
            refine at_then ?_
            refine wc_seq ?_
            refine wc_region ?_
            refine wl_1 trivial rfl (do_move rfl) ?_
            refine wl_1 trivial rfl (do_fieldAddr (k := 1) (k' := 1) fo_34_1 rfl (by rfl)) ?_
            refine wl_1 trivial rfl (do_load 6 rfl one_9 rfl rfl) ?_
            refine wl_1 trivial rfl (do_lookup2N und_54 key_9 zero_9 7 rfl rfl rfl hw) ?_
            refine wl_1 trivial rfl (do_move rfl) ?_
            refine wl_1 trivial rfl (do_extract rfl rfl) ?_
            refine wl_1 trivial rfl (do_extract rfl rfl) ?_
            refine wl_1 trivial rfl (do_assign rfl) ?_
            refine wl_1 trivial rfl (do_assign rfl) ?_
            refine wl_nil ?_
            refine at_then ?_
            refine wc_seq ?_
            refine wc_seq ?_
            refine wc_region ?_
            refine wl_1 trivial rfl (do_move rfl) ?_
            refine wl_1 trivial rfl (do_cmp (c := false) rfl rfl rfl) ?_
            refine wl_1 trivial rfl (do_move rfl) ?_
            refine wl_no rfl rfl rfl rfl rfl ?_
            refine wl_no rfl rfl rfl rfl rfl ?_
            refine wl_no rfl rfl rfl rfl rfl ?_
            refine wl_noU rfl rfl rfl rfl ?_
            refine wl_noU rfl rfl rfl rfl ?_
            refine wl_noU rfl rfl rfl rfl ?_
            refine wl_noU rfl rfl rfl rfl ?_
            refine wl_noU rfl rfl rfl rfl ?_
            refine wl_noU rfl rfl rfl rfl ?_
            refine wl_no rfl rfl rfl rfl rfl ?_
            refine wl_1 trivial rfl (do_pickF rfl rfl) ?_
            refine wl_1 trivial rfl (do_move rfl) ?_
            refine wl_1 ⟨_, rfl, rfl⟩ rfl (do_move rfl) ?_
            refine wl_1 ⟨_, rfl, rfl⟩ rfl (do_cmp (c := true) rfl rfl rfl) ?_
            refine wl_1 ⟨_, rfl, rfl⟩ rfl (do_move rfl) ?_
            refine wl_1 ⟨_, rfl, rfl⟩ rfl (do_move rfl) ?_
            refine wl_1 ⟨_, rfl, rfl⟩ rfl (do_cmp (c := true) rfl rfl rfl) ?_
            refine wl_1 ⟨_, rfl, rfl⟩ rfl (do_pickT rfl rfl) ?_
            refine wl_1 ⟨_, rfl, rfl⟩ rfl (do_move rfl) ?_
            refine wl_1 ⟨_, rfl, rfl⟩ rfl (do_move rfl) ?_
            refine wl_1 ⟨_, rfl, rfl⟩ rfl (do_move rfl) ?_
            refine wl_1 ⟨_, rfl, rfl⟩ rfl (do_neBool isBool_4 rfl rfl) ?_
            refine wl_1 ⟨_, rfl, rfl⟩ rfl (do_move rfl) ?_
            refine wl_1 ⟨_, rfl, rfl⟩ rfl (do_move rfl) ?_
            refine wl_1 ⟨_, rfl, rfl⟩ rfl (do_move rfl) ?_
            refine wl_no rfl rfl rfl rfl rfl ?_
            refine wl_no rfl rfl rfl rfl rfl ?_
            refine wl_no rfl rfl rfl rfl rfl ?_
            refine wl_no rfl rfl rfl rfl rfl ?_
            refine wl_1 ⟨_, rfl, rfl⟩ rfl (do_pickF rfl rfl) ?_
            refine wl_1 ⟨_, rfl, rfl⟩ rfl (do_pickF rfl rfl) ?_
            refine wl_1 ⟨_, rfl, rfl⟩ rfl (do_pickT rfl rfl) ?_
            refine wl_1 trivial rfl (do_pickF rfl rfl) ?_
            refine wl_nil ?_
            refine at_then ?_
            refine wc_false rfl ?_
            refine wc_skip ?_
            refine at_then ?_
            refine wc_seq ?_
            refine wc_seq ?_
            refine wc_region ?_
            refine wl_1 trivial rfl (do_move rfl) ?_
            refine wl_1 trivial rfl (do_cmp (c := false) rfl rfl rfl) ?_
            refine wl_1 trivial rfl (do_move rfl) ?_
            refine wl_no rfl rfl rfl rfl rfl ?_
            refine wl_no rfl rfl rfl rfl rfl ?_
            refine wl_no rfl rfl rfl rfl rfl ?_
            refine wl_no rfl rfl rfl rfl rfl ?_
            refine wl_noU rfl rfl rfl rfl ?_
            refine wl_noU rfl rfl rfl rfl ?_
            refine wl_noU rfl rfl rfl rfl ?_
            refine wl_noU rfl rfl rfl rfl ?_
            refine wl_no rfl rfl rfl rfl rfl ?_
            refine wl_1 trivial rfl (do_pickF rfl rfl) ?_
            refine wl_1 trivial rfl (do_move rfl) ?_
            refine wl_no rfl rfl rfl rfl rfl ?_
            refine wl_no rfl rfl rfl rfl rfl ?_
            refine wl_no rfl rfl rfl rfl rfl ?_
            refine wl_noU rfl rfl rfl rfl ?_
            refine wl_noU rfl rfl rfl rfl ?_
            refine wl_noU rfl rfl rfl rfl ?_
            refine wl_noU rfl rfl rfl rfl ?_
            refine wl_noU rfl rfl rfl rfl ?_
            refine wl_noU rfl rfl rfl rfl ?_
            refine wl_no rfl rfl rfl rfl rfl ?_
            refine wl_1 trivial rfl (do_pickF rfl rfl) ?_
            refine wl_nil ?_
            refine at_then ?_
            refine wc_false rfl ?_
            refine wc_skip ?_
            refine at_then ?_
            refine wc_seq ?_
            refine wc_region ?_
            refine wl_1 trivial rfl (do_move rfl) ?_
            refine wl_nil ?_
            refine at_then ?_
            refine wc_false rfl ?_
            refine wc_skip ?_
            refine at_block ?_
            refine at_block ?_
            refine at_then ?_
            refine wc_region ?_
            refine wl_1 trivial rfl (do_move rfl) ?_
            refine wl_1 trivial rfl (do_add (r := ((i + 1 : Nat) : Int)) rfl rfl (wrap_nat (by omega) (by omega))) ?_
            refine wl_1 trivial rfl (do_assign rfl) ?_
            refine wl_nil ?_
            refine at_pick (M := [_, _, _, _, _, _, _]) [0, 1, 2, 3, 7, 5, 8] ⟨rfl, rfl, rfl, rfl, rfl, rfl, rfl, trivial⟩ (by decide) ?_
            have hphi : StOk s (i + 1) ∧ i + 1 ≤ 200 ∧ AO s (wt) := ⟨hst.more (Nat.le_succ i), by omega, hao⟩
            exact at_round (i + 1, s, v47, l48, wt) hphi (by show 200 - (i + 1) < 200 - i; omega) ⟨rfl, rfl, rfl, rfl, trivial⟩ rfl
          · skip
            refine wl_do trivial rfl (do_call (num_tri B 7) ⟨rfl, trivial⟩ enters_14 [] [0, 1, 2, 3, 4, 5, 6, 7] trivial ⟨rfl, rfl, rfl, rfl, rfl, rfl, rfl, rfl, trivial⟩ (R := [_, _, _, _, _, _, _, _]) (by decide)) ?_
            rintro _ _ ⟨_, ⟨rfl, rfl⟩, rfl⟩
            refine wl_1 trivial rfl (do_assign rfl) ?_
            refine wl_nil ?_
            refine at_then ?_
            refine wc_seq ?_
            refine wc_region ?_
            refine wl_1 trivial rfl (do_move rfl) ?_
            refine wl_1 trivial rfl (do_fieldAddr (k := 1) (k' := 1) fo_34_1 rfl (by rfl)) ?_
            refine wl_1 trivial rfl (do_load 5 rfl one_9 rfl rfl) ?_
            refine wl_do trivial rfl (do_call (look_none B b r v47 l48 s key (hst).ok hg45) ⟨rfl, rfl, trivial⟩ enters_20 [0, 1, 2, 3] [4, 5, 6, 7] ⟨rfl, rfl, rfl, rfl, trivial⟩ ⟨rfl, rfl, rfl, rfl, trivial⟩ (R := [_, _, _, _]) (by decide)) ?_
            rintro _ _ ⟨_, ⟨x51, rfl, rfl⟩, rfl⟩
            refine wl_1 trivial rfl (do_move rfl) ?_
            refine wl_1 trivial rfl (do_extract rfl rfl) ?_
            refine wl_1 trivial rfl (do_extract rfl rfl) ?_
            refine wl_1 trivial rfl (do_assign rfl) ?_
            refine wl_1 trivial rfl (do_assign rfl) ?_
            refine wl_nil ?_
            refine at_then ?_
            refine wc_seq ?_
            refine wc_region ?_
            refine wl_1 trivial rfl (do_move rfl) ?_
            refine wl_1 trivial rfl (do_fieldAddr (k := 1) (k' := 1) fo_34_1 rfl (by rfl)) ?_
            refine wl_1 trivial rfl (do_load 6 rfl one_9 rfl rfl) ?_
            refine wl_1 trivial rfl (do_lookup2N und_54 key_9 zero_9 7 rfl rfl rfl hw) ?_
            refine wl_1 trivial rfl (do_move rfl) ?_
            refine wl_1 trivial rfl (do_extract rfl rfl) ?_
            refine wl_1 trivial rfl (do_extract rfl rfl) ?_
            refine wl_1 trivial rfl (do_assign rfl) ?_
            refine wl_1 trivial rfl (do_assign rfl) ?_
            refine wl_nil ?_
            refine at_then ?_
            refine wc_seq ?_
            refine wc_seq ?_
            refine wc_region ?_
            refine wl_1 trivial rfl (do_move rfl) ?_
            refine wl_1 trivial rfl (do_cmp (c := false) rfl rfl rfl) ?_
            refine wl_1 trivial rfl (do_move rfl) ?_
            refine wl_no rfl rfl rfl rfl rfl ?_
            refine wl_no rfl rfl rfl rfl rfl ?_
            refine wl_no rfl rfl rfl rfl rfl ?_
            refine wl_noU rfl rfl rfl rfl ?_
            refine wl_noU rfl rfl rfl rfl ?_
            refine wl_noU rfl rfl rfl rfl ?_
            refine wl_noU rfl rfl rfl rfl ?_
            refine wl_noU rfl rfl rfl rfl ?_
            refine wl_noU rfl rfl rfl rfl ?_
            refine wl_no rfl rfl rfl rfl rfl ?_
            refine wl_1 trivial rfl (do_pickF rfl rfl) ?_
            refine wl_1 trivial rfl (do_move rfl) ?_
            refine wl_1 ⟨_, rfl, rfl⟩ rfl (do_move rfl) ?_
            refine wl_1 ⟨_, rfl, rfl⟩ rfl (do_cmp (c := true) rfl rfl rfl) ?_
            refine wl_1 ⟨_, rfl, rfl⟩ rfl (do_move rfl) ?_
            refine wl_1 ⟨_, rfl, rfl⟩ rfl (do_move rfl) ?_
            refine wl_1 ⟨_, rfl, rfl⟩ rfl (do_cmp (c := true) rfl rfl rfl) ?_
            refine wl_1 ⟨_, rfl, rfl⟩ rfl (do_pickT rfl rfl) ?_
            refine wl_1 ⟨_, rfl, rfl⟩ rfl (do_move rfl) ?_
            refine wl_1 ⟨_, rfl, rfl⟩ rfl (do_move rfl) ?_
            refine wl_1 ⟨_, rfl, rfl⟩ rfl (do_move rfl) ?_
            refine wl_1 ⟨_, rfl, rfl⟩ rfl (do_neBool isBool_4 rfl rfl) ?_
            refine wl_1 ⟨_, rfl, rfl⟩ rfl (do_move rfl) ?_
            refine wl_1 ⟨_, rfl, rfl⟩ rfl (do_move rfl) ?_
            refine wl_1 ⟨_, rfl, rfl⟩ rfl (do_move rfl) ?_
            refine wl_no rfl rfl rfl rfl rfl ?_
            refine wl_no rfl rfl rfl rfl rfl ?_
            refine wl_no rfl rfl rfl rfl rfl ?_
            refine wl_no rfl rfl rfl rfl rfl ?_
            refine wl_1 ⟨_, rfl, rfl⟩ rfl (do_pickF rfl rfl) ?_
            refine wl_1 ⟨_, rfl, rfl⟩ rfl (do_pickF rfl rfl) ?_
            refine wl_1 ⟨_, rfl, rfl⟩ rfl (do_pickT rfl rfl) ?_
            refine wl_1 trivial rfl (do_pickF rfl rfl) ?_
            refine wl_nil ?_
            refine at_then ?_
            refine wc_false rfl ?_
            refine wc_skip ?_
            refine at_then ?_
            refine wc_seq ?_
            refine wc_seq ?_
            refine wc_region ?_
            refine wl_1 trivial rfl (do_move rfl) ?_
            refine wl_1 trivial rfl (do_cmp (c := false) rfl rfl rfl) ?_
            refine wl_1 trivial rfl (do_move rfl) ?_
            refine wl_no rfl rfl rfl rfl rfl ?_
            refine wl_no rfl rfl rfl rfl rfl ?_
            refine wl_no rfl rfl rfl rfl rfl ?_
            refine wl_no rfl rfl rfl rfl rfl ?_
            refine wl_noU rfl rfl rfl rfl ?_
            refine wl_noU rfl rfl rfl rfl ?_
            refine wl_noU rfl rfl rfl rfl ?_
            refine wl_noU rfl rfl rfl rfl ?_
            refine wl_no rfl rfl rfl rfl rfl ?_
            refine wl_1 trivial rfl (do_pickF rfl rfl) ?_
            refine wl_1 trivial rfl (do_move rfl) ?_
            refine wl_no rfl rfl rfl rfl rfl ?_
            refine wl_no rfl rfl rfl rfl rfl ?_
            refine wl_no rfl rfl rfl rfl rfl ?_
            refine wl_noU rfl rfl rfl rfl ?_
            refine wl_noU rfl rfl rfl rfl ?_
            refine wl_noU rfl rfl rfl rfl ?_
            refine wl_noU rfl rfl rfl rfl ?_
            refine wl_noU rfl rfl rfl rfl ?_
            refine wl_noU rfl rfl rfl rfl ?_
            refine wl_no rfl rfl rfl rfl rfl ?_
            refine wl_1 trivial rfl (do_pickF rfl rfl) ?_
            refine wl_nil ?_
            refine at_then ?_
            refine wc_false rfl ?_
            refine wc_skip ?_
            refine at_then ?_
            refine wc_seq ?_
            refine wc_region ?_
            refine wl_1 trivial rfl (do_move rfl) ?_
            refine wl_nil ?_
            refine at_then ?_
            refine wc_false rfl ?_
            refine wc_skip ?_
            refine at_block ?_
            refine at_block ?_
            refine at_then ?_
            refine wc_region ?_
            refine wl_1 trivial rfl (do_move rfl) ?_
            refine wl_1 trivial rfl (do_add (r := ((i + 1 : Nat) : Int)) rfl rfl (wrap_nat (by omega) (by omega))) ?_
            refine wl_1 trivial rfl (do_assign rfl) ?_
            refine wl_nil ?_
            refine at_pick (M := [_, _, _, _, _, _, _]) [0, 1, 2, 3, 7, 5, 8] ⟨rfl, rfl, rfl, rfl, rfl, rfl, rfl, trivial⟩ (by decide) ?_
            have hphi : StOk s (i + 1) ∧ i + 1 ≤ 200 ∧ AO s (wt) := ⟨hst.more (Nat.le_succ i), by omega, hao⟩
            exact at_round (i + 1, s, v47, l48, wt) hphi (by show 200 - (i + 1) < 200 - i; omega) ⟨rfl, rfl, rfl, rfl, trivial⟩ rfl
          · skip
            have hl52 : aget (putO key bs (callS s).2.2).objs key = some bs := by rw [putO_get, if_pos rfl]
            refine wl_do trivial rfl (do_call (num_tri B 0) ⟨rfl, trivial⟩ enters_14 [] [0, 1, 2, 3, 4, 5, 6, 7] trivial ⟨rfl, rfl, rfl, rfl, rfl, rfl, rfl, rfl, trivial⟩ (R := [_, _, _, _, _, _, _, _]) (by decide)) ?_
            rintro _ _ ⟨_, ⟨rfl, rfl⟩, rfl⟩
            refine wl_1 trivial rfl (do_assign rfl) ?_
            refine wl_nil ?_
            refine at_then ?_
            refine wc_seq ?_
            refine wc_region ?_
            refine wl_1 trivial rfl (do_move rfl) ?_
            refine wl_1 trivial rfl (do_fieldAddr (k := 1) (k' := 1) fo_34_1 rfl (by rfl)) ?_
            refine wl_1 trivial rfl (do_load 5 rfl one_9 rfl rfl) ?_
            refine wl_do trivial rfl (do_call (look_some B b r v47 l48 (putO key bs (callS s).2.2) key ((hst.callPut key hbl)).ok bs hl52) ⟨rfl, rfl, trivial⟩ enters_20 [0, 1, 2, 3] [4, 5, 6, 7] ⟨rfl, rfl, rfl, rfl, trivial⟩ ⟨rfl, rfl, rfl, rfl, trivial⟩ (R := [_, _, _, _]) (by decide)) ?_
            rintro _ _ ⟨_, ⟨x53, rfl, rfl⟩, rfl⟩
            refine wl_1 trivial rfl (do_move rfl) ?_
            refine wl_1 trivial rfl (do_extract rfl rfl) ?_
            refine wl_1 trivial rfl (do_extract rfl rfl) ?_
            refine wl_1 trivial rfl (do_assign rfl) ?_
            refine wl_1 trivial rfl (do_assign rfl) ?_
            refine wl_nil ?_
            refine at_then ?_
            refine wc_seq ?_
            refine wc_region ?_
            refine wl_1 trivial rfl (do_move rfl) ?_
            refine wl_1 trivial rfl (do_fieldAddr (k := 1) (k' := 1) fo_34_1 rfl (by rfl)) ?_
            refine wl_1 trivial rfl (do_load 6 rfl one_9 rfl rfl) ?_
            refine wl_1 trivial rfl (do_lookup2N und_54 key_9 zero_9 7 rfl rfl rfl hw) ?_
            refine wl_1 trivial rfl (do_move rfl) ?_
            refine wl_1 trivial rfl (do_extract rfl rfl) ?_
            refine wl_1 trivial rfl (do_extract rfl rfl) ?_
            refine wl_1 trivial rfl (do_assign rfl) ?_
            refine wl_1 trivial rfl (do_assign rfl) ?_
            refine wl_nil ?_
            refine at_then ?_
            refine wc_seq ?_
            refine wc_seq ?_
            refine wc_region ?_
            refine wl_1 trivial rfl (do_move rfl) ?_
            refine wl_1 trivial rfl (do_cmp (c := true) rfl rfl rfl) ?_
            refine wl_1 trivial rfl (do_move rfl) ?_
            refine wl_1 ⟨_, rfl, rfl⟩ rfl (do_move rfl) ?_
            refine wl_1 ⟨_, rfl, rfl⟩ rfl (do_not (c := true) rfl) ?_
            refine wl_1 ⟨_, rfl, rfl⟩ rfl (do_move rfl) ?_
            refine wl_1 ⟨_, rfl, rfl⟩ rfl (do_move rfl) ?_
            refine wl_1 ⟨_, rfl, rfl⟩ rfl (do_convBS (R := row 5 1 x53 bs.length (byv bs)) (bs := bs) 4 und_32 und_5 und_9 rfl rfl row_R) ?_
            refine wl_1 ⟨_, rfl, rfl⟩ rfl (do_fieldAddr (k := 2) (k' := 2) fo_34_2 rfl (by rfl)) ?_
            refine wl_1 ⟨_, rfl, rfl⟩ rfl (do_load 6 rfl one_32 rfl rfl) ?_
            refine wl_1 ⟨_, rfl, rfl⟩ rfl (do_convBS (R := AnyP) (bs := bs) 5 und_32 und_5 und_9 rfl rfl hop.rd) ?_
            refine wl_1 ⟨_, rfl, rfl⟩ rfl (do_strcmp rfl rfl (str_same_neq _)) ?_
            refine wl_1 ⟨_, rfl, rfl⟩ rfl (do_pickF rfl rfl) ?_
            refine wl_1 trivial rfl (do_pickT rfl rfl) ?_
            refine wl_1 trivial rfl (do_move rfl) ?_
            refine wl_1 ⟨_, rfl, rfl⟩ rfl (do_move rfl) ?_
            refine wl_1 ⟨_, rfl, rfl⟩ rfl (do_cmp (c := false) rfl rfl rfl) ?_
            refine wl_1 ⟨_, rfl, rfl⟩ rfl (do_move rfl) ?_
            refine wl_no rfl rfl rfl rfl rfl ?_
            refine wl_no rfl rfl rfl rfl rfl ?_
            refine wl_1 ⟨_, rfl, rfl⟩ rfl (do_pickF rfl rfl) ?_
            refine wl_1 ⟨_, rfl, rfl⟩ rfl (do_move rfl) ?_
            refine wl_no rfl rfl rfl rfl rfl ?_
            refine wl_no rfl rfl rfl rfl rfl ?_
            refine wl_no rfl rfl rfl rfl rfl ?_
            refine wl_no rfl rfl rfl rfl rfl ?_
            refine wl_noU rfl rfl rfl rfl ?_
            refine wl_noU rfl rfl rfl rfl ?_
            refine wl_noU rfl rfl rfl rfl ?_
            refine wl_noU rfl rfl rfl rfl ?_
            refine wl_noU rfl rfl rfl rfl ?_
            refine wl_noU rfl rfl rfl rfl ?_
            refine wl_noU rfl rfl rfl rfl ?_
            refine wl_no rfl rfl rfl rfl rfl ?_
            refine wl_1 ⟨_, rfl, rfl⟩ rfl (do_pickF rfl rfl) ?_
            refine wl_1 trivial rfl (do_pickF rfl rfl) ?_
            refine wl_nil ?_
            refine at_then ?_
            refine wc_false rfl ?_
            refine wc_skip ?_
            refine at_then ?_
            refine wc_seq ?_
            refine wc_seq ?_
            refine wc_region ?_
            refine wl_1 trivial rfl (do_move rfl) ?_
            refine wl_1 trivial rfl (do_cmp (c := false) rfl rfl rfl) ?_
            refine wl_1 trivial rfl (do_move rfl) ?_
            refine wl_no rfl rfl rfl rfl rfl ?_
            refine wl_no rfl rfl rfl rfl rfl ?_
            refine wl_no rfl rfl rfl rfl rfl ?_
            refine wl_no rfl rfl rfl rfl rfl ?_
            refine wl_noU rfl rfl rfl rfl ?_
            refine wl_noU rfl rfl rfl rfl ?_
            refine wl_noU rfl rfl rfl rfl ?_
            refine wl_noU rfl rfl rfl rfl ?_
            refine wl_no rfl rfl rfl rfl rfl ?_
            refine wl_1 trivial rfl (do_pickF rfl rfl) ?_
            refine wl_1 trivial rfl (do_move rfl) ?_
            refine wl_no rfl rfl rfl rfl rfl ?_
            refine wl_no rfl rfl rfl rfl rfl ?_
            refine wl_no rfl rfl rfl rfl rfl ?_
            refine wl_noU rfl rfl rfl rfl ?_
            refine wl_noU rfl rfl rfl rfl ?_
            refine wl_noU rfl rfl rfl rfl ?_
            refine wl_noU rfl rfl rfl rfl ?_
            refine wl_noU rfl rfl rfl rfl ?_
            refine wl_noU rfl rfl rfl rfl ?_
            refine wl_no rfl rfl rfl rfl rfl ?_
            refine wl_1 trivial rfl (do_pickF rfl rfl) ?_
            refine wl_nil ?_
            refine at_then ?_
            refine wc_false rfl ?_
            refine wc_skip ?_
            refine at_then ?_
            refine wc_seq ?_
            refine wc_region ?_
            refine wl_1 trivial rfl (do_move rfl) ?_
            refine wl_nil ?_
            refine at_then ?_
            refine wc_true rfl ?_
            refine wc_region ?_
            refine wl_1 trivial rfl (do_move rfl) ?_
            refine wl_1 trivial rfl (do_fieldAddr (k := 1) (k' := 1) fo_34_1 rfl (by rfl)) ?_
            refine wl_1 trivial rfl (do_load 6 rfl one_9 rfl rfl) ?_
            refine wl_1 trivial rfl (do_move rfl) ?_
            refine wl_1 trivial rfl (do_convBS (R := row 5 1 x53 bs.length (byv bs)) (bs := bs) 4 und_32 und_5 und_9 rfl rfl row_R) ?_
            refine wl_1 trivial rfl (do_mapUpdate (L1 := [_, _, _, _, _, _, _]) und_54 key_9 rfl rfl rfl) ?_
            refine wl_nil ?_
            refine at_block ?_
            refine at_block ?_
            refine at_then ?_
            refine wc_region ?_
            refine wl_1 trivial rfl (do_move rfl) ?_
            refine wl_1 trivial rfl (do_add (r := ((i + 1 : Nat) : Int)) rfl rfl (wrap_nat (by omega) (by omega))) ?_
            refine wl_1 trivial rfl (do_assign rfl) ?_
            refine wl_nil ?_
            refine at_pick (M := [_, _, _, _, _, _, _]) [0, 1, 2, 3, 7, 5, 8] ⟨rfl, rfl, rfl, rfl, rfl, rfl, rfl, trivial⟩ (by decide) ?_
            rw [wv_put]
            have hphi : StOk (putO key bs (callS s).2.2) (i + 1) ∧ i + 1 ≤ 200 ∧ AO (putO key bs (callS s).2.2) (aput wt key (baOf bs)) := ⟨hst.callPut key hbl, by omega, hao.call.put key bs⟩
            exact at_round (i + 1, (putO key bs (callS s).2.2), v47, l48, aput wt key (baOf bs)) hphi (by show 200 - (i + 1) < 200 - i; omega) ⟨rfl, rfl, rfl, rfl, trivial⟩ rfl
          · skip
            have hl54 : aget (putO key bs (callS s).2.2).objs key = some bs := by rw [putO_get, if_pos rfl]
            refine wl_do trivial rfl (do_call (num_tri B 8) ⟨rfl, trivial⟩ enters_14 [] [0, 1, 2, 3, 4, 5, 6, 7] trivial ⟨rfl, rfl, rfl, rfl, rfl, rfl, rfl, rfl, trivial⟩ (R := [_, _, _, _, _, _, _, _]) (by decide)) ?_
            rintro _ _ ⟨_, ⟨rfl, rfl⟩, rfl⟩
            refine wl_1 trivial rfl (do_assign rfl) ?_
            refine wl_nil ?_
            refine at_then ?_
            refine wc_seq ?_
            refine wc_region ?_
            refine wl_1 trivial rfl (do_move rfl) ?_
            refine wl_1 trivial rfl (do_fieldAddr (k := 1) (k' := 1) fo_34_1 rfl (by rfl)) ?_
            refine wl_1 trivial rfl (do_load 5 rfl one_9 rfl rfl) ?_
            refine wl_do trivial rfl (do_call (look_some B b r v47 l48 (putO key bs (callS s).2.2) key ((hst.callPut key hbl)).ok bs hl54) ⟨rfl, rfl, trivial⟩ enters_20 [0, 1, 2, 3] [4, 5, 6, 7] ⟨rfl, rfl, rfl, rfl, trivial⟩ ⟨rfl, rfl, rfl, rfl, trivial⟩ (R := [_, _, _, _]) (by decide)) ?_
            rintro _ _ ⟨_, ⟨x55, rfl, rfl⟩, rfl⟩
            refine wl_1 trivial rfl (do_move rfl) ?_
            refine wl_1 trivial rfl (do_extract rfl rfl) ?_
            refine wl_1 trivial rfl (do_extract rfl rfl) ?_
            refine wl_1 trivial rfl (do_assign rfl) ?_
            refine wl_1 trivial rfl (do_assign rfl) ?_
            refine wl_nil ?_
            refine at_then ?_
            refine wc_seq ?_
            refine wc_region ?_
            refine wl_1 trivial rfl (do_move rfl) ?_
            refine wl_1 trivial rfl (do_fieldAddr (k := 1) (k' := 1) fo_34_1 rfl (by rfl)) ?_
            refine wl_1 trivial rfl (do_load 6 rfl one_9 rfl rfl) ?_
            refine wl_1 trivial rfl (do_lookup2N und_54 key_9 zero_9 7 rfl rfl rfl hw) ?_
            refine wl_1 trivial rfl (do_move rfl) ?_
            refine wl_1 trivial rfl (do_extract rfl rfl) ?_
            refine wl_1 trivial rfl (do_extract rfl rfl) ?_
            refine wl_1 trivial rfl (do_assign rfl) ?_
            refine wl_1 trivial rfl (do_assign rfl) ?_
            refine wl_nil ?_
            refine at_then ?_
            refine wc_seq ?_
            refine wc_seq ?_
            refine wc_region ?_
            refine wl_1 trivial rfl (do_move rfl) ?_
            refine wl_1 trivial rfl (do_cmp (c := false) rfl rfl rfl) ?_
            refine wl_1 trivial rfl (do_move rfl) ?_
            refine wl_no rfl rfl rfl rfl rfl ?_
            refine wl_no rfl rfl rfl rfl rfl ?_
            refine wl_no rfl rfl rfl rfl rfl ?_
            refine wl_noU rfl rfl rfl rfl ?_
            refine wl_noU rfl rfl rfl rfl ?_
            refine wl_noU rfl rfl rfl rfl ?_
            refine wl_noU rfl rfl rfl rfl ?_
            refine wl_noU rfl rfl rfl rfl ?_
            refine wl_noU rfl rfl rfl rfl ?_
            refine wl_no rfl rfl rfl rfl rfl ?_
            refine wl_1 trivial rfl (do_pickF rfl rfl) ?_
            refine wl_1 trivial rfl (do_move rfl) ?_
            refine wl_1 ⟨_, rfl, rfl⟩ rfl (do_move rfl) ?_
            refine wl_1 ⟨_, rfl, rfl⟩ rfl (do_cmp (c := true) rfl rfl rfl) ?_
            refine wl_1 ⟨_, rfl, rfl⟩ rfl (do_move rfl) ?_
            refine wl_1 ⟨_, rfl, rfl⟩ rfl (do_move rfl) ?_
            refine wl_1 ⟨_, rfl, rfl⟩ rfl (do_cmp (c := false) rfl rfl rfl) ?_
            refine wl_1 ⟨_, rfl, rfl⟩ rfl (do_pickT rfl rfl) ?_
            refine wl_1 ⟨_, rfl, rfl⟩ rfl (do_move rfl) ?_
            refine wl_no rfl rfl rfl rfl rfl ?_
            refine wl_no rfl rfl rfl rfl rfl ?_
            refine wl_no rfl rfl rfl rfl rfl ?_
            refine wl_no rfl rfl rfl rfl rfl ?_
            refine wl_noU rfl rfl rfl rfl ?_
            refine wl_noU rfl rfl rfl rfl ?_
            refine wl_noU rfl rfl rfl rfl ?_
            refine wl_noU rfl rfl rfl rfl ?_
            refine wl_noU rfl rfl rfl rfl ?_
            refine wl_noU rfl rfl rfl rfl ?_
            refine wl_noU rfl rfl rfl rfl ?_
            refine wl_no rfl rfl rfl rfl rfl ?_
            refine wl_1 ⟨_, rfl, rfl⟩ rfl (do_pickF rfl rfl) ?_
            refine wl_1 trivial rfl (do_pickF rfl rfl) ?_
            refine wl_nil ?_
            refine at_then ?_
            refine wc_false rfl ?_
            refine wc_skip ?_
            refine at_then ?_
            refine wc_seq ?_
            refine wc_seq ?_
            refine wc_region ?_
            refine wl_1 trivial rfl (do_move rfl) ?_
            refine wl_1 trivial rfl (do_cmp (c := true) rfl rfl rfl) ?_
            refine wl_1 trivial rfl (do_move rfl) ?_
            refine wl_1 ⟨_, rfl, rfl⟩ rfl (do_move rfl) ?_
            refine wl_1 ⟨_, rfl, rfl⟩ rfl (do_move rfl) ?_
            refine wl_1 ⟨_, rfl, rfl⟩ rfl (do_neBool isBool_4 rfl rfl) ?_
            refine wl_1 ⟨_, rfl, rfl⟩ rfl (do_move rfl) ?_
            refine wl_no rfl rfl rfl rfl rfl ?_
            refine wl_no rfl rfl rfl rfl rfl ?_
            refine wl_no rfl rfl rfl rfl rfl ?_
            refine wl_no rfl rfl rfl rfl rfl ?_
            refine wl_1 ⟨_, rfl, rfl⟩ rfl (do_pickT rfl rfl) ?_
            refine wl_1 trivial rfl (do_pickT rfl rfl) ?_
            refine wl_1 trivial rfl (do_move rfl) ?_
            refine wl_1 ⟨_, rfl, rfl⟩ rfl (do_move rfl) ?_
            refine wl_1 ⟨_, rfl, rfl⟩ rfl (do_not (c := true) rfl) ?_
            refine wl_1 ⟨_, rfl, rfl⟩ rfl (do_move rfl) ?_
            refine wl_1 ⟨_, rfl, rfl⟩ rfl (do_move rfl) ?_
            refine wl_1 ⟨_, rfl, rfl⟩ rfl (do_convBS (R := row 5 1 x55 bs.length (byv bs)) (bs := bs) 4 und_32 und_5 und_9 rfl rfl row_R) ?_
            refine wl_1 ⟨_, rfl, rfl⟩ rfl (do_fieldAddr (k := 2) (k' := 2) fo_34_2 rfl (by rfl)) ?_
            refine wl_1 ⟨_, rfl, rfl⟩ rfl (do_load 6 rfl one_32 rfl rfl) ?_
            refine wl_1 ⟨_, rfl, rfl⟩ rfl (do_convBS (R := AnyP) (bs := bs) 5 und_32 und_5 und_9 rfl rfl hop.rd) ?_
            refine wl_1 ⟨_, rfl, rfl⟩ rfl (do_strcmp rfl rfl (str_same_neq _)) ?_
            refine wl_1 ⟨_, rfl, rfl⟩ rfl (do_pickF rfl rfl) ?_
            refine wl_1 trivial rfl (do_pickT rfl rfl) ?_
            refine wl_nil ?_
            refine at_then ?_
            refine wc_false rfl ?_
            refine wc_skip ?_
            refine at_then ?_
            refine wc_seq ?_
            refine wc_region ?_
            refine wl_1 trivial rfl (do_move rfl) ?_
            refine wl_nil ?_
            refine at_then ?_
            refine wc_true rfl ?_
            refine wc_region ?_
            refine wl_1 trivial rfl (do_move rfl) ?_
            refine wl_1 trivial rfl (do_fieldAddr (k := 1) (k' := 1) fo_34_1 rfl (by rfl)) ?_
            refine wl_1 trivial rfl (do_load 6 rfl one_9 rfl rfl) ?_
            refine wl_1 trivial rfl (do_move rfl) ?_
            refine wl_1 trivial rfl (do_convBS (R := row 5 1 x55 bs.length (byv bs)) (bs := bs) 4 und_32 und_5 und_9 rfl rfl row_R) ?_
            refine wl_1 trivial rfl (do_mapUpdate (L1 := [_, _, _, _, _, _, _]) und_54 key_9 rfl rfl rfl) ?_
            refine wl_nil ?_
            refine at_block ?_
            refine at_block ?_
            refine at_then ?_
            refine wc_region ?_
            refine wl_1 trivial rfl (do_move rfl) ?_
            refine wl_1 trivial rfl (do_add (r := ((i + 1 : Nat) : Int)) rfl rfl (wrap_nat (by omega) (by omega))) ?_
            refine wl_1 trivial rfl (do_assign rfl) ?_
            refine wl_nil ?_
            refine at_pick (M := [_, _, _, _, _, _, _]) [0, 1, 2, 3, 7, 5, 8] ⟨rfl, rfl, rfl, rfl, rfl, rfl, rfl, trivial⟩ (by decide) ?_
            rw [wv_put]
            have hphi : StOk (putO key bs (callS s).2.2) (i + 1) ∧ i + 1 ≤ 200 ∧ AO (putO key bs (callS s).2.2) (aput wt key (baOf bs)) := ⟨hst.callPut key hbl, by omega, hao.call.put key bs⟩
            exact at_round (i + 1, (putO key bs (callS s).2.2), v47, l48, aput wt key (baOf bs)) hphi (by show 200 - (i + 1) < 200 - i; omega) ⟨rfl, rfl, rfl, rfl, trivial⟩ rfl
          · skip
            have hl56 : aget (callS s).2.2.objs key = none := by rw [callS_objs]; exact hg45
            refine wl_do trivial rfl (do_call (num_tri B 8) ⟨rfl, trivial⟩ enters_14 [] [0, 1, 2, 3, 4, 5, 6, 7] trivial ⟨rfl, rfl, rfl, rfl, rfl, rfl, rfl, rfl, trivial⟩ (R := [_, _, _, _, _, _, _, _]) (by decide)) ?_
            rintro _ _ ⟨_, ⟨rfl, rfl⟩, rfl⟩
            refine wl_1 trivial rfl (do_assign rfl) ?_
            refine wl_nil ?_
            refine at_then ?_
            refine wc_seq ?_
            refine wc_region ?_
            refine wl_1 trivial rfl (do_move rfl) ?_
            refine wl_1 trivial rfl (do_fieldAddr (k := 1) (k' := 1) fo_34_1 rfl (by rfl)) ?_
            refine wl_1 trivial rfl (do_load 5 rfl one_9 rfl rfl) ?_
            refine wl_do trivial rfl (do_call (look_none B b r v47 l48 (callS s).2.2 key ((hst.call)).ok hl56) ⟨rfl, rfl, trivial⟩ enters_20 [0, 1, 2, 3] [4, 5, 6, 7] ⟨rfl, rfl, rfl, rfl, trivial⟩ ⟨rfl, rfl, rfl, rfl, trivial⟩ (R := [_, _, _, _]) (by decide)) ?_
            rintro _ _ ⟨_, ⟨x57, rfl, rfl⟩, rfl⟩
            refine wl_1 trivial rfl (do_move rfl) ?_
            refine wl_1 trivial rfl (do_extract rfl rfl) ?_
            refine wl_1 trivial rfl (do_extract rfl rfl) ?_
            refine wl_1 trivial rfl (do_assign rfl) ?_
            refine wl_1 trivial rfl (do_assign rfl) ?_
            refine wl_nil ?_
            refine at_then ?_
            refine wc_seq ?_
            refine wc_region ?_
            refine wl_1 trivial rfl (do_move rfl) ?_
            refine wl_1 trivial rfl (do_fieldAddr (k := 1) (k' := 1) fo_34_1 rfl (by rfl)) ?_
            refine wl_1 trivial rfl (do_load 6 rfl one_9 rfl rfl) ?_
            refine wl_1 trivial rfl (do_lookup2N und_54 key_9 zero_9 7 rfl rfl rfl hw) ?_
            refine wl_1 trivial rfl (do_move rfl) ?_
            refine wl_1 trivial rfl (do_extract rfl rfl) ?_
            refine wl_1 trivial rfl (do_extract rfl rfl) ?_
            refine wl_1 trivial rfl (do_assign rfl) ?_
            refine wl_1 trivial rfl (do_assign rfl) ?_
            refine wl_nil ?_
            refine at_then ?_
            refine wc_seq ?_
            refine wc_seq ?_
            refine wc_region ?_
            refine wl_1 trivial rfl (do_move rfl) ?_
            refine wl_1 trivial rfl (do_cmp (c := false) rfl rfl rfl) ?_
            refine wl_1 trivial rfl (do_move rfl) ?_
            refine wl_no rfl rfl rfl rfl rfl ?_
            refine wl_no rfl rfl rfl rfl rfl ?_
            refine wl_no rfl rfl rfl rfl rfl ?_
            refine wl_noU rfl rfl rfl rfl ?_
            refine wl_noU rfl rfl rfl rfl ?_
            refine wl_noU rfl rfl rfl rfl ?_
            refine wl_noU rfl rfl rfl rfl ?_
            refine wl_noU rfl rfl rfl rfl ?_
            refine wl_noU rfl rfl rfl rfl ?_
            refine wl_no rfl rfl rfl rfl rfl ?_
            refine wl_1 trivial rfl (do_pickF rfl rfl) ?_
            refine wl_1 trivial rfl (do_move rfl) ?_
            refine wl_1 ⟨_, rfl, rfl⟩ rfl (do_move rfl) ?_
            refine wl_1 ⟨_, rfl, rfl⟩ rfl (do_cmp (c := true) rfl rfl rfl) ?_
            refine wl_1 ⟨_, rfl, rfl⟩ rfl (do_move rfl) ?_
            refine wl_1 ⟨_, rfl, rfl⟩ rfl (do_move rfl) ?_
            refine wl_1 ⟨_, rfl, rfl⟩ rfl (do_cmp (c := false) rfl rfl rfl) ?_
            refine wl_1 ⟨_, rfl, rfl⟩ rfl (do_pickT rfl rfl) ?_
            refine wl_1 ⟨_, rfl, rfl⟩ rfl (do_move rfl) ?_
            refine wl_no rfl rfl rfl rfl rfl ?_
            refine wl_no rfl rfl rfl rfl rfl ?_
            refine wl_no rfl rfl rfl rfl rfl ?_
            refine wl_no rfl rfl rfl rfl rfl ?_
            refine wl_noU rfl rfl rfl rfl ?_
            refine wl_noU rfl rfl rfl rfl ?_
            refine wl_noU rfl rfl rfl rfl ?_
            refine wl_noU rfl rfl rfl rfl ?_
            refine wl_noU rfl rfl rfl rfl ?_
            refine wl_noU rfl rfl rfl rfl ?_
            refine wl_noU rfl rfl rfl rfl ?_
            refine wl_no rfl rfl rfl rfl rfl ?_
            refine wl_1 ⟨_, rfl, rfl⟩ rfl (do_pickF rfl rfl) ?_
            refine wl_1 trivial rfl (do_pickF rfl rfl) ?_
            refine wl_nil ?_
            refine at_then ?_
            refine wc_false rfl ?_
            refine wc_skip ?_
            refine at_then ?_
            refine wc_seq ?_
            refine wc_seq ?_
            refine wc_region ?_
            refine wl_1 trivial rfl (do_move rfl) ?_
            refine wl_1 trivial rfl (do_cmp (c := true) rfl rfl rfl) ?_
            refine wl_1 trivial rfl (do_move rfl) ?_
            refine wl_1 ⟨_, rfl, rfl⟩ rfl (do_move rfl) ?_
            refine wl_1 ⟨_, rfl, rfl⟩ rfl (do_move rfl) ?_
            refine wl_1 ⟨_, rfl, rfl⟩ rfl (do_neBool isBool_4 rfl rfl) ?_
            refine wl_1 ⟨_, rfl, rfl⟩ rfl (do_move rfl) ?_
            refine wl_1 ⟨_, rfl, rfl⟩ rfl (do_move rfl) ?_
            refine wl_1 ⟨_, rfl, rfl⟩ rfl (do_convBS (R := row 5 1 x57 0 (byv [])) (bs := ([])) 4 und_32 und_5 und_9 rfl rfl row_R) ?_
            refine wl_1 ⟨_, rfl, rfl⟩ rfl (do_move rfl) ?_
            refine wl_1 ⟨_, rfl, rfl⟩ rfl (do_strcmp rfl rfl (str_same_neq _)) ?_
            refine wl_1 ⟨_, rfl, rfl⟩ rfl (do_pickF rfl rfl) ?_
            refine wl_1 trivial rfl (do_pickT rfl rfl) ?_
            refine wl_1 trivial rfl (do_move rfl) ?_
            refine wl_no rfl rfl rfl rfl rfl ?_
            refine wl_no rfl rfl rfl rfl rfl ?_
            refine wl_no rfl rfl rfl rfl rfl ?_
            refine wl_noU rfl rfl rfl rfl ?_
            refine wl_noU rfl rfl rfl rfl ?_
            refine wl_noU rfl rfl rfl rfl ?_
            refine wl_noU rfl rfl rfl rfl ?_
            refine wl_noU rfl rfl rfl rfl ?_
            refine wl_noU rfl rfl rfl rfl ?_
            refine wl_no rfl rfl rfl rfl rfl ?_
            refine wl_1 trivial rfl (do_pickF rfl rfl) ?_
            refine wl_nil ?_
            refine at_then ?_
            refine wc_false rfl ?_
            refine wc_skip ?_
            refine at_then ?_
            refine wc_seq ?_
            refine wc_region ?_
            refine wl_1 trivial rfl (do_move rfl) ?_
            refine wl_nil ?_
            refine at_then ?_
            refine wc_false rfl ?_
            refine wc_skip ?_
            refine at_block ?_
            refine at_block ?_
            refine at_then ?_
            refine wc_region ?_
            refine wl_1 trivial rfl (do_move rfl) ?_
            refine wl_1 trivial rfl (do_add (r := ((i + 1 : Nat) : Int)) rfl rfl (wrap_nat (by omega) (by omega))) ?_
            refine wl_1 trivial rfl (do_assign rfl) ?_
            refine wl_nil ?_
            refine at_pick (M := [_, _, _, _, _, _, _]) [0, 1, 2, 3, 7, 5, 8] ⟨rfl, rfl, rfl, rfl, rfl, rfl, rfl, trivial⟩ (by decide) ?_
            have hphi : StOk (callS s).2.2 (i + 1) ∧ i + 1 ≤ 200 ∧ AO (callS s).2.2 (wt) := ⟨hst.call, by omega, hao.call⟩
            exact at_round (i + 1, (callS s).2.2, v47, l48, wt) hphi (by show 200 - (i + 1) < 200 - i; omega) ⟨rfl, rfl, rfl, rfl, trivial⟩ rfl
        · skip
          have hw : aget (wv wt) key = some (.string ⟨(v46).toArray⟩) := by rw [wv_get, hao.ag, hg45]; rfl
          refine wl_do trivial rfl (do_call (put_alts B b r v lv s key a2 cap2 bs AnyP (i) (hst) (by omega) hop.key hop.rd) ⟨rfl, rfl, rfl, trivial⟩ enters_21 [1, 2, 3, 4, 6] [0, 5, 7] ⟨rfl, rfl, rfl, rfl, rfl, trivial⟩ ⟨rfl, rfl, rfl, trivial⟩ (R := [_, _, _]) (by decide)) ?_
          rintro _ _ ⟨_, (⟨_, v58, l59, (rfl | rfl | rfl), rfl, rfl⟩ | ⟨_, v58, l59, (rfl | rfl), hbl, rfl, rfl⟩ | ⟨v58, l59, rfl, rfl⟩), rfl⟩
          · skip
            refine wl_do trivial rfl (do_call (num_tri B 1) ⟨rfl, trivial⟩ enters_14 [] [0, 1, 2, 3, 4, 5, 6, 7] trivial ⟨rfl, rfl, rfl, rfl, rfl, rfl, rfl, rfl, trivial⟩ (R := [_, _, _, _, _, _, _, _]) (by decide)) ?_
            rintro _ _ ⟨_, ⟨rfl, rfl⟩, rfl⟩
            refine wl_1 trivial rfl (do_assign rfl) ?_
            refine wl_nil ?_
            refine at_then ?_
            refine wc_seq ?_
            refine wc_region ?_
            refine wl_1 trivial rfl (do_move rfl) ?_
            refine wl_1 trivial rfl (do_fieldAddr (k := 1) (k' := 1) fo_34_1 rfl (by rfl)) ?_
            refine wl_1 trivial rfl (do_load 5 rfl one_9 rfl rfl) ?_
            refine wl_do trivial rfl (do_call (look_some B b r v58 l59 s key (hst).ok v46 hg45) ⟨rfl, rfl, trivial⟩ enters_20 [0, 1, 2, 3] [4, 5, 6, 7] ⟨rfl, rfl, rfl, rfl, trivial⟩ ⟨rfl, rfl, rfl, rfl, trivial⟩ (R := [_, _, _, _]) (by decide)) ?_
            rintro _ _ ⟨_, ⟨x60, rfl, rfl⟩, rfl⟩
            refine wl_1 trivial rfl (do_move rfl) ?_
            refine wl_1 trivial rfl (do_extract rfl rfl) ?_
            refine wl_1 trivial rfl (do_extract rfl rfl) ?_
            refine wl_1 trivial rfl (do_assign rfl) ?_
            refine wl_1 trivial rfl (do_assign rfl) ?_
            refine wl_nil ?_
            refine at_then ?_
            refine wc_seq ?_
            refine wc_region ?_
            refine wl_1 trivial rfl (do_move rfl) ?_
            refine wl_1 trivial rfl (do_fieldAddr (k := 1) (k' := 1) fo_34_1 rfl (by rfl)) ?_
            refine wl_1 trivial rfl (do_load 6 rfl one_9 rfl rfl) ?_
            refine wl_1 trivial rfl (do_lookup2S und_54 key_9 zero_9 7 rfl rfl rfl hw) ?_
            refine wl_1 trivial rfl (do_move rfl) ?_
            refine wl_1 trivial rfl (do_extract rfl rfl) ?_
            refine wl_1 trivial rfl (do_extract rfl rfl) ?_
            refine wl_1 trivial rfl (do_assign rfl) ?_
            refine wl_1 trivial rfl (do_assign rfl) ?_
            refine wl_nil ?_
            refine at_then ?_
            refine wc_seq ?_
            refine wc_seq ?_
            refine wc_region ?_
            refine wl_1 trivial rfl (do_move rfl) ?_
            refine wl_1 trivial rfl (do_cmp (c := false) rfl rfl rfl) ?_
            refine wl_1 trivial rfl (do_move rfl) ?_
            refine wl_no rfl rfl rfl rfl rfl ?_
            refine wl_no rfl rfl rfl rfl rfl ?_
            refine wl_no rfl rfl rfl rfl rfl ?_
            refine wl_noU rfl rfl rfl rfl ?_
            refine wl_noU rfl rfl rfl rfl ?_
            refine wl_noU rfl rfl rfl rfl ?_
            refine wl_noU rfl rfl rfl rfl ?_
            refine wl_noU rfl rfl rfl rfl ?_
            refine wl_noU rfl rfl rfl rfl ?_
            refine wl_no rfl rfl rfl rfl rfl ?_
            refine wl_1 trivial rfl (do_pickF rfl rfl) ?_
            refine wl_1 trivial rfl (do_move rfl) ?_
            refine wl_1 ⟨_, rfl, rfl⟩ rfl (do_move rfl) ?_
            refine wl_1 ⟨_, rfl, rfl⟩ rfl (do_cmp (c := true) rfl rfl rfl) ?_
            refine wl_1 ⟨_, rfl, rfl⟩ rfl (do_move rfl) ?_
            refine wl_1 ⟨_, rfl, rfl⟩ rfl (do_move rfl) ?_
            refine wl_1 ⟨_, rfl, rfl⟩ rfl (do_cmp (c := true) rfl rfl rfl) ?_
            refine wl_1 ⟨_, rfl, rfl⟩ rfl (do_pickT rfl rfl) ?_
            refine wl_1 ⟨_, rfl, rfl⟩ rfl (do_move rfl) ?_
            refine wl_1 ⟨_, rfl, rfl⟩ rfl (do_move rfl) ?_
            refine wl_1 ⟨_, rfl, rfl⟩ rfl (do_move rfl) ?_
            refine wl_1 ⟨_, rfl, rfl⟩ rfl (do_neBool isBool_4 rfl rfl) ?_
            refine wl_1 ⟨_, rfl, rfl⟩ rfl (do_move rfl) ?_
            refine wl_1 ⟨_, rfl, rfl⟩ rfl (do_move rfl) ?_
            refine wl_1 ⟨_, rfl, rfl⟩ rfl (do_move rfl) ?_
            refine wl_1 ⟨_, rfl, rfl⟩ rfl (do_move rfl) ?_
            refine wl_1 ⟨_, rfl, rfl⟩ rfl (do_convBS (R := row 5 1 x60 v46.length (byv v46)) (bs := v46) 4 und_32 und_5 und_9 rfl rfl row_R) ?_
            refine wl_1 ⟨_, rfl, rfl⟩ rfl (do_move rfl) ?_
            refine wl_1 ⟨_, rfl, rfl⟩ rfl (do_strcmp rfl rfl (str_same_neq _)) ?_
            refine wl_1 ⟨_, rfl, rfl⟩ rfl (do_pickT rfl rfl) ?_
            refine wl_1 ⟨_, rfl, rfl⟩ rfl (do_pickF rfl rfl) ?_
            refine wl_1 ⟨_, rfl, rfl⟩ rfl (do_pickT rfl rfl) ?_
            refine wl_1 trivial rfl (do_pickF rfl rfl) ?_
            refine wl_nil ?_
            refine at_then ?_
            refine wc_false rfl ?_
            refine wc_skip ?_
            refine at_then ?_
            refine wc_seq ?_
            refine wc_seq ?_
            refine wc_region ?_
            refine wl_1 trivial rfl (do_move rfl) ?_
            refine wl_1 trivial rfl (do_cmp (c := false) rfl rfl rfl) ?_
            refine wl_1 trivial rfl (do_move rfl) ?_
            refine wl_no rfl rfl rfl rfl rfl ?_
            refine wl_no rfl rfl rfl rfl rfl ?_
            refine wl_no rfl rfl rfl rfl rfl ?_
            refine wl_no rfl rfl rfl rfl rfl ?_
            refine wl_noU rfl rfl rfl rfl ?_
            refine wl_noU rfl rfl rfl rfl ?_
            refine wl_noU rfl rfl rfl rfl ?_
            refine wl_noU rfl rfl rfl rfl ?_
            refine wl_no rfl rfl rfl rfl rfl ?_
            refine wl_1 trivial rfl (do_pickF rfl rfl) ?_
            refine wl_1 trivial rfl (do_move rfl) ?_
            refine wl_no rfl rfl rfl rfl rfl ?_
            refine wl_no rfl rfl rfl rfl rfl ?_
            refine wl_no rfl rfl rfl rfl rfl ?_
            refine wl_noU rfl rfl rfl rfl ?_
            refine wl_noU rfl rfl rfl rfl ?_
            refine wl_noU rfl rfl rfl rfl ?_
            refine wl_noU rfl rfl rfl rfl ?_
            refine wl_noU rfl rfl rfl rfl ?_
            refine wl_noU rfl rfl rfl rfl ?_
            refine wl_no rfl rfl rfl rfl rfl ?_
            refine wl_1 trivial rfl (do_pickF rfl rfl) ?_
            refine wl_nil ?_
            refine at_then ?_
            refine wc_false rfl ?_
            refine wc_skip ?_
            refine at_then ?_
            refine wc_seq ?_
            refine wc_region ?_
            refine wl_1 trivial rfl (do_move rfl) ?_
            refine wl_nil ?_
            refine at_then ?_
            refine wc_true rfl ?_
            refine wc_region ?_
            refine wl_1 trivial rfl (do_move rfl) ?_
            refine wl_1 trivial rfl (do_fieldAddr (k := 1) (k' := 1) fo_34_1 rfl (by rfl)) ?_
            refine wl_1 trivial rfl (do_load 6 rfl one_9 rfl rfl) ?_
            refine wl_1 trivial rfl (do_move rfl) ?_
            refine wl_1 trivial rfl (do_convBS (R := row 5 1 x60 v46.length (byv v46)) (bs := v46) 4 und_32 und_5 und_9 rfl rfl row_R) ?_
            refine wl_1 trivial rfl (do_mapUpdate (L1 := [_, _, _, _, _, _, _]) und_54 key_9 rfl rfl rfl) ?_
            refine wl_nil ?_
            refine at_block ?_
            refine at_block ?_
            refine at_then ?_
            refine wc_region ?_
            refine wl_1 trivial rfl (do_move rfl) ?_
            refine wl_1 trivial rfl (do_add (r := ((i + 1 : Nat) : Int)) rfl rfl (wrap_nat (by omega) (by omega))) ?_
            refine wl_1 trivial rfl (do_assign rfl) ?_
            refine wl_nil ?_
            refine at_pick (M := [_, _, _, _, _, _, _]) [0, 1, 2, 3, 7, 5, 8] ⟨rfl, rfl, rfl, rfl, rfl, rfl, rfl, trivial⟩ (by decide) ?_
            rw [wv_put]
            have hphi : StOk s (i + 1) ∧ i + 1 ≤ 200 ∧ AO s (aput wt key (baOf v46)) := ⟨hst.more (Nat.le_succ i), by omega, hao.again hg45⟩
            exact at_round (i + 1, s, v58, l59, aput wt key (baOf v46)) hphi (by show 200 - (i + 1) < 200 - i; omega) ⟨rfl, rfl, rfl, rfl, trivial⟩ rfl
          · skip
            refine wl_do trivial rfl (do_call (num_tri B 6) ⟨rfl, trivial⟩ enters_14 [] [0, 1, 2, 3, 4, 5, 6, 7] trivial ⟨rfl, rfl, rfl, rfl, rfl, rfl, rfl, rfl, trivial⟩ (R := [_, _, _, _, _, _, _, _]) (by decide)) ?_
            rintro _ _ ⟨_, ⟨rfl, rfl⟩, rfl⟩
            refine wl_1 trivial rfl (do_assign rfl) ?_
            refine wl_nil ?_
            refine at_then ?_
            refine wc_seq ?_
            refine wc_region ?_
            refine wl_1 trivial rfl (do_move rfl) ?_
            refine wl_1 trivial rfl (do_fieldAddr (k := 1) (k' := 1) fo_34_1 rfl (by rfl)) ?_
            refine wl_1 trivial rfl (do_load 5 rfl one_9 rfl rfl) ?_
            refine wl_do trivial rfl (do_call (look_some B b r v58 l59 s key (hst).ok v46 hg45) ⟨rfl, rfl, trivial⟩ enters_20 [0, 1, 2, 3] [4, 5, 6, 7] ⟨rfl, rfl, rfl, rfl, trivial⟩ ⟨rfl, rfl, rfl, rfl, trivial⟩ (R := [_, _, _, _]) (by decide)) ?_
            rintro _ _ ⟨_, ⟨x61, rfl, rfl⟩, rfl⟩
            refine wl_1 trivial rfl (do_move rfl) ?_
            refine wl_1 trivial rfl (do_extract rfl rfl) ?_
            refine wl_1 trivial rfl (do_extract rfl rfl) ?_
            refine wl_1 trivial rfl (do_assign rfl) ?_
            refine wl_1 trivial rfl (do_assign rfl) ?_
            refine wl_nil ?_
            refine at_then ?_
            refine wc_seq ?_
            refine wc_region ?_
            refine wl_1 trivial rfl (do_move rfl) ?_
            refine wl_1 trivial rfl (do_fieldAddr (k := 1) (k' := 1) fo_34_1 rfl (by rfl)) ?_
            refine wl_1 trivial rfl (do_load 6 rfl one_9 rfl rfl) ?_
            refine wl_1 trivial rfl (do_lookup2S und_54 key_9 zero_9 7 rfl rfl rfl hw) ?_
            refine wl_1 trivial rfl (do_move rfl) ?_
            refine wl_1 trivial rfl (do_extract rfl rfl) ?_
            refine wl_1 trivial rfl (do_extract rfl rfl) ?_
            refine wl_1 trivial rfl (do_assign rfl) ?_
            refine wl_1 trivial rfl (do_assign rfl) ?_
            refine wl_nil ?_
            refine at_then ?_
            refine wc_seq ?_
            refine wc_seq ?_
            refine wc_region ?_
            refine wl_1 trivial rfl (do_move rfl) ?_
            refine wl_1 trivial rfl (do_cmp (c := false) rfl rfl rfl) ?_
            refine wl_1 trivial rfl (do_move rfl) ?_
            refine wl_no rfl rfl rfl rfl rfl ?_
            refine wl_no rfl rfl rfl rfl rfl ?_
            refine wl_no rfl rfl rfl rfl rfl ?_
            refine wl_noU rfl rfl rfl rfl ?_
            refine wl_noU rfl rfl rfl rfl ?_
            refine wl_noU rfl rfl rfl rfl ?_
            refine wl_noU rfl rfl rfl rfl ?_
            refine wl_noU rfl rfl rfl rfl ?_
            refine wl_noU rfl rfl rfl rfl ?_
            refine wl_no rfl rfl rfl rfl rfl ?_
            refine wl_1 trivial rfl (do_pickF rfl rfl) ?_
            refine wl_1 trivial rfl (do_move rfl) ?_
            refine wl_1 ⟨_, rfl, rfl⟩ rfl (do_move rfl) ?_
            refine wl_1 ⟨_, rfl, rfl⟩ rfl (do_cmp (c := true) rfl rfl rfl) ?_
            refine wl_1 ⟨_, rfl, rfl⟩ rfl (do_move rfl) ?_
            refine wl_1 ⟨_, rfl, rfl⟩ rfl (do_move rfl) ?_
            refine wl_1 ⟨_, rfl, rfl⟩ rfl (do_cmp (c := true) rfl rfl rfl) ?_
            refine wl_1 ⟨_, rfl, rfl⟩ rfl (do_pickT rfl rfl) ?_
            refine wl_1 ⟨_, rfl, rfl⟩ rfl (do_move rfl) ?_
            refine wl_1 ⟨_, rfl, rfl⟩ rfl (do_move rfl) ?_
            refine wl_1 ⟨_, rfl, rfl⟩ rfl (do_move rfl) ?_
            refine wl_1 ⟨_, rfl, rfl⟩ rfl (do_neBool isBool_4 rfl rfl) ?_
            refine wl_1 ⟨_, rfl, rfl⟩ rfl (do_move rfl) ?_
            refine wl_1 ⟨_, rfl, rfl⟩ rfl (do_move rfl) ?_
            refine wl_1 ⟨_, rfl, rfl⟩ rfl (do_move rfl) ?_
            refine wl_1 ⟨_, rfl, rfl⟩ rfl (do_move rfl) ?_
            refine wl_1 ⟨_, rfl, rfl⟩ rfl (do_convBS (R := row 5 1 x61 v46.length (byv v46)) (bs := v46) 4 und_32 und_5 und_9 rfl rfl row_R) ?_
            refine wl_1 ⟨_, rfl, rfl⟩ rfl (do_move rfl) ?_
            refine wl_1 ⟨_, rfl, rfl⟩ rfl (do_strcmp rfl rfl (str_same_neq _)) ?_
            refine wl_1 ⟨_, rfl, rfl⟩ rfl (do_pickT rfl rfl) ?_
            refine wl_1 ⟨_, rfl, rfl⟩ rfl (do_pickF rfl rfl) ?_
            refine wl_1 ⟨_, rfl, rfl⟩ rfl (do_pickT rfl rfl) ?_
            refine wl_1 trivial rfl (do_pickF rfl rfl) ?_
            refine wl_nil ?_
            refine at_then ?_
            refine wc_false rfl ?_
            refine wc_skip ?_
            refine at_then ?_
            refine wc_seq ?_
            refine wc_seq ?_
            refine wc_region ?_
            refine wl_1 trivial rfl (do_move rfl) ?_
            refine wl_1 trivial rfl (do_cmp (c := false) rfl rfl rfl) ?_
            refine wl_1 trivial rfl (do_move rfl) ?_
            refine wl_no rfl rfl rfl rfl rfl ?_
            refine wl_no rfl rfl rfl rfl rfl ?_
            refine wl_no rfl rfl rfl rfl rfl ?_
            refine wl_no rfl rfl rfl rfl rfl ?_
            refine wl_noU rfl rfl rfl rfl ?_
            refine wl_noU rfl rfl rfl rfl ?_
            refine wl_noU rfl rfl rfl rfl ?_
            refine wl_noU rfl rfl rfl rfl ?_
            refine wl_no rfl rfl rfl rfl rfl ?_
            refine wl_1 trivial rfl (do_pickF rfl rfl) ?_
            refine wl_1 trivial rfl (do_move rfl) ?_
            refine wl_no rfl rfl rfl rfl rfl ?_
            refine wl_no rfl rfl rfl rfl rfl ?_
            refine wl_no rfl rfl rfl rfl rfl ?_
            refine wl_noU rfl rfl rfl rfl ?_
            refine wl_noU rfl rfl rfl rfl ?_
            refine wl_noU rfl rfl rfl rfl ?_
            refine wl_noU rfl rfl rfl rfl ?_
            refine wl_noU rfl rfl rfl rfl ?_
            refine wl_noU rfl rfl rfl rfl ?_
            refine wl_no rfl rfl rfl rfl rfl ?_
            refine wl_1 trivial rfl (do_pickF rfl rfl) ?_
            refine wl_nil ?_
            refine at_then ?_
            refine wc_false rfl ?_
            refine wc_skip ?_
            refine at_then ?_
            refine wc_seq ?_
            refine wc_region ?_
            refine wl_1 trivial rfl (do_move rfl) ?_
            refine wl_nil ?_
            refine at_then ?_
            refine wc_true rfl ?_
            refine wc_region ?_
            refine wl_1 trivial rfl (do_move rfl) ?_
            refine wl_1 trivial rfl (do_fieldAddr (k := 1) (k' := 1) fo_34_1 rfl (by rfl)) ?_
            refine wl_1 trivial rfl (do_load 6 rfl one_9 rfl rfl) ?_
            refine wl_1 trivial rfl (do_move rfl) ?_
            refine wl_1 trivial rfl (do_convBS (R := row 5 1 x61 v46.length (byv v46)) (bs := v46) 4 und_32 und_5 und_9 rfl rfl row_R) ?_
            refine wl_1 trivial rfl (do_mapUpdate (L1 := [_, _, _, _, _, _, _]) und_54 key_9 rfl rfl rfl) ?_
            refine wl_nil ?_
            refine at_block ?_
            refine at_block ?_
            refine at_then ?_
            refine wc_region ?_
            refine wl_1 trivial rfl (do_move rfl) ?_
            refine wl_1 trivial rfl (do_add (r := ((i + 1 : Nat) : Int)) rfl rfl (wrap_nat (by omega) (by omega))) ?_
            refine wl_1 trivial rfl (do_assign rfl) ?_
            refine wl_nil ?_
            refine at_pick (M := [_, _, _, _, _, _, _]) [0, 1, 2, 3, 7, 5, 8] ⟨rfl, rfl, rfl, rfl, rfl, rfl, rfl, trivial⟩ (by decide) ?_
            rw [wv_put]
            have hphi : StOk s (i + 1) ∧ i + 1 ≤ 200 ∧ AO s (aput wt key (baOf v46)) := ⟨hst.more (Nat.le_succ i), by omega, hao.again hg45⟩
            exact at_round (i + 1, s, v58, l59, aput wt key (baOf v46)) hphi (by show 200 - (i + 1) < 200 - i; omega) ⟨rfl, rfl, rfl, rfl, trivial⟩ rfl
          · skip
            refine wl_do trivial rfl (do_call (num_tri B 7) ⟨rfl, trivial⟩ enters_14 [] [0, 1, 2, 3, 4, 5, 6, 7] trivial ⟨rfl, rfl, rfl, rfl, rfl, rfl, rfl, rfl, trivial⟩ (R := [_, _, _, _, _, _, _, _]) (by decide)) ?_
            rintro _ _ ⟨_, ⟨rfl, rfl⟩, rfl⟩
            refine wl_1 trivial rfl (do_assign rfl) ?_
            refine wl_nil ?_
            refine at_then ?_
            refine wc_seq ?_
            refine wc_region ?_
            refine wl_1 trivial rfl (do_move rfl) ?_
            refine wl_1 trivial rfl (do_fieldAddr (k := 1) (k' := 1) fo_34_1 rfl (by rfl)) ?_
            refine wl_1 trivial rfl (do_load 5 rfl one_9 rfl rfl) ?_
            refine wl_do trivial rfl (do_call (look_some B b r v58 l59 s key (hst).ok v46 hg45) ⟨rfl, rfl, trivial⟩ enters_20 [0, 1, 2, 3] [4, 5, 6, 7] ⟨rfl, rfl, rfl, rfl, trivial⟩ ⟨rfl, rfl, rfl, rfl, trivial⟩ (R := [_, _, _, _]) (by decide)) ?_
            rintro _ _ ⟨_, ⟨x62, rfl, rfl⟩, rfl⟩
            refine wl_1 trivial rfl (do_move rfl) ?_
            refine wl_1 trivial rfl (do_extract rfl rfl) ?_
            refine wl_1 trivial rfl (do_extract rfl rfl) ?_
            refine wl_1 trivial rfl (do_assign rfl) ?_
            refine wl_1 trivial rfl (do_assign rfl) ?_
            refine wl_nil ?_
            refine at_then ?_
            refine wc_seq ?_
            refine wc_region ?_
            refine wl_1 trivial rfl (do_move rfl) ?_
            refine wl_1 trivial rfl (do_fieldAddr (k := 1) (k' := 1) fo_34_1 rfl (by rfl)) ?_
            refine wl_1 trivial rfl (do_load 6 rfl one_9 rfl rfl) ?_
            refine wl_1 trivial rfl (do_lookup2S und_54 key_9 zero_9 7 rfl rfl rfl hw) ?_
            refine wl_1 trivial rfl (do_move rfl) ?_
            refine wl_1 trivial rfl (do_extract rfl rfl) ?_
            refine wl_1 trivial rfl (do_extract rfl rfl) ?_
            refine wl_1 trivial rfl (do_assign rfl) ?_
            refine wl_1 trivial rfl (do_assign rfl) ?_
            refine wl_nil ?_
            refine at_then ?_
            refine wc_seq ?_
            refine wc_seq ?_
            refine wc_region ?_
            refine wl_1 trivial rfl (do_move rfl) ?_
            refine wl_1 trivial rfl (do_cmp (c := false) rfl rfl rfl) ?_
            refine wl_1 trivial rfl (do_move rfl) ?_
            refine wl_no rfl rfl rfl rfl rfl ?_
            refine wl_no rfl rfl rfl rfl rfl ?_
            refine wl_no rfl rfl rfl rfl rfl ?_
            refine wl_noU rfl rfl rfl rfl ?_
            refine wl_noU rfl rfl rfl rfl ?_
            refine wl_noU rfl rfl rfl rfl ?_
            refine wl_noU rfl rfl rfl rfl ?_
            refine wl_noU rfl rfl rfl rfl ?_
            refine wl_noU rfl rfl rfl rfl ?_
            refine wl_no rfl rfl rfl rfl rfl ?_
            refine wl_1 trivial rfl (do_pickF rfl rfl) ?_
            refine wl_1 trivial rfl (do_move rfl) ?_
            refine wl_1 ⟨_, rfl, rfl⟩ rfl (do_move rfl) ?_
            refine wl_1 ⟨_, rfl, rfl⟩ rfl (do_cmp (c := true) rfl rfl rfl) ?_
            refine wl_1 ⟨_, rfl, rfl⟩ rfl (do_move rfl) ?_
            refine wl_1 ⟨_, rfl, rfl⟩ rfl (do_move rfl) ?_
            refine wl_1 ⟨_, rfl, rfl⟩ rfl (do_cmp (c := true) rfl rfl rfl) ?_
            refine wl_1 ⟨_, rfl, rfl⟩ rfl (do_pickT rfl rfl) ?_
            refine wl_1 ⟨_, rfl, rfl⟩ rfl (do_move rfl) ?_
            refine wl_1 ⟨_, rfl, rfl⟩ rfl (do_move rfl) ?_
            refine wl_1 ⟨_, rfl, rfl⟩ rfl (do_move rfl) ?_
            refine wl_1 ⟨_, rfl, rfl⟩ rfl (do_neBool isBool_4 rfl rfl) ?_
            refine wl_1 ⟨_, rfl, rfl⟩ rfl (do_move rfl) ?_
            refine wl_1 ⟨_, rfl, rfl⟩ rfl (do_move rfl) ?_
            refine wl_1 ⟨_, rfl, rfl⟩ rfl (do_move rfl) ?_
            refine wl_1 ⟨_, rfl, rfl⟩ rfl (do_move rfl) ?_
            refine wl_1 ⟨_, rfl, rfl⟩ rfl (do_convBS (R := row 5 1 x62 v46.length (byv v46)) (bs := v46) 4 und_32 und_5 und_9 rfl rfl row_R) ?_
            refine wl_1 ⟨_, rfl, rfl⟩ rfl (do_move rfl) ?_
            refine wl_1 ⟨_, rfl, rfl⟩ rfl (do_strcmp rfl rfl (str_same_neq _)) ?_
            refine wl_1 ⟨_, rfl, rfl⟩ rfl (do_pickT rfl rfl) ?_
            refine wl_1 ⟨_, rfl, rfl⟩ rfl (do_pickF rfl rfl) ?_
            refine wl_1 ⟨_, rfl, rfl⟩ rfl (do_pickT rfl rfl) ?_
            refine wl_1 trivial rfl (do_pickF rfl rfl) ?_
            refine wl_nil ?_
            refine at_then ?_
            refine wc_false rfl ?_
            refine wc_skip ?_
            refine at_then ?_
            refine wc_seq ?_
            refine wc_seq ?_
            refine wc_region ?_
            refine wl_1 trivial rfl (do_move rfl) ?_
            refine wl_1 trivial rfl (do_cmp (c := false) rfl rfl rfl) ?_
            refine wl_1 trivial rfl (do_move rfl) ?_
            refine wl_no rfl rfl rfl rfl rfl ?_
            refine wl_no rfl rfl rfl rfl rfl ?_
            refine wl_no rfl rfl rfl rfl rfl ?_
            refine wl_no rfl rfl rfl rfl rfl ?_
            refine wl_noU rfl rfl rfl rfl ?_
            refine wl_noU rfl rfl rfl rfl ?_
            refine wl_noU rfl rfl rfl rfl ?_
            refine wl_noU rfl rfl rfl rfl ?_
            refine wl_no rfl rfl rfl rfl rfl ?_
            refine wl_1 trivial rfl (do_pickF rfl rfl) ?_
            refine wl_1 trivial rfl (do_move rfl) ?_
            refine wl_no rfl rfl rfl rfl rfl ?_
            refine wl_no rfl rfl rfl rfl rfl ?_
            refine wl_no rfl rfl rfl rfl rfl ?_
            refine wl_noU rfl rfl rfl rfl ?_
            refine wl_noU rfl rfl rfl rfl ?_
            refine wl_noU rfl rfl rfl rfl ?_
            refine wl_noU rfl rfl rfl rfl ?_
            refine wl_noU rfl rfl rfl rfl ?_
            refine wl_noU rfl rfl rfl rfl ?_
            refine wl_no rfl rfl rfl rfl rfl ?_
            refine wl_1 trivial rfl (do_pickF rfl rfl) ?_
            refine wl_nil ?_
            refine at_then ?_
            refine wc_false rfl ?_
            refine wc_skip ?_
            refine at_then ?_
            refine wc_seq ?_
            refine wc_region ?_
            refine wl_1 trivial rfl (do_move rfl) ?_
            refine wl_nil ?_
            refine at_then ?_
            refine wc_true rfl ?_
            refine wc_region ?_
            refine wl_1 trivial rfl (do_move rfl) ?_
            refine wl_1 trivial rfl (do_fieldAddr (k := 1) (k' := 1) fo_34_1 rfl (by rfl)) ?_
            refine wl_1 trivial rfl (do_load 6 rfl one_9 rfl rfl) ?_
            refine wl_1 trivial rfl (do_move rfl) ?_
            refine wl_1 trivial rfl (do_convBS (R := row 5 1 x62 v46.length (byv v46)) (bs := v46) 4 und_32 und_5 und_9 rfl rfl row_R) ?_
            refine wl_1 trivial rfl (do_mapUpdate (L1 := [_, _, _, _, _, _, _]) und_54 key_9 rfl rfl rfl) ?_
            refine wl_nil ?_
            refine at_block ?_
            refine at_block ?_
            refine at_then ?_
            refine wc_region ?_
            refine wl_1 trivial rfl (do_move rfl) ?_
            refine wl_1 trivial rfl (do_add (r := ((i + 1 : Nat) : Int)) rfl rfl (wrap_nat (by omega) (by omega))) ?_
            refine wl_1 trivial rfl (do_assign rfl) ?_
            refine wl_nil ?_
            refine at_pick (M := [_, _, _, _, _, _, _]) [0, 1, 2, 3, 7, 5, 8] ⟨rfl, rfl, rfl, rfl, rfl, rfl, rfl, trivial⟩ (by decide) ?_
            rw [wv_put]
            have hphi : StOk s (i + 1) ∧ i + 1 ≤ 200 ∧ AO s (aput wt key (baOf v46)) := ⟨hst.more (Nat.le_succ i), by omega, hao.again hg45⟩
            exact at_round (i + 1, s, v58, l59, aput wt key (baOf v46)) hphi (by show 200 - (i + 1) < 200 - i; omega) ⟨rfl, rfl, rfl, rfl, trivial⟩ rfl
          · skip
            have hl63 : aget (putO key bs (callS s).2.2).objs key = some bs := by rw [putO_get, if_pos rfl]
            refine wl_do trivial rfl (do_call (num_tri B 0) ⟨rfl, trivial⟩ enters_14 [] [0, 1, 2, 3, 4, 5, 6, 7] trivial ⟨rfl, rfl, rfl, rfl, rfl, rfl, rfl, rfl, trivial⟩ (R := [_, _, _, _, _, _, _, _]) (by decide)) ?_
            rintro _ _ ⟨_, ⟨rfl, rfl⟩, rfl⟩
            refine wl_1 trivial rfl (do_assign rfl) ?_
            refine wl_nil ?_
            refine at_then ?_
            refine wc_seq ?_
            refine wc_region ?_
            refine wl_1 trivial rfl (do_move rfl) ?_
            refine wl_1 trivial rfl (do_fieldAddr (k := 1) (k' := 1) fo_34_1 rfl (by rfl)) ?_
            refine wl_1 trivial rfl (do_load 5 rfl one_9 rfl rfl) ?_
            refine wl_do trivial rfl (do_call (look_some B b r v58 l59 (putO key bs (callS s).2.2) key ((hst.callPut key hbl)).ok bs hl63) ⟨rfl, rfl, trivial⟩ enters_20 [0, 1, 2, 3] [4, 5, 6, 7] ⟨rfl, rfl, rfl, rfl, trivial⟩ ⟨rfl, rfl, rfl, rfl, trivial⟩ (R := [_, _, _, _]) (by decide)) ?_
            rintro _ _ ⟨_, ⟨x64, rfl, rfl⟩, rfl⟩
            refine wl_1 trivial rfl (do_move rfl) ?_
            refine wl_1 trivial rfl (do_extract rfl rfl) ?_
            refine wl_1 trivial rfl (do_extract rfl rfl) ?_
            refine wl_1 trivial rfl (do_assign rfl) ?_
            refine wl_1 trivial rfl (do_assign rfl) ?_
            refine wl_nil ?_
            refine at_then ?_
            refine wc_seq ?_
            refine wc_region ?_
            refine wl_1 trivial rfl (do_move rfl) ?_
            refine wl_1 trivial rfl (do_fieldAddr (k := 1) (k' := 1) fo_34_1 rfl (by rfl)) ?_
            refine wl_1 trivial rfl (do_load 6 rfl one_9 rfl rfl) ?_
            refine wl_1 trivial rfl (do_lookup2S und_54 key_9 zero_9 7 rfl rfl rfl hw) ?_
            refine wl_1 trivial rfl (do_move rfl) ?_
            refine wl_1 trivial rfl (do_extract rfl rfl) ?_
            refine wl_1 trivial rfl (do_extract rfl rfl) ?_
            refine wl_1 trivial rfl (do_assign rfl) ?_
            refine wl_1 trivial rfl (do_assign rfl) ?_
            refine wl_nil ?_
            refine at_then ?_
            refine wc_seq ?_
            refine wc_seq ?_
            refine wc_region ?_
            refine wl_1 trivial rfl (do_move rfl) ?_
            refine wl_1 trivial rfl (do_cmp (c := true) rfl rfl rfl) ?_
            refine wl_1 trivial rfl (do_move rfl) ?_
            refine wl_1 ⟨_, rfl, rfl⟩ rfl (do_move rfl) ?_
            refine wl_1 ⟨_, rfl, rfl⟩ rfl (do_not (c := true) rfl) ?_
            refine wl_1 ⟨_, rfl, rfl⟩ rfl (do_move rfl) ?_
            refine wl_1 ⟨_, rfl, rfl⟩ rfl (do_move rfl) ?_
            refine wl_1 ⟨_, rfl, rfl⟩ rfl (do_convBS (R := row 5 1 x64 bs.length (byv bs)) (bs := bs) 4 und_32 und_5 und_9 rfl rfl row_R) ?_
            refine wl_1 ⟨_, rfl, rfl⟩ rfl (do_fieldAddr (k := 2) (k' := 2) fo_34_2 rfl (by rfl)) ?_
            refine wl_1 ⟨_, rfl, rfl⟩ rfl (do_load 6 rfl one_32 rfl rfl) ?_
            refine wl_1 ⟨_, rfl, rfl⟩ rfl (do_convBS (R := AnyP) (bs := bs) 5 und_32 und_5 und_9 rfl rfl hop.rd) ?_
            refine wl_1 ⟨_, rfl, rfl⟩ rfl (do_strcmp rfl rfl (str_same_neq _)) ?_
            refine wl_1 ⟨_, rfl, rfl⟩ rfl (do_pickF rfl rfl) ?_
            refine wl_1 trivial rfl (do_pickT rfl rfl) ?_
            refine wl_1 trivial rfl (do_move rfl) ?_
            refine wl_1 ⟨_, rfl, rfl⟩ rfl (do_move rfl) ?_
            refine wl_1 ⟨_, rfl, rfl⟩ rfl (do_cmp (c := false) rfl rfl rfl) ?_
            refine wl_1 ⟨_, rfl, rfl⟩ rfl (do_move rfl) ?_
            refine wl_no rfl rfl rfl rfl rfl ?_
            refine wl_no rfl rfl rfl rfl rfl ?_
            refine wl_1 ⟨_, rfl, rfl⟩ rfl (do_pickF rfl rfl) ?_
            refine wl_1 ⟨_, rfl, rfl⟩ rfl (do_move rfl) ?_
            refine wl_no rfl rfl rfl rfl rfl ?_
            refine wl_no rfl rfl rfl rfl rfl ?_
            refine wl_no rfl rfl rfl rfl rfl ?_
            refine wl_no rfl rfl rfl rfl rfl ?_
            refine wl_noU rfl rfl rfl rfl ?_
            refine wl_noU rfl rfl rfl rfl ?_
            refine wl_noU rfl rfl rfl rfl ?_
            refine wl_noU rfl rfl rfl rfl ?_
            refine wl_noU rfl rfl rfl rfl ?_
            refine wl_noU rfl rfl rfl rfl ?_
            refine wl_noU rfl rfl rfl rfl ?_
            refine wl_no rfl rfl rfl rfl rfl ?_
            refine wl_1 ⟨_, rfl, rfl⟩ rfl (do_pickF rfl rfl) ?_
            refine wl_1 trivial rfl (do_pickF rfl rfl) ?_
            refine wl_nil ?_
            refine at_then ?_
            refine wc_false rfl ?_
            refine wc_skip ?_
            refine at_then ?_
            refine wc_seq ?_
            refine wc_seq ?_
            refine wc_region ?_
            refine wl_1 trivial rfl (do_move rfl) ?_
            refine wl_1 trivial rfl (do_cmp (c := false) rfl rfl rfl) ?_
            refine wl_1 trivial rfl (do_move rfl) ?_
            refine wl_no rfl rfl rfl rfl rfl ?_
            refine wl_no rfl rfl rfl rfl rfl ?_
            refine wl_no rfl rfl rfl rfl rfl ?_
            refine wl_no rfl rfl rfl rfl rfl ?_
            refine wl_noU rfl rfl rfl rfl ?_
            refine wl_noU rfl rfl rfl rfl ?_
            refine wl_noU rfl rfl rfl rfl ?_
            refine wl_noU rfl rfl rfl rfl ?_
            refine wl_no rfl rfl rfl rfl rfl ?_
            refine wl_1 trivial rfl (do_pickF rfl rfl) ?_
            refine wl_1 trivial rfl (do_move rfl) ?_
            refine wl_no rfl rfl rfl rfl rfl ?_
            refine wl_no rfl rfl rfl rfl rfl ?_
            refine wl_no rfl rfl rfl rfl rfl ?_
            refine wl_noU rfl rfl rfl rfl ?_
            refine wl_noU rfl rfl rfl rfl ?_
            refine wl_noU rfl rfl rfl rfl ?_
            refine wl_noU rfl rfl rfl rfl ?_
            refine wl_noU rfl rfl rfl rfl ?_
            refine wl_noU rfl rfl rfl rfl ?_
            refine wl_no rfl rfl rfl rfl rfl ?_
            refine wl_1 trivial rfl (do_pickF rfl rfl) ?_
            refine wl_nil ?_
            refine at_then ?_
            refine wc_false rfl ?_
            refine wc_skip ?_
            refine at_then ?_
            refine wc_seq ?_
            refine wc_region ?_
            refine wl_1 trivial rfl (do_move rfl) ?_
            refine wl_nil ?_
            refine at_then ?_
            refine wc_true rfl ?_
            refine wc_region ?_
            refine wl_1 trivial rfl (do_move rfl) ?_
            refine wl_1 trivial rfl (do_fieldAddr (k := 1) (k' := 1) fo_34_1 rfl (by rfl)) ?_
            refine wl_1 trivial rfl (do_load 6 rfl one_9 rfl rfl) ?_
            refine wl_1 trivial rfl (do_move rfl) ?_
            refine wl_1 trivial rfl (do_convBS (R := row 5 1 x64 bs.length (byv bs)) (bs := bs) 4 und_32 und_5 und_9 rfl rfl row_R) ?_
            refine wl_1 trivial rfl (do_mapUpdate (L1 := [_, _, _, _, _, _, _]) und_54 key_9 rfl rfl rfl) ?_
            refine wl_nil ?_
            refine at_block ?_
            refine at_block ?_
            refine at_then ?_
            refine wc_region ?_
            refine wl_1 trivial rfl (do_move rfl) ?_
            refine wl_1 trivial rfl (do_add (r := ((i + 1 : Nat) : Int)) rfl rfl (wrap_nat (by omega) (by omega))) ?_
            refine wl_1 trivial rfl (do_assign rfl) ?_
            refine wl_nil ?_
            refine at_pick (M := [_, _, _, _, _, _, _]) [0, 1, 2, 3, 7, 5, 8] ⟨rfl, rfl, rfl, rfl, rfl, rfl, rfl, trivial⟩ (by decide) ?_
            rw [wv_put]
            have hphi : StOk (putO key bs (callS s).2.2) (i + 1) ∧ i + 1 ≤ 200 ∧ AO (putO key bs (callS s).2.2) (aput wt key (baOf bs)) := ⟨hst.callPut key hbl, by omega, hao.call.put key bs⟩
            exact at_round (i + 1, (putO key bs (callS s).2.2), v58, l59, aput wt key (baOf bs)) hphi (by show 200 - (i + 1) < 200 - i; omega) ⟨rfl, rfl, rfl, rfl, trivial⟩ rfl
          · skip
            have hl65 : aget (putO key bs (callS s).2.2).objs key = some bs := by rw [putO_get, if_pos rfl]
            refine wl_do trivial rfl (do_call (num_tri B 8) ⟨rfl, trivial⟩ enters_14 [] [0, 1, 2, 3, 4, 5, 6, 7] trivial ⟨rfl, rfl, rfl, rfl, rfl, rfl, rfl, rfl, trivial⟩ (R := [_, _, _, _, _, _, _, _]) (by decide)) ?_
            rintro _ _ ⟨_, ⟨rfl, rfl⟩, rfl⟩
            refine wl_1 trivial rfl (do_assign rfl) ?_
            refine wl_nil ?_
            refine at_then ?_
            refine wc_seq ?_
            refine wc_region ?_
            refine wl_1 trivial rfl (do_move rfl) ?_
            refine wl_1 trivial rfl (do_fieldAddr (k := 1) (k' := 1) fo_34_1 rfl (by rfl)) ?_
            refine wl_1 trivial rfl (do_load 5 rfl one_9 rfl rfl) ?_
            refine wl_do trivial rfl (do_call (look_some B b r v58 l59 (putO key bs (callS s).2.2) key ((hst.callPut key hbl)).ok bs hl65) ⟨rfl, rfl, trivial⟩ enters_20 [0, 1, 2, 3] [4, 5, 6, 7] ⟨rfl, rfl, rfl, rfl, trivial⟩ ⟨rfl, rfl, rfl, rfl, trivial⟩ (R := [_, _, _, _]) (by decide)) ?_
            rintro _ _ ⟨_, ⟨x66, rfl, rfl⟩, rfl⟩
            refine wl_1 trivial rfl (do_move rfl) ?_
            refine wl_1 trivial rfl (do_extract rfl rfl) ?_
            refine wl_1 trivial rfl (do_extract rfl rfl) ?_
            refine wl_1 trivial rfl (do_assign rfl) ?_
            refine wl_1 trivial rfl (do_assign rfl) ?_
            refine wl_nil ?_
            refine at_then ?_
            refine wc_seq ?_
            refine wc_region ?_
            refine wl_1 trivial rfl (do_move rfl) ?_
            refine wl_1 trivial rfl (do_fieldAddr (k := 1) (k' := 1) fo_34_1 rfl (by rfl)) ?_
            refine wl_1 trivial rfl (do_load 6 rfl one_9 rfl rfl) ?_
            refine wl_1 trivial rfl (do_lookup2S und_54 key_9 zero_9 7 rfl rfl rfl hw) ?_
            refine wl_1 trivial rfl (do_move rfl) ?_
            refine wl_1 trivial rfl (do_extract rfl rfl) ?_
            refine wl_1 trivial rfl (do_extract rfl rfl) ?_
            refine wl_1 trivial rfl (do_assign rfl) ?_
            refine wl_1 trivial rfl (do_assign rfl) ?_
            refine wl_nil ?_
            refine at_then ?_
            refine wc_seq ?_
            refine wc_seq ?_
            refine wc_region ?_
            refine wl_1 trivial rfl (do_move rfl) ?_
            refine wl_1 trivial rfl (do_cmp (c := false) rfl rfl rfl) ?_
            refine wl_1 trivial rfl (do_move rfl) ?_
            refine wl_no rfl rfl rfl rfl rfl ?_
            refine wl_no rfl rfl rfl rfl rfl ?_
            refine wl_no rfl rfl rfl rfl rfl ?_
            refine wl_noU rfl rfl rfl rfl ?_
            refine wl_noU rfl rfl rfl rfl ?_
            refine wl_noU rfl rfl rfl rfl ?_
            refine wl_noU rfl rfl rfl rfl ?_
            refine wl_noU rfl rfl rfl rfl ?_
            refine wl_noU rfl rfl rfl rfl ?_
            refine wl_no rfl rfl rfl rfl rfl ?_
            refine wl_1 trivial rfl (do_pickF rfl rfl) ?_
            refine wl_1 trivial rfl (do_move rfl) ?_
            refine wl_1 ⟨_, rfl, rfl⟩ rfl (do_move rfl) ?_
            refine wl_1 ⟨_, rfl, rfl⟩ rfl (do_cmp (c := true) rfl rfl rfl) ?_
            refine wl_1 ⟨_, rfl, rfl⟩ rfl (do_move rfl) ?_
            refine wl_1 ⟨_, rfl, rfl⟩ rfl (do_move rfl) ?_
            refine wl_1 ⟨_, rfl, rfl⟩ rfl (do_cmp (c := false) rfl rfl rfl) ?_
            refine wl_1 ⟨_, rfl, rfl⟩ rfl (do_pickT rfl rfl) ?_
            refine wl_1 ⟨_, rfl, rfl⟩ rfl (do_move rfl) ?_
            refine wl_no rfl rfl rfl rfl rfl ?_
            refine wl_no rfl rfl rfl rfl rfl ?_
            refine wl_no rfl rfl rfl rfl rfl ?_
            refine wl_no rfl rfl rfl rfl rfl ?_
            refine wl_noU rfl rfl rfl rfl ?_
            refine wl_noU rfl rfl rfl rfl ?_
            refine wl_noU rfl rfl rfl rfl ?_
            refine wl_noU rfl rfl rfl rfl ?_
            refine wl_noU rfl rfl rfl rfl ?_
            refine wl_noU rfl rfl rfl rfl ?_
            refine wl_noU rfl rfl rfl rfl ?_
            refine wl_no rfl rfl rfl rfl rfl ?_
            refine wl_1 ⟨_, rfl, rfl⟩ rfl (do_pickF rfl rfl) ?_
            refine wl_1 trivial rfl (do_pickF rfl rfl) ?_
            refine wl_nil ?_
            refine at_then ?_
            refine wc_false rfl ?_
            refine wc_skip ?_
            refine at_then ?_
            refine wc_seq ?_
            refine wc_seq ?_
            refine wc_region ?_
            refine wl_1 trivial rfl (do_move rfl) ?_
            refine wl_1 trivial rfl (do_cmp (c := true) rfl rfl rfl) ?_
            refine wl_1 trivial rfl (do_move rfl) ?_
            refine wl_1 ⟨_, rfl, rfl⟩ rfl (do_move rfl) ?_
            refine wl_1 ⟨_, rfl, rfl⟩ rfl (do_move rfl) ?_
            refine wl_1 ⟨_, rfl, rfl⟩ rfl (do_neBool isBool_4 rfl rfl) ?_
            refine wl_1 ⟨_, rfl, rfl⟩ rfl (do_move rfl) ?_
            refine wl_1 ⟨_, rfl, rfl⟩ rfl (do_move rfl) ?_
            refine wl_1 ⟨_, rfl, rfl⟩ rfl (do_convBS (R := row 5 1 x66 bs.length (byv bs)) (bs := bs) 4 und_32 und_5 und_9 rfl rfl row_R) ?_
            refine wl_1 ⟨_, rfl, rfl⟩ rfl (do_move rfl) ?_
            obtain ⟨c67, h_c67⟩ : ∃ c : Bool, strB .neq (⟨(bs).toArray⟩ : ByteArray).toList (⟨(v46).toArray⟩ : ByteArray).toList = some c := ⟨_, rfl⟩
            refine wl_1 ⟨_, rfl, rfl⟩ rfl (do_strcmp rfl rfl h_c67) ?_
            refine wl_1 ⟨_, rfl, rfl⟩ rfl (do_pickF rfl rfl) ?_
            refine wl_1 trivial rfl (do_pickT rfl rfl) ?_
            refine wl_1 trivial rfl (do_move rfl) ?_
            cases c67
            · have p_c67 := str_neq_f h_c67
              refine wl_no rfl rfl rfl rfl rfl ?_
              refine wl_no rfl rfl rfl rfl rfl ?_
              refine wl_no rfl rfl rfl rfl rfl ?_
              refine wl_noU rfl rfl rfl rfl ?_
              refine wl_noU rfl rfl rfl rfl ?_
              refine wl_noU rfl rfl rfl rfl ?_
              refine wl_noU rfl rfl rfl rfl ?_
              refine wl_noU rfl rfl rfl rfl ?_
              refine wl_noU rfl rfl rfl rfl ?_
              refine wl_no rfl rfl rfl rfl rfl ?_
              refine wl_1 trivial rfl (do_pickF rfl rfl) ?_
              refine wl_nil ?_
              refine at_then ?_
              refine wc_false rfl ?_
              refine wc_skip ?_
              refine at_then ?_
              refine wc_seq ?_
              refine wc_region ?_
              refine wl_1 trivial rfl (do_move rfl) ?_
              refine wl_nil ?_
              refine at_then ?_
              refine wc_true rfl ?_
              refine wc_region ?_
              refine wl_1 trivial rfl (do_move rfl) ?_
              refine wl_1 trivial rfl (do_fieldAddr (k := 1) (k' := 1) fo_34_1 rfl (by rfl)) ?_
              refine wl_1 trivial rfl (do_load 6 rfl one_9 rfl rfl) ?_
              refine wl_1 trivial rfl (do_move rfl) ?_
              refine wl_1 trivial rfl (do_convBS (R := row 5 1 x66 bs.length (byv bs)) (bs := bs) 4 und_32 und_5 und_9 rfl rfl row_R) ?_
              refine wl_1 trivial rfl (do_mapUpdate (L1 := [_, _, _, _, _, _, _]) und_54 key_9 rfl rfl rfl) ?_
              refine wl_nil ?_
              refine at_block ?_
              refine at_block ?_
              refine at_then ?_
              refine wc_region ?_
              refine wl_1 trivial rfl (do_move rfl) ?_
              refine wl_1 trivial rfl (do_add (r := ((i + 1 : Nat) : Int)) rfl rfl (wrap_nat (by omega) (by omega))) ?_
              refine wl_1 trivial rfl (do_assign rfl) ?_
              refine wl_nil ?_
              refine at_pick (M := [_, _, _, _, _, _, _]) [0, 1, 2, 3, 7, 5, 8] ⟨rfl, rfl, rfl, rfl, rfl, rfl, rfl, trivial⟩ (by decide) ?_
              rw [wv_put]
              have hphi : StOk (putO key bs (callS s).2.2) (i + 1) ∧ i + 1 ≤ 200 ∧ AO (putO key bs (callS s).2.2) (aput wt key (baOf bs)) := ⟨hst.callPut key hbl, by omega, hao.call.put key bs⟩
              exact at_round (i + 1, (putO key bs (callS s).2.2), v58, l59, aput wt key (baOf bs)) hphi (by show 200 - (i + 1) < 200 - i; omega) ⟨rfl, rfl, rfl, rfl, trivial⟩ rfl
            · have p_c67 := str_neq_t h_c67
              refine wl_1 ⟨_, rfl, rfl⟩ rfl (do_move rfl) ?_
              refine wl_1 ⟨_, rfl, rfl⟩ rfl (do_not (c := true) rfl) ?_
              refine wl_1 ⟨_, rfl, rfl⟩ rfl (do_move rfl) ?_
              refine wl_1 ⟨_, rfl, rfl⟩ rfl (do_move rfl) ?_
              refine wl_1 ⟨_, rfl, rfl⟩ rfl (do_convBS (R := row 5 1 x66 bs.length (byv bs)) (bs := bs) 4 und_32 und_5 und_9 rfl rfl row_R) ?_
              refine wl_1 ⟨_, rfl, rfl⟩ rfl (do_fieldAddr (k := 2) (k' := 2) fo_34_2 rfl (by rfl)) ?_
              refine wl_1 ⟨_, rfl, rfl⟩ rfl (do_load 6 rfl one_32 rfl rfl) ?_
              refine wl_1 ⟨_, rfl, rfl⟩ rfl (do_convBS (R := AnyP) (bs := bs) 5 und_32 und_5 und_9 rfl rfl hop.rd) ?_
              refine wl_1 ⟨_, rfl, rfl⟩ rfl (do_strcmp rfl rfl (str_same_neq _)) ?_
              refine wl_1 ⟨_, rfl, rfl⟩ rfl (do_pickF rfl rfl) ?_
              refine wl_1 trivial rfl (do_pickT rfl rfl) ?_
              refine wl_nil ?_
              refine at_then ?_
              refine wc_false rfl ?_
              refine wc_skip ?_
              refine at_then ?_
              refine wc_seq ?_
              refine wc_region ?_
              refine wl_1 trivial rfl (do_move rfl) ?_
              refine wl_nil ?_
              refine at_then ?_
              refine wc_true rfl ?_
              refine wc_region ?_
              refine wl_1 trivial rfl (do_move rfl) ?_
              refine wl_1 trivial rfl (do_fieldAddr (k := 1) (k' := 1) fo_34_1 rfl (by rfl)) ?_
              refine wl_1 trivial rfl (do_load 6 rfl one_9 rfl rfl) ?_
              refine wl_1 trivial rfl (do_move rfl) ?_
              refine wl_1 trivial rfl (do_convBS (R := row 5 1 x66 bs.length (byv bs)) (bs := bs) 4 und_32 und_5 und_9 rfl rfl row_R) ?_
              refine wl_1 trivial rfl (do_mapUpdate (L1 := [_, _, _, _, _, _, _]) und_54 key_9 rfl rfl rfl) ?_
              refine wl_nil ?_
              refine at_block ?_
              refine at_block ?_
              refine at_then ?_
              refine wc_region ?_
              refine wl_1 trivial rfl (do_move rfl) ?_
              refine wl_1 trivial rfl (do_add (r := ((i + 1 : Nat) : Int)) rfl rfl (wrap_nat (by omega) (by omega))) ?_
              refine wl_1 trivial rfl (do_assign rfl) ?_
              refine wl_nil ?_
              refine at_pick (M := [_, _, _, _, _, _, _]) [0, 1, 2, 3, 7, 5, 8] ⟨rfl, rfl, rfl, rfl, rfl, rfl, rfl, trivial⟩ (by decide) ?_
              rw [wv_put]
              have hphi : StOk (putO key bs (callS s).2.2) (i + 1) ∧ i + 1 ≤ 200 ∧ AO (putO key bs (callS s).2.2) (aput wt key (baOf bs)) := ⟨hst.callPut key hbl, by omega, hao.call.put key bs⟩
              exact at_round (i + 1, (putO key bs (callS s).2.2), v58, l59, aput wt key (baOf bs)) hphi (by show 200 - (i + 1) < 200 - i; omega) ⟨rfl, rfl, rfl, rfl, trivial⟩ rfl
          · skip
            have hl68 : aget (callS s).2.2.objs key = some v46 := by rw [callS_objs]; exact hg45
            refine wl_do trivial rfl (do_call (num_tri B 8) ⟨rfl, trivial⟩ enters_14 [] [0, 1, 2, 3, 4, 5, 6, 7] trivial ⟨rfl, rfl, rfl, rfl, rfl, rfl, rfl, rfl, trivial⟩ (R := [_, _, _, _, _, _, _, _]) (by decide)) ?_
            rintro _ _ ⟨_, ⟨rfl, rfl⟩, rfl⟩
            refine wl_1 trivial rfl (do_assign rfl) ?_
            refine wl_nil ?_
            refine at_then ?_
            refine wc_seq ?_
            refine wc_region ?_
            refine wl_1 trivial rfl (do_move rfl) ?_
            refine wl_1 trivial rfl (do_fieldAddr (k := 1) (k' := 1) fo_34_1 rfl (by rfl)) ?_
            refine wl_1 trivial rfl (do_load 5 rfl one_9 rfl rfl) ?_
            refine wl_do trivial rfl (do_call (look_some B b r v58 l59 (callS s).2.2 key ((hst.call)).ok v46 hl68) ⟨rfl, rfl, trivial⟩ enters_20 [0, 1, 2, 3] [4, 5, 6, 7] ⟨rfl, rfl, rfl, rfl, trivial⟩ ⟨rfl, rfl, rfl, rfl, trivial⟩ (R := [_, _, _, _]) (by decide)) ?_
            rintro _ _ ⟨_, ⟨x69, rfl, rfl⟩, rfl⟩
            refine wl_1 trivial rfl (do_move rfl) ?_
            refine wl_1 trivial rfl (do_extract rfl rfl) ?_
            refine wl_1 trivial rfl (do_extract rfl rfl) ?_
            refine wl_1 trivial rfl (do_assign rfl) ?_
            refine wl_1 trivial rfl (do_assign rfl) ?_
            refine wl_nil ?_
            refine at_then ?_
            refine wc_seq ?_
            refine wc_region ?_
            refine wl_1 trivial rfl (do_move rfl) ?_
            refine wl_1 trivial rfl (do_fieldAddr (k := 1) (k' := 1) fo_34_1 rfl (by rfl)) ?_
            refine wl_1 trivial rfl (do_load 6 rfl one_9 rfl rfl) ?_
            refine wl_1 trivial rfl (do_lookup2S und_54 key_9 zero_9 7 rfl rfl rfl hw) ?_
            refine wl_1 trivial rfl (do_move rfl) ?_
            refine wl_1 trivial rfl (do_extract rfl rfl) ?_
            refine wl_1 trivial rfl (do_extract rfl rfl) ?_
            refine wl_1 trivial rfl (do_assign rfl) ?_
            refine wl_1 trivial rfl (do_assign rfl) ?_
            refine wl_nil ?_
            refine at_then ?_
            refine wc_seq ?_
            refine wc_seq ?_
            refine wc_region ?_
            refine wl_1 trivial rfl (do_move rfl) ?_
            refine wl_1 trivial rfl (do_cmp (c := false) rfl rfl rfl) ?_
            refine wl_1 trivial rfl (do_move rfl) ?_
            refine wl_no rfl rfl rfl rfl rfl ?_
            refine wl_no rfl rfl rfl rfl rfl ?_
            refine wl_no rfl rfl rfl rfl rfl ?_
            refine wl_noU rfl rfl rfl rfl ?_
            refine wl_noU rfl rfl rfl rfl ?_
            refine wl_noU rfl rfl rfl rfl ?_
            refine wl_noU rfl rfl rfl rfl ?_
            refine wl_noU rfl rfl rfl rfl ?_
            refine wl_noU rfl rfl rfl rfl ?_
            refine wl_no rfl rfl rfl rfl rfl ?_
            refine wl_1 trivial rfl (do_pickF rfl rfl) ?_
            refine wl_1 trivial rfl (do_move rfl) ?_
            refine wl_1 ⟨_, rfl, rfl⟩ rfl (do_move rfl) ?_
            refine wl_1 ⟨_, rfl, rfl⟩ rfl (do_cmp (c := true) rfl rfl rfl) ?_
            refine wl_1 ⟨_, rfl, rfl⟩ rfl (do_move rfl) ?_
            refine wl_1 ⟨_, rfl, rfl⟩ rfl (do_move rfl) ?_
            refine wl_1 ⟨_, rfl, rfl⟩ rfl (do_cmp (c := false) rfl rfl rfl) ?_
            refine wl_1 ⟨_, rfl, rfl⟩ rfl (do_pickT rfl rfl) ?_
            refine wl_1 ⟨_, rfl, rfl⟩ rfl (do_move rfl) ?_
            refine wl_no rfl rfl rfl rfl rfl ?_
            refine wl_no rfl rfl rfl rfl rfl ?_
            refine wl_no rfl rfl rfl rfl rfl ?_
            refine wl_no rfl rfl rfl rfl rfl ?_
            refine wl_noU rfl rfl rfl rfl ?_
            refine wl_noU rfl rfl rfl rfl ?_
            refine wl_noU rfl rfl rfl rfl ?_
            refine wl_noU rfl rfl rfl rfl ?_
            refine wl_noU rfl rfl rfl rfl ?_
            refine wl_noU rfl rfl rfl rfl ?_
            refine wl_noU rfl rfl rfl rfl ?_
            refine wl_no rfl rfl rfl rfl rfl ?_
            refine wl_1 ⟨_, rfl, rfl⟩ rfl (do_pickF rfl rfl) ?_
            refine wl_1 trivial rfl (do_pickF rfl rfl) ?_
            refine wl_nil ?_
            refine at_then ?_
            refine wc_false rfl ?_
            refine wc_skip ?_
            refine at_then ?_
            refine wc_seq ?_
            refine wc_seq ?_
            refine wc_region ?_
            refine wl_1 trivial rfl (do_move rfl) ?_
            refine wl_1 trivial rfl (do_cmp (c := true) rfl rfl rfl) ?_
            refine wl_1 trivial rfl (do_move rfl) ?_
            refine wl_1 ⟨_, rfl, rfl⟩ rfl (do_move rfl) ?_
            refine wl_1 ⟨_, rfl, rfl⟩ rfl (do_move rfl) ?_
            refine wl_1 ⟨_, rfl, rfl⟩ rfl (do_neBool isBool_4 rfl rfl) ?_
            refine wl_1 ⟨_, rfl, rfl⟩ rfl (do_move rfl) ?_
            refine wl_1 ⟨_, rfl, rfl⟩ rfl (do_move rfl) ?_
            refine wl_1 ⟨_, rfl, rfl⟩ rfl (do_convBS (R := row 5 1 x69 v46.length (byv v46)) (bs := v46) 4 und_32 und_5 und_9 rfl rfl row_R) ?_
            refine wl_1 ⟨_, rfl, rfl⟩ rfl (do_move rfl) ?_
            refine wl_1 ⟨_, rfl, rfl⟩ rfl (do_strcmp rfl rfl (str_same_neq _)) ?_
            refine wl_1 ⟨_, rfl, rfl⟩ rfl (do_pickF rfl rfl) ?_
            refine wl_1 trivial rfl (do_pickT rfl rfl) ?_
            refine wl_1 trivial rfl (do_move rfl) ?_
            refine wl_no rfl rfl rfl rfl rfl ?_
            refine wl_no rfl rfl rfl rfl rfl ?_
            refine wl_no rfl rfl rfl rfl rfl ?_
            refine wl_noU rfl rfl rfl rfl ?_
            refine wl_noU rfl rfl rfl rfl ?_
            refine wl_noU rfl rfl rfl rfl ?_
            refine wl_noU rfl rfl rfl rfl ?_
            refine wl_noU rfl rfl rfl rfl ?_
            refine wl_noU rfl rfl rfl rfl ?_
            refine wl_no rfl rfl rfl rfl rfl ?_
            refine wl_1 trivial rfl (do_pickF rfl rfl) ?_
            refine wl_nil ?_
            refine at_then ?_
            refine wc_false rfl ?_
            refine wc_skip ?_
            refine at_then ?_
            refine wc_seq ?_
            refine wc_region ?_
            refine wl_1 trivial rfl (do_move rfl) ?_
            refine wl_nil ?_
            refine at_then ?_
            refine wc_true rfl ?_
            refine wc_region ?_
            refine wl_1 trivial rfl (do_move rfl) ?_
            refine wl_1 trivial rfl (do_fieldAddr (k := 1) (k' := 1) fo_34_1 rfl (by rfl)) ?_
            refine wl_1 trivial rfl (do_load 6 rfl one_9 rfl rfl) ?_
            refine wl_1 trivial rfl (do_move rfl) ?_
            refine wl_1 trivial rfl (do_convBS (R := row 5 1 x69 v46.length (byv v46)) (bs := v46) 4 und_32 und_5 und_9 rfl rfl row_R) ?_
            refine wl_1 trivial rfl (do_mapUpdate (L1 := [_, _, _, _, _, _, _]) und_54 key_9 rfl rfl rfl) ?_
            refine wl_nil ?_
            refine at_block ?_
            refine at_block ?_
            refine at_then ?_
            refine wc_region ?_
            refine wl_1 trivial rfl (do_move rfl) ?_
            refine wl_1 trivial rfl (do_add (r := ((i + 1 : Nat) : Int)) rfl rfl (wrap_nat (by omega) (by omega))) ?_
            refine wl_1 trivial rfl (do_assign rfl) ?_
            refine wl_nil ?_
            refine at_pick (M := [_, _, _, _, _, _, _]) [0, 1, 2, 3, 7, 5, 8] ⟨rfl, rfl, rfl, rfl, rfl, rfl, rfl, trivial⟩ (by decide) ?_
            rw [wv_put]
            have hphi : StOk (callS s).2.2 (i + 1) ∧ i + 1 ≤ 200 ∧ AO (callS s).2.2 (aput wt key (baOf v46)) := ⟨hst.call, by omega, hao.call.again hl68⟩
            exact at_round (i + 1, (callS s).2.2, v58, l59, aput wt key (baOf v46)) hphi (by show 200 - (i + 1) < 200 - i; omega) ⟨rfl, rfl, rfl, rfl, trivial⟩ rfl
end Go.Proofs.Ytmefejfnddcelaa
