/- Printed by a program of this claim's: what each of these functions of the program does, as its theorem says. No condition but what stands in each theorem. -/
import Derived.Test.YtmefejfnddcelaaDb
namespace Go.Proofs.Ytmefejfnddcelaa
theorem flat_take {bs : List (List UInt8)} {k : Nat} {b : List UInt8} (h : bs[k]? = some b) : (bs.take (k + 1)).flatten = (bs.take k).flatten ++ b := by
  rw [List.take_add_one, h]; simp
theorem flat_le (bs : List (List UInt8)) (k : Nat) : (bs.take k).flatten.length ≤ bs.flatten.length := by
  have : bs.flatten = (bs.take k).flatten ++ (bs.drop k).flatten := by rw [← List.flatten_append, List.take_append_drop]
  rw [this]; simp
theorem isConc_84 : isConc Try.prog 84 = true := by kernel_rfl
theorem ext_97 : Extern.find Try.f97 = some Extern.MapsClone.clone := by kernel_rfl
theorem exn_97 : (Extern.findNext Try.f97).isNone = true := by kernel_rfl
theorem und_3 : Try.prog.underlying 3 = some (.int .i64) := by kernel_rfl
theorem isSlice_132 : isSlice Try.prog 132 = true := by kernel_rfl
theorem enters_102 : Enters Try.prog 102 := enters_of Try.func102 (by kernel_rfl) (by kernel_rfl)
theorem und_132 : Try.prog.underlying 132 = some (.slice 32) := by kernel_rfl
theorem ty_32 : tyOk Try.prog 32 1 24 (.slice none 0 0) := ty_mk (by kernel_rfl) rfl
theorem one_32 : oneOk Try.prog 32 = true := by kernel_rfl
set_option maxRecDepth 100000 in
set_option maxHeartbeats 8000000 in
theorem mclone_tri (B : Ctx) (n : Nat) (lv : List (ByteArray × Value)) :
    Tri Try.prog B 78 #[.map (some n)] [mapA encS n lv] (fun u M => ∃ r, u = .map (some r) ∧ M = [mapA encS n lv, mapA encS r lv]) := by
  refine tri_body (n := 9) Try.func78 rfl rfl rfl ?_
  intro F
  show WC _ _ _ _ _ _ _ [(0, .map (some n))] [mapA encS n lv, F]
  refine wc_seq ?_
  refine wc_region ?_
  refine wl_1 trivial rfl (do_assign rfl) ?_
  refine wl_nil ?_
  refine at_then ?_
  refine wc_seq ?_
  refine wc_seq ?_
  refine wc_region ?_
  refine wl_1 trivial rfl (do_move rfl) ?_
  refine wl_1 trivial rfl (do_eqMap isMap_84 rfl rfl) ?_
  refine wl_nil ?_
  refine at_then ?_
  refine wc_false rfl ?_
  refine wc_skip ?_
  refine at_then ?_
  refine wc_seq ?_
  refine wc_region ?_
  refine wl_1 trivial rfl (do_move rfl) ?_
  refine wl_1 trivial rfl (do_makeIface isConc_84 rfl) ?_
  refine wl_do trivial rfl (do_mapsClone (i := 0) Try.func97 (by kernel_rfl) (by kernel_rfl) ext_97 exn_97 rfl rfl) ?_
  rintro _ _ ⟨r1, rfl, rfl⟩
  refine wl_1 trivial rfl (do_assert1 isConc_84 rfl) ?_
  refine wl_1 trivial rfl (do_assign rfl) ?_
  refine wl_nil ?_
  refine at_then ?_
  refine wc_ret ?_
  refine at_pick (M := [_, _, _]) [1, 0, 2] ⟨rfl, rfl, rfl, trivial⟩ (by decide) ?_
  exact at_ret1 (M := [_, _]) rfl rfl ⟨_, rfl, rfl⟩ rfl

set_option maxRecDepth 100000 in
set_option maxHeartbeats 8000000 in
theorem grow_tri (B : Ctx) (n : Nat) (hn : n ≤ 1099511627776) :
    Tri Try.prog B 102 #[.slice none 0 0, .int .i64 ((n : Nat) : Int)] [] (fun u M => ∃ x, x = u ∧ M = [row 5 1 x 0 []]) := by
  refine tri_body (n := 27) Try.func102 rfl rfl rfl ?_
  intro F
  show WC _ _ _ _ _ _ _ [(0, .slice none 0 0), (1, .int .i64 ((n : Nat) : Int))] [F]
  refine wc_seq ?_
  refine wc_region ?_
  refine wl_1 trivial rfl (do_assign rfl) ?_
  refine wl_nil ?_
  refine at_then ?_
  refine wc_seq ?_
  refine wc_seq ?_
  refine wc_region ?_
  refine wl_1 trivial rfl (do_move rfl) ?_
  obtain ⟨c1, h_c1⟩ : ∃ c : Bool, cmpB .lss ((n : Nat) : Int) 0 = some c := ⟨_, rfl⟩
  refine wl_1 trivial rfl (do_cmp rfl rfl h_c1) ?_
  refine wl_nil ?_
  refine at_then ?_
  cases c1
  · have p_c1 := cmp_lss_f h_c1
    refine wc_false rfl ?_
    refine wc_skip ?_
    refine at_then ?_
    refine wc_seq ?_
    refine wc_seq ?_
    refine wc_region ?_
    refine wl_1 trivial rfl (do_move rfl) ?_
    refine wl_1 trivial rfl (do_move rfl) ?_
    refine wl_1 trivial rfl (do_capSlice rfl isSlice_32 rfl) ?_
    refine wl_1 trivial rfl (do_move rfl) ?_
    refine wl_1 trivial rfl (do_lenSlice rfl isSlice_32 rfl) ?_
    refine wl_1 trivial rfl (do_sub (r := 0) rfl rfl rfl) ?_
    refine wl_1 trivial rfl (do_sub (r := ((n : Nat) : Int)) rfl rfl (by rw [Int.sub_zero]; exact wrap_i64 (by omega) (by omega))) ?_
    refine wl_1 trivial rfl (do_assign rfl) ?_
    refine wl_nil ?_
    refine at_then ?_
    refine wc_seq ?_
    refine wc_region ?_
    refine wl_1 trivial rfl (do_move rfl) ?_
    obtain ⟨c2, h_c2⟩ : ∃ c : Bool, cmpB .gtr ((n : Nat) : Int) 0 = some c := ⟨_, rfl⟩
    refine wl_1 trivial rfl (do_cmp rfl rfl h_c2) ?_
    refine wl_nil ?_
    refine at_then ?_
    cases c2
    · have p_c2 := cmp_gtr_f h_c2
      refine wc_false rfl ?_
      refine wc_skip ?_
      refine at_then ?_
      refine wc_seq ?_
      refine wc_region ?_
      refine wl_1 trivial rfl (do_move rfl) ?_
      refine wl_1 trivial rfl (do_assign rfl) ?_
      refine wl_nil ?_
      refine at_then ?_
      refine wc_ret ?_
      refine at_mem (L' := [row 5 1 (.slice none 0 0) 0 ([]), F]) (fun w_ h_ => h_.intro row_nil) ?_
      exact at_ret1 (M := [_]) rfl rfl ⟨_, rfl, by simp⟩ rfl
    · have p_c2 := cmp_gtr_t h_c2
      refine wc_true rfl ?_
      refine wc_region ?_
      refine wl_1 trivial rfl (do_move rfl) ?_
      refine wl_1 trivial rfl (do_move rfl) ?_
      refine wl_1 trivial rfl (do_capSlice rfl isSlice_32 rfl) ?_
      refine wl_1 trivial rfl (do_sliceN (vl := none) (vh := (some (.int .i64 0))) und_32 ty_5 rfl trivial rfl rfl rfl) ?_
      refine wl_1 trivial rfl (do_move rfl) ?_
      refine wl_do trivial rfl (do_premem (L' := [row 5 1 (.slice none 0 0) 0 ([]), F]) (fun w_ h_ => h_.intro row_nil) (do_appendZ (L1 := []) (k := n) und_32 und_3 ty_5 rfl rfl rfl rfl (by omega))) ?_
      rintro v3 _ ⟨ov3, rfl⟩
      refine wl_1 trivial rfl (do_move rfl) ?_
      refine wl_1 trivial rfl (do_lenSlice rfl isSlice_32 rfl) ?_
      refine wl_fact 0 rfl (row_some (by simp; omega)) ?_
      rintro ⟨g4, cap5, rfl⟩
      refine wl_1 trivial rfl (do_sliceP (vh := (some (.int .i64 0))) (h := 0) und_32 ty_5 rfl rfl rfl (by omega)) ?_
      refine wl_1 trivial rfl (do_assign rfl) ?_
      refine wl_nil ?_
      refine at_then ?_
      refine wc_seq ?_
      refine wc_region ?_
      refine wl_1 trivial rfl (do_move rfl) ?_
      refine wl_1 trivial rfl (do_assign rfl) ?_
      refine wl_nil ?_
      refine at_then ?_
      refine wc_ret ?_
      refine at_mem (L' := [row 5 1 (.slice (some ⟨g4, 0, none⟩) 0 cap5) 0 ((([]) ++ List.replicate n (.int .u8 0 : Value)).take (0 * 1)), F]) (fun w_ h_ => row_take (k := 0) (by omega) (h_.pick (M := [row 5 1 (.slice (some ⟨g4, 0, none⟩) (0 + n) cap5) (0 + n) (([]) ++ List.replicate n (.int .u8 0 : Value)), F]) [0, 1] ⟨rfl, rfl, trivial⟩ (by decide))) ?_
      exact at_ret1 (M := [_]) rfl rfl ⟨_, rfl, by simp⟩ rfl
  · have p_c1 := cmp_lss_t h_c1
    exfalso; omega

set_option maxRecDepth 100000 in
set_option maxHeartbeats 8000000 in
theorem concat_tri (B : Ctx) (v : Value) (ps : List Value) (bs : List (List UInt8)) (R : Assn) (hR : ∀ (j : Nat) (p : Value) (b : List UInt8), ps[j]? = some p → bs[j]? = some b → Rd B R 1 p b.length (byv b)) (hpl : ps.length = bs.length) (hbl : bs.length ≤ 1099511627776) (hT : bs.flatten.length ≤ 1099511627776) :
    Tri Try.prog B 96 #[v] [row 32 1 v bs.length ps, R] (fun u M => ∃ x, x = u ∧ M = [row 32 1 v bs.length ps, R, row 5 1 x bs.flatten.length (byv bs.flatten)]) := by
  refine tri_body (n := 36) Try.func96 rfl rfl rfl ?_
  intro F
  show WC _ _ _ _ _ _ _ [(0, v)] [row 32 1 v bs.length ps, R, F]
  refine wc_seq ?_
  refine wc_region ?_
  refine wl_1 trivial rfl (do_assign rfl) ?_
  refine wl_nil ?_
  refine at_then ?_
  refine wc_seq ?_
  refine wc_region ?_
  refine wl_1 trivial rfl (do_assign rfl) ?_
  refine wl_nil ?_
  refine at_then ?_
  refine wc_seq ?_
  refine wc_seq ?_
  refine wc_region ?_
  refine wl_1 trivial rfl (do_move rfl) ?_
  refine wl_1 trivial rfl (do_lenRow 0 rfl isSlice_132 rfl rfl) ?_
  refine wl_1 trivial rfl (do_move rfl) ?_
  refine wl_nil ?_
  refine at_then ?_
  refine wc_block ?_
  refine wc_loop (fun (k : Nat) => k ≤ bs.length ∧ True) (fun (k : Nat) => [(0, v), (2, .slice none 0 0), (3, .int .i64 (((bs.take k).flatten.length : Nat) : Int)), (9, v), (10, .int .i64 ((bs.length : Nat) : Int)), (11, .int .i64 ((k : Nat) : Int))]) (fun (k : Nat) => [row 32 1 v bs.length ps, R, F]) (fun (k : Nat) => bs.length - k) 0 ⟨Nat.zero_le _, trivial⟩ ⟨rfl, rfl, rfl, rfl, rfl, rfl, trivial⟩ rfl ?_
  rintro k hphi
  obtain ⟨hk, _⟩ := hphi
  show WC _ _ _ _ _ _ _ [(0, v), (2, .slice none 0 0), (3, .int .i64 (((bs.take k).flatten.length : Nat) : Int)), (9, v), (10, .int .i64 ((bs.length : Nat) : Int)), (11, .int .i64 ((k : Nat) : Int))] [row 32 1 v bs.length ps, R, F]
  have hle := flat_le bs k
  have hle1 := flat_le bs (k + 1)
  refine wc_seq ?_
  refine wc_region ?_
  obtain ⟨c1, h_c1⟩ : ∃ c : Bool, cmpB .lss ((k : Nat) : Int) ((bs.length : Nat) : Int) = some c := ⟨_, rfl⟩
  refine wl_1 trivial rfl (do_cmp rfl rfl h_c1) ?_
  refine wl_nil ?_
  refine at_then ?_
  refine wc_seq ?_
  cases c1
  · have p_c1 := cmp_lss_f h_c1
    refine wc_false rfl ?_
    refine wc_exit ?_
    refine at_then_exit ?_
    refine at_then_exit ?_
    refine at_block_it ?_
    refine at_then ?_
    refine wc_seq ?_
    refine wc_region ?_
    refine wl_1 trivial rfl (do_move rfl) ?_
    refine wl_do trivial rfl (do_call (grow_tri B ((bs.take k).flatten.length) (by omega)) ⟨rfl, rfl, trivial⟩ enters_102 [] [0, 1, 2] trivial ⟨rfl, rfl, rfl, trivial⟩ (R := [_, _, _]) (by decide)) ?_
    rintro _ _ ⟨_, ⟨x2, rfl, rfl⟩, rfl⟩
    refine wl_1 trivial rfl (do_assign rfl) ?_
    refine wl_nil ?_
    refine at_then ?_
    refine wc_seq ?_
    refine wc_seq ?_
    refine wc_region ?_
    refine wl_1 trivial rfl (do_move rfl) ?_
    refine wl_1 trivial rfl (do_lenRow 1 rfl isSlice_132 rfl rfl) ?_
    refine wl_1 trivial rfl (do_move rfl) ?_
    refine wl_nil ?_
    refine at_then ?_
    refine wc_block ?_
    refine wc_mem (fun w_ h_ => h_.pick (M := [row 32 1 v bs.length ps, R, row 5 1 x2 0 ([]), F]) [1, 2, 0, 3] ⟨rfl, rfl, rfl, rfl, trivial⟩ (by decide)) ?_
    refine wc_loop (fun (z_ : Nat × Value) => match z_ with | (k, y) => k ≤ bs.length ∧ True) (fun (z_ : Nat × Value) => match z_ with | (k, y) => [(2, .slice none 0 0), (6, y), (25, v), (26, .int .i64 ((bs.length : Nat) : Int)), (27, .int .i64 ((k : Nat) : Int))]) (fun (z_ : Nat × Value) => match z_ with | (k, y) => [row 32 1 v bs.length ps, R, row 5 1 y ((bs.take k).flatten.length) (byv (bs.take k).flatten), F]) (fun (z_ : Nat × Value) => match z_ with | (k, y) => bs.length - k) (0, x2) ⟨Nat.zero_le _, trivial⟩ ⟨rfl, rfl, rfl, rfl, rfl, trivial⟩ rfl ?_
    rintro ⟨k, y⟩ hphi
    obtain ⟨hk, _⟩ := hphi
    show WC _ _ _ _ _ _ _ [(2, .slice none 0 0), (6, y), (25, v), (26, .int .i64 ((bs.length : Nat) : Int)), (27, .int .i64 ((k : Nat) : Int))] [row 32 1 v bs.length ps, R, row 5 1 y ((bs.take k).flatten.length) (byv (bs.take k).flatten), F]
    have hle := flat_le bs k
    have hle1 := flat_le bs (k + 1)
    refine wc_seq ?_
    refine wc_region ?_
    obtain ⟨c3, h_c3⟩ : ∃ c : Bool, cmpB .lss ((k : Nat) : Int) ((bs.length : Nat) : Int) = some c := ⟨_, rfl⟩
    refine wl_1 trivial rfl (do_cmp rfl rfl h_c3) ?_
    refine wl_nil ?_
    refine at_then ?_
    refine wc_seq ?_
    cases c3
    · have p_c3 := cmp_lss_f h_c3
      refine wc_false rfl ?_
      refine wc_exit ?_
      refine at_then_exit ?_
      refine at_then_exit ?_
      refine at_block_it ?_
      refine at_then ?_
      refine wc_seq ?_
      refine wc_region ?_
      refine wl_1 trivial rfl (do_move rfl) ?_
      refine wl_1 trivial rfl (do_assign rfl) ?_
      refine wl_nil ?_
      refine at_then ?_
      refine wc_ret ?_
      exact at_ret1 (M := [_, _, _]) rfl rfl ⟨_, rfl, by rw [List.take_of_length_le (show bs.length ≤ k by omega)]⟩ rfl
    · have p_c3 := cmp_lss_t h_c3
      refine wc_true rfl ?_
      refine wc_skip ?_
      refine at_then ?_
      refine wc_seq ?_
      refine wc_block ?_
      refine wc_seq ?_
      refine wc_region ?_
      refine wl_fact 0 rfl (row_some (by omega)) ?_
      rintro ⟨g4, cap5, rfl⟩
      refine wl_1 trivial rfl (do_indexAddr (j := k) (p := k) und_132 ty_32 rfl rfl rfl (by omega) (by omega)) ?_
      obtain ⟨p6, hp7⟩ : ∃ p, (ps)[k]? = some p := ⟨_, List.getElem?_eq_getElem (by omega)⟩
      obtain ⟨b8, hb9⟩ : ∃ b, (bs)[k]? = some b := ⟨_, List.getElem?_eq_getElem (by omega)⟩
      have hRp6 : Rd B R 1 p6 b8.length (byv b8) := hR k _ _ hp7 hb9
      refine wl_fact 1 rfl (fun h hb_ hh => rd_shape (hRp6 h hb_ hh)) ?_
      rintro ⟨a10, c11, rfl, _⟩
      rw [flat_take hb9, List.length_append] at hle1
      refine wl_1 trivial rfl (do_loadR (j := k) 0 rfl one_32 rfl row_R (by omega) hp7) ?_
      refine wl_1 trivial rfl (do_assign rfl) ?_
      refine wl_nil ?_
      refine at_then ?_
      refine wc_region ?_
      refine wl_1 trivial rfl (do_move rfl) ?_
      refine wl_1 trivial rfl (do_move rfl) ?_
      refine wl_do trivial rfl (do_appendR (L1 := [_, _]) (news := (byv b8)) 1 und_32 ty_5 (by decide) rfl rfl rfl hRp6 (byv_one _) (by simp only [maxLen]; omega) (by omega)) ?_
      rintro v12 _ ⟨ov12, rfl⟩
      refine wl_1 trivial rfl (do_assign rfl) ?_
      refine wl_nil ?_
      refine at_block ?_
      refine at_then ?_
      refine wc_region ?_
      refine wl_1 trivial rfl (do_add (r := ((k + 1 : Nat) : Int)) rfl rfl (wrap_nat (by omega) (by omega))) ?_
      refine wl_1 trivial rfl (do_move rfl) ?_
      refine wl_nil ?_
      rw [byv_app, show ((bs.take k).flatten.length + b8.length : Nat) = ((bs.take k).flatten ++ b8).length by rw [List.length_append], ← flat_take hb9]
      exact at_round (k + 1, v12) ⟨by omega, trivial⟩ (by show bs.length - (k + 1) < bs.length - k; omega) ⟨rfl, rfl, rfl, rfl, rfl, trivial⟩ rfl
  · have p_c1 := cmp_lss_t h_c1
    refine wc_true rfl ?_
    refine wc_skip ?_
    refine at_then ?_
    refine wc_seq ?_
    refine wc_block ?_
    refine wc_seq ?_
    refine wc_region ?_
    refine wl_fact 0 rfl (row_some (by omega)) ?_
    rintro ⟨g13, cap14, rfl⟩
    refine wl_1 trivial rfl (do_indexAddr (j := k) (p := k) und_132 ty_32 rfl rfl rfl (by omega) (by omega)) ?_
    obtain ⟨p15, hp16⟩ : ∃ p, (ps)[k]? = some p := ⟨_, List.getElem?_eq_getElem (by omega)⟩
    obtain ⟨b17, hb18⟩ : ∃ b, (bs)[k]? = some b := ⟨_, List.getElem?_eq_getElem (by omega)⟩
    have hRp15 : Rd B R 1 p15 b17.length (byv b17) := hR k _ _ hp16 hb18
    refine wl_fact 1 rfl (fun h hb_ hh => rd_shape (hRp15 h hb_ hh)) ?_
    rintro ⟨a19, c20, rfl, _⟩
    rw [flat_take hb18, List.length_append] at hle1
    refine wl_1 trivial rfl (do_loadR (j := k) 0 rfl one_32 rfl row_R (by omega) hp16) ?_
    refine wl_1 trivial rfl (do_assign rfl) ?_
    refine wl_nil ?_
    refine at_then ?_
    refine wc_seq ?_
    refine wc_region ?_
    refine wl_1 trivial rfl (do_move rfl) ?_
    refine wl_1 trivial rfl (do_move rfl) ?_
    refine wl_1 trivial rfl (do_lenSlice rfl isSlice_32 rfl) ?_
    refine wl_1 trivial rfl (do_add (r := ((((bs.take k).flatten.length) + b17.length : Nat) : Int)) rfl rfl (wrap_nat (by omega) (by omega))) ?_
    refine wl_1 trivial rfl (do_assign rfl) ?_
    refine wl_nil ?_
    refine at_then ?_
    refine wc_seq ?_
    refine wc_region ?_
    refine wl_1 trivial rfl (do_move rfl) ?_
    obtain ⟨c21, h_c21⟩ : ∃ c : Bool, cmpB .lss ((((bs.take k).flatten.length) + b17.length : Nat) : Int) 0 = some c := ⟨_, rfl⟩
    refine wl_1 trivial rfl (do_cmp rfl rfl h_c21) ?_
    refine wl_nil ?_
    refine at_then ?_
    cases c21
    · have p_c21 := cmp_lss_f h_c21
      refine wc_false rfl ?_
      refine wc_skip ?_
      refine at_block ?_
      refine at_then ?_
      refine wc_region ?_
      refine wl_1 trivial rfl (do_add (r := ((k + 1 : Nat) : Int)) rfl rfl (wrap_nat (by omega) (by omega))) ?_
      refine wl_1 trivial rfl (do_move rfl) ?_
      refine wl_nil ?_
      rw [show ((bs.take k).flatten.length + b17.length : Nat) = (bs.take (k + 1)).flatten.length by rw [flat_take hb18, List.length_append]]
      exact at_round (k + 1) ⟨by omega, trivial⟩ (by omega) ⟨rfl, rfl, rfl, rfl, rfl, rfl, trivial⟩ rfl
    · have p_c21 := cmp_lss_t h_c21
      exfalso; omega
end Go.Proofs.Ytmefejfnddcelaa
