/- Printed by a program of this claim's: what each of these functions of the program does, as its theorem says. No condition but what stands in each theorem. -/
import Derived.Test.YtmefejfnddcelaaDa
namespace Go.Proofs.Ytmefejfnddcelaa
def fineC (c : UInt8) : Bool := 33 ≤ c.toNat && c.toNat ≤ 126
def rightB (s : ByteArray) : Bool := s.data.toList.all fineC && (decide (1 ≤ s.size) && decide (s.size ≤ 64))
def finePre (s : ByteArray) (k : Nat) : Prop := ∀ j, j < k → 33 ≤ byteAt s j ∧ byteAt s j ≤ 126
theorem finePre_succ {s : ByteArray} {k : Nat} (h : finePre s k) (h1 : 33 ≤ byteAt s k) (h2 : byteAt s k ≤ 126) : finePre s (k + 1) := by
  intro j hj
  by_cases e : j = k
  · subst e; exact ⟨h1, h2⟩
  · exact h j (by omega)
theorem right_no {s : ByteArray} {k : Nat} (hk : k < s.size) (h : byteAt s k < 33 ∨ 126 < byteAt s k) : rightB s = false := by
  have : s.data.toList.all fineC = false := by
    rw [List.all_eq_false]
    have hl : k < s.data.toList.length := hk
    refine ⟨s.data.toList[k], List.getElem_mem hl, ?_⟩
    have hd : s.data[k]? = some (s.data[k]'hk) := by simp
    simp only [byteAt, List.getD_eq_getElem?_getD, Array.getElem?_toList, hd, Option.getD_some] at h
    simp [fineC]
    omega
  simp [rightB, this]
theorem right_yes {s : ByteArray} {k : Nat} (h : finePre s k) (hk : s.size ≤ k) : rightB s = (decide (1 ≤ s.size) && decide (s.size ≤ 64)) := by
  have : s.data.toList.all fineC = true := by
    rw [List.all_eq_true]
    intro c hc
    obtain ⟨k, hk1, rfl⟩ := List.mem_iff_getElem.1 hc
    have hk' : k < s.size := hk1
    have h1 := h k (by omega)
    have hd : s.data[k]? = some (s.data[k]'hk') := by simp
    simp only [byteAt, List.getD_eq_getElem?_getD, Array.getElem?_toList, hd, Option.getD_some] at h1
    simp [fineC]
    omega
  simp [rightB, this]
theorem pv_put (fb : List Nat) (m : List (ByteArray × Nat)) (k : ByteArray) (i : Nat) : aput (pv fb m) k (ptF fb i) = pv fb (aput m k i) := by
  induction m with
  | nil => rfl
  | cons q m ih =>
    obtain ⟨a, x⟩ := q
    show aput ((a, ptF fb x) :: pv fb m) k _ = _
    simp only [aput]
    split
    · rfl
    · rw [ih]; rfl
theorem pv_del (fb : List Nat) (m : List (ByteArray × Nat)) (k : ByteArray) : adel (pv fb m) k = pv fb (adel m k) := by
  induction m with
  | nil => rfl
  | cons q m ih =>
    obtain ⟨a, x⟩ := q
    show adel ((a, ptF fb x) :: pv fb m) k = _
    simp only [adel]
    split
    · rfl
    · rw [ih]; rfl
theorem pv_get (fb : List Nat) (m : List (ByteArray × Nat)) (k : ByteArray) : aget (pv fb m) k = (aget m k).map (ptF fb) := by
  induction m with
  | nil => rfl
  | cons q m ih =>
    obtain ⟨a, x⟩ := q
    show aget ((a, ptF fb x) :: pv fb m) k = _
    simp only [aget]
    split
    · rfl
    · exact ih
theorem pv_keys (fb : List Nat) (m : List (ByteArray × Nat)) : akeys (pv fb m) = akeys m := by simp [akeys, pv]
theorem pv_len (fb : List Nat) (m : List (ByteArray × Nat)) : (pv fb m).length = m.length := by simp [pv]
theorem pv_none {fb : List Nat} {m : List (ByteArray × Nat)} {k : ByteArray} (h : aget (pv fb m) k = none) : aget m k = none := by
  rw [pv_get] at h; cases hg : aget m k with
  | none => rfl
  | some x => rw [hg] at h; cases h
theorem pv_some {fb : List Nat} {m : List (ByteArray × Nat)} {k : ByteArray} {v : Value} (h : aget (pv fb m) k = some v) : ∃ i, aget m k = some i ∧ v = ptF fb i := by
  rw [pv_get] at h; cases hg : aget m k with
  | none => rw [hg] at h; cases h
  | some x => rw [hg] at h; cases h; exact ⟨x, rfl, rfl⟩
theorem ptF_ext {fb : List Nat} {i : Nat} (b : Nat) (h : i < fb.length) : ptF (fb ++ [b]) i = ptF fb i := by
  unfold ptF
  rw [List.getD_eq_getElem?_getD, List.getD_eq_getElem?_getD, List.getElem?_append_left h]
theorem ptF_new (fb : List Nat) (b : Nat) : ptF (fb ++ [b]) fb.length = .pointer (some ⟨b, 0, none⟩) := by
  unfold ptF
  rw [List.getD_eq_getElem?_getD, List.getElem?_append_right (Nat.le_refl _)]; simp
theorem pv_ext {fb : List Nat} {m : List (ByteArray × Nat)} (b : Nat) (h : ∀ q ∈ m, q.2 < fb.length) : pv (fb ++ [b]) m = pv fb m := by
  unfold pv
  exact List.map_congr_left fun q hq => by rw [ptF_ext b (h q hq)]
theorem chgV_ext {fb : List Nat} {l : List ChgD} (b : Nat) (h : ∀ c ∈ l, ∀ i, c.file = some i → i < fb.length) : l.map (chgV (fb ++ [b])) = l.map (chgV fb) := by
  refine List.map_congr_left fun c hc => ?_
  cases c with
  | made k i => unfold chgV; simp only; rw [ptF_ext b (h _ hc i rfl)]
  | ren a b => rfl
  | del a => rfl
/-- A change of names, as an operation. -/
def changeS (c : ChgD) (s : DS) : Int × DS := ((opS s).1, if (opS s).2.1 then { (opS s).2.2 with now := doC s.now c, chg := s.chg ++ [c] } else (opS s).2.2)
theorem opS_keep (s : DS) : (opS s).2.2.fs = s.fs ∧ (opS s).2.2.now = s.now ∧ (opS s).2.2.sure = s.sure ∧ (opS s).2.2.chg = s.chg ∧ (opS s).2.2.quota = s.quota := by
  unfold opS; split
  · exact ⟨rfl, rfl, rfl, rfl, rfl⟩
  · simp only; split
    · split <;> exact ⟨rfl, rfl, rfl, rfl, rfl⟩
    · exact ⟨rfl, rfl, rfl, rfl, rfl⟩
theorem opS_fs (s : DS) : (opS s).2.2.fs = s.fs := (opS_keep s).1
theorem opS_now (s : DS) : (opS s).2.2.now = s.now := (opS_keep s).2.1
theorem opS_sure (s : DS) : (opS s).2.2.sure = s.sure := (opS_keep s).2.2.1
theorem opS_chg (s : DS) : (opS s).2.2.chg = s.chg := (opS_keep s).2.2.2.1
theorem opS_quota (s : DS) : (opS s).2.2.quota = s.quota := (opS_keep s).2.2.2.2
theorem und_9 : Try.prog.underlying 9 = some (.string) := by kernel_rfl
theorem und_5 : Try.prog.underlying 5 = some (.int .u8) := by kernel_rfl
theorem isStr_9 : isStr Try.prog 9 = true := by kernel_rfl
theorem one_5 : oneOk Try.prog 5 = true := by kernel_rfl
theorem isConc_136 : isConc Try.prog 136 = true := by kernel_rfl
theorem zero_136 : zeroOk Try.prog 136 (.agg #[.string ⟨#[]⟩, .pointer none]) := zero_mk (by kernel_rfl)
theorem agg_136 : aggOk Try.prog 136 2 = true := by kernel_rfl
theorem fo_136_0 : fieldOk Try.prog 136 0 0 = true := by kernel_rfl
theorem fo_136_1 : fieldOk Try.prog 136 1 1 = true := by kernel_rfl
theorem one_123 : oneOk Try.prog 123 = true := by kernel_rfl
theorem isConc_140 : isConc Try.prog 140 = true := by kernel_rfl
theorem zero_140 : zeroOk Try.prog 140 (.agg #[.string ⟨#[]⟩, .string ⟨#[]⟩]) := zero_mk (by kernel_rfl)
theorem isConc_142 : isConc Try.prog 142 = true := by kernel_rfl
theorem zero_142 : zeroOk Try.prog 142 (.agg #[.string ⟨#[]⟩]) := zero_mk (by kernel_rfl)
theorem agg_142 : aggOk Try.prog 142 1 = true := by kernel_rfl
theorem fo_142_0 : fieldOk Try.prog 142 0 0 = true := by kernel_rfl
theorem agg_140 : aggOk Try.prog 140 2 = true := by kernel_rfl
theorem fo_140_0 : fieldOk Try.prog 140 0 0 = true := by kernel_rfl
theorem zero_123 : zeroOk Try.prog 123 (.pointer none) := zero_mk (by kernel_rfl)
theorem fo_140_1 : fieldOk Try.prog 140 1 1 = true := by kernel_rfl
theorem enters_83 : Enters Try.prog 83 := enters_of Try.func83 (by kernel_rfl) (by kernel_rfl)
theorem enters_77 : Enters Try.prog 77 := enters_of Try.func77 (by kernel_rfl) (by kernel_rfl)
theorem fo_87_4 : fieldOk Try.prog 87 4 7 = true := by kernel_rfl
theorem one_85 : oneOk Try.prog 85 = true := by kernel_rfl
theorem und_85 : Try.prog.underlying 85 = some (.slice 20) := by kernel_rfl
theorem ty_20 : tyOk Try.prog 20 1 16 .nilIface := ty_mk (by kernel_rfl) rfl
theorem zs_20_1 : ((Array.range (1 * 1)).map ((.nilIface : Value).cells[· % (.nilIface : Value).cells.size]!)) = #[.nilIface] := by kernel_rfl
set_option maxRecDepth 100000 in
set_option maxHeartbeats 8000000 in
theorem right_tri (B : Ctx) (s : ByteArray) (hs : s.size ≤ 9223372036854775807) :
    Tri Try.prog B 81 #[.string s] [] (fun u M => u = .bool (rightB s) ∧ M = []) := by
  refine tri_body (n := 27) Try.func81 rfl rfl rfl ?_
  intro F
  show WC _ _ _ _ _ _ _ [(0, .string s)] [F]
  refine wc_seq ?_
  refine wc_region ?_
  refine wl_1 trivial rfl (do_assign rfl) ?_
  refine wl_nil ?_
  refine at_then ?_
  refine wc_seq ?_
  refine wc_seq ?_
  refine wc_region ?_
  refine wl_1 trivial rfl (do_move rfl) ?_
  refine wl_do trivial rfl (do_convSB und_9 und_32 und_5 rfl (by simp [maxLen]; omega)) ?_
  rintro _ _ ⟨b1, cap2, cs3, rfl, rfl, h4, h5⟩
  refine wl_1 trivial rfl (do_lenSlice rfl isSlice_32 rfl) ?_
  refine wl_1 trivial rfl (do_move rfl) ?_
  refine wl_nil ?_
  refine at_then ?_
  refine wc_block ?_
  refine wc_loop (fun (k : Nat) => k ≤ s.size ∧ finePre s k) (fun (k : Nat) => [(0, .string s), (6, .slice (some ⟨b1, 0, none⟩) ((s : ByteArray).size) cap2), (7, .int .i64 (((s : ByteArray).size : Nat) : Int)), (8, .int .i64 ((k : Nat) : Int))]) (fun (k : Nat) => [pt b1 (.cells cs3 5 (cs3.size, cs3.size + 1)), F]) (fun (k : Nat) => s.size - k) 0 ⟨by omega, fun j hj => by omega⟩ ⟨rfl, rfl, rfl, rfl, trivial⟩ rfl ?_
  rintro k hphi
  obtain ⟨hk, hpre⟩ := hphi
  show WC _ _ _ _ _ _ _ [(0, .string s), (6, .slice (some ⟨b1, 0, none⟩) ((s : ByteArray).size) cap2), (7, .int .i64 (((s : ByteArray).size : Nat) : Int)), (8, .int .i64 ((k : Nat) : Int))] [pt b1 (.cells cs3 5 (cs3.size, cs3.size + 1)), F]
  have hlo := byteAt_lo s k
  have hhi := byteAt_hi s k
  refine wc_seq ?_
  refine wc_region ?_
  obtain ⟨c6, h_c6⟩ : ∃ c : Bool, cmpB .lss ((k : Nat) : Int) (((s : ByteArray).size : Nat) : Int) = some c := ⟨_, rfl⟩
  refine wl_1 trivial rfl (do_cmp rfl rfl h_c6) ?_
  refine wl_nil ?_
  refine at_then ?_
  refine wc_seq ?_
  cases c6
  · have p_c6 := cmp_lss_f h_c6
    refine wc_false rfl ?_
    refine wc_exit ?_
    refine at_then_exit ?_
    refine at_then_exit ?_
    refine at_block_it ?_
    refine at_then ?_
    refine wc_seq ?_
    refine wc_region ?_
    refine wl_1 trivial rfl (do_move rfl) ?_
    refine wl_1 trivial rfl (do_lenStr rfl isStr_9 rfl) ?_
    obtain ⟨c7, h_c7⟩ : ∃ c : Bool, cmpB .geq (((s : ByteArray).size : Nat) : Int) 1 = some c := ⟨_, rfl⟩
    refine wl_1 trivial rfl (do_cmp rfl rfl h_c7) ?_
    refine wl_1 trivial rfl (do_move rfl) ?_
    cases c7
    · have p_c7 := cmp_geq_f h_c7
      refine wl_no rfl rfl rfl rfl rfl ?_
      refine wl_no rfl rfl rfl rfl rfl ?_
      refine wl_no rfl rfl rfl rfl rfl ?_
      refine wl_1 trivial rfl (do_pickF rfl rfl) ?_
      refine wl_1 trivial rfl (do_assign rfl) ?_
      refine wl_nil ?_
      refine at_then ?_
      refine wc_ret ?_
      refine at_pick (M := [_]) [1] ⟨rfl, trivial⟩ (by decide) ?_
      exact at_ret1 (M := []) rfl rfl ⟨by rw [right_yes hpre (by omega)]; simp; omega, rfl⟩ rfl
    · have p_c7 := cmp_geq_t h_c7
      refine wl_1 ⟨_, rfl, rfl⟩ rfl (do_move rfl) ?_
      refine wl_1 ⟨_, rfl, rfl⟩ rfl (do_lenStr rfl isStr_9 rfl) ?_
      obtain ⟨c8, h_c8⟩ : ∃ c : Bool, cmpB .leq (((s : ByteArray).size : Nat) : Int) 64 = some c := ⟨_, rfl⟩
      refine wl_1 ⟨_, rfl, rfl⟩ rfl (do_cmp rfl rfl h_c8) ?_
      refine wl_1 trivial rfl (do_pickT rfl rfl) ?_
      refine wl_1 trivial rfl (do_assign rfl) ?_
      refine wl_nil ?_
      refine at_then ?_
      refine wc_ret ?_
      cases c8
      · have p_c8 := cmp_leq_f h_c8
        refine at_pick (M := [_]) [1] ⟨rfl, trivial⟩ (by decide) ?_
        exact at_ret1 (M := []) rfl rfl ⟨by rw [right_yes hpre (by omega)]; simp; omega, rfl⟩ rfl
      · have p_c8 := cmp_leq_t h_c8
        refine at_pick (M := [_]) [1] ⟨rfl, trivial⟩ (by decide) ?_
        exact at_ret1 (M := []) rfl rfl ⟨by rw [right_yes hpre (by omega)]; simp; omega, rfl⟩ rfl
  · have p_c6 := cmp_lss_t h_c6
    refine wc_true rfl ?_
    refine wc_skip ?_
    refine at_then ?_
    refine wc_seq ?_
    refine wc_block ?_
    refine wc_seq ?_
    refine wc_region ?_
    refine wl_1 trivial rfl (do_indexAddr (j := k) (p := k) und_32 ty_5 rfl rfl rfl (by omega) (by omega)) ?_
    refine wl_1 trivial rfl (do_load 0 rfl one_5 rfl (cell_byv h5 (by omega))) ?_
    refine wl_1 trivial rfl (do_assign rfl) ?_
    refine wl_nil ?_
    refine at_then ?_
    refine wc_seq ?_
    refine wc_region ?_
    refine wl_1 trivial rfl (do_move rfl) ?_
    obtain ⟨c9, h_c9⟩ : ∃ c : Bool, cmpB .lss (byteAt s k) 33 = some c := ⟨_, rfl⟩
    refine wl_1 trivial rfl (do_cmp rfl rfl h_c9) ?_
    refine wl_1 trivial rfl (do_move rfl) ?_
    cases c9
    · have p_c9 := cmp_lss_f h_c9
      refine wl_1 ⟨_, rfl, rfl⟩ rfl (do_move rfl) ?_
      obtain ⟨c10, h_c10⟩ : ∃ c : Bool, cmpB .gtr (byteAt s k) 126 = some c := ⟨_, rfl⟩
      refine wl_1 ⟨_, rfl, rfl⟩ rfl (do_cmp rfl rfl h_c10) ?_
      refine wl_1 trivial rfl (do_pickF rfl rfl) ?_
      refine wl_nil ?_
      refine at_then ?_
      cases c10
      · have p_c10 := cmp_gtr_f h_c10
        refine wc_false rfl ?_
        refine wc_skip ?_
        refine at_block ?_
        refine at_then ?_
        refine wc_region ?_
        refine wl_1 trivial rfl (do_add (r := ((k + 1 : Nat) : Int)) rfl rfl (wrap_nat (by omega) (by omega))) ?_
        refine wl_1 trivial rfl (do_move rfl) ?_
        refine wl_nil ?_
        exact at_round (k + 1) ⟨by omega, finePre_succ hpre (by omega) (by omega)⟩ (by omega) ⟨rfl, rfl, rfl, rfl, trivial⟩ rfl
      · have p_c10 := cmp_gtr_t h_c10
        refine wc_true rfl ?_
        refine wc_seq ?_
        refine wc_region ?_
        refine wl_1 trivial rfl (do_assign rfl) ?_
        refine wl_nil ?_
        refine at_then ?_
        refine wc_ret ?_
        refine at_block_ret ?_
        refine at_then_ret ?_
        refine at_then_ret ?_
        refine at_block_ret ?_
        refine at_then_ret ?_
        refine at_pick (M := [_]) [1] ⟨rfl, trivial⟩ (by decide) ?_
        exact at_ret1 (M := []) rfl rfl ⟨by rw [right_no (k := k) (by omega) (by omega)], rfl⟩ rfl
    · have p_c9 := cmp_lss_t h_c9
      refine wl_no rfl rfl rfl rfl rfl ?_
      refine wl_no rfl rfl rfl rfl rfl ?_
      refine wl_1 trivial rfl (do_pickT rfl rfl) ?_
      refine wl_nil ?_
      refine at_then ?_
      refine wc_true rfl ?_
      refine wc_seq ?_
      refine wc_region ?_
      refine wl_1 trivial rfl (do_assign rfl) ?_
      refine wl_nil ?_
      refine at_then ?_
      refine wc_ret ?_
      refine at_block_ret ?_
      refine at_then_ret ?_
      refine at_then_ret ?_
      refine at_block_ret ?_
      refine at_then_ret ?_
      refine at_pick (M := [_]) [1] ⟨rfl, trivial⟩ (by decide) ?_
      exact at_ret1 (M := []) rfl rfl ⟨by rw [right_no (k := k) (by omega) (by omega)], rfl⟩ rfl

set_option maxRecDepth 100000 in
set_option maxHeartbeats 8000000 in
theorem do_made (B : Ctx) (n : Nat) (fb : List Nat) (m : List (ByteArray × Nat)) (k : ByteArray) (i : Nat) :
    Tri Try.prog B 77 #[.map (some n), .iface 136 (.agg #[.string k, (ptF fb i)])] [mapA encS n (pv fb m)] (fun u M => u = .tuple #[] ∧ M = [mapA encS n (pv fb (doC m (.made k i)))]) := by
  refine tri_body (n := 42) Try.func77 rfl rfl rfl ?_
  intro F
  show WC _ _ _ _ _ _ _ [(0, .map (some n)), (1, .iface 136 (.agg #[.string k, (ptF fb i)]))] [mapA encS n (pv fb m), F]
  refine wc_seq ?_
  refine wc_region ?_
  refine wl_1 trivial rfl (do_move rfl) ?_
  refine wl_nil ?_
  refine at_then ?_
  refine wc_block ?_
  refine wc_seq ?_
  refine wc_region ?_
  refine wl_1 trivial rfl (do_assertT isConc_136 rfl) ?_
  refine wl_1 trivial rfl (do_extract rfl rfl) ?_
  refine wl_1 trivial rfl (do_extract rfl rfl) ?_
  refine wl_nil ?_
  refine at_then ?_
  refine wc_true rfl ?_
  refine wc_seq ?_
  refine wc_region ?_
  refine wl_do trivial rfl (do_alloc zero_136 rfl) ?_
  rintro _ _ ⟨b1, rfl, rfl⟩
  refine wl_1 trivial rfl (do_storeL (L1 := []) rfl rfl agg_136 rfl (cs' := #[.string k, (ptF fb i)]) rfl trivial) ?_
  refine wl_nil ?_
  refine at_then ?_
  refine wc_region ?_
  refine wl_1 trivial rfl (do_move rfl) ?_
  refine wl_1 trivial rfl (do_fieldAddr (k := 0) (k' := 0) fo_136_0 rfl (by rfl)) ?_
  refine wl_1 trivial rfl (do_load 0 rfl one_9 rfl rfl) ?_
  refine wl_1 trivial rfl (do_fieldAddr (k := 1) (k' := 1) fo_136_1 rfl (by rfl)) ?_
  refine wl_1 trivial rfl (do_load 0 rfl one_123 rfl rfl) ?_
  refine wl_1 trivial rfl (do_mapUpdate (L1 := [_]) und_84 key_9 rfl rfl rfl) ?_
  refine wl_nil ?_
  refine at_block ?_
  refine at_pick (M := [_, _]) [1, 2] ⟨rfl, rfl, trivial⟩ (by decide) ?_
  exact at_end0 (M := [_]) rfl ⟨rfl, by rw [pv_put]; rfl⟩ rfl

set_option maxRecDepth 100000 in
set_option maxHeartbeats 8000000 in
theorem do_del (B : Ctx) (n : Nat) (fb : List Nat) (m : List (ByteArray × Nat)) (k : ByteArray) :
    Tri Try.prog B 77 #[.map (some n), .iface 142 (.agg #[.string k])] [mapA encS n (pv fb m)] (fun u M => u = .tuple #[] ∧ M = [mapA encS n (pv fb (doC m (.del k)))]) := by
  refine tri_body (n := 42) Try.func77 rfl rfl rfl ?_
  intro F
  show WC _ _ _ _ _ _ _ [(0, .map (some n)), (1, .iface 142 (.agg #[.string k]))] [mapA encS n (pv fb m), F]
  refine wc_seq ?_
  refine wc_region ?_
  refine wl_1 trivial rfl (do_move rfl) ?_
  refine wl_nil ?_
  refine at_then ?_
  refine wc_block ?_
  refine wc_seq ?_
  refine wc_region ?_
  refine wl_1 trivial rfl (do_assertF isConc_136 rfl rfl zero_136) ?_
  refine wl_1 trivial rfl (do_extract rfl rfl) ?_
  refine wl_1 trivial rfl (do_extract rfl rfl) ?_
  refine wl_nil ?_
  refine at_then ?_
  refine wc_false rfl ?_
  refine wc_seq ?_
  refine wc_region ?_
  refine wl_1 trivial rfl (do_assertF isConc_140 rfl rfl zero_140) ?_
  refine wl_1 trivial rfl (do_extract rfl rfl) ?_
  refine wl_1 trivial rfl (do_extract rfl rfl) ?_
  refine wl_nil ?_
  refine at_then ?_
  refine wc_false rfl ?_
  refine wc_seq ?_
  refine wc_region ?_
  refine wl_1 trivial rfl (do_assertT isConc_142 rfl) ?_
  refine wl_1 trivial rfl (do_extract rfl rfl) ?_
  refine wl_1 trivial rfl (do_extract rfl rfl) ?_
  refine wl_nil ?_
  refine at_then ?_
  refine wc_true rfl ?_
  refine wc_seq ?_
  refine wc_region ?_
  refine wl_do trivial rfl (do_alloc zero_142 rfl) ?_
  rintro _ _ ⟨b1, rfl, rfl⟩
  refine wl_1 trivial rfl (do_storeL (L1 := []) rfl rfl agg_142 rfl (cs' := #[.string k]) rfl trivial) ?_
  refine wl_nil ?_
  refine at_then ?_
  refine wc_region ?_
  refine wl_1 trivial rfl (do_move rfl) ?_
  refine wl_1 trivial rfl (do_fieldAddr (k := 0) (k' := 0) fo_142_0 rfl (by rfl)) ?_
  refine wl_1 trivial rfl (do_load 0 rfl one_9 rfl rfl) ?_
  refine wl_1 trivial rfl (do_delete (L1 := [_]) rfl und_84 key_9 rfl rfl) ?_
  refine wl_nil ?_
  refine at_block ?_
  refine at_pick (M := [_, _]) [1, 2] ⟨rfl, rfl, trivial⟩ (by decide) ?_
  exact at_end0 (M := [_]) rfl ⟨rfl, by rw [pv_del]; rfl⟩ rfl

set_option maxRecDepth 100000 in
set_option maxHeartbeats 8000000 in
theorem do_ren (B : Ctx) (n : Nat) (fb : List Nat) (m : List (ByteArray × Nat)) (a b : ByteArray) :
    Tri Try.prog B 77 #[.map (some n), .iface 140 (.agg #[.string a, .string b])] [mapA encS n (pv fb m)] (fun u M => u = .tuple #[] ∧ M = [mapA encS n (pv fb (doC m (.ren a b)))]) := by
  refine tri_body (n := 42) Try.func77 rfl rfl rfl ?_
  intro F
  show WC _ _ _ _ _ _ _ [(0, .map (some n)), (1, .iface 140 (.agg #[.string a, .string b]))] [mapA encS n (pv fb m), F]
  refine wc_seq ?_
  refine wc_region ?_
  refine wl_1 trivial rfl (do_move rfl) ?_
  refine wl_nil ?_
  refine at_then ?_
  refine wc_block ?_
  refine wc_seq ?_
  refine wc_region ?_
  refine wl_1 trivial rfl (do_assertF isConc_136 rfl rfl zero_136) ?_
  refine wl_1 trivial rfl (do_extract rfl rfl) ?_
  refine wl_1 trivial rfl (do_extract rfl rfl) ?_
  refine wl_nil ?_
  refine at_then ?_
  refine wc_false rfl ?_
  refine wc_seq ?_
  refine wc_region ?_
  refine wl_1 trivial rfl (do_assertT isConc_140 rfl) ?_
  refine wl_1 trivial rfl (do_extract rfl rfl) ?_
  refine wl_1 trivial rfl (do_extract rfl rfl) ?_
  refine wl_nil ?_
  refine at_then ?_
  refine wc_true rfl ?_
  refine wc_seq ?_
  refine wc_region ?_
  refine wl_do trivial rfl (do_alloc zero_140 rfl) ?_
  rintro _ _ ⟨b1, rfl, rfl⟩
  refine wl_1 trivial rfl (do_storeL (L1 := []) rfl rfl agg_140 rfl (cs' := #[.string a, .string b]) rfl trivial) ?_
  refine wl_nil ?_
  refine at_then ?_
  refine wc_seq ?_
  refine wc_region ?_
  refine wl_1 trivial rfl (do_move rfl) ?_
  refine wl_1 trivial rfl (do_fieldAddr (k := 0) (k' := 0) fo_140_0 rfl (by rfl)) ?_
  refine wl_1 trivial rfl (do_load 0 rfl one_9 rfl rfl) ?_
  rcases hg2 : aget (pv fb m) a with _ | v3
  · skip
    refine wl_1 trivial rfl (do_lookup2N und_84 key_9 zero_123 1 rfl rfl rfl hg2) ?_
    refine wl_1 trivial rfl (do_move rfl) ?_
    refine wl_1 trivial rfl (do_extract rfl rfl) ?_
    refine wl_1 trivial rfl (do_extract rfl rfl) ?_
    refine wl_1 trivial rfl (do_assign rfl) ?_
    refine wl_1 trivial rfl (do_assign rfl) ?_
    refine wl_nil ?_
    refine at_then ?_
    refine wc_seq ?_
    refine wc_region ?_
    refine wl_1 trivial rfl (do_move rfl) ?_
    refine wl_nil ?_
    refine at_then ?_
    refine wc_false rfl ?_
    refine wc_skip ?_
    refine at_block ?_
    refine at_pick (M := [_, _]) [1, 2] ⟨rfl, rfl, trivial⟩ (by decide) ?_
    exact at_end0 (M := [_]) rfl ⟨rfl, by simp only [doC, pv_none hg2]⟩ rfl
  · skip
    obtain ⟨iv3, hiv3, rfl⟩ := pv_some hg2
    refine wl_1 trivial rfl (do_lookup2S und_84 key_9 zero_123 1 rfl rfl rfl hg2) ?_
    refine wl_1 trivial rfl (do_move rfl) ?_
    refine wl_1 trivial rfl (do_extract rfl rfl) ?_
    refine wl_1 trivial rfl (do_extract rfl rfl) ?_
    refine wl_1 trivial rfl (do_assign rfl) ?_
    refine wl_1 trivial rfl (do_assign rfl) ?_
    refine wl_nil ?_
    refine at_then ?_
    refine wc_seq ?_
    refine wc_region ?_
    refine wl_1 trivial rfl (do_move rfl) ?_
    refine wl_nil ?_
    refine at_then ?_
    refine wc_true rfl ?_
    refine wc_seq ?_
    refine wc_region ?_
    refine wl_1 trivial rfl (do_move rfl) ?_
    refine wl_1 trivial rfl (do_fieldAddr (k := 0) (k' := 0) fo_140_0 rfl (by rfl)) ?_
    refine wl_1 trivial rfl (do_load 0 rfl one_9 rfl rfl) ?_
    refine wl_1 trivial rfl (do_delete (L1 := [_]) rfl und_84 key_9 rfl rfl) ?_
    refine wl_nil ?_
    refine at_then ?_
    refine wc_region ?_
    refine wl_1 trivial rfl (do_move rfl) ?_
    refine wl_1 trivial rfl (do_fieldAddr (k := 1) (k' := 1) fo_140_1 rfl (by rfl)) ?_
    refine wl_1 trivial rfl (do_load 0 rfl one_9 rfl rfl) ?_
    refine wl_1 trivial rfl (do_move rfl) ?_
    refine wl_1 trivial rfl (do_mapUpdate (L1 := [_]) und_84 key_9 rfl rfl rfl) ?_
    refine wl_nil ?_
    refine at_block ?_
    refine at_pick (M := [_, _]) [1, 2] ⟨rfl, rfl, trivial⟩ (by decide) ?_
    exact at_end0 (M := [_]) rfl ⟨rfl, by rw [pv_del, pv_put]; simp only [doC, hiv3]⟩ rfl

theorem do_tri (B : Ctx) (n : Nat) (fb : List Nat) (m : List (ByteArray × Nat)) (c : ChgD) : Tri Try.prog B 77 #[.map (some n), chgV fb c] [mapA encS n (pv fb m)] (fun u M => u = .tuple #[] ∧ M = [mapA encS n (pv fb (doC m c))]) := by
  cases c with
  | made k i => exact do_made B n fb m k i
  | ren a b => exact do_ren B n fb m a b
  | del a => exact do_del B n fb m a

set_option maxRecDepth 100000 in
set_option maxHeartbeats 8000000 in
theorem change_not (B : Ctx) (d n su : Nat) (cv : Value) (fb : List Nat) (s : DS) (v : Value) (N : Nat) (hs : DB s N) (hN : N ≤ 1000000) (hd : (opS s).2.1 = false) :
    Tri Try.prog B 82 #[.pointer (some ⟨d, 0, none⟩), v] [pt d (.cells #[.int .i64 s.count, .bool s.done, .int .i64 s.fuse, .bool s.off, .int .i64 s.quota, .map (some n), .map (some su), cv] 87 (0, 0))] (fun u M => u = .int .i64 (opS s).1 ∧ M = [pt d (.cells #[.int .i64 ((opS s).2.2.count), .bool ((opS s).2.2.done), .int .i64 ((opS s).2.2.fuse), .bool ((opS s).2.2.off), .int .i64 ((opS s).2.2.quota), .map (some n), .map (some su), cv] 87 (0, 0))]) := by
  refine tri_body (n := 32) Try.func82 rfl rfl rfl ?_
  intro F
  show WC _ _ _ _ _ _ _ [(0, .pointer (some ⟨d, 0, none⟩)), (1, v)] [pt d (.cells #[.int .i64 s.count, .bool s.done, .int .i64 s.fuse, .bool s.off, .int .i64 s.quota, .map (some n), .map (some su), cv] 87 (0, 0)), F]
  have hs0 := hs
  obtain ⟨hwn, hws, hwc, hf1, hn1, hc1, hb1, hp1, hq0, hq1, hk0, hk1, hu0, hu1, hnn, hns⟩ := hs
  refine wc_seq ?_
  refine wc_region ?_
  refine wl_1 trivial rfl (do_assign rfl) ?_
  refine wl_nil ?_
  refine at_then ?_
  refine wc_seq ?_
  refine wc_region ?_
  refine wl_1 trivial rfl (do_move rfl) ?_
  refine wl_1 trivial rfl (do_nilCheck rfl) ?_
  refine wl_1 trivial rfl (do_fieldAddr (k := 0) (k' := 0) fo_87_0 rfl (by rfl)) ?_
  refine wl_do trivial rfl (do_call (oper_tri B d n su cv fb s N hs0 hN) ⟨rfl, trivial⟩ enters_83 [0] [1] ⟨rfl, trivial⟩ ⟨rfl, trivial⟩ (R := [_]) (by decide)) ?_
  rintro _ _ ⟨_, ⟨rfl, rfl⟩, rfl⟩
  refine wl_1 trivial rfl (do_move rfl) ?_
  refine wl_1 trivial rfl (do_extract rfl rfl) ?_
  refine wl_1 trivial rfl (do_extract rfl rfl) ?_
  refine wl_1 trivial rfl (do_assign rfl) ?_
  refine wl_1 trivial rfl (do_assign rfl) ?_
  refine wl_nil ?_
  refine at_then ?_
  refine wc_seq ?_
  refine wc_seq ?_
  refine wc_region ?_
  refine wl_1 trivial rfl (do_move rfl) ?_
  refine wl_nil ?_
  refine at_then ?_
  have hb1 : (opS s).2.1 = false := hd
  rw [hb1]
  refine wc_false rfl ?_
  refine wc_skip ?_
  refine at_then ?_
  refine wc_seq ?_
  refine wc_region ?_
  refine wl_1 trivial rfl (do_move rfl) ?_
  refine wl_1 trivial rfl (do_assign rfl) ?_
  refine wl_nil ?_
  refine at_then ?_
  refine wc_ret ?_
  exact at_ret1 (M := [_]) rfl rfl ⟨rfl, rfl⟩ rfl

set_option maxRecDepth 100000 in
set_option maxHeartbeats 8000000 in
theorem change_done_made (B : Ctx) (d n su : Nat) (cv : Value) (fb : List Nat) (s : DS) (k : ByteArray) (i : Nat) (N : Nat) (hs : DB s N) (hN : N ≤ 1000000) (hd : (opS s).2.1 = true) :
    Tri Try.prog B 82 #[.pointer (some ⟨d, 0, none⟩), .iface 136 (.agg #[.string k, (ptF fb i)])] [pt d (.cells #[.int .i64 s.count, .bool s.done, .int .i64 s.fuse, .bool s.off, .int .i64 s.quota, .map (some n), .map (some su), cv] 87 (0, 0)), mapA encS n (pv fb s.now), row 20 1 cv s.chg.length (s.chg.map (chgV fb))] (fun u M => ∃ cv', u = .int .i64 (opS s).1 ∧ M = [pt d (.cells #[.int .i64 ((opS s).2.2.count), .bool ((opS s).2.2.done), .int .i64 ((opS s).2.2.fuse), .bool ((opS s).2.2.off), .int .i64 ((opS s).2.2.quota), .map (some n), .map (some su), cv'] 87 (0, 0)), mapA encS n (pv fb (doC s.now (ChgD.made k i))), row 20 1 cv' ((s.chg ++ [(ChgD.made k i)]).length) ((s.chg ++ [(ChgD.made k i)]).map (chgV fb))]) := by
  refine tri_body (n := 32) Try.func82 rfl rfl rfl ?_
  intro F
  show WC _ _ _ _ _ _ _ [(0, .pointer (some ⟨d, 0, none⟩)), (1, .iface 136 (.agg #[.string k, (ptF fb i)]))] [pt d (.cells #[.int .i64 s.count, .bool s.done, .int .i64 s.fuse, .bool s.off, .int .i64 s.quota, .map (some n), .map (some su), cv] 87 (0, 0)), mapA encS n (pv fb s.now), row 20 1 cv s.chg.length (s.chg.map (chgV fb)), F]
  have hs0 := hs
  obtain ⟨hwn, hws, hwc, hf1, hn1, hc1, hb1, hp1, hq0, hq1, hk0, hk1, hu0, hu1, hnn, hns⟩ := hs
  refine wc_seq ?_
  refine wc_region ?_
  refine wl_1 trivial rfl (do_assign rfl) ?_
  refine wl_nil ?_
  refine at_then ?_
  refine wc_seq ?_
  refine wc_region ?_
  refine wl_1 trivial rfl (do_move rfl) ?_
  refine wl_1 trivial rfl (do_nilCheck rfl) ?_
  refine wl_1 trivial rfl (do_fieldAddr (k := 0) (k' := 0) fo_87_0 rfl (by rfl)) ?_
  refine wl_do trivial rfl (do_call (oper_tri B d n su cv fb s N hs0 hN) ⟨rfl, trivial⟩ enters_83 [0] [1, 2, 3] ⟨rfl, trivial⟩ ⟨rfl, rfl, rfl, trivial⟩ (R := [_, _, _]) (by decide)) ?_
  rintro _ _ ⟨_, ⟨rfl, rfl⟩, rfl⟩
  refine wl_1 trivial rfl (do_move rfl) ?_
  refine wl_1 trivial rfl (do_extract rfl rfl) ?_
  refine wl_1 trivial rfl (do_extract rfl rfl) ?_
  refine wl_1 trivial rfl (do_assign rfl) ?_
  refine wl_1 trivial rfl (do_assign rfl) ?_
  refine wl_nil ?_
  refine at_then ?_
  refine wc_seq ?_
  refine wc_seq ?_
  refine wc_region ?_
  refine wl_1 trivial rfl (do_move rfl) ?_
  refine wl_nil ?_
  refine at_then ?_
  have hb1 : (opS s).2.1 = true := hd
  rw [hb1]
  refine wc_true rfl ?_
  refine wc_seq ?_
  refine wc_region ?_
  refine wl_1 trivial rfl (do_move rfl) ?_
  refine wl_1 trivial rfl (do_nilCheck rfl) ?_
  refine wl_1 trivial rfl (do_fieldAddr (k := 5) (k' := 5) fo_87_2 rfl (by rfl)) ?_
  refine wl_1 trivial rfl (do_load 0 rfl one_84 rfl rfl) ?_
  refine wl_1 trivial rfl (do_move rfl) ?_
  refine wl_do trivial rfl (do_call (do_tri B n fb s.now (ChgD.made k i)) ⟨rfl, rfl, trivial⟩ enters_77 [1] [0, 2, 3] ⟨rfl, trivial⟩ ⟨rfl, rfl, rfl, trivial⟩ (R := [_, _, _]) (by decide)) ?_
  rintro _ _ ⟨_, ⟨rfl, rfl⟩, rfl⟩
  refine wl_nil ?_
  refine at_then ?_
  refine wc_region ?_
  refine wl_1 trivial rfl (do_move rfl) ?_
  refine wl_1 trivial rfl (do_move rfl) ?_
  refine wl_1 trivial rfl (do_nilCheck rfl) ?_
  refine wl_1 trivial rfl (do_fieldAddr (k := 7) (k' := 7) fo_87_4 rfl (by rfl)) ?_
  refine wl_1 trivial rfl (do_load 1 rfl one_85 rfl rfl) ?_
  refine wl_1 trivial rfl (do_move rfl) ?_
  refine wl_do trivial rfl (do_buildSlice (ps := [(0, .iface 136 (.agg #[.string k, (ptF fb i)]))]) ⟨rfl, rfl, trivial⟩ (bslice_mk zs_20_1 und_85 ty_20 (by decide) (by decide) rfl)) ?_
  rintro _ _ ⟨b2, rfl, rfl⟩
  refine wl_do trivial rfl (do_append (L1 := [_, _, _]) (news := [.iface 136 (.agg #[.string k, (ptF fb i)])]) und_85 ty_20 (by decide) rfl rfl rfl (reads_pt (i := 0) rfl rfl) (one_list rfl) (by simp [maxLen]; omega) (by omega)) ?_
  rintro v3 _ ⟨hv3, ov3, rfl⟩
  refine wl_1 trivial rfl (do_nilCheck rfl) ?_
  refine wl_1 trivial rfl (do_fieldAddr (k := 7) (k' := 7) fo_87_4 rfl (by rfl)) ?_
  refine wl_1 trivial rfl (do_store (L1 := [_, _]) rfl rfl one_85 ov3 rfl (cs' := #[.int .i64 ((opS s).2.2.count), .bool ((opS s).2.2.done), .int .i64 ((opS s).2.2.fuse), .bool ((opS s).2.2.off), .int .i64 ((opS s).2.2.quota), .map (some n), .map (some su), v3]) rfl) ?_
  refine wl_nil ?_
  refine at_then ?_
  refine wc_seq ?_
  refine wc_region ?_
  refine wl_1 trivial rfl (do_move rfl) ?_
  refine wl_1 trivial rfl (do_assign rfl) ?_
  refine wl_nil ?_
  refine at_then ?_
  refine wc_ret ?_
  refine at_pick (M := [_, _, _, _]) [2, 1, 3, 4] ⟨rfl, rfl, rfl, rfl, trivial⟩ (by decide) ?_
  exact at_ret1 (M := [_, _, _]) rfl rfl ⟨v3, rfl, by simp only [List.length_append, List.map_append, List.length_cons, List.length_nil, List.map_cons, List.map_nil]; rfl⟩ rfl

set_option maxRecDepth 100000 in
set_option maxHeartbeats 8000000 in
theorem change_done_ren (B : Ctx) (d n su : Nat) (cv : Value) (fb : List Nat) (s : DS) (a b : ByteArray) (N : Nat) (hs : DB s N) (hN : N ≤ 1000000) (hd : (opS s).2.1 = true) :
    Tri Try.prog B 82 #[.pointer (some ⟨d, 0, none⟩), .iface 140 (.agg #[.string a, .string b])] [pt d (.cells #[.int .i64 s.count, .bool s.done, .int .i64 s.fuse, .bool s.off, .int .i64 s.quota, .map (some n), .map (some su), cv] 87 (0, 0)), mapA encS n (pv fb s.now), row 20 1 cv s.chg.length (s.chg.map (chgV fb))] (fun u M => ∃ cv', u = .int .i64 (opS s).1 ∧ M = [pt d (.cells #[.int .i64 ((opS s).2.2.count), .bool ((opS s).2.2.done), .int .i64 ((opS s).2.2.fuse), .bool ((opS s).2.2.off), .int .i64 ((opS s).2.2.quota), .map (some n), .map (some su), cv'] 87 (0, 0)), mapA encS n (pv fb (doC s.now (ChgD.ren a b))), row 20 1 cv' ((s.chg ++ [(ChgD.ren a b)]).length) ((s.chg ++ [(ChgD.ren a b)]).map (chgV fb))]) := by
  refine tri_body (n := 32) Try.func82 rfl rfl rfl ?_
  intro F
  show WC _ _ _ _ _ _ _ [(0, .pointer (some ⟨d, 0, none⟩)), (1, .iface 140 (.agg #[.string a, .string b]))] [pt d (.cells #[.int .i64 s.count, .bool s.done, .int .i64 s.fuse, .bool s.off, .int .i64 s.quota, .map (some n), .map (some su), cv] 87 (0, 0)), mapA encS n (pv fb s.now), row 20 1 cv s.chg.length (s.chg.map (chgV fb)), F]
  have hs0 := hs
  obtain ⟨hwn, hws, hwc, hf1, hn1, hc1, hb1, hp1, hq0, hq1, hk0, hk1, hu0, hu1, hnn, hns⟩ := hs
  refine wc_seq ?_
  refine wc_region ?_
  refine wl_1 trivial rfl (do_assign rfl) ?_
  refine wl_nil ?_
  refine at_then ?_
  refine wc_seq ?_
  refine wc_region ?_
  refine wl_1 trivial rfl (do_move rfl) ?_
  refine wl_1 trivial rfl (do_nilCheck rfl) ?_
  refine wl_1 trivial rfl (do_fieldAddr (k := 0) (k' := 0) fo_87_0 rfl (by rfl)) ?_
  refine wl_do trivial rfl (do_call (oper_tri B d n su cv fb s N hs0 hN) ⟨rfl, trivial⟩ enters_83 [0] [1, 2, 3] ⟨rfl, trivial⟩ ⟨rfl, rfl, rfl, trivial⟩ (R := [_, _, _]) (by decide)) ?_
  rintro _ _ ⟨_, ⟨rfl, rfl⟩, rfl⟩
  refine wl_1 trivial rfl (do_move rfl) ?_
  refine wl_1 trivial rfl (do_extract rfl rfl) ?_
  refine wl_1 trivial rfl (do_extract rfl rfl) ?_
  refine wl_1 trivial rfl (do_assign rfl) ?_
  refine wl_1 trivial rfl (do_assign rfl) ?_
  refine wl_nil ?_
  refine at_then ?_
  refine wc_seq ?_
  refine wc_seq ?_
  refine wc_region ?_
  refine wl_1 trivial rfl (do_move rfl) ?_
  refine wl_nil ?_
  refine at_then ?_
  have hb1 : (opS s).2.1 = true := hd
  rw [hb1]
  refine wc_true rfl ?_
  refine wc_seq ?_
  refine wc_region ?_
  refine wl_1 trivial rfl (do_move rfl) ?_
  refine wl_1 trivial rfl (do_nilCheck rfl) ?_
  refine wl_1 trivial rfl (do_fieldAddr (k := 5) (k' := 5) fo_87_2 rfl (by rfl)) ?_
  refine wl_1 trivial rfl (do_load 0 rfl one_84 rfl rfl) ?_
  refine wl_1 trivial rfl (do_move rfl) ?_
  refine wl_do trivial rfl (do_call (do_tri B n fb s.now (ChgD.ren a b)) ⟨rfl, rfl, trivial⟩ enters_77 [1] [0, 2, 3] ⟨rfl, trivial⟩ ⟨rfl, rfl, rfl, trivial⟩ (R := [_, _, _]) (by decide)) ?_
  rintro _ _ ⟨_, ⟨rfl, rfl⟩, rfl⟩
  refine wl_nil ?_
  refine at_then ?_
  refine wc_region ?_
  refine wl_1 trivial rfl (do_move rfl) ?_
  refine wl_1 trivial rfl (do_move rfl) ?_
  refine wl_1 trivial rfl (do_nilCheck rfl) ?_
  refine wl_1 trivial rfl (do_fieldAddr (k := 7) (k' := 7) fo_87_4 rfl (by rfl)) ?_
  refine wl_1 trivial rfl (do_load 1 rfl one_85 rfl rfl) ?_
  refine wl_1 trivial rfl (do_move rfl) ?_
  refine wl_do trivial rfl (do_buildSlice (ps := [(0, .iface 140 (.agg #[.string a, .string b]))]) ⟨rfl, rfl, trivial⟩ (bslice_mk zs_20_1 und_85 ty_20 (by decide) (by decide) rfl)) ?_
  rintro _ _ ⟨b2, rfl, rfl⟩
  refine wl_do trivial rfl (do_append (L1 := [_, _, _]) (news := [.iface 140 (.agg #[.string a, .string b])]) und_85 ty_20 (by decide) rfl rfl rfl (reads_pt (i := 0) rfl rfl) (one_list rfl) (by simp [maxLen]; omega) (by omega)) ?_
  rintro v3 _ ⟨hv3, ov3, rfl⟩
  refine wl_1 trivial rfl (do_nilCheck rfl) ?_
  refine wl_1 trivial rfl (do_fieldAddr (k := 7) (k' := 7) fo_87_4 rfl (by rfl)) ?_
  refine wl_1 trivial rfl (do_store (L1 := [_, _]) rfl rfl one_85 ov3 rfl (cs' := #[.int .i64 ((opS s).2.2.count), .bool ((opS s).2.2.done), .int .i64 ((opS s).2.2.fuse), .bool ((opS s).2.2.off), .int .i64 ((opS s).2.2.quota), .map (some n), .map (some su), v3]) rfl) ?_
  refine wl_nil ?_
  refine at_then ?_
  refine wc_seq ?_
  refine wc_region ?_
  refine wl_1 trivial rfl (do_move rfl) ?_
  refine wl_1 trivial rfl (do_assign rfl) ?_
  refine wl_nil ?_
  refine at_then ?_
  refine wc_ret ?_
  refine at_pick (M := [_, _, _, _]) [2, 1, 3, 4] ⟨rfl, rfl, rfl, rfl, trivial⟩ (by decide) ?_
  exact at_ret1 (M := [_, _, _]) rfl rfl ⟨v3, rfl, by simp only [List.length_append, List.map_append, List.length_cons, List.length_nil, List.map_cons, List.map_nil]; rfl⟩ rfl

set_option maxRecDepth 100000 in
set_option maxHeartbeats 8000000 in
theorem change_done_del (B : Ctx) (d n su : Nat) (cv : Value) (fb : List Nat) (s : DS) (k : ByteArray) (N : Nat) (hs : DB s N) (hN : N ≤ 1000000) (hd : (opS s).2.1 = true) :
    Tri Try.prog B 82 #[.pointer (some ⟨d, 0, none⟩), .iface 142 (.agg #[.string k])] [pt d (.cells #[.int .i64 s.count, .bool s.done, .int .i64 s.fuse, .bool s.off, .int .i64 s.quota, .map (some n), .map (some su), cv] 87 (0, 0)), mapA encS n (pv fb s.now), row 20 1 cv s.chg.length (s.chg.map (chgV fb))] (fun u M => ∃ cv', u = .int .i64 (opS s).1 ∧ M = [pt d (.cells #[.int .i64 ((opS s).2.2.count), .bool ((opS s).2.2.done), .int .i64 ((opS s).2.2.fuse), .bool ((opS s).2.2.off), .int .i64 ((opS s).2.2.quota), .map (some n), .map (some su), cv'] 87 (0, 0)), mapA encS n (pv fb (doC s.now (ChgD.del k))), row 20 1 cv' ((s.chg ++ [(ChgD.del k)]).length) ((s.chg ++ [(ChgD.del k)]).map (chgV fb))]) := by
  refine tri_body (n := 32) Try.func82 rfl rfl rfl ?_
  intro F
  show WC _ _ _ _ _ _ _ [(0, .pointer (some ⟨d, 0, none⟩)), (1, .iface 142 (.agg #[.string k]))] [pt d (.cells #[.int .i64 s.count, .bool s.done, .int .i64 s.fuse, .bool s.off, .int .i64 s.quota, .map (some n), .map (some su), cv] 87 (0, 0)), mapA encS n (pv fb s.now), row 20 1 cv s.chg.length (s.chg.map (chgV fb)), F]
  have hs0 := hs
  obtain ⟨hwn, hws, hwc, hf1, hn1, hc1, hb1, hp1, hq0, hq1, hk0, hk1, hu0, hu1, hnn, hns⟩ := hs
  refine wc_seq ?_
  refine wc_region ?_
  refine wl_1 trivial rfl (do_assign rfl) ?_
  refine wl_nil ?_
  refine at_then ?_
  refine wc_seq ?_
  refine wc_region ?_
  refine wl_1 trivial rfl (do_move rfl) ?_
  refine wl_1 trivial rfl (do_nilCheck rfl) ?_
  refine wl_1 trivial rfl (do_fieldAddr (k := 0) (k' := 0) fo_87_0 rfl (by rfl)) ?_
  refine wl_do trivial rfl (do_call (oper_tri B d n su cv fb s N hs0 hN) ⟨rfl, trivial⟩ enters_83 [0] [1, 2, 3] ⟨rfl, trivial⟩ ⟨rfl, rfl, rfl, trivial⟩ (R := [_, _, _]) (by decide)) ?_
  rintro _ _ ⟨_, ⟨rfl, rfl⟩, rfl⟩
  refine wl_1 trivial rfl (do_move rfl) ?_
  refine wl_1 trivial rfl (do_extract rfl rfl) ?_
  refine wl_1 trivial rfl (do_extract rfl rfl) ?_
  refine wl_1 trivial rfl (do_assign rfl) ?_
  refine wl_1 trivial rfl (do_assign rfl) ?_
  refine wl_nil ?_
  refine at_then ?_
  refine wc_seq ?_
  refine wc_seq ?_
  refine wc_region ?_
  refine wl_1 trivial rfl (do_move rfl) ?_
  refine wl_nil ?_
  refine at_then ?_
  have hb1 : (opS s).2.1 = true := hd
  rw [hb1]
  refine wc_true rfl ?_
  refine wc_seq ?_
  refine wc_region ?_
  refine wl_1 trivial rfl (do_move rfl) ?_
  refine wl_1 trivial rfl (do_nilCheck rfl) ?_
  refine wl_1 trivial rfl (do_fieldAddr (k := 5) (k' := 5) fo_87_2 rfl (by rfl)) ?_
  refine wl_1 trivial rfl (do_load 0 rfl one_84 rfl rfl) ?_
  refine wl_1 trivial rfl (do_move rfl) ?_
  refine wl_do trivial rfl (do_call (do_tri B n fb s.now (ChgD.del k)) ⟨rfl, rfl, trivial⟩ enters_77 [1] [0, 2, 3] ⟨rfl, trivial⟩ ⟨rfl, rfl, rfl, trivial⟩ (R := [_, _, _]) (by decide)) ?_
  rintro _ _ ⟨_, ⟨rfl, rfl⟩, rfl⟩
  refine wl_nil ?_
  refine at_then ?_
  refine wc_region ?_
  refine wl_1 trivial rfl (do_move rfl) ?_
  refine wl_1 trivial rfl (do_move rfl) ?_
  refine wl_1 trivial rfl (do_nilCheck rfl) ?_
  refine wl_1 trivial rfl (do_fieldAddr (k := 7) (k' := 7) fo_87_4 rfl (by rfl)) ?_
  refine wl_1 trivial rfl (do_load 1 rfl one_85 rfl rfl) ?_
  refine wl_1 trivial rfl (do_move rfl) ?_
  refine wl_do trivial rfl (do_buildSlice (ps := [(0, .iface 142 (.agg #[.string k]))]) ⟨rfl, rfl, trivial⟩ (bslice_mk zs_20_1 und_85 ty_20 (by decide) (by decide) rfl)) ?_
  rintro _ _ ⟨b2, rfl, rfl⟩
  refine wl_do trivial rfl (do_append (L1 := [_, _, _]) (news := [.iface 142 (.agg #[.string k])]) und_85 ty_20 (by decide) rfl rfl rfl (reads_pt (i := 0) rfl rfl) (one_list rfl) (by simp [maxLen]; omega) (by omega)) ?_
  rintro v3 _ ⟨hv3, ov3, rfl⟩
  refine wl_1 trivial rfl (do_nilCheck rfl) ?_
  refine wl_1 trivial rfl (do_fieldAddr (k := 7) (k' := 7) fo_87_4 rfl (by rfl)) ?_
  refine wl_1 trivial rfl (do_store (L1 := [_, _]) rfl rfl one_85 ov3 rfl (cs' := #[.int .i64 ((opS s).2.2.count), .bool ((opS s).2.2.done), .int .i64 ((opS s).2.2.fuse), .bool ((opS s).2.2.off), .int .i64 ((opS s).2.2.quota), .map (some n), .map (some su), v3]) rfl) ?_
  refine wl_nil ?_
  refine at_then ?_
  refine wc_seq ?_
  refine wc_region ?_
  refine wl_1 trivial rfl (do_move rfl) ?_
  refine wl_1 trivial rfl (do_assign rfl) ?_
  refine wl_nil ?_
  refine at_then ?_
  refine wc_ret ?_
  refine at_pick (M := [_, _, _, _]) [2, 1, 3, 4] ⟨rfl, rfl, rfl, rfl, trivial⟩ (by decide) ?_
  exact at_ret1 (M := [_, _, _]) rfl rfl ⟨v3, rfl, by simp only [List.length_append, List.map_append, List.length_cons, List.length_nil, List.map_cons, List.map_nil]; rfl⟩ rfl

theorem change_done (B : Ctx) (d n su : Nat) (cv : Value) (fb : List Nat) (s : DS) (c : ChgD) (N : Nat) (hs : DB s N) (hN : N ≤ 1000000) (hd : (opS s).2.1 = true) : Tri Try.prog B 82 #[.pointer (some ⟨d, 0, none⟩), chgV fb c] [pt d (.cells #[.int .i64 s.count, .bool s.done, .int .i64 s.fuse, .bool s.off, .int .i64 s.quota, .map (some n), .map (some su), cv] 87 (0, 0)), mapA encS n (pv fb s.now), row 20 1 cv s.chg.length (s.chg.map (chgV fb))] (fun u M => ∃ cv', u = .int .i64 (opS s).1 ∧ M = [pt d (.cells #[.int .i64 ((opS s).2.2.count), .bool ((opS s).2.2.done), .int .i64 ((opS s).2.2.fuse), .bool ((opS s).2.2.off), .int .i64 ((opS s).2.2.quota), .map (some n), .map (some su), cv'] 87 (0, 0)), mapA encS n (pv fb (doC s.now c)), row 20 1 cv' ((s.chg ++ [c]).length) ((s.chg ++ [c]).map (chgV fb))]) := by
  cases c with
  | made k i => exact change_done_made B d n su cv fb s k i N hs hN hd
  | ren a b => exact change_done_ren B d n su cv fb s a b N hs hN hd
  | del k => exact change_done_del B d n su cv fb s k N hs hN hd
end Go.Proofs.Ytmefejfnddcelaa
