/- Printed by gen/simobj.py for this claim: what each of these functions of the program does, as its theorem says. No condition but what stands in each theorem. -/
import Derived.Test.YtmefejfnddcelaaOm
import Derived.Test.YtmefejfnddcelaaOf
namespace Go.Proofs.Ytmefejfnddcelaa
theorem zero_58 : zeroOk Try.prog 58 (.map none) := zero_mk (by kernel_rfl)
theorem enters_62 : Enters Try.prog 62 := enters_of Try.func62 (by kernel_rfl) (by kernel_rfl)
theorem enters_88 : Enters Try.prog 88 := enters_of Try.func88 (by kernel_rfl) (by kernel_rfl)
theorem fo_113_0 : fieldOk Try.prog 113 0 0 = true := by kernel_rfl
theorem fo_113_2 : fieldOk Try.prog 113 2 2 = true := by kernel_rfl
theorem enters_63 : Enters Try.prog 63 := enters_of Try.func63 (by kernel_rfl) (by kernel_rfl)
theorem enters_67 : Enters Try.prog 67 := enters_of Try.func67 (by kernel_rfl) (by kernel_rfl)
def hidF (m : List (ByteArray × Bool)) (l : List (ByteArray × Int × Bool)) : List (ByteArray × Bool) := l.foldl (fun m c => aput m c.1 (!c.2.2)) m
def allT (d : List ByteArray) : List (ByteArray × Bool) := d.map fun k => (k, true)
theorem allT_keys (d : List ByteArray) : akeys (allT d) = d := by
  induction d with
  | nil => rfl
  | cons a d ih => show a :: akeys (allT d) = a :: d; rw [ih]
theorem allT_put {d : List ByteArray} {k : ByteArray} (h : k ∉ d) : aput (bv (allT d)) k (.bool true) = bv (allT (d ++ [k])) := by
  rw [bv_put]
  congr 1
  induction d with
  | nil => rfl
  | cons a d ih =>
    simp only [List.mem_cons, not_or] at h
    show aput ((a, true) :: allT d) k true = (a, true) :: allT (d ++ [k])
    simp only [aput]
    rw [if_neg (fun e => h.1 e.symm), ih h.2]
theorem allT_get (d : List ByteArray) (k : ByteArray) : aget (allT d) k = if k ∈ d then some true else none := by
  induction d with
  | nil => rfl
  | cons a d ih =>
    show aget ((a, true) :: allT d) k = _
    simp only [aget]
    by_cases e : a = k
    · subst e; simp
    · rw [if_neg e, ih]
      by_cases h : k ∈ d
      · simp [h]
      · have : k ∉ a :: d := by simp [h, Ne.symm e]
        rw [if_neg h, if_neg this]
theorem hid_take {m : List (ByteArray × Bool)} {l : List (ByteArray × Int × Bool)} {j : Nat} {c : ByteArray × Int × Bool} (h : l[j]? = some c) : hidF m (l.take (j + 1)) = aput (hidF m (l.take j)) c.1 (!c.2.2) := by
  unfold hidF
  rw [List.take_add_one, h]
  simp [List.foldl_append]
theorem hidF_nodup {l : List (ByteArray × Int × Bool)} : ∀ {m : List (ByteArray × Bool)}, (akeys m).Nodup → (akeys (hidF m l)).Nodup := by
  induction l with
  | nil => intro m h; exact h
  | cons c l ih => intro m h; exact ih (nodup_aput h _ _)
theorem hidF_get {l : List (ByteArray × Int × Bool)} : ∀ {m m' : List (ByteArray × Bool)}, (∀ k, aget m k = aget m' k) → ∀ k, aget (hidF m l) k = aget (hidF m' l) k := by
  induction l with
  | nil => intro m m' h; exact h
  | cons c l ih => intro m m' h; exact ih fun k => by rw [aget_aput, aget_aput, h]
theorem hidF_len {l : List (ByteArray × Int × Bool)} : ∀ {m : List (ByteArray × Bool)}, (hidF m l).length ≤ m.length + l.length := by
  induction l with
  | nil => intro m; exact Nat.le_refl _
  | cons c l ih =>
    intro m
    have h1 := ih (m := aput m c.1 (!c.2.2))
    have h2 : (aput m c.1 (!c.2.2)).length ≤ m.length + 1 := by
      have := congrArg List.length (keys_aput m c.1 (!c.2.2))
      by_cases hk : c.1 ∈ akeys m
      · rw [if_pos hk] at this; simp only [akeys, List.length_map] at this; omega
      · rw [if_neg hk] at this; simp only [akeys, List.length_map, List.length_append, List.length_cons, List.length_nil] at this; omega
    show (hidF (aput m c.1 (!c.2.2)) l).length ≤ _
    simp only [List.length_cons]; omega
theorem keep_perm {m m' : List (ByteArray × Bool)} {p : ByteArray} (n1 : (akeys m).Nodup) (n2 : (akeys m').Nodup) (h : ∀ k, aget m k = aget m' k) : (akeys (m.filter (keepQ p))).Perm (akeys (m'.filter (keepQ p))) := by
  have hs : ∀ {m : List (ByteArray × Bool)}, (akeys m).Nodup → (akeys (m.filter (keepQ p))).Nodup := fun h => List.Sublist.nodup (List.Sublist.map _ List.filter_sublist) h
  have hm : ∀ {m : List (ByteArray × Bool)}, (akeys m).Nodup → ∀ x, x ∈ akeys (m.filter (keepQ p)) ↔ ∃ b, aget m x = some b ∧ keepQ p (x, b) = true := fun {m} hn x => by
    constructor
    · intro hx
      obtain ⟨q, hq, rfl⟩ := List.mem_map.1 hx
      obtain ⟨h1, h2⟩ := List.mem_filter.1 hq
      exact ⟨q.2, aget_of_mem hn h1, h2⟩
    · rintro ⟨b, h1, h2⟩
      exact List.mem_map.2 ⟨(x, b), List.mem_filter.2 ⟨aget_mem h1, h2⟩, rfl⟩
  exact (List.perm_ext_iff_of_nodup (hs n1) (hs n2)).2 fun x => by rw [hm n1, hm n2, h]
def viewS (s : SS) : List (ByteArray × Bool) := hidF (allT (akeys s.objs)) (hidL s)
def listK (p : ByteArray) (s : SS) : List ByteArray := sortB (akeys ((viewS s).filter (keepQ p)))
theorem listK_of {p : ByteArray} {s : SS} {d : List ByteArray} (hn : (akeys s.objs).Nodup) (h : d.Perm (akeys s.objs)) : sortB (akeys (bv ((hidF (allT d) (hidL s)).filter (keepQ p)))) = listK p s := by
  rw [bv_keys]
  refine sortB_perm (keep_perm (hidF_nodup (by rw [allT_keys]; exact h.nodup_iff.2 hn)) (hidF_nodup (by rw [allT_keys]; exact hn)) (hidF_get fun k => ?_))
  rw [allT_get, allT_get]
  by_cases e : k ∈ d
  · rw [if_pos e, if_pos (h.mem_iff.1 e)]
  · rw [if_neg e, if_neg (fun x => e (h.mem_iff.2 x))]
def listS (p : ByteArray) (s : SS) : Int × List ByteArray × SS :=
  if fineB p = false then (1, [], s) else if (callS s).1 = 0 then (0, listK p (callS s).2.2, (callS s).2.2) else ((callS s).1, [], (callS s).2.2)
theorem listS_bad {p : ByteArray} {s : SS} (h : fineB p = false) : listS p s = (1, [], s) := by unfold listS; rw [if_pos h]
theorem listS_err {p : ByteArray} {s : SS} (h : fineB p = true) (h2 : ¬ (callS s).1 = 0) : listS p s = ((callS s).1, [], (callS s).2.2) := by unfold listS; rw [if_neg (by simp [h]), if_neg h2]
theorem listS_ok {p : ByteArray} {s : SS} (h : fineB p = true) (h2 : (callS s).1 = 0) : listS p s = (0, listK p (callS s).2.2, (callS s).2.2) := by unfold listS; rw [if_neg (by simp [h]), if_pos h2]

set_option maxRecDepth 100000 in
set_option maxHeartbeats 8000000 in
theorem mkhid (B : Ctx) (b : Nat) :
    Tri Try.prog B 62 #[.pointer (some ⟨b, 0, none⟩)] [] (fun u M => ∃ g, u = .func (.func 88) #[] #[.pointer (some ⟨g, 0, none⟩)] ∧ M = [pt g (.cells #[.pointer (some ⟨b, 0, none⟩)] 23 (0, 0))]) := by
  refine tri_body (n := 4) Try.func62 rfl rfl rfl ?_
  intro F
  show WC _ _ _ _ _ _ _ [(0, .pointer (some ⟨b, 0, none⟩))] [F]
  refine wc_seq ?_
  refine wc_region ?_
  refine wl_do trivial rfl (do_box rfl rfl) ?_
  rintro _ _ ⟨b1, rfl, rfl⟩
  refine wl_1 trivial rfl (do_assign rfl) ?_
  refine wl_nil ?_
  refine at_then ?_
  refine wc_seq ?_
  refine wc_region ?_
  refine wl_1 trivial rfl (do_makeFunc (vs := []) (us := [.pointer (some ⟨b1, 0, none⟩)]) trivial ⟨rfl, trivial⟩) ?_
  refine wl_1 trivial rfl (do_assign rfl) ?_
  refine wl_nil ?_
  refine at_then ?_
  refine wc_ret ?_
  exact at_ret1 (M := [_]) rfl rfl ⟨b1, rfl, rfl⟩ rfl

set_option maxRecDepth 100000 in
set_option maxHeartbeats 8000000 in
theorem list_tri (B : Ctx) (b r : Nat) (v : Value) (lv : List (ByteArray × Value)) (s : SS) (p : ByteArray) (hok : SOk s) (hcl : s.calls ≤ 1099511627776) (hcg : s.chg.length ≤ 1099511627776) (hks : p.size ≤ 9223372036854775807) (hol : s.objs.length ≤ 1048576) :
    Tri Try.prog B 19 #[.pointer (some ⟨b, 0, none⟩), .string p] [pt b (.cells #[.map (some r), v, .int .i64 s.most, .int .i64 s.lag, .int .i64 s.now, .int .i64 s.calls, .int .i64 s.count, .bool s.done] 52 (0, 0)), mapA encS r lv, row 113 3 v s.chg.length (chgCells s.chg), valsA B lv s.objs] (fun u M => ∃ x, u = .tuple #[x, .int .i64 (listS p s).1] ∧ M = SL B b r v lv (listS p s).2.2 ++ [row 9 1 x ((listS p s).2.1.length) (((listS p s).2.1).map .string)]) := by
  refine tri_pure (φ := akeys lv = akeys s.objs) 3 rfl vals_fact fun hkeys => ?_
  refine tri_pure (φ := (akeys lv).Nodup) 1 rfl keys_fact fun hkn => ?_
  refine tri_bodyM (n := 49) Try.func19 rfl rfl rfl ?_
  intro F
  show WC _ _ _ _ _ _ _ [(0, .pointer (some ⟨b, 0, none⟩)), (1, .string p)] [pt b (.cells #[.map (some r), v, .int .i64 s.most, .int .i64 s.lag, .int .i64 s.now, .int .i64 s.calls, .int .i64 s.count, .bool s.done] 52 (0, 0)), mapA encS r lv, row 113 3 v s.chg.length (chgCells s.chg), valsA B lv s.objs, F]
  have hok0 := hok
  obtain ⟨hn0, hn1, hl0, hl1, hc0, hk0, hk1, hv1, hm0, hm1⟩ := hok
  have hcg2 : (callS s).2.2.chg.length ≤ 1099511627776 := by rw [callS_chg]; exact hcg
  have hnow2 : -1099511627776 ≤ (callS s).2.2.now ∧ (callS s).2.2.now ≤ 1099511627776 := by rw [callS_now]; omega
  have hlag2 : 0 ≤ (callS s).2.2.lag ∧ (callS s).2.2.lag ≤ 100 := by rw [callS_lag]; omega
  have hko : akeys lv = akeys (callS s).2.2.objs := by rw [callS_objs]; exact hkeys
  refine wc_seq ?_
  refine wc_region ?_
  refine wl_do trivial rfl (do_box rfl rfl) ?_
  rintro _ _ ⟨b1, rfl, rfl⟩
  refine wl_1 trivial rfl (do_assign rfl) ?_
  refine wl_1 trivial rfl (do_assign rfl) ?_
  refine wl_nil ?_
  refine at_then ?_
  refine wc_seq ?_
  refine wc_seq ?_
  refine wc_region ?_
  refine wl_1 trivial rfl (do_move rfl) ?_
  refine wl_do trivial rfl (do_call (none_made B b r v s.most s.lag s.now s.calls s.count s.done) ⟨rfl, trivial⟩ enters_59 [1] [0, 2, 3, 4, 5] ⟨rfl, trivial⟩ ⟨rfl, rfl, rfl, rfl, rfl, trivial⟩ (R := [_, _, _, _, _]) (by decide)) ?_
  rintro _ _ ⟨_, ⟨rfl, rfl⟩, rfl⟩
  refine wl_1 trivial rfl (do_move rfl) ?_
  refine wl_1 ⟨_, rfl, rfl⟩ rfl (do_load 1 rfl one_9 rfl rfl) ?_
  refine wl_do ⟨_, rfl, rfl⟩ rfl (do_call (fine_tri B p (by omega)) ⟨rfl, trivial⟩ enters_60 [] [0, 1, 2, 3, 4, 5] trivial ⟨rfl, rfl, rfl, rfl, rfl, rfl, trivial⟩ (R := [_, _, _, _, _, _]) (by decide)) ?_
  rintro _ _ ⟨_, ⟨rfl, rfl⟩, rfl⟩
  refine wl_1 ⟨_, rfl, rfl⟩ rfl (do_not (c := (fineB p)) rfl) ?_
  refine wl_1 trivial rfl (do_pickF rfl rfl) ?_
  refine wl_nil ?_
  refine at_then ?_
  cases hb2 : (fineB p)
  · skip
    refine wc_true rfl ?_
    refine wc_seq ?_
    refine wc_region ?_
    refine wl_1 trivial rfl (do_assign rfl) ?_
    refine wl_1 trivial rfl (do_assign rfl) ?_
    refine wl_nil ?_
    refine at_then ?_
    refine wc_ret ?_
    refine at_then_ret ?_
    refine at_mem (L' := [row 9 1 (.slice none 0 0) 0 ([]), pt b (.cells #[.map (some r), v, .int .i64 s.most, .int .i64 s.lag, .int .i64 s.now, .int .i64 s.calls, .int .i64 s.count, .bool s.done] 52 (0, 0)), pt b1 (.cells #[.string p] 9 (0, 0)), mapA encS r lv, row 113 3 v s.chg.length (chgCells s.chg), valsA B lv s.objs, F]) (fun w_ h_ => h_.intro row_nil) ?_
    refine at_pick (M := [_, _, _, _, _, _]) [1, 3, 4, 5, 0, 6] ⟨rfl, rfl, rfl, rfl, rfl, rfl, trivial⟩ (by decide) ?_
    refine at_retM ?_
    exact lv_2 (M := [_, _, _, _, _]) rfl rfl rfl ⟨_, by rw [listS_bad ‹_›], by rw [listS_bad ‹_›]; rfl⟩ rfl
  · skip
    refine wc_false rfl ?_
    refine wc_skip ?_
    refine at_then ?_
    refine wc_seq ?_
    refine wc_seq ?_
    refine wc_region ?_
    refine wl_1 trivial rfl (do_move rfl) ?_
    refine wl_do trivial rfl (do_call (call_none B b r v lv s hok0 hcl hcg) ⟨rfl, rfl, trivial⟩ enters_61 [0, 2, 3, 4] [1, 5] ⟨rfl, rfl, rfl, rfl, trivial⟩ ⟨rfl, rfl, trivial⟩ (R := [_, _]) (by decide)) ?_
    rintro _ _ ⟨_, ⟨rfl, rfl⟩, rfl⟩
    refine wl_1 trivial rfl (do_assign rfl) ?_
    refine wl_nil ?_
    refine at_then ?_
    refine wc_seq ?_
    refine wc_region ?_
    refine wl_1 trivial rfl (do_move rfl) ?_
    obtain ⟨c3, h_c3⟩ : ∃ c : Bool, cmpB .neq ((callS s).1) 0 = some c := ⟨_, rfl⟩
    refine wl_1 trivial rfl (do_cmp rfl rfl h_c3) ?_
    refine wl_nil ?_
    refine at_then ?_
    cases c3
    · have p_c3 := cmp_neq_f h_c3
      refine wc_false rfl ?_
      refine wc_skip ?_
      refine at_then ?_
      refine wc_seq ?_
      refine wc_region ?_
      refine wl_do trivial rfl do_makeMap ?_
      rintro _ _ ⟨b4, rfl, rfl⟩
      refine wl_mem (L' := [mapA encS b4 ([] : List (ByteArray × Value)), pt b (.cells #[.map (some r), v, .int .i64 ((callS s).2.2.most), .int .i64 ((callS s).2.2.lag), .int .i64 ((callS s).2.2.now), .int .i64 ((callS s).2.2.calls), .int .i64 ((callS s).2.2.count), .bool ((callS s).2.2.done)] 52 (0, 0)), mapA encS r lv, row 113 3 v ((callS s).2.2.chg.length) (chgCells ((callS s).2.2.chg)), valsA B lv ((callS s).2.2.objs), pt b1 (.cells #[.string p] 9 (0, 0)), F]) (fun w h => Sat.imp (L1 := []) h (fun _ => mapA_empty _)) ?_
      refine wl_do trivial rfl (do_alloc zero_58 rfl) ?_
      rintro _ _ ⟨b5, rfl, rfl⟩
      refine wl_1 trivial rfl (do_store (L1 := []) rfl rfl one_58 rfl rfl (cs' := #[.map (some b4)]) rfl) ?_
      refine wl_nil ?_
      refine at_then ?_
      refine wc_seq ?_
      refine wc_seq ?_
      refine wc_region ?_
      refine wl_1 trivial rfl (do_move rfl) ?_
      refine wl_1 trivial rfl (do_nilCheck rfl) ?_
      refine wl_1 trivial rfl (do_fieldAddr (k := 0) (k' := 0) fo_52_0 rfl (by rfl)) ?_
      refine wl_1 trivial rfl (do_load 2 rfl one_49 rfl rfl) ?_
      refine wl_do trivial rfl (do_range (M := [_, _, _, _, _, _, _]) 3 [0, 1, 2, 4, 5, 6, 7] isMap_49 rfl ⟨rfl, rfl, rfl, rfl, rfl, rfl, rfl, trivial⟩ rfl (by decide)) ?_
      rintro _ _ ⟨it6, rfl, rfl⟩
      refine wl_nil ?_
      refine at_then ?_
      refine wc_block ?_
      refine wc_loop (fun (dn : List ByteArray) => dn.Nodup ∧ ∀ k ∈ dn, k ∈ akeys lv) (fun (dn : List ByteArray) => [(0, .pointer (some ⟨b, 0, none⟩)), (3, .pointer (some ⟨b1, 0, none⟩)), (4, .slice none 0 0), (5, .int .i64 0), (7, .pointer (some ⟨b5, 0, none⟩)), (27, .pointer (some ⟨it6, 0, none⟩))]) (fun (dn : List ByteArray) => [mapIt encS r it6 lv dn, pt b5 (.cells #[.map (some b4)] 58 (0, 0)), mapA encS b4 (bv (allT dn)), pt b (.cells #[.map (some r), v, .int .i64 ((callS s).2.2.most), .int .i64 ((callS s).2.2.lag), .int .i64 ((callS s).2.2.now), .int .i64 ((callS s).2.2.calls), .int .i64 ((callS s).2.2.count), .bool ((callS s).2.2.done)] 52 (0, 0)), row 113 3 v ((callS s).2.2.chg.length) (chgCells ((callS s).2.2.chg)), valsA B lv ((callS s).2.2.objs), pt b1 (.cells #[.string p] 9 (0, 0)), F]) (fun (dn : List ByteArray) => lv.length - dn.length) ([]) ⟨.nil, by simp⟩ ⟨rfl, rfl, rfl, rfl, rfl, rfl, trivial⟩ rfl ?_
      rintro dn hphi
      obtain ⟨hn1, hn2⟩ := hphi
      show WC _ _ _ _ _ _ _ [(0, .pointer (some ⟨b, 0, none⟩)), (3, .pointer (some ⟨b1, 0, none⟩)), (4, .slice none 0 0), (5, .int .i64 0), (7, .pointer (some ⟨b5, 0, none⟩)), (27, .pointer (some ⟨it6, 0, none⟩))] [mapIt encS r it6 lv dn, pt b5 (.cells #[.map (some b4)] 58 (0, 0)), mapA encS b4 (bv (allT dn)), pt b (.cells #[.map (some r), v, .int .i64 ((callS s).2.2.most), .int .i64 ((callS s).2.2.lag), .int .i64 ((callS s).2.2.now), .int .i64 ((callS s).2.2.calls), .int .i64 ((callS s).2.2.count), .bool ((callS s).2.2.done)] 52 (0, 0)), row 113 3 v ((callS s).2.2.chg.length) (chgCells ((callS s).2.2.chg)), valsA B lv ((callS s).2.2.objs), pt b1 (.cells #[.string p] 9 (0, 0)), F]
      refine wc_seq ?_
      refine wc_region ?_
      refine wl_do trivial rfl (do_next (L1 := []) rfl) ?_
      rintro _ _ (⟨k7, v8, hm9, hd10, rfl, rfl⟩ | ⟨ha11, rfl, rfl⟩)
      · skip
        refine wl_1 trivial rfl (do_extract rfl rfl) ?_
        refine wl_nil ?_
        refine at_then ?_
        refine wc_seq ?_
        refine wc_true rfl ?_
        refine wc_skip ?_
        refine at_then ?_
        refine wc_block ?_
        refine wc_seq ?_
        refine wc_region ?_
        refine wl_1 trivial rfl (do_entry (d := dn) 0 rfl rfl rfl hm9) ?_
        refine wl_1 trivial rfl (do_extract rfl rfl) ?_
        refine wl_1 trivial rfl (do_assign rfl) ?_
        refine wl_nil ?_
        refine at_then ?_
        refine wc_region ?_
        refine wl_1 trivial rfl (do_load 1 rfl one_58 rfl rfl) ?_
        refine wl_1 trivial rfl (do_move rfl) ?_
        refine wl_1 trivial rfl (do_mapUpdate (L1 := [_, _]) und_58 key_9 rfl rfl rfl) ?_
        refine wl_nil ?_
        refine at_block ?_
        have hmore := keys_more hn1 hn2 hm9 hd10
        rw [allT_put hd10]
        exact at_round (dn ++ [k7]) ⟨hmore.1, hmore.2.1⟩ (by have := hmore.2.2; simp only [List.length_append, List.length_cons, List.length_nil]; omega) ⟨rfl, rfl, rfl, rfl, rfl, rfl, trivial⟩ rfl
      · skip
        refine wl_1 trivial rfl (do_extract rfl rfl) ?_
        refine wl_nil ?_
        refine at_then ?_
        refine wc_seq ?_
        refine wc_false rfl ?_
        refine wc_exit ?_
        refine at_then_exit ?_
        refine at_then_exit ?_
        refine at_block_it ?_
        refine at_then ?_
        refine wc_seq ?_
        refine wc_seq ?_
        refine wc_region ?_
        refine wl_1 trivial rfl (do_move rfl) ?_
        refine wl_do trivial rfl (do_call (mkhid B b) ⟨rfl, trivial⟩ enters_62 [] [0, 1, 2, 3, 4, 5, 6, 7] trivial ⟨rfl, rfl, rfl, rfl, rfl, rfl, rfl, rfl, trivial⟩ (R := [_, _, _, _, _, _, _, _]) (by decide)) ?_
        rintro _ _ ⟨_, ⟨g12, rfl, rfl⟩, rfl⟩
        refine wl_nil ?_
        refine at_then ?_
        refine wc_block ?_
        have hperm := keys_perm hkn hn1 hn2 ha11
        have hml : (bv ((hidF (allT dn) (hidL (callS s).2.2)).filter (keepQ p))).length ≤ 2199023255552 := by
          have h1 := List.length_filter_le (keepQ p) (hidF (allT dn) (hidL (callS s).2.2))
          have h2 := hidF_len (m := allT dn) (l := hidL (callS s).2.2)
          have h3 := hid_le (callS s).2.2
          have h4 := hperm.length_eq
          have h5 := len_same hkeys
          simp only [bv, List.length_map, allT, akeys] at h1 h2 h4 ⊢
          omega
        have hfin : sortB (akeys (bv ((hidF (allT dn) (hidL (callS s).2.2)).filter (keepQ p)))) = listK p (callS s).2.2 := listK_of (by rw [← hko]; exact hkn) (by rw [← hko]; exact hperm)
        have hfin2 : (bv ((hidF (allT dn) (hidL (callS s).2.2)).filter (keepQ p))).length = (listK p (callS s).2.2).length := by rw [← hfin, sortB_len]; simp only [akeys, List.length_map]
        refine wc_rangeFunc rfl enters_88 ?_
        intro dd ll rr hrr
        have hy : ∀ (j : Nat) (c : ByteArray × Int × Bool), (hidL (callS s).2.2)[j]? = some c → YTri Try.prog B ll #[.agg #[.string c.1, .int .i64 c.2.1, .bool c.2.2]] [(fun j : Nat => Star [pt ll (.loop (rec_ rr .ready none)), pt b5 (.cells #[.map (some b4)] 58 (0, 0)), mapA encS b4 (bv (hidF (allT dn) ((hidL (callS s).2.2).take j)))]) j] (fun v M => v = .bool true ∧ M = [(fun j : Nat => Star [pt ll (.loop (rec_ rr .ready none)), pt b5 (.cells #[.map (some b4)] 58 (0, 0)), mapA encS b4 (bv (hidF (allT dn) ((hidL (callS s).2.2).take j)))]) (j + 1)]) := by
          intro j c hc
          obtain ⟨ck, ct, cb⟩ := c
          refine ytri_post (post := fun u M => u = .bool true ∧ M = [pt ll (.loop (rec_ rr .ready none)), pt b5 (.cells #[.map (some b4)] 58 (0, 0)), mapA encS b4 (aput (bv (hidF (allT dn) ((hidL (callS s).2.2).take j))) ck (.bool (!cb)))]) (ytri_star (As := [pt ll (.loop (rec_ rr .ready none)), pt b5 (.cells #[.map (some b4)] 58 (0, 0)), mapA encS b4 (bv (hidF (allT dn) ((hidL (callS s).2.2).take j)))]) ?_) ?_
          · refine ytri_of (args := [.agg #[.string ck, .int .i64 ct, .bool cb]]) (J := [pt b5 (.cells #[.map (some b4)] 58 (0, 0)), mapA encS b4 (bv (hidF (allT dn) ((hidL (callS s).2.2).take j)))]) (ps := [36]) hrr rfl rfl ?_
            intro F2
            refine wc_region ?_
            refine wl_do trivial rfl (do_alloc zero_113 rfl) ?_
            rintro _ _ ⟨b13, rfl, rfl⟩
            refine wl_1 trivial rfl (do_storeL (L1 := []) rfl rfl agg_113 rfl (cs' := #[.string ck, .int .i64 ct, .bool cb]) rfl trivial) ?_
            refine wl_nil ?_
            refine at_pick (M := [_, _, _, _, _]) [1, 0, 2, 3, 4] ⟨rfl, rfl, rfl, rfl, rfl, trivial⟩ (by decide) ?_
            refine at_assign ?_
            refine wc_block ?_
            refine wc_region ?_
            refine wl_1 trivial rfl (do_load 2 rfl one_58 rfl rfl) ?_
            refine wl_1 trivial rfl (do_fieldAddr (k := 0) (k' := 0) fo_113_0 rfl (by rfl)) ?_
            refine wl_1 trivial rfl (do_load 1 rfl one_9 rfl rfl) ?_
            refine wl_1 trivial rfl (do_fieldAddr (k := 2) (k' := 2) fo_113_2 rfl (by rfl)) ?_
            refine wl_1 trivial rfl (do_load 1 rfl one_4 rfl rfl) ?_
            refine wl_1 trivial rfl (do_not (c := cb) rfl) ?_
            refine wl_1 trivial rfl (do_mapUpdate (L1 := [_, _, _]) und_58 key_9 rfl rfl rfl) ?_
            refine wl_nil ?_
            refine at_block ?_
            refine at_pick (M := [_, _, _, _]) [0, 2, 3, 4] ⟨rfl, rfl, rfl, rfl, trivial⟩ (by decide) ?_
            exact at_round_end (M := [_, _]) ⟨rfl, rfl⟩ rfl
          · rintro v M ⟨rfl, rfl⟩
            refine ⟨_, ⟨rfl, rfl⟩, fun F w h => star_put (As := [pt ll (.loop (rec_ rr .ready none)), pt b5 (.cells #[.map (some b4)] 58 (0, 0)), mapA encS b4 (bv (hidF (allT dn) ((hidL (callS s).2.2).take (j + 1))))]) (R := [F]) ?_⟩
            rw [hid_take hc, ← bv_put]
            exact h
        refine ⟨[pt b (.cells #[.map (some r), v, .int .i64 ((callS s).2.2.most), .int .i64 ((callS s).2.2.lag), .int .i64 ((callS s).2.2.now), .int .i64 ((callS s).2.2.calls), .int .i64 ((callS s).2.2.count), .bool ((callS s).2.2.done)] 52 (0, 0)), row 113 3 v ((callS s).2.2.chg.length) (chgCells ((callS s).2.2.chg)), pt g12 (.cells #[.pointer (some ⟨b, 0, none⟩)] 23 (0, 0)), (fun j : Nat => Star [pt ll (.loop (rec_ rr .ready none)), pt b5 (.cells #[.map (some b4)] 58 (0, 0)), mapA encS b4 (bv (hidF (allT dn) ((hidL (callS s).2.2).take j)))]) 0], [pt dd (.deferred (some [])), mapIt encS r it6 lv dn, valsA B lv ((callS s).2.2.objs), pt b1 (.cells #[.string p] 9 (0, 0)), F], _, hid1_tri B b r g12 ll v (callS s).2.2 _ hcg2 hnow2 hlag2 hy, ?_, ?_⟩
        · intro w hS
          have h2 := star_put (As := [pt ll (.loop (rec_ rr .ready none)), pt b5 (.cells #[.map (some b4)] 58 (0, 0)), mapA encS b4 (bv (hidF (allT dn) ((hidL (callS s).2.2).take 0)))]) (R := [pt b (.cells #[.map (some r), v, .int .i64 ((callS s).2.2.most), .int .i64 ((callS s).2.2.lag), .int .i64 ((callS s).2.2.now), .int .i64 ((callS s).2.2.calls), .int .i64 ((callS s).2.2.count), .bool ((callS s).2.2.done)] 52 (0, 0)), row 113 3 v ((callS s).2.2.chg.length) (chgCells ((callS s).2.2.chg)), pt g12 (.cells #[.pointer (some ⟨b, 0, none⟩)] 23 (0, 0)), pt dd (.deferred (some [])), mapIt encS r it6 lv dn, valsA B lv ((callS s).2.2.objs), pt b1 (.cells #[.string p] 9 (0, 0)), F]) (hS.pick [0, 4, 5, 6, 7, 2, 1, 3, 8, 9, 10] ⟨rfl, rfl, rfl, rfl, rfl, rfl, rfl, rfl, rfl, rfl, rfl, trivial⟩ (by decide))
          exact h2.pick [1, 2, 3, 0, 4, 5, 6, 7, 8] ⟨rfl, rfl, rfl, rfl, rfl, rfl, rfl, rfl, rfl, trivial⟩ (by decide)
        · rintro v2 M ⟨rfl, rfl⟩
          refine ⟨.ready, none, [pt b5 (.cells #[.map (some b4)] 58 (0, 0)), mapA encS b4 (bv (hidF (allT dn) ((hidL (callS s).2.2).take ((hidL (callS s).2.2).length)))), pt b (.cells #[.map (some r), v, .int .i64 ((callS s).2.2.most), .int .i64 ((callS s).2.2.lag), .int .i64 ((callS s).2.2.now), .int .i64 ((callS s).2.2.calls), .int .i64 ((callS s).2.2.count), .bool ((callS s).2.2.done)] 52 (0, 0)), row 113 3 v ((callS s).2.2.chg.length) (chgCells ((callS s).2.2.chg)), pt g12 (.cells #[.pointer (some ⟨b, 0, none⟩)] 23 (0, 0)), pt dd (.deferred (some [])), mapIt encS r it6 lv dn, valsA B lv ((callS s).2.2.objs), pt b1 (.cells #[.string p] 9 (0, 0)), F], fun w hS => ?_, (by intro h; cases h), ?_⟩
          · have h2 := star_get (As := [pt ll (.loop (rec_ rr .ready none)), pt b5 (.cells #[.map (some b4)] 58 (0, 0)), mapA encS b4 (bv (hidF (allT dn) ((hidL (callS s).2.2).take ((hidL (callS s).2.2).length))))]) (R := [pt b (.cells #[.map (some r), v, .int .i64 ((callS s).2.2.most), .int .i64 ((callS s).2.2.lag), .int .i64 ((callS s).2.2.now), .int .i64 ((callS s).2.2.calls), .int .i64 ((callS s).2.2.count), .bool ((callS s).2.2.done)] 52 (0, 0)), row 113 3 v ((callS s).2.2.chg.length) (chgCells ((callS s).2.2.chg)), pt g12 (.cells #[.pointer (some ⟨b, 0, none⟩)] 23 (0, 0)), pt dd (.deferred (some [])), mapIt encS r it6 lv dn, valsA B lv ((callS s).2.2.objs), pt b1 (.cells #[.string p] 9 (0, 0)), F]) (hS.pick [3, 0, 1, 2, 4, 5, 6, 7, 8] ⟨rfl, rfl, rfl, rfl, rfl, rfl, rfl, rfl, rfl, trivial⟩ (by decide))
            exact h2
          · rw [List.take_length]
            refine at_block ?_
            refine at_then ?_
            refine wc_seq ?_
            refine wc_region ?_
            refine wl_1 trivial rfl (do_load 0 rfl one_58 rfl rfl) ?_
            refine wl_1 trivial rfl (do_makeFunc (vs := []) (us := [.pointer (some ⟨b1, 0, none⟩)]) trivial ⟨rfl, trivial⟩) ?_
            refine wl_do trivial rfl (do_call (df_tri B b4 b1 (hidF (allT dn) (hidL (callS s).2.2)) p) ⟨rfl, rfl, trivial⟩ enters_63 [1, 8] [0, 2, 3, 4, 5, 6, 7, 9] ⟨rfl, rfl, trivial⟩ ⟨rfl, rfl, rfl, rfl, rfl, rfl, rfl, rfl, trivial⟩ (R := [_, _, _, _, _, _, _, _]) (by decide)) ?_
            rintro _ _ ⟨_, ⟨rfl, rfl⟩, rfl⟩
            refine wl_nil ?_
            refine at_then ?_
            refine wc_seq ?_
            refine wc_region ?_
            refine wl_1 trivial rfl (do_load 2 rfl one_58 rfl rfl) ?_
            refine wl_do trivial rfl (do_call (mkeys67 B b4) ⟨rfl, trivial⟩ enters_67 [] [0, 1, 2, 3, 4, 5, 6, 7, 8, 9] trivial ⟨rfl, rfl, rfl, rfl, rfl, rfl, rfl, rfl, rfl, rfl, trivial⟩ (R := [_, _, _, _, _, _, _, _, _, _]) (by decide)) ?_
            rintro _ _ ⟨_, ⟨g14, rfl, rfl⟩, rfl⟩
            refine wl_do trivial rfl (do_call (sorted_keysb B g14 b4 (bv ((hidF (allT dn) (hidL (callS s).2.2)).filter (keepQ p))) (hml)) ⟨rfl, trivial⟩ enters_66 [0, 1] [2, 3, 4, 5, 6, 7, 8, 9, 10] ⟨rfl, rfl, trivial⟩ ⟨rfl, rfl, rfl, rfl, rfl, rfl, rfl, rfl, rfl, trivial⟩ (R := [_, _, _, _, _, _, _, _, _]) (by decide)) ?_
            rintro _ _ ⟨_, ⟨x15, rfl, rfl⟩, rfl⟩
            refine wl_1 trivial rfl (do_assign rfl) ?_
            refine wl_1 trivial rfl (do_assign rfl) ?_
            refine wl_nil ?_
            refine at_then ?_
            refine wc_ret ?_
            refine at_mem (L' := [mapA encS r lv, pt g14 (.cells #[.map (some b4)] 58 (0, 0)), mapA encS b4 (bv ((hidF (allT dn) (hidL (callS s).2.2)).filter (keepQ p))), row 9 1 x15 ((bv ((hidF (allT dn) (hidL (callS s).2.2)).filter (keepQ p))).length) ((sortB (akeys (bv ((hidF (allT dn) (hidL (callS s).2.2)).filter (keepQ p))))).map .string), pt b1 (.cells #[.string p] 9 (0, 0)), pt b5 (.cells #[.map (some b4)] 58 (0, 0)), pt b (.cells #[.map (some r), v, .int .i64 ((callS s).2.2.most), .int .i64 ((callS s).2.2.lag), .int .i64 ((callS s).2.2.now), .int .i64 ((callS s).2.2.calls), .int .i64 ((callS s).2.2.count), .bool ((callS s).2.2.done)] 52 (0, 0)), row 113 3 v ((callS s).2.2.chg.length) (chgCells ((callS s).2.2.chg)), pt g12 (.cells #[.pointer (some ⟨b, 0, none⟩)] 23 (0, 0)), pt dd (.deferred (some [])), valsA B lv ((callS s).2.2.objs), F]) (fun w_ h_ => mapIt_end (L1 := []) (h_.pick (M := [mapIt encS r it6 lv dn, pt g14 (.cells #[.map (some b4)] 58 (0, 0)), mapA encS b4 (bv ((hidF (allT dn) (hidL (callS s).2.2)).filter (keepQ p))), row 9 1 x15 ((bv ((hidF (allT dn) (hidL (callS s).2.2)).filter (keepQ p))).length) ((sortB (akeys (bv ((hidF (allT dn) (hidL (callS s).2.2)).filter (keepQ p))))).map .string), pt b1 (.cells #[.string p] 9 (0, 0)), pt b5 (.cells #[.map (some b4)] 58 (0, 0)), pt b (.cells #[.map (some r), v, .int .i64 ((callS s).2.2.most), .int .i64 ((callS s).2.2.lag), .int .i64 ((callS s).2.2.now), .int .i64 ((callS s).2.2.calls), .int .i64 ((callS s).2.2.count), .bool ((callS s).2.2.done)] 52 (0, 0)), row 113 3 v ((callS s).2.2.chg.length) (chgCells ((callS s).2.2.chg)), pt g12 (.cells #[.pointer (some ⟨b, 0, none⟩)] 23 (0, 0)), pt dd (.deferred (some [])), valsA B lv ((callS s).2.2.objs), F]) [9, 0, 1, 2, 3, 4, 5, 6, 7, 8, 10, 11] ⟨rfl, rfl, rfl, rfl, rfl, rfl, rfl, rfl, rfl, rfl, rfl, rfl, trivial⟩ (by decide))) ?_
            refine at_pick (M := [_, _, _, _, _, _, _]) [9, 6, 0, 7, 10, 3, 11] ⟨rfl, rfl, rfl, rfl, rfl, rfl, rfl, trivial⟩ (by decide) ?_
            refine at_retM ?_
            refine at_mark (M := [_, _, _, _, _, _]) 0 rfl [1, 2, 3, 4, 5, 6] ⟨rfl, rfl, rfl, rfl, rfl, rfl, trivial⟩ (by decide) ?_
            exact lv_2 (M := [_, _, _, _, _]) rfl rfl rfl ⟨_, by rw [listS_ok ‹_› (by omega)], by rw [listS_ok ‹_› (by omega), hfin, hfin2]; rfl⟩ rfl
    · have p_c3 := cmp_neq_t h_c3
      refine wc_true rfl ?_
      refine wc_seq ?_
      refine wc_region ?_
      refine wl_1 trivial rfl (do_move rfl) ?_
      refine wl_1 trivial rfl (do_assign rfl) ?_
      refine wl_1 trivial rfl (do_assign rfl) ?_
      refine wl_nil ?_
      refine at_then ?_
      refine wc_ret ?_
      refine at_then_ret ?_
      refine at_mem (L' := [row 9 1 (.slice none 0 0) 0 ([]), pt b (.cells #[.map (some r), v, .int .i64 ((callS s).2.2.most), .int .i64 ((callS s).2.2.lag), .int .i64 ((callS s).2.2.now), .int .i64 ((callS s).2.2.calls), .int .i64 ((callS s).2.2.count), .bool ((callS s).2.2.done)] 52 (0, 0)), mapA encS r lv, row 113 3 v ((callS s).2.2.chg.length) (chgCells ((callS s).2.2.chg)), valsA B lv ((callS s).2.2.objs), pt b1 (.cells #[.string p] 9 (0, 0)), F]) (fun w_ h_ => h_.intro row_nil) ?_
      refine at_pick (M := [_, _, _, _, _, _]) [1, 2, 3, 4, 0, 6] ⟨rfl, rfl, rfl, rfl, rfl, rfl, trivial⟩ (by decide) ?_
      refine at_retM ?_
      exact lv_2 (M := [_, _, _, _, _]) rfl rfl rfl ⟨_, by rw [listS_err ‹_› (by omega)], by rw [listS_err ‹_› (by omega)]; rfl⟩ rfl
end Go.Proofs.Ytmefejfnddcelaa
