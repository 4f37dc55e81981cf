/- Printed by gen/simobj.py for this claim: what each of these functions of the program does, as its theorem says. No condition but what stands in each theorem. -/
import Derived.Test.YtmefejfnddcelaaOj
namespace Go.Proofs.Ytmefejfnddcelaa
theorem enters_90 : Enters Try.prog 90 := enters_of Try.func90 (by kernel_rfl) (by kernel_rfl)
theorem enters_65 : Enters Try.prog 65 := enters_of Try.func65 (by kernel_rfl) (by kernel_rfl)
theorem enters_64 : Enters Try.prog 64 := enters_of Try.func64 (by kernel_rfl) (by kernel_rfl)
instance memDec (k : ByteArray) (l : List ByteArray) : Decidable (k ∈ l) := @List.instDecidableMemOfLawfulBEq ByteArray instBEqOfDecidableEq inferInstance k l
def prefB (p s : ByteArray) : Bool := decide (p.size ≤ s.size) && decide (s.extract 0 p.size = p)
def bv (m : List (ByteArray × Bool)) : List (ByteArray × Value) := m.map fun q => (q.1, .bool q.2)
def keepQ (p : ByteArray) (q : ByteArray × Bool) : Bool := q.2 && prefB p q.1
def curD (m : List (ByteArray × Bool)) (p : ByteArray) (dn : List ByteArray) : List (ByteArray × Bool) := m.filter fun q => decide (q.1 ∉ dn) || keepQ p q
theorem bv_keys (m : List (ByteArray × Bool)) : akeys (bv m) = akeys m := by simp [akeys, bv]
theorem bv_get {m : List (ByteArray × Bool)} {k : ByteArray} {v : Value} (h : aget (bv m) k = some v) : ∃ x, v = .bool x ∧ (k, x) ∈ m := by
  have := aget_mem h
  obtain ⟨q, hq, e⟩ := List.mem_map.1 this
  cases e
  exact ⟨q.2, rfl, hq⟩
theorem bv_del {m : List (ByteArray × Bool)} (k : ByteArray) : adel (bv m) k = bv (adel m k) := by
  induction m with
  | nil => rfl
  | cons q m ih =>
    obtain ⟨a, x⟩ := q
    show adel ((a, .bool x) :: bv m) k = _
    simp only [adel]
    split
    · rfl
    · rw [ih]; rfl
theorem bv_put {m : List (ByteArray × Bool)} (k : ByteArray) (b : Bool) : aput (bv m) k (.bool b) = bv (aput m k b) := by
  induction m with
  | nil => rfl
  | cons q m ih =>
    obtain ⟨a, x⟩ := q
    show aput ((a, .bool x) :: bv m) k _ = _
    simp only [aput]
    split
    · rfl
    · rw [ih]; rfl
theorem adel_filter {m : List (ByteArray × Bool)} (h : (akeys m).Nodup) (k : ByteArray) : adel m k = m.filter fun q => decide (q.1 ≠ k) := by
  induction m with
  | nil => rfl
  | cons q m ih =>
    obtain ⟨a, x⟩ := q
    have hn := List.nodup_cons.1 (show (a :: akeys m).Nodup from h)
    simp only [adel]
    by_cases e : a = k
    · subst e
      rw [if_pos rfl, List.filter_cons_of_neg (by simp)]
      exact (List.filter_eq_self.2 fun y hy => by simpa using fun (e : y.1 = a) => hn.1 (e ▸ List.mem_map.2 ⟨y, hy, rfl⟩)).symm
    · rw [if_neg e, List.filter_cons_of_pos (by simpa using e), ih hn.2]
theorem cur_nodup {m : List (ByteArray × Bool)} (h : (akeys m).Nodup) (p : ByteArray) (dn : List ByteArray) : (akeys (curD m p dn)).Nodup := List.Sublist.nodup (List.Sublist.map _ List.filter_sublist) h
theorem cur_0 (m : List (ByteArray × Bool)) (p : ByteArray) : curD m p [] = m := by unfold curD; exact List.filter_eq_self.2 fun q _ => by simp
theorem pair_uniq {m : List (ByteArray × Bool)} (h : (akeys m).Nodup) {k : ByteArray} {x y : Bool} (h1 : (k, x) ∈ m) (h2 : (k, y) ∈ m) : x = y := by
  have := (aget_of_mem h h1).symm.trans (aget_of_mem h h2); exact Option.some.inj this
theorem cur_del {m : List (ByteArray × Bool)} (h : (akeys m).Nodup) {p k : ByteArray} {dn : List ByteArray} {x : Bool} (hm : (k, x) ∈ m) (hk : (!x || !prefB p k) = true) : adel (bv (curD m p dn)) k = bv (curD m p (dn ++ [k])) := by
  rw [bv_del, adel_filter (cur_nodup h p dn)]
  congr 1
  unfold curD
  rw [List.filter_filter]
  refine List.filter_congr fun q hq => ?_
  by_cases e : q.1 = k
  · have hx : q.2 = x := pair_uniq h (k := k) (by rw [← e]; exact hq) hm
    have : keepQ p q = false := by unfold keepQ; rw [hx, e]; revert hk; cases x <;> cases prefB p k <;> simp
    simp [e, this]
  · simp [e]
theorem cur_keep {m : List (ByteArray × Bool)} (h : (akeys m).Nodup) {p k : ByteArray} {dn : List ByteArray} {x : Bool} (hm : (k, x) ∈ m) (hk : (!x || !prefB p k) = false) : bv (curD m p dn) = bv (curD m p (dn ++ [k])) := by
  congr 1
  unfold curD
  refine List.filter_congr fun q hq => ?_
  by_cases e : q.1 = k
  · have hx : q.2 = x := pair_uniq h (k := k) (by rw [← e]; exact hq) hm
    have : keepQ p q = true := by unfold keepQ; rw [hx, e]; revert hk; cases x <;> cases prefB p k <;> simp
    simp [this]
  · simp [e]
theorem cur_end {m : List (ByteArray × Bool)} {p : ByteArray} {dn : List ByteArray} (h : ∀ q ∈ bv (curD m p dn), q.1 ∈ dn) : curD m p dn = m.filter (keepQ p) := by
  unfold curD
  refine List.filter_congr fun q hq => ?_
  by_cases e : q.1 ∈ dn
  · simp [e]
  · exfalso
    have : q ∈ curD m p dn := by unfold curD; exact List.mem_filter.2 ⟨hq, by simp [e]⟩
    exact e (h (q.1, .bool q.2) (List.mem_map.2 ⟨q, this, rfl⟩))
theorem cur_mem {m : List (ByteArray × Bool)} {p k : ByteArray} {dn : List ByteArray} {v : Value} (h : aget (bv (curD m p dn)) k = some v) : ∃ x, v = .bool x ∧ (k, x) ∈ m := by
  obtain ⟨x, h1, h2⟩ := bv_get h; exact ⟨x, h1, (List.mem_filter.1 h2).1⟩
theorem dn_more {m : List (ByteArray × Bool)} {dn : List ByteArray} {k : ByteArray} {x : Bool} (h1 : dn.Nodup) (h2 : ∀ k ∈ dn, k ∈ akeys m) (hm : (k, x) ∈ m) (hd : k ∉ dn) : (dn ++ [k]).Nodup ∧ (∀ j ∈ dn ++ [k], j ∈ akeys m) ∧ dn.length < m.length := by
  have h3 : ∀ j ∈ dn ++ [k], j ∈ akeys m := fun j hj => by
    rcases List.mem_append.1 hj with hj | hj
    · exact h2 j hj
    · simp at hj; subst hj; exact mem_keys hm
  have h4 := sub_len (nodup_snoc h1 hd) h3
  refine ⟨nodup_snoc h1 hd, h3, ?_⟩
  simp [akeys] at h4
  omega

set_option maxRecDepth 100000 in
set_option maxHeartbeats 8000000 in
theorem hp0_tri (B : Ctx) (s p : ByteArray) :
    Tri Try.prog B 90 #[.string s, .string p] [] (fun u M => u = .bool (prefB p s) ∧ M = []) := by
  refine tri_body (n := 18) Try.func90 rfl rfl rfl ?_
  intro F
  show WC _ _ _ _ _ _ _ [(0, .string s), (1, .string p)] [F]
  refine wc_seq ?_
  refine wc_region ?_
  refine wl_1 trivial rfl (do_assign rfl) ?_
  refine wl_nil ?_
  refine at_then ?_
  refine wc_seq ?_
  refine wc_region ?_
  refine wl_1 trivial rfl (do_move rfl) ?_
  refine wl_1 trivial rfl (do_lenStr rfl isStr_9 rfl) ?_
  refine wl_1 trivial rfl (do_move rfl) ?_
  refine wl_1 trivial rfl (do_lenStr rfl isStr_9 rfl) ?_
  obtain ⟨c1, h_c1⟩ : ∃ c : Bool, cmpB .geq (((s : ByteArray).size : Nat) : Int) (((p : ByteArray).size : Nat) : Int) = some c := ⟨_, rfl⟩
  refine wl_1 trivial rfl (do_cmp rfl rfl h_c1) ?_
  refine wl_1 trivial rfl (do_move rfl) ?_
  cases c1
  · have p_c1 := cmp_geq_f h_c1
    refine wl_no rfl rfl rfl rfl rfl ?_
    refine wl_no rfl rfl rfl rfl rfl ?_
    refine wl_no rfl rfl rfl rfl rfl ?_
    refine wl_no rfl rfl rfl rfl rfl ?_
    refine wl_no rfl rfl rfl rfl rfl ?_
    refine wl_no rfl rfl rfl rfl rfl ?_
    refine wl_1 trivial rfl (do_pickF rfl rfl) ?_
    refine wl_1 trivial rfl (do_assign rfl) ?_
    refine wl_nil ?_
    refine at_then ?_
    refine wc_ret ?_
    exact at_ret1 (M := []) rfl rfl ⟨by unfold prefB; first | (rw [decide_eq_false (p := p.size ≤ s.size) (by omega)]; rfl) | (rw [decide_eq_false (p := (s.extract 0 p.size) = p) ‹_›, Bool.and_false]), rfl⟩ rfl
  · have p_c1 := cmp_geq_t h_c1
    refine wl_1 ⟨_, rfl, rfl⟩ rfl (do_move rfl) ?_
    refine wl_1 ⟨_, rfl, rfl⟩ rfl (do_move rfl) ?_
    refine wl_1 ⟨_, rfl, rfl⟩ rfl (do_lenStr rfl isStr_9 rfl) ?_
    refine wl_1 ⟨_, rfl, rfl⟩ rfl (do_sliceStr (vl := none) (vh := (some (.int .i64 (((p : ByteArray).size : Nat) : Int)))) (l := 0) (h := ((p : ByteArray).size)) isStr_9 rfl trivial rfl rfl rfl (by omega) (by omega)) ?_
    refine wl_1 ⟨_, rfl, rfl⟩ rfl (do_move rfl) ?_
    obtain ⟨c2, h_c2⟩ : ∃ c : Bool, strB .eql ((s).extract 0 ((p : ByteArray).size) : ByteArray).toList (p : ByteArray).toList = some c := ⟨_, rfl⟩
    refine wl_1 ⟨_, rfl, rfl⟩ rfl (do_strcmp rfl rfl h_c2) ?_
    refine wl_1 trivial rfl (do_pickT rfl rfl) ?_
    refine wl_1 trivial rfl (do_assign rfl) ?_
    refine wl_nil ?_
    refine at_then ?_
    refine wc_ret ?_
    cases c2
    · have p_c2 := str_eql_f h_c2
      exact at_ret1 (M := []) rfl rfl ⟨by unfold prefB; first | (rw [decide_eq_false (p := p.size ≤ s.size) (by omega)]; rfl) | (rw [decide_eq_false (p := (s.extract 0 p.size) = p) ‹_›, Bool.and_false]), rfl⟩ rfl
    · have p_c2 := str_eql_t h_c2
      exact at_ret1 (M := []) rfl rfl ⟨by unfold prefB; rw [decide_eq_true (by omega), decide_eq_true ‹_›]; rfl, rfl⟩ rfl

set_option maxRecDepth 100000 in
set_option maxHeartbeats 8000000 in
theorem hp1_tri (B : Ctx) (s p : ByteArray) :
    Tri Try.prog B 65 #[.string s, .string p] [] (fun u M => u = .bool (prefB p s) ∧ M = []) := by
  refine tri_body (n := 8) Try.func65 rfl rfl rfl ?_
  intro F
  show WC _ _ _ _ _ _ _ [(0, .string s), (1, .string p)] [F]
  refine wc_seq ?_
  refine wc_region ?_
  refine wl_1 trivial rfl (do_assign rfl) ?_
  refine wl_nil ?_
  refine at_then ?_
  refine wc_seq ?_
  refine wc_region ?_
  refine wl_1 trivial rfl (do_move rfl) ?_
  refine wl_1 trivial rfl (do_move rfl) ?_
  refine wl_do trivial rfl (do_call (hp0_tri B s p) ⟨rfl, rfl, trivial⟩ enters_90 [] [0] trivial ⟨rfl, trivial⟩ (R := [_]) (by decide)) ?_
  rintro _ _ ⟨_, ⟨rfl, rfl⟩, rfl⟩
  refine wl_1 trivial rfl (do_assign rfl) ?_
  refine wl_nil ?_
  refine at_then ?_
  refine wc_ret ?_
  exact at_ret1 (M := []) rfl rfl ⟨rfl, rfl⟩ rfl

set_option maxRecDepth 100000 in
set_option maxHeartbeats 8000000 in
theorem list1_tri (B : Ctx) (g : Nat) (k p : ByteArray) (x : Bool) :
    Tri Try.prog B 64 #[.string k, .bool x, .pointer (some ⟨g, 0, none⟩)] [pt g (.cells #[.string p] 9 (0, 0))] (fun u M => u = .bool (!x || !prefB p k) ∧ M = [pt g (.cells #[.string p] 9 (0, 0))]) := by
  refine tri_body (n := 14) Try.func64 rfl rfl rfl ?_
  intro F
  show WC _ _ _ _ _ _ _ [(0, .string k), (1, .bool x), (2, .pointer (some ⟨g, 0, none⟩))] [pt g (.cells #[.string p] 9 (0, 0)), F]
  refine wc_seq ?_
  refine wc_region ?_
  refine wl_1 trivial rfl (do_assign rfl) ?_
  refine wl_nil ?_
  refine at_then ?_
  refine wc_seq ?_
  refine wc_region ?_
  refine wl_1 trivial rfl (do_move rfl) ?_
  refine wl_1 trivial rfl (do_not (c := x) rfl) ?_
  refine wl_1 trivial rfl (do_move rfl) ?_
  cases x
  · skip
    refine wl_no rfl rfl rfl rfl rfl ?_
    refine wl_no rfl rfl rfl rfl rfl ?_
    refine wl_no rfl rfl rfl rfl rfl ?_
    refine wl_no rfl rfl rfl rfl rfl ?_
    refine wl_1 trivial rfl (do_pickT rfl rfl) ?_
    refine wl_1 trivial rfl (do_assign rfl) ?_
    refine wl_nil ?_
    refine at_then ?_
    refine wc_ret ?_
    exact at_ret1 (M := [_]) rfl rfl ⟨by first | rfl | (simp [*]; done), rfl⟩ rfl
  · skip
    refine wl_1 ⟨_, rfl, rfl⟩ rfl (do_move rfl) ?_
    refine wl_1 ⟨_, rfl, rfl⟩ rfl (do_load 0 rfl one_9 rfl rfl) ?_
    refine wl_do ⟨_, rfl, rfl⟩ rfl (do_call (hp1_tri B k p) ⟨rfl, rfl, trivial⟩ enters_65 [] [0, 1] trivial ⟨rfl, rfl, trivial⟩ (R := [_, _]) (by decide)) ?_
    rintro _ _ ⟨_, ⟨rfl, rfl⟩, rfl⟩
    refine wl_1 ⟨_, rfl, rfl⟩ rfl (do_not (c := (prefB p k)) rfl) ?_
    refine wl_1 trivial rfl (do_pickF rfl rfl) ?_
    refine wl_1 trivial rfl (do_assign rfl) ?_
    refine wl_nil ?_
    refine at_then ?_
    refine wc_ret ?_
    cases hb1 : (prefB p k)
    · skip
      exact at_ret1 (M := [_]) rfl rfl ⟨by first | rfl | (simp [*]; done), rfl⟩ rfl
    · skip
      exact at_ret1 (M := [_]) rfl rfl ⟨by first | rfl | (simp [*]; done), rfl⟩ rfl

set_option maxRecDepth 100000 in
set_option maxHeartbeats 8000000 in
theorem df_tri (B : Ctx) (r g : Nat) (m : List (ByteArray × Bool)) (p : ByteArray) :
    Tri Try.prog B 63 #[.map (some r), .func (.func 64) #[] #[.pointer (some ⟨g, 0, none⟩)]] [mapA encS r (bv m), pt g (.cells #[.string p] 9 (0, 0))] (fun u M => u = .tuple #[] ∧ M = [mapA encS r (bv (m.filter (keepQ p))), pt g (.cells #[.string p] 9 (0, 0))]) := by
  refine tri_pure (φ := (akeys m).Nodup) 0 rfl (fun h hb hv => by rw [← bv_keys]; exact keys_fact h hb hv) fun hkn => ?_
  refine tri_body (n := 19) Try.func63 rfl rfl rfl ?_
  intro F
  show WC _ _ _ _ _ _ _ [(0, .map (some r)), (1, .func (.func 64) #[] #[.pointer (some ⟨g, 0, none⟩)])] [mapA encS r (bv m), pt g (.cells #[.string p] 9 (0, 0)), F]
  refine wc_seq ?_
  refine wc_region ?_
  refine wl_1 trivial rfl (do_move rfl) ?_
  refine wl_do trivial rfl (do_range (M := [_, _]) 0 [1, 2] isMap_58 rfl ⟨rfl, rfl, trivial⟩ rfl (by decide)) ?_
  rintro _ _ ⟨it1, rfl, rfl⟩
  refine wl_nil ?_
  refine at_then ?_
  refine wc_block ?_
  refine wc_loop (fun (dn : List ByteArray) => dn.Nodup ∧ ∀ k ∈ dn, k ∈ akeys m) (fun (dn : List ByteArray) => [(0, .map (some r)), (1, .func (.func 64) #[] #[.pointer (some ⟨g, 0, none⟩)]), (7, .pointer (some ⟨it1, 0, none⟩))]) (fun (dn : List ByteArray) => [mapIt encS r it1 (bv (curD m p dn)) dn, pt g (.cells #[.string p] 9 (0, 0)), F]) (fun (dn : List ByteArray) => m.length - dn.length) ([]) ⟨.nil, by simp⟩ ⟨rfl, rfl, rfl, trivial⟩ (by rw [cur_0]) ?_
  rintro dn hphi
  obtain ⟨hn1, hn2⟩ := hphi
  show WC _ _ _ _ _ _ _ [(0, .map (some r)), (1, .func (.func 64) #[] #[.pointer (some ⟨g, 0, none⟩)]), (7, .pointer (some ⟨it1, 0, none⟩))] [mapIt encS r it1 (bv (curD m p dn)) dn, pt g (.cells #[.string p] 9 (0, 0)), F]
  refine wc_seq ?_
  refine wc_region ?_
  refine wl_do trivial rfl (do_next (L1 := []) rfl) ?_
  rintro _ _ (⟨k2, v3, hm4, hd5, rfl, rfl⟩ | ⟨ha6, rfl, rfl⟩)
  · skip
    obtain ⟨is_k2, rfl, hmem⟩ := cur_mem hm4
    have hmore := dn_more hn1 hn2 hmem hd5
    refine wl_1 trivial rfl (do_extract rfl rfl) ?_
    refine wl_nil ?_
    refine at_then ?_
    refine wc_seq ?_
    refine wc_true rfl ?_
    refine wc_skip ?_
    refine at_then ?_
    refine wc_block ?_
    refine wc_seq ?_
    refine wc_region ?_
    refine wl_1 trivial rfl (do_entry (d := dn) 0 rfl rfl rfl hm4) ?_
    refine wl_1 trivial rfl (do_extract rfl rfl) ?_
    refine wl_1 trivial rfl (do_extract rfl rfl) ?_
    refine wl_1 trivial rfl (do_assign rfl) ?_
    refine wl_1 trivial rfl (do_assign rfl) ?_
    refine wl_nil ?_
    refine at_then ?_
    refine wc_seq ?_
    refine wc_region ?_
    refine wl_1 trivial rfl (do_move rfl) ?_
    refine wl_1 trivial rfl (do_move rfl) ?_
    refine wl_1 trivial rfl (do_move rfl) ?_
    refine wl_do trivial rfl (do_callv (vs := [.string k2, .bool is_k2]) rfl (list1_tri B g k2 p is_k2) rfl ⟨rfl, rfl, trivial⟩ enters_64 [1] [0, 2] ⟨rfl, trivial⟩ ⟨rfl, rfl, trivial⟩ (R := [_, _]) (by decide)) ?_
    rintro _ _ ⟨_, ⟨rfl, rfl⟩, rfl⟩
    refine wl_nil ?_
    refine at_then ?_
    cases hb7 : (!is_k2 || !prefB p k2)
    · skip
      refine wc_false rfl ?_
      refine wc_skip ?_
      refine at_block ?_
      refine at_pick (M := [_, _, _]) [1, 0, 2] ⟨rfl, rfl, rfl, trivial⟩ (by decide) ?_
      rw [cur_keep hkn hmem hb7]
      exact at_round (dn ++ [k2]) ⟨hmore.1, hmore.2.1⟩ (by have := hmore.2.2; simp only [List.length_append, List.length_cons, List.length_nil]; omega) ⟨rfl, rfl, rfl, trivial⟩ rfl
    · skip
      refine wc_true rfl ?_
      refine wc_region ?_
      refine wl_1 trivial rfl (do_move rfl) ?_
      refine wl_1 trivial rfl (do_move rfl) ?_
      refine wl_1 trivial rfl (do_deleteIt (L1 := [_]) rfl und_58 key_9 rfl rfl) ?_
      refine wl_nil ?_
      refine at_block ?_
      refine at_pick (M := [_, _, _]) [1, 0, 2] ⟨rfl, rfl, rfl, trivial⟩ (by decide) ?_
      rw [cur_del hkn hmem hb7]
      exact at_round (dn ++ [k2]) ⟨hmore.1, hmore.2.1⟩ (by have := hmore.2.2; simp only [List.length_append, List.length_cons, List.length_nil]; omega) ⟨rfl, rfl, rfl, trivial⟩ rfl
  · skip
    refine wl_1 trivial rfl (do_extract rfl rfl) ?_
    refine wl_nil ?_
    refine at_then ?_
    refine wc_seq ?_
    refine wc_false rfl ?_
    refine wc_exit ?_
    refine at_then_exit ?_
    refine at_then_exit ?_
    refine at_block_it ?_
    refine at_mem (L' := [mapA encS r (bv (curD m p dn)), pt g (.cells #[.string p] 9 (0, 0)), F]) (fun w_ h_ => mapIt_end (L1 := []) (h_.pick (M := [mapIt encS r it1 (bv (curD m p dn)) dn, pt g (.cells #[.string p] 9 (0, 0)), F]) [0, 1, 2] ⟨rfl, rfl, rfl, trivial⟩ (by decide))) ?_
    exact at_end0 (M := [_, _]) rfl ⟨rfl, by rw [cur_end ha6]⟩ rfl
end Go.Proofs.Ytmefejfnddcelaa
