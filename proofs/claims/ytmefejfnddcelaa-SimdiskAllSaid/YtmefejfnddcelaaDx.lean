/- Printed by a program of this claim's: what each of these functions of the program does, as its theorem says. No condition but what stands in each theorem. -/
import Derived.Test.YtmefejfnddcelaaDw
namespace Go.Proofs.Ytmefejfnddcelaa
theorem al_nil (B : Ctx) (d : Nat) (s : DS) (N : Nat) (hdb : DB s N) (hN : N ≤ 1000000) : Tri Try.prog B 35 #[.pointer (some ⟨d, 0, none⟩), .slice none 0 0] [diskA B d s, AnyP] (fun u M => u = .tuple #[] ∧ M = [diskA B d (crashS [] s), AnyP]) :=
  d_crash B d s none 0 [] AnyP N hdb hN (fun _ _ _ => ⟨rfl, none, 0, rfl, fun j u hj => by simp at hj⟩) (by simp)
theorem al_all (B : Ctx) (d bk j : Nat) (s : DS) (N : Nat) (hdb : DB s N) (hN : N ≤ 1000000) (hj : j = 1000) : Tri Try.prog B 35 #[.pointer (some ⟨d, 0, none⟩), .slice (some ⟨bk, 0, none⟩) 1000 1000] [diskA B d s, pt bk (.cells (List.replicate j (Value.bool true) ++ List.replicate (1000 - j) (Value.bool false)).toArray 4 (0, 0))] (fun u M => u = .tuple #[] ∧ M = [diskA B d (crashS (List.replicate 1000 true) s), pt bk (.cells (List.replicate j (Value.bool true) ++ List.replicate (1000 - j) (Value.bool false)).toArray 4 (0, 0))]) := by
  subst hj
  have hl : (List.replicate 1000 true).length = 1000 := List.length_replicate
  have hx : ((List.replicate 1000 (Value.bool true) ++ List.replicate (1000 - 1000) (Value.bool false)).toArray).toList.take 1000 = (List.replicate 1000 true).map .bool := by
    rw [Nat.sub_self, List.replicate_zero, List.append_nil, List.toList_toArray, List.map_replicate]
    exact List.take_of_length_le (by rw [List.length_replicate]; omega)
  have hR : Rd B (pt bk (.cells (List.replicate 1000 (Value.bool true) ++ List.replicate (1000 - 1000) (Value.bool false)).toArray 4 (0, 0))) 1 (.slice (some ⟨bk, 0, none⟩) 1000 1000) 1000 ((List.replicate 1000 true).map .bool) := pt_R (by rw [List.length_map, hl]) hx
  have h := d_crash B d s (some ⟨bk, 0, none⟩) 1000 (List.replicate 1000 true) _ N hdb hN (by rw [hl]; exact hR) (by rw [hl]; exact Nat.le_refl _)
  rw [hl] at h
  exact h
theorem was_at {s : DS} {k : Nat} {y z : ByteArray} (h1 : (sortB (akeys s.now))[k]? = some y) (h2 : ((sortB (akeys s.now)).map (wasW s))[k]? = some z) : z = wasW s y := by
  rw [List.getElem?_map, h1] at h2
  exact (Option.some.inj h2).symm
theorem was_more {s : DS} {k : Nat} {y : ByteArray} (h1 : (sortB (akeys s.now))[k]? = some y) : ((sortB (akeys s.now)).take k).map (fun k => Value.string (wasW s k)) ++ [.string (wasW s y)] = ((sortB (akeys s.now)).take (k + 1)).map (fun k => Value.string (wasW s k)) := by
  rw [List.take_add_one, h1]; simp
theorem was_all {s : DS} {k : Nat} (hk : (sortB (akeys s.now)).length ≤ k) : ((sortB (akeys s.now)).take k).map (fun k => Value.string (wasW s k)) = ((sortB (akeys s.now)).map (wasW s)).map .string := by
  rw [List.take_of_length_le hk, List.map_map]; rfl
set_option maxRecDepth 100000 in
set_option maxHeartbeats 8000000 in
theorem all_tri0 (B : Ctx) (a0 : Option Addr) (cap0 b0 off0 : Nat) (ops : List OpD) (W : World) (hrd : ∀ v n xs, inSl W v n xs → Rd B AnyP 1 v n xs) (hops : ∀ (j : Nat) (o : OpD), ops[j]? = some o → a0 = some ⟨b0, off0, none⟩ ∧ o.Ok W ∧ ∀ (i : Nat) (u : Value), o.cells[i]? = some u → B.cell ⟨b0, off0 + j * 7 + i, none⟩ u) :
    Tri Try.prog B 7 #[.slice a0 ops.length cap0] [AnyP] (fun u M => u = .bool true ∧ M = [AnyP]) := by
  refine tri_body (n := 130) Try.func7 rfl rfl rfl ?_
  intro F
  show WC _ _ _ _ _ _ _ [(0, .slice a0 ops.length cap0)] [AnyP, F]
  refine wc_seq ?_
  refine wc_region ?_
  refine wl_1 trivial rfl (do_assign rfl) ?_
  refine wl_nil ?_
  refine at_then ?_
  refine wc_seq ?_
  refine wc_region ?_
  refine wl_do trivial rfl (do_call (d_newq B) ⟨rfl, trivial⟩ enters_29 [] [0, 1] trivial ⟨rfl, rfl, trivial⟩ (R := [_, _]) (by decide)) ?_
  rintro _ _ ⟨_, ⟨d, rfl, rfl⟩, rfl⟩
  refine wl_1 trivial rfl (do_move rfl) ?_
  refine wl_1 trivial rfl (do_extract rfl rfl) ?_
  refine wl_1 trivial rfl (do_extract rfl rfl) ?_
  refine wl_1 trivial rfl (do_assign rfl) ?_
  refine wl_1 trivial rfl (do_assign rfl) ?_
  refine wl_nil ?_
  refine at_then ?_
  refine wc_seq ?_
  refine wc_seq ?_
  refine wc_region ?_
  refine wl_1 trivial rfl (do_move rfl) ?_
  refine wl_do trivial rfl (do_call (num_tri B 0) ⟨rfl, trivial⟩ enters_30 [] [0, 1, 2] trivial ⟨rfl, rfl, rfl, trivial⟩ (R := [_, _, _]) (by decide)) ?_
  rintro _ _ ⟨_, ⟨rfl, rfl⟩, rfl⟩
  refine wl_1 trivial rfl (do_cmp (c := false) rfl rfl rfl) ?_
  refine wl_1 trivial rfl (do_move rfl) ?_
  refine wl_1 ⟨_, rfl, rfl⟩ rfl (do_move rfl) ?_
  refine wl_1 ⟨_, rfl, rfl⟩ rfl (do_eqPtr isPtr_62 rfl rfl (.inr rfl)) ?_
  refine wl_1 trivial rfl (do_pickF rfl rfl) ?_
  refine wl_1 trivial rfl (do_move rfl) ?_
  refine wl_do ⟨_, rfl, rfl⟩ rfl (do_call (knows_tri B) trivial enters_31 [] [0, 1, 2] trivial ⟨rfl, rfl, rfl, trivial⟩ (R := [_, _, _]) (by decide)) ?_
  rintro _ _ ⟨_, ⟨rfl, rfl⟩, rfl⟩
  refine wl_1 ⟨_, rfl, rfl⟩ rfl (do_not (c := true) rfl) ?_
  refine wl_1 trivial rfl (do_pickF rfl rfl) ?_
  refine wl_nil ?_
  refine at_then ?_
  refine wc_false rfl ?_
  refine wc_skip ?_
  refine at_then ?_
  refine wc_seq_mid (fun (s : DS) => DB s 200 ∧ AI s 200) (fun (s : DS) => [(2, .bool false), (3, .pointer (some ⟨d, 0, none⟩))]) (fun (s : DS) => [diskA B d s, AnyP, F]) ?_ ?_
  · refine wc_seq ?_
    refine wc_region ?_
    refine wl_1 trivial rfl (do_assign rfl) ?_
    refine wl_nil ?_
    refine at_then ?_
    refine wc_block ?_
    refine wc_loop (fun (z_ : Nat × DS) => match z_ with | (i, s) => DB s i ∧ AI s i ∧ i ≤ 200) (fun (z_ : Nat × DS) => match z_ with | (i, s) => [(0, .slice a0 ops.length cap0), (2, .bool false), (3, .pointer (some ⟨d, 0, none⟩)), (5, .int .i64 ((i : Nat) : Int))]) (fun (z_ : Nat × DS) => match z_ with | (i, s) => [diskA B d s, AnyP, F]) (fun (z_ : Nat × DS) => match z_ with | (i, s) => 200 - i) (0, qD) ⟨su_b0, ⟨rfl, rfl, rfl, by decide⟩, by omega⟩ ⟨rfl, rfl, rfl, rfl, trivial⟩ rfl ?_
    rintro ⟨i, s⟩ hphi
    obtain ⟨hdb, hai, hi⟩ := hphi
    show WC _ _ _ _ _ _ _ [(0, .slice a0 ops.length cap0), (2, .bool false), (3, .pointer (some ⟨d, 0, none⟩)), (5, .int .i64 ((i : Nat) : Int))] [diskA B d s, AnyP, F]
    refine wc_seq ?_
    refine wc_seq ?_
    refine wc_region ?_
    refine wl_1 trivial rfl (do_move rfl) ?_
    refine wl_1 trivial rfl (do_move rfl) ?_
    refine wl_1 trivial rfl (do_lenSlice rfl isSlice_61 rfl) ?_
    obtain ⟨c1, h_c1⟩ : ∃ c : Bool, cmpB .lss ((i : Nat) : Int) ((ops.length : Nat) : Int) = some c := ⟨_, rfl⟩
    refine wl_1 trivial rfl (do_cmp rfl rfl h_c1) ?_
    refine wl_1 trivial rfl (do_move rfl) ?_
    cases c1
    · have p_c1 := cmp_lss_f h_c1
      refine wl_no rfl rfl rfl rfl rfl ?_
      refine wl_no rfl rfl rfl rfl rfl ?_
      refine wl_1 trivial rfl (do_pickF rfl rfl) ?_
      refine wl_nil ?_
      refine at_then ?_
      refine wc_false rfl ?_
      refine wc_exit ?_
      refine at_then_exit ?_
      refine at_then_exit ?_
      refine at_block_it ?_
      exact at_mid s ⟨hdb.more (by omega), hai.more (by omega)⟩ ⟨rfl, rfl, trivial⟩ rfl
    · have p_c1 := cmp_lss_t h_c1
      refine wl_1 ⟨_, rfl, rfl⟩ rfl (do_move rfl) ?_
      obtain ⟨c2, h_c2⟩ : ∃ c : Bool, cmpB .lss ((i : Nat) : Int) 200 = some c := ⟨_, rfl⟩
      refine wl_1 ⟨_, rfl, rfl⟩ rfl (do_cmp rfl rfl h_c2) ?_
      refine wl_1 trivial rfl (do_pickT rfl rfl) ?_
      refine wl_nil ?_
      refine at_then ?_
      cases c2
      · have p_c2 := cmp_lss_f h_c2
        refine wc_false rfl ?_
        refine wc_exit ?_
        refine at_then_exit ?_
        refine at_then_exit ?_
        refine at_block_it ?_
        exact at_mid s ⟨hdb.more (by omega), hai.more (by omega)⟩ ⟨rfl, rfl, trivial⟩ rfl
      · have p_c2 := cmp_lss_t h_c2
        refine wc_true rfl ?_
        refine wc_skip ?_
        refine at_then ?_
        refine wc_seq ?_
        refine wc_block ?_
        refine wc_seq ?_
        refine wc_region ?_
        refine wl_1 trivial rfl (do_move rfl) ?_
        refine wl_1 trivial rfl (do_move rfl) ?_
        obtain ⟨⟨kd, name, to, ob, bs, k, yes, ok, kl⟩, ho⟩ : ∃ o, ops[i]? = some o := ⟨_, List.getElem?_eq_getElem (by omega)⟩
        obtain ⟨hae, hoo, hcl⟩ := hops _ _ ho
        subst hae
        obtain ⟨⟨hk1, hk2⟩, hname0, hto0, hob, ⟨hn1, hn2⟩, _, hok⟩ := hoo
        simp only at hk1 hk2 hname0 hto0 hob hn1 hn2 hok
        have hname : name.size ≤ 9223372036854775807 := Nat.le_trans hname0 (by decide)
        have hto : to.size ≤ 9223372036854775807 := Nat.le_trans hto0 (by decide)
        have hRo := hob
        obtain ⟨_, ba, bc, hb3, _, hbl3, _⟩ := hob
        subst hb3
        obtain ⟨_, ka2, kc2, hk3, hkc2, _, _⟩ := hok
        subst hk3
        have hRb : Rd B AnyP 1 (.slice ba bs.length bc) bs.length (byv bs) := hrd _ _ _ hRo
        refine wl_1 trivial rfl (do_indexAddr (j := i) (p := (off0 + i * 7)) und_61 ty_67 rfl rfl rfl (by omega) (by omega)) ?_
        refine wl_1 trivial rfl (do_fieldAddr (k := 0) (k' := off0 + i * 7) fo_67_0 rfl (by rfl)) ?_
        refine wl_1 trivial rfl (do_loadB rfl one_3 (hcl 0 _ rfl)) ?_
        obtain ⟨c3, h_c3⟩ : ∃ c : Bool, cmpB .neq kd 7 = some c := ⟨_, rfl⟩
        refine wl_1 trivial rfl (do_cmp rfl rfl h_c3) ?_
        refine wl_nil ?_
        refine at_then ?_
        cases c3
        · have p_c3 := cmp_neq_f h_c3
          refine wc_false rfl ?_
          refine wc_skip ?_
          refine at_block ?_
          refine at_then ?_
          refine wc_region ?_
          refine wl_1 trivial rfl (do_move rfl) ?_
          refine wl_1 trivial rfl (do_add (r := ((i + 1 : Nat) : Int)) rfl rfl (wrap_nat (by omega) (by omega))) ?_
          refine wl_1 trivial rfl (do_assign rfl) ?_
          refine wl_nil ?_
          have hphi : DB s (i + 1) ∧ AI s (i + 1) ∧ i + 1 ≤ 200 := ⟨hdb.more (by omega), hai.more (by omega), by omega⟩
          exact at_round (i + 1, s) hphi (by show 200 - (i + 1) < 200 - i; omega) ⟨rfl, rfl, rfl, rfl, trivial⟩ rfl
        · have p_c3 := cmp_neq_t h_c3
          refine wc_true rfl ?_
          refine wc_region ?_
          refine wl_1 trivial rfl (do_move rfl) ?_
          refine wl_1 trivial rfl (do_move rfl) ?_
          refine wl_1 trivial rfl (do_move rfl) ?_
          refine wl_1 trivial rfl (do_indexAddr (j := i) (p := (off0 + i * 7)) und_61 ty_67 rfl rfl rfl (by omega) (by omega)) ?_
          refine wl_1 trivial rfl (do_loadAB (vs := [.int .i64 kd, .string name, .string to, .slice ba bs.length bc, .int .i64 k, .bool yes, .slice ka2 kl.length kc2]) rfl agg_67 rfl (fun j u hj => hcl j u hj)) ?_
          refine wl_do trivial rfl (do_call (dolaw_tri B d s kd k name to ba ka2 bc kl.length kc2 bs yes i (hdb) (by omega) hname hto hRb (Nat.le_trans hbl3 (by decide))) ⟨rfl, rfl, trivial⟩ enters_32 [0, 1] [2] ⟨rfl, rfl, trivial⟩ ⟨rfl, trivial⟩ (R := [_]) (by decide)) ?_
          rintro _ _ ⟨_, ⟨rfl, rfl⟩, rfl⟩
          refine wl_nil ?_
          refine at_block ?_
          refine at_then ?_
          refine wc_region ?_
          refine wl_1 trivial rfl (do_move rfl) ?_
          refine wl_1 trivial rfl (do_add (r := ((i + 1 : Nat) : Int)) rfl rfl (wrap_nat (by omega) (by omega))) ?_
          refine wl_1 trivial rfl (do_assign rfl) ?_
          refine wl_nil ?_
          have hphi : DB (doD kd name to bs k yes s) (i + 1) ∧ AI (doD kd name to bs k yes s) (i + 1) ∧ i + 1 ≤ 200 := ⟨hdb.do kd name to bs hn2 yes, hai.do (show ¬ kd = 7 by omega) name to bs k yes, by omega⟩
          exact at_round (i + 1, (doD kd name to bs k yes s)) hphi (by show 200 - (i + 1) < 200 - i; omega) ⟨rfl, rfl, rfl, rfl, trivial⟩ rfl
  · rintro s hphi
    obtain ⟨hdb, hai⟩ := hphi
    show WC _ _ _ _ _ _ _ [(2, .bool false), (3, .pointer (some ⟨d, 0, none⟩))] [diskA B d s, AnyP, F]
    have hnl := hdb.n1
    have hns : (sortB (akeys s.now)).length = s.now.length := by rw [sortB_len]; simp [akeys]
    have hnw : ((sortB (akeys s.now)).map (wasW s)).length = s.now.length := by rw [List.length_map]; exact hns
    refine wc_seq ?_
    refine wc_region ?_
    refine wl_1 trivial rfl (do_move rfl) ?_
    refine wl_do trivial rfl (do_call (fl_list B d s s 200 hdb (by decide) rfl) ⟨rfl, trivial⟩ enters_33 [0] [1, 2] ⟨rfl, trivial⟩ ⟨rfl, rfl, trivial⟩ (R := [_, _]) (by decide)) ?_
    rintro _ _ ⟨_, ⟨x4, rfl, rfl⟩, rfl⟩
    refine wl_1 trivial rfl (do_assign rfl) ?_
    refine wl_nil ?_
    refine at_then ?_
    refine wc_seq ?_
    refine wc_region ?_
    refine wl_1 trivial rfl (do_assign rfl) ?_
    refine wl_nil ?_
    refine at_then ?_
    refine wc_seq_mid (fun (v : Value) => True) (fun (v : Value) => [(3, .pointer (some ⟨d, 0, none⟩)), (6, x4), (7, v)]) (fun (v : Value) => [diskA B d s, AnyP, row 9 1 x4 s.now.length ((sortB (akeys s.now)).map .string), row 9 1 v s.now.length (((sortB (akeys s.now)).map (wasW s)).map .string), F]) ?_ ?_
    · refine wc_seq ?_
      refine wc_region ?_
      refine wl_1 trivial rfl (do_assign rfl) ?_
      refine wl_nil ?_
      refine at_then ?_
      refine wc_block ?_
      refine wc_mem (L' := [row 9 1 (.slice none 0 0) 0 ([]), diskA B d s, row 9 1 x4 s.now.length ((sortB (akeys s.now)).map .string), AnyP, F]) (fun w_ h_ => h_.intro row_nil) ?_
      refine wc_mem (fun w_ h_ => h_.pick (M := [diskA B d s, AnyP, row 9 1 x4 s.now.length ((sortB (akeys s.now)).map .string), row 9 1 (.slice none 0 0) 0 ([]), F]) [1, 3, 2, 0, 4] ⟨rfl, rfl, rfl, rfl, rfl, trivial⟩ (by decide)) ?_
      refine wc_loop (fun (z_ : Nat × Value × Nat × List Value) => match z_ with | (m, v, nw, xs) => m ≤ s.now.length ∧ nw = m ∧ xs = ((sortB (akeys s.now)).take m).map (fun k => Value.string (wasW s k))) (fun (z_ : Nat × Value × Nat × List Value) => match z_ with | (m, v, nw, xs) => [(3, .pointer (some ⟨d, 0, none⟩)), (6, x4), (7, v), (8, .int .i64 ((m : Nat) : Int))]) (fun (z_ : Nat × Value × Nat × List Value) => match z_ with | (m, v, nw, xs) => [diskA B d s, AnyP, row 9 1 x4 s.now.length ((sortB (akeys s.now)).map .string), row 9 1 v nw xs, F]) (fun (z_ : Nat × Value × Nat × List Value) => match z_ with | (m, v, nw, xs) => s.now.length - m) (0, (.slice none 0 0), 0, []) ⟨Nat.zero_le _, rfl, rfl⟩ ⟨rfl, rfl, rfl, rfl, trivial⟩ rfl ?_
      rintro ⟨m, v, nw, xs⟩ hphi
      obtain ⟨hm, hnwm, hxs⟩ := hphi
      show WC _ _ _ _ _ _ _ [(3, .pointer (some ⟨d, 0, none⟩)), (6, x4), (7, v), (8, .int .i64 ((m : Nat) : Int))] [diskA B d s, AnyP, row 9 1 x4 s.now.length ((sortB (akeys s.now)).map .string), row 9 1 v nw xs, F]
      refine wc_seq ?_
      refine wc_seq ?_
      refine wc_region ?_
      refine wl_1 trivial rfl (do_move rfl) ?_
      refine wl_1 trivial rfl (do_move rfl) ?_
      refine wl_1 trivial rfl (do_lenRow 2 rfl isSlice_39 rfl rfl) ?_
      obtain ⟨c5, h_c5⟩ : ∃ c : Bool, cmpB .lss ((m : Nat) : Int) ((s.now.length : Nat) : Int) = some c := ⟨_, rfl⟩
      refine wl_1 trivial rfl (do_cmp rfl rfl h_c5) ?_
      refine wl_nil ?_
      refine at_then ?_
      cases c5
      · have p_c5 := cmp_lss_f h_c5
        refine wc_false rfl ?_
        refine wc_exit ?_
        refine at_then_exit ?_
        refine at_then_exit ?_
        refine at_block_it ?_
        obtain rfl : nw = s.now.length := by omega
        obtain rfl : xs = ((sortB (akeys s.now)).map (wasW s)).map .string := hxs.trans (was_all (by omega))
        exact at_mid v trivial ⟨rfl, rfl, rfl, trivial⟩ rfl
      · have p_c5 := cmp_lss_t h_c5
        refine wc_true rfl ?_
        refine wc_skip ?_
        refine at_then ?_
        refine wc_seq ?_
        refine wc_block ?_
        refine wc_seq ?_
        refine wc_region ?_
        refine wl_1 trivial rfl (do_move rfl) ?_
        refine wl_1 trivial rfl (do_move rfl) ?_
        refine wl_1 trivial rfl (do_move rfl) ?_
        refine wl_fact 2 rfl (row_some (by omega)) ?_
        rintro ⟨g6, cap7, rfl⟩
        refine wl_1 trivial rfl (do_indexAddr (j := m) (p := m) und_39 ty_9 rfl rfl rfl (by omega) (by omega)) ?_
        obtain ⟨y8, hy9⟩ : ∃ y, (sortB (akeys s.now))[m]? = some y := ⟨_, List.getElem?_eq_getElem (by omega)⟩
        refine wl_1 trivial rfl (do_loadR (j := m) 2 rfl one_9 rfl row_R (by omega) (str_at hy9)) ?_
        refine wl_do trivial rfl (do_call (fr_read B d s s y8 200 hdb (by decide) rfl (read_has hai.off hy9)) ⟨rfl, rfl, trivial⟩ enters_34 [0] [1, 2, 3, 4] ⟨rfl, trivial⟩ ⟨rfl, rfl, rfl, rfl, trivial⟩ (R := [_, _, _, _]) (by decide)) ?_
        rintro _ _ ⟨_, ⟨x10, rfl, rfl⟩, rfl⟩
        refine wl_1 trivial rfl (do_move rfl) ?_
        refine wl_1 trivial rfl (do_extract rfl rfl) ?_
        refine wl_1 trivial rfl (do_extract rfl rfl) ?_
        refine wl_1 trivial rfl (do_assign rfl) ?_
        refine wl_1 trivial rfl (do_assign rfl) ?_
        refine wl_nil ?_
        refine at_then ?_
        refine wc_seq ?_
        refine wc_seq ?_
        refine wc_region ?_
        refine wl_1 trivial rfl (do_move rfl) ?_
        refine wl_do trivial rfl (do_call (num_tri B 0) ⟨rfl, trivial⟩ enters_30 [] [0, 1, 2, 3, 4, 5] trivial ⟨rfl, rfl, rfl, rfl, rfl, rfl, trivial⟩ (R := [_, _, _, _, _, _]) (by decide)) ?_
        rintro _ _ ⟨_, ⟨rfl, rfl⟩, rfl⟩
        refine wl_1 trivial rfl (do_cmp (c := false) rfl rfl rfl) ?_
        refine wl_nil ?_
        refine at_then ?_
        refine wc_false rfl ?_
        refine wc_skip ?_
        refine at_then ?_
        refine wc_region ?_
        refine wl_1 trivial rfl (do_move rfl) ?_
        refine wl_1 trivial rfl (do_move rfl) ?_
        refine wl_1 trivial rfl (do_convBS (R := row 5 1 x10 ((readS y8 s).2.length) (byv (readS y8 s).2)) (bs := ((readS y8 s).2)) 1 und_32 und_5 und_9 rfl rfl row_R) ?_
        refine wl_do trivial rfl (do_buildSlice (ps := [(0, .string ⟨((readS y8 s).2).toArray⟩)]) ⟨rfl, rfl, trivial⟩ (bslice_mk zs_9_1 und_39 ty_9 (by decide) (by decide) rfl)) ?_
        rintro _ _ ⟨b11, rfl, rfl⟩
        refine wl_do trivial rfl (do_append (L1 := [_, _, _, _, _]) (news := [.string ⟨((readS y8 s).2).toArray⟩]) und_39 ty_9 (by decide) rfl rfl rfl (reads_pt (i := 0) rfl rfl) (one_list rfl) (by simp [maxLen]; omega) (by omega)) ?_
        rintro v12 _ ⟨hv12, ov12, rfl⟩
        refine wl_1 trivial rfl (do_assign rfl) ?_
        refine wl_nil ?_
        refine at_block ?_
        refine at_then ?_
        refine wc_region ?_
        refine wl_1 trivial rfl (do_move rfl) ?_
        refine wl_1 trivial rfl (do_add (r := ((m + 1 : Nat) : Int)) rfl rfl (wrap_nat (by omega) (by omega))) ?_
        refine wl_1 trivial rfl (do_assign rfl) ?_
        refine wl_nil ?_
        refine at_pick (M := [_, _, _, _, _]) [1, 3, 4, 5, 6] ⟨rfl, rfl, rfl, rfl, rfl, trivial⟩ (by decide) ?_
        have hphi : m + 1 ≤ s.now.length ∧ nw + 1 = m + 1 ∧ xs ++ [.string ⟨((readS y8 s).2).toArray⟩] = ((sortB (akeys s.now)).take (m + 1)).map (fun k => Value.string (wasW s k)) := ⟨by omega, by omega, by rw [← was_more hy9, ← hxs]; rfl⟩
        exact at_round (m + 1, v12, nw + 1, xs ++ [.string ⟨((readS y8 s).2).toArray⟩]) hphi (by show s.now.length - (m + 1) < s.now.length - m; omega) ⟨rfl, rfl, rfl, rfl, trivial⟩ rfl
    · rintro v hphi
      obtain _ := hphi
      show WC _ _ _ _ _ _ _ [(3, .pointer (some ⟨d, 0, none⟩)), (6, x4), (7, v)] [diskA B d s, AnyP, row 9 1 x4 s.now.length ((sortB (akeys s.now)).map .string), row 9 1 v s.now.length (((sortB (akeys s.now)).map (wasW s)).map .string), F]
      refine wc_seq ?_
      refine wc_region ?_
      refine wl_do trivial rfl (do_makeSlice (m := 1000) und_65 ty_4 rfl rfl rfl rfl rfl (by decide)) ?_
      rintro _ _ ⟨b13, rfl, rfl⟩
      refine wl_1 trivial rfl (do_assign rfl) ?_
      refine wl_nil ?_
      refine at_then ?_
      refine wc_seq ?_
      refine wc_seq ?_
      refine wc_region ?_
      refine wl_1 trivial rfl (do_assign rfl) ?_
      refine wl_nil ?_
      refine at_then ?_
      refine wc_block ?_
      refine wc_mem (fun w_ h_ => h_.pick (M := [diskA B d s, AnyP, row 9 1 x4 s.now.length ((sortB (akeys s.now)).map .string), row 9 1 v s.now.length (((sortB (akeys s.now)).map (wasW s)).map .string), pt b13 (.cells ((List.replicate 1000 (.bool false)).toArray) 4 (0, 0)), F]) [1, 2, 3, 4, 0, 5] ⟨rfl, rfl, rfl, rfl, rfl, rfl, trivial⟩ (by decide)) ?_
      refine wc_loop (fun (j : Nat) => j ≤ 1000) (fun (j : Nat) => [(3, .pointer (some ⟨d, 0, none⟩)), (6, x4), (7, v), (11, .slice (some ⟨b13, 0, none⟩) 1000 1000), (12, .int .i64 ((j : Nat) : Int))]) (fun (j : Nat) => [diskA B d s, AnyP, row 9 1 x4 s.now.length ((sortB (akeys s.now)).map .string), row 9 1 v s.now.length (((sortB (akeys s.now)).map (wasW s)).map .string), pt b13 (.cells ((List.replicate j (Value.bool true) ++ List.replicate (1000 - j) (Value.bool false)).toArray) 4 (0, 0)), F]) (fun (j : Nat) => 1000 - j) 0 (Nat.zero_le _) ⟨rfl, rfl, rfl, rfl, rfl, trivial⟩ rfl ?_
      rintro j hphi
      obtain hj := hphi
      show WC _ _ _ _ _ _ _ [(3, .pointer (some ⟨d, 0, none⟩)), (6, x4), (7, v), (11, .slice (some ⟨b13, 0, none⟩) 1000 1000), (12, .int .i64 ((j : Nat) : Int))] [diskA B d s, AnyP, row 9 1 x4 s.now.length ((sortB (akeys s.now)).map .string), row 9 1 v s.now.length (((sortB (akeys s.now)).map (wasW s)).map .string), pt b13 (.cells ((List.replicate j (Value.bool true) ++ List.replicate (1000 - j) (Value.bool false)).toArray) 4 (0, 0)), F]
      refine wc_seq ?_
      refine wc_seq ?_
      refine wc_region ?_
      refine wl_1 trivial rfl (do_move rfl) ?_
      refine wl_1 trivial rfl (do_move rfl) ?_
      refine wl_1 trivial rfl (do_lenSlice rfl isSlice_65 rfl) ?_
      obtain ⟨c14, h_c14⟩ : ∃ c : Bool, cmpB .lss ((j : Nat) : Int) 1000 = some c := ⟨_, rfl⟩
      refine wl_1 trivial rfl (do_cmp rfl rfl h_c14) ?_
      refine wl_nil ?_
      refine at_then ?_
      cases c14
      · have p_c14 := cmp_lss_f h_c14
        refine wc_false rfl ?_
        refine wc_exit ?_
        refine at_then_exit ?_
        refine at_then_exit ?_
        refine at_block_it ?_
        refine at_then ?_
        refine wc_seq ?_
        refine wc_region ?_
        refine wl_1 trivial rfl (do_move rfl) ?_
        refine wl_1 trivial rfl (do_move rfl) ?_
        refine wl_do trivial rfl (do_call (al_all B d b13 j s 200 hdb (by decide) (by omega)) ⟨rfl, rfl, trivial⟩ enters_35 [0, 4] [1, 2, 3, 5] ⟨rfl, rfl, trivial⟩ ⟨rfl, rfl, rfl, rfl, trivial⟩ (R := [_, _, _, _]) (by decide)) ?_
        rintro _ _ ⟨_, ⟨rfl, rfl⟩, rfl⟩
        refine wl_nil ?_
        refine at_then ?_
        refine wc_seq ?_
        refine wc_seq ?_
        refine wc_region ?_
        refine wl_1 trivial rfl (do_assign rfl) ?_
        refine wl_nil ?_
        refine at_then ?_
        refine wc_block ?_
        refine wc_mem (fun w_ h_ => h_.pick (M := [diskA B d (crashS (List.replicate 1000 true) s), AnyP, row 9 1 x4 s.now.length ((sortB (akeys s.now)).map .string), row 9 1 v s.now.length (((sortB (akeys s.now)).map (wasW s)).map .string), F]) [0, 2, 3, 4, 5] ⟨rfl, rfl, rfl, rfl, rfl, trivial⟩ (by decide)) ?_
        refine wc_loop (fun (z_ : Nat × DS) => match z_ with | (n, t) => JA s t ∧ DB t 200 ∧ n ≤ 2) (fun (z_ : Nat × DS) => match z_ with | (n, t) => [(3, .pointer (some ⟨d, 0, none⟩)), (6, x4), (7, v), (13, .int .i64 ((n : Nat) : Int))]) (fun (z_ : Nat × DS) => match z_ with | (n, t) => [diskA B d t, AnyP, row 9 1 x4 s.now.length ((sortB (akeys s.now)).map .string), row 9 1 v s.now.length (((sortB (akeys s.now)).map (wasW s)).map .string), F]) (fun (z_ : Nat × DS) => match z_ with | (n, t) => 2 - n) (0, (crashS (List.replicate 1000 true) s)) ⟨JA.first hai (by decide), hdb.crash _, by omega⟩ ⟨rfl, rfl, rfl, rfl, trivial⟩ rfl ?_
        rintro ⟨n, t⟩ hphi
        obtain ⟨hj, hdbt, hn⟩ := hphi
        show WC _ _ _ _ _ _ _ [(3, .pointer (some ⟨d, 0, none⟩)), (6, x4), (7, v), (13, .int .i64 ((n : Nat) : Int))] [diskA B d t, AnyP, row 9 1 x4 s.now.length ((sortB (akeys s.now)).map .string), row 9 1 v s.now.length (((sortB (akeys s.now)).map (wasW s)).map .string), F]
        refine wc_seq ?_
        refine wc_seq ?_
        refine wc_region ?_
        refine wl_1 trivial rfl (do_move rfl) ?_
        obtain ⟨c15, h_c15⟩ : ∃ c : Bool, cmpB .lss ((n : Nat) : Int) 2 = some c := ⟨_, rfl⟩
        refine wl_1 trivial rfl (do_cmp rfl rfl h_c15) ?_
        refine wl_nil ?_
        refine at_then ?_
        cases c15
        · have p_c15 := cmp_lss_f h_c15
          refine wc_false rfl ?_
          refine wc_exit ?_
          refine at_then_exit ?_
          refine at_then_exit ?_
          refine at_block_it ?_
          refine at_then ?_
          refine wc_seq ?_
          refine wc_region ?_
          refine wl_1 trivial rfl (do_assign rfl) ?_
          refine wl_nil ?_
          refine at_then ?_
          refine wc_ret ?_
          refine at_pick (M := [_, _]) [1, 4] ⟨rfl, rfl, trivial⟩ (by decide) ?_
          exact at_ret1 (M := [_]) rfl rfl ⟨rfl, rfl⟩ rfl
        · have p_c15 := cmp_lss_t h_c15
          refine wc_true rfl ?_
          refine wc_skip ?_
          refine at_then ?_
          refine wc_seq ?_
          refine wc_block ?_
          refine wc_seq ?_
          refine wc_seq ?_
          refine wc_region ?_
          refine wl_1 trivial rfl (do_move rfl) ?_
          refine wl_do trivial rfl (do_call (fl_list B d t s 200 hdbt (by decide) hj.now) ⟨rfl, trivial⟩ enters_33 [0] [1, 2, 3, 4] ⟨rfl, trivial⟩ ⟨rfl, rfl, rfl, rfl, trivial⟩ (R := [_, _, _, _]) (by decide)) ?_
          rintro _ _ ⟨_, ⟨x16, rfl, rfl⟩, rfl⟩
          refine wl_1 trivial rfl (do_move rfl) ?_
          refine wl_do trivial rfl (do_call (fx_texts B x16 x4 s (Nat.le_trans hdb.n1 (by decide))) ⟨rfl, rfl, trivial⟩ enters_28 [1, 3] [0, 2, 4, 5] ⟨rfl, rfl, trivial⟩ ⟨rfl, rfl, rfl, rfl, trivial⟩ (R := [_, _, _, _]) (by decide)) ?_
          rintro _ _ ⟨_, ⟨rfl, rfl⟩, rfl⟩
          refine wl_1 trivial rfl (do_not (c := true) rfl) ?_
          refine wl_nil ?_
          refine at_then ?_
          refine wc_false rfl ?_
          refine wc_skip ?_
          refine at_then ?_
          refine wc_seq ?_
          refine wc_seq ?_
          refine wc_region ?_
          refine wl_1 trivial rfl (do_assign rfl) ?_
          refine wl_nil ?_
          refine at_then ?_
          refine wc_block ?_
          refine wc_mem (fun w_ h_ => h_.pick (M := [diskA B d t, AnyP, row 9 1 x4 s.now.length ((sortB (akeys s.now)).map .string), row 9 1 v s.now.length (((sortB (akeys s.now)).map (wasW s)).map .string), F]) [2, 3, 1, 4, 5] ⟨rfl, rfl, rfl, rfl, rfl, trivial⟩ (by decide)) ?_
          refine wc_loop (fun (m : Nat) => m ≤ s.now.length) (fun (m : Nat) => [(3, .pointer (some ⟨d, 0, none⟩)), (6, x4), (7, v), (13, .int .i64 ((n : Nat) : Int)), (14, .int .i64 ((m : Nat) : Int))]) (fun (m : Nat) => [diskA B d t, AnyP, row 9 1 x4 s.now.length ((sortB (akeys s.now)).map .string), row 9 1 v s.now.length (((sortB (akeys s.now)).map (wasW s)).map .string), F]) (fun (m : Nat) => s.now.length - m) 0 (Nat.zero_le _) ⟨rfl, rfl, rfl, rfl, rfl, trivial⟩ rfl ?_
          rintro m hphi
          obtain hm := hphi
          show WC _ _ _ _ _ _ _ [(3, .pointer (some ⟨d, 0, none⟩)), (6, x4), (7, v), (13, .int .i64 ((n : Nat) : Int)), (14, .int .i64 ((m : Nat) : Int))] [diskA B d t, AnyP, row 9 1 x4 s.now.length ((sortB (akeys s.now)).map .string), row 9 1 v s.now.length (((sortB (akeys s.now)).map (wasW s)).map .string), F]
          refine wc_seq ?_
          refine wc_seq ?_
          refine wc_region ?_
          refine wl_1 trivial rfl (do_move rfl) ?_
          refine wl_1 trivial rfl (do_move rfl) ?_
          refine wl_1 trivial rfl (do_lenRow 2 rfl isSlice_39 rfl rfl) ?_
          obtain ⟨c17, h_c17⟩ : ∃ c : Bool, cmpB .lss ((m : Nat) : Int) ((s.now.length : Nat) : Int) = some c := ⟨_, rfl⟩
          refine wl_1 trivial rfl (do_cmp rfl rfl h_c17) ?_
          refine wl_nil ?_
          refine at_then ?_
          cases c17
          · have p_c17 := cmp_lss_f h_c17
            refine wc_false rfl ?_
            refine wc_exit ?_
            refine at_then_exit ?_
            refine at_then_exit ?_
            refine at_block_it ?_
            refine at_then ?_
            refine wc_region ?_
            refine wl_1 trivial rfl (do_move rfl) ?_
            refine wl_do trivial rfl (do_call (al_nil B d t 200 hdbt (by decide)) ⟨rfl, rfl, trivial⟩ enters_35 [0, 1] [2, 3, 4] ⟨rfl, rfl, trivial⟩ ⟨rfl, rfl, rfl, trivial⟩ (R := [_, _, _]) (by decide)) ?_
            rintro _ _ ⟨_, ⟨rfl, rfl⟩, rfl⟩
            refine wl_nil ?_
            refine at_block ?_
            refine at_then ?_
            refine wc_region ?_
            refine wl_1 trivial rfl (do_move rfl) ?_
            refine wl_1 trivial rfl (do_add (r := ((n + 1 : Nat) : Int)) rfl rfl (wrap_nat (by omega) (by omega))) ?_
            refine wl_1 trivial rfl (do_assign rfl) ?_
            refine wl_nil ?_
            exact at_round (n + 1, (crashS [] t)) ⟨hj.again, hdbt.crash _, by omega⟩ (by show 2 - (n + 1) < 2 - n; omega) ⟨rfl, rfl, rfl, rfl, trivial⟩ rfl
          · have p_c17 := cmp_lss_t h_c17
            refine wc_true rfl ?_
            refine wc_skip ?_
            refine at_then ?_
            refine wc_seq ?_
            refine wc_block ?_
            refine wc_seq ?_
            refine wc_region ?_
            refine wl_1 trivial rfl (do_move rfl) ?_
            refine wl_1 trivial rfl (do_move rfl) ?_
            refine wl_1 trivial rfl (do_move rfl) ?_
            refine wl_fact 2 rfl (row_some (by omega)) ?_
            rintro ⟨g18, cap19, rfl⟩
            refine wl_1 trivial rfl (do_indexAddr (j := m) (p := m) und_39 ty_9 rfl rfl rfl (by omega) (by omega)) ?_
            obtain ⟨y20, hy21⟩ : ∃ y, (sortB (akeys s.now))[m]? = some y := ⟨_, List.getElem?_eq_getElem (by omega)⟩
            refine wl_1 trivial rfl (do_loadR (j := m) 2 rfl one_9 rfl row_R (by omega) (str_at hy21)) ?_
            refine wl_do trivial rfl (do_call (fr_read B d t s y20 200 hdbt (by decide) (hj.read hai.off hy21) (read_has hai.off hy21)) ⟨rfl, rfl, trivial⟩ enters_34 [0] [1, 2, 3, 4] ⟨rfl, trivial⟩ ⟨rfl, rfl, rfl, rfl, trivial⟩ (R := [_, _, _, _]) (by decide)) ?_
            rintro _ _ ⟨_, ⟨x22, rfl, rfl⟩, rfl⟩
            refine wl_1 trivial rfl (do_move rfl) ?_
            refine wl_1 trivial rfl (do_extract rfl rfl) ?_
            refine wl_1 trivial rfl (do_extract rfl rfl) ?_
            refine wl_1 trivial rfl (do_assign rfl) ?_
            refine wl_1 trivial rfl (do_assign rfl) ?_
            refine wl_nil ?_
            refine at_then ?_
            refine wc_seq ?_
            refine wc_fact 4 rfl (row_some (by omega)) ?_
            rintro ⟨g23, cap24, rfl⟩
            obtain ⟨y25, hy26⟩ : ∃ y, ((sortB (akeys s.now)).map (wasW s))[m]? = some y := ⟨_, List.getElem?_eq_getElem (by omega)⟩
            refine wc_draw [[], [0], [0, 1], [0, 1, 2], [0, 1, 2, 3], [0, 1, 2, 3, 4], [0, 1, 2, 3], [0, 1, 2, 3], [0, 1, 2, 3, 6, 7], [0, 1, 2, 3, 6, 7, 8], [0, 1, 2, 3, 4, 5, 6, 7, 8, 9], [0, 1, 2, 3, 4, 5, 6, 7, 8, 9, 10]] [some (.int .i64 0), none, none, none, none, none, none, none, none, none, none, none] [1] mixed (by kernel_rfl) (by decide) ⟨rfl, rfl, ⟨.inr ⟨_, [.old 16], rfl, rfl, .inl ⟨trivial, do_move rfl⟩⟩, trivial⟩, _, [.op 0], _, rfl, rfl, trivial, do_call (num_tri B 0) ⟨rfl, trivial⟩ enters_30 [] [0, 1, 2, 3, 4, 5] trivial ⟨rfl, rfl, rfl, rfl, rfl, rfl, trivial⟩ (R := [_, _, _, _, _, _]) (by decide), ?_⟩
            rintro _ _ ⟨_, ⟨rfl, rfl⟩, rfl⟩
            obtain ⟨c27, h_c27⟩ : ∃ c : Bool, strB .neq (⟨((readS y20 s).2).toArray⟩ : ByteArray).toList (y25 : ByteArray).toList = some c := ⟨_, rfl⟩
            refine ⟨[some (.int .i64 0), some (.int .i64 0), some (.bool false), some (.bool false), some (x22), some (.string ⟨((readS y20 s).2).toArray⟩), some (.slice (some ⟨g23, 0, none⟩) s.now.length cap24), some (.int .i64 ((m : Nat) : Int)), some (.pointer (some ⟨g23, m, none⟩)), some (.string y25), some (.bool c27), some (.bool c27)], more_mk ⟨rfl, trivial⟩ rfl, ?_⟩
            refine ⟨rfl, ⟨.inl rfl, .inl rfl, .inr ⟨_, [.op 1], rfl, rfl, .inl ⟨trivial, do_cmp (c := false) rfl rfl rfl⟩⟩, .inr ⟨_, [.op 2], rfl, rfl, .inl ⟨trivial, do_move rfl⟩⟩, .inr ⟨_, [.old 15, .op 3], rfl, rfl, .inl ⟨⟨_, rfl, rfl⟩, do_move rfl⟩⟩, .inr ⟨_, [.op 3, .op 4], rfl, rfl, .inl ⟨⟨_, rfl, rfl⟩, do_convBS (R := row 5 1 x22 ((readS y20 s).2.length) (byv (readS y20 s).2)) (bs := ((readS y20 s).2)) 1 und_32 und_5 und_9 rfl rfl row_R⟩⟩, .inr ⟨_, [.old 7, .op 3], rfl, rfl, .inl ⟨⟨_, rfl, rfl⟩, do_move rfl⟩⟩, .inr ⟨_, [.old 14, .op 3], rfl, rfl, .inl ⟨⟨_, rfl, rfl⟩, do_move rfl⟩⟩, .inr ⟨_, [.op 3, .op 6, .op 7], rfl, rfl, .inl ⟨⟨_, rfl, rfl⟩, do_indexAddr (j := m) (p := m) und_39 ty_9 rfl rfl rfl (by omega) (by omega)⟩⟩, .inr ⟨_, [.op 3, .op 8], rfl, rfl, .inl ⟨⟨_, rfl, rfl⟩, do_loadR (j := m) 4 rfl one_9 rfl row_R (by omega) (str_at hy26)⟩⟩, .inr ⟨_, [.op 3, .op 5, .op 9], rfl, rfl, .inl ⟨⟨_, rfl, rfl⟩, do_strcmp rfl rfl h_c27⟩⟩, .inr ⟨_, [.op 3, .op 10], rfl, rfl, .inl ⟨trivial, do_pickF rfl rfl⟩⟩, trivial⟩, [.op 11, .old 3, .old 6, .old 7, .old 13, .old 14], [(127, .bool c27), (3, .pointer (some ⟨d, 0, none⟩)), (6, .slice (some ⟨g18, 0, none⟩) s.now.length cap19), (7, .slice (some ⟨g23, 0, none⟩) s.now.length cap24), (13, .int .i64 ((n : Nat) : Int)), (14, .int .i64 ((m : Nat) : Int))], rfl, rfl, ?_⟩
            refine at_then ?_
            cases c27
            · have p_c27 := str_neq_f h_c27
              refine wc_false rfl ?_
              refine wc_skip ?_
              refine at_block ?_
              refine at_then ?_
              refine wc_region ?_
              refine wl_1 trivial rfl (do_move rfl) ?_
              refine wl_1 trivial rfl (do_add (r := ((m + 1 : Nat) : Int)) rfl rfl (wrap_nat (by omega) (by omega))) ?_
              refine wl_1 trivial rfl (do_assign rfl) ?_
              refine wl_nil ?_
              refine at_pick (M := [_, _, _, _, _]) [0, 2, 3, 4, 5] ⟨rfl, rfl, rfl, rfl, rfl, trivial⟩ (by decide) ?_
              exact at_round (m + 1) (by omega) (by omega) ⟨rfl, rfl, rfl, rfl, rfl, trivial⟩ rfl
            · have p_c27 := str_neq_t h_c27
              exfalso; exact absurd (was_at hy21 hy26).symm ‹_›
      · have p_c14 := cmp_lss_t h_c14
        refine wc_true rfl ?_
        refine wc_skip ?_
        refine at_then ?_
        refine wc_seq ?_
        refine wc_block ?_
        refine wc_region ?_
        refine wl_1 trivial rfl (do_move rfl) ?_
        refine wl_1 trivial rfl (do_move rfl) ?_
        refine wl_1 trivial rfl (do_indexAddr (j := j) (p := j) und_65 ty_4 rfl rfl rfl (by omega) (by omega)) ?_
        refine wl_1 trivial rfl (do_store (L1 := [_, _, _, _]) rfl rfl one_4 rfl (nth_half (by omega)) (cs' := ((List.replicate (j + 1) (Value.bool true) ++ List.replicate (1000 - (j + 1)) (Value.bool false)).toArray)) (set_half (by omega))) ?_
        refine wl_nil ?_
        refine at_block ?_
        refine at_then ?_
        refine wc_region ?_
        refine wl_1 trivial rfl (do_move rfl) ?_
        refine wl_1 trivial rfl (do_add (r := ((j + 1 : Nat) : Int)) rfl rfl (wrap_nat (by omega) (by omega))) ?_
        refine wl_1 trivial rfl (do_assign rfl) ?_
        refine wl_nil ?_
        exact at_round (j + 1) (by omega) (by show 1000 - (j + 1) < 1000 - j; omega) ⟨rfl, rfl, rfl, rfl, rfl, trivial⟩ rfl
end Go.Proofs.Ytmefejfnddcelaa
