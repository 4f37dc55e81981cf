/- Printed by a program of this claim's: what each of these functions of the program does, as its theorem says. No condition but what stands in each theorem. -/
import Derived.Test.YtmefejfnddcelaaDs
import Derived.Test.YtmefejfnddcelaaDq
namespace Go.Proofs.Ytmefejfnddcelaa
theorem sw_first (B : Ctx) (d bk : Nat) : Tri Try.prog B 36 #[.pointer (some ⟨d, 0, none⟩), .slice (some ⟨bk, 0, none⟩) 5 5] [diskA B d qD, pt bk (.cells #[.int .u8 102, .int .u8 105, .int .u8 114, .int .u8 115, .int .u8 116] 5 (5, 6))] (fun u M => u = .int .i64 0 ∧ M = [diskA B d w5, pt bk (.cells #[.int .u8 102, .int .u8 105, .int .u8 114, .int .u8 115, .int .u8 116] 5 (5, 6))]) := by
  have h := swap_tri B d qD (some ⟨bk, 0, none⟩) 5 bF (pt bk (.cells #[.int .u8 102, .int .u8 105, .int .u8 114, .int .u8 115, .int .u8 116] 5 (5, 6))) 0 su_b0 (by decide) (pt_R rfl rfl) (by decide)
  rw [swap0] at h; exact h
theorem sw_c (B : Ctx) (d : Nat) (s : DS) (ba : Option Addr) (bc : Nat) (b : List UInt8) (cur : List UInt8) (p : Nat) (t : Option Nat) (N : Nat) (hw : WI cur p t s) (hdb : DB s N) (hN : N ≤ 900000) (hR : Rd B AnyP 1 (.slice ba b.length bc) b.length (byv b)) (hb : b.length ≤ 500) :
    Tri Try.prog B 36 #[.pointer (some ⟨d, 0, none⟩), .slice ba b.length bc] [diskA B d s, AnyP] (fun u M => ∃ f s', u = .int .i64 f ∧ M = [diskA B d s', AnyP] ∧ errOk f ∧ CS cur b (f = 0) s' ∧ DB s' (N + 7)) :=
  tri_post (swap_tri B d s ba bc b AnyP N hdb hN hR (by omega)) fun v M h => ⟨_, _, h.1, h.2, (sw_all hw hb).1, (sw_all hw hb).2, hdb.swap b⟩
theorem sw_r (B : Ctx) (d : Nat) (s : DS) (kl : List Bool) (cur b : List UInt8) (f : Int) (N : Nat) (hc : CS cur b (f = 0) s) (hdb : DB s N) (hN : N ≤ 1000000) (hb : b.length ≤ 500) (hcur : cur.length ≤ 500) :
    Tri Try.prog B 34 #[.pointer (some ⟨d, 0, none⟩), .string ⟨#[105, 116]⟩] [diskA B d (crashS kl s)] (fun u M => ∃ x c, u = .tuple #[x, .int .i64 0] ∧ M = [diskA B d (crashS kl s), row 5 1 x c.length (byv c)] ∧ (∃ p t, WI c p t (crashS kl s)) ∧ (c = b ∨ ¬ f = 0 ∧ c = cur)) := by
  obtain ⟨i, t, c, h1, h2, h3⟩ := hc.crash hb hcur kl
  have h := d_read B d (crashS kl s) kI N (hdb.crash kl) hN
  rw [h2] at h
  exact tri_post h fun v M ⟨x, e, m⟩ => ⟨x, c, e, m, ⟨i, t, h1⟩, h3⟩
theorem zs_5_5 : ((Array.range (5 * 1)).map ((.int .u8 0 : Value).cells[· % (.int .u8 0 : Value).cells.size]!)) = #[.int .u8 0, .int .u8 0, .int .u8 0, .int .u8 0, .int .u8 0] := by kernel_rfl
theorem enters_36 : Enters Try.prog 36 := enters_of Try.func36 (by kernel_rfl) (by kernel_rfl)
theorem isSlice_71 : isSlice Try.prog 71 = true := by kernel_rfl
theorem und_71 : Try.prog.underlying 71 = some (.slice 74) := by kernel_rfl
theorem ty_74 : tyOk Try.prog 74 5 72 (.agg #[.slice none 0 0, .int .i64 0, .int .i64 0, .bool false, .slice none 0 0]) := ty_mk (by kernel_rfl) rfl
theorem agg_74 : aggOk Try.prog 74 5 = true := by kernel_rfl
theorem zero_74 : zeroOk Try.prog 74 (.agg #[.slice none 0 0, .int .i64 0, .int .i64 0, .bool false, .slice none 0 0]) := zero_mk (by kernel_rfl)
theorem fo_74_0 : fieldOk Try.prog 74 0 0 = true := by kernel_rfl
theorem fo_74_1 : fieldOk Try.prog 74 1 1 = true := by kernel_rfl
theorem fo_74_2 : fieldOk Try.prog 74 2 2 = true := by kernel_rfl
theorem fo_74_3 : fieldOk Try.prog 74 3 3 = true := by kernel_rfl
theorem fo_74_4 : fieldOk Try.prog 74 4 4 = true := by kernel_rfl
set_option maxRecDepth 100000 in
set_option maxHeartbeats 8000000 in
theorem swaps_tri0 (B : Ctx) (a0 : Option Addr) (cap0 b0 off0 : Nat) (ops : List SwapD) (W : World) (hrd : ∀ v n xs, inSl W v n xs → Rd B AnyP 1 v n xs) (hops : ∀ (j : Nat) (o : SwapD), ops[j]? = some o → a0 = some ⟨b0, off0, none⟩ ∧ o.Ok W ∧ ∀ (i : Nat) (u : Value), o.cells[i]? = some u → B.cell ⟨b0, off0 + j * 5 + i, none⟩ u) :
    Tri Try.prog B 8 #[.slice a0 ops.length cap0] [AnyP] (fun u M => u = .bool true ∧ M = [AnyP]) := by
  refine tri_body (n := 118) Try.func8 rfl rfl rfl ?_
  intro F
  show WC _ _ _ _ _ _ _ [(0, .slice a0 ops.length cap0)] [AnyP, F]
  refine wc_seq ?_
  refine wc_region ?_
  refine wl_1 trivial rfl (do_assign rfl) ?_
  refine wl_nil ?_
  refine at_then ?_
  refine wc_seq ?_
  refine wc_region ?_
  refine wl_do trivial rfl (do_call (d_newq B) ⟨rfl, trivial⟩ enters_29 [] [0, 1] trivial ⟨rfl, rfl, trivial⟩ (R := [_, _]) (by decide)) ?_
  rintro _ _ ⟨_, ⟨d, rfl, rfl⟩, rfl⟩
  refine wl_1 trivial rfl (do_move rfl) ?_
  refine wl_1 trivial rfl (do_extract rfl rfl) ?_
  refine wl_1 trivial rfl (do_extract rfl rfl) ?_
  refine wl_1 trivial rfl (do_assign rfl) ?_
  refine wl_1 trivial rfl (do_assign rfl) ?_
  refine wl_nil ?_
  refine at_then ?_
  refine wc_seq ?_
  refine wc_seq ?_
  refine wc_region ?_
  refine wl_1 trivial rfl (do_move rfl) ?_
  refine wl_do trivial rfl (do_call (num_tri B 0) ⟨rfl, trivial⟩ enters_30 [] [0, 1, 2] trivial ⟨rfl, rfl, rfl, trivial⟩ (R := [_, _, _]) (by decide)) ?_
  rintro _ _ ⟨_, ⟨rfl, rfl⟩, rfl⟩
  refine wl_1 trivial rfl (do_cmp (c := false) rfl rfl rfl) ?_
  refine wl_1 trivial rfl (do_move rfl) ?_
  refine wl_1 ⟨_, rfl, rfl⟩ rfl (do_move rfl) ?_
  refine wl_1 ⟨_, rfl, rfl⟩ rfl (do_eqPtr isPtr_62 rfl rfl (.inr rfl)) ?_
  refine wl_1 trivial rfl (do_pickF rfl rfl) ?_
  refine wl_1 trivial rfl (do_move rfl) ?_
  refine wl_do ⟨_, rfl, rfl⟩ rfl (do_call (knows_tri B) trivial enters_31 [] [0, 1, 2] trivial ⟨rfl, rfl, rfl, trivial⟩ (R := [_, _, _]) (by decide)) ?_
  rintro _ _ ⟨_, ⟨rfl, rfl⟩, rfl⟩
  refine wl_1 ⟨_, rfl, rfl⟩ rfl (do_not (c := true) rfl) ?_
  refine wl_1 trivial rfl (do_pickF rfl rfl) ?_
  refine wl_1 trivial rfl (do_move rfl) ?_
  refine wl_1 ⟨_, rfl, rfl⟩ rfl (do_move rfl) ?_
  refine wl_do ⟨_, rfl, rfl⟩ rfl (do_buildSlice (ps := [(0, .int .u8 102), (1, .int .u8 105), (2, .int .u8 114), (3, .int .u8 115), (4, .int .u8 116)]) ⟨rfl, rfl, rfl, rfl, rfl, rfl, rfl, rfl, rfl, rfl, trivial⟩ (bslice_mk zs_5_5 und_32 ty_5 (by decide) (by decide) rfl)) ?_
  rintro _ _ ⟨b1, rfl, rfl⟩
  refine wl_1 ⟨_, rfl, rfl⟩ rfl (do_convBB (L1 := []) und_32 und_5 rfl) ?_
  refine wl_do ⟨_, rfl, rfl⟩ rfl (do_call (sw_first B d b1) ⟨rfl, rfl, trivial⟩ enters_36 [1, 0] [2, 3] ⟨rfl, rfl, trivial⟩ ⟨rfl, rfl, trivial⟩ (R := [_, _]) (by decide)) ?_
  rintro _ _ ⟨_, ⟨rfl, rfl⟩, rfl⟩
  refine wl_1 ⟨_, rfl, rfl⟩ rfl (do_cmp (c := false) rfl rfl rfl) ?_
  refine wl_1 trivial rfl (do_pickF rfl rfl) ?_
  refine wl_nil ?_
  refine at_then ?_
  refine wc_false rfl ?_
  refine wc_skip ?_
  refine at_then ?_
  refine wc_seq ?_
  refine wc_region ?_
  refine wl_1 trivial rfl (do_assign rfl) ?_
  refine wl_nil ?_
  refine at_then ?_
  refine wc_seq ?_
  refine wc_seq ?_
  refine wc_region ?_
  refine wl_1 trivial rfl (do_assign rfl) ?_
  refine wl_nil ?_
  refine at_then ?_
  refine wc_block ?_
  refine wc_mem (fun w_ h_ => h_.pick (M := [diskA B d w5, AnyP, F]) [0, 2, 3] ⟨rfl, rfl, rfl, trivial⟩ (by decide)) ?_
  refine wc_loop (fun (z_ : Nat × DS × List UInt8 × Nat × Option Nat) => match z_ with | (i, s, cur, p, t) => DB s (7 * i + 7) ∧ i ≤ 60 ∧ WI cur p t s) (fun (z_ : Nat × DS × List UInt8 × Nat × Option Nat) => match z_ with | (i, s, cur, p, t) => [(0, .slice a0 ops.length cap0), (3, .pointer (some ⟨d, 0, none⟩)), (5, .string ⟨(cur).toArray⟩), (6, .int .i64 ((i : Nat) : Int))]) (fun (z_ : Nat × DS × List UInt8 × Nat × Option Nat) => match z_ with | (i, s, cur, p, t) => [diskA B d s, AnyP, F]) (fun (z_ : Nat × DS × List UInt8 × Nat × Option Nat) => match z_ with | (i, s, cur, p, t) => 60 - i) (0, w5, bF, 0, none) ⟨db0, by omega, wi0⟩ ⟨rfl, rfl, rfl, rfl, trivial⟩ rfl ?_
  rintro ⟨i, s, cur, p, t⟩ hphi
  obtain ⟨hdb, hi, hwi⟩ := hphi
  show WC _ _ _ _ _ _ _ [(0, .slice a0 ops.length cap0), (3, .pointer (some ⟨d, 0, none⟩)), (5, .string ⟨(cur).toArray⟩), (6, .int .i64 ((i : Nat) : Int))] [diskA B d s, AnyP, F]
  refine wc_seq ?_
  refine wc_seq ?_
  refine wc_region ?_
  refine wl_1 trivial rfl (do_move rfl) ?_
  refine wl_1 trivial rfl (do_move rfl) ?_
  refine wl_1 trivial rfl (do_lenSlice rfl isSlice_71 rfl) ?_
  obtain ⟨c2, h_c2⟩ : ∃ c : Bool, cmpB .lss ((i : Nat) : Int) ((ops.length : Nat) : Int) = some c := ⟨_, rfl⟩
  refine wl_1 trivial rfl (do_cmp rfl rfl h_c2) ?_
  refine wl_1 trivial rfl (do_move rfl) ?_
  cases c2
  · have p_c2 := cmp_lss_f h_c2
    refine wl_no rfl rfl rfl rfl rfl ?_
    refine wl_no rfl rfl rfl rfl rfl ?_
    refine wl_1 trivial rfl (do_pickF rfl rfl) ?_
    refine wl_nil ?_
    refine at_then ?_
    refine wc_false rfl ?_
    refine wc_exit ?_
    refine at_then_exit ?_
    refine at_then_exit ?_
    refine at_block_it ?_
    refine at_then ?_
    refine wc_seq ?_
    refine wc_region ?_
    refine wl_1 trivial rfl (do_assign rfl) ?_
    refine wl_nil ?_
    refine at_then ?_
    refine wc_ret ?_
    refine at_pick (M := [_, _]) [1, 2] ⟨rfl, rfl, trivial⟩ (by decide) ?_
    exact at_ret1 (M := [_]) rfl rfl ⟨rfl, rfl⟩ rfl
  · have p_c2 := cmp_lss_t h_c2
    refine wl_1 ⟨_, rfl, rfl⟩ rfl (do_move rfl) ?_
    obtain ⟨c3, h_c3⟩ : ∃ c : Bool, cmpB .lss ((i : Nat) : Int) 60 = some c := ⟨_, rfl⟩
    refine wl_1 ⟨_, rfl, rfl⟩ rfl (do_cmp rfl rfl h_c3) ?_
    refine wl_1 trivial rfl (do_pickT rfl rfl) ?_
    refine wl_nil ?_
    refine at_then ?_
    cases c3
    · have p_c3 := cmp_lss_f h_c3
      refine wc_false rfl ?_
      refine wc_exit ?_
      refine at_then_exit ?_
      refine at_then_exit ?_
      refine at_block_it ?_
      refine at_then ?_
      refine wc_seq ?_
      refine wc_region ?_
      refine wl_1 trivial rfl (do_assign rfl) ?_
      refine wl_nil ?_
      refine at_then ?_
      refine wc_ret ?_
      refine at_pick (M := [_, _]) [1, 2] ⟨rfl, rfl, trivial⟩ (by decide) ?_
      exact at_ret1 (M := [_]) rfl rfl ⟨rfl, rfl⟩ rfl
    · have p_c3 := cmp_lss_t h_c3
      refine wc_true rfl ?_
      refine wc_skip ?_
      refine at_then ?_
      refine wc_seq ?_
      refine wc_block ?_
      refine wc_seq ?_
      refine wc_region ?_
      refine wl_1 trivial rfl (do_move rfl) ?_
      refine wl_1 trivial rfl (do_move rfl) ?_
      obtain ⟨⟨ob, bs, fuse, fl, done, ok, kl⟩, ho⟩ : ∃ o, ops[i]? = some o := ⟨_, List.getElem?_eq_getElem (by omega)⟩
      obtain ⟨hae, hoo, hcl⟩ := hops _ _ ho
      subst hae
      obtain ⟨hob, ⟨hk1, hk2⟩, ⟨hn1, hn2⟩, _, hok⟩ := hoo
      simp only at hk1 hk2 hob hn1 hn2 hok
      have hRo := hob
      obtain ⟨_, ba, bc, hb3, hbcap, hbl3, hbce⟩ := hob
      subst hb3
      have hRok := hok
      obtain ⟨_, ka2, kc2, hk3, hkc2, _, _⟩ := hok
      subst hk3
      have hRb : Rd B AnyP 1 (.slice ba bs.length bc) bs.length (byv bs) := hrd _ _ _ hRo
      have hRk2 : Rd B AnyP 1 (.slice ka2 kl.length kc2) kl.length (kl.map .bool) := hrd _ _ _ hRok
      refine wl_1 trivial rfl (do_indexAddr (j := i) (p := (off0 + i * 5)) und_71 ty_74 rfl rfl rfl (by omega) (by omega)) ?_
      refine wl_1 trivial rfl (do_loadAB (vs := [.slice ba bs.length bc, .int .i64 fuse, .int .i64 fl, .bool done, .slice ka2 kl.length kc2]) rfl agg_74 rfl (fun j u hj => hcl j u hj)) ?_
      refine wl_do trivial rfl (do_alloc zero_74 rfl) ?_
      rintro _ _ ⟨b4, rfl, rfl⟩
      refine wl_1 trivial rfl (do_storeL (L1 := []) rfl rfl agg_74 rfl (cs' := #[.slice ba bs.length bc, .int .i64 fuse, .int .i64 fl, .bool done, .slice ka2 kl.length kc2]) rfl trivial) ?_
      refine wl_nil ?_
      refine at_then ?_
      refine wc_seq_mid (fun (z_ : Value × List UInt8) => match z_ with | (bv, b) => b.length ≤ 500 ∧ Rd B AnyP 1 bv b.length (byv b) ∧ ∃ a c, bv = .slice a b.length c) (fun (z_ : Value × List UInt8) => match z_ with | (bv, b) => [(0, .slice (some ⟨b0, off0, none⟩) ops.length cap0), (3, .pointer (some ⟨d, 0, none⟩)), (5, .string ⟨(cur).toArray⟩), (6, .int .i64 ((i : Nat) : Int)), (7, .pointer (some ⟨b4, 0, none⟩))]) (fun (z_ : Value × List UInt8) => match z_ with | (bv, b) => [diskA B d s, AnyP, pt b4 (.cells #[bv, .int .i64 fuse, .int .i64 fl, .bool done, .slice ka2 kl.length kc2] 74 (0, 0)), F]) ?_ ?_
      · refine wc_seq ?_
        refine wc_region ?_
        refine wl_1 trivial rfl (do_fieldAddr (k := 0) (k' := 0) fo_74_0 rfl (by rfl)) ?_
        refine wl_1 trivial rfl (do_load 0 rfl one_32 rfl rfl) ?_
        refine wl_1 trivial rfl (do_lenSlice rfl isSlice_32 rfl) ?_
        obtain ⟨c5, h_c5⟩ : ∃ c : Bool, cmpB .gtr ((bs.length : Nat) : Int) 500 = some c := ⟨_, rfl⟩
        refine wl_1 trivial rfl (do_cmp rfl rfl h_c5) ?_
        refine wl_nil ?_
        refine at_then ?_
        cases c5
        · have p_c5 := cmp_gtr_f h_c5
          refine wc_false rfl ?_
          refine wc_skip ?_
          refine at_pick (M := [_, _, _, _]) [1, 2, 0, 3] ⟨rfl, rfl, rfl, rfl, trivial⟩ (by decide) ?_
          have hph : bs.length ≤ 500 ∧ Rd B AnyP 1 (.slice ba bs.length bc) bs.length (byv bs) ∧ ∃ a c, Value.slice ba bs.length bc = .slice a bs.length c := ⟨by omega, hRb, _, _, rfl⟩
          exact at_mid (.slice ba bs.length bc, bs) hph ⟨rfl, rfl, rfl, rfl, rfl, trivial⟩ rfl
        · have p_c5 := cmp_gtr_t h_c5
          refine wc_true rfl ?_
          refine wc_region ?_
          refine wl_1 trivial rfl (do_fieldAddr (k := 0) (k' := 0) fo_74_0 rfl (by rfl)) ?_
          refine wl_1 trivial rfl (do_load 0 rfl one_32 rfl rfl) ?_
          obtain ⟨bk, bo, rfl⟩ : ∃ bk bo, ba = some ⟨bk, bo, none⟩ := by
            obtain ⟨b_, o_, h_, _⟩ := hbce 0 ((byv bs)[0]'(by rw [byv_len]; omega)) (by simp)
            exact ⟨b_, o_, h_⟩
          refine wl_1 trivial rfl (do_sliceP (vh := (some (.int .i64 500))) (h := 500) und_32 ty_5 rfl rfl rfl (by omega)) ?_
          refine wl_1 trivial rfl (do_fieldAddr (k := 0) (k' := 0) fo_74_0 rfl (by rfl)) ?_
          refine wl_1 trivial rfl (do_store (L1 := []) rfl rfl one_32 rfl rfl (cs' := #[.slice (some ⟨bk, bo, none⟩) 500 bc, .int .i64 fuse, .int .i64 fl, .bool done, .slice ka2 kl.length kc2]) rfl) ?_
          refine wl_nil ?_
          refine at_pick (M := [_, _, _, _]) [1, 2, 0, 3] ⟨rfl, rfl, rfl, rfl, trivial⟩ (by decide) ?_
          have hlt : (bs.take 500).length = 500 := by rw [List.length_take]; omega
          have hRt : Rd B AnyP 1 (.slice (some ⟨bk, bo, none⟩) 500 bc) (bs.take 500).length (byv (bs.take 500)) := by have h := rd_prefix (k := 500) (by omega) hRb; rw [hlt] at h ⊢; exact h
          have hph : (bs.take 500).length ≤ 500 ∧ Rd B AnyP 1 (.slice (some ⟨bk, bo, none⟩) 500 bc) (bs.take 500).length (byv (bs.take 500)) ∧ ∃ a c, Value.slice (some ⟨bk, bo, none⟩) 500 bc = .slice a (bs.take 500).length c := ⟨by omega, hRt, some ⟨bk, bo, none⟩, bc, by rw [hlt]⟩
          exact at_mid (.slice (some ⟨bk, bo, none⟩) 500 bc, (bs.take 500)) hph ⟨rfl, rfl, rfl, rfl, rfl, trivial⟩ rfl
      · rintro ⟨bv, b⟩ hphi
        obtain ⟨hbl, hR1, ba1, bc1, hbv⟩ := hphi
        show WC _ _ _ _ _ _ _ [(0, .slice (some ⟨b0, off0, none⟩) ops.length cap0), (3, .pointer (some ⟨d, 0, none⟩)), (5, .string ⟨(cur).toArray⟩), (6, .int .i64 ((i : Nat) : Int)), (7, .pointer (some ⟨b4, 0, none⟩))] [diskA B d s, AnyP, pt b4 (.cells #[bv, .int .i64 fuse, .int .i64 fl, .bool done, .slice ka2 kl.length kc2] 74 (0, 0)), F]
        subst hbv
        refine wc_seq ?_
        refine wc_region ?_
        refine wl_1 trivial rfl (do_move rfl) ?_
        refine wl_1 trivial rfl (do_fieldAddr (k := 1) (k' := 1) fo_74_1 rfl (by rfl)) ?_
        refine wl_1 trivial rfl (do_load 2 rfl one_3 rfl rfl) ?_
        obtain ⟨m6, h_m6⟩ : ∃ r : Int, r = fuse.tmod 12 := ⟨_, rfl⟩
        have l_m6 := rem_rng fuse 12 (by decide)
        rw [← h_m6] at l_m6
        refine wl_1 trivial rfl (do_rem (r := m6) rfl rfl (by decide) h_m6.symm) ?_
        refine wl_1 trivial rfl (do_add (r := m6 + 12) rfl rfl (wrap_i64 (by omega) (by omega))) ?_
        obtain ⟨m7, h_m7⟩ : ∃ r : Int, r = (m6 + 12).tmod 12 := ⟨_, rfl⟩
        have l_m7 := rem_rng (m6 + 12) 12 (by decide)
        rw [← h_m7] at l_m7
        refine wl_1 trivial rfl (do_rem (r := m7) rfl rfl (by decide) h_m7.symm) ?_
        refine wl_1 trivial rfl (do_sub (r := m7 - 1) rfl rfl (wrap_i64 (by omega) (by omega))) ?_
        refine wl_do trivial rfl (do_call (d_cut B d s (m7 - 1)) ⟨rfl, rfl, trivial⟩ enters_37 [0] [1, 2, 3] ⟨rfl, trivial⟩ ⟨rfl, rfl, rfl, trivial⟩ (R := [_, _, _]) (by decide)) ?_
        rintro _ _ ⟨_, ⟨rfl, rfl⟩, rfl⟩
        refine wl_nil ?_
        refine at_then ?_
        refine wc_seq ?_
        refine wc_region ?_
        refine wl_1 trivial rfl (do_move rfl) ?_
        refine wl_1 trivial rfl (do_fieldAddr (k := 2) (k' := 2) fo_74_2 rfl (by rfl)) ?_
        refine wl_1 trivial rfl (do_load 2 rfl one_3 rfl rfl) ?_
        obtain ⟨m8, h_m8⟩ : ∃ r : Int, r = fl.tmod 12 := ⟨_, rfl⟩
        have l_m8 := rem_rng fl 12 (by decide)
        rw [← h_m8] at l_m8
        refine wl_1 trivial rfl (do_rem (r := m8) rfl rfl (by decide) h_m8.symm) ?_
        refine wl_1 trivial rfl (do_add (r := m8 + 12) rfl rfl (wrap_i64 (by omega) (by omega))) ?_
        obtain ⟨m9, h_m9⟩ : ∃ r : Int, r = (m8 + 12).tmod 12 := ⟨_, rfl⟩
        have l_m9 := rem_rng (m8 + 12) 12 (by decide)
        rw [← h_m9] at l_m9
        refine wl_1 trivial rfl (do_rem (r := m9) rfl rfl (by decide) h_m9.symm) ?_
        refine wl_1 trivial rfl (do_fieldAddr (k := 3) (k' := 3) fo_74_3 rfl (by rfl)) ?_
        refine wl_1 trivial rfl (do_load 2 rfl one_4 rfl rfl) ?_
        refine wl_do trivial rfl (do_call (d_fail B d (cutS (m7 - 1) s) m9 done) ⟨rfl, rfl, rfl, trivial⟩ enters_38 [0] [1, 2, 3] ⟨rfl, trivial⟩ ⟨rfl, rfl, rfl, trivial⟩ (R := [_, _, _]) (by decide)) ?_
        rintro _ _ ⟨_, ⟨rfl, rfl⟩, rfl⟩
        refine wl_nil ?_
        refine at_then ?_
        refine wc_seq ?_
        refine wc_region ?_
        refine wl_1 trivial rfl (do_move rfl) ?_
        refine wl_1 trivial rfl (do_fieldAddr (k := 0) (k' := 0) fo_74_0 rfl (by rfl)) ?_
        refine wl_1 trivial rfl (do_load 2 rfl one_32 rfl rfl) ?_
        refine wl_do trivial rfl (do_call (sw_c B d (failS m9 done (cutS (m7 - 1) s)) ba1 bc1 b cur p t (7 * i + 7) (WI.switch hwi _ _ _) ((hdb.cut (by omega)).fail (by omega) _) (by omega) hR1 hbl) ⟨rfl, rfl, trivial⟩ enters_36 [0, 1] [2, 3] ⟨rfl, rfl, trivial⟩ ⟨rfl, rfl, trivial⟩ (R := [_, _]) (by decide)) ?_
        rintro _ _ ⟨_, ⟨fz, s2, rfl, rfl, herr, hcs2, hdb2⟩, rfl⟩
        refine wl_1 trivial rfl (do_assign rfl) ?_
        refine wl_nil ?_
        refine at_then ?_
        refine wc_seq ?_
        refine wc_seq ?_
        refine wc_region ?_
        refine wl_1 trivial rfl (do_move rfl) ?_
        obtain ⟨c10, h_c10⟩ : ∃ c : Bool, cmpB .neq fz 0 = some c := ⟨_, rfl⟩
        refine wl_1 trivial rfl (do_cmp rfl rfl h_c10) ?_
        refine wl_1 trivial rfl (do_move rfl) ?_
        cases c10
        · have p_c10 := cmp_neq_f h_c10
          refine wl_no rfl rfl rfl rfl rfl ?_
          refine wl_no rfl rfl rfl rfl rfl ?_
          refine wl_1 trivial rfl (do_pickF rfl rfl) ?_
          refine wl_1 trivial rfl (do_move rfl) ?_
          refine wl_no rfl rfl rfl rfl rfl ?_
          refine wl_no rfl rfl rfl rfl rfl ?_
          refine wl_1 trivial rfl (do_pickF rfl rfl) ?_
          refine wl_nil ?_
          refine at_then ?_
          refine wc_false rfl ?_
          refine wc_skip ?_
          refine at_then ?_
          refine wc_seq ?_
          refine wc_region ?_
          refine wl_1 trivial rfl (do_move rfl) ?_
          refine wl_1 trivial rfl (do_fieldAddr (k := 4) (k' := 4) fo_74_4 rfl (by rfl)) ?_
          refine wl_1 trivial rfl (do_load 2 rfl one_65 rfl rfl) ?_
          refine wl_do trivial rfl (do_call (d_crash B d s2 ka2 kc2 kl AnyP (7 * i + 7 + 7) (hdb2) (by omega) hRk2 hkc2) ⟨rfl, rfl, trivial⟩ enters_35 [0, 1] [2, 3] ⟨rfl, rfl, trivial⟩ ⟨rfl, rfl, trivial⟩ (R := [_, _]) (by decide)) ?_
          rintro _ _ ⟨_, ⟨rfl, rfl⟩, rfl⟩
          refine wl_nil ?_
          refine at_then ?_
          refine wc_seq ?_
          refine wc_region ?_
          refine wl_1 trivial rfl (do_move rfl) ?_
          refine wl_do trivial rfl (do_call (sw_r B d s2 kl cur b fz (7 * i + 7 + 7) hcs2 hdb2 (by omega) hbl hwi.len) ⟨rfl, rfl, trivial⟩ enters_34 [0] [1, 2, 3] ⟨rfl, trivial⟩ ⟨rfl, rfl, rfl, trivial⟩ (R := [_, _, _]) (by decide)) ?_
          rintro _ _ ⟨_, ⟨x11, c2, rfl, rfl, ⟨p2, t2, hwi2⟩, hcc⟩, rfl⟩
          refine wl_1 trivial rfl (do_move rfl) ?_
          refine wl_1 trivial rfl (do_extract rfl rfl) ?_
          refine wl_1 trivial rfl (do_extract rfl rfl) ?_
          refine wl_1 trivial rfl (do_assign rfl) ?_
          refine wl_1 trivial rfl (do_assign rfl) ?_
          refine wl_nil ?_
          refine at_then ?_
          refine wc_seq ?_
          refine wc_seq ?_
          refine wc_region ?_
          refine wl_1 trivial rfl (do_move rfl) ?_
          refine wl_do trivial rfl (do_call (num_tri B 0) ⟨rfl, trivial⟩ enters_30 [] [0, 1, 2, 3, 4] trivial ⟨rfl, rfl, rfl, rfl, rfl, trivial⟩ (R := [_, _, _, _, _]) (by decide)) ?_
          rintro _ _ ⟨_, ⟨rfl, rfl⟩, rfl⟩
          refine wl_1 trivial rfl (do_cmp (c := false) rfl rfl rfl) ?_
          refine wl_1 trivial rfl (do_move rfl) ?_
          refine wl_1 ⟨_, rfl, rfl⟩ rfl (do_move rfl) ?_
          refine wl_1 ⟨_, rfl, rfl⟩ rfl (do_convBS (R := row 5 1 x11 c2.length (byv c2)) (bs := c2) 1 und_32 und_5 und_9 rfl rfl row_R) ?_
          refine wl_1 ⟨_, rfl, rfl⟩ rfl (do_fieldAddr (k := 0) (k' := 0) fo_74_0 rfl (by rfl)) ?_
          refine wl_1 ⟨_, rfl, rfl⟩ rfl (do_load 3 rfl one_32 rfl rfl) ?_
          refine wl_1 ⟨_, rfl, rfl⟩ rfl (do_convBS (R := AnyP) (bs := b) 2 und_32 und_5 und_9 rfl rfl hR1) ?_
          obtain ⟨c12, h_c12⟩ : ∃ c : Bool, strB .neq (⟨(c2).toArray⟩ : ByteArray).toList (⟨(b).toArray⟩ : ByteArray).toList = some c := ⟨_, rfl⟩
          refine wl_1 ⟨_, rfl, rfl⟩ rfl (do_strcmp rfl rfl h_c12) ?_
          refine wl_1 ⟨_, rfl, rfl⟩ rfl (do_move rfl) ?_
          cases c12
          · have p_c12 := str_neq_f h_c12
            refine wl_no rfl rfl rfl rfl rfl ?_
            refine wl_no rfl rfl rfl rfl rfl ?_
            refine wl_no rfl rfl rfl rfl rfl ?_
            refine wl_noU rfl rfl rfl rfl ?_
            refine wl_noU rfl rfl rfl rfl ?_
            refine wl_noU rfl rfl rfl rfl ?_
            refine wl_noU rfl rfl rfl rfl ?_
            refine wl_no rfl rfl rfl rfl rfl ?_
            refine wl_1 ⟨_, rfl, rfl⟩ rfl (do_pickF rfl rfl) ?_
            refine wl_1 trivial rfl (do_pickF rfl rfl) ?_
            refine wl_nil ?_
            refine at_then ?_
            refine wc_false rfl ?_
            refine wc_skip ?_
            refine at_then ?_
            refine wc_region ?_
            refine wl_1 trivial rfl (do_move rfl) ?_
            refine wl_1 trivial rfl (do_convBS (R := row 5 1 x11 c2.length (byv c2)) (bs := c2) 1 und_32 und_5 und_9 rfl rfl row_R) ?_
            refine wl_1 trivial rfl (do_assign rfl) ?_
            refine wl_nil ?_
            refine at_block ?_
            refine at_then ?_
            refine wc_region ?_
            refine wl_1 trivial rfl (do_move rfl) ?_
            refine wl_1 trivial rfl (do_add (r := ((i + 1 : Nat) : Int)) rfl rfl (wrap_nat (by omega) (by omega))) ?_
            refine wl_1 trivial rfl (do_assign rfl) ?_
            refine wl_nil ?_
            refine at_pick (M := [_, _, _]) [0, 2, 4] ⟨rfl, rfl, rfl, trivial⟩ (by decide) ?_
            exact at_round (i + 1, (crashS kl s2), c2, p2, t2) ⟨(hdb2.crash kl).more (by omega), by omega, hwi2⟩ (by show 60 - (i + 1) < 60 - i; omega) ⟨rfl, rfl, rfl, rfl, trivial⟩ rfl
          · have p_c12 := str_neq_t h_c12
            refine wl_1 ⟨_, rfl, rfl⟩ rfl (do_move rfl) ?_
            obtain ⟨c13, h_c13⟩ : ∃ c : Bool, cmpB .eql fz 0 = some c := ⟨_, rfl⟩
            refine wl_1 ⟨_, rfl, rfl⟩ rfl (do_cmp rfl rfl h_c13) ?_
            refine wl_1 ⟨_, rfl, rfl⟩ rfl (do_move rfl) ?_
            cases c13
            · have p_c13 := cmp_eql_f h_c13
              refine wl_1 ⟨_, rfl, rfl⟩ rfl (do_move rfl) ?_
              refine wl_1 ⟨_, rfl, rfl⟩ rfl (do_convBS (R := row 5 1 x11 c2.length (byv c2)) (bs := c2) 1 und_32 und_5 und_9 rfl rfl row_R) ?_
              refine wl_1 ⟨_, rfl, rfl⟩ rfl (do_move rfl) ?_
              obtain ⟨c14, h_c14⟩ : ∃ c : Bool, strB .neq (⟨(c2).toArray⟩ : ByteArray).toList (⟨(cur).toArray⟩ : ByteArray).toList = some c := ⟨_, rfl⟩
              refine wl_1 ⟨_, rfl, rfl⟩ rfl (do_strcmp rfl rfl h_c14) ?_
              refine wl_1 ⟨_, rfl, rfl⟩ rfl (do_pickF rfl rfl) ?_
              refine wl_1 ⟨_, rfl, rfl⟩ rfl (do_pickT rfl rfl) ?_
              refine wl_1 trivial rfl (do_pickF rfl rfl) ?_
              refine wl_nil ?_
              refine at_then ?_
              cases c14
              · have p_c14 := str_neq_f h_c14
                refine wc_false rfl ?_
                refine wc_skip ?_
                refine at_then ?_
                refine wc_region ?_
                refine wl_1 trivial rfl (do_move rfl) ?_
                refine wl_1 trivial rfl (do_convBS (R := row 5 1 x11 c2.length (byv c2)) (bs := c2) 1 und_32 und_5 und_9 rfl rfl row_R) ?_
                refine wl_1 trivial rfl (do_assign rfl) ?_
                refine wl_nil ?_
                refine at_block ?_
                refine at_then ?_
                refine wc_region ?_
                refine wl_1 trivial rfl (do_move rfl) ?_
                refine wl_1 trivial rfl (do_add (r := ((i + 1 : Nat) : Int)) rfl rfl (wrap_nat (by omega) (by omega))) ?_
                refine wl_1 trivial rfl (do_assign rfl) ?_
                refine wl_nil ?_
                refine at_pick (M := [_, _, _]) [0, 2, 4] ⟨rfl, rfl, rfl, trivial⟩ (by decide) ?_
                exact at_round (i + 1, (crashS kl s2), c2, p2, t2) ⟨(hdb2.crash kl).more (by omega), by omega, hwi2⟩ (by show 60 - (i + 1) < 60 - i; omega) ⟨rfl, rfl, rfl, rfl, trivial⟩ rfl
              · have p_c14 := str_neq_t h_c14
                exfalso; rcases hcc with rfl | ⟨h1, rfl⟩ <;> first | contradiction | omega
            · have p_c13 := cmp_eql_t h_c13
              refine wl_no rfl rfl rfl rfl rfl ?_
              refine wl_no rfl rfl rfl rfl rfl ?_
              refine wl_no rfl rfl rfl rfl rfl ?_
              refine wl_no rfl rfl rfl rfl rfl ?_
              refine wl_1 ⟨_, rfl, rfl⟩ rfl (do_pickT rfl rfl) ?_
              refine wl_1 ⟨_, rfl, rfl⟩ rfl (do_pickT rfl rfl) ?_
              refine wl_1 trivial rfl (do_pickF rfl rfl) ?_
              refine wl_nil ?_
              refine at_then ?_
              exfalso; rcases hcc with rfl | ⟨h1, rfl⟩ <;> first | contradiction | omega
        · have p_c10 := cmp_neq_t h_c10
          refine wl_1 ⟨_, rfl, rfl⟩ rfl (do_move rfl) ?_
          obtain ⟨c15, h_c15⟩ : ∃ c : Bool, cmpB .neq fz 9 = some c := ⟨_, rfl⟩
          refine wl_1 ⟨_, rfl, rfl⟩ rfl (do_cmp rfl rfl h_c15) ?_
          refine wl_1 trivial rfl (do_pickT rfl rfl) ?_
          refine wl_1 trivial rfl (do_move rfl) ?_
          cases c15
          · have p_c15 := cmp_neq_f h_c15
            refine wl_no rfl rfl rfl rfl rfl ?_
            refine wl_no rfl rfl rfl rfl rfl ?_
            refine wl_1 trivial rfl (do_pickF rfl rfl) ?_
            refine wl_nil ?_
            refine at_then ?_
            refine wc_false rfl ?_
            refine wc_skip ?_
            refine at_then ?_
            refine wc_seq ?_
            refine wc_region ?_
            refine wl_1 trivial rfl (do_move rfl) ?_
            refine wl_1 trivial rfl (do_fieldAddr (k := 4) (k' := 4) fo_74_4 rfl (by rfl)) ?_
            refine wl_1 trivial rfl (do_load 2 rfl one_65 rfl rfl) ?_
            refine wl_do trivial rfl (do_call (d_crash B d s2 ka2 kc2 kl AnyP (7 * i + 7 + 7) (hdb2) (by omega) hRk2 hkc2) ⟨rfl, rfl, trivial⟩ enters_35 [0, 1] [2, 3] ⟨rfl, rfl, trivial⟩ ⟨rfl, rfl, trivial⟩ (R := [_, _]) (by decide)) ?_
            rintro _ _ ⟨_, ⟨rfl, rfl⟩, rfl⟩
            refine wl_nil ?_
            refine at_then ?_
            refine wc_seq ?_
            refine wc_region ?_
            refine wl_1 trivial rfl (do_move rfl) ?_
            refine wl_do trivial rfl (do_call (sw_r B d s2 kl cur b fz (7 * i + 7 + 7) hcs2 hdb2 (by omega) hbl hwi.len) ⟨rfl, rfl, trivial⟩ enters_34 [0] [1, 2, 3] ⟨rfl, trivial⟩ ⟨rfl, rfl, rfl, trivial⟩ (R := [_, _, _]) (by decide)) ?_
            rintro _ _ ⟨_, ⟨x16, c2, rfl, rfl, ⟨p2, t2, hwi2⟩, hcc⟩, rfl⟩
            refine wl_1 trivial rfl (do_move rfl) ?_
            refine wl_1 trivial rfl (do_extract rfl rfl) ?_
            refine wl_1 trivial rfl (do_extract rfl rfl) ?_
            refine wl_1 trivial rfl (do_assign rfl) ?_
            refine wl_1 trivial rfl (do_assign rfl) ?_
            refine wl_nil ?_
            refine at_then ?_
            refine wc_seq ?_
            refine wc_seq ?_
            refine wc_region ?_
            refine wl_1 trivial rfl (do_move rfl) ?_
            refine wl_do trivial rfl (do_call (num_tri B 0) ⟨rfl, trivial⟩ enters_30 [] [0, 1, 2, 3, 4] trivial ⟨rfl, rfl, rfl, rfl, rfl, trivial⟩ (R := [_, _, _, _, _]) (by decide)) ?_
            rintro _ _ ⟨_, ⟨rfl, rfl⟩, rfl⟩
            refine wl_1 trivial rfl (do_cmp (c := false) rfl rfl rfl) ?_
            refine wl_1 trivial rfl (do_move rfl) ?_
            refine wl_1 ⟨_, rfl, rfl⟩ rfl (do_move rfl) ?_
            refine wl_1 ⟨_, rfl, rfl⟩ rfl (do_convBS (R := row 5 1 x16 c2.length (byv c2)) (bs := c2) 1 und_32 und_5 und_9 rfl rfl row_R) ?_
            refine wl_1 ⟨_, rfl, rfl⟩ rfl (do_fieldAddr (k := 0) (k' := 0) fo_74_0 rfl (by rfl)) ?_
            refine wl_1 ⟨_, rfl, rfl⟩ rfl (do_load 3 rfl one_32 rfl rfl) ?_
            refine wl_1 ⟨_, rfl, rfl⟩ rfl (do_convBS (R := AnyP) (bs := b) 2 und_32 und_5 und_9 rfl rfl hR1) ?_
            obtain ⟨c17, h_c17⟩ : ∃ c : Bool, strB .neq (⟨(c2).toArray⟩ : ByteArray).toList (⟨(b).toArray⟩ : ByteArray).toList = some c := ⟨_, rfl⟩
            refine wl_1 ⟨_, rfl, rfl⟩ rfl (do_strcmp rfl rfl h_c17) ?_
            refine wl_1 ⟨_, rfl, rfl⟩ rfl (do_move rfl) ?_
            cases c17
            · have p_c17 := str_neq_f h_c17
              refine wl_no rfl rfl rfl rfl rfl ?_
              refine wl_no rfl rfl rfl rfl rfl ?_
              refine wl_no rfl rfl rfl rfl rfl ?_
              refine wl_noU rfl rfl rfl rfl ?_
              refine wl_noU rfl rfl rfl rfl ?_
              refine wl_noU rfl rfl rfl rfl ?_
              refine wl_noU rfl rfl rfl rfl ?_
              refine wl_no rfl rfl rfl rfl rfl ?_
              refine wl_1 ⟨_, rfl, rfl⟩ rfl (do_pickF rfl rfl) ?_
              refine wl_1 trivial rfl (do_pickF rfl rfl) ?_
              refine wl_nil ?_
              refine at_then ?_
              refine wc_false rfl ?_
              refine wc_skip ?_
              refine at_then ?_
              refine wc_region ?_
              refine wl_1 trivial rfl (do_move rfl) ?_
              refine wl_1 trivial rfl (do_convBS (R := row 5 1 x16 c2.length (byv c2)) (bs := c2) 1 und_32 und_5 und_9 rfl rfl row_R) ?_
              refine wl_1 trivial rfl (do_assign rfl) ?_
              refine wl_nil ?_
              refine at_block ?_
              refine at_then ?_
              refine wc_region ?_
              refine wl_1 trivial rfl (do_move rfl) ?_
              refine wl_1 trivial rfl (do_add (r := ((i + 1 : Nat) : Int)) rfl rfl (wrap_nat (by omega) (by omega))) ?_
              refine wl_1 trivial rfl (do_assign rfl) ?_
              refine wl_nil ?_
              refine at_pick (M := [_, _, _]) [0, 2, 4] ⟨rfl, rfl, rfl, trivial⟩ (by decide) ?_
              exact at_round (i + 1, (crashS kl s2), c2, p2, t2) ⟨(hdb2.crash kl).more (by omega), by omega, hwi2⟩ (by show 60 - (i + 1) < 60 - i; omega) ⟨rfl, rfl, rfl, rfl, trivial⟩ rfl
            · have p_c17 := str_neq_t h_c17
              refine wl_1 ⟨_, rfl, rfl⟩ rfl (do_move rfl) ?_
              obtain ⟨c18, h_c18⟩ : ∃ c : Bool, cmpB .eql fz 0 = some c := ⟨_, rfl⟩
              refine wl_1 ⟨_, rfl, rfl⟩ rfl (do_cmp rfl rfl h_c18) ?_
              refine wl_1 ⟨_, rfl, rfl⟩ rfl (do_move rfl) ?_
              cases c18
              · have p_c18 := cmp_eql_f h_c18
                refine wl_1 ⟨_, rfl, rfl⟩ rfl (do_move rfl) ?_
                refine wl_1 ⟨_, rfl, rfl⟩ rfl (do_convBS (R := row 5 1 x16 c2.length (byv c2)) (bs := c2) 1 und_32 und_5 und_9 rfl rfl row_R) ?_
                refine wl_1 ⟨_, rfl, rfl⟩ rfl (do_move rfl) ?_
                obtain ⟨c19, h_c19⟩ : ∃ c : Bool, strB .neq (⟨(c2).toArray⟩ : ByteArray).toList (⟨(cur).toArray⟩ : ByteArray).toList = some c := ⟨_, rfl⟩
                refine wl_1 ⟨_, rfl, rfl⟩ rfl (do_strcmp rfl rfl h_c19) ?_
                refine wl_1 ⟨_, rfl, rfl⟩ rfl (do_pickF rfl rfl) ?_
                refine wl_1 ⟨_, rfl, rfl⟩ rfl (do_pickT rfl rfl) ?_
                refine wl_1 trivial rfl (do_pickF rfl rfl) ?_
                refine wl_nil ?_
                refine at_then ?_
                cases c19
                · have p_c19 := str_neq_f h_c19
                  refine wc_false rfl ?_
                  refine wc_skip ?_
                  refine at_then ?_
                  refine wc_region ?_
                  refine wl_1 trivial rfl (do_move rfl) ?_
                  refine wl_1 trivial rfl (do_convBS (R := row 5 1 x16 c2.length (byv c2)) (bs := c2) 1 und_32 und_5 und_9 rfl rfl row_R) ?_
                  refine wl_1 trivial rfl (do_assign rfl) ?_
                  refine wl_nil ?_
                  refine at_block ?_
                  refine at_then ?_
                  refine wc_region ?_
                  refine wl_1 trivial rfl (do_move rfl) ?_
                  refine wl_1 trivial rfl (do_add (r := ((i + 1 : Nat) : Int)) rfl rfl (wrap_nat (by omega) (by omega))) ?_
                  refine wl_1 trivial rfl (do_assign rfl) ?_
                  refine wl_nil ?_
                  refine at_pick (M := [_, _, _]) [0, 2, 4] ⟨rfl, rfl, rfl, trivial⟩ (by decide) ?_
                  exact at_round (i + 1, (crashS kl s2), c2, p2, t2) ⟨(hdb2.crash kl).more (by omega), by omega, hwi2⟩ (by show 60 - (i + 1) < 60 - i; omega) ⟨rfl, rfl, rfl, rfl, trivial⟩ rfl
                · have p_c19 := str_neq_t h_c19
                  exfalso; rcases hcc with rfl | ⟨h1, rfl⟩ <;> first | contradiction | omega
              · have p_c18 := cmp_eql_t h_c18
                refine wl_no rfl rfl rfl rfl rfl ?_
                refine wl_no rfl rfl rfl rfl rfl ?_
                refine wl_no rfl rfl rfl rfl rfl ?_
                refine wl_no rfl rfl rfl rfl rfl ?_
                refine wl_1 ⟨_, rfl, rfl⟩ rfl (do_pickT rfl rfl) ?_
                refine wl_1 ⟨_, rfl, rfl⟩ rfl (do_pickT rfl rfl) ?_
                refine wl_1 trivial rfl (do_pickF rfl rfl) ?_
                refine wl_nil ?_
                refine at_then ?_
                exfalso; rcases hcc with rfl | ⟨h1, rfl⟩ <;> first | contradiction | omega
          · have p_c15 := cmp_neq_t h_c15
            refine wl_1 ⟨_, rfl, rfl⟩ rfl (do_move rfl) ?_
            obtain ⟨c20, h_c20⟩ : ∃ c : Bool, cmpB .neq fz 8 = some c := ⟨_, rfl⟩
            refine wl_1 ⟨_, rfl, rfl⟩ rfl (do_cmp rfl rfl h_c20) ?_
            refine wl_1 trivial rfl (do_pickT rfl rfl) ?_
            refine wl_nil ?_
            refine at_then ?_
            cases c20
            · have p_c20 := cmp_neq_f h_c20
              refine wc_false rfl ?_
              refine wc_skip ?_
              refine at_then ?_
              refine wc_seq ?_
              refine wc_region ?_
              refine wl_1 trivial rfl (do_move rfl) ?_
              refine wl_1 trivial rfl (do_fieldAddr (k := 4) (k' := 4) fo_74_4 rfl (by rfl)) ?_
              refine wl_1 trivial rfl (do_load 2 rfl one_65 rfl rfl) ?_
              refine wl_do trivial rfl (do_call (d_crash B d s2 ka2 kc2 kl AnyP (7 * i + 7 + 7) (hdb2) (by omega) hRk2 hkc2) ⟨rfl, rfl, trivial⟩ enters_35 [0, 1] [2, 3] ⟨rfl, rfl, trivial⟩ ⟨rfl, rfl, trivial⟩ (R := [_, _]) (by decide)) ?_
              rintro _ _ ⟨_, ⟨rfl, rfl⟩, rfl⟩
              refine wl_nil ?_
              refine at_then ?_
              refine wc_seq ?_
              refine wc_region ?_
              refine wl_1 trivial rfl (do_move rfl) ?_
              refine wl_do trivial rfl (do_call (sw_r B d s2 kl cur b fz (7 * i + 7 + 7) hcs2 hdb2 (by omega) hbl hwi.len) ⟨rfl, rfl, trivial⟩ enters_34 [0] [1, 2, 3] ⟨rfl, trivial⟩ ⟨rfl, rfl, rfl, trivial⟩ (R := [_, _, _]) (by decide)) ?_
              rintro _ _ ⟨_, ⟨x21, c2, rfl, rfl, ⟨p2, t2, hwi2⟩, hcc⟩, rfl⟩
              refine wl_1 trivial rfl (do_move rfl) ?_
              refine wl_1 trivial rfl (do_extract rfl rfl) ?_
              refine wl_1 trivial rfl (do_extract rfl rfl) ?_
              refine wl_1 trivial rfl (do_assign rfl) ?_
              refine wl_1 trivial rfl (do_assign rfl) ?_
              refine wl_nil ?_
              refine at_then ?_
              refine wc_seq ?_
              refine wc_seq ?_
              refine wc_region ?_
              refine wl_1 trivial rfl (do_move rfl) ?_
              refine wl_do trivial rfl (do_call (num_tri B 0) ⟨rfl, trivial⟩ enters_30 [] [0, 1, 2, 3, 4] trivial ⟨rfl, rfl, rfl, rfl, rfl, trivial⟩ (R := [_, _, _, _, _]) (by decide)) ?_
              rintro _ _ ⟨_, ⟨rfl, rfl⟩, rfl⟩
              refine wl_1 trivial rfl (do_cmp (c := false) rfl rfl rfl) ?_
              refine wl_1 trivial rfl (do_move rfl) ?_
              refine wl_1 ⟨_, rfl, rfl⟩ rfl (do_move rfl) ?_
              refine wl_1 ⟨_, rfl, rfl⟩ rfl (do_convBS (R := row 5 1 x21 c2.length (byv c2)) (bs := c2) 1 und_32 und_5 und_9 rfl rfl row_R) ?_
              refine wl_1 ⟨_, rfl, rfl⟩ rfl (do_fieldAddr (k := 0) (k' := 0) fo_74_0 rfl (by rfl)) ?_
              refine wl_1 ⟨_, rfl, rfl⟩ rfl (do_load 3 rfl one_32 rfl rfl) ?_
              refine wl_1 ⟨_, rfl, rfl⟩ rfl (do_convBS (R := AnyP) (bs := b) 2 und_32 und_5 und_9 rfl rfl hR1) ?_
              obtain ⟨c22, h_c22⟩ : ∃ c : Bool, strB .neq (⟨(c2).toArray⟩ : ByteArray).toList (⟨(b).toArray⟩ : ByteArray).toList = some c := ⟨_, rfl⟩
              refine wl_1 ⟨_, rfl, rfl⟩ rfl (do_strcmp rfl rfl h_c22) ?_
              refine wl_1 ⟨_, rfl, rfl⟩ rfl (do_move rfl) ?_
              cases c22
              · have p_c22 := str_neq_f h_c22
                refine wl_no rfl rfl rfl rfl rfl ?_
                refine wl_no rfl rfl rfl rfl rfl ?_
                refine wl_no rfl rfl rfl rfl rfl ?_
                refine wl_noU rfl rfl rfl rfl ?_
                refine wl_noU rfl rfl rfl rfl ?_
                refine wl_noU rfl rfl rfl rfl ?_
                refine wl_noU rfl rfl rfl rfl ?_
                refine wl_no rfl rfl rfl rfl rfl ?_
                refine wl_1 ⟨_, rfl, rfl⟩ rfl (do_pickF rfl rfl) ?_
                refine wl_1 trivial rfl (do_pickF rfl rfl) ?_
                refine wl_nil ?_
                refine at_then ?_
                refine wc_false rfl ?_
                refine wc_skip ?_
                refine at_then ?_
                refine wc_region ?_
                refine wl_1 trivial rfl (do_move rfl) ?_
                refine wl_1 trivial rfl (do_convBS (R := row 5 1 x21 c2.length (byv c2)) (bs := c2) 1 und_32 und_5 und_9 rfl rfl row_R) ?_
                refine wl_1 trivial rfl (do_assign rfl) ?_
                refine wl_nil ?_
                refine at_block ?_
                refine at_then ?_
                refine wc_region ?_
                refine wl_1 trivial rfl (do_move rfl) ?_
                refine wl_1 trivial rfl (do_add (r := ((i + 1 : Nat) : Int)) rfl rfl (wrap_nat (by omega) (by omega))) ?_
                refine wl_1 trivial rfl (do_assign rfl) ?_
                refine wl_nil ?_
                refine at_pick (M := [_, _, _]) [0, 2, 4] ⟨rfl, rfl, rfl, trivial⟩ (by decide) ?_
                exact at_round (i + 1, (crashS kl s2), c2, p2, t2) ⟨(hdb2.crash kl).more (by omega), by omega, hwi2⟩ (by show 60 - (i + 1) < 60 - i; omega) ⟨rfl, rfl, rfl, rfl, trivial⟩ rfl
              · have p_c22 := str_neq_t h_c22
                refine wl_1 ⟨_, rfl, rfl⟩ rfl (do_move rfl) ?_
                obtain ⟨c23, h_c23⟩ : ∃ c : Bool, cmpB .eql fz 0 = some c := ⟨_, rfl⟩
                refine wl_1 ⟨_, rfl, rfl⟩ rfl (do_cmp rfl rfl h_c23) ?_
                refine wl_1 ⟨_, rfl, rfl⟩ rfl (do_move rfl) ?_
                cases c23
                · have p_c23 := cmp_eql_f h_c23
                  refine wl_1 ⟨_, rfl, rfl⟩ rfl (do_move rfl) ?_
                  refine wl_1 ⟨_, rfl, rfl⟩ rfl (do_convBS (R := row 5 1 x21 c2.length (byv c2)) (bs := c2) 1 und_32 und_5 und_9 rfl rfl row_R) ?_
                  refine wl_1 ⟨_, rfl, rfl⟩ rfl (do_move rfl) ?_
                  obtain ⟨c24, h_c24⟩ : ∃ c : Bool, strB .neq (⟨(c2).toArray⟩ : ByteArray).toList (⟨(cur).toArray⟩ : ByteArray).toList = some c := ⟨_, rfl⟩
                  refine wl_1 ⟨_, rfl, rfl⟩ rfl (do_strcmp rfl rfl h_c24) ?_
                  refine wl_1 ⟨_, rfl, rfl⟩ rfl (do_pickF rfl rfl) ?_
                  refine wl_1 ⟨_, rfl, rfl⟩ rfl (do_pickT rfl rfl) ?_
                  refine wl_1 trivial rfl (do_pickF rfl rfl) ?_
                  refine wl_nil ?_
                  refine at_then ?_
                  cases c24
                  · have p_c24 := str_neq_f h_c24
                    refine wc_false rfl ?_
                    refine wc_skip ?_
                    refine at_then ?_
                    refine wc_region ?_
                    refine wl_1 trivial rfl (do_move rfl) ?_
                    refine wl_1 trivial rfl (do_convBS (R := row 5 1 x21 c2.length (byv c2)) (bs := c2) 1 und_32 und_5 und_9 rfl rfl row_R) ?_
                    refine wl_1 trivial rfl (do_assign rfl) ?_
                    refine wl_nil ?_
                    refine at_block ?_
                    refine at_then ?_
                    refine wc_region ?_
                    refine wl_1 trivial rfl (do_move rfl) ?_
                    refine wl_1 trivial rfl (do_add (r := ((i + 1 : Nat) : Int)) rfl rfl (wrap_nat (by omega) (by omega))) ?_
                    refine wl_1 trivial rfl (do_assign rfl) ?_
                    refine wl_nil ?_
                    refine at_pick (M := [_, _, _]) [0, 2, 4] ⟨rfl, rfl, rfl, trivial⟩ (by decide) ?_
                    exact at_round (i + 1, (crashS kl s2), c2, p2, t2) ⟨(hdb2.crash kl).more (by omega), by omega, hwi2⟩ (by show 60 - (i + 1) < 60 - i; omega) ⟨rfl, rfl, rfl, rfl, trivial⟩ rfl
                  · have p_c24 := str_neq_t h_c24
                    exfalso; rcases hcc with rfl | ⟨h1, rfl⟩ <;> first | contradiction | omega
                · have p_c23 := cmp_eql_t h_c23
                  refine wl_no rfl rfl rfl rfl rfl ?_
                  refine wl_no rfl rfl rfl rfl rfl ?_
                  refine wl_no rfl rfl rfl rfl rfl ?_
                  refine wl_no rfl rfl rfl rfl rfl ?_
                  refine wl_1 ⟨_, rfl, rfl⟩ rfl (do_pickT rfl rfl) ?_
                  refine wl_1 ⟨_, rfl, rfl⟩ rfl (do_pickT rfl rfl) ?_
                  refine wl_1 trivial rfl (do_pickF rfl rfl) ?_
                  refine wl_nil ?_
                  refine at_then ?_
                  exfalso; rcases hcc with rfl | ⟨h1, rfl⟩ <;> first | contradiction | omega
            · have p_c20 := cmp_neq_t h_c20
              exfalso; rcases herr with h | h | h <;> omega
end Go.Proofs.Ytmefejfnddcelaa
