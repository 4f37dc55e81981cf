/- Printed by a program of this claim's: what each of these functions of the program does, as its theorem says. No condition but what stands in each theorem. -/
import Derived.Test.YtmefejfnddcelaaDu
import Derived.Test.YtmefejfnddcelaaSLArr
namespace Go.Proofs.Ytmefejfnddcelaa
theorem fr_read (B : Ctx) (d : Nat) (s t : DS) (name : ByteArray) (N : Nat) (hdb : DB s N) (hN : N ≤ 1000000) (hr : readS name s = readS name t) (h0 : (readS name t).1 = 0) :
    Tri Try.prog B 34 #[.pointer (some ⟨d, 0, none⟩), .string name] [diskA B d s] (fun u M => ∃ x, u = .tuple #[x, .int .i64 0] ∧ M = [diskA B d s, row 5 1 x (readS name t).2.length (byv (readS name t).2)]) := by
  have h := d_read B d s name N hdb hN
  rw [hr, h0] at h; exact h
theorem fl_list (B : Ctx) (d : Nat) (s t : DS) (N : Nat) (hdb : DB s N) (hN : N ≤ 1000000) (hn : s.now = t.now) : Tri Try.prog B 33 #[.pointer (some ⟨d, 0, none⟩)] [diskA B d s] (fun u M => ∃ x, x = u ∧ M = [diskA B d s, row 9 1 x t.now.length ((sortB (akeys t.now)).map .string)]) := by
  have h := d_list B d s N hdb hN
  rw [hn] at h
  exact tri_post h fun v M hh => by obtain ⟨x, hh⟩ := hh; exact ⟨x, hh.1, hh.2⟩
theorem fx_texts (B : Ctx) (x y : Value) (s : DS) (h : s.now.length ≤ 1000000) : Tri Try.prog B 28 #[x, y] [row 9 1 x s.now.length ((sortB (akeys s.now)).map .string), row 9 1 y s.now.length ((sortB (akeys s.now)).map .string)] (fun u M => u = .bool true ∧ M = [row 9 1 x s.now.length ((sortB (akeys s.now)).map .string), row 9 1 y s.now.length ((sortB (akeys s.now)).map .string)]) := by
  have e : s.now.length = (sortB (akeys s.now)).length := by rw [sortB_len]; simp [akeys]
  rw [e]
  refine tri_post (texts_tri B x y _ _ (by omega) (by omega)) ?_
  rintro v M ⟨rfl, rfl⟩
  exact ⟨by simp, rfl⟩
theorem fu_used (B : Ctx) (d : Nat) (s t : DS) (N : Nat) (hdb : DB s N) (hN : N ≤ 1000000) (hu : usedS s = usedS t) : Tri Try.prog B 39 #[.pointer (some ⟨d, 0, none⟩)] [diskA B d s] (fun u M => u = .int .i64 ((usedS t : Nat) : Int) ∧ M = [diskA B d s]) := by
  have h := d_used B d s N hdb hN
  rw [hu] at h; exact h
theorem zero_77 : zeroOk Try.prog 77 (.agg #[.pointer none, .pointer none]) := zero_mk (by kernel_rfl)
theorem und_77 : Try.prog.underlying 77 = some (.array 2 62) := by kernel_rfl
theorem ty_62 : tyOk Try.prog 62 1 8 (.pointer none) := ty_mk (by kernel_rfl) rfl
theorem one_62 : oneOk Try.prog 62 = true := by kernel_rfl
theorem enters_28 : Enters Try.prog 28 := enters_of Try.func28 (by kernel_rfl) (by kernel_rfl)
set_option maxRecDepth 100000 in
set_option maxHeartbeats 8000000 in
theorem faults_true (B : Ctx) (a0 : Option Addr) (cap0 b0 off0 : Nat) (ops : List OpD) (okd : Int) (oname oto : ByteArray) (oba : Option Addr) (obc : Nat) (obs : List UInt8) (on_ : Int) (oyes : Bool) (oka : Option Addr) (okc : Nat) (okl : List Bool) (W : World) (hrd : ∀ v n xs, inSl W v n xs → Rd B AnyP 1 v n xs) (hops : ∀ (j : Nat) (o : OpD), ops[j]? = some o → a0 = some ⟨b0, off0, none⟩ ∧ o.Ok W ∧ ∀ (i : Nat) (u : Value), o.cells[i]? = some u → B.cell ⟨b0, off0 + j * 7 + i, none⟩ u) (hon : on_ ≤ 9223372036854775807) (honame : oname.size ≤ 9223372036854775807) (hoto : oto.size ≤ 9223372036854775807) (hRo2 : Rd B AnyP 1 (.slice oba obs.length obc) obs.length (byv obs)) (hol : obs.length ≤ 9223372036854775807) (hRko : Rd B AnyP 1 (.slice oka okl.length okc) okl.length (okl.map .bool)) (hkco : okl.length ≤ okc) :
    Tri Try.prog B 9 #[.slice a0 ops.length cap0, .agg #[.int .i64 okd, .string oname, .string oto, .slice oba obs.length obc, .int .i64 on_, .bool oyes, .slice oka okl.length okc], .bool true] [AnyP] (fun u M => u = .bool true ∧ M = [AnyP]) := by
  refine tri_body (n := 155) Try.func9 rfl rfl rfl ?_
  intro F
  show WC _ _ _ _ _ _ _ [(0, .slice a0 ops.length cap0), (1, .agg #[.int .i64 okd, .string oname, .string oto, .slice oba obs.length obc, .int .i64 on_, .bool oyes, .slice oka okl.length okc]), (2, .bool true)] [AnyP, F]
  refine wc_seq ?_
  refine wc_region ?_
  refine wl_do trivial rfl (do_box rfl rfl) ?_
  rintro _ _ ⟨b1, rfl, rfl⟩
  refine wl_1 trivial rfl (do_assign rfl) ?_
  refine wl_nil ?_
  refine at_then ?_
  refine wc_seq ?_
  refine wc_region ?_
  refine wl_do trivial rfl (do_alloc zero_77 rfl) ?_
  rintro _ _ ⟨b2, rfl, rfl⟩
  refine wl_nil ?_
  refine at_then ?_
  refine wc_seq ?_
  refine wc_seq ?_
  refine wc_region ?_
  refine wl_1 trivial rfl (do_assign rfl) ?_
  refine wl_nil ?_
  refine at_then ?_
  refine wc_block ?_
  refine wc_rounds 2 ?_
  refine wc_seq ?_
  refine wc_seq ?_
  refine wc_region ?_
  refine wl_1 trivial rfl (do_move rfl) ?_
  refine wl_1 trivial rfl (do_cmp (c := true) rfl rfl rfl) ?_
  refine wl_nil ?_
  refine at_then ?_
  refine wc_true rfl ?_
  refine wc_skip ?_
  refine at_then ?_
  refine wc_seq_mid (fun (d : Nat) => True) (fun (d : Nat) => [(0, .slice a0 ops.length cap0), (2, .bool true), (4, .pointer (some ⟨b1, 0, none⟩)), (7, .pointer (some ⟨b2, 0, none⟩)), (8, .int .i64 0), (19, .int .i64 0), (20, .bool true)]) (fun (d : Nat) => [diskA B d (sF ops), AnyP, pt b2 (.cells #[.pointer (some ⟨d, 0, none⟩), .pointer none] 77 (0, 0)), pt b1 (.cells #[.int .i64 okd, .string oname, .string oto, .slice oba obs.length obc, .int .i64 on_, .bool oyes, .slice oka okl.length okc] 67 (0, 0)), F]) ?_ ?_
  · refine wc_block ?_
    refine wc_seq ?_
    refine wc_region ?_
    refine wl_do trivial rfl (do_call (d_newq B) ⟨rfl, trivial⟩ enters_29 [] [0, 1, 2, 3] trivial ⟨rfl, rfl, rfl, rfl, trivial⟩ (R := [_, _, _, _]) (by decide)) ?_
    rintro _ _ ⟨_, ⟨d, rfl, rfl⟩, rfl⟩
    refine wl_1 trivial rfl (do_move rfl) ?_
    refine wl_1 trivial rfl (do_extract rfl rfl) ?_
    refine wl_1 trivial rfl (do_extract rfl rfl) ?_
    refine wl_1 trivial rfl (do_assign rfl) ?_
    refine wl_1 trivial rfl (do_assign rfl) ?_
    refine wl_nil ?_
    refine at_then ?_
    refine wc_seq ?_
    refine wc_seq ?_
    refine wc_region ?_
    refine wl_1 trivial rfl (do_move rfl) ?_
    refine wl_do trivial rfl (do_call (num_tri B 0) ⟨rfl, trivial⟩ enters_30 [] [0, 1, 2, 3, 4] trivial ⟨rfl, rfl, rfl, rfl, rfl, trivial⟩ (R := [_, _, _, _, _]) (by decide)) ?_
    rintro _ _ ⟨_, ⟨rfl, rfl⟩, rfl⟩
    refine wl_1 trivial rfl (do_cmp (c := false) rfl rfl rfl) ?_
    refine wl_1 trivial rfl (do_move rfl) ?_
    refine wl_1 ⟨_, rfl, rfl⟩ rfl (do_move rfl) ?_
    refine wl_1 ⟨_, rfl, rfl⟩ rfl (do_eqPtr isPtr_62 rfl rfl (.inr rfl)) ?_
    refine wl_1 trivial rfl (do_pickF rfl rfl) ?_
    refine wl_1 trivial rfl (do_move rfl) ?_
    refine wl_do ⟨_, rfl, rfl⟩ rfl (do_call (knows_tri B) trivial enters_31 [] [0, 1, 2, 3, 4] trivial ⟨rfl, rfl, rfl, rfl, rfl, trivial⟩ (R := [_, _, _, _, _]) (by decide)) ?_
    rintro _ _ ⟨_, ⟨rfl, rfl⟩, rfl⟩
    refine wl_1 ⟨_, rfl, rfl⟩ rfl (do_not (c := true) rfl) ?_
    refine wl_1 trivial rfl (do_pickF rfl rfl) ?_
    refine wl_nil ?_
    refine at_then ?_
    refine wc_false rfl ?_
    refine wc_skip ?_
    refine at_then ?_
    refine wc_seq ?_
    refine wc_region ?_
    refine wl_1 trivial rfl (do_move rfl) ?_
    refine wl_1 trivial rfl (do_move rfl) ?_
    refine wl_1 trivial rfl (do_indexArr (j := 0) (p := 0) und_77 ty_62 (by decide) rfl rfl rfl (by decide) rfl) ?_
    refine wl_1 trivial rfl (do_store (L1 := [_]) rfl rfl one_62 rfl rfl (cs' := #[.pointer (some ⟨d, 0, none⟩), .pointer none]) rfl) ?_
    refine wl_nil ?_
    refine at_then ?_
    refine wc_seq ?_
    refine wc_region ?_
    refine wl_1 trivial rfl (do_assign rfl) ?_
    refine wl_nil ?_
    refine at_then ?_
    refine wc_block ?_
    refine wc_mem (fun w_ h_ => h_.pick (M := [diskA B d qD, AnyP, pt b2 (.cells #[.pointer (some ⟨d, 0, none⟩), .pointer none] 77 (0, 0)), pt b1 (.cells #[.int .i64 okd, .string oname, .string oto, .slice oba obs.length obc, .int .i64 on_, .bool oyes, .slice oka okl.length okc] 67 (0, 0)), F]) [0, 3, 1, 2, 4] ⟨rfl, rfl, rfl, rfl, rfl, trivial⟩ (by decide)) ?_
    refine wc_loop (fun (z_ : Nat × DS) => match z_ with | (i, s) => s = runF (ops.take i) qD ∧ DB s i ∧ i ≤ 100) (fun (z_ : Nat × DS) => match z_ with | (i, s) => [(0, .slice a0 ops.length cap0), (2, .bool true), (4, .pointer (some ⟨b1, 0, none⟩)), (6, .bool false), (7, .pointer (some ⟨b2, 0, none⟩)), (8, .int .i64 0), (9, .pointer (some ⟨d, 0, none⟩)), (10, .int .i64 0), (11, .int .i64 ((i : Nat) : Int)), (19, .int .i64 0), (20, .bool true), (23, .tuple #[.pointer (some ⟨d, 0, none⟩), .int .i64 0]), (24, .tuple #[.pointer (some ⟨d, 0, none⟩), .int .i64 0]), (25, .pointer (some ⟨d, 0, none⟩)), (26, .int .i64 0), (27, .int .i64 0), (28, .int .i64 0), (29, .bool false), (30, .bool false), (31, .pointer (some ⟨d, 0, none⟩)), (32, .bool false), (33, .bool false), (34, .bool false), (35, .bool true), (36, .bool false), (37, .bool false), (38, .int .i64 0), (39, .pointer (some ⟨d, 0, none⟩)), (40, .pointer (some ⟨b2, 0, none⟩))]) (fun (z_ : Nat × DS) => match z_ with | (i, s) => [diskA B d s, AnyP, pt b2 (.cells #[.pointer (some ⟨d, 0, none⟩), .pointer none] 77 (0, 0)), pt b1 (.cells #[.int .i64 okd, .string oname, .string oto, .slice oba obs.length obc, .int .i64 on_, .bool oyes, .slice oka okl.length okc] 67 (0, 0)), F]) (fun (z_ : Nat × DS) => match z_ with | (i, s) => 100 - i) (0, qD) ⟨rfl, su_b0, by omega⟩ ⟨rfl, rfl, rfl, rfl, rfl, rfl, rfl, rfl, rfl, rfl, rfl, rfl, rfl, rfl, rfl, rfl, rfl, rfl, rfl, rfl, rfl, rfl, rfl, rfl, rfl, rfl, rfl, rfl, rfl, trivial⟩ rfl ?_
    rintro ⟨i, s⟩ hphi
    obtain ⟨hs, hdb, hi⟩ := hphi
    show WC _ _ _ _ _ _ _ [(0, .slice a0 ops.length cap0), (2, .bool true), (4, .pointer (some ⟨b1, 0, none⟩)), (6, .bool false), (7, .pointer (some ⟨b2, 0, none⟩)), (8, .int .i64 0), (9, .pointer (some ⟨d, 0, none⟩)), (10, .int .i64 0), (11, .int .i64 ((i : Nat) : Int)), (19, .int .i64 0), (20, .bool true), (23, .tuple #[.pointer (some ⟨d, 0, none⟩), .int .i64 0]), (24, .tuple #[.pointer (some ⟨d, 0, none⟩), .int .i64 0]), (25, .pointer (some ⟨d, 0, none⟩)), (26, .int .i64 0), (27, .int .i64 0), (28, .int .i64 0), (29, .bool false), (30, .bool false), (31, .pointer (some ⟨d, 0, none⟩)), (32, .bool false), (33, .bool false), (34, .bool false), (35, .bool true), (36, .bool false), (37, .bool false), (38, .int .i64 0), (39, .pointer (some ⟨d, 0, none⟩)), (40, .pointer (some ⟨b2, 0, none⟩))] [diskA B d s, AnyP, pt b2 (.cells #[.pointer (some ⟨d, 0, none⟩), .pointer none] 77 (0, 0)), pt b1 (.cells #[.int .i64 okd, .string oname, .string oto, .slice oba obs.length obc, .int .i64 on_, .bool oyes, .slice oka okl.length okc] 67 (0, 0)), F]
    refine wc_seq ?_
    refine wc_seq ?_
    refine wc_region ?_
    refine wl_1 trivial rfl (do_move rfl) ?_
    refine wl_1 trivial rfl (do_move rfl) ?_
    refine wl_1 trivial rfl (do_lenSlice rfl isSlice_61 rfl) ?_
    obtain ⟨c3, h_c3⟩ : ∃ c : Bool, cmpB .lss ((i : Nat) : Int) ((ops.length : Nat) : Int) = some c := ⟨_, rfl⟩
    refine wl_1 trivial rfl (do_cmp rfl rfl h_c3) ?_
    refine wl_1 trivial rfl (do_move rfl) ?_
    cases c3
    · have p_c3 := cmp_lss_f h_c3
      refine wl_no rfl rfl rfl rfl rfl ?_
      refine wl_no rfl rfl rfl rfl rfl ?_
      refine wl_1 trivial rfl (do_pickF rfl rfl) ?_
      refine wl_nil ?_
      refine at_then ?_
      refine wc_false rfl ?_
      refine wc_exit ?_
      refine at_then_exit ?_
      refine at_then_exit ?_
      refine at_block_it ?_
      refine at_block ?_
      obtain rfl : s = sF ops := hs.trans (sF_of hi (by omega))
      exact at_mid d trivial ⟨rfl, rfl, rfl, rfl, rfl, rfl, rfl, trivial⟩ rfl
    · have p_c3 := cmp_lss_t h_c3
      refine wl_1 ⟨_, rfl, rfl⟩ rfl (do_move rfl) ?_
      obtain ⟨c4, h_c4⟩ : ∃ c : Bool, cmpB .lss ((i : Nat) : Int) 100 = some c := ⟨_, rfl⟩
      refine wl_1 ⟨_, rfl, rfl⟩ rfl (do_cmp rfl rfl h_c4) ?_
      refine wl_1 trivial rfl (do_pickT rfl rfl) ?_
      refine wl_nil ?_
      refine at_then ?_
      cases c4
      · have p_c4 := cmp_lss_f h_c4
        refine wc_false rfl ?_
        refine wc_exit ?_
        refine at_then_exit ?_
        refine at_then_exit ?_
        refine at_block_it ?_
        refine at_block ?_
        obtain rfl : s = sF ops := hs.trans (sF_of hi (by omega))
        exact at_mid d trivial ⟨rfl, rfl, rfl, rfl, rfl, rfl, rfl, trivial⟩ rfl
      · have p_c4 := cmp_lss_t h_c4
        refine wc_true rfl ?_
        refine wc_skip ?_
        refine at_then ?_
        refine wc_seq ?_
        refine wc_block ?_
        refine wc_seq ?_
        refine wc_region ?_
        refine wl_1 trivial rfl (do_move rfl) ?_
        refine wl_1 trivial rfl (do_move rfl) ?_
        obtain ⟨⟨kd, name, to, ob, bs, k, yes, ok, kl⟩, ho⟩ : ∃ o, ops[i]? = some o := ⟨_, List.getElem?_eq_getElem (by omega)⟩
        obtain ⟨hae, hoo, hcl⟩ := hops _ _ ho
        subst hae
        obtain ⟨⟨hk1, hk2⟩, hname0, hto0, hob, ⟨hn1, hn2⟩, _, hok⟩ := hoo
        simp only at hk1 hk2 hname0 hto0 hob hn1 hn2 hok
        have hname : name.size ≤ 9223372036854775807 := Nat.le_trans hname0 (by decide)
        have hto : to.size ≤ 9223372036854775807 := Nat.le_trans hto0 (by decide)
        have hRo := hob
        obtain ⟨_, ba, bc, hb3, _, hbl3, _⟩ := hob
        subst hb3
        obtain ⟨_, ka2, kc2, hk3, hkc2, _, _⟩ := hok
        subst hk3
        have hRb : Rd B AnyP 1 (.slice ba bs.length bc) bs.length (byv bs) := hrd _ _ _ hRo
        refine wl_1 trivial rfl (do_indexAddr (j := i) (p := (off0 + i * 7)) und_61 ty_67 rfl rfl rfl (by omega) (by omega)) ?_
        refine wl_1 trivial rfl (do_fieldAddr (k := 0) (k' := off0 + i * 7) fo_67_0 rfl (by rfl)) ?_
        refine wl_1 trivial rfl (do_loadB rfl one_3 (hcl 0 _ rfl)) ?_
        obtain ⟨c5, h_c5⟩ : ∃ c : Bool, cmpB .leq kd 5 = some c := ⟨_, rfl⟩
        refine wl_1 trivial rfl (do_cmp rfl rfl h_c5) ?_
        refine wl_nil ?_
        refine at_then ?_
        cases c5
        · have p_c5 := cmp_leq_f h_c5
          refine wc_false rfl ?_
          refine wc_skip ?_
          refine at_block ?_
          refine at_then ?_
          refine wc_region ?_
          refine wl_1 trivial rfl (do_move rfl) ?_
          refine wl_1 trivial rfl (do_add (r := ((i + 1 : Nat) : Int)) rfl rfl (wrap_nat (by omega) (by omega))) ?_
          refine wl_1 trivial rfl (do_assign rfl) ?_
          refine wl_nil ?_
          have hphi : s = runF (ops.take (i + 1)) qD ∧ DB s (i + 1) ∧ i + 1 ≤ 100 := ⟨by rw [runF_more ho, ← hs]; exact (if_neg (show ¬ kd ≤ 5 by omega)).symm, hdb.more (by omega), by omega⟩
          exact at_round (i + 1, s) hphi (by show 100 - (i + 1) < 100 - i; omega) ⟨rfl, rfl, rfl, rfl, rfl, rfl, rfl, rfl, rfl, rfl, rfl, rfl, rfl, rfl, rfl, rfl, rfl, rfl, rfl, rfl, rfl, rfl, rfl, rfl, rfl, rfl, rfl, rfl, rfl, trivial⟩ rfl
        · have p_c5 := cmp_leq_t h_c5
          refine wc_true rfl ?_
          refine wc_region ?_
          refine wl_1 trivial rfl (do_move rfl) ?_
          refine wl_1 trivial rfl (do_move rfl) ?_
          refine wl_1 trivial rfl (do_move rfl) ?_
          refine wl_1 trivial rfl (do_indexAddr (j := i) (p := (off0 + i * 7)) und_61 ty_67 rfl rfl rfl (by omega) (by omega)) ?_
          refine wl_1 trivial rfl (do_loadAB (vs := [.int .i64 kd, .string name, .string to, .slice ba bs.length bc, .int .i64 k, .bool yes, .slice ka2 kl.length kc2]) rfl agg_67 rfl (fun j u hj => hcl j u hj)) ?_
          refine wl_do trivial rfl (do_call (dolaw_tri B d s kd k name to ba ka2 bc kl.length kc2 bs yes i (hdb) (by omega) hname hto hRb (Nat.le_trans hbl3 (by decide))) ⟨rfl, rfl, trivial⟩ enters_32 [0, 1] [2, 3, 4] ⟨rfl, rfl, trivial⟩ ⟨rfl, rfl, rfl, trivial⟩ (R := [_, _, _]) (by decide)) ?_
          rintro _ _ ⟨_, ⟨rfl, rfl⟩, rfl⟩
          refine wl_nil ?_
          refine at_block ?_
          refine at_then ?_
          refine wc_region ?_
          refine wl_1 trivial rfl (do_move rfl) ?_
          refine wl_1 trivial rfl (do_add (r := ((i + 1 : Nat) : Int)) rfl rfl (wrap_nat (by omega) (by omega))) ?_
          refine wl_1 trivial rfl (do_assign rfl) ?_
          refine wl_nil ?_
          have hphi : (doD kd name to bs k yes s) = runF (ops.take (i + 1)) qD ∧ DB (doD kd name to bs k yes s) (i + 1) ∧ i + 1 ≤ 100 := ⟨by rw [runF_more ho, ← hs]; exact (if_pos (show kd ≤ 5 by omega)).symm, hdb.do kd name to bs hn2 yes, by omega⟩
          exact at_round (i + 1, (doD kd name to bs k yes s)) hphi (by show 100 - (i + 1) < 100 - i; omega) ⟨rfl, rfl, rfl, rfl, rfl, rfl, rfl, rfl, rfl, rfl, rfl, rfl, rfl, rfl, rfl, rfl, rfl, rfl, rfl, rfl, rfl, rfl, rfl, rfl, rfl, rfl, rfl, rfl, rfl, trivial⟩ rfl
  · rintro d hphi
    obtain _ := hphi
    show WC _ _ _ _ _ _ _ [(0, .slice a0 ops.length cap0), (2, .bool true), (4, .pointer (some ⟨b1, 0, none⟩)), (7, .pointer (some ⟨b2, 0, none⟩)), (8, .int .i64 0), (19, .int .i64 0), (20, .bool true)] [diskA B d (sF ops), AnyP, pt b2 (.cells #[.pointer (some ⟨d, 0, none⟩), .pointer none] 77 (0, 0)), pt b1 (.cells #[.int .i64 okd, .string oname, .string oto, .slice oba obs.length obc, .int .i64 on_, .bool oyes, .slice oka okl.length okc] 67 (0, 0)), F]
    refine wc_region ?_
    refine wl_1 trivial rfl (do_move rfl) ?_
    refine wl_1 trivial rfl (do_add (r := 1) rfl rfl rfl) ?_
    refine wl_1 trivial rfl (do_assign rfl) ?_
    refine wl_nil ?_
    refine at_rounds ?_
    refine wc_seq ?_
    refine wc_seq ?_
    refine wc_region ?_
    refine wl_1 trivial rfl (do_move rfl) ?_
    refine wl_1 trivial rfl (do_cmp (c := true) rfl rfl rfl) ?_
    refine wl_nil ?_
    refine at_then ?_
    refine wc_true rfl ?_
    refine wc_skip ?_
    refine at_then ?_
    refine wc_seq_mid (fun (e : Nat) => True) (fun (e : Nat) => [(0, .slice a0 ops.length cap0), (2, .bool true), (4, .pointer (some ⟨b1, 0, none⟩)), (7, .pointer (some ⟨b2, 0, none⟩)), (8, .int .i64 1), (19, .int .i64 1), (20, .bool true), (21, .int .i64 0), (22, .int .i64 1)]) (fun (e : Nat) => [diskA B d (sF ops), diskA B e (sF ops), AnyP, pt b2 (.cells #[.pointer (some ⟨d, 0, none⟩), .pointer (some ⟨e, 0, none⟩)] 77 (0, 0)), pt b1 (.cells #[.int .i64 okd, .string oname, .string oto, .slice oba obs.length obc, .int .i64 on_, .bool oyes, .slice oka okl.length okc] 67 (0, 0)), F]) ?_ ?_
    · refine wc_block ?_
      refine wc_seq ?_
      refine wc_region ?_
      refine wl_do trivial rfl (do_call (d_newq B) ⟨rfl, trivial⟩ enters_29 [] [0, 1, 2, 3, 4] trivial ⟨rfl, rfl, rfl, rfl, rfl, trivial⟩ (R := [_, _, _, _, _]) (by decide)) ?_
      rintro _ _ ⟨_, ⟨e, rfl, rfl⟩, rfl⟩
      refine wl_1 trivial rfl (do_move rfl) ?_
      refine wl_1 trivial rfl (do_extract rfl rfl) ?_
      refine wl_1 trivial rfl (do_extract rfl rfl) ?_
      refine wl_1 trivial rfl (do_assign rfl) ?_
      refine wl_1 trivial rfl (do_assign rfl) ?_
      refine wl_nil ?_
      refine at_then ?_
      refine wc_seq ?_
      refine wc_seq ?_
      refine wc_region ?_
      refine wl_1 trivial rfl (do_move rfl) ?_
      refine wl_do trivial rfl (do_call (num_tri B 0) ⟨rfl, trivial⟩ enters_30 [] [0, 1, 2, 3, 4, 5] trivial ⟨rfl, rfl, rfl, rfl, rfl, rfl, trivial⟩ (R := [_, _, _, _, _, _]) (by decide)) ?_
      rintro _ _ ⟨_, ⟨rfl, rfl⟩, rfl⟩
      refine wl_1 trivial rfl (do_cmp (c := false) rfl rfl rfl) ?_
      refine wl_1 trivial rfl (do_move rfl) ?_
      refine wl_1 ⟨_, rfl, rfl⟩ rfl (do_move rfl) ?_
      refine wl_1 ⟨_, rfl, rfl⟩ rfl (do_eqPtr isPtr_62 rfl rfl (.inr rfl)) ?_
      refine wl_1 trivial rfl (do_pickF rfl rfl) ?_
      refine wl_1 trivial rfl (do_move rfl) ?_
      refine wl_do ⟨_, rfl, rfl⟩ rfl (do_call (knows_tri B) trivial enters_31 [] [0, 1, 2, 3, 4, 5] trivial ⟨rfl, rfl, rfl, rfl, rfl, rfl, trivial⟩ (R := [_, _, _, _, _, _]) (by decide)) ?_
      rintro _ _ ⟨_, ⟨rfl, rfl⟩, rfl⟩
      refine wl_1 ⟨_, rfl, rfl⟩ rfl (do_not (c := true) rfl) ?_
      refine wl_1 trivial rfl (do_pickF rfl rfl) ?_
      refine wl_nil ?_
      refine at_then ?_
      refine wc_false rfl ?_
      refine wc_skip ?_
      refine at_then ?_
      refine wc_seq ?_
      refine wc_region ?_
      refine wl_1 trivial rfl (do_move rfl) ?_
      refine wl_1 trivial rfl (do_move rfl) ?_
      refine wl_1 trivial rfl (do_indexArr (j := 1) (p := 1) und_77 ty_62 (by decide) rfl rfl rfl (by decide) rfl) ?_
      refine wl_1 trivial rfl (do_store (L1 := [_, _, _]) rfl rfl one_62 rfl rfl (cs' := #[.pointer (some ⟨d, 0, none⟩), .pointer (some ⟨e, 0, none⟩)]) rfl) ?_
      refine wl_nil ?_
      refine at_then ?_
      refine wc_seq ?_
      refine wc_region ?_
      refine wl_1 trivial rfl (do_assign rfl) ?_
      refine wl_nil ?_
      refine at_then ?_
      refine wc_block ?_
      refine wc_mem (fun w_ h_ => h_.pick (M := [diskA B d (sF ops), diskA B e qD, AnyP, pt b2 (.cells #[.pointer (some ⟨d, 0, none⟩), .pointer (some ⟨e, 0, none⟩)] 77 (0, 0)), pt b1 (.cells #[.int .i64 okd, .string oname, .string oto, .slice oba obs.length obc, .int .i64 on_, .bool oyes, .slice oka okl.length okc] 67 (0, 0)), F]) [1, 0, 2, 3, 4, 5] ⟨rfl, rfl, rfl, rfl, rfl, rfl, trivial⟩ (by decide)) ?_
      refine wc_loop (fun (z_ : Nat × DS) => match z_ with | (i, s) => s = runF (ops.take i) qD ∧ DB s i ∧ i ≤ 100) (fun (z_ : Nat × DS) => match z_ with | (i, s) => [(0, .slice a0 ops.length cap0), (2, .bool true), (4, .pointer (some ⟨b1, 0, none⟩)), (7, .pointer (some ⟨b2, 0, none⟩)), (8, .int .i64 1), (9, .pointer (some ⟨e, 0, none⟩)), (10, .int .i64 0), (11, .int .i64 ((i : Nat) : Int)), (19, .int .i64 1), (20, .bool true), (21, .int .i64 0), (22, .int .i64 1), (23, .tuple #[.pointer (some ⟨e, 0, none⟩), .int .i64 0]), (24, .tuple #[.pointer (some ⟨e, 0, none⟩), .int .i64 0]), (25, .pointer (some ⟨e, 0, none⟩)), (26, .int .i64 0), (27, .int .i64 0), (28, .int .i64 0), (29, .bool false), (30, .bool false), (31, .pointer (some ⟨e, 0, none⟩)), (32, .bool false), (33, .bool false), (34, .bool false), (35, .bool true), (36, .bool false), (37, .bool false), (38, .int .i64 1), (39, .pointer (some ⟨e, 0, none⟩)), (40, .pointer (some ⟨b2, 1, none⟩))]) (fun (z_ : Nat × DS) => match z_ with | (i, s) => [diskA B d (sF ops), diskA B e s, AnyP, pt b2 (.cells #[.pointer (some ⟨d, 0, none⟩), .pointer (some ⟨e, 0, none⟩)] 77 (0, 0)), pt b1 (.cells #[.int .i64 okd, .string oname, .string oto, .slice oba obs.length obc, .int .i64 on_, .bool oyes, .slice oka okl.length okc] 67 (0, 0)), F]) (fun (z_ : Nat × DS) => match z_ with | (i, s) => 100 - i) (0, qD) ⟨rfl, su_b0, by omega⟩ ⟨rfl, rfl, rfl, rfl, rfl, rfl, rfl, rfl, rfl, rfl, rfl, rfl, rfl, rfl, rfl, rfl, rfl, rfl, rfl, rfl, rfl, rfl, rfl, rfl, rfl, rfl, rfl, rfl, rfl, rfl, trivial⟩ rfl ?_
      rintro ⟨i, s⟩ hphi
      obtain ⟨hs, hdb, hi⟩ := hphi
      show WC _ _ _ _ _ _ _ [(0, .slice a0 ops.length cap0), (2, .bool true), (4, .pointer (some ⟨b1, 0, none⟩)), (7, .pointer (some ⟨b2, 0, none⟩)), (8, .int .i64 1), (9, .pointer (some ⟨e, 0, none⟩)), (10, .int .i64 0), (11, .int .i64 ((i : Nat) : Int)), (19, .int .i64 1), (20, .bool true), (21, .int .i64 0), (22, .int .i64 1), (23, .tuple #[.pointer (some ⟨e, 0, none⟩), .int .i64 0]), (24, .tuple #[.pointer (some ⟨e, 0, none⟩), .int .i64 0]), (25, .pointer (some ⟨e, 0, none⟩)), (26, .int .i64 0), (27, .int .i64 0), (28, .int .i64 0), (29, .bool false), (30, .bool false), (31, .pointer (some ⟨e, 0, none⟩)), (32, .bool false), (33, .bool false), (34, .bool false), (35, .bool true), (36, .bool false), (37, .bool false), (38, .int .i64 1), (39, .pointer (some ⟨e, 0, none⟩)), (40, .pointer (some ⟨b2, 1, none⟩))] [diskA B d (sF ops), diskA B e s, AnyP, pt b2 (.cells #[.pointer (some ⟨d, 0, none⟩), .pointer (some ⟨e, 0, none⟩)] 77 (0, 0)), pt b1 (.cells #[.int .i64 okd, .string oname, .string oto, .slice oba obs.length obc, .int .i64 on_, .bool oyes, .slice oka okl.length okc] 67 (0, 0)), F]
      refine wc_seq ?_
      refine wc_seq ?_
      refine wc_region ?_
      refine wl_1 trivial rfl (do_move rfl) ?_
      refine wl_1 trivial rfl (do_move rfl) ?_
      refine wl_1 trivial rfl (do_lenSlice rfl isSlice_61 rfl) ?_
      obtain ⟨c6, h_c6⟩ : ∃ c : Bool, cmpB .lss ((i : Nat) : Int) ((ops.length : Nat) : Int) = some c := ⟨_, rfl⟩
      refine wl_1 trivial rfl (do_cmp rfl rfl h_c6) ?_
      refine wl_1 trivial rfl (do_move rfl) ?_
      cases c6
      · have p_c6 := cmp_lss_f h_c6
        refine wl_no rfl rfl rfl rfl rfl ?_
        refine wl_no rfl rfl rfl rfl rfl ?_
        refine wl_1 trivial rfl (do_pickF rfl rfl) ?_
        refine wl_nil ?_
        refine at_then ?_
        refine wc_false rfl ?_
        refine wc_exit ?_
        refine at_then_exit ?_
        refine at_then_exit ?_
        refine at_block_it ?_
        refine at_block ?_
        obtain rfl : s = sF ops := hs.trans (sF_of hi (by omega))
        exact at_mid e trivial ⟨rfl, rfl, rfl, rfl, rfl, rfl, rfl, rfl, rfl, trivial⟩ rfl
      · have p_c6 := cmp_lss_t h_c6
        refine wl_1 ⟨_, rfl, rfl⟩ rfl (do_move rfl) ?_
        obtain ⟨c7, h_c7⟩ : ∃ c : Bool, cmpB .lss ((i : Nat) : Int) 100 = some c := ⟨_, rfl⟩
        refine wl_1 ⟨_, rfl, rfl⟩ rfl (do_cmp rfl rfl h_c7) ?_
        refine wl_1 trivial rfl (do_pickT rfl rfl) ?_
        refine wl_nil ?_
        refine at_then ?_
        cases c7
        · have p_c7 := cmp_lss_f h_c7
          refine wc_false rfl ?_
          refine wc_exit ?_
          refine at_then_exit ?_
          refine at_then_exit ?_
          refine at_block_it ?_
          refine at_block ?_
          obtain rfl : s = sF ops := hs.trans (sF_of hi (by omega))
          exact at_mid e trivial ⟨rfl, rfl, rfl, rfl, rfl, rfl, rfl, rfl, rfl, trivial⟩ rfl
        · have p_c7 := cmp_lss_t h_c7
          refine wc_true rfl ?_
          refine wc_skip ?_
          refine at_then ?_
          refine wc_seq ?_
          refine wc_block ?_
          refine wc_seq ?_
          refine wc_region ?_
          refine wl_1 trivial rfl (do_move rfl) ?_
          refine wl_1 trivial rfl (do_move rfl) ?_
          obtain ⟨⟨kd, name, to, ob, bs, k, yes, ok, kl⟩, ho⟩ : ∃ o, ops[i]? = some o := ⟨_, List.getElem?_eq_getElem (by omega)⟩
          obtain ⟨hae, hoo, hcl⟩ := hops _ _ ho
          subst hae
          obtain ⟨⟨hk1, hk2⟩, hname0, hto0, hob, ⟨hn1, hn2⟩, _, hok⟩ := hoo
          simp only at hk1 hk2 hname0 hto0 hob hn1 hn2 hok
          have hname : name.size ≤ 9223372036854775807 := Nat.le_trans hname0 (by decide)
          have hto : to.size ≤ 9223372036854775807 := Nat.le_trans hto0 (by decide)
          have hRo := hob
          obtain ⟨_, ba, bc, hb3, _, hbl3, _⟩ := hob
          subst hb3
          obtain ⟨_, ka2, kc2, hk3, hkc2, _, _⟩ := hok
          subst hk3
          have hRb : Rd B AnyP 1 (.slice ba bs.length bc) bs.length (byv bs) := hrd _ _ _ hRo
          refine wl_1 trivial rfl (do_indexAddr (j := i) (p := (off0 + i * 7)) und_61 ty_67 rfl rfl rfl (by omega) (by omega)) ?_
          refine wl_1 trivial rfl (do_fieldAddr (k := 0) (k' := off0 + i * 7) fo_67_0 rfl (by rfl)) ?_
          refine wl_1 trivial rfl (do_loadB rfl one_3 (hcl 0 _ rfl)) ?_
          obtain ⟨c8, h_c8⟩ : ∃ c : Bool, cmpB .leq kd 5 = some c := ⟨_, rfl⟩
          refine wl_1 trivial rfl (do_cmp rfl rfl h_c8) ?_
          refine wl_nil ?_
          refine at_then ?_
          cases c8
          · have p_c8 := cmp_leq_f h_c8
            refine wc_false rfl ?_
            refine wc_skip ?_
            refine at_block ?_
            refine at_then ?_
            refine wc_region ?_
            refine wl_1 trivial rfl (do_move rfl) ?_
            refine wl_1 trivial rfl (do_add (r := ((i + 1 : Nat) : Int)) rfl rfl (wrap_nat (by omega) (by omega))) ?_
            refine wl_1 trivial rfl (do_assign rfl) ?_
            refine wl_nil ?_
            have hphi : s = runF (ops.take (i + 1)) qD ∧ DB s (i + 1) ∧ i + 1 ≤ 100 := ⟨by rw [runF_more ho, ← hs]; exact (if_neg (show ¬ kd ≤ 5 by omega)).symm, hdb.more (by omega), by omega⟩
            exact at_round (i + 1, s) hphi (by show 100 - (i + 1) < 100 - i; omega) ⟨rfl, rfl, rfl, rfl, rfl, rfl, rfl, rfl, rfl, rfl, rfl, rfl, rfl, rfl, rfl, rfl, rfl, rfl, rfl, rfl, rfl, rfl, rfl, rfl, rfl, rfl, rfl, rfl, rfl, rfl, trivial⟩ rfl
          · have p_c8 := cmp_leq_t h_c8
            refine wc_true rfl ?_
            refine wc_region ?_
            refine wl_1 trivial rfl (do_move rfl) ?_
            refine wl_1 trivial rfl (do_move rfl) ?_
            refine wl_1 trivial rfl (do_move rfl) ?_
            refine wl_1 trivial rfl (do_indexAddr (j := i) (p := (off0 + i * 7)) und_61 ty_67 rfl rfl rfl (by omega) (by omega)) ?_
            refine wl_1 trivial rfl (do_loadAB (vs := [.int .i64 kd, .string name, .string to, .slice ba bs.length bc, .int .i64 k, .bool yes, .slice ka2 kl.length kc2]) rfl agg_67 rfl (fun j u hj => hcl j u hj)) ?_
            refine wl_do trivial rfl (do_call (dolaw_tri B e s kd k name to ba ka2 bc kl.length kc2 bs yes i (hdb) (by omega) hname hto hRb (Nat.le_trans hbl3 (by decide))) ⟨rfl, rfl, trivial⟩ enters_32 [1, 2] [0, 3, 4, 5] ⟨rfl, rfl, trivial⟩ ⟨rfl, rfl, rfl, rfl, trivial⟩ (R := [_, _, _, _]) (by decide)) ?_
            rintro _ _ ⟨_, ⟨rfl, rfl⟩, rfl⟩
            refine wl_nil ?_
            refine at_block ?_
            refine at_then ?_
            refine wc_region ?_
            refine wl_1 trivial rfl (do_move rfl) ?_
            refine wl_1 trivial rfl (do_add (r := ((i + 1 : Nat) : Int)) rfl rfl (wrap_nat (by omega) (by omega))) ?_
            refine wl_1 trivial rfl (do_assign rfl) ?_
            refine wl_nil ?_
            refine at_pick (M := [_, _, _, _, _, _]) [2, 0, 1, 3, 4, 5] ⟨rfl, rfl, rfl, rfl, rfl, rfl, trivial⟩ (by decide) ?_
            have hphi : (doD kd name to bs k yes s) = runF (ops.take (i + 1)) qD ∧ DB (doD kd name to bs k yes s) (i + 1) ∧ i + 1 ≤ 100 := ⟨by rw [runF_more ho, ← hs]; exact (if_pos (show kd ≤ 5 by omega)).symm, hdb.do kd name to bs hn2 yes, by omega⟩
            exact at_round (i + 1, (doD kd name to bs k yes s)) hphi (by show 100 - (i + 1) < 100 - i; omega) ⟨rfl, rfl, rfl, rfl, rfl, rfl, rfl, rfl, rfl, rfl, rfl, rfl, rfl, rfl, rfl, rfl, rfl, rfl, rfl, rfl, rfl, rfl, rfl, rfl, rfl, rfl, rfl, rfl, rfl, rfl, trivial⟩ rfl
    · rintro e hphi
      obtain _ := hphi
      show WC _ _ _ _ _ _ _ [(0, .slice a0 ops.length cap0), (2, .bool true), (4, .pointer (some ⟨b1, 0, none⟩)), (7, .pointer (some ⟨b2, 0, none⟩)), (8, .int .i64 1), (19, .int .i64 1), (20, .bool true), (21, .int .i64 0), (22, .int .i64 1)] [diskA B d (sF ops), diskA B e (sF ops), AnyP, pt b2 (.cells #[.pointer (some ⟨d, 0, none⟩), .pointer (some ⟨e, 0, none⟩)] 77 (0, 0)), pt b1 (.cells #[.int .i64 okd, .string oname, .string oto, .slice oba obs.length obc, .int .i64 on_, .bool oyes, .slice oka okl.length okc] 67 (0, 0)), F]
      refine wc_region ?_
      refine wl_1 trivial rfl (do_move rfl) ?_
      refine wl_1 trivial rfl (do_add (r := 2) rfl rfl rfl) ?_
      refine wl_1 trivial rfl (do_assign rfl) ?_
      refine wl_nil ?_
      refine at_rounds ?_
      refine wc_seq ?_
      refine wc_seq ?_
      refine wc_region ?_
      refine wl_1 trivial rfl (do_move rfl) ?_
      refine wl_1 trivial rfl (do_cmp (c := false) rfl rfl rfl) ?_
      refine wl_nil ?_
      refine at_then ?_
      refine wc_false rfl ?_
      refine wc_exit ?_
      refine at_then_exit ?_
      refine at_then_exit ?_
      refine at_block_it ?_
      refine at_then ?_
      refine wc_seq ?_
      refine wc_seq ?_
      refine wc_region ?_
      refine wl_1 trivial rfl (do_fieldAddr (k := 0) (k' := 0) fo_67_0 rfl (by rfl)) ?_
      refine wl_1 trivial rfl (do_load 4 rfl one_3 rfl rfl) ?_
      obtain ⟨c9, h_c9⟩ : ∃ c : Bool, cmpB .lss okd 0 = some c := ⟨_, rfl⟩
      refine wl_1 trivial rfl (do_cmp rfl rfl h_c9) ?_
      refine wl_1 trivial rfl (do_move rfl) ?_
      cases c9
      · have p_c9 := cmp_lss_f h_c9
        refine wl_1 ⟨_, rfl, rfl⟩ rfl (do_fieldAddr (k := 0) (k' := 0) fo_67_0 rfl (by rfl)) ?_
        refine wl_1 ⟨_, rfl, rfl⟩ rfl (do_load 4 rfl one_3 rfl rfl) ?_
        obtain ⟨c10, h_c10⟩ : ∃ c : Bool, cmpB .gtr okd 5 = some c := ⟨_, rfl⟩
        refine wl_1 ⟨_, rfl, rfl⟩ rfl (do_cmp rfl rfl h_c10) ?_
        refine wl_1 trivial rfl (do_pickF rfl rfl) ?_
        refine wl_nil ?_
        refine at_then ?_
        cases c10
        · have p_c10 := cmp_gtr_f h_c10
          refine wc_false rfl ?_
          refine wc_skip ?_
          refine at_then ?_
          refine wc_seq ?_
          refine wc_region ?_
          refine wl_1 trivial rfl (do_indexArr (j := 0) (p := 0) und_77 ty_62 (by decide) rfl rfl rfl (by decide) rfl) ?_
          refine wl_1 trivial rfl (do_load 3 rfl one_62 rfl rfl) ?_
          refine wl_1 trivial rfl (do_move rfl) ?_
          refine wl_do trivial rfl (do_call (d_fail B d (sF ops) 1 true) ⟨rfl, rfl, rfl, trivial⟩ enters_38 [0] [1, 2, 3, 4, 5] ⟨rfl, trivial⟩ ⟨rfl, rfl, rfl, rfl, rfl, trivial⟩ (R := [_, _, _, _, _]) (by decide)) ?_
          rintro _ _ ⟨_, ⟨rfl, rfl⟩, rfl⟩
          refine wl_nil ?_
          refine at_then ?_
          refine wc_seq ?_
          refine wc_region ?_
          refine wl_1 trivial rfl (do_indexArr (j := 0) (p := 0) und_77 ty_62 (by decide) rfl rfl rfl (by decide) rfl) ?_
          refine wl_1 trivial rfl (do_load 3 rfl one_62 rfl rfl) ?_
          refine wl_1 trivial rfl (do_loadL 4 rfl agg_67 rfl rfl rfl) ?_
          refine wl_do trivial rfl (do_call (dolaw_tri B d (failS 1 true (sF ops)) okd on_ oname oto oba oka obc okl.length okc obs oyes 100 ((sF_db ops).fail (by decide) _) (by omega) honame hoto hRo2 hol) ⟨rfl, rfl, trivial⟩ enters_32 [0, 2] [1, 3, 4, 5] ⟨rfl, rfl, trivial⟩ ⟨rfl, rfl, rfl, rfl, trivial⟩ (R := [_, _, _, _]) (by decide)) ?_
          rintro _ _ ⟨_, ⟨rfl, rfl⟩, rfl⟩
          refine wl_nil ?_
          refine at_then ?_
          refine wc_seq ?_
          refine wc_seq ?_
          refine wc_region ?_
          refine wl_1 trivial rfl (do_move rfl) ?_
          refine wl_nil ?_
          refine at_then ?_
          refine wc_true rfl ?_
          refine wc_region ?_
          refine wl_1 trivial rfl (do_indexArr (j := 1) (p := 1) und_77 ty_62 (by decide) rfl rfl rfl (by decide) rfl) ?_
          refine wl_1 trivial rfl (do_load 3 rfl one_62 rfl rfl) ?_
          refine wl_1 trivial rfl (do_loadL 4 rfl agg_67 rfl rfl rfl) ?_
          refine wl_do trivial rfl (do_call (dolaw_tri B e (sF ops) okd on_ oname oto oba oka obc okl.length okc obs oyes 100 (sF_db ops) (by omega) honame hoto hRo2 hol) ⟨rfl, rfl, trivial⟩ enters_32 [2, 1] [0, 3, 4, 5] ⟨rfl, rfl, trivial⟩ ⟨rfl, rfl, rfl, rfl, trivial⟩ (R := [_, _, _, _]) (by decide)) ?_
          rintro _ _ ⟨_, ⟨rfl, rfl⟩, rfl⟩
          refine wl_nil ?_
          refine at_then ?_
          refine wc_seq ?_
          refine wc_seq ?_
          refine wc_region ?_
          refine wl_1 trivial rfl (do_assign rfl) ?_
          refine wl_nil ?_
          refine at_then ?_
          refine wc_block ?_
          refine wc_mem (fun w_ h_ => h_.pick (M := [diskA B d (doD okd oname oto obs on_ oyes (failS 1 true (sF ops))), diskA B e (doD okd oname oto obs on_ oyes (sF ops)), AnyP, pt b2 (.cells #[.pointer (some ⟨d, 0, none⟩), .pointer (some ⟨e, 0, none⟩)] 77 (0, 0)), pt b1 (.cells #[.int .i64 okd, .string oname, .string oto, .slice oba obs.length obc, .int .i64 on_, .bool oyes, .slice oka okl.length okc] 67 (0, 0)), F]) [2, 0, 1, 3, 4, 5] ⟨rfl, rfl, rfl, rfl, rfl, rfl, trivial⟩ (by decide)) ?_
          refine wc_loop (fun (z_ : Nat × DS × DS) => match z_ with | (n, s1, s2) => bareEq s1 s2 ∧ DB s1 101 ∧ DB s2 101 ∧ n ≤ 2) (fun (z_ : Nat × DS × DS) => match z_ with | (n, s1, s2) => [(4, .pointer (some ⟨b1, 0, none⟩)), (7, .pointer (some ⟨b2, 0, none⟩)), (12, .int .i64 ((n : Nat) : Int))]) (fun (z_ : Nat × DS × DS) => match z_ with | (n, s1, s2) => [diskA B d s1, diskA B e s2, AnyP, pt b2 (.cells #[.pointer (some ⟨d, 0, none⟩), .pointer (some ⟨e, 0, none⟩)] 77 (0, 0)), pt b1 (.cells #[.int .i64 okd, .string oname, .string oto, .slice oba obs.length obc, .int .i64 on_, .bool oyes, .slice oka okl.length okc] 67 (0, 0)), F]) (fun (z_ : Nat × DS × DS) => match z_ with | (n, s1, s2) => 2 - n) (0, (doD okd oname oto obs on_ oyes (failS 1 true (sF ops))), (doD okd oname oto obs on_ oyes (sF ops))) ⟨fault_do (y := true) (sF_calm ops) (show 0 ≤ okd by omega) (show okd ≤ 5 by omega) oname oto obs on_ oyes, ((sF_db ops).fail (by decide) true).do okd oname oto obs hon oyes, (sF_db ops).do okd oname oto obs hon oyes, by omega⟩ ⟨rfl, rfl, rfl, trivial⟩ rfl ?_
          rintro ⟨n, s1, s2⟩ hphi
          obtain ⟨hb, hdb1, hdb2, hn⟩ := hphi
          show WC _ _ _ _ _ _ _ [(4, .pointer (some ⟨b1, 0, none⟩)), (7, .pointer (some ⟨b2, 0, none⟩)), (12, .int .i64 ((n : Nat) : Int))] [diskA B d s1, diskA B e s2, AnyP, pt b2 (.cells #[.pointer (some ⟨d, 0, none⟩), .pointer (some ⟨e, 0, none⟩)] 77 (0, 0)), pt b1 (.cells #[.int .i64 okd, .string oname, .string oto, .slice oba obs.length obc, .int .i64 on_, .bool oyes, .slice oka okl.length okc] 67 (0, 0)), F]
          have hnl := hdb1.n1
          have hns : (sortB (akeys s1.now)).length = s1.now.length := by rw [sortB_len]; simp [akeys]
          refine wc_seq ?_
          refine wc_seq ?_
          refine wc_region ?_
          refine wl_1 trivial rfl (do_move rfl) ?_
          obtain ⟨c11, h_c11⟩ : ∃ c : Bool, cmpB .lss ((n : Nat) : Int) 2 = some c := ⟨_, rfl⟩
          refine wl_1 trivial rfl (do_cmp rfl rfl h_c11) ?_
          refine wl_nil ?_
          refine at_then ?_
          cases c11
          · have p_c11 := cmp_lss_f h_c11
            refine wc_false rfl ?_
            refine wc_exit ?_
            refine at_then_exit ?_
            refine at_then_exit ?_
            refine at_block_it ?_
            refine at_then ?_
            refine wc_seq ?_
            refine wc_region ?_
            refine wl_1 trivial rfl (do_assign rfl) ?_
            refine wl_nil ?_
            refine at_then ?_
            refine wc_ret ?_
            refine at_pick (M := [_, _]) [2, 5] ⟨rfl, rfl, trivial⟩ (by decide) ?_
            exact at_ret1 (M := [_]) rfl rfl ⟨rfl, rfl⟩ rfl
          · have p_c11 := cmp_lss_t h_c11
            refine wc_true rfl ?_
            refine wc_skip ?_
            refine at_then ?_
            refine wc_seq ?_
            refine wc_block ?_
            refine wc_seq ?_
            refine wc_region ?_
            refine wl_1 trivial rfl (do_indexArr (j := 0) (p := 0) und_77 ty_62 (by decide) rfl rfl rfl (by decide) rfl) ?_
            refine wl_1 trivial rfl (do_load 3 rfl one_62 rfl rfl) ?_
            refine wl_do trivial rfl (do_call (fl_list B d s1 s1 101 hdb1 (by decide) rfl) ⟨rfl, trivial⟩ enters_33 [0] [1, 2, 3, 4, 5] ⟨rfl, trivial⟩ ⟨rfl, rfl, rfl, rfl, rfl, trivial⟩ (R := [_, _, _, _, _]) (by decide)) ?_
            rintro _ _ ⟨_, ⟨x12, rfl, rfl⟩, rfl⟩
            refine wl_1 trivial rfl (do_assign rfl) ?_
            refine wl_nil ?_
            refine at_then ?_
            refine wc_seq ?_
            refine wc_seq ?_
            refine wc_draw [[], [], [1], [1, 2], [0, 1, 2, 3], [0, 1, 2, 3, 4], [0, 1, 2, 3, 4, 5], [0, 1, 2, 3, 4, 5, 6], [0, 1, 2, 3, 4, 5, 6, 7], [0, 1, 2, 3, 4, 5, 6, 7, 8], [0, 1, 2, 3, 4, 5, 6], [0, 1, 2, 3, 4, 5, 6, 10], [0, 1, 2, 3, 4, 5, 6, 7, 8, 9, 10, 11], [0, 1, 2, 3, 4, 5, 6, 7, 8, 9, 10, 11, 12], [0, 1, 2, 3, 4, 5, 6, 7, 8, 9, 10, 11, 12, 13]] [some (x12), some (.pointer (some ⟨b2, 1, none⟩)), some (.pointer (some ⟨e, 0, none⟩)), none, none, none, none, none, none, none, none, none, none, none, none] [3, 4, 9, 12] mixed (by kernel_rfl) (by decide) ⟨rfl, rfl, ⟨.inr ⟨_, [.old 13], rfl, rfl, .inl ⟨trivial, do_move rfl⟩⟩, .inr ⟨_, [.old 7], rfl, rfl, .inl ⟨trivial, do_indexArr (j := 1) (p := 1) und_77 ty_62 (by decide) rfl rfl rfl (by decide) rfl⟩⟩, .inr ⟨_, [.op 1], rfl, rfl, .inl ⟨trivial, do_load 4 rfl one_62 rfl rfl⟩⟩, trivial⟩, _, [.op 2], _, rfl, rfl, trivial, do_call (fl_list B e s2 s1 101 hdb2 (by decide) hb.2.1.symm) ⟨rfl, trivial⟩ enters_33 [2] [0, 1, 3, 4, 5, 6] ⟨rfl, trivial⟩ ⟨rfl, rfl, rfl, rfl, rfl, rfl, trivial⟩ (R := [_, _, _, _, _, _]) (by decide), ?_⟩
            rintro _ _ ⟨_, ⟨x13, rfl, rfl⟩, rfl⟩
            refine ⟨[some (x12), some (.pointer (some ⟨b2, 1, none⟩)), some (.pointer (some ⟨e, 0, none⟩)), some (x13), none, none, none, none, none, none, none, none, none, none, none], more_mk ⟨rfl, rfl, rfl, trivial⟩ rfl, ?_⟩
            refine ⟨rfl, rfl, ⟨.inr ⟨_, [.old 13], rfl, rfl, .inl ⟨trivial, do_move rfl⟩⟩, .inl rfl, .inl rfl, .inl rfl, trivial⟩, _, [.op 0, .op 3], _, rfl, rfl, trivial, do_call (fx_texts B x12 x13 s1 (Nat.le_trans hdb1.n1 (by decide))) ⟨rfl, rfl, trivial⟩ enters_28 [3, 1] [0, 2, 4, 5, 6, 7] ⟨rfl, rfl, trivial⟩ ⟨rfl, rfl, rfl, rfl, rfl, rfl, trivial⟩ (R := [_, _, _, _, _, _]) (by decide), ?_⟩
            rintro _ _ ⟨_, ⟨rfl, rfl⟩, rfl⟩
            refine ⟨[some (x12), some (.pointer (some ⟨b2, 1, none⟩)), some (.pointer (some ⟨e, 0, none⟩)), some (x13), some (.bool true), some (.bool false), some (.bool false), some (.pointer (some ⟨b2, 0, none⟩)), some (.pointer (some ⟨d, 0, none⟩)), none, some (.pointer (some ⟨b2, 1, none⟩)), some (.pointer (some ⟨e, 0, none⟩)), none, none, none], more_mk ⟨rfl, rfl, rfl, rfl, trivial⟩ rfl, ?_⟩
            refine ⟨rfl, rfl, ⟨.inl rfl, .inl rfl, .inl rfl, .inl rfl, .inl rfl, .inr ⟨_, [.op 4], rfl, rfl, .inl ⟨trivial, do_not (c := true) rfl⟩⟩, .inr ⟨_, [.op 5], rfl, rfl, .inl ⟨trivial, do_move rfl⟩⟩, .inr ⟨_, [.old 7, .op 6], rfl, rfl, .inl ⟨⟨_, rfl, rfl⟩, do_indexArr (j := 0) (p := 0) und_77 ty_62 (by decide) rfl rfl rfl (by decide) rfl⟩⟩, .inr ⟨_, [.op 6, .op 7], rfl, rfl, .inl ⟨⟨_, rfl, rfl⟩, do_load 5 rfl one_62 rfl rfl⟩⟩, .inr ⟨_, [.old 7, .op 6], rfl, rfl, .inl ⟨⟨_, rfl, rfl⟩, do_indexArr (j := 1) (p := 1) und_77 ty_62 (by decide) rfl rfl rfl (by decide) rfl⟩⟩, .inr ⟨_, [.op 6, .op 10], rfl, rfl, .inl ⟨⟨_, rfl, rfl⟩, do_load 5 rfl one_62 rfl rfl⟩⟩, trivial⟩, _, [.op 6, .op 8], _, rfl, rfl, ⟨_, rfl, rfl⟩, do_call (fu_used B d s1 s1 101 hdb1 (by decide) rfl) ⟨rfl, trivial⟩ enters_39 [3] [0, 1, 2, 4, 5, 6, 7] ⟨rfl, trivial⟩ ⟨rfl, rfl, rfl, rfl, rfl, rfl, rfl, trivial⟩ (R := [_, _, _, _, _, _, _]) (by decide), ?_⟩
            rintro _ _ ⟨_, ⟨rfl, rfl⟩, rfl⟩
            refine ⟨[some (x12), some (.pointer (some ⟨b2, 1, none⟩)), some (.pointer (some ⟨e, 0, none⟩)), some (x13), some (.bool true), some (.bool false), some (.bool false), some (.pointer (some ⟨b2, 0, none⟩)), some (.pointer (some ⟨d, 0, none⟩)), some (.int .i64 ((usedS s1 : Nat) : Int)), some (.pointer (some ⟨b2, 1, none⟩)), some (.pointer (some ⟨e, 0, none⟩)), none, none, none], more_mk ⟨rfl, rfl, rfl, rfl, rfl, rfl, rfl, rfl, rfl, rfl, rfl, trivial⟩ rfl, ?_⟩
            refine ⟨rfl, rfl, ⟨.inl rfl, .inl rfl, .inl rfl, .inl rfl, .inl rfl, .inl rfl, .inl rfl, .inl rfl, .inl rfl, .inl rfl, .inr ⟨_, [.old 7, .op 6], rfl, rfl, .inl ⟨⟨_, rfl, rfl⟩, do_indexArr (j := 1) (p := 1) und_77 ty_62 (by decide) rfl rfl rfl (by decide) rfl⟩⟩, .inr ⟨_, [.op 6, .op 10], rfl, rfl, .inl ⟨⟨_, rfl, rfl⟩, do_load 5 rfl one_62 rfl rfl⟩⟩, trivial⟩, _, [.op 6, .op 11], _, rfl, rfl, ⟨_, rfl, rfl⟩, do_call (fu_used B e s2 s1 101 hdb2 (by decide) (bare_used hb).symm) ⟨rfl, trivial⟩ enters_39 [3] [0, 1, 2, 4, 5, 6, 7] ⟨rfl, trivial⟩ ⟨rfl, rfl, rfl, rfl, rfl, rfl, rfl, trivial⟩ (R := [_, _, _, _, _, _, _]) (by decide), ?_⟩
            rintro _ _ ⟨_, ⟨rfl, rfl⟩, rfl⟩
            refine ⟨[some (x12), some (.pointer (some ⟨b2, 1, none⟩)), some (.pointer (some ⟨e, 0, none⟩)), some (x13), some (.bool true), some (.bool false), some (.bool false), some (.pointer (some ⟨b2, 0, none⟩)), some (.pointer (some ⟨d, 0, none⟩)), some (.int .i64 ((usedS s1 : Nat) : Int)), some (.pointer (some ⟨b2, 1, none⟩)), some (.pointer (some ⟨e, 0, none⟩)), some (.int .i64 ((usedS s1 : Nat) : Int)), some (.bool false), some (.bool false)], more_mk ⟨rfl, rfl, rfl, rfl, rfl, rfl, rfl, rfl, rfl, rfl, rfl, rfl, trivial⟩ rfl, ?_⟩
            refine ⟨rfl, ⟨.inl rfl, .inl rfl, .inl rfl, .inl rfl, .inl rfl, .inl rfl, .inl rfl, .inl rfl, .inl rfl, .inl rfl, .inl rfl, .inl rfl, .inl rfl, .inr ⟨_, [.op 6, .op 9, .op 12], rfl, rfl, .inl ⟨⟨_, rfl, rfl⟩, do_cmp (c := false) rfl rfl cmpB_self_neq⟩⟩, .inr ⟨_, [.op 6, .op 13], rfl, rfl, .inl ⟨trivial, do_pickF rfl rfl⟩⟩, trivial⟩, [.op 14, .old 4, .old 7, .old 12, .old 13], [(105, .bool false), (4, .pointer (some ⟨b1, 0, none⟩)), (7, .pointer (some ⟨b2, 0, none⟩)), (12, .int .i64 ((n : Nat) : Int)), (13, x12)], rfl, rfl, ?_⟩
            refine at_then ?_
            refine wc_false rfl ?_
            refine wc_skip ?_
            refine at_then ?_
            refine wc_seq ?_
            refine wc_seq ?_
            refine wc_region ?_
            refine wl_1 trivial rfl (do_assign rfl) ?_
            refine wl_nil ?_
            refine at_then ?_
            refine wc_block ?_
            refine wc_mem (fun w_ h_ => h_.pick (M := [diskA B d s1, diskA B e s2, AnyP, pt b2 (.cells #[.pointer (some ⟨d, 0, none⟩), .pointer (some ⟨e, 0, none⟩)] 77 (0, 0)), pt b1 (.cells #[.int .i64 okd, .string oname, .string oto, .slice oba obs.length obc, .int .i64 on_, .bool oyes, .slice oka okl.length okc] 67 (0, 0)), row 9 1 x12 s1.now.length ((sortB (akeys s1.now)).map .string), F]) [1, 0, 4, 5, 6, 2, 7] ⟨rfl, rfl, rfl, rfl, rfl, rfl, rfl, trivial⟩ (by decide)) ?_
            refine wc_loop (fun (m : Nat) => m ≤ s1.now.length) (fun (m : Nat) => [(4, .pointer (some ⟨b1, 0, none⟩)), (7, .pointer (some ⟨b2, 0, none⟩)), (12, .int .i64 ((n : Nat) : Int)), (13, x12), (14, .int .i64 ((m : Nat) : Int))]) (fun (m : Nat) => [diskA B d s1, diskA B e s2, AnyP, pt b2 (.cells #[.pointer (some ⟨d, 0, none⟩), .pointer (some ⟨e, 0, none⟩)] 77 (0, 0)), pt b1 (.cells #[.int .i64 okd, .string oname, .string oto, .slice oba obs.length obc, .int .i64 on_, .bool oyes, .slice oka okl.length okc] 67 (0, 0)), row 9 1 x12 s1.now.length ((sortB (akeys s1.now)).map .string), F]) (fun (m : Nat) => s1.now.length - m) 0 (Nat.zero_le _) ⟨rfl, rfl, rfl, rfl, rfl, trivial⟩ rfl ?_
            rintro m hphi
            obtain hm := hphi
            show WC _ _ _ _ _ _ _ [(4, .pointer (some ⟨b1, 0, none⟩)), (7, .pointer (some ⟨b2, 0, none⟩)), (12, .int .i64 ((n : Nat) : Int)), (13, x12), (14, .int .i64 ((m : Nat) : Int))] [diskA B d s1, diskA B e s2, AnyP, pt b2 (.cells #[.pointer (some ⟨d, 0, none⟩), .pointer (some ⟨e, 0, none⟩)] 77 (0, 0)), pt b1 (.cells #[.int .i64 okd, .string oname, .string oto, .slice oba obs.length obc, .int .i64 on_, .bool oyes, .slice oka okl.length okc] 67 (0, 0)), row 9 1 x12 s1.now.length ((sortB (akeys s1.now)).map .string), F]
            refine wc_seq ?_
            refine wc_seq ?_
            refine wc_region ?_
            refine wl_1 trivial rfl (do_move rfl) ?_
            refine wl_1 trivial rfl (do_move rfl) ?_
            refine wl_1 trivial rfl (do_lenRow 5 rfl isSlice_39 rfl rfl) ?_
            obtain ⟨c14, h_c14⟩ : ∃ c : Bool, cmpB .lss ((m : Nat) : Int) ((s1.now.length : Nat) : Int) = some c := ⟨_, rfl⟩
            refine wl_1 trivial rfl (do_cmp rfl rfl h_c14) ?_
            refine wl_nil ?_
            refine at_then ?_
            cases c14
            · have p_c14 := cmp_lss_f h_c14
              refine wc_false rfl ?_
              refine wc_exit ?_
              refine at_then_exit ?_
              refine at_then_exit ?_
              refine at_block_it ?_
              refine at_then ?_
              refine wc_seq ?_
              refine wc_region ?_
              refine wl_1 trivial rfl (do_indexArr (j := 0) (p := 0) und_77 ty_62 (by decide) rfl rfl rfl (by decide) rfl) ?_
              refine wl_1 trivial rfl (do_load 3 rfl one_62 rfl rfl) ?_
              refine wl_1 trivial rfl (do_fieldAddr (k := 6) (k' := 6) fo_67_6 rfl (by rfl)) ?_
              refine wl_1 trivial rfl (do_load 4 rfl one_65 rfl rfl) ?_
              refine wl_do trivial rfl (do_call (d_crash B d s1 oka okc okl AnyP 101 (hdb1) (by omega) hRko hkco) ⟨rfl, rfl, trivial⟩ enters_35 [0, 2] [1, 3, 4, 5, 6] ⟨rfl, rfl, trivial⟩ ⟨rfl, rfl, rfl, rfl, rfl, trivial⟩ (R := [_, _, _, _, _]) (by decide)) ?_
              rintro _ _ ⟨_, ⟨rfl, rfl⟩, rfl⟩
              refine wl_nil ?_
              refine at_then ?_
              refine wc_region ?_
              refine wl_1 trivial rfl (do_indexArr (j := 1) (p := 1) und_77 ty_62 (by decide) rfl rfl rfl (by decide) rfl) ?_
              refine wl_1 trivial rfl (do_load 3 rfl one_62 rfl rfl) ?_
              refine wl_1 trivial rfl (do_fieldAddr (k := 6) (k' := 6) fo_67_6 rfl (by rfl)) ?_
              refine wl_1 trivial rfl (do_load 4 rfl one_65 rfl rfl) ?_
              refine wl_do trivial rfl (do_call (d_crash B e s2 oka okc okl AnyP 101 (hdb2) (by omega) hRko hkco) ⟨rfl, rfl, trivial⟩ enters_35 [2, 1] [0, 3, 4, 5, 6] ⟨rfl, rfl, trivial⟩ ⟨rfl, rfl, rfl, rfl, rfl, trivial⟩ (R := [_, _, _, _, _]) (by decide)) ?_
              rintro _ _ ⟨_, ⟨rfl, rfl⟩, rfl⟩
              refine wl_nil ?_
              refine at_block ?_
              refine at_then ?_
              refine wc_region ?_
              refine wl_1 trivial rfl (do_move rfl) ?_
              refine wl_1 trivial rfl (do_add (r := ((n + 1 : Nat) : Int)) rfl rfl (wrap_nat (by omega) (by omega))) ?_
              refine wl_1 trivial rfl (do_assign rfl) ?_
              refine wl_nil ?_
              refine at_pick (M := [_, _, _, _, _, _]) [2, 0, 1, 3, 4, 6] ⟨rfl, rfl, rfl, rfl, rfl, rfl, trivial⟩ (by decide) ?_
              exact at_round (n + 1, (crashS okl s1), (crashS okl s2)) ⟨bare_crash hb _, hdb1.crash _, hdb2.crash _, by omega⟩ (by show 2 - (n + 1) < 2 - n; omega) ⟨rfl, rfl, rfl, trivial⟩ rfl
            · have p_c14 := cmp_lss_t h_c14
              refine wc_true rfl ?_
              refine wc_skip ?_
              refine at_then ?_
              refine wc_seq ?_
              refine wc_block ?_
              refine wc_seq ?_
              refine wc_fact 5 rfl (row_some (by omega)) ?_
              rintro ⟨g15, cap16, rfl⟩
              obtain ⟨y17, hy18⟩ : ∃ y, (sortB (akeys s1.now))[m]? = some y := ⟨_, List.getElem?_eq_getElem (by omega)⟩
              refine wc_draw [[], [0], [], [], [2, 3], [2, 3, 4], [0, 1, 2, 3, 4, 5], [0, 1, 2, 3, 4, 5, 6], [0, 1, 2, 3, 4, 5, 6, 7], [0, 1, 2, 3, 4, 5, 6, 7], [0, 1, 2, 3, 4, 5, 6, 7, 8], [0, 1, 2, 3, 4, 5, 6, 7, 8, 9, 10]] [some (.pointer (some ⟨b2, 0, none⟩)), some (.pointer (some ⟨d, 0, none⟩)), some (.slice (some ⟨g15, 0, none⟩) s1.now.length cap16), some (.int .i64 ((m : Nat) : Int)), some (.pointer (some ⟨g15, m, none⟩)), some (.string y17), none, none, none, none, none, none] [6] mixed (by kernel_rfl) (by decide) ⟨rfl, rfl, ⟨.inr ⟨_, [.old 7], rfl, rfl, .inl ⟨trivial, do_indexArr (j := 0) (p := 0) und_77 ty_62 (by decide) rfl rfl rfl (by decide) rfl⟩⟩, .inr ⟨_, [.op 0], rfl, rfl, .inl ⟨trivial, do_load 3 rfl one_62 rfl rfl⟩⟩, .inr ⟨_, [.old 13], rfl, rfl, .inl ⟨trivial, do_move rfl⟩⟩, .inr ⟨_, [.old 14], rfl, rfl, .inl ⟨trivial, do_move rfl⟩⟩, .inr ⟨_, [.op 2, .op 3], rfl, rfl, .inl ⟨trivial, do_indexAddr (j := m) (p := m) und_39 ty_9 rfl rfl rfl (by omega) (by omega)⟩⟩, .inr ⟨_, [.op 4], rfl, rfl, .inl ⟨trivial, do_loadR (j := m) 5 rfl one_9 rfl row_R (by omega) (str_at hy18)⟩⟩, trivial⟩, _, [.op 1, .op 5], _, rfl, rfl, trivial, do_call (fr_read B d s1 s1 y17 101 hdb1 (by decide) rfl (read_has hb.2.2.2.2.2.1 hy18)) ⟨rfl, rfl, trivial⟩ enters_34 [0] [1, 2, 3, 4, 5, 6] ⟨rfl, trivial⟩ ⟨rfl, rfl, rfl, rfl, rfl, rfl, trivial⟩ (R := [_, _, _, _, _, _]) (by decide), ?_⟩
              rintro _ _ ⟨_, ⟨x19, rfl, rfl⟩, rfl⟩
              refine ⟨[some (.pointer (some ⟨b2, 0, none⟩)), some (.pointer (some ⟨d, 0, none⟩)), some (.slice (some ⟨g15, 0, none⟩) s1.now.length cap16), some (.int .i64 ((m : Nat) : Int)), some (.pointer (some ⟨g15, m, none⟩)), some (.string y17), some (.tuple #[x19, .int .i64 0]), some (.tuple #[x19, .int .i64 0]), some (x19), some (.int .i64 0), some (x19), some (.int .i64 0)], more_mk ⟨rfl, rfl, rfl, rfl, rfl, rfl, trivial⟩ rfl, ?_⟩
              refine ⟨rfl, ⟨.inl rfl, .inl rfl, .inl rfl, .inl rfl, .inl rfl, .inl rfl, .inl rfl, .inr ⟨_, [.op 6], rfl, rfl, .inl ⟨trivial, do_move rfl⟩⟩, .inr ⟨_, [.op 7], rfl, rfl, .inl ⟨trivial, do_extract rfl rfl⟩⟩, .inr ⟨_, [.op 7], rfl, rfl, .inl ⟨trivial, do_extract rfl rfl⟩⟩, .inr ⟨_, [.op 8], rfl, rfl, .inl ⟨trivial, do_assign rfl⟩⟩, .inr ⟨_, [.op 9], rfl, rfl, .inl ⟨trivial, do_assign rfl⟩⟩, trivial⟩, [.op 10, .op 11, .old 4, .old 7, .old 12, .old 13, .old 14], [(15, x19), (16, .int .i64 0), (4, .pointer (some ⟨b1, 0, none⟩)), (7, .pointer (some ⟨b2, 0, none⟩)), (12, .int .i64 ((n : Nat) : Int)), (13, .slice (some ⟨g15, 0, none⟩) s1.now.length cap16), (14, .int .i64 ((m : Nat) : Int))], rfl, rfl, ?_⟩
              refine at_then ?_
              refine wc_seq ?_
              refine wc_draw [[], [0], [], [], [2, 3], [2, 3, 4], [0, 1, 2, 3, 4, 5], [0, 1, 2, 3, 4, 5, 6], [0, 1, 2, 3, 4, 5, 6, 7], [0, 1, 2, 3, 4, 5, 6, 7], [0, 1, 2, 3, 4, 5, 6, 7, 8], [0, 1, 2, 3, 4, 5, 6, 7, 8, 9, 10]] [some (.pointer (some ⟨b2, 1, none⟩)), some (.pointer (some ⟨e, 0, none⟩)), some (.slice (some ⟨g15, 0, none⟩) s1.now.length cap16), some (.int .i64 ((m : Nat) : Int)), some (.pointer (some ⟨g15, m, none⟩)), some (.string y17), none, none, none, none, none, none] [6] mixed (by kernel_rfl) (by decide) ⟨rfl, rfl, ⟨.inr ⟨_, [.old 7], rfl, rfl, .inl ⟨trivial, do_indexArr (j := 1) (p := 1) und_77 ty_62 (by decide) rfl rfl rfl (by decide) rfl⟩⟩, .inr ⟨_, [.op 0], rfl, rfl, .inl ⟨trivial, do_load 4 rfl one_62 rfl rfl⟩⟩, .inr ⟨_, [.old 13], rfl, rfl, .inl ⟨trivial, do_move rfl⟩⟩, .inr ⟨_, [.old 14], rfl, rfl, .inl ⟨trivial, do_move rfl⟩⟩, .inr ⟨_, [.op 2, .op 3], rfl, rfl, .inl ⟨trivial, do_indexAddr (j := m) (p := m) und_39 ty_9 rfl rfl rfl (by omega) (by omega)⟩⟩, .inr ⟨_, [.op 4], rfl, rfl, .inl ⟨trivial, do_loadR (j := m) 6 rfl one_9 rfl row_R (by omega) (str_at hy18)⟩⟩, trivial⟩, _, [.op 1, .op 5], _, rfl, rfl, trivial, do_call (fr_read B e s2 s1 y17 101 hdb2 (by decide) (bare_read hb y17).symm (read_has hb.2.2.2.2.2.1 hy18)) ⟨rfl, rfl, trivial⟩ enters_34 [2] [0, 1, 3, 4, 5, 6, 7] ⟨rfl, trivial⟩ ⟨rfl, rfl, rfl, rfl, rfl, rfl, rfl, trivial⟩ (R := [_, _, _, _, _, _, _]) (by decide), ?_⟩
              rintro _ _ ⟨_, ⟨x20, rfl, rfl⟩, rfl⟩
              refine ⟨[some (.pointer (some ⟨b2, 1, none⟩)), some (.pointer (some ⟨e, 0, none⟩)), some (.slice (some ⟨g15, 0, none⟩) s1.now.length cap16), some (.int .i64 ((m : Nat) : Int)), some (.pointer (some ⟨g15, m, none⟩)), some (.string y17), some (.tuple #[x20, .int .i64 0]), some (.tuple #[x20, .int .i64 0]), some (x20), some (.int .i64 0), some (x20), some (.int .i64 0)], more_mk ⟨rfl, rfl, rfl, rfl, rfl, rfl, trivial⟩ rfl, ?_⟩
              refine ⟨rfl, ⟨.inl rfl, .inl rfl, .inl rfl, .inl rfl, .inl rfl, .inl rfl, .inl rfl, .inr ⟨_, [.op 6], rfl, rfl, .inl ⟨trivial, do_move rfl⟩⟩, .inr ⟨_, [.op 7], rfl, rfl, .inl ⟨trivial, do_extract rfl rfl⟩⟩, .inr ⟨_, [.op 7], rfl, rfl, .inl ⟨trivial, do_extract rfl rfl⟩⟩, .inr ⟨_, [.op 8], rfl, rfl, .inl ⟨trivial, do_assign rfl⟩⟩, .inr ⟨_, [.op 9], rfl, rfl, .inl ⟨trivial, do_assign rfl⟩⟩, trivial⟩, [.op 10, .op 11, .old 4, .old 7, .old 12, .old 13, .old 14, .old 15, .old 16], [(17, x20), (18, .int .i64 0), (4, .pointer (some ⟨b1, 0, none⟩)), (7, .pointer (some ⟨b2, 0, none⟩)), (12, .int .i64 ((n : Nat) : Int)), (13, .slice (some ⟨g15, 0, none⟩) s1.now.length cap16), (14, .int .i64 ((m : Nat) : Int)), (15, x19), (16, .int .i64 0)], rfl, rfl, ?_⟩
              refine at_then ?_
              refine wc_seq ?_
              refine wc_region ?_
              refine wl_1 trivial rfl (do_move rfl) ?_
              refine wl_do trivial rfl (do_call (num_tri B 0) ⟨rfl, trivial⟩ enters_30 [] [0, 1, 2, 3, 4, 5, 6, 7, 8] trivial ⟨rfl, rfl, rfl, rfl, rfl, rfl, rfl, rfl, rfl, trivial⟩ (R := [_, _, _, _, _, _, _, _, _]) (by decide)) ?_
              rintro _ _ ⟨_, ⟨rfl, rfl⟩, rfl⟩
              refine wl_1 trivial rfl (do_move rfl) ?_
              refine wl_do trivial rfl (do_call (num_tri B 0) ⟨rfl, trivial⟩ enters_30 [] [0, 1, 2, 3, 4, 5, 6, 7, 8] trivial ⟨rfl, rfl, rfl, rfl, rfl, rfl, rfl, rfl, rfl, trivial⟩ (R := [_, _, _, _, _, _, _, _, _]) (by decide)) ?_
              rintro _ _ ⟨_, ⟨rfl, rfl⟩, rfl⟩
              refine wl_1 trivial rfl (do_add (r := 0) rfl rfl rfl) ?_
              refine wl_1 trivial rfl (do_cmp (c := false) rfl rfl rfl) ?_
              refine wl_1 trivial rfl (do_move rfl) ?_
              refine wl_1 ⟨_, rfl, rfl⟩ rfl (do_move rfl) ?_
              refine wl_1 ⟨_, rfl, rfl⟩ rfl (do_convBS (R := row 5 1 x19 ((readS y17 s1).2.length) (byv (readS y17 s1).2)) (bs := ((readS y17 s1).2)) 3 und_32 und_5 und_9 rfl rfl row_R) ?_
              refine wl_1 ⟨_, rfl, rfl⟩ rfl (do_move rfl) ?_
              refine wl_1 ⟨_, rfl, rfl⟩ rfl (do_convBS (R := row 5 1 x20 ((readS y17 s1).2.length) (byv (readS y17 s1).2)) (bs := ((readS y17 s1).2)) 1 und_32 und_5 und_9 rfl rfl row_R) ?_
              refine wl_1 ⟨_, rfl, rfl⟩ rfl (do_strcmp rfl rfl (str_same_neq _)) ?_
              refine wl_1 trivial rfl (do_pickF rfl rfl) ?_
              refine wl_nil ?_
              refine at_then ?_
              refine wc_false rfl ?_
              refine wc_skip ?_
              refine at_block ?_
              refine at_then ?_
              refine wc_region ?_
              refine wl_1 trivial rfl (do_move rfl) ?_
              refine wl_1 trivial rfl (do_add (r := ((m + 1 : Nat) : Int)) rfl rfl (wrap_nat (by omega) (by omega))) ?_
              refine wl_1 trivial rfl (do_assign rfl) ?_
              refine wl_nil ?_
              refine at_pick (M := [_, _, _, _, _, _, _]) [2, 0, 4, 5, 6, 7, 8] ⟨rfl, rfl, rfl, rfl, rfl, rfl, rfl, trivial⟩ (by decide) ?_
              exact at_round (m + 1) (by omega) (by omega) ⟨rfl, rfl, rfl, rfl, rfl, trivial⟩ rfl
        · have p_c10 := cmp_gtr_t h_c10
          refine wc_true rfl ?_
          refine wc_seq ?_
          refine wc_region ?_
          refine wl_1 trivial rfl (do_assign rfl) ?_
          refine wl_nil ?_
          refine at_then ?_
          refine wc_ret ?_
          refine at_then_ret ?_
          refine at_pick (M := [_, _]) [2, 5] ⟨rfl, rfl, trivial⟩ (by decide) ?_
          exact at_ret1 (M := [_]) rfl rfl ⟨rfl, rfl⟩ rfl
      · have p_c9 := cmp_lss_t h_c9
        refine wl_no rfl rfl rfl rfl rfl ?_
        refine wl_no rfl rfl rfl rfl rfl ?_
        refine wl_no rfl rfl rfl rfl rfl ?_
        refine wl_1 trivial rfl (do_pickT rfl rfl) ?_
        refine wl_nil ?_
        refine at_then ?_
        refine wc_true rfl ?_
        refine wc_seq ?_
        refine wc_region ?_
        refine wl_1 trivial rfl (do_assign rfl) ?_
        refine wl_nil ?_
        refine at_then ?_
        refine wc_ret ?_
        refine at_then_ret ?_
        refine at_pick (M := [_, _]) [2, 5] ⟨rfl, rfl, trivial⟩ (by decide) ?_
        exact at_ret1 (M := [_]) rfl rfl ⟨rfl, rfl⟩ rfl

set_option maxRecDepth 100000 in
set_option maxHeartbeats 8000000 in
theorem faults_false (B : Ctx) (a0 : Option Addr) (cap0 b0 off0 : Nat) (ops : List OpD) (okd : Int) (oname oto : ByteArray) (oba : Option Addr) (obc : Nat) (obs : List UInt8) (on_ : Int) (oyes : Bool) (oka : Option Addr) (okc : Nat) (okl : List Bool) (W : World) (hrd : ∀ v n xs, inSl W v n xs → Rd B AnyP 1 v n xs) (hops : ∀ (j : Nat) (o : OpD), ops[j]? = some o → a0 = some ⟨b0, off0, none⟩ ∧ o.Ok W ∧ ∀ (i : Nat) (u : Value), o.cells[i]? = some u → B.cell ⟨b0, off0 + j * 7 + i, none⟩ u) (hon : on_ ≤ 9223372036854775807) (honame : oname.size ≤ 9223372036854775807) (hoto : oto.size ≤ 9223372036854775807) (hRo2 : Rd B AnyP 1 (.slice oba obs.length obc) obs.length (byv obs)) (hol : obs.length ≤ 9223372036854775807) (hRko : Rd B AnyP 1 (.slice oka okl.length okc) okl.length (okl.map .bool)) (hkco : okl.length ≤ okc) :
    Tri Try.prog B 9 #[.slice a0 ops.length cap0, .agg #[.int .i64 okd, .string oname, .string oto, .slice oba obs.length obc, .int .i64 on_, .bool oyes, .slice oka okl.length okc], .bool false] [AnyP] (fun u M => u = .bool true ∧ M = [AnyP]) := by
  refine tri_body (n := 155) Try.func9 rfl rfl rfl ?_
  intro F
  show WC _ _ _ _ _ _ _ [(0, .slice a0 ops.length cap0), (1, .agg #[.int .i64 okd, .string oname, .string oto, .slice oba obs.length obc, .int .i64 on_, .bool oyes, .slice oka okl.length okc]), (2, .bool false)] [AnyP, F]
  refine wc_seq ?_
  refine wc_region ?_
  refine wl_do trivial rfl (do_box rfl rfl) ?_
  rintro _ _ ⟨b1, rfl, rfl⟩
  refine wl_1 trivial rfl (do_assign rfl) ?_
  refine wl_nil ?_
  refine at_then ?_
  refine wc_seq ?_
  refine wc_region ?_
  refine wl_do trivial rfl (do_alloc zero_77 rfl) ?_
  rintro _ _ ⟨b2, rfl, rfl⟩
  refine wl_nil ?_
  refine at_then ?_
  refine wc_seq ?_
  refine wc_seq ?_
  refine wc_region ?_
  refine wl_1 trivial rfl (do_assign rfl) ?_
  refine wl_nil ?_
  refine at_then ?_
  refine wc_block ?_
  refine wc_rounds 2 ?_
  refine wc_seq ?_
  refine wc_seq ?_
  refine wc_region ?_
  refine wl_1 trivial rfl (do_move rfl) ?_
  refine wl_1 trivial rfl (do_cmp (c := true) rfl rfl rfl) ?_
  refine wl_nil ?_
  refine at_then ?_
  refine wc_true rfl ?_
  refine wc_skip ?_
  refine at_then ?_
  refine wc_seq_mid (fun (d : Nat) => True) (fun (d : Nat) => [(0, .slice a0 ops.length cap0), (2, .bool false), (4, .pointer (some ⟨b1, 0, none⟩)), (7, .pointer (some ⟨b2, 0, none⟩)), (8, .int .i64 0), (19, .int .i64 0), (20, .bool true)]) (fun (d : Nat) => [diskA B d (sF ops), AnyP, pt b2 (.cells #[.pointer (some ⟨d, 0, none⟩), .pointer none] 77 (0, 0)), pt b1 (.cells #[.int .i64 okd, .string oname, .string oto, .slice oba obs.length obc, .int .i64 on_, .bool oyes, .slice oka okl.length okc] 67 (0, 0)), F]) ?_ ?_
  · refine wc_block ?_
    refine wc_seq ?_
    refine wc_region ?_
    refine wl_do trivial rfl (do_call (d_newq B) ⟨rfl, trivial⟩ enters_29 [] [0, 1, 2, 3] trivial ⟨rfl, rfl, rfl, rfl, trivial⟩ (R := [_, _, _, _]) (by decide)) ?_
    rintro _ _ ⟨_, ⟨d, rfl, rfl⟩, rfl⟩
    refine wl_1 trivial rfl (do_move rfl) ?_
    refine wl_1 trivial rfl (do_extract rfl rfl) ?_
    refine wl_1 trivial rfl (do_extract rfl rfl) ?_
    refine wl_1 trivial rfl (do_assign rfl) ?_
    refine wl_1 trivial rfl (do_assign rfl) ?_
    refine wl_nil ?_
    refine at_then ?_
    refine wc_seq ?_
    refine wc_seq ?_
    refine wc_region ?_
    refine wl_1 trivial rfl (do_move rfl) ?_
    refine wl_do trivial rfl (do_call (num_tri B 0) ⟨rfl, trivial⟩ enters_30 [] [0, 1, 2, 3, 4] trivial ⟨rfl, rfl, rfl, rfl, rfl, trivial⟩ (R := [_, _, _, _, _]) (by decide)) ?_
    rintro _ _ ⟨_, ⟨rfl, rfl⟩, rfl⟩
    refine wl_1 trivial rfl (do_cmp (c := false) rfl rfl rfl) ?_
    refine wl_1 trivial rfl (do_move rfl) ?_
    refine wl_1 ⟨_, rfl, rfl⟩ rfl (do_move rfl) ?_
    refine wl_1 ⟨_, rfl, rfl⟩ rfl (do_eqPtr isPtr_62 rfl rfl (.inr rfl)) ?_
    refine wl_1 trivial rfl (do_pickF rfl rfl) ?_
    refine wl_1 trivial rfl (do_move rfl) ?_
    refine wl_do ⟨_, rfl, rfl⟩ rfl (do_call (knows_tri B) trivial enters_31 [] [0, 1, 2, 3, 4] trivial ⟨rfl, rfl, rfl, rfl, rfl, trivial⟩ (R := [_, _, _, _, _]) (by decide)) ?_
    rintro _ _ ⟨_, ⟨rfl, rfl⟩, rfl⟩
    refine wl_1 ⟨_, rfl, rfl⟩ rfl (do_not (c := true) rfl) ?_
    refine wl_1 trivial rfl (do_pickF rfl rfl) ?_
    refine wl_nil ?_
    refine at_then ?_
    refine wc_false rfl ?_
    refine wc_skip ?_
    refine at_then ?_
    refine wc_seq ?_
    refine wc_region ?_
    refine wl_1 trivial rfl (do_move rfl) ?_
    refine wl_1 trivial rfl (do_move rfl) ?_
    refine wl_1 trivial rfl (do_indexArr (j := 0) (p := 0) und_77 ty_62 (by decide) rfl rfl rfl (by decide) rfl) ?_
    refine wl_1 trivial rfl (do_store (L1 := [_]) rfl rfl one_62 rfl rfl (cs' := #[.pointer (some ⟨d, 0, none⟩), .pointer none]) rfl) ?_
    refine wl_nil ?_
    refine at_then ?_
    refine wc_seq ?_
    refine wc_region ?_
    refine wl_1 trivial rfl (do_assign rfl) ?_
    refine wl_nil ?_
    refine at_then ?_
    refine wc_block ?_
    refine wc_mem (fun w_ h_ => h_.pick (M := [diskA B d qD, AnyP, pt b2 (.cells #[.pointer (some ⟨d, 0, none⟩), .pointer none] 77 (0, 0)), pt b1 (.cells #[.int .i64 okd, .string oname, .string oto, .slice oba obs.length obc, .int .i64 on_, .bool oyes, .slice oka okl.length okc] 67 (0, 0)), F]) [0, 3, 1, 2, 4] ⟨rfl, rfl, rfl, rfl, rfl, trivial⟩ (by decide)) ?_
    refine wc_loop (fun (z_ : Nat × DS) => match z_ with | (i, s) => s = runF (ops.take i) qD ∧ DB s i ∧ i ≤ 100) (fun (z_ : Nat × DS) => match z_ with | (i, s) => [(0, .slice a0 ops.length cap0), (2, .bool false), (4, .pointer (some ⟨b1, 0, none⟩)), (6, .bool false), (7, .pointer (some ⟨b2, 0, none⟩)), (8, .int .i64 0), (9, .pointer (some ⟨d, 0, none⟩)), (10, .int .i64 0), (11, .int .i64 ((i : Nat) : Int)), (19, .int .i64 0), (20, .bool true), (23, .tuple #[.pointer (some ⟨d, 0, none⟩), .int .i64 0]), (24, .tuple #[.pointer (some ⟨d, 0, none⟩), .int .i64 0]), (25, .pointer (some ⟨d, 0, none⟩)), (26, .int .i64 0), (27, .int .i64 0), (28, .int .i64 0), (29, .bool false), (30, .bool false), (31, .pointer (some ⟨d, 0, none⟩)), (32, .bool false), (33, .bool false), (34, .bool false), (35, .bool true), (36, .bool false), (37, .bool false), (38, .int .i64 0), (39, .pointer (some ⟨d, 0, none⟩)), (40, .pointer (some ⟨b2, 0, none⟩))]) (fun (z_ : Nat × DS) => match z_ with | (i, s) => [diskA B d s, AnyP, pt b2 (.cells #[.pointer (some ⟨d, 0, none⟩), .pointer none] 77 (0, 0)), pt b1 (.cells #[.int .i64 okd, .string oname, .string oto, .slice oba obs.length obc, .int .i64 on_, .bool oyes, .slice oka okl.length okc] 67 (0, 0)), F]) (fun (z_ : Nat × DS) => match z_ with | (i, s) => 100 - i) (0, qD) ⟨rfl, su_b0, by omega⟩ ⟨rfl, rfl, rfl, rfl, rfl, rfl, rfl, rfl, rfl, rfl, rfl, rfl, rfl, rfl, rfl, rfl, rfl, rfl, rfl, rfl, rfl, rfl, rfl, rfl, rfl, rfl, rfl, rfl, rfl, trivial⟩ rfl ?_
    rintro ⟨i, s⟩ hphi
    obtain ⟨hs, hdb, hi⟩ := hphi
    show WC _ _ _ _ _ _ _ [(0, .slice a0 ops.length cap0), (2, .bool false), (4, .pointer (some ⟨b1, 0, none⟩)), (6, .bool false), (7, .pointer (some ⟨b2, 0, none⟩)), (8, .int .i64 0), (9, .pointer (some ⟨d, 0, none⟩)), (10, .int .i64 0), (11, .int .i64 ((i : Nat) : Int)), (19, .int .i64 0), (20, .bool true), (23, .tuple #[.pointer (some ⟨d, 0, none⟩), .int .i64 0]), (24, .tuple #[.pointer (some ⟨d, 0, none⟩), .int .i64 0]), (25, .pointer (some ⟨d, 0, none⟩)), (26, .int .i64 0), (27, .int .i64 0), (28, .int .i64 0), (29, .bool false), (30, .bool false), (31, .pointer (some ⟨d, 0, none⟩)), (32, .bool false), (33, .bool false), (34, .bool false), (35, .bool true), (36, .bool false), (37, .bool false), (38, .int .i64 0), (39, .pointer (some ⟨d, 0, none⟩)), (40, .pointer (some ⟨b2, 0, none⟩))] [diskA B d s, AnyP, pt b2 (.cells #[.pointer (some ⟨d, 0, none⟩), .pointer none] 77 (0, 0)), pt b1 (.cells #[.int .i64 okd, .string oname, .string oto, .slice oba obs.length obc, .int .i64 on_, .bool oyes, .slice oka okl.length okc] 67 (0, 0)), F]
    refine wc_seq ?_
    refine wc_seq ?_
    refine wc_region ?_
    refine wl_1 trivial rfl (do_move rfl) ?_
    refine wl_1 trivial rfl (do_move rfl) ?_
    refine wl_1 trivial rfl (do_lenSlice rfl isSlice_61 rfl) ?_
    obtain ⟨c3, h_c3⟩ : ∃ c : Bool, cmpB .lss ((i : Nat) : Int) ((ops.length : Nat) : Int) = some c := ⟨_, rfl⟩
    refine wl_1 trivial rfl (do_cmp rfl rfl h_c3) ?_
    refine wl_1 trivial rfl (do_move rfl) ?_
    cases c3
    · have p_c3 := cmp_lss_f h_c3
      refine wl_no rfl rfl rfl rfl rfl ?_
      refine wl_no rfl rfl rfl rfl rfl ?_
      refine wl_1 trivial rfl (do_pickF rfl rfl) ?_
      refine wl_nil ?_
      refine at_then ?_
      refine wc_false rfl ?_
      refine wc_exit ?_
      refine at_then_exit ?_
      refine at_then_exit ?_
      refine at_block_it ?_
      refine at_block ?_
      obtain rfl : s = sF ops := hs.trans (sF_of hi (by omega))
      exact at_mid d trivial ⟨rfl, rfl, rfl, rfl, rfl, rfl, rfl, trivial⟩ rfl
    · have p_c3 := cmp_lss_t h_c3
      refine wl_1 ⟨_, rfl, rfl⟩ rfl (do_move rfl) ?_
      obtain ⟨c4, h_c4⟩ : ∃ c : Bool, cmpB .lss ((i : Nat) : Int) 100 = some c := ⟨_, rfl⟩
      refine wl_1 ⟨_, rfl, rfl⟩ rfl (do_cmp rfl rfl h_c4) ?_
      refine wl_1 trivial rfl (do_pickT rfl rfl) ?_
      refine wl_nil ?_
      refine at_then ?_
      cases c4
      · have p_c4 := cmp_lss_f h_c4
        refine wc_false rfl ?_
        refine wc_exit ?_
        refine at_then_exit ?_
        refine at_then_exit ?_
        refine at_block_it ?_
        refine at_block ?_
        obtain rfl : s = sF ops := hs.trans (sF_of hi (by omega))
        exact at_mid d trivial ⟨rfl, rfl, rfl, rfl, rfl, rfl, rfl, trivial⟩ rfl
      · have p_c4 := cmp_lss_t h_c4
        refine wc_true rfl ?_
        refine wc_skip ?_
        refine at_then ?_
        refine wc_seq ?_
        refine wc_block ?_
        refine wc_seq ?_
        refine wc_region ?_
        refine wl_1 trivial rfl (do_move rfl) ?_
        refine wl_1 trivial rfl (do_move rfl) ?_
        obtain ⟨⟨kd, name, to, ob, bs, k, yes, ok, kl⟩, ho⟩ : ∃ o, ops[i]? = some o := ⟨_, List.getElem?_eq_getElem (by omega)⟩
        obtain ⟨hae, hoo, hcl⟩ := hops _ _ ho
        subst hae
        obtain ⟨⟨hk1, hk2⟩, hname0, hto0, hob, ⟨hn1, hn2⟩, _, hok⟩ := hoo
        simp only at hk1 hk2 hname0 hto0 hob hn1 hn2 hok
        have hname : name.size ≤ 9223372036854775807 := Nat.le_trans hname0 (by decide)
        have hto : to.size ≤ 9223372036854775807 := Nat.le_trans hto0 (by decide)
        have hRo := hob
        obtain ⟨_, ba, bc, hb3, _, hbl3, _⟩ := hob
        subst hb3
        obtain ⟨_, ka2, kc2, hk3, hkc2, _, _⟩ := hok
        subst hk3
        have hRb : Rd B AnyP 1 (.slice ba bs.length bc) bs.length (byv bs) := hrd _ _ _ hRo
        refine wl_1 trivial rfl (do_indexAddr (j := i) (p := (off0 + i * 7)) und_61 ty_67 rfl rfl rfl (by omega) (by omega)) ?_
        refine wl_1 trivial rfl (do_fieldAddr (k := 0) (k' := off0 + i * 7) fo_67_0 rfl (by rfl)) ?_
        refine wl_1 trivial rfl (do_loadB rfl one_3 (hcl 0 _ rfl)) ?_
        obtain ⟨c5, h_c5⟩ : ∃ c : Bool, cmpB .leq kd 5 = some c := ⟨_, rfl⟩
        refine wl_1 trivial rfl (do_cmp rfl rfl h_c5) ?_
        refine wl_nil ?_
        refine at_then ?_
        cases c5
        · have p_c5 := cmp_leq_f h_c5
          refine wc_false rfl ?_
          refine wc_skip ?_
          refine at_block ?_
          refine at_then ?_
          refine wc_region ?_
          refine wl_1 trivial rfl (do_move rfl) ?_
          refine wl_1 trivial rfl (do_add (r := ((i + 1 : Nat) : Int)) rfl rfl (wrap_nat (by omega) (by omega))) ?_
          refine wl_1 trivial rfl (do_assign rfl) ?_
          refine wl_nil ?_
          have hphi : s = runF (ops.take (i + 1)) qD ∧ DB s (i + 1) ∧ i + 1 ≤ 100 := ⟨by rw [runF_more ho, ← hs]; exact (if_neg (show ¬ kd ≤ 5 by omega)).symm, hdb.more (by omega), by omega⟩
          exact at_round (i + 1, s) hphi (by show 100 - (i + 1) < 100 - i; omega) ⟨rfl, rfl, rfl, rfl, rfl, rfl, rfl, rfl, rfl, rfl, rfl, rfl, rfl, rfl, rfl, rfl, rfl, rfl, rfl, rfl, rfl, rfl, rfl, rfl, rfl, rfl, rfl, rfl, rfl, trivial⟩ rfl
        · have p_c5 := cmp_leq_t h_c5
          refine wc_true rfl ?_
          refine wc_region ?_
          refine wl_1 trivial rfl (do_move rfl) ?_
          refine wl_1 trivial rfl (do_move rfl) ?_
          refine wl_1 trivial rfl (do_move rfl) ?_
          refine wl_1 trivial rfl (do_indexAddr (j := i) (p := (off0 + i * 7)) und_61 ty_67 rfl rfl rfl (by omega) (by omega)) ?_
          refine wl_1 trivial rfl (do_loadAB (vs := [.int .i64 kd, .string name, .string to, .slice ba bs.length bc, .int .i64 k, .bool yes, .slice ka2 kl.length kc2]) rfl agg_67 rfl (fun j u hj => hcl j u hj)) ?_
          refine wl_do trivial rfl (do_call (dolaw_tri B d s kd k name to ba ka2 bc kl.length kc2 bs yes i (hdb) (by omega) hname hto hRb (Nat.le_trans hbl3 (by decide))) ⟨rfl, rfl, trivial⟩ enters_32 [0, 1] [2, 3, 4] ⟨rfl, rfl, trivial⟩ ⟨rfl, rfl, rfl, trivial⟩ (R := [_, _, _]) (by decide)) ?_
          rintro _ _ ⟨_, ⟨rfl, rfl⟩, rfl⟩
          refine wl_nil ?_
          refine at_block ?_
          refine at_then ?_
          refine wc_region ?_
          refine wl_1 trivial rfl (do_move rfl) ?_
          refine wl_1 trivial rfl (do_add (r := ((i + 1 : Nat) : Int)) rfl rfl (wrap_nat (by omega) (by omega))) ?_
          refine wl_1 trivial rfl (do_assign rfl) ?_
          refine wl_nil ?_
          have hphi : (doD kd name to bs k yes s) = runF (ops.take (i + 1)) qD ∧ DB (doD kd name to bs k yes s) (i + 1) ∧ i + 1 ≤ 100 := ⟨by rw [runF_more ho, ← hs]; exact (if_pos (show kd ≤ 5 by omega)).symm, hdb.do kd name to bs hn2 yes, by omega⟩
          exact at_round (i + 1, (doD kd name to bs k yes s)) hphi (by show 100 - (i + 1) < 100 - i; omega) ⟨rfl, rfl, rfl, rfl, rfl, rfl, rfl, rfl, rfl, rfl, rfl, rfl, rfl, rfl, rfl, rfl, rfl, rfl, rfl, rfl, rfl, rfl, rfl, rfl, rfl, rfl, rfl, rfl, rfl, trivial⟩ rfl
  · rintro d hphi
    obtain _ := hphi
    show WC _ _ _ _ _ _ _ [(0, .slice a0 ops.length cap0), (2, .bool false), (4, .pointer (some ⟨b1, 0, none⟩)), (7, .pointer (some ⟨b2, 0, none⟩)), (8, .int .i64 0), (19, .int .i64 0), (20, .bool true)] [diskA B d (sF ops), AnyP, pt b2 (.cells #[.pointer (some ⟨d, 0, none⟩), .pointer none] 77 (0, 0)), pt b1 (.cells #[.int .i64 okd, .string oname, .string oto, .slice oba obs.length obc, .int .i64 on_, .bool oyes, .slice oka okl.length okc] 67 (0, 0)), F]
    refine wc_region ?_
    refine wl_1 trivial rfl (do_move rfl) ?_
    refine wl_1 trivial rfl (do_add (r := 1) rfl rfl rfl) ?_
    refine wl_1 trivial rfl (do_assign rfl) ?_
    refine wl_nil ?_
    refine at_rounds ?_
    refine wc_seq ?_
    refine wc_seq ?_
    refine wc_region ?_
    refine wl_1 trivial rfl (do_move rfl) ?_
    refine wl_1 trivial rfl (do_cmp (c := true) rfl rfl rfl) ?_
    refine wl_nil ?_
    refine at_then ?_
    refine wc_true rfl ?_
    refine wc_skip ?_
    refine at_then ?_
    refine wc_seq_mid (fun (e : Nat) => True) (fun (e : Nat) => [(0, .slice a0 ops.length cap0), (2, .bool false), (4, .pointer (some ⟨b1, 0, none⟩)), (7, .pointer (some ⟨b2, 0, none⟩)), (8, .int .i64 1), (19, .int .i64 1), (20, .bool true), (21, .int .i64 0), (22, .int .i64 1)]) (fun (e : Nat) => [diskA B d (sF ops), diskA B e (sF ops), AnyP, pt b2 (.cells #[.pointer (some ⟨d, 0, none⟩), .pointer (some ⟨e, 0, none⟩)] 77 (0, 0)), pt b1 (.cells #[.int .i64 okd, .string oname, .string oto, .slice oba obs.length obc, .int .i64 on_, .bool oyes, .slice oka okl.length okc] 67 (0, 0)), F]) ?_ ?_
    · refine wc_block ?_
      refine wc_seq ?_
      refine wc_region ?_
      refine wl_do trivial rfl (do_call (d_newq B) ⟨rfl, trivial⟩ enters_29 [] [0, 1, 2, 3, 4] trivial ⟨rfl, rfl, rfl, rfl, rfl, trivial⟩ (R := [_, _, _, _, _]) (by decide)) ?_
      rintro _ _ ⟨_, ⟨e, rfl, rfl⟩, rfl⟩
      refine wl_1 trivial rfl (do_move rfl) ?_
      refine wl_1 trivial rfl (do_extract rfl rfl) ?_
      refine wl_1 trivial rfl (do_extract rfl rfl) ?_
      refine wl_1 trivial rfl (do_assign rfl) ?_
      refine wl_1 trivial rfl (do_assign rfl) ?_
      refine wl_nil ?_
      refine at_then ?_
      refine wc_seq ?_
      refine wc_seq ?_
      refine wc_region ?_
      refine wl_1 trivial rfl (do_move rfl) ?_
      refine wl_do trivial rfl (do_call (num_tri B 0) ⟨rfl, trivial⟩ enters_30 [] [0, 1, 2, 3, 4, 5] trivial ⟨rfl, rfl, rfl, rfl, rfl, rfl, trivial⟩ (R := [_, _, _, _, _, _]) (by decide)) ?_
      rintro _ _ ⟨_, ⟨rfl, rfl⟩, rfl⟩
      refine wl_1 trivial rfl (do_cmp (c := false) rfl rfl rfl) ?_
      refine wl_1 trivial rfl (do_move rfl) ?_
      refine wl_1 ⟨_, rfl, rfl⟩ rfl (do_move rfl) ?_
      refine wl_1 ⟨_, rfl, rfl⟩ rfl (do_eqPtr isPtr_62 rfl rfl (.inr rfl)) ?_
      refine wl_1 trivial rfl (do_pickF rfl rfl) ?_
      refine wl_1 trivial rfl (do_move rfl) ?_
      refine wl_do ⟨_, rfl, rfl⟩ rfl (do_call (knows_tri B) trivial enters_31 [] [0, 1, 2, 3, 4, 5] trivial ⟨rfl, rfl, rfl, rfl, rfl, rfl, trivial⟩ (R := [_, _, _, _, _, _]) (by decide)) ?_
      rintro _ _ ⟨_, ⟨rfl, rfl⟩, rfl⟩
      refine wl_1 ⟨_, rfl, rfl⟩ rfl (do_not (c := true) rfl) ?_
      refine wl_1 trivial rfl (do_pickF rfl rfl) ?_
      refine wl_nil ?_
      refine at_then ?_
      refine wc_false rfl ?_
      refine wc_skip ?_
      refine at_then ?_
      refine wc_seq ?_
      refine wc_region ?_
      refine wl_1 trivial rfl (do_move rfl) ?_
      refine wl_1 trivial rfl (do_move rfl) ?_
      refine wl_1 trivial rfl (do_indexArr (j := 1) (p := 1) und_77 ty_62 (by decide) rfl rfl rfl (by decide) rfl) ?_
      refine wl_1 trivial rfl (do_store (L1 := [_, _, _]) rfl rfl one_62 rfl rfl (cs' := #[.pointer (some ⟨d, 0, none⟩), .pointer (some ⟨e, 0, none⟩)]) rfl) ?_
      refine wl_nil ?_
      refine at_then ?_
      refine wc_seq ?_
      refine wc_region ?_
      refine wl_1 trivial rfl (do_assign rfl) ?_
      refine wl_nil ?_
      refine at_then ?_
      refine wc_block ?_
      refine wc_mem (fun w_ h_ => h_.pick (M := [diskA B d (sF ops), diskA B e qD, AnyP, pt b2 (.cells #[.pointer (some ⟨d, 0, none⟩), .pointer (some ⟨e, 0, none⟩)] 77 (0, 0)), pt b1 (.cells #[.int .i64 okd, .string oname, .string oto, .slice oba obs.length obc, .int .i64 on_, .bool oyes, .slice oka okl.length okc] 67 (0, 0)), F]) [1, 0, 2, 3, 4, 5] ⟨rfl, rfl, rfl, rfl, rfl, rfl, trivial⟩ (by decide)) ?_
      refine wc_loop (fun (z_ : Nat × DS) => match z_ with | (i, s) => s = runF (ops.take i) qD ∧ DB s i ∧ i ≤ 100) (fun (z_ : Nat × DS) => match z_ with | (i, s) => [(0, .slice a0 ops.length cap0), (2, .bool false), (4, .pointer (some ⟨b1, 0, none⟩)), (7, .pointer (some ⟨b2, 0, none⟩)), (8, .int .i64 1), (9, .pointer (some ⟨e, 0, none⟩)), (10, .int .i64 0), (11, .int .i64 ((i : Nat) : Int)), (19, .int .i64 1), (20, .bool true), (21, .int .i64 0), (22, .int .i64 1), (23, .tuple #[.pointer (some ⟨e, 0, none⟩), .int .i64 0]), (24, .tuple #[.pointer (some ⟨e, 0, none⟩), .int .i64 0]), (25, .pointer (some ⟨e, 0, none⟩)), (26, .int .i64 0), (27, .int .i64 0), (28, .int .i64 0), (29, .bool false), (30, .bool false), (31, .pointer (some ⟨e, 0, none⟩)), (32, .bool false), (33, .bool false), (34, .bool false), (35, .bool true), (36, .bool false), (37, .bool false), (38, .int .i64 1), (39, .pointer (some ⟨e, 0, none⟩)), (40, .pointer (some ⟨b2, 1, none⟩))]) (fun (z_ : Nat × DS) => match z_ with | (i, s) => [diskA B d (sF ops), diskA B e s, AnyP, pt b2 (.cells #[.pointer (some ⟨d, 0, none⟩), .pointer (some ⟨e, 0, none⟩)] 77 (0, 0)), pt b1 (.cells #[.int .i64 okd, .string oname, .string oto, .slice oba obs.length obc, .int .i64 on_, .bool oyes, .slice oka okl.length okc] 67 (0, 0)), F]) (fun (z_ : Nat × DS) => match z_ with | (i, s) => 100 - i) (0, qD) ⟨rfl, su_b0, by omega⟩ ⟨rfl, rfl, rfl, rfl, rfl, rfl, rfl, rfl, rfl, rfl, rfl, rfl, rfl, rfl, rfl, rfl, rfl, rfl, rfl, rfl, rfl, rfl, rfl, rfl, rfl, rfl, rfl, rfl, rfl, rfl, trivial⟩ rfl ?_
      rintro ⟨i, s⟩ hphi
      obtain ⟨hs, hdb, hi⟩ := hphi
      show WC _ _ _ _ _ _ _ [(0, .slice a0 ops.length cap0), (2, .bool false), (4, .pointer (some ⟨b1, 0, none⟩)), (7, .pointer (some ⟨b2, 0, none⟩)), (8, .int .i64 1), (9, .pointer (some ⟨e, 0, none⟩)), (10, .int .i64 0), (11, .int .i64 ((i : Nat) : Int)), (19, .int .i64 1), (20, .bool true), (21, .int .i64 0), (22, .int .i64 1), (23, .tuple #[.pointer (some ⟨e, 0, none⟩), .int .i64 0]), (24, .tuple #[.pointer (some ⟨e, 0, none⟩), .int .i64 0]), (25, .pointer (some ⟨e, 0, none⟩)), (26, .int .i64 0), (27, .int .i64 0), (28, .int .i64 0), (29, .bool false), (30, .bool false), (31, .pointer (some ⟨e, 0, none⟩)), (32, .bool false), (33, .bool false), (34, .bool false), (35, .bool true), (36, .bool false), (37, .bool false), (38, .int .i64 1), (39, .pointer (some ⟨e, 0, none⟩)), (40, .pointer (some ⟨b2, 1, none⟩))] [diskA B d (sF ops), diskA B e s, AnyP, pt b2 (.cells #[.pointer (some ⟨d, 0, none⟩), .pointer (some ⟨e, 0, none⟩)] 77 (0, 0)), pt b1 (.cells #[.int .i64 okd, .string oname, .string oto, .slice oba obs.length obc, .int .i64 on_, .bool oyes, .slice oka okl.length okc] 67 (0, 0)), F]
      refine wc_seq ?_
      refine wc_seq ?_
      refine wc_region ?_
      refine wl_1 trivial rfl (do_move rfl) ?_
      refine wl_1 trivial rfl (do_move rfl) ?_
      refine wl_1 trivial rfl (do_lenSlice rfl isSlice_61 rfl) ?_
      obtain ⟨c6, h_c6⟩ : ∃ c : Bool, cmpB .lss ((i : Nat) : Int) ((ops.length : Nat) : Int) = some c := ⟨_, rfl⟩
      refine wl_1 trivial rfl (do_cmp rfl rfl h_c6) ?_
      refine wl_1 trivial rfl (do_move rfl) ?_
      cases c6
      · have p_c6 := cmp_lss_f h_c6
        refine wl_no rfl rfl rfl rfl rfl ?_
        refine wl_no rfl rfl rfl rfl rfl ?_
        refine wl_1 trivial rfl (do_pickF rfl rfl) ?_
        refine wl_nil ?_
        refine at_then ?_
        refine wc_false rfl ?_
        refine wc_exit ?_
        refine at_then_exit ?_
        refine at_then_exit ?_
        refine at_block_it ?_
        refine at_block ?_
        obtain rfl : s = sF ops := hs.trans (sF_of hi (by omega))
        exact at_mid e trivial ⟨rfl, rfl, rfl, rfl, rfl, rfl, rfl, rfl, rfl, trivial⟩ rfl
      · have p_c6 := cmp_lss_t h_c6
        refine wl_1 ⟨_, rfl, rfl⟩ rfl (do_move rfl) ?_
        obtain ⟨c7, h_c7⟩ : ∃ c : Bool, cmpB .lss ((i : Nat) : Int) 100 = some c := ⟨_, rfl⟩
        refine wl_1 ⟨_, rfl, rfl⟩ rfl (do_cmp rfl rfl h_c7) ?_
        refine wl_1 trivial rfl (do_pickT rfl rfl) ?_
        refine wl_nil ?_
        refine at_then ?_
        cases c7
        · have p_c7 := cmp_lss_f h_c7
          refine wc_false rfl ?_
          refine wc_exit ?_
          refine at_then_exit ?_
          refine at_then_exit ?_
          refine at_block_it ?_
          refine at_block ?_
          obtain rfl : s = sF ops := hs.trans (sF_of hi (by omega))
          exact at_mid e trivial ⟨rfl, rfl, rfl, rfl, rfl, rfl, rfl, rfl, rfl, trivial⟩ rfl
        · have p_c7 := cmp_lss_t h_c7
          refine wc_true rfl ?_
          refine wc_skip ?_
          refine at_then ?_
          refine wc_seq ?_
          refine wc_block ?_
          refine wc_seq ?_
          refine wc_region ?_
          refine wl_1 trivial rfl (do_move rfl) ?_
          refine wl_1 trivial rfl (do_move rfl) ?_
          obtain ⟨⟨kd, name, to, ob, bs, k, yes, ok, kl⟩, ho⟩ : ∃ o, ops[i]? = some o := ⟨_, List.getElem?_eq_getElem (by omega)⟩
          obtain ⟨hae, hoo, hcl⟩ := hops _ _ ho
          subst hae
          obtain ⟨⟨hk1, hk2⟩, hname0, hto0, hob, ⟨hn1, hn2⟩, _, hok⟩ := hoo
          simp only at hk1 hk2 hname0 hto0 hob hn1 hn2 hok
          have hname : name.size ≤ 9223372036854775807 := Nat.le_trans hname0 (by decide)
          have hto : to.size ≤ 9223372036854775807 := Nat.le_trans hto0 (by decide)
          have hRo := hob
          obtain ⟨_, ba, bc, hb3, _, hbl3, _⟩ := hob
          subst hb3
          obtain ⟨_, ka2, kc2, hk3, hkc2, _, _⟩ := hok
          subst hk3
          have hRb : Rd B AnyP 1 (.slice ba bs.length bc) bs.length (byv bs) := hrd _ _ _ hRo
          refine wl_1 trivial rfl (do_indexAddr (j := i) (p := (off0 + i * 7)) und_61 ty_67 rfl rfl rfl (by omega) (by omega)) ?_
          refine wl_1 trivial rfl (do_fieldAddr (k := 0) (k' := off0 + i * 7) fo_67_0 rfl (by rfl)) ?_
          refine wl_1 trivial rfl (do_loadB rfl one_3 (hcl 0 _ rfl)) ?_
          obtain ⟨c8, h_c8⟩ : ∃ c : Bool, cmpB .leq kd 5 = some c := ⟨_, rfl⟩
          refine wl_1 trivial rfl (do_cmp rfl rfl h_c8) ?_
          refine wl_nil ?_
          refine at_then ?_
          cases c8
          · have p_c8 := cmp_leq_f h_c8
            refine wc_false rfl ?_
            refine wc_skip ?_
            refine at_block ?_
            refine at_then ?_
            refine wc_region ?_
            refine wl_1 trivial rfl (do_move rfl) ?_
            refine wl_1 trivial rfl (do_add (r := ((i + 1 : Nat) : Int)) rfl rfl (wrap_nat (by omega) (by omega))) ?_
            refine wl_1 trivial rfl (do_assign rfl) ?_
            refine wl_nil ?_
            have hphi : s = runF (ops.take (i + 1)) qD ∧ DB s (i + 1) ∧ i + 1 ≤ 100 := ⟨by rw [runF_more ho, ← hs]; exact (if_neg (show ¬ kd ≤ 5 by omega)).symm, hdb.more (by omega), by omega⟩
            exact at_round (i + 1, s) hphi (by show 100 - (i + 1) < 100 - i; omega) ⟨rfl, rfl, rfl, rfl, rfl, rfl, rfl, rfl, rfl, rfl, rfl, rfl, rfl, rfl, rfl, rfl, rfl, rfl, rfl, rfl, rfl, rfl, rfl, rfl, rfl, rfl, rfl, rfl, rfl, rfl, trivial⟩ rfl
          · have p_c8 := cmp_leq_t h_c8
            refine wc_true rfl ?_
            refine wc_region ?_
            refine wl_1 trivial rfl (do_move rfl) ?_
            refine wl_1 trivial rfl (do_move rfl) ?_
            refine wl_1 trivial rfl (do_move rfl) ?_
            refine wl_1 trivial rfl (do_indexAddr (j := i) (p := (off0 + i * 7)) und_61 ty_67 rfl rfl rfl (by omega) (by omega)) ?_
            refine wl_1 trivial rfl (do_loadAB (vs := [.int .i64 kd, .string name, .string to, .slice ba bs.length bc, .int .i64 k, .bool yes, .slice ka2 kl.length kc2]) rfl agg_67 rfl (fun j u hj => hcl j u hj)) ?_
            refine wl_do trivial rfl (do_call (dolaw_tri B e s kd k name to ba ka2 bc kl.length kc2 bs yes i (hdb) (by omega) hname hto hRb (Nat.le_trans hbl3 (by decide))) ⟨rfl, rfl, trivial⟩ enters_32 [1, 2] [0, 3, 4, 5] ⟨rfl, rfl, trivial⟩ ⟨rfl, rfl, rfl, rfl, trivial⟩ (R := [_, _, _, _]) (by decide)) ?_
            rintro _ _ ⟨_, ⟨rfl, rfl⟩, rfl⟩
            refine wl_nil ?_
            refine at_block ?_
            refine at_then ?_
            refine wc_region ?_
            refine wl_1 trivial rfl (do_move rfl) ?_
            refine wl_1 trivial rfl (do_add (r := ((i + 1 : Nat) : Int)) rfl rfl (wrap_nat (by omega) (by omega))) ?_
            refine wl_1 trivial rfl (do_assign rfl) ?_
            refine wl_nil ?_
            refine at_pick (M := [_, _, _, _, _, _]) [2, 0, 1, 3, 4, 5] ⟨rfl, rfl, rfl, rfl, rfl, rfl, trivial⟩ (by decide) ?_
            have hphi : (doD kd name to bs k yes s) = runF (ops.take (i + 1)) qD ∧ DB (doD kd name to bs k yes s) (i + 1) ∧ i + 1 ≤ 100 := ⟨by rw [runF_more ho, ← hs]; exact (if_pos (show kd ≤ 5 by omega)).symm, hdb.do kd name to bs hn2 yes, by omega⟩
            exact at_round (i + 1, (doD kd name to bs k yes s)) hphi (by show 100 - (i + 1) < 100 - i; omega) ⟨rfl, rfl, rfl, rfl, rfl, rfl, rfl, rfl, rfl, rfl, rfl, rfl, rfl, rfl, rfl, rfl, rfl, rfl, rfl, rfl, rfl, rfl, rfl, rfl, rfl, rfl, rfl, rfl, rfl, rfl, trivial⟩ rfl
    · rintro e hphi
      obtain _ := hphi
      show WC _ _ _ _ _ _ _ [(0, .slice a0 ops.length cap0), (2, .bool false), (4, .pointer (some ⟨b1, 0, none⟩)), (7, .pointer (some ⟨b2, 0, none⟩)), (8, .int .i64 1), (19, .int .i64 1), (20, .bool true), (21, .int .i64 0), (22, .int .i64 1)] [diskA B d (sF ops), diskA B e (sF ops), AnyP, pt b2 (.cells #[.pointer (some ⟨d, 0, none⟩), .pointer (some ⟨e, 0, none⟩)] 77 (0, 0)), pt b1 (.cells #[.int .i64 okd, .string oname, .string oto, .slice oba obs.length obc, .int .i64 on_, .bool oyes, .slice oka okl.length okc] 67 (0, 0)), F]
      refine wc_region ?_
      refine wl_1 trivial rfl (do_move rfl) ?_
      refine wl_1 trivial rfl (do_add (r := 2) rfl rfl rfl) ?_
      refine wl_1 trivial rfl (do_assign rfl) ?_
      refine wl_nil ?_
      refine at_rounds ?_
      refine wc_seq ?_
      refine wc_seq ?_
      refine wc_region ?_
      refine wl_1 trivial rfl (do_move rfl) ?_
      refine wl_1 trivial rfl (do_cmp (c := false) rfl rfl rfl) ?_
      refine wl_nil ?_
      refine at_then ?_
      refine wc_false rfl ?_
      refine wc_exit ?_
      refine at_then_exit ?_
      refine at_then_exit ?_
      refine at_block_it ?_
      refine at_then ?_
      refine wc_seq ?_
      refine wc_seq ?_
      refine wc_region ?_
      refine wl_1 trivial rfl (do_fieldAddr (k := 0) (k' := 0) fo_67_0 rfl (by rfl)) ?_
      refine wl_1 trivial rfl (do_load 4 rfl one_3 rfl rfl) ?_
      obtain ⟨c9, h_c9⟩ : ∃ c : Bool, cmpB .lss okd 0 = some c := ⟨_, rfl⟩
      refine wl_1 trivial rfl (do_cmp rfl rfl h_c9) ?_
      refine wl_1 trivial rfl (do_move rfl) ?_
      cases c9
      · have p_c9 := cmp_lss_f h_c9
        refine wl_1 ⟨_, rfl, rfl⟩ rfl (do_fieldAddr (k := 0) (k' := 0) fo_67_0 rfl (by rfl)) ?_
        refine wl_1 ⟨_, rfl, rfl⟩ rfl (do_load 4 rfl one_3 rfl rfl) ?_
        obtain ⟨c10, h_c10⟩ : ∃ c : Bool, cmpB .gtr okd 5 = some c := ⟨_, rfl⟩
        refine wl_1 ⟨_, rfl, rfl⟩ rfl (do_cmp rfl rfl h_c10) ?_
        refine wl_1 trivial rfl (do_pickF rfl rfl) ?_
        refine wl_nil ?_
        refine at_then ?_
        cases c10
        · have p_c10 := cmp_gtr_f h_c10
          refine wc_false rfl ?_
          refine wc_skip ?_
          refine at_then ?_
          refine wc_seq ?_
          refine wc_region ?_
          refine wl_1 trivial rfl (do_indexArr (j := 0) (p := 0) und_77 ty_62 (by decide) rfl rfl rfl (by decide) rfl) ?_
          refine wl_1 trivial rfl (do_load 3 rfl one_62 rfl rfl) ?_
          refine wl_1 trivial rfl (do_move rfl) ?_
          refine wl_do trivial rfl (do_call (d_fail B d (sF ops) 1 false) ⟨rfl, rfl, rfl, trivial⟩ enters_38 [0] [1, 2, 3, 4, 5] ⟨rfl, trivial⟩ ⟨rfl, rfl, rfl, rfl, rfl, trivial⟩ (R := [_, _, _, _, _]) (by decide)) ?_
          rintro _ _ ⟨_, ⟨rfl, rfl⟩, rfl⟩
          refine wl_nil ?_
          refine at_then ?_
          refine wc_seq ?_
          refine wc_region ?_
          refine wl_1 trivial rfl (do_indexArr (j := 0) (p := 0) und_77 ty_62 (by decide) rfl rfl rfl (by decide) rfl) ?_
          refine wl_1 trivial rfl (do_load 3 rfl one_62 rfl rfl) ?_
          refine wl_1 trivial rfl (do_loadL 4 rfl agg_67 rfl rfl rfl) ?_
          refine wl_do trivial rfl (do_call (dolaw_tri B d (failS 1 false (sF ops)) okd on_ oname oto oba oka obc okl.length okc obs oyes 100 ((sF_db ops).fail (by decide) _) (by omega) honame hoto hRo2 hol) ⟨rfl, rfl, trivial⟩ enters_32 [0, 2] [1, 3, 4, 5] ⟨rfl, rfl, trivial⟩ ⟨rfl, rfl, rfl, rfl, trivial⟩ (R := [_, _, _, _]) (by decide)) ?_
          rintro _ _ ⟨_, ⟨rfl, rfl⟩, rfl⟩
          refine wl_nil ?_
          refine at_then ?_
          refine wc_seq ?_
          refine wc_seq ?_
          refine wc_region ?_
          refine wl_1 trivial rfl (do_move rfl) ?_
          refine wl_nil ?_
          refine at_then ?_
          refine wc_false rfl ?_
          refine wc_skip ?_
          refine at_then ?_
          refine wc_seq ?_
          refine wc_seq ?_
          refine wc_region ?_
          refine wl_1 trivial rfl (do_assign rfl) ?_
          refine wl_nil ?_
          refine at_then ?_
          refine wc_block ?_
          refine wc_mem (fun w_ h_ => h_.pick (M := [diskA B d (doD okd oname oto obs on_ oyes (failS 1 false (sF ops))), diskA B e (sF ops), AnyP, pt b2 (.cells #[.pointer (some ⟨d, 0, none⟩), .pointer (some ⟨e, 0, none⟩)] 77 (0, 0)), pt b1 (.cells #[.int .i64 okd, .string oname, .string oto, .slice oba obs.length obc, .int .i64 on_, .bool oyes, .slice oka okl.length okc] 67 (0, 0)), F]) [0, 2, 1, 3, 4, 5] ⟨rfl, rfl, rfl, rfl, rfl, rfl, trivial⟩ (by decide)) ?_
          refine wc_loop (fun (z_ : Nat × DS × DS) => match z_ with | (n, s1, s2) => bareEq s1 s2 ∧ DB s1 101 ∧ DB s2 101 ∧ n ≤ 2) (fun (z_ : Nat × DS × DS) => match z_ with | (n, s1, s2) => [(4, .pointer (some ⟨b1, 0, none⟩)), (7, .pointer (some ⟨b2, 0, none⟩)), (12, .int .i64 ((n : Nat) : Int))]) (fun (z_ : Nat × DS × DS) => match z_ with | (n, s1, s2) => [diskA B d s1, diskA B e s2, AnyP, pt b2 (.cells #[.pointer (some ⟨d, 0, none⟩), .pointer (some ⟨e, 0, none⟩)] 77 (0, 0)), pt b1 (.cells #[.int .i64 okd, .string oname, .string oto, .slice oba obs.length obc, .int .i64 on_, .bool oyes, .slice oka okl.length okc] 67 (0, 0)), F]) (fun (z_ : Nat × DS × DS) => match z_ with | (n, s1, s2) => 2 - n) (0, (doD okd oname oto obs on_ oyes (failS 1 false (sF ops))), (sF ops)) ⟨fault_do (y := false) (sF_calm ops) (show 0 ≤ okd by omega) (show okd ≤ 5 by omega) oname oto obs on_ oyes, ((sF_db ops).fail (by decide) false).do okd oname oto obs hon oyes, (sF_db ops).more (by omega), by omega⟩ ⟨rfl, rfl, rfl, trivial⟩ rfl ?_
          rintro ⟨n, s1, s2⟩ hphi
          obtain ⟨hb, hdb1, hdb2, hn⟩ := hphi
          show WC _ _ _ _ _ _ _ [(4, .pointer (some ⟨b1, 0, none⟩)), (7, .pointer (some ⟨b2, 0, none⟩)), (12, .int .i64 ((n : Nat) : Int))] [diskA B d s1, diskA B e s2, AnyP, pt b2 (.cells #[.pointer (some ⟨d, 0, none⟩), .pointer (some ⟨e, 0, none⟩)] 77 (0, 0)), pt b1 (.cells #[.int .i64 okd, .string oname, .string oto, .slice oba obs.length obc, .int .i64 on_, .bool oyes, .slice oka okl.length okc] 67 (0, 0)), F]
          have hnl := hdb1.n1
          have hns : (sortB (akeys s1.now)).length = s1.now.length := by rw [sortB_len]; simp [akeys]
          refine wc_seq ?_
          refine wc_seq ?_
          refine wc_region ?_
          refine wl_1 trivial rfl (do_move rfl) ?_
          obtain ⟨c11, h_c11⟩ : ∃ c : Bool, cmpB .lss ((n : Nat) : Int) 2 = some c := ⟨_, rfl⟩
          refine wl_1 trivial rfl (do_cmp rfl rfl h_c11) ?_
          refine wl_nil ?_
          refine at_then ?_
          cases c11
          · have p_c11 := cmp_lss_f h_c11
            refine wc_false rfl ?_
            refine wc_exit ?_
            refine at_then_exit ?_
            refine at_then_exit ?_
            refine at_block_it ?_
            refine at_then ?_
            refine wc_seq ?_
            refine wc_region ?_
            refine wl_1 trivial rfl (do_assign rfl) ?_
            refine wl_nil ?_
            refine at_then ?_
            refine wc_ret ?_
            refine at_pick (M := [_, _]) [2, 5] ⟨rfl, rfl, trivial⟩ (by decide) ?_
            exact at_ret1 (M := [_]) rfl rfl ⟨rfl, rfl⟩ rfl
          · have p_c11 := cmp_lss_t h_c11
            refine wc_true rfl ?_
            refine wc_skip ?_
            refine at_then ?_
            refine wc_seq ?_
            refine wc_block ?_
            refine wc_seq ?_
            refine wc_region ?_
            refine wl_1 trivial rfl (do_indexArr (j := 0) (p := 0) und_77 ty_62 (by decide) rfl rfl rfl (by decide) rfl) ?_
            refine wl_1 trivial rfl (do_load 3 rfl one_62 rfl rfl) ?_
            refine wl_do trivial rfl (do_call (fl_list B d s1 s1 101 hdb1 (by decide) rfl) ⟨rfl, trivial⟩ enters_33 [0] [1, 2, 3, 4, 5] ⟨rfl, trivial⟩ ⟨rfl, rfl, rfl, rfl, rfl, trivial⟩ (R := [_, _, _, _, _]) (by decide)) ?_
            rintro _ _ ⟨_, ⟨x12, rfl, rfl⟩, rfl⟩
            refine wl_1 trivial rfl (do_assign rfl) ?_
            refine wl_nil ?_
            refine at_then ?_
            refine wc_seq ?_
            refine wc_seq ?_
            refine wc_draw [[], [], [1], [1, 2], [0, 1, 2, 3], [0, 1, 2, 3, 4], [0, 1, 2, 3, 4, 5], [0, 1, 2, 3, 4, 5, 6], [0, 1, 2, 3, 4, 5, 6, 7], [0, 1, 2, 3, 4, 5, 6, 7, 8], [0, 1, 2, 3, 4, 5, 6], [0, 1, 2, 3, 4, 5, 6, 10], [0, 1, 2, 3, 4, 5, 6, 7, 8, 9, 10, 11], [0, 1, 2, 3, 4, 5, 6, 7, 8, 9, 10, 11, 12], [0, 1, 2, 3, 4, 5, 6, 7, 8, 9, 10, 11, 12, 13]] [some (x12), some (.pointer (some ⟨b2, 1, none⟩)), some (.pointer (some ⟨e, 0, none⟩)), none, none, none, none, none, none, none, none, none, none, none, none] [3, 4, 9, 12] mixed (by kernel_rfl) (by decide) ⟨rfl, rfl, ⟨.inr ⟨_, [.old 13], rfl, rfl, .inl ⟨trivial, do_move rfl⟩⟩, .inr ⟨_, [.old 7], rfl, rfl, .inl ⟨trivial, do_indexArr (j := 1) (p := 1) und_77 ty_62 (by decide) rfl rfl rfl (by decide) rfl⟩⟩, .inr ⟨_, [.op 1], rfl, rfl, .inl ⟨trivial, do_load 4 rfl one_62 rfl rfl⟩⟩, trivial⟩, _, [.op 2], _, rfl, rfl, trivial, do_call (fl_list B e s2 s1 101 hdb2 (by decide) hb.2.1.symm) ⟨rfl, trivial⟩ enters_33 [2] [0, 1, 3, 4, 5, 6] ⟨rfl, trivial⟩ ⟨rfl, rfl, rfl, rfl, rfl, rfl, trivial⟩ (R := [_, _, _, _, _, _]) (by decide), ?_⟩
            rintro _ _ ⟨_, ⟨x13, rfl, rfl⟩, rfl⟩
            refine ⟨[some (x12), some (.pointer (some ⟨b2, 1, none⟩)), some (.pointer (some ⟨e, 0, none⟩)), some (x13), none, none, none, none, none, none, none, none, none, none, none], more_mk ⟨rfl, rfl, rfl, trivial⟩ rfl, ?_⟩
            refine ⟨rfl, rfl, ⟨.inr ⟨_, [.old 13], rfl, rfl, .inl ⟨trivial, do_move rfl⟩⟩, .inl rfl, .inl rfl, .inl rfl, trivial⟩, _, [.op 0, .op 3], _, rfl, rfl, trivial, do_call (fx_texts B x12 x13 s1 (Nat.le_trans hdb1.n1 (by decide))) ⟨rfl, rfl, trivial⟩ enters_28 [3, 1] [0, 2, 4, 5, 6, 7] ⟨rfl, rfl, trivial⟩ ⟨rfl, rfl, rfl, rfl, rfl, rfl, trivial⟩ (R := [_, _, _, _, _, _]) (by decide), ?_⟩
            rintro _ _ ⟨_, ⟨rfl, rfl⟩, rfl⟩
            refine ⟨[some (x12), some (.pointer (some ⟨b2, 1, none⟩)), some (.pointer (some ⟨e, 0, none⟩)), some (x13), some (.bool true), some (.bool false), some (.bool false), some (.pointer (some ⟨b2, 0, none⟩)), some (.pointer (some ⟨d, 0, none⟩)), none, some (.pointer (some ⟨b2, 1, none⟩)), some (.pointer (some ⟨e, 0, none⟩)), none, none, none], more_mk ⟨rfl, rfl, rfl, rfl, trivial⟩ rfl, ?_⟩
            refine ⟨rfl, rfl, ⟨.inl rfl, .inl rfl, .inl rfl, .inl rfl, .inl rfl, .inr ⟨_, [.op 4], rfl, rfl, .inl ⟨trivial, do_not (c := true) rfl⟩⟩, .inr ⟨_, [.op 5], rfl, rfl, .inl ⟨trivial, do_move rfl⟩⟩, .inr ⟨_, [.old 7, .op 6], rfl, rfl, .inl ⟨⟨_, rfl, rfl⟩, do_indexArr (j := 0) (p := 0) und_77 ty_62 (by decide) rfl rfl rfl (by decide) rfl⟩⟩, .inr ⟨_, [.op 6, .op 7], rfl, rfl, .inl ⟨⟨_, rfl, rfl⟩, do_load 5 rfl one_62 rfl rfl⟩⟩, .inr ⟨_, [.old 7, .op 6], rfl, rfl, .inl ⟨⟨_, rfl, rfl⟩, do_indexArr (j := 1) (p := 1) und_77 ty_62 (by decide) rfl rfl rfl (by decide) rfl⟩⟩, .inr ⟨_, [.op 6, .op 10], rfl, rfl, .inl ⟨⟨_, rfl, rfl⟩, do_load 5 rfl one_62 rfl rfl⟩⟩, trivial⟩, _, [.op 6, .op 8], _, rfl, rfl, ⟨_, rfl, rfl⟩, do_call (fu_used B d s1 s1 101 hdb1 (by decide) rfl) ⟨rfl, trivial⟩ enters_39 [3] [0, 1, 2, 4, 5, 6, 7] ⟨rfl, trivial⟩ ⟨rfl, rfl, rfl, rfl, rfl, rfl, rfl, trivial⟩ (R := [_, _, _, _, _, _, _]) (by decide), ?_⟩
            rintro _ _ ⟨_, ⟨rfl, rfl⟩, rfl⟩
            refine ⟨[some (x12), some (.pointer (some ⟨b2, 1, none⟩)), some (.pointer (some ⟨e, 0, none⟩)), some (x13), some (.bool true), some (.bool false), some (.bool false), some (.pointer (some ⟨b2, 0, none⟩)), some (.pointer (some ⟨d, 0, none⟩)), some (.int .i64 ((usedS s1 : Nat) : Int)), some (.pointer (some ⟨b2, 1, none⟩)), some (.pointer (some ⟨e, 0, none⟩)), none, none, none], more_mk ⟨rfl, rfl, rfl, rfl, rfl, rfl, rfl, rfl, rfl, rfl, rfl, trivial⟩ rfl, ?_⟩
            refine ⟨rfl, rfl, ⟨.inl rfl, .inl rfl, .inl rfl, .inl rfl, .inl rfl, .inl rfl, .inl rfl, .inl rfl, .inl rfl, .inl rfl, .inr ⟨_, [.old 7, .op 6], rfl, rfl, .inl ⟨⟨_, rfl, rfl⟩, do_indexArr (j := 1) (p := 1) und_77 ty_62 (by decide) rfl rfl rfl (by decide) rfl⟩⟩, .inr ⟨_, [.op 6, .op 10], rfl, rfl, .inl ⟨⟨_, rfl, rfl⟩, do_load 5 rfl one_62 rfl rfl⟩⟩, trivial⟩, _, [.op 6, .op 11], _, rfl, rfl, ⟨_, rfl, rfl⟩, do_call (fu_used B e s2 s1 101 hdb2 (by decide) (bare_used hb).symm) ⟨rfl, trivial⟩ enters_39 [3] [0, 1, 2, 4, 5, 6, 7] ⟨rfl, trivial⟩ ⟨rfl, rfl, rfl, rfl, rfl, rfl, rfl, trivial⟩ (R := [_, _, _, _, _, _, _]) (by decide), ?_⟩
            rintro _ _ ⟨_, ⟨rfl, rfl⟩, rfl⟩
            refine ⟨[some (x12), some (.pointer (some ⟨b2, 1, none⟩)), some (.pointer (some ⟨e, 0, none⟩)), some (x13), some (.bool true), some (.bool false), some (.bool false), some (.pointer (some ⟨b2, 0, none⟩)), some (.pointer (some ⟨d, 0, none⟩)), some (.int .i64 ((usedS s1 : Nat) : Int)), some (.pointer (some ⟨b2, 1, none⟩)), some (.pointer (some ⟨e, 0, none⟩)), some (.int .i64 ((usedS s1 : Nat) : Int)), some (.bool false), some (.bool false)], more_mk ⟨rfl, rfl, rfl, rfl, rfl, rfl, rfl, rfl, rfl, rfl, rfl, rfl, trivial⟩ rfl, ?_⟩
            refine ⟨rfl, ⟨.inl rfl, .inl rfl, .inl rfl, .inl rfl, .inl rfl, .inl rfl, .inl rfl, .inl rfl, .inl rfl, .inl rfl, .inl rfl, .inl rfl, .inl rfl, .inr ⟨_, [.op 6, .op 9, .op 12], rfl, rfl, .inl ⟨⟨_, rfl, rfl⟩, do_cmp (c := false) rfl rfl cmpB_self_neq⟩⟩, .inr ⟨_, [.op 6, .op 13], rfl, rfl, .inl ⟨trivial, do_pickF rfl rfl⟩⟩, trivial⟩, [.op 14, .old 4, .old 7, .old 12, .old 13], [(105, .bool false), (4, .pointer (some ⟨b1, 0, none⟩)), (7, .pointer (some ⟨b2, 0, none⟩)), (12, .int .i64 ((n : Nat) : Int)), (13, x12)], rfl, rfl, ?_⟩
            refine at_then ?_
            refine wc_false rfl ?_
            refine wc_skip ?_
            refine at_then ?_
            refine wc_seq ?_
            refine wc_seq ?_
            refine wc_region ?_
            refine wl_1 trivial rfl (do_assign rfl) ?_
            refine wl_nil ?_
            refine at_then ?_
            refine wc_block ?_
            refine wc_mem (fun w_ h_ => h_.pick (M := [diskA B d s1, diskA B e s2, AnyP, pt b2 (.cells #[.pointer (some ⟨d, 0, none⟩), .pointer (some ⟨e, 0, none⟩)] 77 (0, 0)), pt b1 (.cells #[.int .i64 okd, .string oname, .string oto, .slice oba obs.length obc, .int .i64 on_, .bool oyes, .slice oka okl.length okc] 67 (0, 0)), row 9 1 x12 s1.now.length ((sortB (akeys s1.now)).map .string), F]) [1, 0, 4, 5, 6, 2, 7] ⟨rfl, rfl, rfl, rfl, rfl, rfl, rfl, trivial⟩ (by decide)) ?_
            refine wc_loop (fun (m : Nat) => m ≤ s1.now.length) (fun (m : Nat) => [(4, .pointer (some ⟨b1, 0, none⟩)), (7, .pointer (some ⟨b2, 0, none⟩)), (12, .int .i64 ((n : Nat) : Int)), (13, x12), (14, .int .i64 ((m : Nat) : Int))]) (fun (m : Nat) => [diskA B d s1, diskA B e s2, AnyP, pt b2 (.cells #[.pointer (some ⟨d, 0, none⟩), .pointer (some ⟨e, 0, none⟩)] 77 (0, 0)), pt b1 (.cells #[.int .i64 okd, .string oname, .string oto, .slice oba obs.length obc, .int .i64 on_, .bool oyes, .slice oka okl.length okc] 67 (0, 0)), row 9 1 x12 s1.now.length ((sortB (akeys s1.now)).map .string), F]) (fun (m : Nat) => s1.now.length - m) 0 (Nat.zero_le _) ⟨rfl, rfl, rfl, rfl, rfl, trivial⟩ rfl ?_
            rintro m hphi
            obtain hm := hphi
            show WC _ _ _ _ _ _ _ [(4, .pointer (some ⟨b1, 0, none⟩)), (7, .pointer (some ⟨b2, 0, none⟩)), (12, .int .i64 ((n : Nat) : Int)), (13, x12), (14, .int .i64 ((m : Nat) : Int))] [diskA B d s1, diskA B e s2, AnyP, pt b2 (.cells #[.pointer (some ⟨d, 0, none⟩), .pointer (some ⟨e, 0, none⟩)] 77 (0, 0)), pt b1 (.cells #[.int .i64 okd, .string oname, .string oto, .slice oba obs.length obc, .int .i64 on_, .bool oyes, .slice oka okl.length okc] 67 (0, 0)), row 9 1 x12 s1.now.length ((sortB (akeys s1.now)).map .string), F]
            refine wc_seq ?_
            refine wc_seq ?_
            refine wc_region ?_
            refine wl_1 trivial rfl (do_move rfl) ?_
            refine wl_1 trivial rfl (do_move rfl) ?_
            refine wl_1 trivial rfl (do_lenRow 5 rfl isSlice_39 rfl rfl) ?_
            obtain ⟨c14, h_c14⟩ : ∃ c : Bool, cmpB .lss ((m : Nat) : Int) ((s1.now.length : Nat) : Int) = some c := ⟨_, rfl⟩
            refine wl_1 trivial rfl (do_cmp rfl rfl h_c14) ?_
            refine wl_nil ?_
            refine at_then ?_
            cases c14
            · have p_c14 := cmp_lss_f h_c14
              refine wc_false rfl ?_
              refine wc_exit ?_
              refine at_then_exit ?_
              refine at_then_exit ?_
              refine at_block_it ?_
              refine at_then ?_
              refine wc_seq ?_
              refine wc_region ?_
              refine wl_1 trivial rfl (do_indexArr (j := 0) (p := 0) und_77 ty_62 (by decide) rfl rfl rfl (by decide) rfl) ?_
              refine wl_1 trivial rfl (do_load 3 rfl one_62 rfl rfl) ?_
              refine wl_1 trivial rfl (do_fieldAddr (k := 6) (k' := 6) fo_67_6 rfl (by rfl)) ?_
              refine wl_1 trivial rfl (do_load 4 rfl one_65 rfl rfl) ?_
              refine wl_do trivial rfl (do_call (d_crash B d s1 oka okc okl AnyP 101 (hdb1) (by omega) hRko hkco) ⟨rfl, rfl, trivial⟩ enters_35 [0, 2] [1, 3, 4, 5, 6] ⟨rfl, rfl, trivial⟩ ⟨rfl, rfl, rfl, rfl, rfl, trivial⟩ (R := [_, _, _, _, _]) (by decide)) ?_
              rintro _ _ ⟨_, ⟨rfl, rfl⟩, rfl⟩
              refine wl_nil ?_
              refine at_then ?_
              refine wc_region ?_
              refine wl_1 trivial rfl (do_indexArr (j := 1) (p := 1) und_77 ty_62 (by decide) rfl rfl rfl (by decide) rfl) ?_
              refine wl_1 trivial rfl (do_load 3 rfl one_62 rfl rfl) ?_
              refine wl_1 trivial rfl (do_fieldAddr (k := 6) (k' := 6) fo_67_6 rfl (by rfl)) ?_
              refine wl_1 trivial rfl (do_load 4 rfl one_65 rfl rfl) ?_
              refine wl_do trivial rfl (do_call (d_crash B e s2 oka okc okl AnyP 101 (hdb2) (by omega) hRko hkco) ⟨rfl, rfl, trivial⟩ enters_35 [2, 1] [0, 3, 4, 5, 6] ⟨rfl, rfl, trivial⟩ ⟨rfl, rfl, rfl, rfl, rfl, trivial⟩ (R := [_, _, _, _, _]) (by decide)) ?_
              rintro _ _ ⟨_, ⟨rfl, rfl⟩, rfl⟩
              refine wl_nil ?_
              refine at_block ?_
              refine at_then ?_
              refine wc_region ?_
              refine wl_1 trivial rfl (do_move rfl) ?_
              refine wl_1 trivial rfl (do_add (r := ((n + 1 : Nat) : Int)) rfl rfl (wrap_nat (by omega) (by omega))) ?_
              refine wl_1 trivial rfl (do_assign rfl) ?_
              refine wl_nil ?_
              refine at_pick (M := [_, _, _, _, _, _]) [2, 0, 1, 3, 4, 6] ⟨rfl, rfl, rfl, rfl, rfl, rfl, trivial⟩ (by decide) ?_
              exact at_round (n + 1, (crashS okl s1), (crashS okl s2)) ⟨bare_crash hb _, hdb1.crash _, hdb2.crash _, by omega⟩ (by show 2 - (n + 1) < 2 - n; omega) ⟨rfl, rfl, rfl, trivial⟩ rfl
            · have p_c14 := cmp_lss_t h_c14
              refine wc_true rfl ?_
              refine wc_skip ?_
              refine at_then ?_
              refine wc_seq ?_
              refine wc_block ?_
              refine wc_seq ?_
              refine wc_fact 5 rfl (row_some (by omega)) ?_
              rintro ⟨g15, cap16, rfl⟩
              obtain ⟨y17, hy18⟩ : ∃ y, (sortB (akeys s1.now))[m]? = some y := ⟨_, List.getElem?_eq_getElem (by omega)⟩
              refine wc_draw [[], [0], [], [], [2, 3], [2, 3, 4], [0, 1, 2, 3, 4, 5], [0, 1, 2, 3, 4, 5, 6], [0, 1, 2, 3, 4, 5, 6, 7], [0, 1, 2, 3, 4, 5, 6, 7], [0, 1, 2, 3, 4, 5, 6, 7, 8], [0, 1, 2, 3, 4, 5, 6, 7, 8, 9, 10]] [some (.pointer (some ⟨b2, 0, none⟩)), some (.pointer (some ⟨d, 0, none⟩)), some (.slice (some ⟨g15, 0, none⟩) s1.now.length cap16), some (.int .i64 ((m : Nat) : Int)), some (.pointer (some ⟨g15, m, none⟩)), some (.string y17), none, none, none, none, none, none] [6] mixed (by kernel_rfl) (by decide) ⟨rfl, rfl, ⟨.inr ⟨_, [.old 7], rfl, rfl, .inl ⟨trivial, do_indexArr (j := 0) (p := 0) und_77 ty_62 (by decide) rfl rfl rfl (by decide) rfl⟩⟩, .inr ⟨_, [.op 0], rfl, rfl, .inl ⟨trivial, do_load 3 rfl one_62 rfl rfl⟩⟩, .inr ⟨_, [.old 13], rfl, rfl, .inl ⟨trivial, do_move rfl⟩⟩, .inr ⟨_, [.old 14], rfl, rfl, .inl ⟨trivial, do_move rfl⟩⟩, .inr ⟨_, [.op 2, .op 3], rfl, rfl, .inl ⟨trivial, do_indexAddr (j := m) (p := m) und_39 ty_9 rfl rfl rfl (by omega) (by omega)⟩⟩, .inr ⟨_, [.op 4], rfl, rfl, .inl ⟨trivial, do_loadR (j := m) 5 rfl one_9 rfl row_R (by omega) (str_at hy18)⟩⟩, trivial⟩, _, [.op 1, .op 5], _, rfl, rfl, trivial, do_call (fr_read B d s1 s1 y17 101 hdb1 (by decide) rfl (read_has hb.2.2.2.2.2.1 hy18)) ⟨rfl, rfl, trivial⟩ enters_34 [0] [1, 2, 3, 4, 5, 6] ⟨rfl, trivial⟩ ⟨rfl, rfl, rfl, rfl, rfl, rfl, trivial⟩ (R := [_, _, _, _, _, _]) (by decide), ?_⟩
              rintro _ _ ⟨_, ⟨x19, rfl, rfl⟩, rfl⟩
              refine ⟨[some (.pointer (some ⟨b2, 0, none⟩)), some (.pointer (some ⟨d, 0, none⟩)), some (.slice (some ⟨g15, 0, none⟩) s1.now.length cap16), some (.int .i64 ((m : Nat) : Int)), some (.pointer (some ⟨g15, m, none⟩)), some (.string y17), some (.tuple #[x19, .int .i64 0]), some (.tuple #[x19, .int .i64 0]), some (x19), some (.int .i64 0), some (x19), some (.int .i64 0)], more_mk ⟨rfl, rfl, rfl, rfl, rfl, rfl, trivial⟩ rfl, ?_⟩
              refine ⟨rfl, ⟨.inl rfl, .inl rfl, .inl rfl, .inl rfl, .inl rfl, .inl rfl, .inl rfl, .inr ⟨_, [.op 6], rfl, rfl, .inl ⟨trivial, do_move rfl⟩⟩, .inr ⟨_, [.op 7], rfl, rfl, .inl ⟨trivial, do_extract rfl rfl⟩⟩, .inr ⟨_, [.op 7], rfl, rfl, .inl ⟨trivial, do_extract rfl rfl⟩⟩, .inr ⟨_, [.op 8], rfl, rfl, .inl ⟨trivial, do_assign rfl⟩⟩, .inr ⟨_, [.op 9], rfl, rfl, .inl ⟨trivial, do_assign rfl⟩⟩, trivial⟩, [.op 10, .op 11, .old 4, .old 7, .old 12, .old 13, .old 14], [(15, x19), (16, .int .i64 0), (4, .pointer (some ⟨b1, 0, none⟩)), (7, .pointer (some ⟨b2, 0, none⟩)), (12, .int .i64 ((n : Nat) : Int)), (13, .slice (some ⟨g15, 0, none⟩) s1.now.length cap16), (14, .int .i64 ((m : Nat) : Int))], rfl, rfl, ?_⟩
              refine at_then ?_
              refine wc_seq ?_
              refine wc_draw [[], [0], [], [], [2, 3], [2, 3, 4], [0, 1, 2, 3, 4, 5], [0, 1, 2, 3, 4, 5, 6], [0, 1, 2, 3, 4, 5, 6, 7], [0, 1, 2, 3, 4, 5, 6, 7], [0, 1, 2, 3, 4, 5, 6, 7, 8], [0, 1, 2, 3, 4, 5, 6, 7, 8, 9, 10]] [some (.pointer (some ⟨b2, 1, none⟩)), some (.pointer (some ⟨e, 0, none⟩)), some (.slice (some ⟨g15, 0, none⟩) s1.now.length cap16), some (.int .i64 ((m : Nat) : Int)), some (.pointer (some ⟨g15, m, none⟩)), some (.string y17), none, none, none, none, none, none] [6] mixed (by kernel_rfl) (by decide) ⟨rfl, rfl, ⟨.inr ⟨_, [.old 7], rfl, rfl, .inl ⟨trivial, do_indexArr (j := 1) (p := 1) und_77 ty_62 (by decide) rfl rfl rfl (by decide) rfl⟩⟩, .inr ⟨_, [.op 0], rfl, rfl, .inl ⟨trivial, do_load 4 rfl one_62 rfl rfl⟩⟩, .inr ⟨_, [.old 13], rfl, rfl, .inl ⟨trivial, do_move rfl⟩⟩, .inr ⟨_, [.old 14], rfl, rfl, .inl ⟨trivial, do_move rfl⟩⟩, .inr ⟨_, [.op 2, .op 3], rfl, rfl, .inl ⟨trivial, do_indexAddr (j := m) (p := m) und_39 ty_9 rfl rfl rfl (by omega) (by omega)⟩⟩, .inr ⟨_, [.op 4], rfl, rfl, .inl ⟨trivial, do_loadR (j := m) 6 rfl one_9 rfl row_R (by omega) (str_at hy18)⟩⟩, trivial⟩, _, [.op 1, .op 5], _, rfl, rfl, trivial, do_call (fr_read B e s2 s1 y17 101 hdb2 (by decide) (bare_read hb y17).symm (read_has hb.2.2.2.2.2.1 hy18)) ⟨rfl, rfl, trivial⟩ enters_34 [2] [0, 1, 3, 4, 5, 6, 7] ⟨rfl, trivial⟩ ⟨rfl, rfl, rfl, rfl, rfl, rfl, rfl, trivial⟩ (R := [_, _, _, _, _, _, _]) (by decide), ?_⟩
              rintro _ _ ⟨_, ⟨x20, rfl, rfl⟩, rfl⟩
              refine ⟨[some (.pointer (some ⟨b2, 1, none⟩)), some (.pointer (some ⟨e, 0, none⟩)), some (.slice (some ⟨g15, 0, none⟩) s1.now.length cap16), some (.int .i64 ((m : Nat) : Int)), some (.pointer (some ⟨g15, m, none⟩)), some (.string y17), some (.tuple #[x20, .int .i64 0]), some (.tuple #[x20, .int .i64 0]), some (x20), some (.int .i64 0), some (x20), some (.int .i64 0)], more_mk ⟨rfl, rfl, rfl, rfl, rfl, rfl, trivial⟩ rfl, ?_⟩
              refine ⟨rfl, ⟨.inl rfl, .inl rfl, .inl rfl, .inl rfl, .inl rfl, .inl rfl, .inl rfl, .inr ⟨_, [.op 6], rfl, rfl, .inl ⟨trivial, do_move rfl⟩⟩, .inr ⟨_, [.op 7], rfl, rfl, .inl ⟨trivial, do_extract rfl rfl⟩⟩, .inr ⟨_, [.op 7], rfl, rfl, .inl ⟨trivial, do_extract rfl rfl⟩⟩, .inr ⟨_, [.op 8], rfl, rfl, .inl ⟨trivial, do_assign rfl⟩⟩, .inr ⟨_, [.op 9], rfl, rfl, .inl ⟨trivial, do_assign rfl⟩⟩, trivial⟩, [.op 10, .op 11, .old 4, .old 7, .old 12, .old 13, .old 14, .old 15, .old 16], [(17, x20), (18, .int .i64 0), (4, .pointer (some ⟨b1, 0, none⟩)), (7, .pointer (some ⟨b2, 0, none⟩)), (12, .int .i64 ((n : Nat) : Int)), (13, .slice (some ⟨g15, 0, none⟩) s1.now.length cap16), (14, .int .i64 ((m : Nat) : Int)), (15, x19), (16, .int .i64 0)], rfl, rfl, ?_⟩
              refine at_then ?_
              refine wc_seq ?_
              refine wc_region ?_
              refine wl_1 trivial rfl (do_move rfl) ?_
              refine wl_do trivial rfl (do_call (num_tri B 0) ⟨rfl, trivial⟩ enters_30 [] [0, 1, 2, 3, 4, 5, 6, 7, 8] trivial ⟨rfl, rfl, rfl, rfl, rfl, rfl, rfl, rfl, rfl, trivial⟩ (R := [_, _, _, _, _, _, _, _, _]) (by decide)) ?_
              rintro _ _ ⟨_, ⟨rfl, rfl⟩, rfl⟩
              refine wl_1 trivial rfl (do_move rfl) ?_
              refine wl_do trivial rfl (do_call (num_tri B 0) ⟨rfl, trivial⟩ enters_30 [] [0, 1, 2, 3, 4, 5, 6, 7, 8] trivial ⟨rfl, rfl, rfl, rfl, rfl, rfl, rfl, rfl, rfl, trivial⟩ (R := [_, _, _, _, _, _, _, _, _]) (by decide)) ?_
              rintro _ _ ⟨_, ⟨rfl, rfl⟩, rfl⟩
              refine wl_1 trivial rfl (do_add (r := 0) rfl rfl rfl) ?_
              refine wl_1 trivial rfl (do_cmp (c := false) rfl rfl rfl) ?_
              refine wl_1 trivial rfl (do_move rfl) ?_
              refine wl_1 ⟨_, rfl, rfl⟩ rfl (do_move rfl) ?_
              refine wl_1 ⟨_, rfl, rfl⟩ rfl (do_convBS (R := row 5 1 x19 ((readS y17 s1).2.length) (byv (readS y17 s1).2)) (bs := ((readS y17 s1).2)) 3 und_32 und_5 und_9 rfl rfl row_R) ?_
              refine wl_1 ⟨_, rfl, rfl⟩ rfl (do_move rfl) ?_
              refine wl_1 ⟨_, rfl, rfl⟩ rfl (do_convBS (R := row 5 1 x20 ((readS y17 s1).2.length) (byv (readS y17 s1).2)) (bs := ((readS y17 s1).2)) 1 und_32 und_5 und_9 rfl rfl row_R) ?_
              refine wl_1 ⟨_, rfl, rfl⟩ rfl (do_strcmp rfl rfl (str_same_neq _)) ?_
              refine wl_1 trivial rfl (do_pickF rfl rfl) ?_
              refine wl_nil ?_
              refine at_then ?_
              refine wc_false rfl ?_
              refine wc_skip ?_
              refine at_block ?_
              refine at_then ?_
              refine wc_region ?_
              refine wl_1 trivial rfl (do_move rfl) ?_
              refine wl_1 trivial rfl (do_add (r := ((m + 1 : Nat) : Int)) rfl rfl (wrap_nat (by omega) (by omega))) ?_
              refine wl_1 trivial rfl (do_assign rfl) ?_
              refine wl_nil ?_
              refine at_pick (M := [_, _, _, _, _, _, _]) [2, 0, 4, 5, 6, 7, 8] ⟨rfl, rfl, rfl, rfl, rfl, rfl, rfl, trivial⟩ (by decide) ?_
              exact at_round (m + 1) (by omega) (by omega) ⟨rfl, rfl, rfl, rfl, rfl, trivial⟩ rfl
        · have p_c10 := cmp_gtr_t h_c10
          refine wc_true rfl ?_
          refine wc_seq ?_
          refine wc_region ?_
          refine wl_1 trivial rfl (do_assign rfl) ?_
          refine wl_nil ?_
          refine at_then ?_
          refine wc_ret ?_
          refine at_then_ret ?_
          refine at_pick (M := [_, _]) [2, 5] ⟨rfl, rfl, trivial⟩ (by decide) ?_
          exact at_ret1 (M := [_]) rfl rfl ⟨rfl, rfl⟩ rfl
      · have p_c9 := cmp_lss_t h_c9
        refine wl_no rfl rfl rfl rfl rfl ?_
        refine wl_no rfl rfl rfl rfl rfl ?_
        refine wl_no rfl rfl rfl rfl rfl ?_
        refine wl_1 trivial rfl (do_pickT rfl rfl) ?_
        refine wl_nil ?_
        refine at_then ?_
        refine wc_true rfl ?_
        refine wc_seq ?_
        refine wc_region ?_
        refine wl_1 trivial rfl (do_assign rfl) ?_
        refine wl_nil ?_
        refine at_then ?_
        refine wc_ret ?_
        refine at_then_ret ?_
        refine at_pick (M := [_, _]) [2, 5] ⟨rfl, rfl, trivial⟩ (by decide) ?_
        exact at_ret1 (M := [_]) rfl rfl ⟨rfl, rfl⟩ rfl
end Go.Proofs.Ytmefejfnddcelaa
