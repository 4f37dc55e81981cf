/- Printed by a program of this claim's: what each of these functions of the program does, as its theorem says. No condition but what stands in each theorem. -/
import Derived.Test.YtmefejfnddcelaaDp
namespace Go.Proofs.Ytmefejfnddcelaa
open Go.ChangeShapes Go.WideShapes Go.ChangeAt
theorem isSlice_61 : isSlice Try.prog 61 = true := by kernel_rfl
theorem und_61 : Try.prog.underlying 61 = some (.slice 67) := by kernel_rfl
theorem ty_67 : tyOk Try.prog 67 7 104 (.agg #[.int .i64 0, .string ⟨#[]⟩, .string ⟨#[]⟩, .slice none 0 0, .int .i64 0, .bool false, .slice none 0 0]) := ty_mk (by kernel_rfl) rfl
theorem agg_67 : aggOk Try.prog 67 7 = true := by kernel_rfl
theorem zero_67 : zeroOk Try.prog 67 (.agg #[.int .i64 0, .string ⟨#[]⟩, .string ⟨#[]⟩, .slice none 0 0, .int .i64 0, .bool false, .slice none 0 0]) := zero_mk (by kernel_rfl)
theorem enters_32 : Enters Try.prog 32 := enters_of Try.func32 (by kernel_rfl) (by kernel_rfl)
theorem d_newq (B : Ctx) : Tri Try.prog B 29 #[.int .i64 1048576] [] (fun u M => ∃ d, u = .tuple #[.pointer (some ⟨d, 0, none⟩), .int .i64 0] ∧ M = [diskA B d qD]) := d_new B 1048576 (by decide) (by decide)
theorem su_t1 (B : Ctx) (d : Nat) : Tri Try.prog B 40 #[.pointer (some ⟨d, 0, none⟩), .string kS] [diskA B d qD] (fun u M => u = .int .i64 0 ∧ M = [diskA B d su1]) := by
  have h := d_create B d qD kS 0 su_b0 (by decide) (by decide); rw [se1] at h; exact h
theorem su_t2 (B : Ctx) (d : Nat) (ba : Option Addr) (bc : Nat) (b : List UInt8) (hbl : b.length ≤ 1000) (hR : Rd B AnyP 1 (.slice ba b.length bc) b.length (byv b)) : Tri Try.prog B 41 #[.pointer (some ⟨d, 0, none⟩), .string kS, .slice ba b.length bc] [diskA B d su1, AnyP] (fun u M => u = .int .i64 0 ∧ M = [diskA B d (su2 b), AnyP]) := by
  have h := d_append B d su1 kS ba bc b AnyP 1 su_b1 (by decide) hR (by omega); rw [se2 hbl] at h; exact h
theorem su_t3 (B : Ctx) (d : Nat) (b : List UInt8) (hbl : b.length ≤ 1000) : Tri Try.prog B 44 #[.pointer (some ⟨d, 0, none⟩), .string kS] [diskA B d (su2 b)] (fun u M => u = .int .i64 0 ∧ M = [diskA B d (su3 b)]) := by
  have h := d_sync B d (su2 b) kS 2 (su_b2 hbl) (by decide); rw [se3] at h; exact h
theorem su_t4 (B : Ctx) (d : Nat) (b : List UInt8) (hbl : b.length ≤ 1000) : Tri Try.prog B 45 #[.pointer (some ⟨d, 0, none⟩)] [diskA B d (su3 b)] (fun u M => u = .int .i64 0 ∧ M = [diskA B d (su4 b)]) := by
  have h := d_syncdir B d (su3 b) 3 (su_b3 hbl) (by decide); rw [se4] at h; exact h
theorem su_t5 (B : Ctx) (d : Nat) (b : List UInt8) (s : DS) (ks : List Bool) (N : Nat) (h : SI kS 0 b s) (hdb : DB s N) (hN : N ≤ 1000000) : Tri Try.prog B 34 #[.pointer (some ⟨d, 0, none⟩), .string kS] [diskA B d (crashS ks s)] (fun u M => ∃ x, u = .tuple #[x, .int .i64 0] ∧ M = [diskA B d (crashS ks s), row 5 1 x b.length (byv b)]) := by
  have h1 := d_read B d (crashS ks s) kS N (hdb.crash ks) hN; rw [h.crash ks] at h1; exact h1
theorem su_t6 (B : Ctx) (d : Nat) (s : DS) (ks : List Bool) : Tri Try.prog B 47 #[.pointer (some ⟨d, 0, none⟩)] [diskA B d (crashS ks s)] (fun u M => u = .bool false ∧ M = [diskA B d (crashS ks s)]) := d_down B d (crashS ks s)

set_option maxRecDepth 100000 in
set_option maxHeartbeats 8000000 in
theorem sure_short (B : Ctx) (a0 : Option Addr) (cap0 b0 off0 : Nat) (ops : List OpD) (ka : Option Addr) (kc : Nat) (ks : List Bool) (bx : Option Addr) (by_ : Nat) (bb : List UInt8) (W : World) (hrd : ∀ v n xs, inSl W v n xs → Rd B AnyP 1 v n xs) (hops : ∀ (j : Nat) (o : OpD), ops[j]? = some o → a0 = some ⟨b0, off0, none⟩ ∧ o.Ok W ∧ ∀ (i : Nat) (u : Value), o.cells[i]? = some u → B.cell ⟨b0, off0 + j * 7 + i, none⟩ u) (hRk : Rd B AnyP 1 (.slice ka ks.length kc) ks.length (ks.map .bool)) (hkc : ks.length ≤ kc) (hRb0 : Rd B AnyP 1 (.slice bx bb.length by_) bb.length (byv bb)) (hlb : bb.length ≤ 1000) (hcb : bb.length ≤ by_) :
    Tri Try.prog B 11 #[.slice bx bb.length by_, .slice a0 ops.length cap0, .slice ka ks.length kc] [AnyP] (fun u M => u = .bool true ∧ M = [AnyP]) := by
  refine tri_body (n := 98) Try.func11 rfl rfl rfl ?_
  intro F
  show WC _ _ _ _ _ _ _ [(0, .slice bx bb.length by_), (1, .slice a0 ops.length cap0), (2, .slice ka ks.length kc)] [AnyP, F]
  refine wc_seq ?_
  refine wc_region ?_
  refine wl_1 trivial rfl (do_assign rfl) ?_
  refine wl_nil ?_
  refine at_then ?_
  refine wc_seq ?_
  refine wc_region ?_
  refine wl_do trivial rfl (do_call (d_newq B) ⟨rfl, trivial⟩ enters_29 [] [0, 1] trivial ⟨rfl, rfl, trivial⟩ (R := [_, _]) (by decide)) ?_
  rintro _ _ ⟨_, ⟨d, rfl, rfl⟩, rfl⟩
  refine wl_1 trivial rfl (do_move rfl) ?_
  refine wl_1 trivial rfl (do_extract rfl rfl) ?_
  refine wl_1 trivial rfl (do_extract rfl rfl) ?_
  refine wl_1 trivial rfl (do_assign rfl) ?_
  refine wl_1 trivial rfl (do_assign rfl) ?_
  refine wl_nil ?_
  refine at_then ?_
  refine wc_seq ?_
  refine wc_seq ?_
  refine wc_region ?_
  refine wl_1 trivial rfl (do_move rfl) ?_
  refine wl_do trivial rfl (do_call (num_tri B 0) ⟨rfl, trivial⟩ enters_30 [] [0, 1, 2] trivial ⟨rfl, rfl, rfl, trivial⟩ (R := [_, _, _]) (by decide)) ?_
  rintro _ _ ⟨_, ⟨rfl, rfl⟩, rfl⟩
  refine wl_1 trivial rfl (do_cmp (c := false) rfl rfl rfl) ?_
  refine wl_1 trivial rfl (do_move rfl) ?_
  refine wl_1 ⟨_, rfl, rfl⟩ rfl (do_move rfl) ?_
  refine wl_1 ⟨_, rfl, rfl⟩ rfl (do_eqPtr isPtr_62 rfl rfl (.inr rfl)) ?_
  refine wl_1 trivial rfl (do_pickF rfl rfl) ?_
  refine wl_1 trivial rfl (do_move rfl) ?_
  refine wl_do ⟨_, rfl, rfl⟩ rfl (do_call (knows_tri B) trivial enters_31 [] [0, 1, 2] trivial ⟨rfl, rfl, rfl, trivial⟩ (R := [_, _, _]) (by decide)) ?_
  rintro _ _ ⟨_, ⟨rfl, rfl⟩, rfl⟩
  refine wl_1 ⟨_, rfl, rfl⟩ rfl (do_not (c := true) rfl) ?_
  refine wl_1 trivial rfl (do_pickF rfl rfl) ?_
  refine wl_nil ?_
  refine at_then ?_
  refine wc_false rfl ?_
  refine wc_skip ?_
  refine at_then ?_
  refine wc_seq_mid (fun (z_ : Value × List UInt8) => match z_ with | (bv, b) => b.length ≤ 1000 ∧ Rd B AnyP 1 bv b.length (byv b) ∧ ∃ a c, bv = .slice a b.length c) (fun (z_ : Value × List UInt8) => match z_ with | (bv, b) => [(0, bv), (1, .slice a0 ops.length cap0), (2, .slice ka ks.length kc), (6, .bool false), (7, .pointer (some ⟨d, 0, none⟩))]) (fun (z_ : Value × List UInt8) => match z_ with | (bv, b) => [diskA B d qD, AnyP, F]) ?_ ?_
  · refine wc_seq ?_
    refine wc_region ?_
    refine wl_1 trivial rfl (do_move rfl) ?_
    refine wl_1 trivial rfl (do_lenSlice rfl isSlice_32 rfl) ?_
    obtain ⟨c1, h_c1⟩ : ∃ c : Bool, cmpB .gtr ((bb.length : Nat) : Int) 1000 = some c := ⟨_, rfl⟩
    refine wl_1 trivial rfl (do_cmp rfl rfl h_c1) ?_
    refine wl_nil ?_
    refine at_then ?_
    cases c1
    · have p_c1 := cmp_gtr_f h_c1
      refine wc_false rfl ?_
      refine wc_skip ?_
      exact at_mid (.slice bx bb.length by_, bb) ⟨by omega, hRb0, _, _, rfl⟩ ⟨rfl, rfl, rfl, rfl, rfl, trivial⟩ rfl
    · have p_c1 := cmp_gtr_t h_c1
      exfalso; omega
  · rintro ⟨bv, b⟩ hphi
    obtain ⟨hbl, hR1, ba1, bc1, hbv⟩ := hphi
    show WC _ _ _ _ _ _ _ [(0, bv), (1, .slice a0 ops.length cap0), (2, .slice ka ks.length kc), (6, .bool false), (7, .pointer (some ⟨d, 0, none⟩))] [diskA B d qD, AnyP, F]
    subst hbv
    refine wc_seq ?_
    refine wc_seq ?_
    refine wc_region ?_
    refine wl_1 trivial rfl (do_move rfl) ?_
    refine wl_do trivial rfl (do_call (su_t1 B d) ⟨rfl, rfl, trivial⟩ enters_40 [0] [1, 2] ⟨rfl, trivial⟩ ⟨rfl, rfl, trivial⟩ (R := [_, _]) (by decide)) ?_
    rintro _ _ ⟨_, ⟨rfl, rfl⟩, rfl⟩
    refine wl_do trivial rfl (do_call (num_tri B 0) ⟨rfl, trivial⟩ enters_30 [] [0, 1, 2] trivial ⟨rfl, rfl, rfl, trivial⟩ (R := [_, _, _]) (by decide)) ?_
    rintro _ _ ⟨_, ⟨rfl, rfl⟩, rfl⟩
    refine wl_1 trivial rfl (do_move rfl) ?_
    refine wl_1 trivial rfl (do_move rfl) ?_
    refine wl_do trivial rfl (do_call (su_t2 B d ba1 bc1 b hbl hR1) ⟨rfl, rfl, rfl, trivial⟩ enters_41 [0, 1] [2] ⟨rfl, rfl, trivial⟩ ⟨rfl, trivial⟩ (R := [_]) (by decide)) ?_
    rintro _ _ ⟨_, ⟨rfl, rfl⟩, rfl⟩
    refine wl_do trivial rfl (do_call (num_tri B 0) ⟨rfl, trivial⟩ enters_30 [] [0, 1, 2] trivial ⟨rfl, rfl, rfl, trivial⟩ (R := [_, _, _]) (by decide)) ?_
    rintro _ _ ⟨_, ⟨rfl, rfl⟩, rfl⟩
    refine wl_1 trivial rfl (do_add (r := 0) rfl rfl rfl) ?_
    refine wl_1 trivial rfl (do_move rfl) ?_
    refine wl_do trivial rfl (do_call (su_t3 B d b hbl) ⟨rfl, rfl, trivial⟩ enters_44 [0] [1, 2] ⟨rfl, trivial⟩ ⟨rfl, rfl, trivial⟩ (R := [_, _]) (by decide)) ?_
    rintro _ _ ⟨_, ⟨rfl, rfl⟩, rfl⟩
    refine wl_do trivial rfl (do_call (num_tri B 0) ⟨rfl, trivial⟩ enters_30 [] [0, 1, 2] trivial ⟨rfl, rfl, rfl, trivial⟩ (R := [_, _, _]) (by decide)) ?_
    rintro _ _ ⟨_, ⟨rfl, rfl⟩, rfl⟩
    refine wl_1 trivial rfl (do_add (r := 0) rfl rfl rfl) ?_
    refine wl_1 trivial rfl (do_move rfl) ?_
    refine wl_do trivial rfl (do_call (su_t4 B d b hbl) ⟨rfl, trivial⟩ enters_45 [0] [1, 2] ⟨rfl, trivial⟩ ⟨rfl, rfl, trivial⟩ (R := [_, _]) (by decide)) ?_
    rintro _ _ ⟨_, ⟨rfl, rfl⟩, rfl⟩
    refine wl_do trivial rfl (do_call (num_tri B 0) ⟨rfl, trivial⟩ enters_30 [] [0, 1, 2] trivial ⟨rfl, rfl, rfl, trivial⟩ (R := [_, _, _]) (by decide)) ?_
    rintro _ _ ⟨_, ⟨rfl, rfl⟩, rfl⟩
    refine wl_1 trivial rfl (do_add (r := 0) rfl rfl rfl) ?_
    refine wl_1 trivial rfl (do_cmp (c := false) rfl rfl rfl) ?_
    refine wl_nil ?_
    refine at_then ?_
    refine wc_false rfl ?_
    refine wc_skip ?_
    refine at_then ?_
    refine wc_seq ?_
    refine wc_seq ?_
    refine wc_region ?_
    refine wl_1 trivial rfl (do_assign rfl) ?_
    refine wl_nil ?_
    refine at_then ?_
    refine wc_block ?_
    refine wc_loop (fun (z_ : Nat × DS) => match z_ with | (i, s) => DB s (i + 4) ∧ i ≤ 200 ∧ SI kS 0 b s) (fun (z_ : Nat × DS) => match z_ with | (i, s) => [(0, .slice ba1 b.length bc1), (1, .slice a0 ops.length cap0), (2, .slice ka ks.length kc), (6, .bool false), (7, .pointer (some ⟨d, 0, none⟩)), (9, .int .i64 ((i : Nat) : Int))]) (fun (z_ : Nat × DS) => match z_ with | (i, s) => [diskA B d s, AnyP, F]) (fun (z_ : Nat × DS) => match z_ with | (i, s) => 200 - i) (0, (su4 b)) ⟨su_b4 hbl, by omega, su_i b⟩ ⟨rfl, rfl, rfl, rfl, rfl, rfl, trivial⟩ rfl ?_
    rintro ⟨i, s⟩ hphi
    obtain ⟨hdb, hi, hsi⟩ := hphi
    show WC _ _ _ _ _ _ _ [(0, .slice ba1 b.length bc1), (1, .slice a0 ops.length cap0), (2, .slice ka ks.length kc), (6, .bool false), (7, .pointer (some ⟨d, 0, none⟩)), (9, .int .i64 ((i : Nat) : Int))] [diskA B d s, AnyP, F]
    refine wc_seq ?_
    refine wc_seq ?_
    refine wc_region ?_
    refine wl_1 trivial rfl (do_move rfl) ?_
    refine wl_1 trivial rfl (do_move rfl) ?_
    refine wl_1 trivial rfl (do_lenSlice rfl isSlice_61 rfl) ?_
    obtain ⟨c2, h_c2⟩ : ∃ c : Bool, cmpB .lss ((i : Nat) : Int) ((ops.length : Nat) : Int) = some c := ⟨_, rfl⟩
    refine wl_1 trivial rfl (do_cmp rfl rfl h_c2) ?_
    refine wl_1 trivial rfl (do_move rfl) ?_
    cases c2
    · have p_c2 := cmp_lss_f h_c2
      refine wl_no rfl rfl rfl rfl rfl ?_
      refine wl_no rfl rfl rfl rfl rfl ?_
      refine wl_1 trivial rfl (do_pickF rfl rfl) ?_
      refine wl_nil ?_
      refine at_then ?_
      refine wc_false rfl ?_
      refine wc_exit ?_
      refine at_then_exit ?_
      refine at_then_exit ?_
      refine at_block_it ?_
      refine at_then ?_
      refine wc_seq ?_
      refine wc_region ?_
      refine wl_1 trivial rfl (do_move rfl) ?_
      refine wl_1 trivial rfl (do_move rfl) ?_
      refine wl_do trivial rfl (do_call (d_crash B d s ka kc ks AnyP (i + 4) (hdb) (by omega) hRk hkc) ⟨rfl, rfl, trivial⟩ enters_35 [0, 1] [2] ⟨rfl, rfl, trivial⟩ ⟨rfl, trivial⟩ (R := [_]) (by decide)) ?_
      rintro _ _ ⟨_, ⟨rfl, rfl⟩, rfl⟩
      refine wl_nil ?_
      refine at_then ?_
      refine wc_seq ?_
      refine wc_region ?_
      refine wl_1 trivial rfl (do_move rfl) ?_
      refine wl_do trivial rfl (do_call (su_t5 B d b s ks (i + 4) hsi hdb (by omega)) ⟨rfl, rfl, trivial⟩ enters_34 [0] [1, 2] ⟨rfl, trivial⟩ ⟨rfl, rfl, trivial⟩ (R := [_, _]) (by decide)) ?_
      rintro _ _ ⟨_, ⟨x3, rfl, rfl⟩, rfl⟩
      refine wl_1 trivial rfl (do_move rfl) ?_
      refine wl_1 trivial rfl (do_extract rfl rfl) ?_
      refine wl_1 trivial rfl (do_extract rfl rfl) ?_
      refine wl_1 trivial rfl (do_assign rfl) ?_
      refine wl_1 trivial rfl (do_assign rfl) ?_
      refine wl_nil ?_
      refine at_then ?_
      refine wc_seq ?_
      refine wc_region ?_
      refine wl_1 trivial rfl (do_move rfl) ?_
      refine wl_do trivial rfl (do_call (num_tri B 0) ⟨rfl, trivial⟩ enters_30 [] [0, 1, 2, 3] trivial ⟨rfl, rfl, rfl, rfl, trivial⟩ (R := [_, _, _, _]) (by decide)) ?_
      rintro _ _ ⟨_, ⟨rfl, rfl⟩, rfl⟩
      refine wl_1 trivial rfl (do_cmp (c := true) rfl rfl rfl) ?_
      refine wl_1 trivial rfl (do_move rfl) ?_
      refine wl_1 ⟨_, rfl, rfl⟩ rfl (do_move rfl) ?_
      refine wl_1 ⟨_, rfl, rfl⟩ rfl (do_convBS (R := row 5 1 x3 b.length (byv b)) (bs := b) 1 und_32 und_5 und_9 rfl rfl row_R) ?_
      refine wl_1 ⟨_, rfl, rfl⟩ rfl (do_move rfl) ?_
      refine wl_1 ⟨_, rfl, rfl⟩ rfl (do_convBS (R := AnyP) (bs := b) 2 und_32 und_5 und_9 rfl rfl hR1) ?_
      refine wl_1 ⟨_, rfl, rfl⟩ rfl (do_strcmp rfl rfl (str_same_eql _)) ?_
      refine wl_1 trivial rfl (do_pickT rfl rfl) ?_
      refine wl_1 trivial rfl (do_move rfl) ?_
      refine wl_1 ⟨_, rfl, rfl⟩ rfl (do_move rfl) ?_
      refine wl_do ⟨_, rfl, rfl⟩ rfl (do_call (su_t6 B d s ks) ⟨rfl, trivial⟩ enters_47 [0] [1, 2, 3] ⟨rfl, trivial⟩ ⟨rfl, rfl, rfl, trivial⟩ (R := [_, _, _]) (by decide)) ?_
      rintro _ _ ⟨_, ⟨rfl, rfl⟩, rfl⟩
      refine wl_1 ⟨_, rfl, rfl⟩ rfl (do_not (c := false) rfl) ?_
      refine wl_1 trivial rfl (do_pickT rfl rfl) ?_
      refine wl_1 trivial rfl (do_assign rfl) ?_
      refine wl_nil ?_
      refine at_then ?_
      refine wc_ret ?_
      refine at_pick (M := [_, _]) [2, 3] ⟨rfl, rfl, trivial⟩ (by decide) ?_
      exact at_ret1 (M := [_]) rfl rfl ⟨rfl, rfl⟩ rfl
    · have p_c2 := cmp_lss_t h_c2
      refine wl_1 ⟨_, rfl, rfl⟩ rfl (do_move rfl) ?_
      obtain ⟨c4, h_c4⟩ : ∃ c : Bool, cmpB .lss ((i : Nat) : Int) 200 = some c := ⟨_, rfl⟩
      refine wl_1 ⟨_, rfl, rfl⟩ rfl (do_cmp rfl rfl h_c4) ?_
      refine wl_1 trivial rfl (do_pickT rfl rfl) ?_
      refine wl_nil ?_
      refine at_then ?_
      cases c4
      · have p_c4 := cmp_lss_f h_c4
        refine wc_false rfl ?_
        refine wc_exit ?_
        refine at_then_exit ?_
        refine at_then_exit ?_
        refine at_block_it ?_
        refine at_then ?_
        refine wc_seq ?_
        refine wc_region ?_
        refine wl_1 trivial rfl (do_move rfl) ?_
        refine wl_1 trivial rfl (do_move rfl) ?_
        refine wl_do trivial rfl (do_call (d_crash B d s ka kc ks AnyP (i + 4) (hdb) (by omega) hRk hkc) ⟨rfl, rfl, trivial⟩ enters_35 [0, 1] [2] ⟨rfl, rfl, trivial⟩ ⟨rfl, trivial⟩ (R := [_]) (by decide)) ?_
        rintro _ _ ⟨_, ⟨rfl, rfl⟩, rfl⟩
        refine wl_nil ?_
        refine at_then ?_
        refine wc_seq ?_
        refine wc_region ?_
        refine wl_1 trivial rfl (do_move rfl) ?_
        refine wl_do trivial rfl (do_call (su_t5 B d b s ks (i + 4) hsi hdb (by omega)) ⟨rfl, rfl, trivial⟩ enters_34 [0] [1, 2] ⟨rfl, trivial⟩ ⟨rfl, rfl, trivial⟩ (R := [_, _]) (by decide)) ?_
        rintro _ _ ⟨_, ⟨x5, rfl, rfl⟩, rfl⟩
        refine wl_1 trivial rfl (do_move rfl) ?_
        refine wl_1 trivial rfl (do_extract rfl rfl) ?_
        refine wl_1 trivial rfl (do_extract rfl rfl) ?_
        refine wl_1 trivial rfl (do_assign rfl) ?_
        refine wl_1 trivial rfl (do_assign rfl) ?_
        refine wl_nil ?_
        refine at_then ?_
        refine wc_seq ?_
        refine wc_region ?_
        refine wl_1 trivial rfl (do_move rfl) ?_
        refine wl_do trivial rfl (do_call (num_tri B 0) ⟨rfl, trivial⟩ enters_30 [] [0, 1, 2, 3] trivial ⟨rfl, rfl, rfl, rfl, trivial⟩ (R := [_, _, _, _]) (by decide)) ?_
        rintro _ _ ⟨_, ⟨rfl, rfl⟩, rfl⟩
        refine wl_1 trivial rfl (do_cmp (c := true) rfl rfl rfl) ?_
        refine wl_1 trivial rfl (do_move rfl) ?_
        refine wl_1 ⟨_, rfl, rfl⟩ rfl (do_move rfl) ?_
        refine wl_1 ⟨_, rfl, rfl⟩ rfl (do_convBS (R := row 5 1 x5 b.length (byv b)) (bs := b) 1 und_32 und_5 und_9 rfl rfl row_R) ?_
        refine wl_1 ⟨_, rfl, rfl⟩ rfl (do_move rfl) ?_
        refine wl_1 ⟨_, rfl, rfl⟩ rfl (do_convBS (R := AnyP) (bs := b) 2 und_32 und_5 und_9 rfl rfl hR1) ?_
        refine wl_1 ⟨_, rfl, rfl⟩ rfl (do_strcmp rfl rfl (str_same_eql _)) ?_
        refine wl_1 trivial rfl (do_pickT rfl rfl) ?_
        refine wl_1 trivial rfl (do_move rfl) ?_
        refine wl_1 ⟨_, rfl, rfl⟩ rfl (do_move rfl) ?_
        refine wl_do ⟨_, rfl, rfl⟩ rfl (do_call (su_t6 B d s ks) ⟨rfl, trivial⟩ enters_47 [0] [1, 2, 3] ⟨rfl, trivial⟩ ⟨rfl, rfl, rfl, trivial⟩ (R := [_, _, _]) (by decide)) ?_
        rintro _ _ ⟨_, ⟨rfl, rfl⟩, rfl⟩
        refine wl_1 ⟨_, rfl, rfl⟩ rfl (do_not (c := false) rfl) ?_
        refine wl_1 trivial rfl (do_pickT rfl rfl) ?_
        refine wl_1 trivial rfl (do_assign rfl) ?_
        refine wl_nil ?_
        refine at_then ?_
        refine wc_ret ?_
        refine at_pick (M := [_, _]) [2, 3] ⟨rfl, rfl, trivial⟩ (by decide) ?_
        exact at_ret1 (M := [_]) rfl rfl ⟨rfl, rfl⟩ rfl
      · have p_c4 := cmp_lss_t h_c4
        refine wc_true rfl ?_
        refine wc_skip ?_
        refine at_then ?_
        refine wc_seq ?_
        refine wc_block ?_
        refine wc_seq ?_
        refine wc_region ?_
        refine wl_1 trivial rfl (do_move rfl) ?_
        refine wl_1 trivial rfl (do_move rfl) ?_
        obtain ⟨⟨kd, name, to, ob, bs, k, yes, ok, kl⟩, ho⟩ : ∃ o, ops[i]? = some o := ⟨_, List.getElem?_eq_getElem (by omega)⟩
        obtain ⟨hae, hoo, hcl⟩ := hops _ _ ho
        subst hae
        obtain ⟨⟨hk1, hk2⟩, hname0, hto0, hob, ⟨hn1, hn2⟩, _, hok⟩ := hoo
        simp only at hk1 hk2 hname0 hto0 hob hn1 hn2 hok
        have hname : name.size ≤ 9223372036854775807 := Nat.le_trans hname0 (by decide)
        have hto : to.size ≤ 9223372036854775807 := Nat.le_trans hto0 (by decide)
        have hRo := hob
        obtain ⟨_, ba, bc, hb3, _, hbl3, _⟩ := hob
        subst hb3
        obtain ⟨_, ka2, kc2, hk3, hkc2, _, _⟩ := hok
        subst hk3
        have hRb : Rd B AnyP 1 (.slice ba bs.length bc) bs.length (byv bs) := hrd _ _ _ hRo
        refine wl_1 trivial rfl (do_indexAddr (j := i) (p := (off0 + i * 7)) und_61 ty_67 rfl rfl rfl (by omega) (by omega)) ?_
        refine wl_1 trivial rfl (do_loadAB (vs := [.int .i64 kd, .string name, .string to, .slice ba bs.length bc, .int .i64 k, .bool yes, .slice ka2 kl.length kc2]) rfl agg_67 rfl (fun j u hj => hcl j u hj)) ?_
        refine wl_do trivial rfl (do_alloc zero_67 rfl) ?_
        rintro _ _ ⟨b6, rfl, rfl⟩
        refine wl_1 trivial rfl (do_storeL (L1 := []) rfl rfl agg_67 rfl (cs' := #[.int .i64 kd, .string name, .string to, .slice ba bs.length bc, .int .i64 k, .bool yes, .slice ka2 kl.length kc2]) rfl trivial) ?_
        refine wl_nil ?_
        refine at_then ?_
        refine wc_seq ?_
        refine wc_seq ?_
        refine wc_region ?_
        refine wl_1 trivial rfl (do_fieldAddr (k := 1) (k' := 1) fo_67_1 rfl (by rfl)) ?_
        refine wl_1 trivial rfl (do_load 0 rfl one_9 rfl rfl) ?_
        obtain ⟨c7, h_c7⟩ : ∃ c : Bool, strB .eql (name : ByteArray).toList (⟨#[115, 117, 114, 101]⟩ : ByteArray).toList = some c := ⟨_, rfl⟩
        refine wl_1 trivial rfl (do_strcmp rfl rfl h_c7) ?_
        refine wl_1 trivial rfl (do_move rfl) ?_
        cases c7
        · have p_c7 := str_eql_f h_c7
          refine wl_1 ⟨_, rfl, rfl⟩ rfl (do_fieldAddr (k := 2) (k' := 2) fo_67_2 rfl (by rfl)) ?_
          refine wl_1 ⟨_, rfl, rfl⟩ rfl (do_load 0 rfl one_9 rfl rfl) ?_
          obtain ⟨c8, h_c8⟩ : ∃ c : Bool, strB .eql (to : ByteArray).toList (⟨#[115, 117, 114, 101]⟩ : ByteArray).toList = some c := ⟨_, rfl⟩
          refine wl_1 ⟨_, rfl, rfl⟩ rfl (do_strcmp rfl rfl h_c8) ?_
          refine wl_1 trivial rfl (do_pickF rfl rfl) ?_
          refine wl_nil ?_
          refine at_then ?_
          cases c8
          · have p_c8 := str_eql_f h_c8
            refine wc_false rfl ?_
            refine wc_skip ?_
            refine at_then ?_
            refine wc_region ?_
            refine wl_1 trivial rfl (do_move rfl) ?_
            refine wl_1 trivial rfl (do_loadL 0 rfl agg_67 rfl rfl rfl) ?_
            refine wl_do trivial rfl (do_call (dolaw_tri B d s kd k name to ba ka2 bc kl.length kc2 bs yes (i + 4) (hdb) (by omega) hname hto hRb (Nat.le_trans hbl3 (by decide))) ⟨rfl, rfl, trivial⟩ enters_32 [1, 2] [0, 3] ⟨rfl, rfl, trivial⟩ ⟨rfl, rfl, trivial⟩ (R := [_, _]) (by decide)) ?_
            rintro _ _ ⟨_, ⟨rfl, rfl⟩, rfl⟩
            refine wl_nil ?_
            refine at_block ?_
            refine at_then ?_
            refine wc_region ?_
            refine wl_1 trivial rfl (do_move rfl) ?_
            refine wl_1 trivial rfl (do_add (r := ((i + 1 : Nat) : Int)) rfl rfl (wrap_nat (by omega) (by omega))) ?_
            refine wl_1 trivial rfl (do_assign rfl) ?_
            refine wl_nil ?_
            refine at_pick (M := [_, _, _]) [0, 1, 3] ⟨rfl, rfl, rfl, trivial⟩ (by decide) ?_
            have hphi : DB (doD kd name to bs k yes s) (i + 1 + 4) ∧ i + 1 ≤ 200 ∧ SI kS 0 b (doD kd name to bs k yes s) := ⟨(hdb.do kd name to bs hn2 yes).more (by omega), by omega, hsi.do kd ‹¬ name = ⟨#[115, 117, 114, 101]⟩› ‹¬ to = ⟨#[115, 117, 114, 101]⟩› bs k yes⟩
            exact at_round (i + 1, (doD kd name to bs k yes s)) hphi (by show 200 - (i + 1) < 200 - i; omega) ⟨rfl, rfl, rfl, rfl, rfl, rfl, trivial⟩ rfl
          · have p_c8 := str_eql_t h_c8
            refine wc_true rfl ?_
            refine wc_exit ?_
            refine at_then_exit ?_
            refine at_block_it ?_
            refine at_then ?_
            refine wc_region ?_
            refine wl_1 trivial rfl (do_move rfl) ?_
            refine wl_1 trivial rfl (do_add (r := ((i + 1 : Nat) : Int)) rfl rfl (wrap_nat (by omega) (by omega))) ?_
            refine wl_1 trivial rfl (do_assign rfl) ?_
            refine wl_nil ?_
            refine at_pick (M := [_, _, _]) [1, 2, 3] ⟨rfl, rfl, rfl, trivial⟩ (by decide) ?_
            have hphi : DB s (i + 1 + 4) ∧ i + 1 ≤ 200 ∧ SI kS 0 b s := ⟨hdb.more (by omega), by omega, hsi⟩
            exact at_round (i + 1, s) hphi (by show 200 - (i + 1) < 200 - i; omega) ⟨rfl, rfl, rfl, rfl, rfl, rfl, trivial⟩ rfl
        · have p_c7 := str_eql_t h_c7
          refine wl_no rfl rfl rfl rfl rfl ?_
          refine wl_no rfl rfl rfl rfl rfl ?_
          refine wl_no rfl rfl rfl rfl rfl ?_
          refine wl_1 trivial rfl (do_pickT rfl rfl) ?_
          refine wl_nil ?_
          refine at_then ?_
          refine wc_true rfl ?_
          refine wc_exit ?_
          refine at_then_exit ?_
          refine at_block_it ?_
          refine at_then ?_
          refine wc_region ?_
          refine wl_1 trivial rfl (do_move rfl) ?_
          refine wl_1 trivial rfl (do_add (r := ((i + 1 : Nat) : Int)) rfl rfl (wrap_nat (by omega) (by omega))) ?_
          refine wl_1 trivial rfl (do_assign rfl) ?_
          refine wl_nil ?_
          refine at_pick (M := [_, _, _]) [1, 2, 3] ⟨rfl, rfl, rfl, trivial⟩ (by decide) ?_
          have hphi : DB s (i + 1 + 4) ∧ i + 1 ≤ 200 ∧ SI kS 0 b s := ⟨hdb.more (by omega), by omega, hsi⟩
          exact at_round (i + 1, s) hphi (by show 200 - (i + 1) < 200 - i; omega) ⟨rfl, rfl, rfl, rfl, rfl, rfl, trivial⟩ rfl

set_option maxRecDepth 100000 in
set_option maxHeartbeats 8000000 in
theorem sure_long (B : Ctx) (a0 : Option Addr) (cap0 b0 off0 : Nat) (ops : List OpD) (ka : Option Addr) (kc : Nat) (ks : List Bool) (bk bo by_ : Nat) (bb : List UInt8) (W : World) (hrd : ∀ v n xs, inSl W v n xs → Rd B AnyP 1 v n xs) (hops : ∀ (j : Nat) (o : OpD), ops[j]? = some o → a0 = some ⟨b0, off0, none⟩ ∧ o.Ok W ∧ ∀ (i : Nat) (u : Value), o.cells[i]? = some u → B.cell ⟨b0, off0 + j * 7 + i, none⟩ u) (hRk : Rd B AnyP 1 (.slice ka ks.length kc) ks.length (ks.map .bool)) (hkc : ks.length ≤ kc) (hRb0 : Rd B AnyP 1 (.slice (some ⟨bk, bo, none⟩) bb.length by_) bb.length (byv bb)) (hlb : 1000 < bb.length) (hcb : bb.length ≤ by_) :
    Tri Try.prog B 11 #[.slice (some ⟨bk, bo, none⟩) bb.length by_, .slice a0 ops.length cap0, .slice ka ks.length kc] [AnyP] (fun u M => u = .bool true ∧ M = [AnyP]) := by
  refine tri_body (n := 98) Try.func11 rfl rfl rfl ?_
  intro F
  show WC _ _ _ _ _ _ _ [(0, .slice (some ⟨bk, bo, none⟩) bb.length by_), (1, .slice a0 ops.length cap0), (2, .slice ka ks.length kc)] [AnyP, F]
  have hlt : (bb.take 1000).length = 1000 := by rw [List.length_take]; omega
  have hRt : Rd B AnyP 1 (.slice (some ⟨bk, bo, none⟩) 1000 by_) (bb.take 1000).length (byv (bb.take 1000)) := by have h := rd_prefix (k := 1000) (by omega) hRb0; rw [hlt] at h ⊢; exact h
  refine wc_seq ?_
  refine wc_region ?_
  refine wl_1 trivial rfl (do_assign rfl) ?_
  refine wl_nil ?_
  refine at_then ?_
  refine wc_seq ?_
  refine wc_region ?_
  refine wl_do trivial rfl (do_call (d_newq B) ⟨rfl, trivial⟩ enters_29 [] [0, 1] trivial ⟨rfl, rfl, trivial⟩ (R := [_, _]) (by decide)) ?_
  rintro _ _ ⟨_, ⟨d, rfl, rfl⟩, rfl⟩
  refine wl_1 trivial rfl (do_move rfl) ?_
  refine wl_1 trivial rfl (do_extract rfl rfl) ?_
  refine wl_1 trivial rfl (do_extract rfl rfl) ?_
  refine wl_1 trivial rfl (do_assign rfl) ?_
  refine wl_1 trivial rfl (do_assign rfl) ?_
  refine wl_nil ?_
  refine at_then ?_
  refine wc_seq ?_
  refine wc_seq ?_
  refine wc_region ?_
  refine wl_1 trivial rfl (do_move rfl) ?_
  refine wl_do trivial rfl (do_call (num_tri B 0) ⟨rfl, trivial⟩ enters_30 [] [0, 1, 2] trivial ⟨rfl, rfl, rfl, trivial⟩ (R := [_, _, _]) (by decide)) ?_
  rintro _ _ ⟨_, ⟨rfl, rfl⟩, rfl⟩
  refine wl_1 trivial rfl (do_cmp (c := false) rfl rfl rfl) ?_
  refine wl_1 trivial rfl (do_move rfl) ?_
  refine wl_1 ⟨_, rfl, rfl⟩ rfl (do_move rfl) ?_
  refine wl_1 ⟨_, rfl, rfl⟩ rfl (do_eqPtr isPtr_62 rfl rfl (.inr rfl)) ?_
  refine wl_1 trivial rfl (do_pickF rfl rfl) ?_
  refine wl_1 trivial rfl (do_move rfl) ?_
  refine wl_do ⟨_, rfl, rfl⟩ rfl (do_call (knows_tri B) trivial enters_31 [] [0, 1, 2] trivial ⟨rfl, rfl, rfl, trivial⟩ (R := [_, _, _]) (by decide)) ?_
  rintro _ _ ⟨_, ⟨rfl, rfl⟩, rfl⟩
  refine wl_1 ⟨_, rfl, rfl⟩ rfl (do_not (c := true) rfl) ?_
  refine wl_1 trivial rfl (do_pickF rfl rfl) ?_
  refine wl_nil ?_
  refine at_then ?_
  refine wc_false rfl ?_
  refine wc_skip ?_
  refine at_then ?_
  refine wc_seq_mid (fun (z_ : Value × List UInt8) => match z_ with | (bv, b) => b.length ≤ 1000 ∧ Rd B AnyP 1 bv b.length (byv b) ∧ ∃ a c, bv = .slice a b.length c) (fun (z_ : Value × List UInt8) => match z_ with | (bv, b) => [(0, bv), (1, .slice a0 ops.length cap0), (2, .slice ka ks.length kc), (6, .bool false), (7, .pointer (some ⟨d, 0, none⟩))]) (fun (z_ : Value × List UInt8) => match z_ with | (bv, b) => [diskA B d qD, AnyP, F]) ?_ ?_
  · refine wc_seq ?_
    refine wc_region ?_
    refine wl_1 trivial rfl (do_move rfl) ?_
    refine wl_1 trivial rfl (do_lenSlice rfl isSlice_32 rfl) ?_
    obtain ⟨c1, h_c1⟩ : ∃ c : Bool, cmpB .gtr ((bb.length : Nat) : Int) 1000 = some c := ⟨_, rfl⟩
    refine wl_1 trivial rfl (do_cmp rfl rfl h_c1) ?_
    refine wl_nil ?_
    refine at_then ?_
    cases c1
    · have p_c1 := cmp_gtr_f h_c1
      exfalso; omega
    · have p_c1 := cmp_gtr_t h_c1
      refine wc_true rfl ?_
      refine wc_region ?_
      refine wl_1 trivial rfl (do_move rfl) ?_
      refine wl_1 trivial rfl (do_sliceP (vh := (some (.int .i64 1000))) (h := 1000) und_32 ty_5 rfl rfl rfl (by omega)) ?_
      refine wl_1 trivial rfl (do_assign rfl) ?_
      refine wl_nil ?_
      exact at_mid (.slice (some ⟨bk, bo, none⟩) 1000 by_, (bb.take 1000)) ⟨by rw [List.length_take]; omega, hRt, some ⟨bk, bo, none⟩, by_, by rw [hlt]⟩ ⟨rfl, rfl, rfl, rfl, rfl, trivial⟩ rfl
  · rintro ⟨bv, b⟩ hphi
    obtain ⟨hbl, hR1, ba1, bc1, hbv⟩ := hphi
    show WC _ _ _ _ _ _ _ [(0, bv), (1, .slice a0 ops.length cap0), (2, .slice ka ks.length kc), (6, .bool false), (7, .pointer (some ⟨d, 0, none⟩))] [diskA B d qD, AnyP, F]
    subst hbv
    refine wc_seq ?_
    refine wc_seq ?_
    refine wc_region ?_
    refine wl_1 trivial rfl (do_move rfl) ?_
    refine wl_do trivial rfl (do_call (su_t1 B d) ⟨rfl, rfl, trivial⟩ enters_40 [0] [1, 2] ⟨rfl, trivial⟩ ⟨rfl, rfl, trivial⟩ (R := [_, _]) (by decide)) ?_
    rintro _ _ ⟨_, ⟨rfl, rfl⟩, rfl⟩
    refine wl_do trivial rfl (do_call (num_tri B 0) ⟨rfl, trivial⟩ enters_30 [] [0, 1, 2] trivial ⟨rfl, rfl, rfl, trivial⟩ (R := [_, _, _]) (by decide)) ?_
    rintro _ _ ⟨_, ⟨rfl, rfl⟩, rfl⟩
    refine wl_1 trivial rfl (do_move rfl) ?_
    refine wl_1 trivial rfl (do_move rfl) ?_
    refine wl_do trivial rfl (do_call (su_t2 B d ba1 bc1 b hbl hR1) ⟨rfl, rfl, rfl, trivial⟩ enters_41 [0, 1] [2] ⟨rfl, rfl, trivial⟩ ⟨rfl, trivial⟩ (R := [_]) (by decide)) ?_
    rintro _ _ ⟨_, ⟨rfl, rfl⟩, rfl⟩
    refine wl_do trivial rfl (do_call (num_tri B 0) ⟨rfl, trivial⟩ enters_30 [] [0, 1, 2] trivial ⟨rfl, rfl, rfl, trivial⟩ (R := [_, _, _]) (by decide)) ?_
    rintro _ _ ⟨_, ⟨rfl, rfl⟩, rfl⟩
    refine wl_1 trivial rfl (do_add (r := 0) rfl rfl rfl) ?_
    refine wl_1 trivial rfl (do_move rfl) ?_
    refine wl_do trivial rfl (do_call (su_t3 B d b hbl) ⟨rfl, rfl, trivial⟩ enters_44 [0] [1, 2] ⟨rfl, trivial⟩ ⟨rfl, rfl, trivial⟩ (R := [_, _]) (by decide)) ?_
    rintro _ _ ⟨_, ⟨rfl, rfl⟩, rfl⟩
    refine wl_do trivial rfl (do_call (num_tri B 0) ⟨rfl, trivial⟩ enters_30 [] [0, 1, 2] trivial ⟨rfl, rfl, rfl, trivial⟩ (R := [_, _, _]) (by decide)) ?_
    rintro _ _ ⟨_, ⟨rfl, rfl⟩, rfl⟩
    refine wl_1 trivial rfl (do_add (r := 0) rfl rfl rfl) ?_
    refine wl_1 trivial rfl (do_move rfl) ?_
    refine wl_do trivial rfl (do_call (su_t4 B d b hbl) ⟨rfl, trivial⟩ enters_45 [0] [1, 2] ⟨rfl, trivial⟩ ⟨rfl, rfl, trivial⟩ (R := [_, _]) (by decide)) ?_
    rintro _ _ ⟨_, ⟨rfl, rfl⟩, rfl⟩
    refine wl_do trivial rfl (do_call (num_tri B 0) ⟨rfl, trivial⟩ enters_30 [] [0, 1, 2] trivial ⟨rfl, rfl, rfl, trivial⟩ (R := [_, _, _]) (by decide)) ?_
    rintro _ _ ⟨_, ⟨rfl, rfl⟩, rfl⟩
    refine wl_1 trivial rfl (do_add (r := 0) rfl rfl rfl) ?_
    refine wl_1 trivial rfl (do_cmp (c := false) rfl rfl rfl) ?_
    refine wl_nil ?_
    refine at_then ?_
    refine wc_false rfl ?_
    refine wc_skip ?_
    refine at_then ?_
    refine wc_seq ?_
    refine wc_seq ?_
    refine wc_region ?_
    refine wl_1 trivial rfl (do_assign rfl) ?_
    refine wl_nil ?_
    refine at_then ?_
    refine wc_block ?_
    refine wc_loop (fun (z_ : Nat × DS) => match z_ with | (i, s) => DB s (i + 4) ∧ i ≤ 200 ∧ SI kS 0 b s) (fun (z_ : Nat × DS) => match z_ with | (i, s) => [(0, .slice ba1 b.length bc1), (1, .slice a0 ops.length cap0), (2, .slice ka ks.length kc), (6, .bool false), (7, .pointer (some ⟨d, 0, none⟩)), (9, .int .i64 ((i : Nat) : Int))]) (fun (z_ : Nat × DS) => match z_ with | (i, s) => [diskA B d s, AnyP, F]) (fun (z_ : Nat × DS) => match z_ with | (i, s) => 200 - i) (0, (su4 b)) ⟨su_b4 hbl, by omega, su_i b⟩ ⟨rfl, rfl, rfl, rfl, rfl, rfl, trivial⟩ rfl ?_
    rintro ⟨i, s⟩ hphi
    obtain ⟨hdb, hi, hsi⟩ := hphi
    show WC _ _ _ _ _ _ _ [(0, .slice ba1 b.length bc1), (1, .slice a0 ops.length cap0), (2, .slice ka ks.length kc), (6, .bool false), (7, .pointer (some ⟨d, 0, none⟩)), (9, .int .i64 ((i : Nat) : Int))] [diskA B d s, AnyP, F]
    refine wc_seq ?_
    refine wc_seq ?_
    refine wc_region ?_
    refine wl_1 trivial rfl (do_move rfl) ?_
    refine wl_1 trivial rfl (do_move rfl) ?_
    refine wl_1 trivial rfl (do_lenSlice rfl isSlice_61 rfl) ?_
    obtain ⟨c2, h_c2⟩ : ∃ c : Bool, cmpB .lss ((i : Nat) : Int) ((ops.length : Nat) : Int) = some c := ⟨_, rfl⟩
    refine wl_1 trivial rfl (do_cmp rfl rfl h_c2) ?_
    refine wl_1 trivial rfl (do_move rfl) ?_
    cases c2
    · have p_c2 := cmp_lss_f h_c2
      refine wl_no rfl rfl rfl rfl rfl ?_
      refine wl_no rfl rfl rfl rfl rfl ?_
      refine wl_1 trivial rfl (do_pickF rfl rfl) ?_
      refine wl_nil ?_
      refine at_then ?_
      refine wc_false rfl ?_
      refine wc_exit ?_
      refine at_then_exit ?_
      refine at_then_exit ?_
      refine at_block_it ?_
      refine at_then ?_
      refine wc_seq ?_
      refine wc_region ?_
      refine wl_1 trivial rfl (do_move rfl) ?_
      refine wl_1 trivial rfl (do_move rfl) ?_
      refine wl_do trivial rfl (do_call (d_crash B d s ka kc ks AnyP (i + 4) (hdb) (by omega) hRk hkc) ⟨rfl, rfl, trivial⟩ enters_35 [0, 1] [2] ⟨rfl, rfl, trivial⟩ ⟨rfl, trivial⟩ (R := [_]) (by decide)) ?_
      rintro _ _ ⟨_, ⟨rfl, rfl⟩, rfl⟩
      refine wl_nil ?_
      refine at_then ?_
      refine wc_seq ?_
      refine wc_region ?_
      refine wl_1 trivial rfl (do_move rfl) ?_
      refine wl_do trivial rfl (do_call (su_t5 B d b s ks (i + 4) hsi hdb (by omega)) ⟨rfl, rfl, trivial⟩ enters_34 [0] [1, 2] ⟨rfl, trivial⟩ ⟨rfl, rfl, trivial⟩ (R := [_, _]) (by decide)) ?_
      rintro _ _ ⟨_, ⟨x3, rfl, rfl⟩, rfl⟩
      refine wl_1 trivial rfl (do_move rfl) ?_
      refine wl_1 trivial rfl (do_extract rfl rfl) ?_
      refine wl_1 trivial rfl (do_extract rfl rfl) ?_
      refine wl_1 trivial rfl (do_assign rfl) ?_
      refine wl_1 trivial rfl (do_assign rfl) ?_
      refine wl_nil ?_
      refine at_then ?_
      refine wc_seq ?_
      refine wc_region ?_
      refine wl_1 trivial rfl (do_move rfl) ?_
      refine wl_do trivial rfl (do_call (num_tri B 0) ⟨rfl, trivial⟩ enters_30 [] [0, 1, 2, 3] trivial ⟨rfl, rfl, rfl, rfl, trivial⟩ (R := [_, _, _, _]) (by decide)) ?_
      rintro _ _ ⟨_, ⟨rfl, rfl⟩, rfl⟩
      refine wl_1 trivial rfl (do_cmp (c := true) rfl rfl rfl) ?_
      refine wl_1 trivial rfl (do_move rfl) ?_
      refine wl_1 ⟨_, rfl, rfl⟩ rfl (do_move rfl) ?_
      refine wl_1 ⟨_, rfl, rfl⟩ rfl (do_convBS (R := row 5 1 x3 b.length (byv b)) (bs := b) 1 und_32 und_5 und_9 rfl rfl row_R) ?_
      refine wl_1 ⟨_, rfl, rfl⟩ rfl (do_move rfl) ?_
      refine wl_1 ⟨_, rfl, rfl⟩ rfl (do_convBS (R := AnyP) (bs := b) 2 und_32 und_5 und_9 rfl rfl hR1) ?_
      refine wl_1 ⟨_, rfl, rfl⟩ rfl (do_strcmp rfl rfl (str_same_eql _)) ?_
      refine wl_1 trivial rfl (do_pickT rfl rfl) ?_
      refine wl_1 trivial rfl (do_move rfl) ?_
      refine wl_1 ⟨_, rfl, rfl⟩ rfl (do_move rfl) ?_
      refine wl_do ⟨_, rfl, rfl⟩ rfl (do_call (su_t6 B d s ks) ⟨rfl, trivial⟩ enters_47 [0] [1, 2, 3] ⟨rfl, trivial⟩ ⟨rfl, rfl, rfl, trivial⟩ (R := [_, _, _]) (by decide)) ?_
      rintro _ _ ⟨_, ⟨rfl, rfl⟩, rfl⟩
      refine wl_1 ⟨_, rfl, rfl⟩ rfl (do_not (c := false) rfl) ?_
      refine wl_1 trivial rfl (do_pickT rfl rfl) ?_
      refine wl_1 trivial rfl (do_assign rfl) ?_
      refine wl_nil ?_
      refine at_then ?_
      refine wc_ret ?_
      refine at_pick (M := [_, _]) [2, 3] ⟨rfl, rfl, trivial⟩ (by decide) ?_
      exact at_ret1 (M := [_]) rfl rfl ⟨rfl, rfl⟩ rfl
    · have p_c2 := cmp_lss_t h_c2
      refine wl_1 ⟨_, rfl, rfl⟩ rfl (do_move rfl) ?_
      obtain ⟨c4, h_c4⟩ : ∃ c : Bool, cmpB .lss ((i : Nat) : Int) 200 = some c := ⟨_, rfl⟩
      refine wl_1 ⟨_, rfl, rfl⟩ rfl (do_cmp rfl rfl h_c4) ?_
      refine wl_1 trivial rfl (do_pickT rfl rfl) ?_
      refine wl_nil ?_
      refine at_then ?_
      cases c4
      · have p_c4 := cmp_lss_f h_c4
        refine wc_false rfl ?_
        refine wc_exit ?_
        refine at_then_exit ?_
        refine at_then_exit ?_
        refine at_block_it ?_
        refine at_then ?_
        refine wc_seq ?_
        refine wc_region ?_
        refine wl_1 trivial rfl (do_move rfl) ?_
        refine wl_1 trivial rfl (do_move rfl) ?_
        refine wl_do trivial rfl (do_call (d_crash B d s ka kc ks AnyP (i + 4) (hdb) (by omega) hRk hkc) ⟨rfl, rfl, trivial⟩ enters_35 [0, 1] [2] ⟨rfl, rfl, trivial⟩ ⟨rfl, trivial⟩ (R := [_]) (by decide)) ?_
        rintro _ _ ⟨_, ⟨rfl, rfl⟩, rfl⟩
        refine wl_nil ?_
        refine at_then ?_
        refine wc_seq ?_
        refine wc_region ?_
        refine wl_1 trivial rfl (do_move rfl) ?_
        refine wl_do trivial rfl (do_call (su_t5 B d b s ks (i + 4) hsi hdb (by omega)) ⟨rfl, rfl, trivial⟩ enters_34 [0] [1, 2] ⟨rfl, trivial⟩ ⟨rfl, rfl, trivial⟩ (R := [_, _]) (by decide)) ?_
        rintro _ _ ⟨_, ⟨x5, rfl, rfl⟩, rfl⟩
        refine wl_1 trivial rfl (do_move rfl) ?_
        refine wl_1 trivial rfl (do_extract rfl rfl) ?_
        refine wl_1 trivial rfl (do_extract rfl rfl) ?_
        refine wl_1 trivial rfl (do_assign rfl) ?_
        refine wl_1 trivial rfl (do_assign rfl) ?_
        refine wl_nil ?_
        refine at_then ?_
        refine wc_seq ?_
        refine wc_region ?_
        refine wl_1 trivial rfl (do_move rfl) ?_
        refine wl_do trivial rfl (do_call (num_tri B 0) ⟨rfl, trivial⟩ enters_30 [] [0, 1, 2, 3] trivial ⟨rfl, rfl, rfl, rfl, trivial⟩ (R := [_, _, _, _]) (by decide)) ?_
        rintro _ _ ⟨_, ⟨rfl, rfl⟩, rfl⟩
        refine wl_1 trivial rfl (do_cmp (c := true) rfl rfl rfl) ?_
        refine wl_1 trivial rfl (do_move rfl) ?_
        refine wl_1 ⟨_, rfl, rfl⟩ rfl (do_move rfl) ?_
        refine wl_1 ⟨_, rfl, rfl⟩ rfl (do_convBS (R := row 5 1 x5 b.length (byv b)) (bs := b) 1 und_32 und_5 und_9 rfl rfl row_R) ?_
        refine wl_1 ⟨_, rfl, rfl⟩ rfl (do_move rfl) ?_
        refine wl_1 ⟨_, rfl, rfl⟩ rfl (do_convBS (R := AnyP) (bs := b) 2 und_32 und_5 und_9 rfl rfl hR1) ?_
        refine wl_1 ⟨_, rfl, rfl⟩ rfl (do_strcmp rfl rfl (str_same_eql _)) ?_
        refine wl_1 trivial rfl (do_pickT rfl rfl) ?_
        refine wl_1 trivial rfl (do_move rfl) ?_
        refine wl_1 ⟨_, rfl, rfl⟩ rfl (do_move rfl) ?_
        refine wl_do ⟨_, rfl, rfl⟩ rfl (do_call (su_t6 B d s ks) ⟨rfl, trivial⟩ enters_47 [0] [1, 2, 3] ⟨rfl, trivial⟩ ⟨rfl, rfl, rfl, trivial⟩ (R := [_, _, _]) (by decide)) ?_
        rintro _ _ ⟨_, ⟨rfl, rfl⟩, rfl⟩
        refine wl_1 ⟨_, rfl, rfl⟩ rfl (do_not (c := false) rfl) ?_
        refine wl_1 trivial rfl (do_pickT rfl rfl) ?_
        refine wl_1 trivial rfl (do_assign rfl) ?_
        refine wl_nil ?_
        refine at_then ?_
        refine wc_ret ?_
        refine at_pick (M := [_, _]) [2, 3] ⟨rfl, rfl, trivial⟩ (by decide) ?_
        exact at_ret1 (M := [_]) rfl rfl ⟨rfl, rfl⟩ rfl
      · have p_c4 := cmp_lss_t h_c4
        refine wc_true rfl ?_
        refine wc_skip ?_
        refine at_then ?_
        refine wc_seq ?_
        refine wc_block ?_
        refine wc_seq ?_
        refine wc_region ?_
        refine wl_1 trivial rfl (do_move rfl) ?_
        refine wl_1 trivial rfl (do_move rfl) ?_
        obtain ⟨⟨kd, name, to, ob, bs, k, yes, ok, kl⟩, ho⟩ : ∃ o, ops[i]? = some o := ⟨_, List.getElem?_eq_getElem (by omega)⟩
        obtain ⟨hae, hoo, hcl⟩ := hops _ _ ho
        subst hae
        obtain ⟨⟨hk1, hk2⟩, hname0, hto0, hob, ⟨hn1, hn2⟩, _, hok⟩ := hoo
        simp only at hk1 hk2 hname0 hto0 hob hn1 hn2 hok
        have hname : name.size ≤ 9223372036854775807 := Nat.le_trans hname0 (by decide)
        have hto : to.size ≤ 9223372036854775807 := Nat.le_trans hto0 (by decide)
        have hRo := hob
        obtain ⟨_, ba, bc, hb3, _, hbl3, _⟩ := hob
        subst hb3
        obtain ⟨_, ka2, kc2, hk3, hkc2, _, _⟩ := hok
        subst hk3
        have hRb : Rd B AnyP 1 (.slice ba bs.length bc) bs.length (byv bs) := hrd _ _ _ hRo
        refine wl_1 trivial rfl (do_indexAddr (j := i) (p := (off0 + i * 7)) und_61 ty_67 rfl rfl rfl (by omega) (by omega)) ?_
        refine wl_1 trivial rfl (do_loadAB (vs := [.int .i64 kd, .string name, .string to, .slice ba bs.length bc, .int .i64 k, .bool yes, .slice ka2 kl.length kc2]) rfl agg_67 rfl (fun j u hj => hcl j u hj)) ?_
        refine wl_do trivial rfl (do_alloc zero_67 rfl) ?_
        rintro _ _ ⟨b6, rfl, rfl⟩
        refine wl_1 trivial rfl (do_storeL (L1 := []) rfl rfl agg_67 rfl (cs' := #[.int .i64 kd, .string name, .string to, .slice ba bs.length bc, .int .i64 k, .bool yes, .slice ka2 kl.length kc2]) rfl trivial) ?_
        refine wl_nil ?_
        refine at_then ?_
        refine wc_seq ?_
        refine wc_seq ?_
        refine wc_region ?_
        refine wl_1 trivial rfl (do_fieldAddr (k := 1) (k' := 1) fo_67_1 rfl (by rfl)) ?_
        refine wl_1 trivial rfl (do_load 0 rfl one_9 rfl rfl) ?_
        obtain ⟨c7, h_c7⟩ : ∃ c : Bool, strB .eql (name : ByteArray).toList (⟨#[115, 117, 114, 101]⟩ : ByteArray).toList = some c := ⟨_, rfl⟩
        refine wl_1 trivial rfl (do_strcmp rfl rfl h_c7) ?_
        refine wl_1 trivial rfl (do_move rfl) ?_
        cases c7
        · have p_c7 := str_eql_f h_c7
          refine wl_1 ⟨_, rfl, rfl⟩ rfl (do_fieldAddr (k := 2) (k' := 2) fo_67_2 rfl (by rfl)) ?_
          refine wl_1 ⟨_, rfl, rfl⟩ rfl (do_load 0 rfl one_9 rfl rfl) ?_
          obtain ⟨c8, h_c8⟩ : ∃ c : Bool, strB .eql (to : ByteArray).toList (⟨#[115, 117, 114, 101]⟩ : ByteArray).toList = some c := ⟨_, rfl⟩
          refine wl_1 ⟨_, rfl, rfl⟩ rfl (do_strcmp rfl rfl h_c8) ?_
          refine wl_1 trivial rfl (do_pickF rfl rfl) ?_
          refine wl_nil ?_
          refine at_then ?_
          cases c8
          · have p_c8 := str_eql_f h_c8
            refine wc_false rfl ?_
            refine wc_skip ?_
            refine at_then ?_
            refine wc_region ?_
            refine wl_1 trivial rfl (do_move rfl) ?_
            refine wl_1 trivial rfl (do_loadL 0 rfl agg_67 rfl rfl rfl) ?_
            refine wl_do trivial rfl (do_call (dolaw_tri B d s kd k name to ba ka2 bc kl.length kc2 bs yes (i + 4) (hdb) (by omega) hname hto hRb (Nat.le_trans hbl3 (by decide))) ⟨rfl, rfl, trivial⟩ enters_32 [1, 2] [0, 3] ⟨rfl, rfl, trivial⟩ ⟨rfl, rfl, trivial⟩ (R := [_, _]) (by decide)) ?_
            rintro _ _ ⟨_, ⟨rfl, rfl⟩, rfl⟩
            refine wl_nil ?_
            refine at_block ?_
            refine at_then ?_
            refine wc_region ?_
            refine wl_1 trivial rfl (do_move rfl) ?_
            refine wl_1 trivial rfl (do_add (r := ((i + 1 : Nat) : Int)) rfl rfl (wrap_nat (by omega) (by omega))) ?_
            refine wl_1 trivial rfl (do_assign rfl) ?_
            refine wl_nil ?_
            refine at_pick (M := [_, _, _]) [0, 1, 3] ⟨rfl, rfl, rfl, trivial⟩ (by decide) ?_
            have hphi : DB (doD kd name to bs k yes s) (i + 1 + 4) ∧ i + 1 ≤ 200 ∧ SI kS 0 b (doD kd name to bs k yes s) := ⟨(hdb.do kd name to bs hn2 yes).more (by omega), by omega, hsi.do kd ‹¬ name = ⟨#[115, 117, 114, 101]⟩› ‹¬ to = ⟨#[115, 117, 114, 101]⟩› bs k yes⟩
            exact at_round (i + 1, (doD kd name to bs k yes s)) hphi (by show 200 - (i + 1) < 200 - i; omega) ⟨rfl, rfl, rfl, rfl, rfl, rfl, trivial⟩ rfl
          · have p_c8 := str_eql_t h_c8
            refine wc_true rfl ?_
            refine wc_exit ?_
            refine at_then_exit ?_
            refine at_block_it ?_
            refine at_then ?_
            refine wc_region ?_
            refine wl_1 trivial rfl (do_move rfl) ?_
            refine wl_1 trivial rfl (do_add (r := ((i + 1 : Nat) : Int)) rfl rfl (wrap_nat (by omega) (by omega))) ?_
            refine wl_1 trivial rfl (do_assign rfl) ?_
            refine wl_nil ?_
            refine at_pick (M := [_, _, _]) [1, 2, 3] ⟨rfl, rfl, rfl, trivial⟩ (by decide) ?_
            have hphi : DB s (i + 1 + 4) ∧ i + 1 ≤ 200 ∧ SI kS 0 b s := ⟨hdb.more (by omega), by omega, hsi⟩
            exact at_round (i + 1, s) hphi (by show 200 - (i + 1) < 200 - i; omega) ⟨rfl, rfl, rfl, rfl, rfl, rfl, trivial⟩ rfl
        · have p_c7 := str_eql_t h_c7
          refine wl_no rfl rfl rfl rfl rfl ?_
          refine wl_no rfl rfl rfl rfl rfl ?_
          refine wl_no rfl rfl rfl rfl rfl ?_
          refine wl_1 trivial rfl (do_pickT rfl rfl) ?_
          refine wl_nil ?_
          refine at_then ?_
          refine wc_true rfl ?_
          refine wc_exit ?_
          refine at_then_exit ?_
          refine at_block_it ?_
          refine at_then ?_
          refine wc_region ?_
          refine wl_1 trivial rfl (do_move rfl) ?_
          refine wl_1 trivial rfl (do_add (r := ((i + 1 : Nat) : Int)) rfl rfl (wrap_nat (by omega) (by omega))) ?_
          refine wl_1 trivial rfl (do_assign rfl) ?_
          refine wl_nil ?_
          refine at_pick (M := [_, _, _]) [1, 2, 3] ⟨rfl, rfl, rfl, trivial⟩ (by decide) ?_
          have hphi : DB s (i + 1 + 4) ∧ i + 1 ≤ 200 ∧ SI kS 0 b s := ⟨hdb.more (by omega), by omega, hsi⟩
          exact at_round (i + 1, s) hphi (by show 200 - (i + 1) < 200 - i; omega) ⟨rfl, rfl, rfl, rfl, rfl, rfl, trivial⟩ rfl
end Go.Proofs.Ytmefejfnddcelaa
