/- Printed by a program of this claim's: what each of these functions of the program does, as its theorem says. No condition but what stands in each theorem. -/
import Derived.Test.YtmefejfnddcelaaDr
namespace Go.Proofs.Ytmefejfnddcelaa
def bF : List UInt8 := [102, 105, 114, 115, 116]
def wD (f : FileS) (nw su : List (ByteArray × Nat)) (c : List ChgD) : DS := ⟨[f], nw, su, c, 1048576, 0, false, -1, false⟩
def w1 : DS := wD ⟨[], []⟩ [(kT, 0)] [] [.made kT 0]
def w2 : DS := wD ⟨[], [bF]⟩ [(kT, 0)] [] [.made kT 0]
def w3 : DS := wD ⟨bF, []⟩ [(kT, 0)] [] [.made kT 0]
def w4 : DS := wD ⟨bF, []⟩ [(kI, 0)] [] [.made kT 0, .ren kT kI]
def w5 : DS := wD ⟨bF, []⟩ [(kI, 0)] [(kI, 0)] []
theorem we1 : createS kT qD = (0, w1) := by kernel_rfl
theorem we2 : appendS kT bF w1 = (0, w2) := by
  have hu : usedS w1 = 0 := by
    unfold usedS
    rw [show akeys w1.now = [kT] from rfl, sortB_1]
    show lenK w1 kT + 0 = _
    rw [lenK_some (i := 0) (by kernel_rfl)]; rfl
  have e := appendS_ok (name := kT) (bs := bF) (s := w1) (i := 0) rfl (by kernel_rfl) (by rw [hu]; decide) (by kernel_rfl) (by decide)
  exact e.trans (by kernel_rfl)
theorem we3 : syncS kT w2 = (0, w3) := by kernel_rfl
theorem we4 : renameS kT kI w3 = (0, w4) := by kernel_rfl
theorem we5 : syncdirS w4 = (0, w5) := by kernel_rfl
theorem swap0 : swapD bF qD = (0, w5) := by
  have hr : ¬ (readS kT qD).1 = 0 := by decide +kernel
  unfold swapD
  rw [if_neg hr]
  simp only [swapA, we1, we2, we3, we4, we5, if_true]
theorem wi0 : WI bF 0 none w5 :=
  have hn : NS [(kI, 0)] 0 none := ⟨by kernel_rfl, by kernel_rfl, fun k h1 _ => by simp only [aget]; rw [if_neg (fun e => h1 e.symm)], by show [kI].Nodup; simp⟩
  ⟨rfl, rfl, hn, hn, rfl, by simp, by decide, rfl⟩
theorem db0 : DB w5 7 := by have h := su_b0.swap bF; rw [swap0] at h; exact h
set_option maxRecDepth 100000 in
set_option maxHeartbeats 8000000 in
theorem swap_tri (B : Ctx) (d : Nat) (s : DS) (ba : Option Addr) (bc : Nat) (b : List UInt8) (R : Assn) (N : Nat) (hdb : DB s N) (hN : N ≤ 900000) (hR : Rd B R 1 (.slice ba b.length bc) b.length (byv b)) (hbl : b.length ≤ 9223372036854775807) :
    Tri Try.prog B 36 #[.pointer (some ⟨d, 0, none⟩), .slice ba b.length bc] [diskA B d s, R] (fun u M => u = .int .i64 (swapD b s).1 ∧ M = [diskA B d (swapD b s).2, R]) := by
  refine tri_body (n := 52) Try.func36 rfl rfl rfl ?_
  intro F
  show WC _ _ _ _ _ _ _ [(0, .pointer (some ⟨d, 0, none⟩)), (1, .slice ba b.length bc)] [diskA B d s, R, F]
  refine wc_seq ?_
  refine wc_region ?_
  refine wl_1 trivial rfl (do_assign rfl) ?_
  refine wl_nil ?_
  refine at_then ?_
  refine wc_seq ?_
  refine wc_region ?_
  refine wl_1 trivial rfl (do_move rfl) ?_
  refine wl_do trivial rfl (do_call (d_read B d s ⟨#[116, 109, 112]⟩ (N) (hdb) (by omega)) ⟨rfl, rfl, trivial⟩ enters_34 [0] [1, 2] ⟨rfl, trivial⟩ ⟨rfl, rfl, trivial⟩ (R := [_, _]) (by decide)) ?_
  rintro _ _ ⟨_, ⟨x1, rfl, rfl⟩, rfl⟩
  refine wl_1 trivial rfl (do_move rfl) ?_
  refine wl_1 trivial rfl (do_extract rfl rfl) ?_
  refine wl_1 trivial rfl (do_extract rfl rfl) ?_
  refine wl_1 trivial rfl (do_assign rfl) ?_
  refine wl_1 trivial rfl (do_assign rfl) ?_
  refine wl_nil ?_
  refine at_then ?_
  refine wc_seq ?_
  refine wc_seq ?_
  refine wc_region ?_
  refine wl_1 trivial rfl (do_move rfl) ?_
  refine wl_do trivial rfl (do_call (num_tri B ((readS ⟨#[116, 109, 112]⟩ s).1)) ⟨rfl, trivial⟩ enters_30 [] [0, 1, 2, 3] trivial ⟨rfl, rfl, rfl, rfl, trivial⟩ (R := [_, _, _, _]) (by decide)) ?_
  rintro _ _ ⟨_, ⟨rfl, rfl⟩, rfl⟩
  obtain ⟨c2, h_c2⟩ : ∃ c : Bool, cmpB .eql ((readS ⟨#[116, 109, 112]⟩ s).1) 0 = some c := ⟨_, rfl⟩
  refine wl_1 trivial rfl (do_cmp rfl rfl h_c2) ?_
  refine wl_nil ?_
  refine at_then ?_
  cases c2
  · have p_c2 := cmp_eql_f h_c2
    refine wc_false rfl ?_
    refine wc_skip ?_
    refine at_then ?_
    refine wc_seq ?_
    refine wc_region ?_
    refine wl_1 trivial rfl (do_move rfl) ?_
    refine wl_do trivial rfl (do_call (d_create B d s ⟨#[116, 109, 112]⟩ (N) (hdb) (by omega) (by decide)) ⟨rfl, rfl, trivial⟩ enters_40 [0] [1, 2, 3] ⟨rfl, trivial⟩ ⟨rfl, rfl, rfl, trivial⟩ (R := [_, _, _]) (by decide)) ?_
    rintro _ _ ⟨_, ⟨rfl, rfl⟩, rfl⟩
    refine wl_1 trivial rfl (do_assign rfl) ?_
    refine wl_nil ?_
    refine at_then ?_
    refine wc_seq ?_
    refine wc_seq ?_
    refine wc_region ?_
    refine wl_1 trivial rfl (do_move rfl) ?_
    refine wl_do trivial rfl (do_call (num_tri B ((createS ⟨#[116, 109, 112]⟩ s).1)) ⟨rfl, trivial⟩ enters_30 [] [0, 1, 2, 3] trivial ⟨rfl, rfl, rfl, rfl, trivial⟩ (R := [_, _, _, _]) (by decide)) ?_
    rintro _ _ ⟨_, ⟨rfl, rfl⟩, rfl⟩
    obtain ⟨c3, h_c3⟩ : ∃ c : Bool, cmpB .eql ((createS ⟨#[116, 109, 112]⟩ s).1) 0 = some c := ⟨_, rfl⟩
    refine wl_1 trivial rfl (do_cmp rfl rfl h_c3) ?_
    refine wl_nil ?_
    refine at_then ?_
    cases c3
    · have p_c3 := cmp_eql_f h_c3
      refine wc_false rfl ?_
      refine wc_skip ?_
      refine at_then ?_
      refine wc_seq ?_
      refine wc_seq ?_
      refine wc_region ?_
      refine wl_1 trivial rfl (do_move rfl) ?_
      refine wl_do trivial rfl (do_call (num_tri B ((createS ⟨#[116, 109, 112]⟩ s).1)) ⟨rfl, trivial⟩ enters_30 [] [0, 1, 2, 3] trivial ⟨rfl, rfl, rfl, rfl, trivial⟩ (R := [_, _, _, _]) (by decide)) ?_
      rintro _ _ ⟨_, ⟨rfl, rfl⟩, rfl⟩
      refine wl_1 trivial rfl (do_cmp (c := false) rfl rfl h_c3) ?_
      refine wl_nil ?_
      refine at_then ?_
      refine wc_false rfl ?_
      refine wc_skip ?_
      refine at_then ?_
      refine wc_seq ?_
      refine wc_seq ?_
      refine wc_region ?_
      refine wl_1 trivial rfl (do_move rfl) ?_
      refine wl_do trivial rfl (do_call (num_tri B ((createS ⟨#[116, 109, 112]⟩ s).1)) ⟨rfl, trivial⟩ enters_30 [] [0, 1, 2, 3] trivial ⟨rfl, rfl, rfl, rfl, trivial⟩ (R := [_, _, _, _]) (by decide)) ?_
      rintro _ _ ⟨_, ⟨rfl, rfl⟩, rfl⟩
      refine wl_1 trivial rfl (do_cmp (c := false) rfl rfl h_c3) ?_
      refine wl_nil ?_
      refine at_then ?_
      refine wc_false rfl ?_
      refine wc_skip ?_
      refine at_then ?_
      refine wc_seq ?_
      refine wc_seq ?_
      refine wc_region ?_
      refine wl_1 trivial rfl (do_move rfl) ?_
      refine wl_do trivial rfl (do_call (num_tri B ((createS ⟨#[116, 109, 112]⟩ s).1)) ⟨rfl, trivial⟩ enters_30 [] [0, 1, 2, 3] trivial ⟨rfl, rfl, rfl, rfl, trivial⟩ (R := [_, _, _, _]) (by decide)) ?_
      rintro _ _ ⟨_, ⟨rfl, rfl⟩, rfl⟩
      refine wl_1 trivial rfl (do_cmp (c := false) rfl rfl h_c3) ?_
      refine wl_nil ?_
      refine at_then ?_
      refine wc_false rfl ?_
      refine wc_skip ?_
      refine at_then ?_
      refine wc_seq ?_
      refine wc_region ?_
      refine wl_1 trivial rfl (do_move rfl) ?_
      refine wl_do trivial rfl (do_call (num_tri B ((createS ⟨#[116, 109, 112]⟩ s).1)) ⟨rfl, trivial⟩ enters_30 [] [0, 1, 2, 3] trivial ⟨rfl, rfl, rfl, rfl, trivial⟩ (R := [_, _, _, _]) (by decide)) ?_
      rintro _ _ ⟨_, ⟨rfl, rfl⟩, rfl⟩
      refine wl_1 trivial rfl (do_assign rfl) ?_
      refine wl_nil ?_
      refine at_then ?_
      refine wc_ret ?_
      refine at_pick (M := [_, _, _]) [0, 2, 3] ⟨rfl, rfl, rfl, trivial⟩ (by decide) ?_
      exact at_ret1 (M := [_, _]) rfl rfl (by unfold swapD swapA kT kI; rw [if_neg p_c2]; rw [if_neg p_c3]; exact ⟨rfl, rfl⟩) rfl
    · have p_c3 := cmp_eql_t h_c3
      refine wc_true rfl ?_
      refine wc_region ?_
      refine wl_1 trivial rfl (do_move rfl) ?_
      refine wl_1 trivial rfl (do_move rfl) ?_
      refine wl_do trivial rfl (do_call (d_append B d ((createS ⟨#[116, 109, 112]⟩ s).2) ⟨#[116, 109, 112]⟩ ba bc b R (N + 1) ((hdb.create ⟨#[116, 109, 112]⟩)) (by omega) hR (by omega)) ⟨rfl, rfl, rfl, trivial⟩ enters_41 [0, 2] [1, 3] ⟨rfl, rfl, trivial⟩ ⟨rfl, rfl, trivial⟩ (R := [_, _]) (by decide)) ?_
      rintro _ _ ⟨_, ⟨rfl, rfl⟩, rfl⟩
      refine wl_1 trivial rfl (do_assign rfl) ?_
      refine wl_nil ?_
      refine at_then ?_
      refine wc_seq ?_
      refine wc_seq ?_
      refine wc_region ?_
      refine wl_1 trivial rfl (do_move rfl) ?_
      refine wl_do trivial rfl (do_call (num_tri B ((appendS ⟨#[116, 109, 112]⟩ b ((createS ⟨#[116, 109, 112]⟩ s).2)).1)) ⟨rfl, trivial⟩ enters_30 [] [0, 1, 2, 3] trivial ⟨rfl, rfl, rfl, rfl, trivial⟩ (R := [_, _, _, _]) (by decide)) ?_
      rintro _ _ ⟨_, ⟨rfl, rfl⟩, rfl⟩
      obtain ⟨c4, h_c4⟩ : ∃ c : Bool, cmpB .eql ((appendS ⟨#[116, 109, 112]⟩ b ((createS ⟨#[116, 109, 112]⟩ s).2)).1) 0 = some c := ⟨_, rfl⟩
      refine wl_1 trivial rfl (do_cmp rfl rfl h_c4) ?_
      refine wl_nil ?_
      refine at_then ?_
      cases c4
      · have p_c4 := cmp_eql_f h_c4
        refine wc_false rfl ?_
        refine wc_skip ?_
        refine at_then ?_
        refine wc_seq ?_
        refine wc_seq ?_
        refine wc_region ?_
        refine wl_1 trivial rfl (do_move rfl) ?_
        refine wl_do trivial rfl (do_call (num_tri B ((appendS ⟨#[116, 109, 112]⟩ b ((createS ⟨#[116, 109, 112]⟩ s).2)).1)) ⟨rfl, trivial⟩ enters_30 [] [0, 1, 2, 3] trivial ⟨rfl, rfl, rfl, rfl, trivial⟩ (R := [_, _, _, _]) (by decide)) ?_
        rintro _ _ ⟨_, ⟨rfl, rfl⟩, rfl⟩
        refine wl_1 trivial rfl (do_cmp (c := false) rfl rfl h_c4) ?_
        refine wl_nil ?_
        refine at_then ?_
        refine wc_false rfl ?_
        refine wc_skip ?_
        refine at_then ?_
        refine wc_seq ?_
        refine wc_seq ?_
        refine wc_region ?_
        refine wl_1 trivial rfl (do_move rfl) ?_
        refine wl_do trivial rfl (do_call (num_tri B ((appendS ⟨#[116, 109, 112]⟩ b ((createS ⟨#[116, 109, 112]⟩ s).2)).1)) ⟨rfl, trivial⟩ enters_30 [] [0, 1, 2, 3] trivial ⟨rfl, rfl, rfl, rfl, trivial⟩ (R := [_, _, _, _]) (by decide)) ?_
        rintro _ _ ⟨_, ⟨rfl, rfl⟩, rfl⟩
        refine wl_1 trivial rfl (do_cmp (c := false) rfl rfl h_c4) ?_
        refine wl_nil ?_
        refine at_then ?_
        refine wc_false rfl ?_
        refine wc_skip ?_
        refine at_then ?_
        refine wc_seq ?_
        refine wc_region ?_
        refine wl_1 trivial rfl (do_move rfl) ?_
        refine wl_do trivial rfl (do_call (num_tri B ((appendS ⟨#[116, 109, 112]⟩ b ((createS ⟨#[116, 109, 112]⟩ s).2)).1)) ⟨rfl, trivial⟩ enters_30 [] [0, 1, 2, 3] trivial ⟨rfl, rfl, rfl, rfl, trivial⟩ (R := [_, _, _, _]) (by decide)) ?_
        rintro _ _ ⟨_, ⟨rfl, rfl⟩, rfl⟩
        refine wl_1 trivial rfl (do_assign rfl) ?_
        refine wl_nil ?_
        refine at_then ?_
        refine wc_ret ?_
        refine at_pick (M := [_, _, _]) [0, 1, 3] ⟨rfl, rfl, rfl, trivial⟩ (by decide) ?_
        exact at_ret1 (M := [_, _]) rfl rfl (by unfold swapD swapA kT kI; rw [if_neg p_c2]; rw [if_pos p_c3]; rw [if_neg p_c4]; exact ⟨rfl, rfl⟩) rfl
      · have p_c4 := cmp_eql_t h_c4
        refine wc_true rfl ?_
        refine wc_region ?_
        refine wl_1 trivial rfl (do_move rfl) ?_
        refine wl_do trivial rfl (do_call (d_sync B d ((appendS ⟨#[116, 109, 112]⟩ b ((createS ⟨#[116, 109, 112]⟩ s).2)).2) ⟨#[116, 109, 112]⟩ (N + 1 + 1) (((hdb.create ⟨#[116, 109, 112]⟩).append ⟨#[116, 109, 112]⟩ b)) (by omega)) ⟨rfl, rfl, trivial⟩ enters_44 [0] [1, 2, 3] ⟨rfl, trivial⟩ ⟨rfl, rfl, rfl, trivial⟩ (R := [_, _, _]) (by decide)) ?_
        rintro _ _ ⟨_, ⟨rfl, rfl⟩, rfl⟩
        refine wl_1 trivial rfl (do_assign rfl) ?_
        refine wl_nil ?_
        refine at_then ?_
        refine wc_seq ?_
        refine wc_seq ?_
        refine wc_region ?_
        refine wl_1 trivial rfl (do_move rfl) ?_
        refine wl_do trivial rfl (do_call (num_tri B ((syncS ⟨#[116, 109, 112]⟩ ((appendS ⟨#[116, 109, 112]⟩ b ((createS ⟨#[116, 109, 112]⟩ s).2)).2)).1)) ⟨rfl, trivial⟩ enters_30 [] [0, 1, 2, 3] trivial ⟨rfl, rfl, rfl, rfl, trivial⟩ (R := [_, _, _, _]) (by decide)) ?_
        rintro _ _ ⟨_, ⟨rfl, rfl⟩, rfl⟩
        obtain ⟨c5, h_c5⟩ : ∃ c : Bool, cmpB .eql ((syncS ⟨#[116, 109, 112]⟩ ((appendS ⟨#[116, 109, 112]⟩ b ((createS ⟨#[116, 109, 112]⟩ s).2)).2)).1) 0 = some c := ⟨_, rfl⟩
        refine wl_1 trivial rfl (do_cmp rfl rfl h_c5) ?_
        refine wl_nil ?_
        refine at_then ?_
        cases c5
        · have p_c5 := cmp_eql_f h_c5
          refine wc_false rfl ?_
          refine wc_skip ?_
          refine at_then ?_
          refine wc_seq ?_
          refine wc_seq ?_
          refine wc_region ?_
          refine wl_1 trivial rfl (do_move rfl) ?_
          refine wl_do trivial rfl (do_call (num_tri B ((syncS ⟨#[116, 109, 112]⟩ ((appendS ⟨#[116, 109, 112]⟩ b ((createS ⟨#[116, 109, 112]⟩ s).2)).2)).1)) ⟨rfl, trivial⟩ enters_30 [] [0, 1, 2, 3] trivial ⟨rfl, rfl, rfl, rfl, trivial⟩ (R := [_, _, _, _]) (by decide)) ?_
          rintro _ _ ⟨_, ⟨rfl, rfl⟩, rfl⟩
          refine wl_1 trivial rfl (do_cmp (c := false) rfl rfl h_c5) ?_
          refine wl_nil ?_
          refine at_then ?_
          refine wc_false rfl ?_
          refine wc_skip ?_
          refine at_then ?_
          refine wc_seq ?_
          refine wc_region ?_
          refine wl_1 trivial rfl (do_move rfl) ?_
          refine wl_do trivial rfl (do_call (num_tri B ((syncS ⟨#[116, 109, 112]⟩ ((appendS ⟨#[116, 109, 112]⟩ b ((createS ⟨#[116, 109, 112]⟩ s).2)).2)).1)) ⟨rfl, trivial⟩ enters_30 [] [0, 1, 2, 3] trivial ⟨rfl, rfl, rfl, rfl, trivial⟩ (R := [_, _, _, _]) (by decide)) ?_
          rintro _ _ ⟨_, ⟨rfl, rfl⟩, rfl⟩
          refine wl_1 trivial rfl (do_assign rfl) ?_
          refine wl_nil ?_
          refine at_then ?_
          refine wc_ret ?_
          refine at_pick (M := [_, _, _]) [0, 1, 3] ⟨rfl, rfl, rfl, trivial⟩ (by decide) ?_
          exact at_ret1 (M := [_, _]) rfl rfl (by unfold swapD swapA kT kI; rw [if_neg p_c2]; rw [if_pos p_c3]; rw [if_pos p_c4]; rw [if_neg p_c5]; exact ⟨rfl, rfl⟩) rfl
        · have p_c5 := cmp_eql_t h_c5
          refine wc_true rfl ?_
          refine wc_region ?_
          refine wl_1 trivial rfl (do_move rfl) ?_
          refine wl_do trivial rfl (do_call (d_rename B d ((syncS ⟨#[116, 109, 112]⟩ ((appendS ⟨#[116, 109, 112]⟩ b ((createS ⟨#[116, 109, 112]⟩ s).2)).2)).2) ⟨#[116, 109, 112]⟩ ⟨#[105, 116]⟩ (N + 1 + 1 + 1) ((((hdb.create ⟨#[116, 109, 112]⟩).append ⟨#[116, 109, 112]⟩ b).sync ⟨#[116, 109, 112]⟩)) (by omega) (by decide)) ⟨rfl, rfl, rfl, trivial⟩ enters_42 [0] [1, 2, 3] ⟨rfl, trivial⟩ ⟨rfl, rfl, rfl, trivial⟩ (R := [_, _, _]) (by decide)) ?_
          rintro _ _ ⟨_, ⟨rfl, rfl⟩, rfl⟩
          refine wl_1 trivial rfl (do_assign rfl) ?_
          refine wl_nil ?_
          refine at_then ?_
          refine wc_seq ?_
          refine wc_seq ?_
          refine wc_region ?_
          refine wl_1 trivial rfl (do_move rfl) ?_
          refine wl_do trivial rfl (do_call (num_tri B ((renameS ⟨#[116, 109, 112]⟩ ⟨#[105, 116]⟩ ((syncS ⟨#[116, 109, 112]⟩ ((appendS ⟨#[116, 109, 112]⟩ b ((createS ⟨#[116, 109, 112]⟩ s).2)).2)).2)).1)) ⟨rfl, trivial⟩ enters_30 [] [0, 1, 2, 3] trivial ⟨rfl, rfl, rfl, rfl, trivial⟩ (R := [_, _, _, _]) (by decide)) ?_
          rintro _ _ ⟨_, ⟨rfl, rfl⟩, rfl⟩
          obtain ⟨c6, h_c6⟩ : ∃ c : Bool, cmpB .eql ((renameS ⟨#[116, 109, 112]⟩ ⟨#[105, 116]⟩ ((syncS ⟨#[116, 109, 112]⟩ ((appendS ⟨#[116, 109, 112]⟩ b ((createS ⟨#[116, 109, 112]⟩ s).2)).2)).2)).1) 0 = some c := ⟨_, rfl⟩
          refine wl_1 trivial rfl (do_cmp rfl rfl h_c6) ?_
          refine wl_nil ?_
          refine at_then ?_
          cases c6
          · have p_c6 := cmp_eql_f h_c6
            refine wc_false rfl ?_
            refine wc_skip ?_
            refine at_then ?_
            refine wc_seq ?_
            refine wc_region ?_
            refine wl_1 trivial rfl (do_move rfl) ?_
            refine wl_do trivial rfl (do_call (num_tri B ((renameS ⟨#[116, 109, 112]⟩ ⟨#[105, 116]⟩ ((syncS ⟨#[116, 109, 112]⟩ ((appendS ⟨#[116, 109, 112]⟩ b ((createS ⟨#[116, 109, 112]⟩ s).2)).2)).2)).1)) ⟨rfl, trivial⟩ enters_30 [] [0, 1, 2, 3] trivial ⟨rfl, rfl, rfl, rfl, trivial⟩ (R := [_, _, _, _]) (by decide)) ?_
            rintro _ _ ⟨_, ⟨rfl, rfl⟩, rfl⟩
            refine wl_1 trivial rfl (do_assign rfl) ?_
            refine wl_nil ?_
            refine at_then ?_
            refine wc_ret ?_
            refine at_pick (M := [_, _, _]) [0, 1, 3] ⟨rfl, rfl, rfl, trivial⟩ (by decide) ?_
            exact at_ret1 (M := [_, _]) rfl rfl (by unfold swapD swapA kT kI; rw [if_neg p_c2]; rw [if_pos p_c3]; rw [if_pos p_c4]; rw [if_pos p_c5]; rw [if_neg p_c6]; exact ⟨rfl, rfl⟩) rfl
          · have p_c6 := cmp_eql_t h_c6
            refine wc_true rfl ?_
            refine wc_region ?_
            refine wl_1 trivial rfl (do_move rfl) ?_
            refine wl_do trivial rfl (do_call (d_syncdir B d ((renameS ⟨#[116, 109, 112]⟩ ⟨#[105, 116]⟩ ((syncS ⟨#[116, 109, 112]⟩ ((appendS ⟨#[116, 109, 112]⟩ b ((createS ⟨#[116, 109, 112]⟩ s).2)).2)).2)).2) (N + 1 + 1 + 1 + 1) (((((hdb.create ⟨#[116, 109, 112]⟩).append ⟨#[116, 109, 112]⟩ b).sync ⟨#[116, 109, 112]⟩).rename ⟨#[116, 109, 112]⟩ ⟨#[105, 116]⟩)) (by omega)) ⟨rfl, trivial⟩ enters_45 [0] [1, 2, 3] ⟨rfl, trivial⟩ ⟨rfl, rfl, rfl, trivial⟩ (R := [_, _, _]) (by decide)) ?_
            rintro _ _ ⟨_, ⟨rfl, rfl⟩, rfl⟩
            refine wl_1 trivial rfl (do_assign rfl) ?_
            refine wl_nil ?_
            refine at_then ?_
            refine wc_seq ?_
            refine wc_region ?_
            refine wl_1 trivial rfl (do_move rfl) ?_
            refine wl_do trivial rfl (do_call (num_tri B ((syncdirS ((renameS ⟨#[116, 109, 112]⟩ ⟨#[105, 116]⟩ ((syncS ⟨#[116, 109, 112]⟩ ((appendS ⟨#[116, 109, 112]⟩ b ((createS ⟨#[116, 109, 112]⟩ s).2)).2)).2)).2)).1)) ⟨rfl, trivial⟩ enters_30 [] [0, 1, 2, 3] trivial ⟨rfl, rfl, rfl, rfl, trivial⟩ (R := [_, _, _, _]) (by decide)) ?_
            rintro _ _ ⟨_, ⟨rfl, rfl⟩, rfl⟩
            refine wl_1 trivial rfl (do_assign rfl) ?_
            refine wl_nil ?_
            refine at_then ?_
            refine wc_ret ?_
            refine at_pick (M := [_, _, _]) [0, 1, 3] ⟨rfl, rfl, rfl, trivial⟩ (by decide) ?_
            exact at_ret1 (M := [_, _]) rfl rfl (by unfold swapD swapA kT kI; rw [if_neg p_c2]; rw [if_pos p_c3]; rw [if_pos p_c4]; rw [if_pos p_c5]; rw [if_pos p_c6]; exact ⟨rfl, rfl⟩) rfl
  · have p_c2 := cmp_eql_t h_c2
    refine wc_true rfl ?_
    refine wc_seq ?_
    refine wc_region ?_
    refine wl_1 trivial rfl (do_move rfl) ?_
    refine wl_do trivial rfl (do_call (d_remove B d s ⟨#[116, 109, 112]⟩ (N) (hdb) (by omega)) ⟨rfl, rfl, trivial⟩ enters_43 [0] [1, 2, 3] ⟨rfl, trivial⟩ ⟨rfl, rfl, rfl, trivial⟩ (R := [_, _, _]) (by decide)) ?_
    rintro _ _ ⟨_, ⟨rfl, rfl⟩, rfl⟩
    refine wl_1 trivial rfl (do_assign rfl) ?_
    refine wl_nil ?_
    refine at_then ?_
    refine wc_seq ?_
    refine wc_seq ?_
    refine wc_region ?_
    refine wl_1 trivial rfl (do_move rfl) ?_
    refine wl_do trivial rfl (do_call (num_tri B ((removeS ⟨#[116, 109, 112]⟩ s).1)) ⟨rfl, trivial⟩ enters_30 [] [0, 1, 2, 3] trivial ⟨rfl, rfl, rfl, rfl, trivial⟩ (R := [_, _, _, _]) (by decide)) ?_
    rintro _ _ ⟨_, ⟨rfl, rfl⟩, rfl⟩
    obtain ⟨c7, h_c7⟩ : ∃ c : Bool, cmpB .eql ((removeS ⟨#[116, 109, 112]⟩ s).1) 0 = some c := ⟨_, rfl⟩
    refine wl_1 trivial rfl (do_cmp rfl rfl h_c7) ?_
    refine wl_nil ?_
    refine at_then ?_
    cases c7
    · have p_c7 := cmp_eql_f h_c7
      refine wc_false rfl ?_
      refine wc_skip ?_
      refine at_then ?_
      refine wc_seq ?_
      refine wc_region ?_
      refine wl_1 trivial rfl (do_move rfl) ?_
      refine wl_do trivial rfl (do_call (num_tri B ((removeS ⟨#[116, 109, 112]⟩ s).1)) ⟨rfl, trivial⟩ enters_30 [] [0, 1, 2, 3] trivial ⟨rfl, rfl, rfl, rfl, trivial⟩ (R := [_, _, _, _]) (by decide)) ?_
      rintro _ _ ⟨_, ⟨rfl, rfl⟩, rfl⟩
      refine wl_1 trivial rfl (do_cmp (c := true) rfl rfl (cmpB_neq h_c7)) ?_
      refine wl_nil ?_
      refine at_then ?_
      refine wc_true rfl ?_
      refine wc_seq ?_
      refine wc_region ?_
      refine wl_1 trivial rfl (do_move rfl) ?_
      refine wl_do trivial rfl (do_call (num_tri B ((removeS ⟨#[116, 109, 112]⟩ s).1)) ⟨rfl, trivial⟩ enters_30 [] [0, 1, 2, 3] trivial ⟨rfl, rfl, rfl, rfl, trivial⟩ (R := [_, _, _, _]) (by decide)) ?_
      rintro _ _ ⟨_, ⟨rfl, rfl⟩, rfl⟩
      refine wl_1 trivial rfl (do_assign rfl) ?_
      refine wl_nil ?_
      refine at_then ?_
      refine wc_ret ?_
      refine at_then_ret ?_
      refine at_pick (M := [_, _, _]) [0, 2, 3] ⟨rfl, rfl, rfl, trivial⟩ (by decide) ?_
      exact at_ret1 (M := [_, _]) rfl rfl (by unfold swapD swapA kT kI; rw [if_pos p_c2]; rw [if_neg p_c7]; exact ⟨rfl, rfl⟩) rfl
    · have p_c7 := cmp_eql_t h_c7
      refine wc_true rfl ?_
      refine wc_region ?_
      refine wl_1 trivial rfl (do_move rfl) ?_
      refine wl_do trivial rfl (do_call (d_syncdir B d ((removeS ⟨#[116, 109, 112]⟩ s).2) (N + 1) ((hdb.remove ⟨#[116, 109, 112]⟩)) (by omega)) ⟨rfl, trivial⟩ enters_45 [0] [1, 2, 3] ⟨rfl, trivial⟩ ⟨rfl, rfl, rfl, trivial⟩ (R := [_, _, _]) (by decide)) ?_
      rintro _ _ ⟨_, ⟨rfl, rfl⟩, rfl⟩
      refine wl_1 trivial rfl (do_assign rfl) ?_
      refine wl_nil ?_
      refine at_then ?_
      refine wc_seq ?_
      refine wc_region ?_
      refine wl_1 trivial rfl (do_move rfl) ?_
      refine wl_do trivial rfl (do_call (num_tri B ((syncdirS ((removeS ⟨#[116, 109, 112]⟩ s).2)).1)) ⟨rfl, trivial⟩ enters_30 [] [0, 1, 2, 3] trivial ⟨rfl, rfl, rfl, rfl, trivial⟩ (R := [_, _, _, _]) (by decide)) ?_
      rintro _ _ ⟨_, ⟨rfl, rfl⟩, rfl⟩
      obtain ⟨c8, h_c8⟩ : ∃ c : Bool, cmpB .neq ((syncdirS ((removeS ⟨#[116, 109, 112]⟩ s).2)).1) 0 = some c := ⟨_, rfl⟩
      refine wl_1 trivial rfl (do_cmp rfl rfl h_c8) ?_
      refine wl_nil ?_
      refine at_then ?_
      cases c8
      · have p_c8 := cmp_neq_f h_c8
        refine wc_false rfl ?_
        refine wc_skip ?_
        refine at_then ?_
        refine wc_seq ?_
        refine wc_region ?_
        refine wl_1 trivial rfl (do_move rfl) ?_
        refine wl_do trivial rfl (do_call (d_create B d ((syncdirS ((removeS ⟨#[116, 109, 112]⟩ s).2)).2) ⟨#[116, 109, 112]⟩ (N + 1 + 1) (((hdb.remove ⟨#[116, 109, 112]⟩).syncdir)) (by omega) (by decide)) ⟨rfl, rfl, trivial⟩ enters_40 [0] [1, 2, 3] ⟨rfl, trivial⟩ ⟨rfl, rfl, rfl, trivial⟩ (R := [_, _, _]) (by decide)) ?_
        rintro _ _ ⟨_, ⟨rfl, rfl⟩, rfl⟩
        refine wl_1 trivial rfl (do_assign rfl) ?_
        refine wl_nil ?_
        refine at_then ?_
        refine wc_seq ?_
        refine wc_seq ?_
        refine wc_region ?_
        refine wl_1 trivial rfl (do_move rfl) ?_
        refine wl_do trivial rfl (do_call (num_tri B ((createS ⟨#[116, 109, 112]⟩ ((syncdirS ((removeS ⟨#[116, 109, 112]⟩ s).2)).2)).1)) ⟨rfl, trivial⟩ enters_30 [] [0, 1, 2, 3] trivial ⟨rfl, rfl, rfl, rfl, trivial⟩ (R := [_, _, _, _]) (by decide)) ?_
        rintro _ _ ⟨_, ⟨rfl, rfl⟩, rfl⟩
        obtain ⟨c9, h_c9⟩ : ∃ c : Bool, cmpB .eql ((createS ⟨#[116, 109, 112]⟩ ((syncdirS ((removeS ⟨#[116, 109, 112]⟩ s).2)).2)).1) 0 = some c := ⟨_, rfl⟩
        refine wl_1 trivial rfl (do_cmp rfl rfl h_c9) ?_
        refine wl_nil ?_
        refine at_then ?_
        cases c9
        · have p_c9 := cmp_eql_f h_c9
          refine wc_false rfl ?_
          refine wc_skip ?_
          refine at_then ?_
          refine wc_seq ?_
          refine wc_seq ?_
          refine wc_region ?_
          refine wl_1 trivial rfl (do_move rfl) ?_
          refine wl_do trivial rfl (do_call (num_tri B ((createS ⟨#[116, 109, 112]⟩ ((syncdirS ((removeS ⟨#[116, 109, 112]⟩ s).2)).2)).1)) ⟨rfl, trivial⟩ enters_30 [] [0, 1, 2, 3] trivial ⟨rfl, rfl, rfl, rfl, trivial⟩ (R := [_, _, _, _]) (by decide)) ?_
          rintro _ _ ⟨_, ⟨rfl, rfl⟩, rfl⟩
          refine wl_1 trivial rfl (do_cmp (c := false) rfl rfl h_c9) ?_
          refine wl_nil ?_
          refine at_then ?_
          refine wc_false rfl ?_
          refine wc_skip ?_
          refine at_then ?_
          refine wc_seq ?_
          refine wc_seq ?_
          refine wc_region ?_
          refine wl_1 trivial rfl (do_move rfl) ?_
          refine wl_do trivial rfl (do_call (num_tri B ((createS ⟨#[116, 109, 112]⟩ ((syncdirS ((removeS ⟨#[116, 109, 112]⟩ s).2)).2)).1)) ⟨rfl, trivial⟩ enters_30 [] [0, 1, 2, 3] trivial ⟨rfl, rfl, rfl, rfl, trivial⟩ (R := [_, _, _, _]) (by decide)) ?_
          rintro _ _ ⟨_, ⟨rfl, rfl⟩, rfl⟩
          refine wl_1 trivial rfl (do_cmp (c := false) rfl rfl h_c9) ?_
          refine wl_nil ?_
          refine at_then ?_
          refine wc_false rfl ?_
          refine wc_skip ?_
          refine at_then ?_
          refine wc_seq ?_
          refine wc_seq ?_
          refine wc_region ?_
          refine wl_1 trivial rfl (do_move rfl) ?_
          refine wl_do trivial rfl (do_call (num_tri B ((createS ⟨#[116, 109, 112]⟩ ((syncdirS ((removeS ⟨#[116, 109, 112]⟩ s).2)).2)).1)) ⟨rfl, trivial⟩ enters_30 [] [0, 1, 2, 3] trivial ⟨rfl, rfl, rfl, rfl, trivial⟩ (R := [_, _, _, _]) (by decide)) ?_
          rintro _ _ ⟨_, ⟨rfl, rfl⟩, rfl⟩
          refine wl_1 trivial rfl (do_cmp (c := false) rfl rfl h_c9) ?_
          refine wl_nil ?_
          refine at_then ?_
          refine wc_false rfl ?_
          refine wc_skip ?_
          refine at_then ?_
          refine wc_seq ?_
          refine wc_region ?_
          refine wl_1 trivial rfl (do_move rfl) ?_
          refine wl_do trivial rfl (do_call (num_tri B ((createS ⟨#[116, 109, 112]⟩ ((syncdirS ((removeS ⟨#[116, 109, 112]⟩ s).2)).2)).1)) ⟨rfl, trivial⟩ enters_30 [] [0, 1, 2, 3] trivial ⟨rfl, rfl, rfl, rfl, trivial⟩ (R := [_, _, _, _]) (by decide)) ?_
          rintro _ _ ⟨_, ⟨rfl, rfl⟩, rfl⟩
          refine wl_1 trivial rfl (do_assign rfl) ?_
          refine wl_nil ?_
          refine at_then ?_
          refine wc_ret ?_
          refine at_pick (M := [_, _, _]) [0, 2, 3] ⟨rfl, rfl, rfl, trivial⟩ (by decide) ?_
          exact at_ret1 (M := [_, _]) rfl rfl (by unfold swapD swapA kT kI; rw [if_pos p_c2]; rw [if_pos p_c7]; rw [if_pos p_c8]; rw [if_neg p_c9]; exact ⟨rfl, rfl⟩) rfl
        · have p_c9 := cmp_eql_t h_c9
          refine wc_true rfl ?_
          refine wc_region ?_
          refine wl_1 trivial rfl (do_move rfl) ?_
          refine wl_1 trivial rfl (do_move rfl) ?_
          refine wl_do trivial rfl (do_call (d_append B d ((createS ⟨#[116, 109, 112]⟩ ((syncdirS ((removeS ⟨#[116, 109, 112]⟩ s).2)).2)).2) ⟨#[116, 109, 112]⟩ ba bc b R (N + 1 + 1 + 1) ((((hdb.remove ⟨#[116, 109, 112]⟩).syncdir).create ⟨#[116, 109, 112]⟩)) (by omega) hR (by omega)) ⟨rfl, rfl, rfl, trivial⟩ enters_41 [0, 2] [1, 3] ⟨rfl, rfl, trivial⟩ ⟨rfl, rfl, trivial⟩ (R := [_, _]) (by decide)) ?_
          rintro _ _ ⟨_, ⟨rfl, rfl⟩, rfl⟩
          refine wl_1 trivial rfl (do_assign rfl) ?_
          refine wl_nil ?_
          refine at_then ?_
          refine wc_seq ?_
          refine wc_seq ?_
          refine wc_region ?_
          refine wl_1 trivial rfl (do_move rfl) ?_
          refine wl_do trivial rfl (do_call (num_tri B ((appendS ⟨#[116, 109, 112]⟩ b ((createS ⟨#[116, 109, 112]⟩ ((syncdirS ((removeS ⟨#[116, 109, 112]⟩ s).2)).2)).2)).1)) ⟨rfl, trivial⟩ enters_30 [] [0, 1, 2, 3] trivial ⟨rfl, rfl, rfl, rfl, trivial⟩ (R := [_, _, _, _]) (by decide)) ?_
          rintro _ _ ⟨_, ⟨rfl, rfl⟩, rfl⟩
          obtain ⟨c10, h_c10⟩ : ∃ c : Bool, cmpB .eql ((appendS ⟨#[116, 109, 112]⟩ b ((createS ⟨#[116, 109, 112]⟩ ((syncdirS ((removeS ⟨#[116, 109, 112]⟩ s).2)).2)).2)).1) 0 = some c := ⟨_, rfl⟩
          refine wl_1 trivial rfl (do_cmp rfl rfl h_c10) ?_
          refine wl_nil ?_
          refine at_then ?_
          cases c10
          · have p_c10 := cmp_eql_f h_c10
            refine wc_false rfl ?_
            refine wc_skip ?_
            refine at_then ?_
            refine wc_seq ?_
            refine wc_seq ?_
            refine wc_region ?_
            refine wl_1 trivial rfl (do_move rfl) ?_
            refine wl_do trivial rfl (do_call (num_tri B ((appendS ⟨#[116, 109, 112]⟩ b ((createS ⟨#[116, 109, 112]⟩ ((syncdirS ((removeS ⟨#[116, 109, 112]⟩ s).2)).2)).2)).1)) ⟨rfl, trivial⟩ enters_30 [] [0, 1, 2, 3] trivial ⟨rfl, rfl, rfl, rfl, trivial⟩ (R := [_, _, _, _]) (by decide)) ?_
            rintro _ _ ⟨_, ⟨rfl, rfl⟩, rfl⟩
            refine wl_1 trivial rfl (do_cmp (c := false) rfl rfl h_c10) ?_
            refine wl_nil ?_
            refine at_then ?_
            refine wc_false rfl ?_
            refine wc_skip ?_
            refine at_then ?_
            refine wc_seq ?_
            refine wc_seq ?_
            refine wc_region ?_
            refine wl_1 trivial rfl (do_move rfl) ?_
            refine wl_do trivial rfl (do_call (num_tri B ((appendS ⟨#[116, 109, 112]⟩ b ((createS ⟨#[116, 109, 112]⟩ ((syncdirS ((removeS ⟨#[116, 109, 112]⟩ s).2)).2)).2)).1)) ⟨rfl, trivial⟩ enters_30 [] [0, 1, 2, 3] trivial ⟨rfl, rfl, rfl, rfl, trivial⟩ (R := [_, _, _, _]) (by decide)) ?_
            rintro _ _ ⟨_, ⟨rfl, rfl⟩, rfl⟩
            refine wl_1 trivial rfl (do_cmp (c := false) rfl rfl h_c10) ?_
            refine wl_nil ?_
            refine at_then ?_
            refine wc_false rfl ?_
            refine wc_skip ?_
            refine at_then ?_
            refine wc_seq ?_
            refine wc_region ?_
            refine wl_1 trivial rfl (do_move rfl) ?_
            refine wl_do trivial rfl (do_call (num_tri B ((appendS ⟨#[116, 109, 112]⟩ b ((createS ⟨#[116, 109, 112]⟩ ((syncdirS ((removeS ⟨#[116, 109, 112]⟩ s).2)).2)).2)).1)) ⟨rfl, trivial⟩ enters_30 [] [0, 1, 2, 3] trivial ⟨rfl, rfl, rfl, rfl, trivial⟩ (R := [_, _, _, _]) (by decide)) ?_
            rintro _ _ ⟨_, ⟨rfl, rfl⟩, rfl⟩
            refine wl_1 trivial rfl (do_assign rfl) ?_
            refine wl_nil ?_
            refine at_then ?_
            refine wc_ret ?_
            refine at_pick (M := [_, _, _]) [0, 1, 3] ⟨rfl, rfl, rfl, trivial⟩ (by decide) ?_
            exact at_ret1 (M := [_, _]) rfl rfl (by unfold swapD swapA kT kI; rw [if_pos p_c2]; rw [if_pos p_c7]; rw [if_pos p_c8]; rw [if_pos p_c9]; rw [if_neg p_c10]; exact ⟨rfl, rfl⟩) rfl
          · have p_c10 := cmp_eql_t h_c10
            refine wc_true rfl ?_
            refine wc_region ?_
            refine wl_1 trivial rfl (do_move rfl) ?_
            refine wl_do trivial rfl (do_call (d_sync B d ((appendS ⟨#[116, 109, 112]⟩ b ((createS ⟨#[116, 109, 112]⟩ ((syncdirS ((removeS ⟨#[116, 109, 112]⟩ s).2)).2)).2)).2) ⟨#[116, 109, 112]⟩ (N + 1 + 1 + 1 + 1) (((((hdb.remove ⟨#[116, 109, 112]⟩).syncdir).create ⟨#[116, 109, 112]⟩).append ⟨#[116, 109, 112]⟩ b)) (by omega)) ⟨rfl, rfl, trivial⟩ enters_44 [0] [1, 2, 3] ⟨rfl, trivial⟩ ⟨rfl, rfl, rfl, trivial⟩ (R := [_, _, _]) (by decide)) ?_
            rintro _ _ ⟨_, ⟨rfl, rfl⟩, rfl⟩
            refine wl_1 trivial rfl (do_assign rfl) ?_
            refine wl_nil ?_
            refine at_then ?_
            refine wc_seq ?_
            refine wc_seq ?_
            refine wc_region ?_
            refine wl_1 trivial rfl (do_move rfl) ?_
            refine wl_do trivial rfl (do_call (num_tri B ((syncS ⟨#[116, 109, 112]⟩ ((appendS ⟨#[116, 109, 112]⟩ b ((createS ⟨#[116, 109, 112]⟩ ((syncdirS ((removeS ⟨#[116, 109, 112]⟩ s).2)).2)).2)).2)).1)) ⟨rfl, trivial⟩ enters_30 [] [0, 1, 2, 3] trivial ⟨rfl, rfl, rfl, rfl, trivial⟩ (R := [_, _, _, _]) (by decide)) ?_
            rintro _ _ ⟨_, ⟨rfl, rfl⟩, rfl⟩
            obtain ⟨c11, h_c11⟩ : ∃ c : Bool, cmpB .eql ((syncS ⟨#[116, 109, 112]⟩ ((appendS ⟨#[116, 109, 112]⟩ b ((createS ⟨#[116, 109, 112]⟩ ((syncdirS ((removeS ⟨#[116, 109, 112]⟩ s).2)).2)).2)).2)).1) 0 = some c := ⟨_, rfl⟩
            refine wl_1 trivial rfl (do_cmp rfl rfl h_c11) ?_
            refine wl_nil ?_
            refine at_then ?_
            cases c11
            · have p_c11 := cmp_eql_f h_c11
              refine wc_false rfl ?_
              refine wc_skip ?_
              refine at_then ?_
              refine wc_seq ?_
              refine wc_seq ?_
              refine wc_region ?_
              refine wl_1 trivial rfl (do_move rfl) ?_
              refine wl_do trivial rfl (do_call (num_tri B ((syncS ⟨#[116, 109, 112]⟩ ((appendS ⟨#[116, 109, 112]⟩ b ((createS ⟨#[116, 109, 112]⟩ ((syncdirS ((removeS ⟨#[116, 109, 112]⟩ s).2)).2)).2)).2)).1)) ⟨rfl, trivial⟩ enters_30 [] [0, 1, 2, 3] trivial ⟨rfl, rfl, rfl, rfl, trivial⟩ (R := [_, _, _, _]) (by decide)) ?_
              rintro _ _ ⟨_, ⟨rfl, rfl⟩, rfl⟩
              refine wl_1 trivial rfl (do_cmp (c := false) rfl rfl h_c11) ?_
              refine wl_nil ?_
              refine at_then ?_
              refine wc_false rfl ?_
              refine wc_skip ?_
              refine at_then ?_
              refine wc_seq ?_
              refine wc_region ?_
              refine wl_1 trivial rfl (do_move rfl) ?_
              refine wl_do trivial rfl (do_call (num_tri B ((syncS ⟨#[116, 109, 112]⟩ ((appendS ⟨#[116, 109, 112]⟩ b ((createS ⟨#[116, 109, 112]⟩ ((syncdirS ((removeS ⟨#[116, 109, 112]⟩ s).2)).2)).2)).2)).1)) ⟨rfl, trivial⟩ enters_30 [] [0, 1, 2, 3] trivial ⟨rfl, rfl, rfl, rfl, trivial⟩ (R := [_, _, _, _]) (by decide)) ?_
              rintro _ _ ⟨_, ⟨rfl, rfl⟩, rfl⟩
              refine wl_1 trivial rfl (do_assign rfl) ?_
              refine wl_nil ?_
              refine at_then ?_
              refine wc_ret ?_
              refine at_pick (M := [_, _, _]) [0, 1, 3] ⟨rfl, rfl, rfl, trivial⟩ (by decide) ?_
              exact at_ret1 (M := [_, _]) rfl rfl (by unfold swapD swapA kT kI; rw [if_pos p_c2]; rw [if_pos p_c7]; rw [if_pos p_c8]; rw [if_pos p_c9]; rw [if_pos p_c10]; rw [if_neg p_c11]; exact ⟨rfl, rfl⟩) rfl
            · have p_c11 := cmp_eql_t h_c11
              refine wc_true rfl ?_
              refine wc_region ?_
              refine wl_1 trivial rfl (do_move rfl) ?_
              refine wl_do trivial rfl (do_call (d_rename B d ((syncS ⟨#[116, 109, 112]⟩ ((appendS ⟨#[116, 109, 112]⟩ b ((createS ⟨#[116, 109, 112]⟩ ((syncdirS ((removeS ⟨#[116, 109, 112]⟩ s).2)).2)).2)).2)).2) ⟨#[116, 109, 112]⟩ ⟨#[105, 116]⟩ (N + 1 + 1 + 1 + 1 + 1) ((((((hdb.remove ⟨#[116, 109, 112]⟩).syncdir).create ⟨#[116, 109, 112]⟩).append ⟨#[116, 109, 112]⟩ b).sync ⟨#[116, 109, 112]⟩)) (by omega) (by decide)) ⟨rfl, rfl, rfl, trivial⟩ enters_42 [0] [1, 2, 3] ⟨rfl, trivial⟩ ⟨rfl, rfl, rfl, trivial⟩ (R := [_, _, _]) (by decide)) ?_
              rintro _ _ ⟨_, ⟨rfl, rfl⟩, rfl⟩
              refine wl_1 trivial rfl (do_assign rfl) ?_
              refine wl_nil ?_
              refine at_then ?_
              refine wc_seq ?_
              refine wc_seq ?_
              refine wc_region ?_
              refine wl_1 trivial rfl (do_move rfl) ?_
              refine wl_do trivial rfl (do_call (num_tri B ((renameS ⟨#[116, 109, 112]⟩ ⟨#[105, 116]⟩ ((syncS ⟨#[116, 109, 112]⟩ ((appendS ⟨#[116, 109, 112]⟩ b ((createS ⟨#[116, 109, 112]⟩ ((syncdirS ((removeS ⟨#[116, 109, 112]⟩ s).2)).2)).2)).2)).2)).1)) ⟨rfl, trivial⟩ enters_30 [] [0, 1, 2, 3] trivial ⟨rfl, rfl, rfl, rfl, trivial⟩ (R := [_, _, _, _]) (by decide)) ?_
              rintro _ _ ⟨_, ⟨rfl, rfl⟩, rfl⟩
              obtain ⟨c12, h_c12⟩ : ∃ c : Bool, cmpB .eql ((renameS ⟨#[116, 109, 112]⟩ ⟨#[105, 116]⟩ ((syncS ⟨#[116, 109, 112]⟩ ((appendS ⟨#[116, 109, 112]⟩ b ((createS ⟨#[116, 109, 112]⟩ ((syncdirS ((removeS ⟨#[116, 109, 112]⟩ s).2)).2)).2)).2)).2)).1) 0 = some c := ⟨_, rfl⟩
              refine wl_1 trivial rfl (do_cmp rfl rfl h_c12) ?_
              refine wl_nil ?_
              refine at_then ?_
              cases c12
              · have p_c12 := cmp_eql_f h_c12
                refine wc_false rfl ?_
                refine wc_skip ?_
                refine at_then ?_
                refine wc_seq ?_
                refine wc_region ?_
                refine wl_1 trivial rfl (do_move rfl) ?_
                refine wl_do trivial rfl (do_call (num_tri B ((renameS ⟨#[116, 109, 112]⟩ ⟨#[105, 116]⟩ ((syncS ⟨#[116, 109, 112]⟩ ((appendS ⟨#[116, 109, 112]⟩ b ((createS ⟨#[116, 109, 112]⟩ ((syncdirS ((removeS ⟨#[116, 109, 112]⟩ s).2)).2)).2)).2)).2)).1)) ⟨rfl, trivial⟩ enters_30 [] [0, 1, 2, 3] trivial ⟨rfl, rfl, rfl, rfl, trivial⟩ (R := [_, _, _, _]) (by decide)) ?_
                rintro _ _ ⟨_, ⟨rfl, rfl⟩, rfl⟩
                refine wl_1 trivial rfl (do_assign rfl) ?_
                refine wl_nil ?_
                refine at_then ?_
                refine wc_ret ?_
                refine at_pick (M := [_, _, _]) [0, 1, 3] ⟨rfl, rfl, rfl, trivial⟩ (by decide) ?_
                exact at_ret1 (M := [_, _]) rfl rfl (by unfold swapD swapA kT kI; rw [if_pos p_c2]; rw [if_pos p_c7]; rw [if_pos p_c8]; rw [if_pos p_c9]; rw [if_pos p_c10]; rw [if_pos p_c11]; rw [if_neg p_c12]; exact ⟨rfl, rfl⟩) rfl
              · have p_c12 := cmp_eql_t h_c12
                refine wc_true rfl ?_
                refine wc_region ?_
                refine wl_1 trivial rfl (do_move rfl) ?_
                refine wl_do trivial rfl (do_call (d_syncdir B d ((renameS ⟨#[116, 109, 112]⟩ ⟨#[105, 116]⟩ ((syncS ⟨#[116, 109, 112]⟩ ((appendS ⟨#[116, 109, 112]⟩ b ((createS ⟨#[116, 109, 112]⟩ ((syncdirS ((removeS ⟨#[116, 109, 112]⟩ s).2)).2)).2)).2)).2)).2) (N + 1 + 1 + 1 + 1 + 1 + 1) (((((((hdb.remove ⟨#[116, 109, 112]⟩).syncdir).create ⟨#[116, 109, 112]⟩).append ⟨#[116, 109, 112]⟩ b).sync ⟨#[116, 109, 112]⟩).rename ⟨#[116, 109, 112]⟩ ⟨#[105, 116]⟩)) (by omega)) ⟨rfl, trivial⟩ enters_45 [0] [1, 2, 3] ⟨rfl, trivial⟩ ⟨rfl, rfl, rfl, trivial⟩ (R := [_, _, _]) (by decide)) ?_
                rintro _ _ ⟨_, ⟨rfl, rfl⟩, rfl⟩
                refine wl_1 trivial rfl (do_assign rfl) ?_
                refine wl_nil ?_
                refine at_then ?_
                refine wc_seq ?_
                refine wc_region ?_
                refine wl_1 trivial rfl (do_move rfl) ?_
                refine wl_do trivial rfl (do_call (num_tri B ((syncdirS ((renameS ⟨#[116, 109, 112]⟩ ⟨#[105, 116]⟩ ((syncS ⟨#[116, 109, 112]⟩ ((appendS ⟨#[116, 109, 112]⟩ b ((createS ⟨#[116, 109, 112]⟩ ((syncdirS ((removeS ⟨#[116, 109, 112]⟩ s).2)).2)).2)).2)).2)).2)).1)) ⟨rfl, trivial⟩ enters_30 [] [0, 1, 2, 3] trivial ⟨rfl, rfl, rfl, rfl, trivial⟩ (R := [_, _, _, _]) (by decide)) ?_
                rintro _ _ ⟨_, ⟨rfl, rfl⟩, rfl⟩
                refine wl_1 trivial rfl (do_assign rfl) ?_
                refine wl_nil ?_
                refine at_then ?_
                refine wc_ret ?_
                refine at_pick (M := [_, _, _]) [0, 1, 3] ⟨rfl, rfl, rfl, trivial⟩ (by decide) ?_
                exact at_ret1 (M := [_, _]) rfl rfl (by unfold swapD swapA kT kI; rw [if_pos p_c2]; rw [if_pos p_c7]; rw [if_pos p_c8]; rw [if_pos p_c9]; rw [if_pos p_c10]; rw [if_pos p_c11]; rw [if_pos p_c12]; exact ⟨rfl, rfl⟩) rfl
      · have p_c8 := cmp_neq_t h_c8
        refine wc_true rfl ?_
        refine wc_seq ?_
        refine wc_region ?_
        refine wl_1 trivial rfl (do_move rfl) ?_
        refine wl_do trivial rfl (do_call (num_tri B ((syncdirS ((removeS ⟨#[116, 109, 112]⟩ s).2)).1)) ⟨rfl, trivial⟩ enters_30 [] [0, 1, 2, 3] trivial ⟨rfl, rfl, rfl, rfl, trivial⟩ (R := [_, _, _, _]) (by decide)) ?_
        rintro _ _ ⟨_, ⟨rfl, rfl⟩, rfl⟩
        refine wl_1 trivial rfl (do_assign rfl) ?_
        refine wl_nil ?_
        refine at_then ?_
        refine wc_ret ?_
        refine at_then_ret ?_
        refine at_pick (M := [_, _, _]) [0, 2, 3] ⟨rfl, rfl, rfl, trivial⟩ (by decide) ?_
        exact at_ret1 (M := [_, _]) rfl rfl (by unfold swapD swapA kT kI; rw [if_pos p_c2]; rw [if_pos p_c7]; rw [if_neg p_c8]; exact ⟨rfl, rfl⟩) rfl
end Go.Proofs.Ytmefejfnddcelaa
