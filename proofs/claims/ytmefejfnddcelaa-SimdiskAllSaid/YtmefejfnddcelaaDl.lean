/- Printed by a program of this claim's: what each of these functions of the program does, as its theorem says. No condition but what stands in each theorem. -/
import Derived.Test.YtmefejfnddcelaaDk
namespace Go.Proofs.Ytmefejfnddcelaa
theorem enters_29 : Enters Try.prog 29 := enters_of Try.func29 (by kernel_rfl) (by kernel_rfl)
theorem enters_40 : Enters Try.prog 40 := enters_of Try.func40 (by kernel_rfl) (by kernel_rfl)
theorem zs_5_1 : ((Array.range (1 * 1)).map ((.int .u8 0 : Value).cells[· % (.int .u8 0 : Value).cells.size]!)) = #[.int .u8 0] := by kernel_rfl
theorem enters_41 : Enters Try.prog 41 := enters_of Try.func41 (by kernel_rfl) (by kernel_rfl)
theorem zs_4_3 : ((Array.range (3 * 1)).map ((.bool false : Value).cells[· % (.bool false : Value).cells.size]!)) = #[.bool false, .bool false, .bool false] := by kernel_rfl
theorem enters_35 : Enters Try.prog 35 := enters_of Try.func35 (by kernel_rfl) (by kernel_rfl)
theorem enters_34 : Enters Try.prog 34 := enters_of Try.func34 (by kernel_rfl) (by kernel_rfl)
theorem enters_30 : Enters Try.prog 30 := enters_of Try.func30 (by kernel_rfl) (by kernel_rfl)
set_option maxRecDepth 100000 in
set_option maxHeartbeats 8000000 in
theorem knows_tri (B : Ctx) :
    Tri Try.prog B 31 #[] [] (fun u M => u = .bool true ∧ M = []) := by
  refine tri_body (n := 60) Try.func31 rfl rfl rfl ?_
  intro F
  show WC _ _ _ _ _ _ _ [] [F]
  refine wc_seq ?_
  refine wc_region ?_
  refine wl_1 trivial rfl (do_assign rfl) ?_
  refine wl_nil ?_
  refine at_then ?_
  refine wc_seq ?_
  refine wc_region ?_
  refine wl_do trivial rfl (do_call (k_new B) ⟨rfl, trivial⟩ enters_29 [] [0] trivial ⟨rfl, trivial⟩ (R := [_]) (by decide)) ?_
  rintro _ _ ⟨_, ⟨d, rfl, rfl⟩, rfl⟩
  refine wl_1 trivial rfl (do_move rfl) ?_
  refine wl_1 trivial rfl (do_extract rfl rfl) ?_
  refine wl_1 trivial rfl (do_extract rfl rfl) ?_
  refine wl_1 trivial rfl (do_assign rfl) ?_
  refine wl_1 trivial rfl (do_assign rfl) ?_
  refine wl_nil ?_
  refine at_then ?_
  refine wc_seq ?_
  refine wc_region ?_
  refine wl_1 trivial rfl (do_move rfl) ?_
  refine wl_do trivial rfl (do_call (k_create B d) ⟨rfl, rfl, trivial⟩ enters_40 [0] [1] ⟨rfl, trivial⟩ ⟨rfl, trivial⟩ (R := [_]) (by decide)) ?_
  rintro _ _ ⟨_, ⟨rfl, rfl⟩, rfl⟩
  refine wl_1 trivial rfl (do_assign rfl) ?_
  refine wl_nil ?_
  refine at_then ?_
  refine wc_seq ?_
  refine wc_region ?_
  refine wl_1 trivial rfl (do_move rfl) ?_
  refine wl_do trivial rfl (do_buildSlice (ps := [(0, .int .u8 120)]) ⟨rfl, rfl, trivial⟩ (bslice_mk zs_5_1 und_32 ty_5 (by decide) (by decide) rfl)) ?_
  rintro _ _ ⟨b1, rfl, rfl⟩
  refine wl_1 trivial rfl (do_convBB (L1 := []) und_32 und_5 rfl) ?_
  refine wl_do trivial rfl (do_call (k_append1 B d (some ⟨b1, 0, none⟩) 1 (pt b1 (.cells #[.int .u8 120] 5 (1, 2))) (pt_R rfl rfl)) ⟨rfl, rfl, rfl, trivial⟩ enters_41 [1, 0] [2] ⟨rfl, rfl, trivial⟩ ⟨rfl, trivial⟩ (R := [_]) (by decide)) ?_
  rintro _ _ ⟨_, ⟨rfl, rfl⟩, rfl⟩
  refine wl_1 trivial rfl (do_assign rfl) ?_
  refine wl_nil ?_
  refine at_then ?_
  refine wc_seq ?_
  refine wc_region ?_
  refine wl_1 trivial rfl (do_move rfl) ?_
  refine wl_do trivial rfl (do_buildSlice (ps := [(0, .int .u8 121)]) ⟨rfl, rfl, trivial⟩ (bslice_mk zs_5_1 und_32 ty_5 (by decide) (by decide) rfl)) ?_
  rintro _ _ ⟨b2, rfl, rfl⟩
  refine wl_1 trivial rfl (do_convBB (L1 := []) und_32 und_5 rfl) ?_
  refine wl_do trivial rfl (do_call (k_append2 B d (some ⟨b2, 0, none⟩) 1 (pt b2 (.cells #[.int .u8 121] 5 (1, 2))) (pt_R rfl rfl)) ⟨rfl, rfl, rfl, trivial⟩ enters_41 [1, 0] [2, 3] ⟨rfl, rfl, trivial⟩ ⟨rfl, rfl, trivial⟩ (R := [_, _]) (by decide)) ?_
  rintro _ _ ⟨_, ⟨rfl, rfl⟩, rfl⟩
  refine wl_1 trivial rfl (do_assign rfl) ?_
  refine wl_nil ?_
  refine at_then ?_
  refine wc_seq ?_
  refine wc_region ?_
  refine wl_1 trivial rfl (do_move rfl) ?_
  refine wl_do trivial rfl (do_buildSlice (ps := [(0, .bool true), (1, .bool false), (2, .bool true)]) ⟨rfl, rfl, rfl, rfl, rfl, rfl, trivial⟩ (bslice_mk zs_4_3 und_65 ty_4 (by decide) (by decide) rfl)) ?_
  rintro _ _ ⟨b3, rfl, rfl⟩
  refine wl_do trivial rfl (do_call (k_crash B d (some ⟨b3, 0, none⟩) 3 (pt b3 (.cells #[.bool true, .bool false, .bool true] 4 (0, 0))) (pt_R rfl rfl) (by decide)) ⟨rfl, rfl, trivial⟩ enters_35 [1, 0] [2, 3, 4] ⟨rfl, rfl, trivial⟩ ⟨rfl, rfl, rfl, trivial⟩ (R := [_, _, _]) (by decide)) ?_
  rintro _ _ ⟨_, ⟨rfl, rfl⟩, rfl⟩
  refine wl_nil ?_
  refine at_then ?_
  refine wc_seq ?_
  refine wc_region ?_
  refine wl_1 trivial rfl (do_move rfl) ?_
  refine wl_do trivial rfl (do_call (k_read B d) ⟨rfl, rfl, trivial⟩ enters_34 [0] [1, 2, 3, 4] ⟨rfl, trivial⟩ ⟨rfl, rfl, rfl, rfl, trivial⟩ (R := [_, _, _, _]) (by decide)) ?_
  rintro _ _ ⟨_, ⟨x4, rfl, rfl⟩, rfl⟩
  refine wl_1 trivial rfl (do_move rfl) ?_
  refine wl_1 trivial rfl (do_extract rfl rfl) ?_
  refine wl_1 trivial rfl (do_extract rfl rfl) ?_
  refine wl_1 trivial rfl (do_assign rfl) ?_
  refine wl_1 trivial rfl (do_assign rfl) ?_
  refine wl_nil ?_
  refine at_then ?_
  refine wc_seq ?_
  refine wc_region ?_
  refine wl_1 trivial rfl (do_move rfl) ?_
  refine wl_do trivial rfl (do_call (num_tri B 0) ⟨rfl, trivial⟩ enters_30 [] [0, 1, 2, 3, 4, 5] trivial ⟨rfl, rfl, rfl, rfl, rfl, rfl, trivial⟩ (R := [_, _, _, _, _, _]) (by decide)) ?_
  rintro _ _ ⟨_, ⟨rfl, rfl⟩, rfl⟩
  refine wl_1 trivial rfl (do_move rfl) ?_
  refine wl_do trivial rfl (do_call (num_tri B 0) ⟨rfl, trivial⟩ enters_30 [] [0, 1, 2, 3, 4, 5] trivial ⟨rfl, rfl, rfl, rfl, rfl, rfl, trivial⟩ (R := [_, _, _, _, _, _]) (by decide)) ?_
  rintro _ _ ⟨_, ⟨rfl, rfl⟩, rfl⟩
  refine wl_1 trivial rfl (do_add (r := 0) rfl rfl rfl) ?_
  refine wl_1 trivial rfl (do_move rfl) ?_
  refine wl_do trivial rfl (do_call (num_tri B 0) ⟨rfl, trivial⟩ enters_30 [] [0, 1, 2, 3, 4, 5] trivial ⟨rfl, rfl, rfl, rfl, rfl, rfl, trivial⟩ (R := [_, _, _, _, _, _]) (by decide)) ?_
  rintro _ _ ⟨_, ⟨rfl, rfl⟩, rfl⟩
  refine wl_1 trivial rfl (do_add (r := 0) rfl rfl rfl) ?_
  refine wl_1 trivial rfl (do_move rfl) ?_
  refine wl_do trivial rfl (do_call (num_tri B 0) ⟨rfl, trivial⟩ enters_30 [] [0, 1, 2, 3, 4, 5] trivial ⟨rfl, rfl, rfl, rfl, rfl, rfl, trivial⟩ (R := [_, _, _, _, _, _]) (by decide)) ?_
  rintro _ _ ⟨_, ⟨rfl, rfl⟩, rfl⟩
  refine wl_1 trivial rfl (do_add (r := 0) rfl rfl rfl) ?_
  refine wl_1 trivial rfl (do_move rfl) ?_
  refine wl_do trivial rfl (do_call (num_tri B 0) ⟨rfl, trivial⟩ enters_30 [] [0, 1, 2, 3, 4, 5] trivial ⟨rfl, rfl, rfl, rfl, rfl, rfl, trivial⟩ (R := [_, _, _, _, _, _]) (by decide)) ?_
  rintro _ _ ⟨_, ⟨rfl, rfl⟩, rfl⟩
  refine wl_1 trivial rfl (do_add (r := 0) rfl rfl rfl) ?_
  refine wl_1 trivial rfl (do_cmp (c := true) rfl rfl rfl) ?_
  refine wl_1 trivial rfl (do_move rfl) ?_
  refine wl_1 ⟨_, rfl, rfl⟩ rfl (do_move rfl) ?_
  refine wl_1 ⟨_, rfl, rfl⟩ rfl (do_convBS (R := row 5 1 x4 2 (byv [0, 121])) (bs := ([0, 121])) 1 und_32 und_5 und_9 rfl rfl row_R) ?_
  obtain ⟨c5, h_c5⟩ : ∃ c : Bool, strB .eql (⟨([0, 121]).toArray⟩ : ByteArray).toList (⟨#[0, 121]⟩ : ByteArray).toList = some c := ⟨_, rfl⟩
  refine wl_1 ⟨_, rfl, rfl⟩ rfl (do_strcmp rfl rfl h_c5) ?_
  refine wl_1 trivial rfl (do_pickT rfl rfl) ?_
  refine wl_1 trivial rfl (do_move rfl) ?_
  have h_c5 : c5 = true := by
    have h0 : strB .eql (⟨([0, 121] : List UInt8).toArray⟩ : ByteArray).toList (⟨#[0, 121]⟩ : ByteArray).toList = some true := by kernel_rfl
    exact Option.some.inj (h_c5.symm.trans h0)
  subst h_c5
  refine wl_1 ⟨_, rfl, rfl⟩ rfl (do_move rfl) ?_
  refine wl_do ⟨_, rfl, rfl⟩ rfl (do_call (k_used2 B d) ⟨rfl, trivial⟩ enters_39 [0] [1, 2, 3, 4, 5] ⟨rfl, trivial⟩ ⟨rfl, rfl, rfl, rfl, rfl, trivial⟩ (R := [_, _, _, _, _]) (by decide)) ?_
  rintro _ _ ⟨_, ⟨rfl, rfl⟩, rfl⟩
  refine wl_1 ⟨_, rfl, rfl⟩ rfl (do_cmp (c := true) rfl rfl rfl) ?_
  refine wl_1 trivial rfl (do_pickT rfl rfl) ?_
  refine wl_1 trivial rfl (do_move rfl) ?_
  refine wl_1 ⟨_, rfl, rfl⟩ rfl (do_move rfl) ?_
  refine wl_do ⟨_, rfl, rfl⟩ rfl (do_call (k_free B d) ⟨rfl, trivial⟩ enters_46 [0] [1, 2, 3, 4, 5] ⟨rfl, trivial⟩ ⟨rfl, rfl, rfl, rfl, rfl, trivial⟩ (R := [_, _, _, _, _]) (by decide)) ?_
  rintro _ _ ⟨_, ⟨rfl, rfl⟩, rfl⟩
  refine wl_1 ⟨_, rfl, rfl⟩ rfl (do_cmp (c := true) rfl rfl rfl) ?_
  refine wl_1 trivial rfl (do_pickT rfl rfl) ?_
  refine wl_1 trivial rfl (do_assign rfl) ?_
  refine wl_nil ?_
  refine at_then ?_
  refine wc_ret ?_
  refine at_pick (M := [_]) [5] ⟨rfl, trivial⟩ (by decide) ?_
  exact at_ret1 (M := []) rfl rfl ⟨rfl, rfl⟩ rfl
end Go.Proofs.Ytmefejfnddcelaa
