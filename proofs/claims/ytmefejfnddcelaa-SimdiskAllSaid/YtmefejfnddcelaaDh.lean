/- Printed by a program of this claim's: what each of these functions of the program does, as its theorem says. No condition but what stands in each theorem. -/
import Derived.Test.YtmefejfnddcelaaDg
namespace Go.Proofs.Ytmefejfnddcelaa
theorem file_app {B : Ctx} {b : Nat} {f : FileS} {sv v x : Value} {ps : List Value} {bs : List UInt8} {L : List Assn} {w : World} (hx : ps.length = f.pieces.length)
    (h : Sat B (pt b (.cells #[sv, v] 134 (0, 0)) :: bytesA B sv f.sure :: row 32 1 v (f.pieces.length + 1) (ps ++ [x]) :: piecesA B (ps ++ [x]) (f.pieces ++ [bs]) :: L) w) : Sat B (fileA B b ⟨f.sure, f.pieces ++ [bs]⟩ :: L) w := by
  refine ex_put (φ := fun x : Value × Value × List Value => x.2.2.length = (f.pieces ++ [bs]).length) (As := filePs B b ⟨f.sure, f.pieces ++ [bs]⟩) (sv, v, ps ++ [x]) (by simp [hx]) ?_
  have e : (f.pieces ++ [bs]).length = f.pieces.length + 1 := by simp
  unfold filePs
  simp only [e]
  exact h
theorem enters_46 : Enters Try.prog 46 := enters_of Try.func46 (by kernel_rfl) (by kernel_rfl)
theorem build_140 : ∀ {parts : List (Nat × Value)} {cells : Array Value}, Instr.fill ((#[(0, 1), (1, 1)] : Array (Nat × Nat))[·]?) (.agg #[.string ⟨#[]⟩, .string ⟨#[]⟩] : Value).cells parts = some cells → buildOk Try.prog 140 parts cells := fun h => ⟨_, fieldsOf Try.prog 140, _, zero_140, by kernel_rfl, fun w => by kernel_rfl, h⟩
theorem build_142 : ∀ {parts : List (Nat × Value)} {cells : Array Value}, Instr.fill ((#[(0, 1)] : Array (Nat × Nat))[·]?) (.agg #[.string ⟨#[]⟩] : Value).cells parts = some cells → buildOk Try.prog 142 parts cells := fun h => ⟨_, fieldsOf Try.prog 142, _, zero_142, by kernel_rfl, fun w => by kernel_rfl, h⟩
theorem enters_78 : Enters Try.prog 78 := enters_of Try.func78 (by kernel_rfl) (by kernel_rfl)
theorem fo_87_3 : fieldOk Try.prog 87 3 6 = true := by kernel_rfl
theorem zero_82 : zeroOk Try.prog 82 (.agg #[.int .i64 0, .bool false, .int .i64 0, .bool false]) := zero_mk (by kernel_rfl)
theorem build_82 : ∀ {parts : List (Nat × Value)} {cells : Array Value}, Instr.fill ((#[(0, 1), (1, 1), (2, 1), (3, 1)] : Array (Nat × Nat))[·]?) (.agg #[.int .i64 0, .bool false, .int .i64 0, .bool false] : Value).cells parts = some cells → buildOk Try.prog 82 parts cells := fun h => ⟨_, fieldsOf Try.prog 82, _, zero_82, by kernel_rfl, fun w => by kernel_rfl, h⟩
theorem zero_87 : zeroOk Try.prog 87 (.agg #[.int .i64 0, .bool false, .int .i64 0, .bool false, .int .i64 0, .map none, .map none, .slice none 0 0]) := zero_mk (by kernel_rfl)
theorem build_87 : ∀ {parts : List (Nat × Value)} {cells : Array Value}, Instr.fill ((#[(0, 4), (4, 1), (5, 1), (6, 1), (7, 1)] : Array (Nat × Nat))[·]?) (.agg #[.int .i64 0, .bool false, .int .i64 0, .bool false, .int .i64 0, .map none, .map none, .slice none 0 0] : Value).cells parts = some cells → buildOk Try.prog 87 parts cells := fun h => ⟨_, fieldsOf Try.prog 87, _, zero_87, by kernel_rfl, fun w => by kernel_rfl, h⟩
set_option maxRecDepth 100000 in
set_option maxHeartbeats 8000000 in
theorem append_tri (B : Ctx) (d n su : Nat) (cv : Value) (fb : List Nat) (s : DS) (name : ByteArray) (ba : Option Addr) (bc : Nat) (bs : List UInt8) (R : Assn) (N : Nat) (hs : DB s N) (hN : N ≤ 1000000) (hfb : fb.length = s.fs.length) (hR : Rd B R 1 (.slice ba bs.length bc) bs.length (byv bs)) (hl : bs.length ≤ 9223372036854775807) :
    Tri Try.prog B 41 #[.pointer (some ⟨d, 0, none⟩), .string name, .slice ba bs.length bc] [pt d (.cells #[.int .i64 s.count, .bool s.done, .int .i64 s.fuse, .bool s.off, .int .i64 s.quota, .map (some n), .map (some su), cv] 87 (0, 0)), mapA encS n (pv fb s.now), mapA encS su (pv fb s.sure), row 20 1 cv s.chg.length (s.chg.map (chgV fb)), filesA B fb s.fs, R] (fun u M => ∃ n' su' cv' fb', fb'.length = (appendS name bs s).2.fs.length ∧ u = .int .i64 (appendS name bs s).1 ∧ M = DL B d n' su' cv' fb' (appendS name bs s).2 ++ [R]) := by
  refine tri_body (n := 51) Try.func41 rfl rfl rfl ?_
  intro F
  show WC _ _ _ _ _ _ _ [(0, .pointer (some ⟨d, 0, none⟩)), (1, .string name), (2, .slice ba bs.length bc)] [pt d (.cells #[.int .i64 s.count, .bool s.done, .int .i64 s.fuse, .bool s.off, .int .i64 s.quota, .map (some n), .map (some su), cv] 87 (0, 0)), mapA encS n (pv fb s.now), mapA encS su (pv fb s.sure), row 20 1 cv s.chg.length (s.chg.map (chgV fb)), filesA B fb s.fs, R, F]
  have hs0 := hs
  obtain ⟨hwn, hws, hwc, hf1, hn1, hc1, hb1, hp1, hq0, hq1, hk0, hk1, hu0, hu1, hnn, hns⟩ := hs
  have hul := used_le hs0 hN
  refine wc_seq ?_
  refine wc_region ?_
  refine wl_1 trivial rfl (do_assign rfl) ?_
  refine wl_nil ?_
  refine at_then ?_
  refine wc_seq ?_
  refine wc_region ?_
  refine wl_1 trivial rfl (do_move rfl) ?_
  refine wl_1 trivial rfl (do_move rfl) ?_
  rcases (Bool.eq_false_or_eq_true s.off).symm with hb1 | hb1
  · skip
    rcases hg2 : aget s.now name with _ | v3
    · skip
      refine wl_do trivial rfl (do_call (get_none B d n su cv fb s name hb1 hg2) ⟨rfl, rfl, trivial⟩ enters_74 [0, 1] [2, 3, 4, 5, 6] ⟨rfl, rfl, trivial⟩ ⟨rfl, rfl, rfl, rfl, rfl, trivial⟩ (R := [_, _, _, _, _]) (by decide)) ?_
      rintro _ _ ⟨_, ⟨rfl, rfl⟩, rfl⟩
      refine wl_1 trivial rfl (do_move rfl) ?_
      refine wl_1 trivial rfl (do_extract rfl rfl) ?_
      refine wl_1 trivial rfl (do_extract rfl rfl) ?_
      refine wl_1 trivial rfl (do_assign rfl) ?_
      refine wl_1 trivial rfl (do_assign rfl) ?_
      refine wl_nil ?_
      refine at_then ?_
      refine wc_seq ?_
      refine wc_block ?_
      refine wc_seq ?_
      refine wc_region ?_
      refine wl_1 trivial rfl (do_move rfl) ?_
      refine wl_1 trivial rfl (do_cmp (c := true) rfl rfl rfl) ?_
      refine wl_1 trivial rfl (do_assign rfl) ?_
      refine wl_nil ?_
      refine at_then ?_
      refine wc_true rfl ?_
      refine wc_seq ?_
      refine wc_region ?_
      refine wl_1 trivial rfl (do_move rfl) ?_
      refine wl_1 trivial rfl (do_assign rfl) ?_
      refine wl_nil ?_
      refine at_then ?_
      refine wc_ret ?_
      refine at_block_ret ?_
      refine at_then_ret ?_
      exact at_ret1 (M := [_, _, _, _, _, _]) rfl rfl ⟨n, su, cv, fb, by rw [appendS_3 hb1 hg2]; exact hfb, by rw [appendS_3 hb1 hg2], by rw [appendS_3 hb1 hg2]; exact rfl⟩ rfl
    · skip
      refine wl_do trivial rfl (do_call (get_some B d n su cv fb s name v3 hb1 hg2) ⟨rfl, rfl, trivial⟩ enters_74 [0, 1] [2, 3, 4, 5, 6] ⟨rfl, rfl, trivial⟩ ⟨rfl, rfl, rfl, rfl, rfl, trivial⟩ (R := [_, _, _, _, _]) (by decide)) ?_
      rintro _ _ ⟨_, ⟨rfl, rfl⟩, rfl⟩
      refine wl_1 trivial rfl (do_move rfl) ?_
      refine wl_1 trivial rfl (do_extract rfl rfl) ?_
      refine wl_1 trivial rfl (do_extract rfl rfl) ?_
      refine wl_1 trivial rfl (do_assign rfl) ?_
      refine wl_1 trivial rfl (do_assign rfl) ?_
      refine wl_nil ?_
      refine at_then ?_
      refine wc_seq ?_
      refine wc_block ?_
      refine wc_seq ?_
      refine wc_region ?_
      refine wl_1 trivial rfl (do_move rfl) ?_
      refine wl_1 trivial rfl (do_cmp (c := false) rfl rfl rfl) ?_
      refine wl_1 trivial rfl (do_assign rfl) ?_
      refine wl_nil ?_
      refine at_then ?_
      refine wc_false rfl ?_
      refine wc_seq ?_
      refine wc_region ?_
      refine wl_1 trivial rfl (do_move rfl) ?_
      refine wl_1 trivial rfl (do_lenSlice rfl isSlice_32 rfl) ?_
      refine wl_1 trivial rfl (do_move rfl) ?_
      refine wl_do trivial rfl (do_call (free_tri B d n su cv fb s N hs0 hN) ⟨rfl, trivial⟩ enters_46 [0, 1, 4] [2, 3, 5, 6] ⟨rfl, rfl, rfl, trivial⟩ ⟨rfl, rfl, rfl, rfl, trivial⟩ (R := [_, _, _, _]) (by decide)) ?_
      rintro _ _ ⟨_, ⟨rfl, rfl⟩, rfl⟩
      obtain ⟨c4, h_c4⟩ : ∃ c : Bool, cmpB .gtr ((bs.length : Nat) : Int) (s.quota - ((usedS s : Nat) : Int)) = some c := ⟨_, rfl⟩
      refine wl_1 trivial rfl (do_cmp rfl rfl h_c4) ?_
      refine wl_1 trivial rfl (do_assign rfl) ?_
      refine wl_nil ?_
      refine at_then ?_
      cases c4
      · have p_c4 := cmp_gtr_f h_c4
        refine wc_false rfl ?_
        refine wc_skip ?_
        refine at_block ?_
        refine at_then ?_
        refine wc_seq ?_
        refine wc_region ?_
        refine wl_1 trivial rfl (do_move rfl) ?_
        refine wl_1 trivial rfl (do_nilCheck rfl) ?_
        refine wl_1 trivial rfl (do_fieldAddr (k := 0) (k' := 0) fo_87_0 rfl (by rfl)) ?_
        rcases (Bool.eq_false_or_eq_true ((opS s).2.1)).symm with hb5 | hb5
        · skip
          refine wl_do trivial rfl (do_call (oper_at B d n su cv fb s false N hs0 hN hb5) ⟨rfl, trivial⟩ enters_83 [0] [1, 2, 3, 4, 5, 6] ⟨rfl, trivial⟩ ⟨rfl, rfl, rfl, rfl, rfl, rfl, trivial⟩ (R := [_, _, _, _, _, _]) (by decide)) ?_
          rintro _ _ ⟨_, ⟨rfl, rfl⟩, rfl⟩
          refine wl_1 trivial rfl (do_move rfl) ?_
          refine wl_1 trivial rfl (do_extract rfl rfl) ?_
          refine wl_1 trivial rfl (do_extract rfl rfl) ?_
          refine wl_1 trivial rfl (do_assign rfl) ?_
          refine wl_1 trivial rfl (do_assign rfl) ?_
          refine wl_nil ?_
          refine at_then ?_
          refine wc_seq ?_
          refine wc_seq ?_
          refine wc_region ?_
          refine wl_1 trivial rfl (do_move rfl) ?_
          refine wl_1 trivial rfl (do_move rfl) ?_
          refine wl_no rfl rfl rfl rfl rfl ?_
          refine wl_no rfl rfl rfl rfl rfl ?_
          refine wl_no rfl rfl rfl rfl rfl ?_
          refine wl_1 trivial rfl (do_pickF rfl rfl) ?_
          refine wl_nil ?_
          refine at_then ?_
          refine wc_false rfl ?_
          refine wc_skip ?_
          refine at_then ?_
          refine wc_seq ?_
          refine wc_region ?_
          refine wl_1 trivial rfl (do_move rfl) ?_
          refine wl_1 trivial rfl (do_assign rfl) ?_
          refine wl_nil ?_
          refine at_then ?_
          refine wc_ret ?_
          refine at_pick (M := [_, _, _, _, _, _, _]) [0, 1, 3, 4, 2, 5, 6] ⟨rfl, rfl, rfl, rfl, rfl, rfl, rfl, trivial⟩ (by decide) ?_
          exact at_ret1 (M := [_, _, _, _, _, _]) rfl rfl ⟨n, su, cv, fb, by rw [appendS_0 hb1 hg2 (by omega) hb5]; rw [opS_fs]; exact hfb, by rw [appendS_0 hb1 hg2 (by omega) hb5], by rw [appendS_0 hb1 hg2 (by omega) hb5]; exact congrArg (· ++ [R]) (DL_mk (opS_fs s) (opS_now s) (opS_sure s) (opS_chg s))⟩ rfl
        · skip
          refine wl_do trivial rfl (do_call (oper_at B d n su cv fb s true N hs0 hN hb5) ⟨rfl, trivial⟩ enters_83 [0] [1, 2, 3, 4, 5, 6] ⟨rfl, trivial⟩ ⟨rfl, rfl, rfl, rfl, rfl, rfl, trivial⟩ (R := [_, _, _, _, _, _]) (by decide)) ?_
          rintro _ _ ⟨_, ⟨rfl, rfl⟩, rfl⟩
          refine wl_1 trivial rfl (do_move rfl) ?_
          refine wl_1 trivial rfl (do_extract rfl rfl) ?_
          refine wl_1 trivial rfl (do_extract rfl rfl) ?_
          refine wl_1 trivial rfl (do_assign rfl) ?_
          refine wl_1 trivial rfl (do_assign rfl) ?_
          refine wl_nil ?_
          refine at_then ?_
          refine wc_seq ?_
          refine wc_seq ?_
          refine wc_region ?_
          refine wl_1 trivial rfl (do_move rfl) ?_
          refine wl_1 trivial rfl (do_move rfl) ?_
          refine wl_1 ⟨_, rfl, rfl⟩ rfl (do_move rfl) ?_
          refine wl_1 ⟨_, rfl, rfl⟩ rfl (do_lenSlice rfl isSlice_32 rfl) ?_
          obtain ⟨c6, h_c6⟩ : ∃ c : Bool, cmpB .gtr ((bs.length : Nat) : Int) 0 = some c := ⟨_, rfl⟩
          refine wl_1 ⟨_, rfl, rfl⟩ rfl (do_cmp rfl rfl h_c6) ?_
          refine wl_1 trivial rfl (do_pickT rfl rfl) ?_
          refine wl_nil ?_
          refine at_then ?_
          cases c6
          · have p_c6 := cmp_gtr_f h_c6
            refine wc_false rfl ?_
            refine wc_skip ?_
            refine at_then ?_
            refine wc_seq ?_
            refine wc_region ?_
            refine wl_1 trivial rfl (do_move rfl) ?_
            refine wl_1 trivial rfl (do_assign rfl) ?_
            refine wl_nil ?_
            refine at_then ?_
            refine wc_ret ?_
            refine at_pick (M := [_, _, _, _, _, _, _]) [0, 1, 3, 4, 2, 5, 6] ⟨rfl, rfl, rfl, rfl, rfl, rfl, rfl, trivial⟩ (by decide) ?_
            exact at_ret1 (M := [_, _, _, _, _, _]) rfl rfl ⟨n, su, cv, fb, by rw [appendS_e hb1 hg2 (by omega) hb5 (by omega)]; rw [opS_fs]; exact hfb, by rw [appendS_e hb1 hg2 (by omega) hb5 (by omega)], by rw [appendS_e hb1 hg2 (by omega) hb5 (by omega)]; exact congrArg (· ++ [R]) (DL_mk (opS_fs s) (opS_now s) (opS_sure s) (opS_chg s))⟩ rfl
          · have p_c6 := cmp_gtr_t h_c6
            refine wc_true rfl ?_
            refine wc_mem (L' := [fileA B (fb.getD v3 0) (fileD s v3), Star ((List.zipWith (fileA B) fb s.fs).eraseIdx v3), pt d (.cells #[.int .i64 ((opS s).2.2.count), .bool ((opS s).2.2.done), .int .i64 ((opS s).2.2.fuse), .bool ((opS s).2.2.off), .int .i64 ((opS s).2.2.quota), .map (some n), .map (some su), cv] 87 (0, 0)), mapA encS n (pv fb s.now), mapA encS su (pv fb s.sure), row 20 1 cv s.chg.length (s.chg.map (chgV fb)), R, F]) (fun w_ h_ => files_open (fileD_at (hs0.has hg2)) (h_.pick (M := [filesA B fb s.fs, pt d (.cells #[.int .i64 ((opS s).2.2.count), .bool ((opS s).2.2.done), .int .i64 ((opS s).2.2.fuse), .bool ((opS s).2.2.off), .int .i64 ((opS s).2.2.quota), .map (some n), .map (some su), cv] 87 (0, 0)), mapA encS n (pv fb s.now), mapA encS su (pv fb s.sure), row 20 1 cv s.chg.length (s.chg.map (chgV fb)), R, F]) [2, 0, 1, 3, 4, 5, 6] ⟨rfl, rfl, rfl, rfl, rfl, rfl, rfl, trivial⟩ (by decide))) ?_
            refine wc_open (α := Value × Value × List Value) (φ := fun x => x.2.2.length = (fileD s v3).pieces.length) (Lf := fun x => filePs B (fb.getD v3 0) (fileD s v3) x ++ [Star ((List.zipWith (fileA B) fb s.fs).eraseIdx v3), pt d (.cells #[.int .i64 ((opS s).2.2.count), .bool ((opS s).2.2.done), .int .i64 ((opS s).2.2.fuse), .bool ((opS s).2.2.off), .int .i64 ((opS s).2.2.quota), .map (some n), .map (some su), cv] 87 (0, 0)), mapA encS n (pv fb s.now), mapA encS su (pv fb s.sure), row 20 1 cv s.chg.length (s.chg.map (chgV fb)), R, F]) (fun w_ h_ => ex_get h_) ?_
            rintro ⟨sv7, pw8, ps9⟩ hx10
            refine wc_mem (L' := [pt (fb.getD v3 0) (.cells #[sv7, pw8] 134 (0, 0)), bytesA B sv7 (fileD s v3).sure, row 32 1 pw8 ((fileD s v3).pieces.length) ps9, piecesA B ps9 (fileD s v3).pieces, Star ((List.zipWith (fileA B) fb s.fs).eraseIdx v3), pt d (.cells #[.int .i64 ((opS s).2.2.count), .bool ((opS s).2.2.done), .int .i64 ((opS s).2.2.fuse), .bool ((opS s).2.2.off), .int .i64 ((opS s).2.2.quota), .map (some n), .map (some su), cv] 87 (0, 0)), mapA encS n (pv fb s.now), mapA encS su (pv fb s.sure), row 20 1 cv s.chg.length (s.chg.map (chgV fb)), R, F]) (fun w_ h_ => h_) ?_
            refine wc_draw [[], [], [1], [1, 2], [1, 2, 3], [], [5], [5, 6], [1, 2, 3, 4, 5, 6, 7], [0, 1, 2, 3, 4, 5, 6, 7, 8], [0, 1, 2, 3, 4, 5, 6, 7, 8, 9], [0, 1, 2, 3, 4, 5, 6, 7, 8, 9, 10]] [some (.pointer (some ⟨(fb.getD v3 0), 0, none⟩)), some (.pointer (some ⟨(fb.getD v3 0), 0, none⟩)), some (.pointer (some ⟨(fb.getD v3 0), 0, none⟩)), some (.pointer (some ⟨(fb.getD v3 0), 1, none⟩)), some (pw8), some (.slice ba bs.length bc), none, none, none, none, none, none] [6, 7, 8, 11] mixed (by kernel_rfl) (by decide) ⟨rfl, rfl, ⟨.inr ⟨_, [.old 7], rfl, rfl, .inl ⟨trivial, do_move rfl⟩⟩, .inr ⟨_, [.old 7], rfl, rfl, .inl ⟨trivial, do_move rfl⟩⟩, .inr ⟨_, [.op 1], rfl, rfl, .inl ⟨trivial, do_nilCheck rfl⟩⟩, .inr ⟨_, [.op 2], rfl, rfl, .inl ⟨trivial, do_fieldAddr (k := 1) (k' := 1) fo_134_1 rfl (by rfl)⟩⟩, .inr ⟨_, [.op 3], rfl, rfl, .inl ⟨trivial, do_load 0 rfl one_132 rfl rfl⟩⟩, .inr ⟨_, [.old 2], rfl, rfl, .inl ⟨trivial, do_move rfl⟩⟩, trivial⟩, _, [.op 5], _, rfl, rfl, trivial, do_call (clone_one B R (.slice ba bs.length bc) bs hR (by omega)) ⟨rfl, trivial⟩ enters_68 [9] [0, 1, 2, 3, 4, 5, 6, 7, 8, 10] ⟨rfl, trivial⟩ ⟨rfl, rfl, rfl, rfl, rfl, rfl, rfl, rfl, rfl, rfl, trivial⟩ (R := [_, _, _, _, _, _, _, _, _, _]) (by decide), ?_⟩
            rintro _ _ ⟨_, ⟨x11, rfl, rfl, ho12⟩, rfl⟩
            refine ⟨[some (.pointer (some ⟨(fb.getD v3 0), 0, none⟩)), some (.pointer (some ⟨(fb.getD v3 0), 0, none⟩)), some (.pointer (some ⟨(fb.getD v3 0), 0, none⟩)), some (.pointer (some ⟨(fb.getD v3 0), 1, none⟩)), some (pw8), some (.slice ba bs.length bc), some (x11), none, none, none, none, none], more_mk ⟨rfl, rfl, rfl, rfl, rfl, rfl, trivial⟩ rfl, ?_⟩
            refine ⟨rfl, rfl, ⟨.inr ⟨_, [.old 7], rfl, rfl, .inl ⟨trivial, do_move rfl⟩⟩, .inr ⟨_, [.old 7], rfl, rfl, .inl ⟨trivial, do_move rfl⟩⟩, .inr ⟨_, [.op 1], rfl, rfl, .inl ⟨trivial, do_nilCheck rfl⟩⟩, .inr ⟨_, [.op 2], rfl, rfl, .inl ⟨trivial, do_fieldAddr (k := 1) (k' := 1) fo_134_1 rfl (by rfl)⟩⟩, .inr ⟨_, [.op 3], rfl, rfl, .inl ⟨trivial, do_load 2 rfl one_132 rfl rfl⟩⟩, .inl rfl, .inl rfl, trivial⟩, _, [.op 6], _, rfl, rfl, trivial, do_buildSlice (ps := [(0, x11)]) ⟨rfl, rfl, trivial⟩ (bslice_one ho12 und_132 ty_32 zs_32_1), ?_⟩
            rintro _ _ ⟨b13, rfl, rfl⟩
            refine ⟨[some (.pointer (some ⟨(fb.getD v3 0), 0, none⟩)), some (.pointer (some ⟨(fb.getD v3 0), 0, none⟩)), some (.pointer (some ⟨(fb.getD v3 0), 0, none⟩)), some (.pointer (some ⟨(fb.getD v3 0), 1, none⟩)), some (pw8), some (.slice ba bs.length bc), some (x11), some (.slice (some ⟨b13, 0, none⟩) 1 1), none, none, none, none], more_mk ⟨rfl, rfl, rfl, rfl, rfl, rfl, rfl, trivial⟩ rfl, ?_⟩
            refine ⟨rfl, rfl, ⟨.inr ⟨_, [.old 7], rfl, rfl, .inl ⟨trivial, do_move rfl⟩⟩, .inr ⟨_, [.old 7], rfl, rfl, .inl ⟨trivial, do_move rfl⟩⟩, .inr ⟨_, [.op 1], rfl, rfl, .inl ⟨trivial, do_nilCheck rfl⟩⟩, .inr ⟨_, [.op 2], rfl, rfl, .inl ⟨trivial, do_fieldAddr (k := 1) (k' := 1) fo_134_1 rfl (by rfl)⟩⟩, .inr ⟨_, [.op 3], rfl, rfl, .inl ⟨trivial, do_load 3 rfl one_132 rfl rfl⟩⟩, .inl rfl, .inl rfl, .inl rfl, trivial⟩, _, [.op 4, .op 7], _, rfl, rfl, trivial, do_append (L1 := [_, _, _, _, _]) (news := [x11]) und_132 ty_32 (by decide) rfl rfl rfl (reads_pt (i := 0) rfl rfl) (one_news _ ho12) (by have := (hs0.file (hs0.has hg2)).2; simp only [maxLen]; omega) (by have := (hs0.file (hs0.has hg2)).2; omega), ?_⟩
            rintro v14 _ ⟨hv14, ov14, rfl⟩
            refine ⟨[some (.pointer (some ⟨(fb.getD v3 0), 0, none⟩)), some (.pointer (some ⟨(fb.getD v3 0), 0, none⟩)), some (.pointer (some ⟨(fb.getD v3 0), 0, none⟩)), some (.pointer (some ⟨(fb.getD v3 0), 1, none⟩)), some (pw8), some (.slice ba bs.length bc), some (x11), some (.slice (some ⟨b13, 0, none⟩) 1 1), some (v14), some (.pointer (some ⟨(fb.getD v3 0), 0, none⟩)), some (.pointer (some ⟨(fb.getD v3 0), 1, none⟩)), none], more_mk ⟨rfl, rfl, rfl, rfl, rfl, rfl, rfl, rfl, trivial⟩ rfl, ?_⟩
            refine ⟨rfl, rfl, ⟨.inr ⟨_, [.old 7], rfl, rfl, .inl ⟨trivial, do_move rfl⟩⟩, .inl rfl, .inl rfl, .inl rfl, .inl rfl, .inl rfl, .inl rfl, .inl rfl, .inl rfl, .inr ⟨_, [.op 0], rfl, rfl, .inl ⟨trivial, do_nilCheck rfl⟩⟩, .inr ⟨_, [.op 9], rfl, rfl, .inl ⟨trivial, do_fieldAddr (k := 1) (k' := 1) fo_134_1 rfl (by rfl)⟩⟩, trivial⟩, _, [.op 8, .op 10], _, rfl, rfl, trivial, do_store (L1 := [_, _, _]) rfl rfl one_132 ov14 rfl (cs' := #[sv7, v14]) rfl, ?_⟩
            rintro _ _ ⟨rfl, rfl⟩
            refine ⟨[some (.pointer (some ⟨(fb.getD v3 0), 0, none⟩)), some (.pointer (some ⟨(fb.getD v3 0), 0, none⟩)), some (.pointer (some ⟨(fb.getD v3 0), 0, none⟩)), some (.pointer (some ⟨(fb.getD v3 0), 1, none⟩)), some (pw8), some (.slice ba bs.length bc), some (x11), some (.slice (some ⟨b13, 0, none⟩) 1 1), some (v14), some (.pointer (some ⟨(fb.getD v3 0), 0, none⟩)), some (.pointer (some ⟨(fb.getD v3 0), 1, none⟩)), some (undef)], more_mk ⟨rfl, rfl, rfl, rfl, rfl, rfl, rfl, rfl, rfl, rfl, rfl, trivial⟩ rfl, ?_⟩
            refine ⟨rfl, ⟨.inl rfl, .inl rfl, .inl rfl, .inl rfl, .inl rfl, .inl rfl, .inl rfl, .inl rfl, .inl rfl, .inl rfl, .inl rfl, .inl rfl, trivial⟩, [.old 6, .old 8], [(6, .int .i64 0), (8, .int .i64 ((opS s).1))], rfl, rfl, ?_⟩
            refine at_then ?_
            refine wc_seq ?_
            refine wc_region ?_
            refine wl_1 trivial rfl (do_move rfl) ?_
            refine wl_1 trivial rfl (do_assign rfl) ?_
            refine wl_nil ?_
            refine at_then ?_
            refine wc_ret ?_
            refine at_mem (L' := [piecesA B (ps9 ++ [x11]) ((fileD s v3).pieces ++ [bs]), pt b13 (.cells #[x11] 32 (0, 0)), R, pt (fb.getD v3 0) (.cells #[sv7, v14] 134 (0, 0)), bytesA B sv7 (fileD s v3).sure, row 32 1 v14 (((fileD s v3).pieces.length) + 1) (ps9 ++ [x11]), Star ((List.zipWith (fileA B) fb s.fs).eraseIdx v3), pt d (.cells #[.int .i64 ((opS s).2.2.count), .bool ((opS s).2.2.done), .int .i64 ((opS s).2.2.fuse), .bool ((opS s).2.2.off), .int .i64 ((opS s).2.2.quota), .map (some n), .map (some su), cv] 87 (0, 0)), mapA encS n (pv fb s.now), mapA encS su (pv fb s.sure), row 20 1 cv s.chg.length (s.chg.map (chgV fb)), F]) (fun w_ h_ => pieces_add (h_.pick (M := [row 5 1 x11 bs.length (byv bs), piecesA B ps9 (fileD s v3).pieces, pt b13 (.cells #[x11] 32 (0, 0)), R, pt (fb.getD v3 0) (.cells #[sv7, v14] 134 (0, 0)), bytesA B sv7 (fileD s v3).sure, row 32 1 v14 (((fileD s v3).pieces.length) + 1) (ps9 ++ [x11]), Star ((List.zipWith (fileA B) fb s.fs).eraseIdx v3), pt d (.cells #[.int .i64 ((opS s).2.2.count), .bool ((opS s).2.2.done), .int .i64 ((opS s).2.2.fuse), .bool ((opS s).2.2.off), .int .i64 ((opS s).2.2.quota), .map (some n), .map (some su), cv] 87 (0, 0)), mapA encS n (pv fb s.now), mapA encS su (pv fb s.sure), row 20 1 cv s.chg.length (s.chg.map (chgV fb)), F]) [2, 6, 0, 1, 3, 4, 5, 7, 8, 9, 10, 11, 12] ⟨rfl, rfl, rfl, rfl, rfl, rfl, rfl, rfl, rfl, rfl, rfl, rfl, rfl, trivial⟩ (by decide))) ?_
            refine at_mem (L' := [fileA B (fb.getD v3 0) ⟨(fileD s v3).sure, (fileD s v3).pieces ++ [bs]⟩, pt b13 (.cells #[x11] 32 (0, 0)), R, Star ((List.zipWith (fileA B) fb s.fs).eraseIdx v3), pt d (.cells #[.int .i64 ((opS s).2.2.count), .bool ((opS s).2.2.done), .int .i64 ((opS s).2.2.fuse), .bool ((opS s).2.2.off), .int .i64 ((opS s).2.2.quota), .map (some n), .map (some su), cv] 87 (0, 0)), mapA encS n (pv fb s.now), mapA encS su (pv fb s.sure), row 20 1 cv s.chg.length (s.chg.map (chgV fb)), F]) (fun w_ h_ => file_app (f := (fileD s v3)) (ps := ps9) hx10 (h_.pick (M := [pt (fb.getD v3 0) (.cells #[sv7, v14] 134 (0, 0)), bytesA B sv7 (fileD s v3).sure, row 32 1 v14 (((fileD s v3).pieces.length) + 1) (ps9 ++ [x11]), piecesA B (ps9 ++ [x11]) ((fileD s v3).pieces ++ [bs]), pt b13 (.cells #[x11] 32 (0, 0)), R, Star ((List.zipWith (fileA B) fb s.fs).eraseIdx v3), pt d (.cells #[.int .i64 ((opS s).2.2.count), .bool ((opS s).2.2.done), .int .i64 ((opS s).2.2.fuse), .bool ((opS s).2.2.off), .int .i64 ((opS s).2.2.quota), .map (some n), .map (some su), cv] 87 (0, 0)), mapA encS n (pv fb s.now), mapA encS su (pv fb s.sure), row 20 1 cv s.chg.length (s.chg.map (chgV fb)), F]) [3, 4, 5, 0, 1, 2, 6, 7, 8, 9, 10, 11] ⟨rfl, rfl, rfl, rfl, rfl, rfl, rfl, rfl, rfl, rfl, rfl, rfl, trivial⟩ (by decide))) ?_
            refine at_mem (L' := [filesA B fb (s.fs.set v3 ⟨(fileD s v3).sure, (fileD s v3).pieces ++ [bs]⟩), pt b13 (.cells #[x11] 32 (0, 0)), R, pt d (.cells #[.int .i64 ((opS s).2.2.count), .bool ((opS s).2.2.done), .int .i64 ((opS s).2.2.fuse), .bool ((opS s).2.2.off), .int .i64 ((opS s).2.2.quota), .map (some n), .map (some su), cv] 87 (0, 0)), mapA encS n (pv fb s.now), mapA encS su (pv fb s.sure), row 20 1 cv s.chg.length (s.chg.map (chgV fb)), F]) (fun w_ h_ => files_close hfb (hs0.has hg2) (h_.pick (M := [fileA B (fb.getD v3 0) ⟨(fileD s v3).sure, (fileD s v3).pieces ++ [bs]⟩, Star ((List.zipWith (fileA B) fb s.fs).eraseIdx v3), pt b13 (.cells #[x11] 32 (0, 0)), R, pt d (.cells #[.int .i64 ((opS s).2.2.count), .bool ((opS s).2.2.done), .int .i64 ((opS s).2.2.fuse), .bool ((opS s).2.2.off), .int .i64 ((opS s).2.2.quota), .map (some n), .map (some su), cv] 87 (0, 0)), mapA encS n (pv fb s.now), mapA encS su (pv fb s.sure), row 20 1 cv s.chg.length (s.chg.map (chgV fb)), F]) [0, 3, 1, 2, 4, 5, 6, 7, 8] ⟨rfl, rfl, rfl, rfl, rfl, rfl, rfl, rfl, rfl, trivial⟩ (by decide))) ?_
            refine at_pick (M := [_, _, _, _, _, _, _]) [3, 4, 5, 6, 0, 2, 7] ⟨rfl, rfl, rfl, rfl, rfl, rfl, rfl, trivial⟩ (by decide) ?_
            exact at_ret1 (M := [_, _, _, _, _, _]) rfl rfl ⟨n, su, cv, fb, by rw [appendS_ok hb1 hg2 (by omega) hb5 (by omega)]; simpa using hfb, by rw [appendS_ok hb1 hg2 (by omega) hb5 (by omega)], by rw [appendS_ok hb1 hg2 (by omega) hb5 (by omega)]; exact congrArg (· ++ [R]) (DL_mk (s := { (opS s).2.2 with fs := s.fs.set v3 ⟨(fileD s v3).sure, (fileD s v3).pieces ++ [bs]⟩ }) rfl (opS_now s) (opS_sure s) (opS_chg s))⟩ rfl
      · have p_c4 := cmp_gtr_t h_c4
        refine wc_true rfl ?_
        refine wc_seq ?_
        refine wc_region ?_
        refine wl_1 trivial rfl (do_assign rfl) ?_
        refine wl_nil ?_
        refine at_then ?_
        refine wc_ret ?_
        refine at_block_ret ?_
        refine at_then_ret ?_
        refine at_pick (M := [_, _, _, _, _, _, _]) [0, 1, 3, 4, 2, 5, 6] ⟨rfl, rfl, rfl, rfl, rfl, rfl, rfl, trivial⟩ (by decide) ?_
        exact at_ret1 (M := [_, _, _, _, _, _]) rfl rfl ⟨n, su, cv, fb, by rw [appendS_7 hb1 hg2 (by omega)]; exact hfb, by rw [appendS_7 hb1 hg2 (by omega)], by rw [appendS_7 hb1 hg2 (by omega)]; exact rfl⟩ rfl
  · skip
    refine wl_do trivial rfl (do_call (get_off B d n su cv fb s name hb1) ⟨rfl, rfl, trivial⟩ enters_74 [0, 1] [2, 3, 4, 5, 6] ⟨rfl, rfl, trivial⟩ ⟨rfl, rfl, rfl, rfl, rfl, trivial⟩ (R := [_, _, _, _, _]) (by decide)) ?_
    rintro _ _ ⟨_, ⟨rfl, rfl⟩, rfl⟩
    refine wl_1 trivial rfl (do_move rfl) ?_
    refine wl_1 trivial rfl (do_extract rfl rfl) ?_
    refine wl_1 trivial rfl (do_extract rfl rfl) ?_
    refine wl_1 trivial rfl (do_assign rfl) ?_
    refine wl_1 trivial rfl (do_assign rfl) ?_
    refine wl_nil ?_
    refine at_then ?_
    refine wc_seq ?_
    refine wc_block ?_
    refine wc_seq ?_
    refine wc_region ?_
    refine wl_1 trivial rfl (do_move rfl) ?_
    refine wl_1 trivial rfl (do_cmp (c := true) rfl rfl rfl) ?_
    refine wl_1 trivial rfl (do_assign rfl) ?_
    refine wl_nil ?_
    refine at_then ?_
    refine wc_true rfl ?_
    refine wc_seq ?_
    refine wc_region ?_
    refine wl_1 trivial rfl (do_move rfl) ?_
    refine wl_1 trivial rfl (do_assign rfl) ?_
    refine wl_nil ?_
    refine at_then ?_
    refine wc_ret ?_
    refine at_block_ret ?_
    refine at_then_ret ?_
    exact at_ret1 (M := [_, _, _, _, _, _]) rfl rfl ⟨n, su, cv, fb, by rw [appendS_9 hb1]; exact hfb, by rw [appendS_9 hb1], by rw [appendS_9 hb1]; exact rfl⟩ rfl

set_option maxRecDepth 100000 in
set_option maxHeartbeats 8000000 in
theorem rename_tri (B : Ctx) (d n su : Nat) (cv : Value) (fb : List Nat) (s : DS) (name to : ByteArray) (N : Nat) (hs : DB s N) (hN : N ≤ 1000000) (hfb : fb.length = s.fs.length) (hks : to.size ≤ 9223372036854775807) :
    Tri Try.prog B 42 #[.pointer (some ⟨d, 0, none⟩), .string name, .string to] [pt d (.cells #[.int .i64 s.count, .bool s.done, .int .i64 s.fuse, .bool s.off, .int .i64 s.quota, .map (some n), .map (some su), cv] 87 (0, 0)), mapA encS n (pv fb s.now), mapA encS su (pv fb s.sure), row 20 1 cv s.chg.length (s.chg.map (chgV fb)), filesA B fb s.fs] (fun u M => ∃ n' su' cv' fb', fb'.length = (renameS name to s).2.fs.length ∧ u = .int .i64 (renameS name to s).1 ∧ M = DL B d n' su' cv' fb' (renameS name to s).2) := by
  refine tri_body (n := 27) Try.func42 rfl rfl rfl ?_
  intro F
  show WC _ _ _ _ _ _ _ [(0, .pointer (some ⟨d, 0, none⟩)), (1, .string name), (2, .string to)] [pt d (.cells #[.int .i64 s.count, .bool s.done, .int .i64 s.fuse, .bool s.off, .int .i64 s.quota, .map (some n), .map (some su), cv] 87 (0, 0)), mapA encS n (pv fb s.now), mapA encS su (pv fb s.sure), row 20 1 cv s.chg.length (s.chg.map (chgV fb)), filesA B fb s.fs, F]
  have hs0 := hs
  obtain ⟨hwn, hws, hwc, hf1, hn1, hc1, hb1, hp1, hq0, hq1, hk0, hk1, hu0, hu1, hnn, hns⟩ := hs
  refine wc_seq ?_
  refine wc_region ?_
  refine wl_1 trivial rfl (do_assign rfl) ?_
  refine wl_nil ?_
  refine at_then ?_
  refine wc_seq ?_
  refine wc_seq ?_
  refine wc_region ?_
  refine wl_1 trivial rfl (do_move rfl) ?_
  refine wl_1 trivial rfl (do_move rfl) ?_
  rcases (Bool.eq_false_or_eq_true s.off).symm with hb1 | hb1
  · skip
    rcases hg2 : aget s.now name with _ | v3
    · skip
      refine wl_do trivial rfl (do_call (get_none B d n su cv fb s name hb1 hg2) ⟨rfl, rfl, trivial⟩ enters_74 [0, 1] [2, 3, 4, 5] ⟨rfl, rfl, trivial⟩ ⟨rfl, rfl, rfl, rfl, trivial⟩ (R := [_, _, _, _]) (by decide)) ?_
      rintro _ _ ⟨_, ⟨rfl, rfl⟩, rfl⟩
      refine wl_1 trivial rfl (do_move rfl) ?_
      refine wl_1 trivial rfl (do_extract rfl rfl) ?_
      refine wl_1 trivial rfl (do_extract rfl rfl) ?_
      refine wl_1 trivial rfl (do_assign rfl) ?_
      refine wl_1 trivial rfl (do_assign rfl) ?_
      refine wl_nil ?_
      refine at_then ?_
      refine wc_seq ?_
      refine wc_region ?_
      refine wl_1 trivial rfl (do_move rfl) ?_
      refine wl_1 trivial rfl (do_cmp (c := true) rfl rfl rfl) ?_
      refine wl_nil ?_
      refine at_then ?_
      refine wc_true rfl ?_
      refine wc_seq ?_
      refine wc_region ?_
      refine wl_1 trivial rfl (do_move rfl) ?_
      refine wl_1 trivial rfl (do_assign rfl) ?_
      refine wl_nil ?_
      refine at_then ?_
      refine wc_ret ?_
      refine at_then_ret ?_
      exact at_ret1 (M := [_, _, _, _, _]) rfl rfl ⟨n, su, cv, fb, by rw [renameS_3 hb1 hg2]; exact hfb, by rw [renameS_3 hb1 hg2], by rw [renameS_3 hb1 hg2]; exact rfl⟩ rfl
    · skip
      refine wl_do trivial rfl (do_call (get_some B d n su cv fb s name v3 hb1 hg2) ⟨rfl, rfl, trivial⟩ enters_74 [0, 1] [2, 3, 4, 5] ⟨rfl, rfl, trivial⟩ ⟨rfl, rfl, rfl, rfl, trivial⟩ (R := [_, _, _, _]) (by decide)) ?_
      rintro _ _ ⟨_, ⟨rfl, rfl⟩, rfl⟩
      refine wl_1 trivial rfl (do_move rfl) ?_
      refine wl_1 trivial rfl (do_extract rfl rfl) ?_
      refine wl_1 trivial rfl (do_extract rfl rfl) ?_
      refine wl_1 trivial rfl (do_assign rfl) ?_
      refine wl_1 trivial rfl (do_assign rfl) ?_
      refine wl_nil ?_
      refine at_then ?_
      refine wc_seq ?_
      refine wc_region ?_
      refine wl_1 trivial rfl (do_move rfl) ?_
      refine wl_1 trivial rfl (do_cmp (c := false) rfl rfl rfl) ?_
      refine wl_nil ?_
      refine at_then ?_
      refine wc_false rfl ?_
      refine wc_skip ?_
      refine at_then ?_
      refine wc_seq ?_
      refine wc_seq ?_
      refine wc_region ?_
      refine wl_1 trivial rfl (do_move rfl) ?_
      refine wl_do trivial rfl (do_call (right_tri B to hks) ⟨rfl, trivial⟩ enters_81 [] [0, 1, 2, 3, 4, 5] trivial ⟨rfl, rfl, rfl, rfl, rfl, rfl, trivial⟩ (R := [_, _, _, _, _, _]) (by decide)) ?_
      rintro _ _ ⟨_, ⟨rfl, rfl⟩, rfl⟩
      refine wl_1 trivial rfl (do_not (c := (rightB to)) rfl) ?_
      refine wl_nil ?_
      refine at_then ?_
      cases hb4 : (rightB to)
      · skip
        refine wc_true rfl ?_
        refine wc_seq ?_
        refine wc_region ?_
        refine wl_1 trivial rfl (do_assign rfl) ?_
        refine wl_nil ?_
        refine at_then ?_
        refine wc_ret ?_
        refine at_then_ret ?_
        exact at_ret1 (M := [_, _, _, _, _]) rfl rfl ⟨n, su, cv, fb, by rw [renameS_1 hb1 hg2 ‹_›]; exact hfb, by rw [renameS_1 hb1 hg2 ‹_›], by rw [renameS_1 hb1 hg2 ‹_›]; exact rfl⟩ rfl
      · skip
        refine wc_false rfl ?_
        refine wc_skip ?_
        refine at_then ?_
        refine wc_seq ?_
        refine wc_region ?_
        refine wl_1 trivial rfl (do_move rfl) ?_
        refine wl_1 trivial rfl (do_move rfl) ?_
        refine wl_1 trivial rfl (do_move rfl) ?_
        refine wl_1 trivial rfl (do_build (ps := [(0, .string name), (1, .string to)]) ⟨rfl, rfl, rfl, rfl, trivial⟩ (build_140 rfl)) ?_
        refine wl_1 trivial rfl (do_makeIface isConc_140 rfl) ?_
        rcases (Bool.eq_false_or_eq_true ((opS s).2.1)).symm with hb5 | hb5
        · skip
          refine wl_do trivial rfl (do_call (change_not B d n su cv fb s (.iface 140 (.agg #[.string name, .string to])) N hs0 hN hb5) ⟨rfl, rfl, trivial⟩ enters_82 [0] [1, 2, 3, 4, 5] ⟨rfl, trivial⟩ ⟨rfl, rfl, rfl, rfl, rfl, trivial⟩ (R := [_, _, _, _, _]) (by decide)) ?_
          rintro _ _ ⟨_, ⟨rfl, rfl⟩, rfl⟩
          refine wl_1 trivial rfl (do_assign rfl) ?_
          refine wl_nil ?_
          refine at_then ?_
          refine wc_ret ?_
          exact at_ret1 (M := [_, _, _, _, _]) rfl rfl ⟨n, su, cv, fb, by rw [renameS_c hb1 hg2 ‹_›, changeS_0 hb5]; rw [opS_fs]; exact hfb, by rw [renameS_c hb1 hg2 ‹_›, changeS_0 hb5], by rw [renameS_c hb1 hg2 ‹_›, changeS_0 hb5]; exact DL_mk (opS_fs s) (opS_now s) (opS_sure s) (opS_chg s)⟩ rfl
        · skip
          refine wl_do trivial rfl (do_call (change_done B d n su cv fb s (ChgD.ren name to) N hs0 hN hb5) ⟨rfl, rfl, trivial⟩ enters_82 [0, 1, 3] [2, 4, 5] ⟨rfl, rfl, rfl, trivial⟩ ⟨rfl, rfl, rfl, trivial⟩ (R := [_, _, _]) (by decide)) ?_
          rintro _ _ ⟨_, ⟨cv6, rfl, rfl⟩, rfl⟩
          refine wl_1 trivial rfl (do_assign rfl) ?_
          refine wl_nil ?_
          refine at_then ?_
          refine wc_ret ?_
          refine at_pick (M := [_, _, _, _, _, _]) [0, 1, 3, 2, 4, 5] ⟨rfl, rfl, rfl, rfl, rfl, rfl, trivial⟩ (by decide) ?_
          exact at_ret1 (M := [_, _, _, _, _]) rfl rfl ⟨n, su, cv6, fb, by rw [renameS_c hb1 hg2 ‹_›, changeS_ok hb5]; rw [opS_fs]; exact hfb, by rw [renameS_c hb1 hg2 ‹_›, changeS_ok hb5], by rw [renameS_c hb1 hg2 ‹_›, changeS_ok hb5]; exact DL_mk (s := { (opS s).2.2 with now := doC s.now (ChgD.ren name to), chg := s.chg ++ [(ChgD.ren name to)] }) (opS_fs s) rfl (opS_sure s) rfl⟩ rfl
  · skip
    refine wl_do trivial rfl (do_call (get_off B d n su cv fb s name hb1) ⟨rfl, rfl, trivial⟩ enters_74 [0, 1] [2, 3, 4, 5] ⟨rfl, rfl, trivial⟩ ⟨rfl, rfl, rfl, rfl, trivial⟩ (R := [_, _, _, _]) (by decide)) ?_
    rintro _ _ ⟨_, ⟨rfl, rfl⟩, rfl⟩
    refine wl_1 trivial rfl (do_move rfl) ?_
    refine wl_1 trivial rfl (do_extract rfl rfl) ?_
    refine wl_1 trivial rfl (do_extract rfl rfl) ?_
    refine wl_1 trivial rfl (do_assign rfl) ?_
    refine wl_1 trivial rfl (do_assign rfl) ?_
    refine wl_nil ?_
    refine at_then ?_
    refine wc_seq ?_
    refine wc_region ?_
    refine wl_1 trivial rfl (do_move rfl) ?_
    refine wl_1 trivial rfl (do_cmp (c := true) rfl rfl rfl) ?_
    refine wl_nil ?_
    refine at_then ?_
    refine wc_true rfl ?_
    refine wc_seq ?_
    refine wc_region ?_
    refine wl_1 trivial rfl (do_move rfl) ?_
    refine wl_1 trivial rfl (do_assign rfl) ?_
    refine wl_nil ?_
    refine at_then ?_
    refine wc_ret ?_
    refine at_then_ret ?_
    exact at_ret1 (M := [_, _, _, _, _]) rfl rfl ⟨n, su, cv, fb, by rw [renameS_9 hb1]; exact hfb, by rw [renameS_9 hb1], by rw [renameS_9 hb1]; exact rfl⟩ rfl

set_option maxRecDepth 100000 in
set_option maxHeartbeats 8000000 in
theorem remove_tri (B : Ctx) (d n su : Nat) (cv : Value) (fb : List Nat) (s : DS) (name : ByteArray) (N : Nat) (hs : DB s N) (hN : N ≤ 1000000) (hfb : fb.length = s.fs.length) :
    Tri Try.prog B 43 #[.pointer (some ⟨d, 0, none⟩), .string name] [pt d (.cells #[.int .i64 s.count, .bool s.done, .int .i64 s.fuse, .bool s.off, .int .i64 s.quota, .map (some n), .map (some su), cv] 87 (0, 0)), mapA encS n (pv fb s.now), mapA encS su (pv fb s.sure), row 20 1 cv s.chg.length (s.chg.map (chgV fb)), filesA B fb s.fs] (fun u M => ∃ n' su' cv' fb', fb'.length = (removeS name s).2.fs.length ∧ u = .int .i64 (removeS name s).1 ∧ M = DL B d n' su' cv' fb' (removeS name s).2) := by
  refine tri_body (n := 21) Try.func43 rfl rfl rfl ?_
  intro F
  show WC _ _ _ _ _ _ _ [(0, .pointer (some ⟨d, 0, none⟩)), (1, .string name)] [pt d (.cells #[.int .i64 s.count, .bool s.done, .int .i64 s.fuse, .bool s.off, .int .i64 s.quota, .map (some n), .map (some su), cv] 87 (0, 0)), mapA encS n (pv fb s.now), mapA encS su (pv fb s.sure), row 20 1 cv s.chg.length (s.chg.map (chgV fb)), filesA B fb s.fs, F]
  have hs0 := hs
  obtain ⟨hwn, hws, hwc, hf1, hn1, hc1, hb1, hp1, hq0, hq1, hk0, hk1, hu0, hu1, hnn, hns⟩ := hs
  refine wc_seq ?_
  refine wc_region ?_
  refine wl_1 trivial rfl (do_assign rfl) ?_
  refine wl_nil ?_
  refine at_then ?_
  refine wc_seq ?_
  refine wc_seq ?_
  refine wc_region ?_
  refine wl_1 trivial rfl (do_move rfl) ?_
  refine wl_1 trivial rfl (do_move rfl) ?_
  rcases (Bool.eq_false_or_eq_true s.off).symm with hb1 | hb1
  · skip
    rcases hg2 : aget s.now name with _ | v3
    · skip
      refine wl_do trivial rfl (do_call (get_none B d n su cv fb s name hb1 hg2) ⟨rfl, rfl, trivial⟩ enters_74 [0, 1] [2, 3, 4, 5] ⟨rfl, rfl, trivial⟩ ⟨rfl, rfl, rfl, rfl, trivial⟩ (R := [_, _, _, _]) (by decide)) ?_
      rintro _ _ ⟨_, ⟨rfl, rfl⟩, rfl⟩
      refine wl_1 trivial rfl (do_move rfl) ?_
      refine wl_1 trivial rfl (do_extract rfl rfl) ?_
      refine wl_1 trivial rfl (do_extract rfl rfl) ?_
      refine wl_1 trivial rfl (do_assign rfl) ?_
      refine wl_1 trivial rfl (do_assign rfl) ?_
      refine wl_nil ?_
      refine at_then ?_
      refine wc_seq ?_
      refine wc_region ?_
      refine wl_1 trivial rfl (do_move rfl) ?_
      refine wl_1 trivial rfl (do_cmp (c := true) rfl rfl rfl) ?_
      refine wl_nil ?_
      refine at_then ?_
      refine wc_true rfl ?_
      refine wc_seq ?_
      refine wc_region ?_
      refine wl_1 trivial rfl (do_move rfl) ?_
      refine wl_1 trivial rfl (do_assign rfl) ?_
      refine wl_nil ?_
      refine at_then ?_
      refine wc_ret ?_
      refine at_then_ret ?_
      exact at_ret1 (M := [_, _, _, _, _]) rfl rfl ⟨n, su, cv, fb, by rw [removeS_3 hb1 hg2]; exact hfb, by rw [removeS_3 hb1 hg2], by rw [removeS_3 hb1 hg2]; exact rfl⟩ rfl
    · skip
      refine wl_do trivial rfl (do_call (get_some B d n su cv fb s name v3 hb1 hg2) ⟨rfl, rfl, trivial⟩ enters_74 [0, 1] [2, 3, 4, 5] ⟨rfl, rfl, trivial⟩ ⟨rfl, rfl, rfl, rfl, trivial⟩ (R := [_, _, _, _]) (by decide)) ?_
      rintro _ _ ⟨_, ⟨rfl, rfl⟩, rfl⟩
      refine wl_1 trivial rfl (do_move rfl) ?_
      refine wl_1 trivial rfl (do_extract rfl rfl) ?_
      refine wl_1 trivial rfl (do_extract rfl rfl) ?_
      refine wl_1 trivial rfl (do_assign rfl) ?_
      refine wl_1 trivial rfl (do_assign rfl) ?_
      refine wl_nil ?_
      refine at_then ?_
      refine wc_seq ?_
      refine wc_region ?_
      refine wl_1 trivial rfl (do_move rfl) ?_
      refine wl_1 trivial rfl (do_cmp (c := false) rfl rfl rfl) ?_
      refine wl_nil ?_
      refine at_then ?_
      refine wc_false rfl ?_
      refine wc_skip ?_
      refine at_then ?_
      refine wc_seq ?_
      refine wc_region ?_
      refine wl_1 trivial rfl (do_move rfl) ?_
      refine wl_1 trivial rfl (do_move rfl) ?_
      refine wl_1 trivial rfl (do_build (ps := [(0, .string name)]) ⟨rfl, rfl, trivial⟩ (build_142 rfl)) ?_
      refine wl_1 trivial rfl (do_makeIface isConc_142 rfl) ?_
      rcases (Bool.eq_false_or_eq_true ((opS s).2.1)).symm with hb4 | hb4
      · skip
        refine wl_do trivial rfl (do_call (change_not B d n su cv fb s (.iface 142 (.agg #[.string name])) N hs0 hN hb4) ⟨rfl, rfl, trivial⟩ enters_82 [0] [1, 2, 3, 4, 5] ⟨rfl, trivial⟩ ⟨rfl, rfl, rfl, rfl, rfl, trivial⟩ (R := [_, _, _, _, _]) (by decide)) ?_
        rintro _ _ ⟨_, ⟨rfl, rfl⟩, rfl⟩
        refine wl_1 trivial rfl (do_assign rfl) ?_
        refine wl_nil ?_
        refine at_then ?_
        refine wc_ret ?_
        exact at_ret1 (M := [_, _, _, _, _]) rfl rfl ⟨n, su, cv, fb, by rw [removeS_c hb1 hg2, changeS_0 hb4]; rw [opS_fs]; exact hfb, by rw [removeS_c hb1 hg2, changeS_0 hb4], by rw [removeS_c hb1 hg2, changeS_0 hb4]; exact DL_mk (opS_fs s) (opS_now s) (opS_sure s) (opS_chg s)⟩ rfl
      · skip
        refine wl_do trivial rfl (do_call (change_done B d n su cv fb s (ChgD.del name) N hs0 hN hb4) ⟨rfl, rfl, trivial⟩ enters_82 [0, 1, 3] [2, 4, 5] ⟨rfl, rfl, rfl, trivial⟩ ⟨rfl, rfl, rfl, trivial⟩ (R := [_, _, _]) (by decide)) ?_
        rintro _ _ ⟨_, ⟨cv5, rfl, rfl⟩, rfl⟩
        refine wl_1 trivial rfl (do_assign rfl) ?_
        refine wl_nil ?_
        refine at_then ?_
        refine wc_ret ?_
        refine at_pick (M := [_, _, _, _, _, _]) [0, 1, 3, 2, 4, 5] ⟨rfl, rfl, rfl, rfl, rfl, rfl, trivial⟩ (by decide) ?_
        exact at_ret1 (M := [_, _, _, _, _]) rfl rfl ⟨n, su, cv5, fb, by rw [removeS_c hb1 hg2, changeS_ok hb4]; rw [opS_fs]; exact hfb, by rw [removeS_c hb1 hg2, changeS_ok hb4], by rw [removeS_c hb1 hg2, changeS_ok hb4]; exact DL_mk (s := { (opS s).2.2 with now := doC s.now (ChgD.del name), chg := s.chg ++ [(ChgD.del name)] }) (opS_fs s) rfl (opS_sure s) rfl⟩ rfl
  · skip
    refine wl_do trivial rfl (do_call (get_off B d n su cv fb s name hb1) ⟨rfl, rfl, trivial⟩ enters_74 [0, 1] [2, 3, 4, 5] ⟨rfl, rfl, trivial⟩ ⟨rfl, rfl, rfl, rfl, trivial⟩ (R := [_, _, _, _]) (by decide)) ?_
    rintro _ _ ⟨_, ⟨rfl, rfl⟩, rfl⟩
    refine wl_1 trivial rfl (do_move rfl) ?_
    refine wl_1 trivial rfl (do_extract rfl rfl) ?_
    refine wl_1 trivial rfl (do_extract rfl rfl) ?_
    refine wl_1 trivial rfl (do_assign rfl) ?_
    refine wl_1 trivial rfl (do_assign rfl) ?_
    refine wl_nil ?_
    refine at_then ?_
    refine wc_seq ?_
    refine wc_region ?_
    refine wl_1 trivial rfl (do_move rfl) ?_
    refine wl_1 trivial rfl (do_cmp (c := true) rfl rfl rfl) ?_
    refine wl_nil ?_
    refine at_then ?_
    refine wc_true rfl ?_
    refine wc_seq ?_
    refine wc_region ?_
    refine wl_1 trivial rfl (do_move rfl) ?_
    refine wl_1 trivial rfl (do_assign rfl) ?_
    refine wl_nil ?_
    refine at_then ?_
    refine wc_ret ?_
    refine at_then_ret ?_
    exact at_ret1 (M := [_, _, _, _, _]) rfl rfl ⟨n, su, cv, fb, by rw [removeS_9 hb1]; exact hfb, by rw [removeS_9 hb1], by rw [removeS_9 hb1]; exact rfl⟩ rfl

set_option maxRecDepth 100000 in
set_option maxHeartbeats 8000000 in
theorem sync_tri (B : Ctx) (d n su : Nat) (cv : Value) (fb : List Nat) (s : DS) (name : ByteArray) (N : Nat) (hs : DB s N) (hN : N ≤ 1000000) (hfb : fb.length = s.fs.length) :
    Tri Try.prog B 44 #[.pointer (some ⟨d, 0, none⟩), .string name] [pt d (.cells #[.int .i64 s.count, .bool s.done, .int .i64 s.fuse, .bool s.off, .int .i64 s.quota, .map (some n), .map (some su), cv] 87 (0, 0)), mapA encS n (pv fb s.now), mapA encS su (pv fb s.sure), row 20 1 cv s.chg.length (s.chg.map (chgV fb)), filesA B fb s.fs] (fun u M => ∃ n' su' cv' fb', fb'.length = (syncS name s).2.fs.length ∧ u = .int .i64 (syncS name s).1 ∧ M = DL B d n' su' cv' fb' (syncS name s).2) := by
  refine tri_body (n := 34) Try.func44 rfl rfl rfl ?_
  intro F
  show WC _ _ _ _ _ _ _ [(0, .pointer (some ⟨d, 0, none⟩)), (1, .string name)] [pt d (.cells #[.int .i64 s.count, .bool s.done, .int .i64 s.fuse, .bool s.off, .int .i64 s.quota, .map (some n), .map (some su), cv] 87 (0, 0)), mapA encS n (pv fb s.now), mapA encS su (pv fb s.sure), row 20 1 cv s.chg.length (s.chg.map (chgV fb)), filesA B fb s.fs, F]
  have hs0 := hs
  obtain ⟨hwn, hws, hwc, hf1, hn1, hc1, hb1, hp1, hq0, hq1, hk0, hk1, hu0, hu1, hnn, hns⟩ := hs
  refine wc_seq ?_
  refine wc_region ?_
  refine wl_1 trivial rfl (do_assign rfl) ?_
  refine wl_nil ?_
  refine at_then ?_
  refine wc_seq ?_
  refine wc_region ?_
  refine wl_1 trivial rfl (do_move rfl) ?_
  refine wl_1 trivial rfl (do_move rfl) ?_
  rcases (Bool.eq_false_or_eq_true s.off).symm with hb1 | hb1
  · skip
    rcases hg2 : aget s.now name with _ | v3
    · skip
      refine wl_do trivial rfl (do_call (get_none B d n su cv fb s name hb1 hg2) ⟨rfl, rfl, trivial⟩ enters_74 [0, 1] [2, 3, 4, 5] ⟨rfl, rfl, trivial⟩ ⟨rfl, rfl, rfl, rfl, trivial⟩ (R := [_, _, _, _]) (by decide)) ?_
      rintro _ _ ⟨_, ⟨rfl, rfl⟩, rfl⟩
      refine wl_1 trivial rfl (do_move rfl) ?_
      refine wl_1 trivial rfl (do_extract rfl rfl) ?_
      refine wl_1 trivial rfl (do_extract rfl rfl) ?_
      refine wl_1 trivial rfl (do_assign rfl) ?_
      refine wl_1 trivial rfl (do_assign rfl) ?_
      refine wl_nil ?_
      refine at_then ?_
      refine wc_seq ?_
      refine wc_seq ?_
      refine wc_region ?_
      refine wl_1 trivial rfl (do_move rfl) ?_
      refine wl_1 trivial rfl (do_cmp (c := true) rfl rfl rfl) ?_
      refine wl_nil ?_
      refine at_then ?_
      refine wc_true rfl ?_
      refine wc_seq ?_
      refine wc_region ?_
      refine wl_1 trivial rfl (do_move rfl) ?_
      refine wl_1 trivial rfl (do_assign rfl) ?_
      refine wl_nil ?_
      refine at_then ?_
      refine wc_ret ?_
      refine at_then_ret ?_
      exact at_ret1 (M := [_, _, _, _, _]) rfl rfl ⟨n, su, cv, fb, by rw [syncS_3 hb1 hg2]; exact hfb, by rw [syncS_3 hb1 hg2], by rw [syncS_3 hb1 hg2]; exact rfl⟩ rfl
    · skip
      refine wl_do trivial rfl (do_call (get_some B d n su cv fb s name v3 hb1 hg2) ⟨rfl, rfl, trivial⟩ enters_74 [0, 1] [2, 3, 4, 5] ⟨rfl, rfl, trivial⟩ ⟨rfl, rfl, rfl, rfl, trivial⟩ (R := [_, _, _, _]) (by decide)) ?_
      rintro _ _ ⟨_, ⟨rfl, rfl⟩, rfl⟩
      refine wl_1 trivial rfl (do_move rfl) ?_
      refine wl_1 trivial rfl (do_extract rfl rfl) ?_
      refine wl_1 trivial rfl (do_extract rfl rfl) ?_
      refine wl_1 trivial rfl (do_assign rfl) ?_
      refine wl_1 trivial rfl (do_assign rfl) ?_
      refine wl_nil ?_
      refine at_then ?_
      refine wc_seq ?_
      refine wc_seq ?_
      refine wc_region ?_
      refine wl_1 trivial rfl (do_move rfl) ?_
      refine wl_1 trivial rfl (do_cmp (c := false) rfl rfl rfl) ?_
      refine wl_nil ?_
      refine at_then ?_
      refine wc_false rfl ?_
      refine wc_skip ?_
      refine at_then ?_
      refine wc_seq ?_
      refine wc_region ?_
      refine wl_1 trivial rfl (do_move rfl) ?_
      refine wl_1 trivial rfl (do_nilCheck rfl) ?_
      refine wl_1 trivial rfl (do_fieldAddr (k := 0) (k' := 0) fo_87_0 rfl (by rfl)) ?_
      rcases (Bool.eq_false_or_eq_true ((opS s).2.1)).symm with hb4 | hb4
      · skip
        refine wl_do trivial rfl (do_call (oper_at B d n su cv fb s false N hs0 hN hb4) ⟨rfl, trivial⟩ enters_83 [0] [1, 2, 3, 4, 5] ⟨rfl, trivial⟩ ⟨rfl, rfl, rfl, rfl, rfl, trivial⟩ (R := [_, _, _, _, _]) (by decide)) ?_
        rintro _ _ ⟨_, ⟨rfl, rfl⟩, rfl⟩
        refine wl_1 trivial rfl (do_move rfl) ?_
        refine wl_1 trivial rfl (do_extract rfl rfl) ?_
        refine wl_1 trivial rfl (do_extract rfl rfl) ?_
        refine wl_1 trivial rfl (do_assign rfl) ?_
        refine wl_1 trivial rfl (do_assign rfl) ?_
        refine wl_nil ?_
        refine at_then ?_
        refine wc_seq ?_
        refine wc_seq ?_
        refine wc_region ?_
        refine wl_1 trivial rfl (do_move rfl) ?_
        refine wl_nil ?_
        refine at_then ?_
        refine wc_false rfl ?_
        refine wc_skip ?_
        refine at_then ?_
        refine wc_seq ?_
        refine wc_region ?_
        refine wl_1 trivial rfl (do_move rfl) ?_
        refine wl_1 trivial rfl (do_assign rfl) ?_
        refine wl_nil ?_
        refine at_then ?_
        refine wc_ret ?_
        exact at_ret1 (M := [_, _, _, _, _]) rfl rfl ⟨n, su, cv, fb, by rw [syncS_0 hb1 hg2 hb4]; rw [opS_fs]; exact hfb, by rw [syncS_0 hb1 hg2 hb4], by rw [syncS_0 hb1 hg2 hb4]; exact DL_mk (opS_fs s) (opS_now s) (opS_sure s) (opS_chg s)⟩ rfl
      · skip
        refine wl_do trivial rfl (do_call (oper_at B d n su cv fb s true N hs0 hN hb4) ⟨rfl, trivial⟩ enters_83 [0] [1, 2, 3, 4, 5] ⟨rfl, trivial⟩ ⟨rfl, rfl, rfl, rfl, rfl, trivial⟩ (R := [_, _, _, _, _]) (by decide)) ?_
        rintro _ _ ⟨_, ⟨rfl, rfl⟩, rfl⟩
        refine wl_1 trivial rfl (do_move rfl) ?_
        refine wl_1 trivial rfl (do_extract rfl rfl) ?_
        refine wl_1 trivial rfl (do_extract rfl rfl) ?_
        refine wl_1 trivial rfl (do_assign rfl) ?_
        refine wl_1 trivial rfl (do_assign rfl) ?_
        refine wl_nil ?_
        refine at_then ?_
        refine wc_seq ?_
        refine wc_seq ?_
        refine wc_region ?_
        refine wl_1 trivial rfl (do_move rfl) ?_
        refine wl_nil ?_
        refine at_then ?_
        refine wc_true rfl ?_
        refine wc_region ?_
        refine wl_1 trivial rfl (do_move rfl) ?_
        refine wl_1 trivial rfl (do_move rfl) ?_
        refine wl_1 trivial rfl (do_move rfl) ?_
        refine wl_do trivial rfl (do_call (bytes_one B fb s.fs v3 (fileD s v3) (fileD_at (hs0.has hg2)) (by have := (hs0.file (hs0.has hg2)).2; omega) (by have := (hs0.file (hs0.has hg2)).1; omega)) ⟨rfl, trivial⟩ enters_75 [4] [0, 1, 2, 3, 5] ⟨rfl, trivial⟩ ⟨rfl, rfl, rfl, rfl, rfl, trivial⟩ (R := [_, _, _, _, _]) (by decide)) ?_
        rintro _ _ ⟨_, ⟨x5, rfl, rfl, ho6⟩, rfl⟩
        refine wl_mem (L' := [fileA B (fb.getD v3 0) (fileD s v3), Star ((List.zipWith (fileA B) fb s.fs).eraseIdx v3), row 5 1 x5 ((fileD s v3).bytes.length) (byv (fileD s v3).bytes), pt d (.cells #[.int .i64 ((opS s).2.2.count), .bool ((opS s).2.2.done), .int .i64 ((opS s).2.2.fuse), .bool ((opS s).2.2.off), .int .i64 ((opS s).2.2.quota), .map (some n), .map (some su), cv] 87 (0, 0)), mapA encS n (pv fb s.now), mapA encS su (pv fb s.sure), row 20 1 cv s.chg.length (s.chg.map (chgV fb)), F]) (fun w_ h_ => files_open (fileD_at (hs0.has hg2)) (h_.pick (M := [filesA B fb s.fs, row 5 1 x5 ((fileD s v3).bytes.length) (byv (fileD s v3).bytes), pt d (.cells #[.int .i64 ((opS s).2.2.count), .bool ((opS s).2.2.done), .int .i64 ((opS s).2.2.fuse), .bool ((opS s).2.2.off), .int .i64 ((opS s).2.2.quota), .map (some n), .map (some su), cv] 87 (0, 0)), mapA encS n (pv fb s.now), mapA encS su (pv fb s.sure), row 20 1 cv s.chg.length (s.chg.map (chgV fb)), F]) [0, 1, 2, 3, 4, 5, 6] ⟨rfl, rfl, rfl, rfl, rfl, rfl, rfl, trivial⟩ (by decide))) ?_
        refine wl_open (α := Value × Value × List Value) (φ := fun x => x.2.2.length = (fileD s v3).pieces.length) (Lf := fun x => filePs B (fb.getD v3 0) (fileD s v3) x ++ [Star ((List.zipWith (fileA B) fb s.fs).eraseIdx v3), row 5 1 x5 ((fileD s v3).bytes.length) (byv (fileD s v3).bytes), pt d (.cells #[.int .i64 ((opS s).2.2.count), .bool ((opS s).2.2.done), .int .i64 ((opS s).2.2.fuse), .bool ((opS s).2.2.off), .int .i64 ((opS s).2.2.quota), .map (some n), .map (some su), cv] 87 (0, 0)), mapA encS n (pv fb s.now), mapA encS su (pv fb s.sure), row 20 1 cv s.chg.length (s.chg.map (chgV fb)), F]) (fun w_ h_ => ex_get h_) ?_
        rintro ⟨sv7, pw8, ps9⟩ hx10
        refine wl_mem (L' := [pt (fb.getD v3 0) (.cells #[sv7, pw8] 134 (0, 0)), bytesA B sv7 (fileD s v3).sure, row 32 1 pw8 ((fileD s v3).pieces.length) ps9, piecesA B ps9 (fileD s v3).pieces, Star ((List.zipWith (fileA B) fb s.fs).eraseIdx v3), row 5 1 x5 ((fileD s v3).bytes.length) (byv (fileD s v3).bytes), pt d (.cells #[.int .i64 ((opS s).2.2.count), .bool ((opS s).2.2.done), .int .i64 ((opS s).2.2.fuse), .bool ((opS s).2.2.off), .int .i64 ((opS s).2.2.quota), .map (some n), .map (some su), cv] 87 (0, 0)), mapA encS n (pv fb s.now), mapA encS su (pv fb s.sure), row 20 1 cv s.chg.length (s.chg.map (chgV fb)), F]) (fun w_ h_ => h_) ?_
        refine wl_1 trivial rfl (do_nilCheck rfl) ?_
        refine wl_1 trivial rfl (do_fieldAddr (k := 0) (k' := 0) fo_134_0 rfl (by rfl)) ?_
        refine wl_1 trivial rfl (do_store (L1 := []) rfl rfl one_32 ho6 rfl (cs' := #[x5, pw8]) rfl) ?_
        refine wl_1 trivial rfl (do_nilCheck rfl) ?_
        refine wl_1 trivial rfl (do_fieldAddr (k := 1) (k' := 1) fo_134_1 rfl (by rfl)) ?_
        refine wl_1 trivial rfl (do_store (L1 := []) rfl rfl one_132 rfl rfl (cs' := #[x5, .slice none 0 0]) rfl) ?_
        refine wl_nil ?_
        refine at_then ?_
        refine wc_seq ?_
        refine wc_region ?_
        refine wl_1 trivial rfl (do_move rfl) ?_
        refine wl_1 trivial rfl (do_assign rfl) ?_
        refine wl_nil ?_
        refine at_then ?_
        refine wc_ret ?_
        refine at_mem (L' := [bytesA B x5 (fileD s v3).bytes, pt (fb.getD v3 0) (.cells #[x5, .slice none 0 0] 134 (0, 0)), bytesA B sv7 (fileD s v3).sure, row 32 1 pw8 ((fileD s v3).pieces.length) ps9, piecesA B ps9 (fileD s v3).pieces, Star ((List.zipWith (fileA B) fb s.fs).eraseIdx v3), pt d (.cells #[.int .i64 ((opS s).2.2.count), .bool ((opS s).2.2.done), .int .i64 ((opS s).2.2.fuse), .bool ((opS s).2.2.off), .int .i64 ((opS s).2.2.quota), .map (some n), .map (some su), cv] 87 (0, 0)), mapA encS n (pv fb s.now), mapA encS su (pv fb s.sure), row 20 1 cv s.chg.length (s.chg.map (chgV fb)), F]) (fun w_ h_ => row_bytes (h_.pick (M := [row 5 1 x5 ((fileD s v3).bytes.length) (byv (fileD s v3).bytes), pt (fb.getD v3 0) (.cells #[x5, .slice none 0 0] 134 (0, 0)), bytesA B sv7 (fileD s v3).sure, row 32 1 pw8 ((fileD s v3).pieces.length) ps9, piecesA B ps9 (fileD s v3).pieces, Star ((List.zipWith (fileA B) fb s.fs).eraseIdx v3), pt d (.cells #[.int .i64 ((opS s).2.2.count), .bool ((opS s).2.2.done), .int .i64 ((opS s).2.2.fuse), .bool ((opS s).2.2.off), .int .i64 ((opS s).2.2.quota), .map (some n), .map (some su), cv] 87 (0, 0)), mapA encS n (pv fb s.now), mapA encS su (pv fb s.sure), row 20 1 cv s.chg.length (s.chg.map (chgV fb)), F]) [5, 0, 1, 2, 3, 4, 6, 7, 8, 9, 10] ⟨rfl, rfl, rfl, rfl, rfl, rfl, rfl, rfl, rfl, rfl, rfl, trivial⟩ (by decide))) ?_
        refine at_mem (L' := [piecesA B [] [], bytesA B x5 (fileD s v3).bytes, pt (fb.getD v3 0) (.cells #[x5, .slice none 0 0] 134 (0, 0)), bytesA B sv7 (fileD s v3).sure, row 32 1 pw8 ((fileD s v3).pieces.length) ps9, piecesA B ps9 (fileD s v3).pieces, Star ((List.zipWith (fileA B) fb s.fs).eraseIdx v3), pt d (.cells #[.int .i64 ((opS s).2.2.count), .bool ((opS s).2.2.done), .int .i64 ((opS s).2.2.fuse), .bool ((opS s).2.2.off), .int .i64 ((opS s).2.2.quota), .map (some n), .map (some su), cv] 87 (0, 0)), mapA encS n (pv fb s.now), mapA encS su (pv fb s.sure), row 20 1 cv s.chg.length (s.chg.map (chgV fb)), F]) (fun w_ h_ => h_.intro trivial) ?_
        refine at_mem (L' := [row 32 1 (.slice none 0 0) 0 ([]), piecesA B [] [], bytesA B x5 (fileD s v3).bytes, pt (fb.getD v3 0) (.cells #[x5, .slice none 0 0] 134 (0, 0)), bytesA B sv7 (fileD s v3).sure, row 32 1 pw8 ((fileD s v3).pieces.length) ps9, piecesA B ps9 (fileD s v3).pieces, Star ((List.zipWith (fileA B) fb s.fs).eraseIdx v3), pt d (.cells #[.int .i64 ((opS s).2.2.count), .bool ((opS s).2.2.done), .int .i64 ((opS s).2.2.fuse), .bool ((opS s).2.2.off), .int .i64 ((opS s).2.2.quota), .map (some n), .map (some su), cv] 87 (0, 0)), mapA encS n (pv fb s.now), mapA encS su (pv fb s.sure), row 20 1 cv s.chg.length (s.chg.map (chgV fb)), F]) (fun w_ h_ => h_.intro row_nil) ?_
        refine at_mem (L' := [fileA B (fb.getD v3 0) ⟨(fileD s v3).bytes, []⟩, bytesA B sv7 (fileD s v3).sure, row 32 1 pw8 ((fileD s v3).pieces.length) ps9, piecesA B ps9 (fileD s v3).pieces, Star ((List.zipWith (fileA B) fb s.fs).eraseIdx v3), pt d (.cells #[.int .i64 ((opS s).2.2.count), .bool ((opS s).2.2.done), .int .i64 ((opS s).2.2.fuse), .bool ((opS s).2.2.off), .int .i64 ((opS s).2.2.quota), .map (some n), .map (some su), cv] 87 (0, 0)), mapA encS n (pv fb s.now), mapA encS su (pv fb s.sure), row 20 1 cv s.chg.length (s.chg.map (chgV fb)), F]) (fun w_ h_ => ex_put (φ := fun x : Value × Value × List Value => x.2.2.length = (⟨(fileD s v3).bytes, []⟩ : FileS).pieces.length) (As := filePs B (fb.getD v3 0) ⟨(fileD s v3).bytes, []⟩) (x5, .slice none 0 0, []) rfl (h_.pick (M := [pt (fb.getD v3 0) (.cells #[x5, .slice none 0 0] 134 (0, 0)), bytesA B x5 (fileD s v3).bytes, row 32 1 (.slice none 0 0) 0 ([]), piecesA B [] [], bytesA B sv7 (fileD s v3).sure, row 32 1 pw8 ((fileD s v3).pieces.length) ps9, piecesA B ps9 (fileD s v3).pieces, Star ((List.zipWith (fileA B) fb s.fs).eraseIdx v3), pt d (.cells #[.int .i64 ((opS s).2.2.count), .bool ((opS s).2.2.done), .int .i64 ((opS s).2.2.fuse), .bool ((opS s).2.2.off), .int .i64 ((opS s).2.2.quota), .map (some n), .map (some su), cv] 87 (0, 0)), mapA encS n (pv fb s.now), mapA encS su (pv fb s.sure), row 20 1 cv s.chg.length (s.chg.map (chgV fb)), F]) [3, 2, 0, 1, 4, 5, 6, 7, 8, 9, 10, 11, 12] ⟨rfl, rfl, rfl, rfl, rfl, rfl, rfl, rfl, rfl, rfl, rfl, rfl, rfl, trivial⟩ (by decide))) ?_
        refine at_mem (L' := [filesA B fb (s.fs.set v3 ⟨(fileD s v3).bytes, []⟩), bytesA B sv7 (fileD s v3).sure, row 32 1 pw8 ((fileD s v3).pieces.length) ps9, piecesA B ps9 (fileD s v3).pieces, pt d (.cells #[.int .i64 ((opS s).2.2.count), .bool ((opS s).2.2.done), .int .i64 ((opS s).2.2.fuse), .bool ((opS s).2.2.off), .int .i64 ((opS s).2.2.quota), .map (some n), .map (some su), cv] 87 (0, 0)), mapA encS n (pv fb s.now), mapA encS su (pv fb s.sure), row 20 1 cv s.chg.length (s.chg.map (chgV fb)), F]) (fun w_ h_ => files_close hfb (hs0.has hg2) (h_.pick (M := [fileA B (fb.getD v3 0) ⟨(fileD s v3).bytes, []⟩, Star ((List.zipWith (fileA B) fb s.fs).eraseIdx v3), bytesA B sv7 (fileD s v3).sure, row 32 1 pw8 ((fileD s v3).pieces.length) ps9, piecesA B ps9 (fileD s v3).pieces, pt d (.cells #[.int .i64 ((opS s).2.2.count), .bool ((opS s).2.2.done), .int .i64 ((opS s).2.2.fuse), .bool ((opS s).2.2.off), .int .i64 ((opS s).2.2.quota), .map (some n), .map (some su), cv] 87 (0, 0)), mapA encS n (pv fb s.now), mapA encS su (pv fb s.sure), row 20 1 cv s.chg.length (s.chg.map (chgV fb)), F]) [0, 4, 1, 2, 3, 5, 6, 7, 8, 9] ⟨rfl, rfl, rfl, rfl, rfl, rfl, rfl, rfl, rfl, rfl, trivial⟩ (by decide))) ?_
        refine at_pick (M := [_, _, _, _, _, _]) [4, 5, 6, 7, 0, 8] ⟨rfl, rfl, rfl, rfl, rfl, rfl, trivial⟩ (by decide) ?_
        exact at_ret1 (M := [_, _, _, _, _]) rfl rfl ⟨n, su, cv, fb, by rw [syncS_ok hb1 hg2 hb4]; simpa using hfb, by rw [syncS_ok hb1 hg2 hb4], by rw [syncS_ok hb1 hg2 hb4]; exact DL_mk (s := { (opS s).2.2 with fs := s.fs.set v3 ⟨(fileD s v3).bytes, []⟩ }) rfl (opS_now s) (opS_sure s) (opS_chg s)⟩ rfl
  · skip
    refine wl_do trivial rfl (do_call (get_off B d n su cv fb s name hb1) ⟨rfl, rfl, trivial⟩ enters_74 [0, 1] [2, 3, 4, 5] ⟨rfl, rfl, trivial⟩ ⟨rfl, rfl, rfl, rfl, trivial⟩ (R := [_, _, _, _]) (by decide)) ?_
    rintro _ _ ⟨_, ⟨rfl, rfl⟩, rfl⟩
    refine wl_1 trivial rfl (do_move rfl) ?_
    refine wl_1 trivial rfl (do_extract rfl rfl) ?_
    refine wl_1 trivial rfl (do_extract rfl rfl) ?_
    refine wl_1 trivial rfl (do_assign rfl) ?_
    refine wl_1 trivial rfl (do_assign rfl) ?_
    refine wl_nil ?_
    refine at_then ?_
    refine wc_seq ?_
    refine wc_seq ?_
    refine wc_region ?_
    refine wl_1 trivial rfl (do_move rfl) ?_
    refine wl_1 trivial rfl (do_cmp (c := true) rfl rfl rfl) ?_
    refine wl_nil ?_
    refine at_then ?_
    refine wc_true rfl ?_
    refine wc_seq ?_
    refine wc_region ?_
    refine wl_1 trivial rfl (do_move rfl) ?_
    refine wl_1 trivial rfl (do_assign rfl) ?_
    refine wl_nil ?_
    refine at_then ?_
    refine wc_ret ?_
    refine at_then_ret ?_
    exact at_ret1 (M := [_, _, _, _, _]) rfl rfl ⟨n, su, cv, fb, by rw [syncS_9 hb1]; exact hfb, by rw [syncS_9 hb1], by rw [syncS_9 hb1]; exact rfl⟩ rfl

set_option maxRecDepth 100000 in
set_option maxHeartbeats 8000000 in
theorem syncdir_tri (B : Ctx) (d n su : Nat) (cv : Value) (fb : List Nat) (s : DS) (N : Nat) (hs : DB s N) (hN : N ≤ 1000000) (hfb : fb.length = s.fs.length) :
    Tri Try.prog B 45 #[.pointer (some ⟨d, 0, none⟩)] [pt d (.cells #[.int .i64 s.count, .bool s.done, .int .i64 s.fuse, .bool s.off, .int .i64 s.quota, .map (some n), .map (some su), cv] 87 (0, 0)), mapA encS n (pv fb s.now), mapA encS su (pv fb s.sure), row 20 1 cv s.chg.length (s.chg.map (chgV fb)), filesA B fb s.fs] (fun u M => ∃ n' su' cv' fb', fb'.length = (syncdirS s).2.fs.length ∧ u = .int .i64 (syncdirS s).1 ∧ M = DL B d n' su' cv' fb' (syncdirS s).2) := by
  refine tri_body (n := 31) Try.func45 rfl rfl rfl ?_
  intro F
  show WC _ _ _ _ _ _ _ [(0, .pointer (some ⟨d, 0, none⟩))] [pt d (.cells #[.int .i64 s.count, .bool s.done, .int .i64 s.fuse, .bool s.off, .int .i64 s.quota, .map (some n), .map (some su), cv] 87 (0, 0)), mapA encS n (pv fb s.now), mapA encS su (pv fb s.sure), row 20 1 cv s.chg.length (s.chg.map (chgV fb)), filesA B fb s.fs, F]
  have hs0 := hs
  obtain ⟨hwn, hws, hwc, hf1, hn1, hc1, hb1, hp1, hq0, hq1, hk0, hk1, hu0, hu1, hnn, hns⟩ := hs
  refine wc_seq ?_
  refine wc_region ?_
  refine wl_1 trivial rfl (do_assign rfl) ?_
  refine wl_nil ?_
  refine at_then ?_
  refine wc_seq ?_
  refine wc_seq ?_
  refine wc_region ?_
  refine wl_1 trivial rfl (do_move rfl) ?_
  rcases (Bool.eq_false_or_eq_true s.off).symm with hb1 | hb1
  · skip
    refine wl_do trivial rfl (do_call (may_on B d n su cv fb s hb1) ⟨rfl, trivial⟩ enters_80 [0] [1, 2, 3, 4, 5] ⟨rfl, trivial⟩ ⟨rfl, rfl, rfl, rfl, rfl, trivial⟩ (R := [_, _, _, _, _]) (by decide)) ?_
    rintro _ _ ⟨_, ⟨rfl, rfl⟩, rfl⟩
    refine wl_1 trivial rfl (do_assign rfl) ?_
    refine wl_nil ?_
    refine at_then ?_
    refine wc_seq ?_
    refine wc_region ?_
    refine wl_1 trivial rfl (do_move rfl) ?_
    refine wl_1 trivial rfl (do_cmp (c := false) rfl rfl rfl) ?_
    refine wl_nil ?_
    refine at_then ?_
    refine wc_false rfl ?_
    refine wc_skip ?_
    refine at_then ?_
    refine wc_seq ?_
    refine wc_region ?_
    refine wl_1 trivial rfl (do_move rfl) ?_
    refine wl_1 trivial rfl (do_nilCheck rfl) ?_
    refine wl_1 trivial rfl (do_fieldAddr (k := 0) (k' := 0) fo_87_0 rfl (by rfl)) ?_
    rcases (Bool.eq_false_or_eq_true ((opS s).2.1)).symm with hb2 | hb2
    · skip
      refine wl_do trivial rfl (do_call (oper_at B d n su cv fb s false N hs0 hN hb2) ⟨rfl, trivial⟩ enters_83 [0] [1, 2, 3, 4, 5] ⟨rfl, trivial⟩ ⟨rfl, rfl, rfl, rfl, rfl, trivial⟩ (R := [_, _, _, _, _]) (by decide)) ?_
      rintro _ _ ⟨_, ⟨rfl, rfl⟩, rfl⟩
      refine wl_1 trivial rfl (do_move rfl) ?_
      refine wl_1 trivial rfl (do_extract rfl rfl) ?_
      refine wl_1 trivial rfl (do_extract rfl rfl) ?_
      refine wl_1 trivial rfl (do_assign rfl) ?_
      refine wl_1 trivial rfl (do_assign rfl) ?_
      refine wl_nil ?_
      refine at_then ?_
      refine wc_seq ?_
      refine wc_seq ?_
      refine wc_region ?_
      refine wl_1 trivial rfl (do_move rfl) ?_
      refine wl_nil ?_
      refine at_then ?_
      refine wc_false rfl ?_
      refine wc_skip ?_
      refine at_then ?_
      refine wc_seq ?_
      refine wc_region ?_
      refine wl_1 trivial rfl (do_move rfl) ?_
      refine wl_1 trivial rfl (do_assign rfl) ?_
      refine wl_nil ?_
      refine at_then ?_
      refine wc_ret ?_
      exact at_ret1 (M := [_, _, _, _, _]) rfl rfl ⟨n, su, cv, fb, by rw [syncdirS_0 hb1 hb2]; rw [opS_fs]; exact hfb, by rw [syncdirS_0 hb1 hb2], by rw [syncdirS_0 hb1 hb2]; exact DL_mk (opS_fs s) (opS_now s) (opS_sure s) (opS_chg s)⟩ rfl
    · skip
      refine wl_do trivial rfl (do_call (oper_at B d n su cv fb s true N hs0 hN hb2) ⟨rfl, trivial⟩ enters_83 [0] [1, 2, 3, 4, 5] ⟨rfl, trivial⟩ ⟨rfl, rfl, rfl, rfl, rfl, trivial⟩ (R := [_, _, _, _, _]) (by decide)) ?_
      rintro _ _ ⟨_, ⟨rfl, rfl⟩, rfl⟩
      refine wl_1 trivial rfl (do_move rfl) ?_
      refine wl_1 trivial rfl (do_extract rfl rfl) ?_
      refine wl_1 trivial rfl (do_extract rfl rfl) ?_
      refine wl_1 trivial rfl (do_assign rfl) ?_
      refine wl_1 trivial rfl (do_assign rfl) ?_
      refine wl_nil ?_
      refine at_then ?_
      refine wc_seq ?_
      refine wc_seq ?_
      refine wc_region ?_
      refine wl_1 trivial rfl (do_move rfl) ?_
      refine wl_nil ?_
      refine at_then ?_
      refine wc_true rfl ?_
      refine wc_region ?_
      refine wl_1 trivial rfl (do_move rfl) ?_
      refine wl_1 trivial rfl (do_move rfl) ?_
      refine wl_1 trivial rfl (do_move rfl) ?_
      refine wl_1 trivial rfl (do_nilCheck rfl) ?_
      refine wl_1 trivial rfl (do_fieldAddr (k := 5) (k' := 5) fo_87_2 rfl (by rfl)) ?_
      refine wl_1 trivial rfl (do_load 0 rfl one_84 rfl rfl) ?_
      refine wl_do trivial rfl (do_call (mclone_tri B n (pv fb s.now)) ⟨rfl, trivial⟩ enters_78 [1] [0, 2, 3, 4, 5] ⟨rfl, trivial⟩ ⟨rfl, rfl, rfl, rfl, rfl, trivial⟩ (R := [_, _, _, _, _]) (by decide)) ?_
      rintro _ _ ⟨_, ⟨r3, rfl, rfl⟩, rfl⟩
      refine wl_1 trivial rfl (do_nilCheck rfl) ?_
      refine wl_1 trivial rfl (do_fieldAddr (k := 6) (k' := 6) fo_87_3 rfl (by rfl)) ?_
      refine wl_1 trivial rfl (do_store (L1 := [_, _]) rfl rfl one_84 rfl rfl (cs' := #[.int .i64 ((opS s).2.2.count), .bool ((opS s).2.2.done), .int .i64 ((opS s).2.2.fuse), .bool ((opS s).2.2.off), .int .i64 ((opS s).2.2.quota), .map (some n), .map (some r3), cv]) rfl) ?_
      refine wl_1 trivial rfl (do_nilCheck rfl) ?_
      refine wl_1 trivial rfl (do_fieldAddr (k := 7) (k' := 7) fo_87_4 rfl (by rfl)) ?_
      refine wl_1 trivial rfl (do_store (L1 := [_, _]) rfl rfl one_85 rfl rfl (cs' := #[.int .i64 ((opS s).2.2.count), .bool ((opS s).2.2.done), .int .i64 ((opS s).2.2.fuse), .bool ((opS s).2.2.off), .int .i64 ((opS s).2.2.quota), .map (some n), .map (some r3), .slice none 0 0]) rfl) ?_
      refine wl_nil ?_
      refine at_then ?_
      refine wc_seq ?_
      refine wc_region ?_
      refine wl_1 trivial rfl (do_move rfl) ?_
      refine wl_1 trivial rfl (do_assign rfl) ?_
      refine wl_nil ?_
      refine at_then ?_
      refine wc_ret ?_
      refine at_mem (L' := [row 20 1 (.slice none 0 0) 0 ([]), mapA encS n (pv fb s.now), mapA encS r3 (pv fb s.now), pt d (.cells #[.int .i64 ((opS s).2.2.count), .bool ((opS s).2.2.done), .int .i64 ((opS s).2.2.fuse), .bool ((opS s).2.2.off), .int .i64 ((opS s).2.2.quota), .map (some n), .map (some r3), .slice none 0 0] 87 (0, 0)), mapA encS su (pv fb s.sure), row 20 1 cv s.chg.length (s.chg.map (chgV fb)), filesA B fb s.fs, F]) (fun w_ h_ => h_.intro row_nil) ?_
      refine at_pick (M := [_, _, _, _, _, _]) [3, 1, 2, 0, 6, 7] ⟨rfl, rfl, rfl, rfl, rfl, rfl, trivial⟩ (by decide) ?_
      exact at_ret1 (M := [_, _, _, _, _]) rfl rfl ⟨n, r3, .slice none 0 0, fb, by rw [syncdirS_ok hb1 hb2]; rw [opS_fs]; exact hfb, by rw [syncdirS_ok hb1 hb2], by rw [syncdirS_ok hb1 hb2]; exact DL_mk (s := { (opS s).2.2 with sure := s.now, chg := [] }) (opS_fs s) (opS_now s) rfl rfl⟩ rfl
  · skip
    refine wl_do trivial rfl (do_call (may_off B d n su cv fb s hb1) ⟨rfl, trivial⟩ enters_80 [0] [1, 2, 3, 4, 5] ⟨rfl, trivial⟩ ⟨rfl, rfl, rfl, rfl, rfl, trivial⟩ (R := [_, _, _, _, _]) (by decide)) ?_
    rintro _ _ ⟨_, ⟨rfl, rfl⟩, rfl⟩
    refine wl_1 trivial rfl (do_assign rfl) ?_
    refine wl_nil ?_
    refine at_then ?_
    refine wc_seq ?_
    refine wc_region ?_
    refine wl_1 trivial rfl (do_move rfl) ?_
    refine wl_1 trivial rfl (do_cmp (c := true) rfl rfl rfl) ?_
    refine wl_nil ?_
    refine at_then ?_
    refine wc_true rfl ?_
    refine wc_seq ?_
    refine wc_region ?_
    refine wl_1 trivial rfl (do_move rfl) ?_
    refine wl_1 trivial rfl (do_assign rfl) ?_
    refine wl_nil ?_
    refine at_then ?_
    refine wc_ret ?_
    refine at_then_ret ?_
    exact at_ret1 (M := [_, _, _, _, _]) rfl rfl ⟨n, su, cv, fb, by rw [syncdirS_9 hb1]; exact hfb, by rw [syncdirS_9 hb1], by rw [syncdirS_9 hb1]; exact rfl⟩ rfl

set_option maxRecDepth 100000 in
set_option maxHeartbeats 8000000 in
theorem fail_tri (B : Ctx) (d n su : Nat) (cv : Value) (fb : List Nat) (s : DS) (k : Int) (yes : Bool) :
    Tri Try.prog B 38 #[.pointer (some ⟨d, 0, none⟩), .int .i64 k, .bool yes] [pt d (.cells #[.int .i64 s.count, .bool s.done, .int .i64 s.fuse, .bool s.off, .int .i64 s.quota, .map (some n), .map (some su), cv] 87 (0, 0))] (fun u M => u = .tuple #[] ∧ M = [pt d (.cells #[.int .i64 (max k 0), .bool yes, .int .i64 s.fuse, .bool s.off, .int .i64 s.quota, .map (some n), .map (some su), cv] 87 (0, 0))]) := by
  refine tri_body (n := 20) Try.func38 rfl rfl rfl ?_
  intro F
  show WC _ _ _ _ _ _ _ [(0, .pointer (some ⟨d, 0, none⟩)), (1, .int .i64 k), (2, .bool yes)] [pt d (.cells #[.int .i64 s.count, .bool s.done, .int .i64 s.fuse, .bool s.off, .int .i64 s.quota, .map (some n), .map (some su), cv] 87 (0, 0)), F]
  refine wc_seq ?_
  refine wc_region ?_
  refine wl_1 trivial rfl (do_move rfl) ?_
  refine wl_do trivial rfl (do_call (none_made B d n su cv s.count s.fuse s.quota s.done s.off) ⟨rfl, trivial⟩ enters_72 [0] [1] ⟨rfl, trivial⟩ ⟨rfl, trivial⟩ (R := [_]) (by decide)) ?_
  rintro _ _ ⟨_, ⟨rfl, rfl⟩, rfl⟩
  refine wl_1 trivial rfl (do_not (c := false) rfl) ?_
  refine wl_nil ?_
  refine at_then ?_
  refine wc_true rfl ?_
  refine wc_region ?_
  refine wl_1 trivial rfl (do_move rfl) ?_
  refine wl_1 trivial rfl (do_move rfl) ?_
  refine wl_1 trivial rfl (do_move rfl) ?_
  refine wl_1 trivial rfl (do_max rfl rfl) ?_
  refine wl_1 trivial rfl (do_move rfl) ?_
  refine wl_1 trivial rfl (do_nilCheck rfl) ?_
  refine wl_1 trivial rfl (do_fieldAddr (k := 0) (k' := 0) fo_87_0 rfl (by rfl)) ?_
  refine wl_1 trivial rfl (do_fieldAddr (k := 0) (k' := 0) fo_82_0 rfl (by rfl)) ?_
  refine wl_1 trivial rfl (do_store (L1 := []) rfl rfl one_3 rfl rfl (cs' := #[.int .i64 (max k 0), .bool s.done, .int .i64 s.fuse, .bool s.off, .int .i64 s.quota, .map (some n), .map (some su), cv]) rfl) ?_
  refine wl_1 trivial rfl (do_nilCheck rfl) ?_
  refine wl_1 trivial rfl (do_fieldAddr (k := 0) (k' := 0) fo_87_0 rfl (by rfl)) ?_
  refine wl_1 trivial rfl (do_fieldAddr (k := 1) (k' := 1) fo_82_1 rfl (by rfl)) ?_
  refine wl_1 trivial rfl (do_store (L1 := []) rfl rfl one_4 rfl rfl (cs' := #[.int .i64 (max k 0), .bool yes, .int .i64 s.fuse, .bool s.off, .int .i64 s.quota, .map (some n), .map (some su), cv]) rfl) ?_
  refine wl_nil ?_
  exact at_end0 (M := [_]) rfl ⟨rfl, rfl⟩ rfl

set_option maxRecDepth 100000 in
set_option maxHeartbeats 8000000 in
theorem cut_tri (B : Ctx) (d n su : Nat) (cv : Value) (fb : List Nat) (s : DS) (k : Int) :
    Tri Try.prog B 37 #[.pointer (some ⟨d, 0, none⟩), .int .i64 k] [pt d (.cells #[.int .i64 s.count, .bool s.done, .int .i64 s.fuse, .bool s.off, .int .i64 s.quota, .map (some n), .map (some su), cv] 87 (0, 0))] (fun u M => u = .tuple #[] ∧ M = [pt d (.cells #[.int .i64 s.count, .bool s.done, .int .i64 (max k (-1)), .bool s.off, .int .i64 s.quota, .map (some n), .map (some su), cv] 87 (0, 0))]) := by
  refine tri_body (n := 13) Try.func37 rfl rfl rfl ?_
  intro F
  show WC _ _ _ _ _ _ _ [(0, .pointer (some ⟨d, 0, none⟩)), (1, .int .i64 k)] [pt d (.cells #[.int .i64 s.count, .bool s.done, .int .i64 s.fuse, .bool s.off, .int .i64 s.quota, .map (some n), .map (some su), cv] 87 (0, 0)), F]
  refine wc_seq ?_
  refine wc_region ?_
  refine wl_1 trivial rfl (do_move rfl) ?_
  refine wl_do trivial rfl (do_call (none_made B d n su cv s.count s.fuse s.quota s.done s.off) ⟨rfl, trivial⟩ enters_72 [0] [1] ⟨rfl, trivial⟩ ⟨rfl, trivial⟩ (R := [_]) (by decide)) ?_
  rintro _ _ ⟨_, ⟨rfl, rfl⟩, rfl⟩
  refine wl_1 trivial rfl (do_not (c := false) rfl) ?_
  refine wl_nil ?_
  refine at_then ?_
  refine wc_true rfl ?_
  refine wc_region ?_
  refine wl_1 trivial rfl (do_move rfl) ?_
  refine wl_1 trivial rfl (do_move rfl) ?_
  refine wl_1 trivial rfl (do_max rfl rfl) ?_
  refine wl_1 trivial rfl (do_nilCheck rfl) ?_
  refine wl_1 trivial rfl (do_fieldAddr (k := 0) (k' := 0) fo_87_0 rfl (by rfl)) ?_
  refine wl_1 trivial rfl (do_fieldAddr (k := 2) (k' := 2) fo_82_2 rfl (by rfl)) ?_
  refine wl_1 trivial rfl (do_store (L1 := []) rfl rfl one_3 rfl rfl (cs' := #[.int .i64 s.count, .bool s.done, .int .i64 (max k (-1)), .bool s.off, .int .i64 s.quota, .map (some n), .map (some su), cv]) rfl) ?_
  refine wl_nil ?_
  exact at_end0 (M := [_]) rfl ⟨rfl, rfl⟩ rfl

set_option maxRecDepth 100000 in
set_option maxHeartbeats 8000000 in
theorem down_tri (B : Ctx) (d n su : Nat) (cv : Value) (fb : List Nat) (s : DS) :
    Tri Try.prog B 47 #[.pointer (some ⟨d, 0, none⟩)] [pt d (.cells #[.int .i64 s.count, .bool s.done, .int .i64 s.fuse, .bool s.off, .int .i64 s.quota, .map (some n), .map (some su), cv] 87 (0, 0))] (fun u M => u = .bool s.off ∧ M = [pt d (.cells #[.int .i64 s.count, .bool s.done, .int .i64 s.fuse, .bool s.off, .int .i64 s.quota, .map (some n), .map (some su), cv] 87 (0, 0))]) := by
  refine tri_body (n := 13) Try.func47 rfl rfl rfl ?_
  intro F
  show WC _ _ _ _ _ _ _ [(0, .pointer (some ⟨d, 0, none⟩))] [pt d (.cells #[.int .i64 s.count, .bool s.done, .int .i64 s.fuse, .bool s.off, .int .i64 s.quota, .map (some n), .map (some su), cv] 87 (0, 0)), F]
  refine wc_seq ?_
  refine wc_region ?_
  refine wl_1 trivial rfl (do_assign rfl) ?_
  refine wl_nil ?_
  refine at_then ?_
  refine wc_seq ?_
  refine wc_region ?_
  refine wl_1 trivial rfl (do_move rfl) ?_
  refine wl_do trivial rfl (do_call (none_made B d n su cv s.count s.fuse s.quota s.done s.off) ⟨rfl, trivial⟩ enters_72 [0] [1] ⟨rfl, trivial⟩ ⟨rfl, trivial⟩ (R := [_]) (by decide)) ?_
  rintro _ _ ⟨_, ⟨rfl, rfl⟩, rfl⟩
  refine wl_1 trivial rfl (do_not (c := false) rfl) ?_
  refine wl_1 trivial rfl (do_move rfl) ?_
  refine wl_1 ⟨_, rfl, rfl⟩ rfl (do_move rfl) ?_
  refine wl_1 ⟨_, rfl, rfl⟩ rfl (do_nilCheck rfl) ?_
  refine wl_1 ⟨_, rfl, rfl⟩ rfl (do_fieldAddr (k := 0) (k' := 0) fo_87_0 rfl (by rfl)) ?_
  refine wl_1 ⟨_, rfl, rfl⟩ rfl (do_fieldAddr (k := 3) (k' := 3) fo_82_3 rfl (by rfl)) ?_
  refine wl_1 ⟨_, rfl, rfl⟩ rfl (do_load 0 rfl one_4 rfl rfl) ?_
  refine wl_1 trivial rfl (do_pickT rfl rfl) ?_
  refine wl_1 trivial rfl (do_assign rfl) ?_
  refine wl_nil ?_
  refine at_then ?_
  refine wc_ret ?_
  exact at_ret1 (M := [_]) rfl rfl ⟨rfl, rfl⟩ rfl

def newD (q : Int) : DS := ⟨[], [], [], [], q, 0, false, -1, false⟩

set_option maxRecDepth 100000 in
set_option maxHeartbeats 8000000 in
theorem new_tri (B : Ctx) (q : Int) :
    Tri Try.prog B 29 #[.int .i64 q] [] (fun u M => ((q < 1 ∨ 1048576 < q) ∧ u = .tuple #[.pointer none, .int .i64 1] ∧ M = []) ∨ (1 ≤ q ∧ q ≤ 1048576 ∧ ∃ d n su, u = .tuple #[.pointer (some ⟨d, 0, none⟩), .int .i64 0] ∧ M = DL B d n su (.slice none 0 0) [] (newD q))) := by
  refine tri_body (n := 16) Try.func29 rfl rfl rfl ?_
  intro F
  show WC _ _ _ _ _ _ _ [(0, .int .i64 q)] [F]
  refine wc_seq ?_
  refine wc_region ?_
  refine wl_1 trivial rfl (do_assign rfl) ?_
  refine wl_1 trivial rfl (do_assign rfl) ?_
  refine wl_nil ?_
  refine at_then ?_
  refine wc_seq ?_
  refine wc_seq ?_
  refine wc_region ?_
  refine wl_1 trivial rfl (do_move rfl) ?_
  obtain ⟨c1, h_c1⟩ : ∃ c : Bool, cmpB .lss q 1 = some c := ⟨_, rfl⟩
  refine wl_1 trivial rfl (do_cmp rfl rfl h_c1) ?_
  refine wl_1 trivial rfl (do_move rfl) ?_
  cases c1
  · have p_c1 := cmp_lss_f h_c1
    refine wl_1 ⟨_, rfl, rfl⟩ rfl (do_move rfl) ?_
    obtain ⟨c2, h_c2⟩ : ∃ c : Bool, cmpB .gtr q 1048576 = some c := ⟨_, rfl⟩
    refine wl_1 ⟨_, rfl, rfl⟩ rfl (do_cmp rfl rfl h_c2) ?_
    refine wl_1 trivial rfl (do_pickF rfl rfl) ?_
    refine wl_nil ?_
    refine at_then ?_
    cases c2
    · have p_c2 := cmp_gtr_f h_c2
      refine wc_false rfl ?_
      refine wc_skip ?_
      refine at_then ?_
      refine wc_seq ?_
      refine wc_region ?_
      refine wl_1 trivial rfl (do_build (ps := [(2, .int .i64 (-1))]) ⟨rfl, rfl, trivial⟩ (build_82 rfl)) ?_
      refine wl_1 trivial rfl (do_move rfl) ?_
      refine wl_do trivial rfl do_makeMap ?_
      rintro _ _ ⟨b3, rfl, rfl⟩
      refine wl_mem (L' := [mapA encS b3 ([] : List (ByteArray × Value)), F]) (fun w h => Sat.imp (L1 := []) h (fun _ => mapA_empty _)) ?_
      refine wl_do trivial rfl do_makeMap ?_
      rintro _ _ ⟨b4, rfl, rfl⟩
      refine wl_mem (L' := [mapA encS b4 ([] : List (ByteArray × Value)), mapA encS b3 ([] : List (ByteArray × Value)), F]) (fun w h => Sat.imp (L1 := []) h (fun _ => mapA_empty _)) ?_
      refine wl_1 trivial rfl (do_build (ps := [(0, .agg #[.int .i64 0, .bool false, .int .i64 (-1), .bool false]), (1, .int .i64 q), (2, .map (some b3)), (3, .map (some b4))]) ⟨rfl, rfl, rfl, rfl, rfl, rfl, rfl, rfl, trivial⟩ (build_87 rfl)) ?_
      refine wl_do trivial rfl (do_box rfl rfl) ?_
      rintro _ _ ⟨b5, rfl, rfl⟩
      refine wl_1 trivial rfl (do_assign rfl) ?_
      refine wl_1 trivial rfl (do_assign rfl) ?_
      refine wl_nil ?_
      refine at_then ?_
      refine wc_ret ?_
      refine at_mem (L' := [row 20 1 (.slice none 0 0) 0 ([]), pt b5 (.cells #[.int .i64 0, .bool false, .int .i64 (-1), .bool false, .int .i64 q, .map (some b3), .map (some b4), .slice none 0 0] 87 (0, 0)), mapA encS b4 ([] : List (ByteArray × Value)), mapA encS b3 ([] : List (ByteArray × Value)), F]) (fun w_ h_ => h_.intro row_nil) ?_
      refine at_mem (L' := [filesA B [] [], row 20 1 (.slice none 0 0) 0 ([]), pt b5 (.cells #[.int .i64 0, .bool false, .int .i64 (-1), .bool false, .int .i64 q, .map (some b3), .map (some b4), .slice none 0 0] 87 (0, 0)), mapA encS b4 ([] : List (ByteArray × Value)), mapA encS b3 ([] : List (ByteArray × Value)), F]) (fun w_ h_ => files_nil (h_.pick (M := [row 20 1 (.slice none 0 0) 0 ([]), pt b5 (.cells #[.int .i64 0, .bool false, .int .i64 (-1), .bool false, .int .i64 q, .map (some b3), .map (some b4), .slice none 0 0] 87 (0, 0)), mapA encS b4 ([] : List (ByteArray × Value)), mapA encS b3 ([] : List (ByteArray × Value)), F]) [0, 1, 2, 3, 4] ⟨rfl, rfl, rfl, rfl, rfl, trivial⟩ (by decide))) ?_
      refine at_pick (M := [_, _, _, _, _, _]) [2, 4, 3, 1, 0, 5] ⟨rfl, rfl, rfl, rfl, rfl, rfl, trivial⟩ (by decide) ?_
      exact at_ret2 (M := [_, _, _, _, _]) rfl rfl rfl (.inr ⟨by omega, by omega, b5, b3, b4, rfl, rfl⟩) rfl
    · have p_c2 := cmp_gtr_t h_c2
      refine wc_true rfl ?_
      refine wc_seq ?_
      refine wc_region ?_
      refine wl_1 trivial rfl (do_assign rfl) ?_
      refine wl_1 trivial rfl (do_assign rfl) ?_
      refine wl_nil ?_
      refine at_then ?_
      refine wc_ret ?_
      refine at_then_ret ?_
      exact at_ret2 (M := []) rfl rfl rfl (.inl ⟨by omega, rfl, rfl⟩) rfl
  · have p_c1 := cmp_lss_t h_c1
    refine wl_no rfl rfl rfl rfl rfl ?_
    refine wl_no rfl rfl rfl rfl rfl ?_
    refine wl_1 trivial rfl (do_pickT rfl rfl) ?_
    refine wl_nil ?_
    refine at_then ?_
    refine wc_true rfl ?_
    refine wc_seq ?_
    refine wc_region ?_
    refine wl_1 trivial rfl (do_assign rfl) ?_
    refine wl_1 trivial rfl (do_assign rfl) ?_
    refine wl_nil ?_
    refine at_then ?_
    refine wc_ret ?_
    refine at_then_ret ?_
    exact at_ret2 (M := []) rfl rfl rfl (.inl ⟨by omega, rfl, rfl⟩) rfl
end Go.Proofs.Ytmefejfnddcelaa
