/- Printed by gen/simobj.py for this claim: what each of these functions of the program does, as its theorem says. No condition but what stands in each theorem. -/
import Derived.Test.YtmefejfnddcelaaOk
namespace Go.Proofs.Ytmefejfnddcelaa
theorem isSlice_50 : isSlice Try.prog 50 = true := by kernel_rfl
theorem agg_113 : aggOk Try.prog 113 3 = true := by kernel_rfl
theorem chg_at {cs : List (ByteArray × Int × Bool)} {i : Nat} {c : ByteArray × Int × Bool} (h : cs[i]? = some c) : ((chgCells cs).drop (i * 3)).take 3 = [.string c.1, .int .i64 c.2.1, .bool c.2.2] := by
  induction cs generalizing i with
  | nil => simp at h
  | cons x cs ih =>
    cases i with
    | zero => simp at h; subst h; simp [chgCells]
    | succ i =>
      have e : (i + 1) * 3 = i * 3 + 3 := by omega
      rw [e, ← ih (i := i) (by simpa using h)]
      show ((_ :: _ :: _ :: chgCells cs).drop (i * 3 + 3)).take 3 = _
      rfl

set_option maxRecDepth 100000 in
set_option maxHeartbeats 8000000 in
theorem back_some (B : Ctx) (g l : Nat) (cs : List (ByteArray × Int × Bool)) (J D : Nat → Assn) (gv cap : Nat) (hlen : cs.length ≤ 1099511627776) (hJ : ∀ (j : Nat) (i : Int) ck ct cb, j < cs.length → i = (cs.length : Int) - 1 - (j : Int) → cs[cs.length - 1 - j]? = some (ck, ct, cb) → YTri Try.prog B l #[.int .i64 i, .agg #[.string ck, .int .i64 ct, .bool cb]] [J j] (fun v M => ∃ bt, v = .bool bt ∧ M = [cond bt (J (j + 1)) (D j)])) :
    Tri Try.prog B 98 #[.func (.yield l) #[] #[], .pointer (some ⟨g, 0, none⟩)] [pt g (.cells #[.slice (some ⟨gv, 0, none⟩) cs.length cap] 50 (0, 0)), row 113 3 (.slice (some ⟨gv, 0, none⟩) cs.length cap) cs.length (chgCells cs), J 0] (fun u M => u = .tuple #[] ∧ (M = [pt g (.cells #[.slice (some ⟨gv, 0, none⟩) cs.length cap] 50 (0, 0)), row 113 3 (.slice (some ⟨gv, 0, none⟩) cs.length cap) cs.length (chgCells cs), J cs.length] ∨ ∃ j, j < cs.length ∧ M = [pt g (.cells #[.slice (some ⟨gv, 0, none⟩) cs.length cap] 50 (0, 0)), row 113 3 (.slice (some ⟨gv, 0, none⟩) cs.length cap) cs.length (chgCells cs), D j])) := by
  refine tri_body (n := 19) Try.func98 rfl rfl rfl ?_
  intro F
  show WC _ _ _ _ _ _ _ [(0, .func (.yield l) #[] #[]), (1, .pointer (some ⟨g, 0, none⟩))] [pt g (.cells #[.slice (some ⟨gv, 0, none⟩) cs.length cap] 50 (0, 0)), row 113 3 (.slice (some ⟨gv, 0, none⟩) cs.length cap) cs.length (chgCells cs), J 0, F]
  refine wc_seq ?_
  refine wc_region ?_
  refine wl_1 trivial rfl (do_load 0 rfl one_50 rfl rfl) ?_
  refine wl_1 trivial rfl (do_lenSlice rfl isSlice_50 rfl) ?_
  refine wl_1 trivial rfl (do_sub (r := ((cs.length : Nat) : Int) - 1) rfl rfl (wrap_i64 (by omega) (by omega))) ?_
  refine wl_1 trivial rfl (do_assign rfl) ?_
  refine wl_nil ?_
  refine at_then ?_
  refine wc_block ?_
  refine wc_loop (fun (z_ : Int × Nat) => match z_ with | (i, j) => i = (cs.length : Int) - 1 - (j : Int) ∧ j ≤ cs.length) (fun (z_ : Int × Nat) => match z_ with | (i, j) => [(0, .func (.yield l) #[] #[]), (1, .pointer (some ⟨g, 0, none⟩)), (3, .int .i64 i)]) (fun (z_ : Int × Nat) => match z_ with | (i, j) => [pt g (.cells #[.slice (some ⟨gv, 0, none⟩) cs.length cap] 50 (0, 0)), row 113 3 (.slice (some ⟨gv, 0, none⟩) cs.length cap) cs.length (chgCells cs), J j, F]) (fun (z_ : Int × Nat) => match z_ with | (i, j) => cs.length - j) (((cs.length : Nat) : Int) - 1, 0) ⟨by omega, by omega⟩ ⟨rfl, rfl, rfl, trivial⟩ rfl ?_
  rintro ⟨i, j⟩ hphi
  obtain ⟨hi, hj⟩ := hphi
  show WC _ _ _ _ _ _ _ [(0, .func (.yield l) #[] #[]), (1, .pointer (some ⟨g, 0, none⟩)), (3, .int .i64 i)] [pt g (.cells #[.slice (some ⟨gv, 0, none⟩) cs.length cap] 50 (0, 0)), row 113 3 (.slice (some ⟨gv, 0, none⟩) cs.length cap) cs.length (chgCells cs), J j, F]
  refine wc_seq ?_
  refine wc_seq ?_
  refine wc_region ?_
  refine wl_1 trivial rfl (do_move rfl) ?_
  obtain ⟨c1, h_c1⟩ : ∃ c : Bool, cmpB .geq i 0 = some c := ⟨_, rfl⟩
  refine wl_1 trivial rfl (do_cmp rfl rfl h_c1) ?_
  refine wl_nil ?_
  refine at_then ?_
  cases c1
  · have p_c1 := cmp_geq_f h_c1
    refine wc_false rfl ?_
    refine wc_exit ?_
    refine at_then_exit ?_
    refine at_then_exit ?_
    refine at_block_it ?_
    exact at_end0 (M := [_, _, _]) rfl ⟨rfl, .inl (by rw [show j = cs.length by omega])⟩ rfl
  · have p_c1 := cmp_geq_t h_c1
    refine wc_true rfl ?_
    refine wc_skip ?_
    refine at_then ?_
    refine wc_seq ?_
    refine wc_block ?_
    refine wc_seq ?_
    refine wc_region ?_
    refine wl_1 trivial rfl (do_move rfl) ?_
    refine wl_1 trivial rfl (do_move rfl) ?_
    refine wl_1 trivial rfl (do_load 0 rfl one_50 rfl rfl) ?_
    refine wl_1 trivial rfl (do_move rfl) ?_
    refine wl_1 trivial rfl (do_indexAddr (j := (cs.length - 1 - j)) (p := ((cs.length - 1 - j) * 3)) und_50 ty_113 rfl rfl (by omega) (by omega) (by omega)) ?_
    obtain ⟨⟨ck, ct, cb⟩, hc⟩ : ∃ c, cs[cs.length - 1 - j]? = some c := ⟨_, List.getElem?_eq_getElem (by omega)⟩
    refine wl_1 trivial rfl (do_loadRA 1 rfl agg_113 rfl row_R (chg_at hc) rfl) ?_
    refine wl_do trivial rfl (do_yield (vs := [.int .i64 i, .agg #[.string ck, .int .i64 ct, .bool cb]]) rfl (hJ j i ck ct cb (by omega) hi hc) rfl ⟨rfl, rfl, trivial⟩ [2] [0, 1, 3] ⟨rfl, trivial⟩ ⟨rfl, rfl, rfl, trivial⟩ (R := [_, _, _]) (by decide)) ?_
    rintro _ _ ⟨_, ⟨bt2, rfl, rfl⟩, rfl⟩
    refine wl_1 trivial rfl (do_not (c := bt2) rfl) ?_
    refine wl_nil ?_
    refine at_then ?_
    cases bt2
    · skip
      refine wc_true rfl ?_
      refine wc_ret ?_
      refine at_block_ret ?_
      refine at_then_ret ?_
      refine at_then_ret ?_
      refine at_block_ret ?_
      refine at_pick (M := [_, _, _, _]) [1, 2, 0, 3] ⟨rfl, rfl, rfl, rfl, trivial⟩ (by decide) ?_
      exact at_ret0 (M := [_, _, _]) rfl ⟨rfl, .inr ⟨j, by omega, rfl⟩⟩ rfl
    · skip
      refine wc_false rfl ?_
      refine wc_skip ?_
      refine at_block ?_
      refine at_then ?_
      refine wc_region ?_
      refine wl_1 trivial rfl (do_move rfl) ?_
      refine wl_1 trivial rfl (do_sub (r := i - 1) rfl rfl (wrap_i64 (by omega) (by omega))) ?_
      refine wl_1 trivial rfl (do_assign rfl) ?_
      refine wl_nil ?_
      refine at_pick (M := [_, _, _, _]) [1, 2, 0, 3] ⟨rfl, rfl, rfl, rfl, trivial⟩ (by decide) ?_
      exact at_round (i - 1, j + 1) ⟨by omega, by omega⟩ (by show cs.length - (j + 1) < cs.length - j; omega) ⟨rfl, rfl, rfl, trivial⟩ rfl

set_option maxRecDepth 100000 in
set_option maxHeartbeats 8000000 in
theorem back_nil (B : Ctx) (g l : Nat) (J : Nat → Assn) :
    Tri Try.prog B 98 #[.func (.yield l) #[] #[], .pointer (some ⟨g, 0, none⟩)] [pt g (.cells #[.slice none 0 0] 50 (0, 0)), row 113 3 (.slice none 0 0) 0 (chgCells []), J 0] (fun u M => u = .tuple #[] ∧ M = [pt g (.cells #[.slice none 0 0] 50 (0, 0)), row 113 3 (.slice none 0 0) 0 (chgCells []), J 0]) := by
  refine tri_body (n := 19) Try.func98 rfl rfl rfl ?_
  intro F
  show WC _ _ _ _ _ _ _ [(0, .func (.yield l) #[] #[]), (1, .pointer (some ⟨g, 0, none⟩))] [pt g (.cells #[.slice none 0 0] 50 (0, 0)), row 113 3 (.slice none 0 0) 0 (chgCells []), J 0, F]
  refine wc_seq ?_
  refine wc_region ?_
  refine wl_1 trivial rfl (do_load 0 rfl one_50 rfl rfl) ?_
  refine wl_1 trivial rfl (do_lenSlice rfl isSlice_50 rfl) ?_
  refine wl_1 trivial rfl (do_sub (r := (-1)) rfl rfl rfl) ?_
  refine wl_1 trivial rfl (do_assign rfl) ?_
  refine wl_nil ?_
  refine at_then ?_
  refine wc_block ?_
  refine wc_rounds 0 ?_
  refine wc_seq ?_
  refine wc_seq ?_
  refine wc_region ?_
  refine wl_1 trivial rfl (do_move rfl) ?_
  refine wl_1 trivial rfl (do_cmp (c := false) rfl rfl rfl) ?_
  refine wl_nil ?_
  refine at_then ?_
  refine wc_false rfl ?_
  refine wc_exit ?_
  refine at_then_exit ?_
  refine at_then_exit ?_
  refine at_block_it ?_
  exact at_end0 (M := [_, _, _]) rfl ⟨rfl, rfl⟩ rfl

theorem back_tri (B : Ctx) (g l : Nat) (cs : List (ByteArray × Int × Bool)) (J D : Nat → Assn) (v : Value) (hlen : cs.length ≤ 1099511627776) (hJ : ∀ (j : Nat) (i : Int) ck ct cb, j < cs.length → i = (cs.length : Int) - 1 - (j : Int) → cs[cs.length - 1 - j]? = some (ck, ct, cb) → YTri Try.prog B l #[.int .i64 i, .agg #[.string ck, .int .i64 ct, .bool cb]] [J j] (fun v M => ∃ bt, v = .bool bt ∧ M = [cond bt (J (j + 1)) (D j)])) :
    Tri Try.prog B 98 #[.func (.yield l) #[] #[], .pointer (some ⟨g, 0, none⟩)] [pt g (.cells #[v] 50 (0, 0)), row 113 3 v cs.length (chgCells cs), J 0] (fun u M => u = .tuple #[] ∧ (M = [pt g (.cells #[v] 50 (0, 0)), row 113 3 v cs.length (chgCells cs), J cs.length] ∨ ∃ j, j < cs.length ∧ M = [pt g (.cells #[v] 50 (0, 0)), row 113 3 v cs.length (chgCells cs), D j])) := by
  refine tri_pure (φ := (v = .slice none 0 0 ∧ cs.length = 0) ∨ ∃ gv cap, v = .slice (some ⟨gv, 0, none⟩) cs.length cap) 1 rfl (fun h hb hr => by
    obtain ⟨_, h2⟩ := hr
    rcases h2 with h2 | ⟨gv, cap, cur, rfl, _⟩
    · exact .inl h2
    · exact .inr ⟨gv, cap, rfl⟩) ?_
  rintro (⟨rfl, h0⟩ | ⟨gv, cap, rfl⟩)
  · have : cs = [] := List.eq_nil_of_length_eq_zero h0
    subst this
    exact tri_post (back_nil B g l J) fun v M ⟨h1, h2⟩ => ⟨h1, .inl h2⟩
  · exact back_some B g l cs J D gv cap hlen hJ

set_option maxRecDepth 100000 in
set_option maxHeartbeats 8000000 in
theorem mkback (B : Ctx) (v : Value) (hv : v.cells = #[v]) :
    Tri Try.prog B 89 #[v] [] (fun u M => ∃ g, u = .func (.func 98) #[] #[.pointer (some ⟨g, 0, none⟩)] ∧ M = [pt g (.cells #[v] 50 (0, 0))]) := by
  refine tri_body (n := 4) Try.func89 rfl rfl rfl ?_
  intro F
  show WC _ _ _ _ _ _ _ [(0, v)] [F]
  refine wc_seq ?_
  refine wc_region ?_
  refine wl_do trivial rfl (do_box rfl rfl) ?_
  rintro _ _ ⟨b1, rfl, rfl⟩
  refine wl_1 trivial rfl (do_assign rfl) ?_
  refine wl_nil ?_
  refine at_then ?_
  refine wc_seq ?_
  refine wc_region ?_
  refine wl_1 trivial rfl (do_makeFunc (vs := []) (us := [.pointer (some ⟨b1, 0, none⟩)]) trivial ⟨rfl, trivial⟩) ?_
  refine wl_1 trivial rfl (do_assign rfl) ?_
  refine wl_nil ?_
  refine at_then ?_
  refine wc_ret ?_
  exact at_ret1 (M := [_]) rfl rfl ⟨b1, rfl, by rw [hv]⟩ rfl
end Go.Proofs.Ytmefejfnddcelaa
