/- Printed by gen/simobj.py for this claim: what each of these functions of the program does, as its theorem says. No condition but what stands in each theorem. -/
import Derived.Test.YtmefejfnddcelaaOl
namespace Go.Proofs.Ytmefejfnddcelaa
theorem enters_89 : Enters Try.prog 89 := enters_of Try.func89 (by kernel_rfl) (by kernel_rfl)
theorem enters_98 : Enters Try.prog 98 := enters_of Try.func98 (by kernel_rfl) (by kernel_rfl)
theorem fo_113_1 : fieldOk Try.prog 113 1 1 = true := by kernel_rfl
theorem one_148 : oneOk Try.prog 148 = true := by kernel_rfl
def hidP (s : SS) (c : ByteArray × Int × Bool) : Bool := decide (s.now - s.lag < c.2.1)
def hidL (s : SS) : List (ByteArray × Int × Bool) := s.chg.reverse.takeWhile (hidP s)
theorem take_more {α : Type} {p : α → Bool} {c : α} : ∀ {l : List α} {j : Nat}, j ≤ (l.takeWhile p).length → l[j]? = some c → (p c = true → j + 1 ≤ (l.takeWhile p).length ∧ (l.takeWhile p)[j]? = some c) ∧ (p c = false → j = (l.takeWhile p).length)
  | [], j, _, h => by simp at h
  | x :: l, 0, _, h => by
    simp at h; subst h
    refine ⟨fun hp => ?_, fun hp => ?_⟩
    · rw [List.takeWhile_cons_of_pos hp]; simp
    · rw [List.takeWhile_cons_of_neg (by simp [hp])]; rfl
  | x :: l, j + 1, hj, h => by
    by_cases hx : p x = true
    · rw [List.takeWhile_cons_of_pos hx] at hj ⊢
      have := take_more (l := l) (j := j) (by simpa using hj) (by simpa using h)
      refine ⟨fun hp => ?_, fun hp => ?_⟩
      · have := this.1 hp; simpa using this
      · have := this.2 hp; simp [this]
    · rw [List.takeWhile_cons_of_neg hx] at hj; simp at hj
theorem hid_more {s : SS} {j : Nat} {c : ByteArray × Int × Bool} (h1 : j ≤ (hidL s).length) (h2 : j < s.chg.length) (h3 : s.chg[s.chg.length - 1 - j]? = some c) : (s.now - s.lag < c.2.1 → j + 1 ≤ (hidL s).length ∧ (hidL s)[j]? = some c) ∧ (c.2.1 ≤ s.now - s.lag → j = (hidL s).length) := by
  have h4 : s.chg.reverse[j]? = some c := by rw [List.getElem?_reverse h2]; exact h3
  have := take_more (p := hidP s) h1 h4
  exact ⟨fun h => this.1 (by unfold hidP; simpa using h), fun h => this.2 (by unfold hidP; simpa using h)⟩
theorem hid_le (s : SS) : (hidL s).length ≤ s.chg.length := by
  have := (List.takeWhile_sublist (hidP s) (l := s.chg.reverse)).length_le
  simpa [hidL] using this

set_option maxRecDepth 100000 in
set_option maxHeartbeats 8000000 in
theorem hid1_tri (B : Ctx) (b r g0 l0 : Nat) (v : Value) (s : SS) (K : Nat → Assn) (hcg : s.chg.length ≤ 1099511627776) (hn : -1099511627776 ≤ s.now ∧ s.now ≤ 1099511627776) (hl : 0 ≤ s.lag ∧ s.lag ≤ 100) (hK : ∀ (j : Nat) (c : ByteArray × Int × Bool), (hidL s)[j]? = some c → YTri Try.prog B l0 #[.agg #[.string c.1, .int .i64 c.2.1, .bool c.2.2]] [K j] (fun v M => v = .bool true ∧ M = [K (j + 1)])) :
    Tri Try.prog B 88 #[.func (.yield l0) #[] #[], .pointer (some ⟨g0, 0, none⟩)] [pt b (.cells #[.map (some r), v, .int .i64 s.most, .int .i64 s.lag, .int .i64 s.now, .int .i64 s.calls, .int .i64 s.count, .bool s.done] 52 (0, 0)), row 113 3 v s.chg.length (chgCells s.chg), pt g0 (.cells #[.pointer (some ⟨b, 0, none⟩)] 23 (0, 0)), K 0] (fun u M => u = .tuple #[] ∧ M = [pt b (.cells #[.map (some r), v, .int .i64 s.most, .int .i64 s.lag, .int .i64 s.now, .int .i64 s.calls, .int .i64 s.count, .bool s.done] 52 (0, 0)), row 113 3 v s.chg.length (chgCells s.chg), pt g0 (.cells #[.pointer (some ⟨b, 0, none⟩)] 23 (0, 0)), K ((hidL s).length)]) := by
  refine tri_pure (φ := v.cells = #[v]) 1 rfl (fun h hb hr => by obtain ⟨_, (⟨rfl, _⟩ | ⟨_, _, _, rfl, _⟩)⟩ := hr <;> rfl) fun hvc => ?_
  refine tri_bodyM (n := 30) Try.func88 rfl rfl rfl ?_
  intro F
  show WC _ _ _ _ _ _ _ [(0, .func (.yield l0) #[] #[]), (1, .pointer (some ⟨g0, 0, none⟩))] [pt b (.cells #[.map (some r), v, .int .i64 s.most, .int .i64 s.lag, .int .i64 s.now, .int .i64 s.calls, .int .i64 s.count, .bool s.done] 52 (0, 0)), row 113 3 v s.chg.length (chgCells s.chg), pt g0 (.cells #[.pointer (some ⟨b, 0, none⟩)] 23 (0, 0)), K 0, F]
  refine wc_seq ?_
  refine wc_region ?_
  refine wl_do trivial rfl (do_box rfl rfl) ?_
  rintro _ _ ⟨b1, rfl, rfl⟩
  refine wl_nil ?_
  refine at_then ?_
  refine wc_seq ?_
  refine wc_region ?_
  refine wl_1 trivial rfl (do_load 3 rfl one_23 rfl rfl) ?_
  refine wl_1 trivial rfl (do_nilCheck rfl) ?_
  refine wl_1 trivial rfl (do_fieldAddr (k := 1) (k' := 1) fo_52_1 rfl (by rfl)) ?_
  refine wl_1 trivial rfl (do_load 1 rfl one_50 rfl rfl) ?_
  refine wl_do trivial rfl (do_call (mkback B v hvc) ⟨rfl, trivial⟩ enters_89 [] [0, 1, 2, 3, 4, 5] trivial ⟨rfl, rfl, rfl, rfl, rfl, rfl, trivial⟩ (R := [_, _, _, _, _, _]) (by decide)) ?_
  rintro _ _ ⟨_, ⟨g2, rfl, rfl⟩, rfl⟩
  refine wl_nil ?_
  refine at_then ?_
  refine wc_block ?_
  refine wc_rangeFunc rfl enters_98 ?_
  intro dd ll rr hrr
  obtain ⟨JH, hJH⟩ : ∃ JH : Nat → Assn, JH = (fun j : Nat => Ex (fun _ : Unit => j ≤ (hidL s).length) fun _ => [pt ll (.loop (rec_ rr .ready none)), K j, pt b (.cells #[.map (some r), v, .int .i64 s.most, .int .i64 s.lag, .int .i64 s.now, .int .i64 s.calls, .int .i64 s.count, .bool s.done] 52 (0, 0)), pt g0 (.cells #[.pointer (some ⟨b, 0, none⟩)] 23 (0, 0)), pt b1 (.cells #[.func (.yield l0) #[] #[]] 148 (0, 0))]) := ⟨_, rfl⟩
  obtain ⟨DH, hDH⟩ : ∃ DH : Nat → Assn, DH = (fun j : Nat => Ex (fun _ : Unit => j = (hidL s).length) fun _ => [pt ll (.loop (rec_ rr .done (some .ret))), K j, pt b (.cells #[.map (some r), v, .int .i64 s.most, .int .i64 s.lag, .int .i64 s.now, .int .i64 s.calls, .int .i64 s.count, .bool s.done] 52 (0, 0)), pt g0 (.cells #[.pointer (some ⟨b, 0, none⟩)] 23 (0, 0)), pt b1 (.cells #[.func (.yield l0) #[] #[]] 148 (0, 0))]) := ⟨_, rfl⟩
  have hy : ∀ (j : Nat) (i : Int) ck ct cb, j < s.chg.length → i = (s.chg.length : Int) - 1 - (j : Int) → s.chg[s.chg.length - 1 - j]? = some (ck, ct, cb) → YTri Try.prog B ll #[.int .i64 i, .agg #[.string ck, .int .i64 ct, .bool cb]] [JH j] (fun v M => ∃ bt, v = .bool bt ∧ M = [cond bt (JH (j + 1)) (DH j)]) := by
    intro j i ck ct cb hjn hi hc
    subst hJH hDH
    refine ytri_post (post := fun u M => (u = .bool true ∧ j + 1 ≤ (hidL s).length ∧ M = [pt ll (.loop (rec_ rr .ready none)), K (j + 1), pt b (.cells #[.map (some r), v, .int .i64 s.most, .int .i64 s.lag, .int .i64 s.now, .int .i64 s.calls, .int .i64 s.count, .bool s.done] 52 (0, 0)), pt g0 (.cells #[.pointer (some ⟨b, 0, none⟩)] 23 (0, 0)), pt b1 (.cells #[.func (.yield l0) #[] #[]] 148 (0, 0))]) ∨ (u = .bool false ∧ j = (hidL s).length ∧ M = [pt ll (.loop (rec_ rr .done (some .ret))), K j, pt b (.cells #[.map (some r), v, .int .i64 s.most, .int .i64 s.lag, .int .i64 s.now, .int .i64 s.calls, .int .i64 s.count, .bool s.done] 52 (0, 0)), pt g0 (.cells #[.pointer (some ⟨b, 0, none⟩)] 23 (0, 0)), pt b1 (.cells #[.func (.yield l0) #[] #[]] 148 (0, 0))])) (ytri_ex (R := []) fun _ hj => ?_) ?_
    · have hmore : (s.now - s.lag < ct → j + 1 ≤ (hidL s).length ∧ (hidL s)[j]? = some (ck, ct, cb)) ∧ (ct ≤ s.now - s.lag → j = (hidL s).length) := hid_more hj hjn hc
      refine ytri_of (args := [.int .i64 i, .agg #[.string ck, .int .i64 ct, .bool cb]]) (J := [K j, pt b (.cells #[.map (some r), v, .int .i64 s.most, .int .i64 s.lag, .int .i64 s.now, .int .i64 s.calls, .int .i64 s.count, .bool s.done] 52 (0, 0)), pt g0 (.cells #[.pointer (some ⟨b, 0, none⟩)] 23 (0, 0)), pt b1 (.cells #[.func (.yield l0) #[] #[]] 148 (0, 0))]) (ps := [10, 11]) hrr rfl rfl ?_
      intro F2
      refine wc_region ?_
      refine wl_do trivial rfl (do_alloc zero_113 rfl) ?_
      rintro _ _ ⟨b3, rfl, rfl⟩
      refine wl_1 trivial rfl (do_storeL (L1 := []) rfl rfl agg_113 rfl (cs' := #[.string ck, .int .i64 ct, .bool cb]) rfl trivial) ?_
      refine wl_nil ?_
      refine at_pick (M := [_, _, _, _, _, _, _]) [1, 0, 2, 3, 4, 5, 6] ⟨rfl, rfl, rfl, rfl, rfl, rfl, rfl, trivial⟩ (by decide) ?_
      refine at_assign ?_
      refine wc_block ?_
      refine wc_seq ?_
      obtain ⟨c4, h_c4⟩ : ∃ c : Bool, cmpB .leq ct (s.now - s.lag) = some c := ⟨_, rfl⟩
      cases c4
      · have p_c4 := cmp_leq_f h_c4
        refine wc_draw [[], [0], [], [2], [2, 3], [2, 3, 4], [], [6], [6, 7], [6, 7, 8], [2, 3, 4, 5, 6, 7, 8, 9], [0, 1, 2, 3, 4, 5, 6, 7, 8, 9, 10], [0, 1, 2, 3, 4, 5, 6, 7, 8, 9, 10, 11], [0, 1, 2, 3, 4, 5, 6, 7, 8, 9, 10, 11, 12], [0, 1, 2, 3, 4, 5, 6, 7, 8, 9, 10, 11, 12], [0, 1, 2, 3, 4, 5, 6, 7, 8, 9, 10, 11, 12, 13, 14], [0, 1, 2, 3, 4, 5, 6, 7, 8, 9, 10, 11, 12, 13, 14, 15], [0, 1, 2, 3, 4, 5, 6, 7, 8, 9, 10, 11, 12, 13, 14, 15, 16]] [some (.pointer (some ⟨b3, 1, none⟩)), some (.int .i64 ct), some (.pointer (some ⟨b, 0, none⟩)), some (.pointer (some ⟨b, 0, none⟩)), some (.pointer (some ⟨b, 4, none⟩)), some (.int .i64 s.now), some (.pointer (some ⟨b, 0, none⟩)), some (.pointer (some ⟨b, 0, none⟩)), some (.pointer (some ⟨b, 3, none⟩)), some (.int .i64 s.lag), some (.int .i64 (s.now - s.lag)), some (.bool false), some (.bool false), some (.func (.yield l0) #[] #[]), some (.agg #[.string ck, .int .i64 ct, .bool cb]), none, none, none] [15] mixed (by kernel_rfl) (by decide) ⟨rfl, rfl, ⟨.inr ⟨_, [.old 4], rfl, rfl, .inl ⟨trivial, do_fieldAddr (k := 1) (k' := 1) fo_113_1 rfl (by rfl)⟩⟩, .inr ⟨_, [.op 0], rfl, rfl, .inl ⟨trivial, do_load 1 rfl one_3 rfl rfl⟩⟩, .inr ⟨_, [.old 1], rfl, rfl, .inl ⟨trivial, do_load 4 rfl one_23 rfl rfl⟩⟩, .inr ⟨_, [.op 2], rfl, rfl, .inl ⟨trivial, do_nilCheck rfl⟩⟩, .inr ⟨_, [.op 3], rfl, rfl, .inl ⟨trivial, do_fieldAddr (k := 4) (k' := 4) fo_52_4 rfl (by rfl)⟩⟩, .inr ⟨_, [.op 4], rfl, rfl, .inl ⟨trivial, do_load 3 rfl one_3 rfl rfl⟩⟩, .inr ⟨_, [.old 1], rfl, rfl, .inl ⟨trivial, do_load 4 rfl one_23 rfl rfl⟩⟩, .inr ⟨_, [.op 6], rfl, rfl, .inl ⟨trivial, do_nilCheck rfl⟩⟩, .inr ⟨_, [.op 7], rfl, rfl, .inl ⟨trivial, do_fieldAddr (k := 3) (k' := 3) fo_52_3 rfl (by rfl)⟩⟩, .inr ⟨_, [.op 8], rfl, rfl, .inl ⟨trivial, do_load 3 rfl one_3 rfl rfl⟩⟩, .inr ⟨_, [.op 5, .op 9], rfl, rfl, .inl ⟨trivial, do_sub (r := s.now - s.lag) rfl rfl (wrap_i64 (by omega) (by omega))⟩⟩, .inr ⟨_, [.op 1, .op 10], rfl, rfl, .inl ⟨trivial, do_cmp rfl rfl h_c4⟩⟩, .inr ⟨_, [.op 11], rfl, rfl, .inl ⟨trivial, do_move rfl⟩⟩, .inr ⟨_, [.old 2, .op 12], rfl, rfl, .inl ⟨⟨_, rfl, rfl⟩, do_load 5 rfl one_148 rfl rfl⟩⟩, .inr ⟨_, [.old 4, .op 12], rfl, rfl, .inl ⟨⟨_, rfl, rfl⟩, do_loadL 1 rfl agg_113 rfl rfl rfl⟩⟩, trivial⟩, _, [.op 12, .op 13, .op 14], _, rfl, rfl, ⟨_, rfl, rfl⟩, do_yield (vs := [.agg #[.string ck, .int .i64 ct, .bool cb]]) rfl (hK j _ (hmore.1 (by omega)).2) rfl ⟨rfl, trivial⟩ [2] [0, 1, 3, 4, 5, 6] ⟨rfl, trivial⟩ ⟨rfl, rfl, rfl, rfl, rfl, rfl, trivial⟩ (R := [_, _, _, _, _, _]) (by decide), ?_⟩
        rintro _ _ ⟨_, ⟨rfl, rfl⟩, rfl⟩
        refine ⟨[some (.pointer (some ⟨b3, 1, none⟩)), some (.int .i64 ct), some (.pointer (some ⟨b, 0, none⟩)), some (.pointer (some ⟨b, 0, none⟩)), some (.pointer (some ⟨b, 4, none⟩)), some (.int .i64 s.now), some (.pointer (some ⟨b, 0, none⟩)), some (.pointer (some ⟨b, 0, none⟩)), some (.pointer (some ⟨b, 3, none⟩)), some (.int .i64 s.lag), some (.int .i64 (s.now - s.lag)), some (.bool false), some (.bool false), some (.func (.yield l0) #[] #[]), some (.agg #[.string ck, .int .i64 ct, .bool cb]), some (.bool true), some (.bool false), some (.bool false)], more_mk ⟨rfl, rfl, rfl, rfl, rfl, rfl, rfl, rfl, rfl, rfl, rfl, rfl, rfl, rfl, rfl, trivial⟩ rfl, ?_⟩
        refine ⟨rfl, ⟨.inl rfl, .inl rfl, .inl rfl, .inl rfl, .inl rfl, .inl rfl, .inl rfl, .inl rfl, .inl rfl, .inl rfl, .inl rfl, .inl rfl, .inl rfl, .inl rfl, .inl rfl, .inl rfl, .inr ⟨_, [.op 12, .op 15], rfl, rfl, .inl ⟨⟨_, rfl, rfl⟩, do_not (c := true) rfl⟩⟩, .inr ⟨_, [.op 12, .op 16], rfl, rfl, .inl ⟨trivial, do_pickF rfl rfl⟩⟩, trivial⟩, [.op 17], [(29, .bool false)], rfl, rfl, ?_⟩
        refine at_then ?_
        refine wc_false rfl ?_
        refine wc_skip ?_
        refine at_block ?_
        refine at_pick (M := [_, _, _, _, _, _]) [1, 0, 3, 4, 5, 6] ⟨rfl, rfl, rfl, rfl, rfl, rfl, trivial⟩ (by decide) ?_
        exact at_round_end (M := [_, _, _, _]) (.inl ⟨rfl, (hmore.1 (by omega)).1, rfl⟩) rfl
      · have p_c4 := cmp_leq_t h_c4
        refine wc_draw [[], [0], [], [2], [2, 3], [2, 3, 4], [], [6], [6, 7], [6, 7, 8], [2, 3, 4, 5, 6, 7, 8, 9], [0, 1, 2, 3, 4, 5, 6, 7, 8, 9, 10], [0, 1, 2, 3, 4, 5, 6, 7, 8, 9, 10, 11], [0, 1, 2, 3, 4, 5, 6, 7, 8, 9, 10, 11, 12], [0, 1, 2, 3, 4, 5, 6, 7, 8, 9, 10, 11, 12], [0, 1, 2, 3, 4, 5, 6, 7, 8, 9, 10, 11, 12, 13, 14], [0, 1, 2, 3, 4, 5, 6, 7, 8, 9, 10, 11, 12, 13, 14, 15], [0, 1, 2, 3, 4, 5, 6, 7, 8, 9, 10, 11, 12, 13, 14, 15, 16]] [some (.pointer (some ⟨b3, 1, none⟩)), some (.int .i64 ct), some (.pointer (some ⟨b, 0, none⟩)), some (.pointer (some ⟨b, 0, none⟩)), some (.pointer (some ⟨b, 4, none⟩)), some (.int .i64 s.now), some (.pointer (some ⟨b, 0, none⟩)), some (.pointer (some ⟨b, 0, none⟩)), some (.pointer (some ⟨b, 3, none⟩)), some (.int .i64 s.lag), some (.int .i64 (s.now - s.lag)), some (.bool true), some (.bool true), some (undef), some (undef), some (undef), some (undef), some (.bool true)] [] mixed (by kernel_rfl) (by decide) ⟨rfl, ⟨.inr ⟨_, [.old 4], rfl, rfl, .inl ⟨trivial, do_fieldAddr (k := 1) (k' := 1) fo_113_1 rfl (by rfl)⟩⟩, .inr ⟨_, [.op 0], rfl, rfl, .inl ⟨trivial, do_load 1 rfl one_3 rfl rfl⟩⟩, .inr ⟨_, [.old 1], rfl, rfl, .inl ⟨trivial, do_load 4 rfl one_23 rfl rfl⟩⟩, .inr ⟨_, [.op 2], rfl, rfl, .inl ⟨trivial, do_nilCheck rfl⟩⟩, .inr ⟨_, [.op 3], rfl, rfl, .inl ⟨trivial, do_fieldAddr (k := 4) (k' := 4) fo_52_4 rfl (by rfl)⟩⟩, .inr ⟨_, [.op 4], rfl, rfl, .inl ⟨trivial, do_load 3 rfl one_3 rfl rfl⟩⟩, .inr ⟨_, [.old 1], rfl, rfl, .inl ⟨trivial, do_load 4 rfl one_23 rfl rfl⟩⟩, .inr ⟨_, [.op 6], rfl, rfl, .inl ⟨trivial, do_nilCheck rfl⟩⟩, .inr ⟨_, [.op 7], rfl, rfl, .inl ⟨trivial, do_fieldAddr (k := 3) (k' := 3) fo_52_3 rfl (by rfl)⟩⟩, .inr ⟨_, [.op 8], rfl, rfl, .inl ⟨trivial, do_load 3 rfl one_3 rfl rfl⟩⟩, .inr ⟨_, [.op 5, .op 9], rfl, rfl, .inl ⟨trivial, do_sub (r := s.now - s.lag) rfl rfl (wrap_i64 (by omega) (by omega))⟩⟩, .inr ⟨_, [.op 1, .op 10], rfl, rfl, .inl ⟨trivial, do_cmp rfl rfl h_c4⟩⟩, .inr ⟨_, [.op 11], rfl, rfl, .inl ⟨trivial, do_move rfl⟩⟩, .inr ⟨_, [.old 2, .op 12], rfl, rfl, .inr ⟨rfl, _, _, _, _, rfl, rfl, rfl, rfl⟩⟩, .inr ⟨_, [.old 4, .op 12], rfl, rfl, .inr ⟨rfl, _, _, _, _, rfl, rfl, rfl, rfl⟩⟩, .inr ⟨_, [.op 12, .op 13, .op 14], rfl, rfl, .inr ⟨rfl, _, _, _, _, rfl, rfl, rfl, rfl⟩⟩, .inr ⟨_, [.op 12, .op 15], rfl, rfl, .inr ⟨rfl, _, _, _, _, rfl, rfl, rfl, rfl⟩⟩, .inr ⟨_, [.op 12, .op 16], rfl, rfl, .inl ⟨trivial, do_pickT rfl rfl⟩⟩, trivial⟩, [.op 17], [(29, .bool true)], rfl, rfl, ?_⟩
        refine at_then ?_
        refine wc_true rfl ?_
        refine wc_ret ?_
        refine at_block_ret ?_
        refine at_pick (M := [_, _, _, _, _, _]) [0, 2, 3, 4, 5, 6] ⟨rfl, rfl, rfl, rfl, rfl, rfl, trivial⟩ (by decide) ?_
        exact at_round_ret (M := [_, _, _, _]) (.inr ⟨rfl, hmore.2 (by omega), rfl⟩) rfl
    · rintro v M (⟨rfl, h1, rfl⟩ | ⟨rfl, h1, rfl⟩)
      · exact ⟨_, ⟨true, rfl, rfl⟩, fun F w h => ex_put (R := [F]) () h1 h⟩
      · exact ⟨_, ⟨false, rfl, rfl⟩, fun F w h => ex_put (R := [F]) () h1 h⟩
  refine ⟨[pt g2 (.cells #[v] 50 (0, 0)), row 113 3 v s.chg.length (chgCells s.chg), JH 0], [pt dd (.deferred (some [])), F], _, back_tri B g2 ll s.chg JH DH v hcg hy, ?_, ?_⟩
  · subst hJH
    intro w hS
    have h2 := ex_put (φ := fun _ : Unit => 0 ≤ (hidL s).length) (As := fun _ => [pt ll (.loop (rec_ rr .ready none)), K 0, pt b (.cells #[.map (some r), v, .int .i64 s.most, .int .i64 s.lag, .int .i64 s.now, .int .i64 s.calls, .int .i64 s.count, .bool s.done] 52 (0, 0)), pt g0 (.cells #[.pointer (some ⟨b, 0, none⟩)] 23 (0, 0)), pt b1 (.cells #[.func (.yield l0) #[] #[]] 148 (0, 0))]) (R := [pt g2 (.cells #[v] 50 (0, 0)), row 113 3 v s.chg.length (chgCells s.chg), pt dd (.deferred (some [])), F]) () (Nat.zero_le _) (hS.pick [0, 7, 4, 6, 3, 2, 5, 1, 8] ⟨rfl, rfl, rfl, rfl, rfl, rfl, rfl, rfl, rfl, trivial⟩ (by decide))
    exact h2.pick [1, 2, 0, 3, 4] ⟨rfl, rfl, rfl, rfl, rfl, trivial⟩ (by decide)
  · rintro v2 M ⟨rfl, (rfl | ⟨j, hjn, rfl⟩)⟩
    · subst hJH hDH
      refine ⟨.ready, none, [Ex (fun _ : Unit => s.chg.length ≤ (hidL s).length) (fun _ => [K s.chg.length, pt b (.cells #[.map (some r), v, .int .i64 s.most, .int .i64 s.lag, .int .i64 s.now, .int .i64 s.calls, .int .i64 s.count, .bool s.done] 52 (0, 0)), pt g0 (.cells #[.pointer (some ⟨b, 0, none⟩)] 23 (0, 0)), pt b1 (.cells #[.func (.yield l0) #[] #[]] 148 (0, 0))]), pt g2 (.cells #[v] 50 (0, 0)), row 113 3 v s.chg.length (chgCells s.chg), pt dd (.deferred (some [])), F], fun w hS => ?_, (by intro h; cases h), ?_⟩
      · obtain ⟨_, h1, h2⟩ := ex_get (R := [pt g2 (.cells #[v] 50 (0, 0)), row 113 3 v s.chg.length (chgCells s.chg), pt dd (.deferred (some [])), F]) (hS.pick [2, 0, 1, 3, 4] ⟨rfl, rfl, rfl, rfl, rfl, trivial⟩ (by decide))
        have h3 := ex_put (φ := fun _ : Unit => s.chg.length ≤ (hidL s).length) (As := fun _ => [K s.chg.length, pt b (.cells #[.map (some r), v, .int .i64 s.most, .int .i64 s.lag, .int .i64 s.now, .int .i64 s.calls, .int .i64 s.count, .bool s.done] 52 (0, 0)), pt g0 (.cells #[.pointer (some ⟨b, 0, none⟩)] 23 (0, 0)), pt b1 (.cells #[.func (.yield l0) #[] #[]] 148 (0, 0))]) (R := [pt ll (.loop (rec_ rr .ready none)), pt g2 (.cells #[v] 50 (0, 0)), row 113 3 v s.chg.length (chgCells s.chg), pt dd (.deferred (some [])), F]) () h1 (h2.pick [1, 2, 3, 4, 0, 5, 6, 7, 8] ⟨rfl, rfl, rfl, rfl, rfl, rfl, rfl, rfl, rfl, trivial⟩ (by decide))
        exact h3.pick [1, 0, 2, 3, 4, 5] ⟨rfl, rfl, rfl, rfl, rfl, rfl, trivial⟩ (by decide)
      · refine at_open (α := Unit) (φ := fun _ : Unit => s.chg.length ≤ (hidL s).length) (Lf := fun _ => [K s.chg.length, pt b (.cells #[.map (some r), v, .int .i64 s.most, .int .i64 s.lag, .int .i64 s.now, .int .i64 s.calls, .int .i64 s.count, .bool s.done] 52 (0, 0)), pt g0 (.cells #[.pointer (some ⟨b, 0, none⟩)] 23 (0, 0)), pt b1 (.cells #[.func (.yield l0) #[] #[]] 148 (0, 0)), pt g2 (.cells #[v] 50 (0, 0)), row 113 3 v s.chg.length (chgCells s.chg), pt dd (.deferred (some [])), F]) (fun w hS => ex_get hS) ?_
        intro _ hend
        have hend' : s.chg.length = (hidL s).length := Nat.le_antisymm hend (hid_le s)
        rw [hend']
        refine at_block ?_
        refine at_pick (M := [_, _, _, _, _, _]) [6, 1, 5, 2, 0, 7] ⟨rfl, rfl, rfl, rfl, rfl, rfl, trivial⟩ (by decide) ?_
        refine at_endM ?_
        refine at_mark (M := [_, _, _, _, _]) 0 rfl [1, 2, 3, 4, 5] ⟨rfl, rfl, rfl, rfl, rfl, trivial⟩ (by decide) ?_
        exact lv_0 (M := [_, _, _, _]) rfl ⟨rfl, rfl⟩ rfl
    · subst hJH hDH
      refine ⟨.done, some .ret, [Ex (fun _ : Unit => j = (hidL s).length) (fun _ => [K j, pt b (.cells #[.map (some r), v, .int .i64 s.most, .int .i64 s.lag, .int .i64 s.now, .int .i64 s.calls, .int .i64 s.count, .bool s.done] 52 (0, 0)), pt g0 (.cells #[.pointer (some ⟨b, 0, none⟩)] 23 (0, 0)), pt b1 (.cells #[.func (.yield l0) #[] #[]] 148 (0, 0))]), pt g2 (.cells #[v] 50 (0, 0)), row 113 3 v s.chg.length (chgCells s.chg), pt dd (.deferred (some [])), F], fun w hS => ?_, (by intro h; cases h), ?_⟩
      · obtain ⟨_, h1, h2⟩ := ex_get (R := [pt g2 (.cells #[v] 50 (0, 0)), row 113 3 v s.chg.length (chgCells s.chg), pt dd (.deferred (some [])), F]) (hS.pick [2, 0, 1, 3, 4] ⟨rfl, rfl, rfl, rfl, rfl, trivial⟩ (by decide))
        have h3 := ex_put (φ := fun _ : Unit => j = (hidL s).length) (As := fun _ => [K j, pt b (.cells #[.map (some r), v, .int .i64 s.most, .int .i64 s.lag, .int .i64 s.now, .int .i64 s.calls, .int .i64 s.count, .bool s.done] 52 (0, 0)), pt g0 (.cells #[.pointer (some ⟨b, 0, none⟩)] 23 (0, 0)), pt b1 (.cells #[.func (.yield l0) #[] #[]] 148 (0, 0))]) (R := [pt ll (.loop (rec_ rr .done (some .ret))), pt g2 (.cells #[v] 50 (0, 0)), row 113 3 v s.chg.length (chgCells s.chg), pt dd (.deferred (some [])), F]) () h1 (h2.pick [1, 2, 3, 4, 0, 5, 6, 7, 8] ⟨rfl, rfl, rfl, rfl, rfl, rfl, rfl, rfl, rfl, trivial⟩ (by decide))
        exact h3.pick [1, 0, 2, 3, 4, 5] ⟨rfl, rfl, rfl, rfl, rfl, rfl, trivial⟩ (by decide)
      · refine wc_open (α := Unit) (φ := fun _ : Unit => j = (hidL s).length) (Lf := fun _ => [K j, pt b (.cells #[.map (some r), v, .int .i64 s.most, .int .i64 s.lag, .int .i64 s.now, .int .i64 s.calls, .int .i64 s.count, .bool s.done] 52 (0, 0)), pt g0 (.cells #[.pointer (some ⟨b, 0, none⟩)] 23 (0, 0)), pt b1 (.cells #[.func (.yield l0) #[] #[]] 148 (0, 0)), pt g2 (.cells #[v] 50 (0, 0)), row 113 3 v s.chg.length (chgCells s.chg), pt dd (.deferred (some [])), F]) (fun w hS => ex_get hS) ?_
        intro _ hend
        have hend' : j = (hidL s).length := hend
        rw [hend']
        refine wc_ret ?_
        refine at_block_ret ?_
        refine at_pick (M := [_, _, _, _, _, _]) [6, 1, 5, 2, 0, 7] ⟨rfl, rfl, rfl, rfl, rfl, rfl, trivial⟩ (by decide) ?_
        refine at_retM ?_
        refine at_mark (M := [_, _, _, _, _]) 0 rfl [1, 2, 3, 4, 5] ⟨rfl, rfl, rfl, rfl, rfl, trivial⟩ (by decide) ?_
        exact lv_0 (M := [_, _, _, _]) rfl ⟨rfl, rfl⟩ rfl
end Go.Proofs.Ytmefejfnddcelaa
