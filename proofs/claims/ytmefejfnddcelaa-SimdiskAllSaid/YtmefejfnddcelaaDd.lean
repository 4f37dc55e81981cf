/- Printed by a program of this claim's: what each of these functions of the program does, as its theorem says. No condition but what stands in each theorem. -/
import Derived.Test.YtmefejfnddcelaaDc
namespace Go.Proofs.Ytmefejfnddcelaa
theorem tri_postm {P : Program} {B : Ctx} {f : FuncId} {args : Array Value} {pre : List Assn} {post post' : Value → List Assn → Prop} (h : Tri P B f args pre post) (k : ∀ v M, post v M → ∃ M', post' v M' ∧ ∀ F w, Sat B (M ++ [F]) w → Sat B (M' ++ [F]) w) : Tri P B f args pre post' := fun F w hS =>
  Calls.mono (h F w hS) fun _ _ ⟨v, M, e, hp, hS'⟩ => let ⟨M', h1, h2⟩ := k v M hp; ⟨v, M', e, h1, h2 F _ hS'⟩
theorem tri_frame {P : Program} {B : Ctx} {f : FuncId} {args : Array Value} {pre : List Assn} {post : Value → List Assn → Prop} (R : List Assn) (h : Tri P B f args pre post) :
    Tri P B f args (pre ++ R) (fun u M => ∃ N, post u N ∧ M = N ++ R) := by
  intro F w hS
  have h1 : Sat B (pre ++ [Star (R ++ [F])]) w := star_join (by rw [← List.append_assoc]; exact hS)
  refine Calls.mono (h _ w h1) ?_
  rintro e w' ⟨u, N, rfl, hp, hS'⟩
  exact ⟨u, N ++ R, rfl, ⟨N, hp, rfl⟩, by rw [List.append_assoc]; exact star_split hS'⟩
theorem concat_file (B : Ctx) (v sv : Value) (ps : List Value) (f : FileS) (hpl : ps.length = f.pieces.length) (hbl : f.pieces.length ≤ 1099511627775) (hT : f.bytes.length ≤ 1099511627776) :
    Tri Try.prog B 96 #[v] [row 32 1 v (1 + f.pieces.length) ([sv] ++ ps), bytesA B sv f.sure, piecesA B ps f.pieces] (fun u M => ∃ x, x = u ∧ M = [row 32 1 v (1 + f.pieces.length) ([sv] ++ ps), bytesA B sv f.sure, piecesA B ps f.pieces, row 5 1 x f.bytes.length (byv f.bytes)]) := by
  have hc := concat_tri B v (sv :: ps) (f.sure :: f.pieces) (Star [bytesA B sv f.sure, piecesA B ps f.pieces]) (fun j p b h1 h2 => by
    cases j with
    | zero => simp at h1 h2; subst h1 h2; exact star_rd (i := 0) rfl bytes_rd
    | succ j => exact star_rd (i := 1) rfl (pieces_Rd (by simpa using h1) (by simpa using h2))) (by simp [hpl]) (by simp; omega) (by simpa [FileS.bytes] using hT)
  rw [show (f.sure :: f.pieces).length = 1 + f.pieces.length by simp [Nat.add_comm], show (f.sure :: f.pieces).flatten = f.bytes by simp [FileS.bytes]] at hc
  refine tri_pre (tri_postm hc ?_) (fun F w h => by
    have h1 := star_put (As := [bytesA B sv f.sure, piecesA B ps f.pieces]) (R := [row 32 1 v (1 + f.pieces.length) ([sv] ++ ps), F]) (h.pick [1, 2, 0, 3] ⟨rfl, rfl, rfl, rfl, trivial⟩ (by decide))
    exact h1.pick [1, 0, 2] ⟨rfl, rfl, rfl, trivial⟩ (by decide))
  rintro u M ⟨x, rfl, rfl⟩
  refine ⟨_, ⟨x, rfl, rfl⟩, fun F w h => ?_⟩
  have h1 := star_get (As := [bytesA B sv f.sure, piecesA B ps f.pieces]) (R := [row 32 1 v (1 + f.pieces.length) ([sv] ++ ps), row 5 1 x f.bytes.length (byv f.bytes), F]) (h.pick [1, 0, 2, 3] ⟨rfl, rfl, rfl, rfl, trivial⟩ (by decide))
  exact h1.pick [2, 0, 1, 3, 4] ⟨rfl, rfl, rfl, rfl, rfl, trivial⟩ (by decide)
theorem rd_one {B : Ctx} {sz m : Nat} {v : Value} {xs : List Value} {h : Hp} (hr : rd B sz v m xs h) : v.oneCell' = true := by obtain ⟨_, a, c, rfl, _⟩ := hr; rfl
theorem pieces_one {B : Ctx} {h : Hp} : ∀ {ps : List Value} {bs : List (List UInt8)}, piecesP B h ps bs → ∀ u ∈ ps, u.oneCell' = true
  | [], [], _, u, hu => by simp at hu
  | _ :: _, [], hh, _, _ => hh.elim
  | [], _ :: _, hh, _, _ => hh.elim
  | p :: ps, b :: bs, hh, u, hu => by
    rcases List.mem_cons.1 hu with rfl | hu
    · exact rd_one hh.1
    · exact pieces_one hh.2 u hu
theorem fo_134_0 : fieldOk Try.prog 134 0 0 = true := by kernel_rfl
theorem zs_32_1 : ((Array.range (1 * 1)).map ((.slice none 0 0 : Value).cells[· % (.slice none 0 0 : Value).cells.size]!)) = #[.slice none 0 0] := by kernel_rfl
theorem fo_134_1 : fieldOk Try.prog 134 1 1 = true := by kernel_rfl
theorem one_132 : oneOk Try.prog 132 = true := by kernel_rfl
theorem enters_96 : Enters Try.prog 96 := enters_of Try.func96 (by kernel_rfl) (by kernel_rfl)
set_option maxRecDepth 100000 in
set_option maxHeartbeats 8000000 in
theorem bytes_tri (B : Ctx) (b : Nat) (f : FileS) (sv pw : Value) (ps : List Value) (hpl : ps.length = f.pieces.length) (hbl : f.pieces.length ≤ 1099511627775) (hT : f.bytes.length ≤ 1099511627776) :
    Tri Try.prog B 75 #[.pointer (some ⟨b, 0, none⟩)] [pt b (.cells #[sv, pw] 134 (0, 0)), bytesA B sv f.sure, row 32 1 pw f.pieces.length ps, piecesA B ps f.pieces] (fun u M => ∃ x, x = u ∧ M = [pt b (.cells #[sv, pw] 134 (0, 0)), bytesA B sv f.sure, row 32 1 pw f.pieces.length ps, piecesA B ps f.pieces, row 5 1 x f.bytes.length (byv f.bytes)]) := by
  refine tri_pure (φ := ∃ a c, sv = .slice a f.sure.length c) 1 rfl (fun h hb hr => by obtain ⟨a, c, e, _⟩ := rd_shape hr; exact ⟨a, c, e⟩) ?_
  rintro ⟨a0, c0, rfl⟩
  refine tri_pure (φ := ∀ u ∈ ps, u.oneCell' = true) 3 rfl (fun h hb hr => pieces_one hr) fun hone => ?_
  refine tri_body (n := 14) Try.func75 rfl rfl rfl ?_
  intro F
  show WC _ _ _ _ _ _ _ [(0, .pointer (some ⟨b, 0, none⟩))] [pt b (.cells #[.slice a0 f.sure.length c0, pw] 134 (0, 0)), bytesA B (.slice a0 f.sure.length c0) f.sure, row 32 1 pw f.pieces.length ps, piecesA B ps f.pieces, F]
  refine wc_seq ?_
  refine wc_region ?_
  refine wl_1 trivial rfl (do_assign rfl) ?_
  refine wl_nil ?_
  refine at_then ?_
  refine wc_seq ?_
  refine wc_draw [[], [0], [0, 1], [0, 1, 2], [0, 1, 2, 3], [], [5], [5, 6], [5, 6, 7], [0, 1, 2, 3, 4, 5, 6, 7, 8], [0, 1, 2, 3, 4, 5, 6, 7, 8, 9], [0, 1, 2, 3, 4, 5, 6, 7, 8, 9, 10]] [some (.pointer (some ⟨b, 0, none⟩)), some (.pointer (some ⟨b, 0, none⟩)), some (.pointer (some ⟨b, 0, none⟩)), some (.slice a0 f.sure.length c0), none, some (.pointer (some ⟨b, 0, none⟩)), some (.pointer (some ⟨b, 0, none⟩)), some (.pointer (some ⟨b, 1, none⟩)), some (pw), none, none, none] [4, 9, 10] mixed (by kernel_rfl) (by decide) ⟨rfl, rfl, ⟨.inr ⟨_, [.old 0], rfl, rfl, .inl ⟨trivial, do_move rfl⟩⟩, .inr ⟨_, [.op 0], rfl, rfl, .inl ⟨trivial, do_nilCheck rfl⟩⟩, .inr ⟨_, [.op 1], rfl, rfl, .inl ⟨trivial, do_fieldAddr (k := 0) (k' := 0) fo_134_0 rfl (by rfl)⟩⟩, .inr ⟨_, [.op 2], rfl, rfl, .inl ⟨trivial, do_load 0 rfl one_32 rfl rfl⟩⟩, .inr ⟨_, [.old 0], rfl, rfl, .inl ⟨trivial, do_move rfl⟩⟩, .inr ⟨_, [.op 5], rfl, rfl, .inl ⟨trivial, do_nilCheck rfl⟩⟩, .inr ⟨_, [.op 6], rfl, rfl, .inl ⟨trivial, do_fieldAddr (k := 1) (k' := 1) fo_134_1 rfl (by rfl)⟩⟩, .inr ⟨_, [.op 7], rfl, rfl, .inl ⟨trivial, do_load 0 rfl one_132 rfl rfl⟩⟩, trivial⟩, _, [.op 3], _, rfl, rfl, trivial, do_buildSlice (ps := [(0, .slice a0 f.sure.length c0)]) ⟨rfl, rfl, trivial⟩ (bslice_mk zs_32_1 und_132 ty_32 (by decide) (by decide) rfl), ?_⟩
  rintro _ _ ⟨b1, rfl, rfl⟩
  refine ⟨[some (.pointer (some ⟨b, 0, none⟩)), some (.pointer (some ⟨b, 0, none⟩)), some (.pointer (some ⟨b, 0, none⟩)), some (.slice a0 f.sure.length c0), some (.slice (some ⟨b1, 0, none⟩) 1 1), some (.pointer (some ⟨b, 0, none⟩)), some (.pointer (some ⟨b, 0, none⟩)), some (.pointer (some ⟨b, 1, none⟩)), some (pw), none, none, none], more_mk ⟨rfl, rfl, rfl, rfl, rfl, rfl, rfl, rfl, trivial⟩ rfl, ?_⟩
  refine ⟨rfl, rfl, ⟨.inl rfl, .inl rfl, .inl rfl, .inl rfl, .inl rfl, .inr ⟨_, [.old 0], rfl, rfl, .inl ⟨trivial, do_move rfl⟩⟩, .inr ⟨_, [.op 5], rfl, rfl, .inl ⟨trivial, do_nilCheck rfl⟩⟩, .inr ⟨_, [.op 6], rfl, rfl, .inl ⟨trivial, do_fieldAddr (k := 1) (k' := 1) fo_134_1 rfl (by rfl)⟩⟩, .inr ⟨_, [.op 7], rfl, rfl, .inl ⟨trivial, do_load 1 rfl one_132 rfl rfl⟩⟩, trivial⟩, _, [.op 4, .op 8], _, rfl, rfl, trivial, do_premem (L' := [row 32 1 (.slice (some ⟨b1, 0, none⟩) 1 1) 1 ([.slice a0 f.sure.length c0]), pt b (.cells #[.slice a0 f.sure.length c0, pw] 134 (0, 0)), bytesA B (.slice a0 f.sure.length c0) f.sure, row 32 1 pw f.pieces.length ps, piecesA B ps f.pieces, F]) (fun w_ h_ => pt_row 1 rfl (by decide) (h_.pick (M := [pt b1 (.cells #[.slice a0 f.sure.length c0] 32 (0, 0)), pt b (.cells #[.slice a0 f.sure.length c0, pw] 134 (0, 0)), bytesA B (.slice a0 f.sure.length c0) f.sure, row 32 1 pw f.pieces.length ps, piecesA B ps f.pieces, F]) [0, 1, 2, 3, 4, 5] ⟨rfl, rfl, rfl, rfl, rfl, rfl, trivial⟩ (by decide))) (do_appendR (L1 := []) (news := ps) 3 und_132 ty_32 (by decide) rfl rfl rfl row_R (fun u hu => hone u hu) (by simp only [maxLen]; omega) (by omega)), ?_⟩
  rintro v2 _ ⟨ov2, rfl⟩
  refine ⟨[some (.pointer (some ⟨b, 0, none⟩)), some (.pointer (some ⟨b, 0, none⟩)), some (.pointer (some ⟨b, 0, none⟩)), some (.slice a0 f.sure.length c0), some (.slice (some ⟨b1, 0, none⟩) 1 1), some (.pointer (some ⟨b, 0, none⟩)), some (.pointer (some ⟨b, 0, none⟩)), some (.pointer (some ⟨b, 1, none⟩)), some (pw), some (v2), none, none], more_mk ⟨rfl, rfl, rfl, rfl, rfl, rfl, rfl, rfl, rfl, trivial⟩ rfl, ?_⟩
  refine ⟨rfl, rfl, ⟨.inl rfl, .inl rfl, .inl rfl, .inl rfl, .inl rfl, .inl rfl, .inl rfl, .inl rfl, .inl rfl, .inl rfl, trivial⟩, _, [.op 9], _, rfl, rfl, trivial, do_call (concat_file B v2 (.slice a0 f.sure.length c0) ps f hpl hbl hT) ⟨rfl, trivial⟩ enters_96 [0, 2, 4] [1, 3, 5] ⟨rfl, rfl, rfl, trivial⟩ ⟨rfl, rfl, rfl, trivial⟩ (R := [_, _, _]) (by decide), ?_⟩
  rintro _ _ ⟨_, ⟨x3, rfl, rfl⟩, rfl⟩
  refine ⟨[some (.pointer (some ⟨b, 0, none⟩)), some (.pointer (some ⟨b, 0, none⟩)), some (.pointer (some ⟨b, 0, none⟩)), some (.slice a0 f.sure.length c0), some (.slice (some ⟨b1, 0, none⟩) 1 1), some (.pointer (some ⟨b, 0, none⟩)), some (.pointer (some ⟨b, 0, none⟩)), some (.pointer (some ⟨b, 1, none⟩)), some (pw), some (v2), some (x3), some (x3)], more_mk ⟨rfl, rfl, rfl, rfl, rfl, rfl, rfl, rfl, rfl, rfl, trivial⟩ rfl, ?_⟩
  refine ⟨rfl, ⟨.inl rfl, .inl rfl, .inl rfl, .inl rfl, .inl rfl, .inl rfl, .inl rfl, .inl rfl, .inl rfl, .inl rfl, .inl rfl, .inr ⟨_, [.op 10], rfl, rfl, .inl ⟨trivial, do_assign rfl⟩⟩, trivial⟩, [.op 11], [(2, x3)], rfl, rfl, ?_⟩
  refine at_then ?_
  refine wc_ret ?_
  refine at_pick (M := [_, _, _, _, _, _]) [4, 1, 5, 2, 3, 6] ⟨rfl, rfl, rfl, rfl, rfl, rfl, trivial⟩ (by decide) ?_
  exact at_ret1 (M := [_, _, _, _, _]) rfl rfl ⟨_, rfl, rfl⟩ rfl

theorem bytes_at (B : Ctx) (fb : List Nat) (fs : List FileS) (i : Nat) (f : FileS) (hi : fs[i]? = some f) (hbl : f.pieces.length ≤ 1099511627775) (hT : f.bytes.length ≤ 1099511627776) :
    Tri Try.prog B 75 #[ptF fb i] [filesA B fb fs] (fun u M => ∃ x, x = u ∧ M = [filesA B fb fs, row 5 1 x f.bytes.length (byv f.bytes)]) := by
  refine tri_pure (φ := fb.length = fs.length) 0 rfl files_len fun hl => ?_
  refine tri_pre (pre' := [fileA B (fb.getD i 0) f, Star ((List.zipWith (fileA B) fb fs).eraseIdx i)]) ?_ (fun F w h => files_open hi h)
  refine tri_ex fun x hx => ?_
  obtain ⟨sv, pw, ps⟩ := x
  refine tri_postm (tri_frame [Star ((List.zipWith (fileA B) fb fs).eraseIdx i)] (bytes_tri B (fb.getD i 0) f sv pw ps hx hbl hT)) ?_
  rintro u M ⟨N, ⟨x, rfl, rfl⟩, rfl⟩
  refine ⟨_, ⟨x, rfl, rfl⟩, fun F w h => ?_⟩
  have h1 := ex_put (φ := fun x : Value × Value × List Value => x.2.2.length = f.pieces.length) (As := filePs B (fb.getD i 0) f) (R := [Star ((List.zipWith (fileA B) fb fs).eraseIdx i), row 5 1 x f.bytes.length (byv f.bytes), F]) (sv, pw, ps) hx (h.pick [0, 1, 2, 3, 5, 4, 6] ⟨rfl, rfl, rfl, rfl, rfl, rfl, rfl, trivial⟩ (by decide))
  have h2 := files_close hl (List.getElem?_eq_some_iff.1 hi).1 h1
  have h3 : fs.set i f = fs := by obtain ⟨hlt, rfl⟩ := List.getElem?_eq_some_iff.1 hi; exact List.set_getElem_self hlt
  rw [h3] at h2
  exact h2
end Go.Proofs.Ytmefejfnddcelaa
