/- Printed by a program of this claim's: what each of these functions of the program does, as its theorem says. No condition but what stands in each theorem. -/
import Derived.Test.YtmefejfnddcelaaDd
namespace Go.Proofs.Ytmefejfnddcelaa
/-- What is still to be told of what is kept. -/
def nextA (B : Ctx) (g : Nat) (R : Assn) (rest : List Bool) : Assn :=
  Ex (fun kv : Value => Rd B R 1 kv rest.length (rest.map .bool) ∧ ∃ a cap, kv = .slice a rest.length cap ∧ rest.length ≤ cap) fun kv => [pt g (.cells #[kv] 65 (0, 0))]
theorem rd_tail {B : Ctx} {R : Assn} {b off n cap : Nat} {x : Value} {xs : List Value} (hc : n + 1 ≤ cap) (h : Rd B R 1 (.slice (some ⟨b, off, none⟩) (n + 1) cap) (n + 1) (x :: xs)) :
    Rd B R 1 (.slice (some (if cap = 1 then ⟨b, off, none⟩ else ⟨b, off + 1 * 1, none⟩ : Addr)) (n + 1 - 1) (cap - 1)) n xs := fun hp hb hr => by
  obtain ⟨h1, a, c, h2, h3⟩ := h hp hb hr
  cases h2
  refine ⟨by simpa using h1, _, _, rfl, fun j u hj => ?_⟩
  obtain ⟨b', off', ha, hcell⟩ := h3 (j + 1) u (by simpa using hj)
  cases ha
  have hn : ¬ cap = 1 := by
    intro e
    have := (List.getElem?_eq_some_iff.1 hj).1
    simp at h1
    omega
  rw [if_neg hn]
  exact ⟨b, _, rfl, by rw [show off + 1 * 1 + j = off + (j + 1) by omega]; exact hcell⟩
/-- What is kept of a file: its bytes, how many are sure, what is still to be told. -/
def keepL : List (List UInt8) → List Bool → List UInt8 → Nat → List UInt8 × Nat × List Bool
  | [], r, b, n => (b, n, r)
  | p :: ps, r, b, n => if r.headD false then keepL ps r.tail (b ++ p) (b ++ p).length else keepL ps r.tail (b ++ List.replicate p.length 0) n
def keepF (f : FileS) (r : List Bool) : FileS × List Bool :=
  (⟨(keepL f.pieces r f.sure f.sure.length).1.take (keepL f.pieces r f.sure f.sure.length).2.1, []⟩, (keepL f.pieces r f.sure f.sure.length).2.2)
theorem keep_step {ps : List (List UInt8)} {k : Nat} {p : List UInt8} (h : ps[k]? = some p) (r : List Bool) (b : List UInt8) (n : Nat) : keepL (ps.drop k) r b n = if r.headD false then keepL (ps.drop (k + 1)) r.tail (b ++ p) (b ++ p).length else keepL (ps.drop (k + 1)) r.tail (b ++ List.replicate p.length 0) n := by
  have hk := (List.getElem?_eq_some_iff.1 h).1
  rw [List.drop_eq_getElem_cons hk, (List.getElem?_eq_some_iff.1 h).2]
  rfl
theorem row_cap {B : Ctx} {e : TypeId} {sz g cap m : Nat} {xs : List Value} (h : Hp) (_ : ∀ k o, h k = some o → B.n ≤ k) (hr : row e sz (.slice (some ⟨g, 0, none⟩) m cap) m xs h) : m ≤ cap := by
  obtain ⟨_, (⟨h2, _⟩ | ⟨g', cap', cur, h2, h3, h4, _⟩)⟩ := hr
  · cases h2
  · cases h2; exact h4
theorem one_65 : oneOk Try.prog 65 = true := by kernel_rfl
theorem isSlice_65 : isSlice Try.prog 65 = true := by kernel_rfl
theorem und_65 : Try.prog.underlying 65 = some (.slice 4) := by kernel_rfl
theorem ty_4 : tyOk Try.prog 4 1 1 (.bool false) := ty_mk (by kernel_rfl) rfl
theorem enters_68 : Enters Try.prog 68 := enters_of Try.func68 (by kernel_rfl) (by kernel_rfl)
theorem enters_76 : Enters Try.prog 76 := enters_of Try.func76 (by kernel_rfl) (by kernel_rfl)
set_option maxRecDepth 100000 in
set_option maxHeartbeats 8000000 in
theorem next_nil (B : Ctx) (g : Nat) (a : Option Addr) (cap : Nat) :
    Tri Try.prog B 76 #[.pointer (some ⟨g, 0, none⟩)] [pt g (.cells #[.slice a 0 cap] 65 (0, 0))] (fun u M => u = .bool false ∧ M = [pt g (.cells #[.slice a 0 cap] 65 (0, 0))]) := by
  refine tri_body (n := 12) Try.func76 rfl rfl rfl ?_
  intro F
  show WC _ _ _ _ _ _ _ [(0, .pointer (some ⟨g, 0, none⟩))] [pt g (.cells #[.slice a 0 cap] 65 (0, 0)), F]
  refine wc_seq ?_
  refine wc_region ?_
  refine wl_1 trivial rfl (do_assign rfl) ?_
  refine wl_nil ?_
  refine at_then ?_
  refine wc_seq ?_
  refine wc_seq ?_
  refine wc_region ?_
  refine wl_1 trivial rfl (do_load 0 rfl one_65 rfl rfl) ?_
  refine wl_1 trivial rfl (do_lenSlice rfl isSlice_65 rfl) ?_
  obtain ⟨c1, h_c1⟩ : ∃ c : Bool, cmpB .eql ((0 : Nat) : Int) 0 = some c := ⟨_, rfl⟩
  refine wl_1 trivial rfl (do_cmp rfl rfl h_c1) ?_
  refine wl_nil ?_
  refine at_then ?_
  cases c1
  · have p_c1 := cmp_eql_f h_c1
    exfalso; omega
  · have p_c1 := cmp_eql_t h_c1
    refine wc_true rfl ?_
    refine wc_seq ?_
    refine wc_region ?_
    refine wl_1 trivial rfl (do_assign rfl) ?_
    refine wl_nil ?_
    refine at_then ?_
    refine wc_ret ?_
    refine at_then_ret ?_
    exact at_ret1 (M := [_]) rfl rfl ⟨rfl, rfl⟩ rfl

set_option maxRecDepth 100000 in
set_option maxHeartbeats 8000000 in
theorem next_cons (B : Ctx) (g kb ko n cap : Nat) (x : Bool) (xs : List Value) (R : Assn) (hR : Rd B R 1 (.slice (some ⟨kb, ko, none⟩) (n + 1) cap) (n + 1) (.bool x :: xs)) (hc : n + 1 ≤ cap) :
    Tri Try.prog B 76 #[.pointer (some ⟨g, 0, none⟩)] [pt g (.cells #[.slice (some ⟨kb, ko, none⟩) (n + 1) cap] 65 (0, 0)), R] (fun u M => u = .bool x ∧ M = [pt g (.cells #[.slice (some (if cap = 1 then ⟨kb, ko, none⟩ else ⟨kb, ko + 1 * 1, none⟩ : Addr)) (n + 1 - 1) (cap - 1)] 65 (0, 0)), R]) := by
  refine tri_body (n := 12) Try.func76 rfl rfl rfl ?_
  intro F
  show WC _ _ _ _ _ _ _ [(0, .pointer (some ⟨g, 0, none⟩))] [pt g (.cells #[.slice (some ⟨kb, ko, none⟩) (n + 1) cap] 65 (0, 0)), R, F]
  refine wc_seq ?_
  refine wc_region ?_
  refine wl_1 trivial rfl (do_assign rfl) ?_
  refine wl_nil ?_
  refine at_then ?_
  refine wc_seq ?_
  refine wc_seq ?_
  refine wc_region ?_
  refine wl_1 trivial rfl (do_load 0 rfl one_65 rfl rfl) ?_
  refine wl_1 trivial rfl (do_lenSlice rfl isSlice_65 rfl) ?_
  obtain ⟨c1, h_c1⟩ : ∃ c : Bool, cmpB .eql ((n + 1 : Nat) : Int) 0 = some c := ⟨_, rfl⟩
  refine wl_1 trivial rfl (do_cmp rfl rfl h_c1) ?_
  refine wl_nil ?_
  refine at_then ?_
  cases c1
  · have p_c1 := cmp_eql_f h_c1
    refine wc_false rfl ?_
    refine wc_skip ?_
    refine at_then ?_
    refine wc_seq ?_
    refine wc_region ?_
    refine wl_1 trivial rfl (do_load 0 rfl one_65 rfl rfl) ?_
    refine wl_1 trivial rfl (do_indexAddr (j := 0) (p := (ko + 0)) und_65 ty_4 rfl rfl rfl (by omega) (by omega)) ?_
    refine wl_1 trivial rfl (do_loadR (j := 0) 1 rfl one_4 rfl hR (by omega) rfl) ?_
    refine wl_1 trivial rfl (do_assign rfl) ?_
    refine wl_nil ?_
    refine at_then ?_
    refine wc_seq ?_
    refine wc_region ?_
    refine wl_1 trivial rfl (do_load 0 rfl one_65 rfl rfl) ?_
    refine wl_1 trivial rfl (do_sliceV (vl := (some (.int .i64 1))) (vh := none) (l := 1) (h := (n + 1)) und_65 ty_4 rfl rfl trivial rfl rfl (by omega) (by omega)) ?_
    refine wl_1 trivial rfl (do_store (L1 := []) rfl rfl one_65 rfl rfl (cs' := #[.slice (some (if cap = 1 then ⟨kb, ko, none⟩ else ⟨kb, ko + 1 * 1, none⟩ : Addr)) (n + 1 - 1) (cap - 1)]) rfl) ?_
    refine wl_nil ?_
    refine at_then ?_
    refine wc_seq ?_
    refine wc_region ?_
    refine wl_1 trivial rfl (do_move rfl) ?_
    refine wl_1 trivial rfl (do_assign rfl) ?_
    refine wl_nil ?_
    refine at_then ?_
    refine wc_ret ?_
    exact at_ret1 (M := [_, _]) rfl rfl ⟨rfl, rfl⟩ rfl
  · have p_c1 := cmp_eql_t h_c1
    exfalso; omega

theorem next_tri (B : Ctx) (g : Nat) (R : Assn) (rest : List Bool) : Tri Try.prog B 76 #[.pointer (some ⟨g, 0, none⟩)] [nextA B g R rest, R] (fun u M => u = .bool (rest.headD false) ∧ M = [nextA B g R rest.tail, R]) := by
  refine tri_ex fun kv hk => ?_
  obtain ⟨hR, a, cap, rfl, hc⟩ := hk
  cases rest with
  | nil =>
    refine tri_postm (tri_frame [R] (next_nil B g a cap)) ?_
    rintro u M ⟨N, ⟨rfl, rfl⟩, rfl⟩
    exact ⟨_, ⟨rfl, rfl⟩, fun F w h => ex_put (φ := fun kv : Value => Rd B R 1 kv ([] : List Bool).length (([] : List Bool).map .bool) ∧ ∃ a cap, kv = .slice a ([] : List Bool).length cap ∧ ([] : List Bool).length ≤ cap) (As := fun kv => [pt g (.cells #[kv] 65 (0, 0))]) (R := [R, F]) _ ⟨hR, a, cap, rfl, hc⟩ h⟩
  | cons x xs =>
    intro F w hS
    have ha : ∃ kb ko, a = some ⟨kb, ko, none⟩ := sat_fact hS 1 rfl fun h hb hr => by
      obtain ⟨_, a', c', e, hcell⟩ := hR h hb hr
      cases e
      obtain ⟨b, off, h1, _⟩ := hcell 0 (.bool x) rfl
      exact ⟨b, off, h1⟩
    obtain ⟨kb, ko, rfl⟩ := ha
    refine (tri_postm (next_cons B g kb ko xs.length cap x (xs.map .bool) R hR hc) ?_) F w hS
    rintro u M ⟨rfl, rfl⟩
    refine ⟨_, ⟨rfl, rfl⟩, fun F w h => ex_put (φ := fun kv : Value => Rd B R 1 kv xs.length (xs.map .bool) ∧ ∃ a cap, kv = .slice a xs.length cap ∧ xs.length ≤ cap) (As := fun kv => [pt g (.cells #[kv] 65 (0, 0))]) (R := [R, F]) _ ⟨rd_tail hc hR, _, _, rfl, ?_⟩ h⟩
    simp only [List.length_cons] at hc
    omega

set_option maxRecDepth 100000 in
set_option maxHeartbeats 8000000 in
theorem keep_tri (B : Ctx) (b g : Nat) (f : FileS) (sv pw : Value) (ps : List Value) (R : Assn) (r0 : List Bool) (hpl : ps.length = f.pieces.length) (hbl : f.pieces.length ≤ 1099511627775) (hT : f.bytes.length ≤ 1099511627776) :
    Tri Try.prog B 79 #[.pointer (some ⟨b, 0, none⟩), .func (.func 76) #[] #[.pointer (some ⟨g, 0, none⟩)]] [pt b (.cells #[sv, pw] 134 (0, 0)), bytesA B sv f.sure, row 32 1 pw f.pieces.length ps, piecesA B ps f.pieces, nextA B g R r0, R] (fun u M => u = .tuple #[] ∧ M = [fileA B b (keepF f r0).1, nextA B g R (keepF f r0).2, R]) := by
  refine tri_pure (φ := ∃ a c, sv = .slice a f.sure.length c) 1 rfl (fun h hb hr => by obtain ⟨a, c, e, _⟩ := rd_shape hr; exact ⟨a, c, e⟩) ?_
  rintro ⟨a0, c0, rfl⟩
  refine tri_body (n := 45) Try.func79 rfl rfl rfl ?_
  intro F
  show WC _ _ _ _ _ _ _ [(0, .pointer (some ⟨b, 0, none⟩)), (1, .func (.func 76) #[] #[.pointer (some ⟨g, 0, none⟩)])] [pt b (.cells #[.slice a0 f.sure.length c0, pw] 134 (0, 0)), bytesA B (.slice a0 f.sure.length c0) f.sure, row 32 1 pw f.pieces.length ps, piecesA B ps f.pieces, nextA B g R r0, R, F]
  have hsl : f.sure.length ≤ f.bytes.length := by simp [FileS.bytes]
  refine wc_seq ?_
  refine wc_region ?_
  refine wl_1 trivial rfl (do_move rfl) ?_
  refine wl_1 trivial rfl (do_nilCheck rfl) ?_
  refine wl_1 trivial rfl (do_fieldAddr (k := 0) (k' := 0) fo_134_0 rfl (by rfl)) ?_
  refine wl_1 trivial rfl (do_load 0 rfl one_32 rfl rfl) ?_
  refine wl_do trivial rfl (do_call (clone_tri B (bytesA B (.slice a0 f.sure.length c0) f.sure) (.slice a0 f.sure.length c0) f.sure bytes_rd (by omega)) ⟨rfl, trivial⟩ enters_68 [1] [0, 2, 3, 4, 5, 6] ⟨rfl, trivial⟩ ⟨rfl, rfl, rfl, rfl, rfl, rfl, trivial⟩ (R := [_, _, _, _, _, _]) (by decide)) ?_
  rintro _ _ ⟨_, ⟨x1, rfl, rfl⟩, rfl⟩
  refine wl_1 trivial rfl (do_assign rfl) ?_
  refine wl_nil ?_
  refine at_then ?_
  refine wc_seq ?_
  refine wc_region ?_
  refine wl_1 trivial rfl (do_move rfl) ?_
  refine wl_1 trivial rfl (do_lenRow 1 rfl isSlice_32 rfl rfl) ?_
  refine wl_1 trivial rfl (do_assign rfl) ?_
  refine wl_nil ?_
  refine at_then ?_
  refine wc_seq ?_
  refine wc_seq ?_
  refine wc_region ?_
  refine wl_1 trivial rfl (do_move rfl) ?_
  refine wl_1 trivial rfl (do_nilCheck rfl) ?_
  refine wl_1 trivial rfl (do_fieldAddr (k := 1) (k' := 1) fo_134_1 rfl (by rfl)) ?_
  refine wl_1 trivial rfl (do_load 2 rfl one_132 rfl rfl) ?_
  refine wl_1 trivial rfl (do_lenRow 3 rfl isSlice_132 rfl rfl) ?_
  refine wl_1 trivial rfl (do_move rfl) ?_
  refine wl_nil ?_
  refine at_then ?_
  refine wc_block ?_
  refine wc_mem (fun w_ h_ => h_.pick (M := [pt b (.cells #[.slice a0 f.sure.length c0, pw] 134 (0, 0)), bytesA B (.slice a0 f.sure.length c0) f.sure, row 32 1 pw f.pieces.length ps, piecesA B ps f.pieces, nextA B g R r0, R, row 5 1 x1 f.sure.length (byv f.sure), F]) [2, 0, 3, 4, 5, 6, 1, 7] ⟨rfl, rfl, rfl, rfl, rfl, rfl, rfl, rfl, trivial⟩ (by decide)) ?_
  refine wc_loop (fun (z_ : Nat × Value × List UInt8 × Nat × List Bool) => match z_ with | (k, y, acc, ns, r) => k ≤ f.pieces.length ∧ keepL f.pieces r0 f.sure f.sure.length = keepL (f.pieces.drop k) r acc ns ∧ ns ≤ acc.length ∧ acc.length = f.sure.length + (f.pieces.take k).flatten.length) (fun (z_ : Nat × Value × List UInt8 × Nat × List Bool) => match z_ with | (k, y, acc, ns, r) => [(0, .pointer (some ⟨b, 0, none⟩)), (1, .func (.func 76) #[] #[.pointer (some ⟨g, 0, none⟩)]), (4, y), (5, .int .i64 ((ns : Nat) : Int)), (18, pw), (19, .int .i64 ((f.pieces.length : Nat) : Int)), (20, .int .i64 ((k : Nat) : Int))]) (fun (z_ : Nat × Value × List UInt8 × Nat × List Bool) => match z_ with | (k, y, acc, ns, r) => [pt b (.cells #[.slice a0 f.sure.length c0, pw] 134 (0, 0)), bytesA B (.slice a0 f.sure.length c0) f.sure, row 32 1 pw f.pieces.length ps, piecesA B ps f.pieces, nextA B g R r, R, row 5 1 y acc.length (byv acc), F]) (fun (z_ : Nat × Value × List UInt8 × Nat × List Bool) => match z_ with | (k, y, acc, ns, r) => f.pieces.length - k) (0, x1, f.sure, f.sure.length, r0) ⟨Nat.zero_le _, rfl, Nat.le_refl _, rfl⟩ ⟨rfl, rfl, rfl, rfl, rfl, rfl, rfl, trivial⟩ rfl ?_
  rintro ⟨k, y, acc, ns, r⟩ hphi
  obtain ⟨hk, hkl, hns, hal⟩ := hphi
  show WC _ _ _ _ _ _ _ [(0, .pointer (some ⟨b, 0, none⟩)), (1, .func (.func 76) #[] #[.pointer (some ⟨g, 0, none⟩)]), (4, y), (5, .int .i64 ((ns : Nat) : Int)), (18, pw), (19, .int .i64 ((f.pieces.length : Nat) : Int)), (20, .int .i64 ((k : Nat) : Int))] [pt b (.cells #[.slice a0 f.sure.length c0, pw] 134 (0, 0)), bytesA B (.slice a0 f.sure.length c0) f.sure, row 32 1 pw f.pieces.length ps, piecesA B ps f.pieces, nextA B g R r, R, row 5 1 y acc.length (byv acc), F]
  have hle := flat_le f.pieces k
  have hle1 := flat_le f.pieces (k + 1)
  have hbt : f.bytes.length = f.sure.length + f.pieces.flatten.length := by simp [FileS.bytes]
  refine wc_seq ?_
  refine wc_region ?_
  obtain ⟨c2, h_c2⟩ : ∃ c : Bool, cmpB .lss ((k : Nat) : Int) ((f.pieces.length : Nat) : Int) = some c := ⟨_, rfl⟩
  refine wl_1 trivial rfl (do_cmp rfl rfl h_c2) ?_
  refine wl_nil ?_
  refine at_then ?_
  refine wc_seq ?_
  cases c2
  · have p_c2 := cmp_lss_f h_c2
    refine wc_false rfl ?_
    refine wc_exit ?_
    refine at_then_exit ?_
    refine at_then_exit ?_
    refine at_block_it ?_
    refine at_then ?_
    refine wc_region ?_
    refine wl_1 trivial rfl (do_move rfl) ?_
    refine wl_1 trivial rfl (do_move rfl) ?_
    refine wl_1 trivial rfl (do_move rfl) ?_
    refine wl_1 trivial rfl (do_move rfl) ?_
    refine wl_fact 6 rfl row_any ?_
    rintro (⟨rfl, hz⟩ | ⟨g4, c4, rfl⟩)
    · have hacc : acc = [] := List.eq_nil_of_length_eq_zero hz
      subst hacc
      have hns0 : ns = 0 := by simpa using hns
      subst hns0
      refine wl_1 trivial rfl (do_sliceN (vl := none) (vh := (some (.int .i64 ((0 : Nat) : Int)))) und_32 ty_5 rfl trivial rfl rfl rfl) ?_
      refine wl_mem (L' := [bytesA B (.slice none 0 0) [], pt b (.cells #[.slice a0 f.sure.length c0, pw] 134 (0, 0)), bytesA B (.slice a0 f.sure.length c0) f.sure, row 32 1 pw f.pieces.length ps, piecesA B ps f.pieces, nextA B g R r, R, F]) (fun w_ h_ => row_bytes (h_.pick (M := [row 5 1 (.slice none 0 0) (([] : List UInt8).length) (byv []), pt b (.cells #[.slice a0 f.sure.length c0, pw] 134 (0, 0)), bytesA B (.slice a0 f.sure.length c0) f.sure, row 32 1 pw f.pieces.length ps, piecesA B ps f.pieces, nextA B g R r, R, F]) [6, 0, 1, 2, 3, 4, 5, 7] ⟨rfl, rfl, rfl, rfl, rfl, rfl, rfl, rfl, trivial⟩ (by decide))) ?_
      refine wl_1 trivial rfl (do_nilCheck rfl) ?_
      refine wl_1 trivial rfl (do_fieldAddr (k := 0) (k' := 0) fo_134_0 rfl (by rfl)) ?_
      refine wl_1 trivial rfl (do_store (L1 := [_]) rfl rfl one_32 rfl rfl (cs' := #[.slice none 0 0, pw]) rfl) ?_
      refine wl_1 trivial rfl (do_nilCheck rfl) ?_
      refine wl_1 trivial rfl (do_fieldAddr (k := 1) (k' := 1) fo_134_1 rfl (by rfl)) ?_
      refine wl_1 trivial rfl (do_store (L1 := [_]) rfl rfl one_132 rfl rfl (cs' := #[.slice none 0 0, .slice none 0 0]) rfl) ?_
      refine wl_nil ?_
      refine at_mem (L' := [piecesA B [] [], bytesA B (.slice none 0 0) [], pt b (.cells #[.slice none 0 0, .slice none 0 0] 134 (0, 0)), bytesA B (.slice a0 f.sure.length c0) f.sure, row 32 1 pw f.pieces.length ps, piecesA B ps f.pieces, nextA B g R r, R, F]) (fun w_ h_ => h_.intro trivial) ?_
      refine at_mem (L' := [row 32 1 (.slice none 0 0) 0 ([]), piecesA B [] [], bytesA B (.slice none 0 0) [], pt b (.cells #[.slice none 0 0, .slice none 0 0] 134 (0, 0)), bytesA B (.slice a0 f.sure.length c0) f.sure, row 32 1 pw f.pieces.length ps, piecesA B ps f.pieces, nextA B g R r, R, F]) (fun w_ h_ => h_.intro row_nil) ?_
      refine at_mem (L' := [fileA B b ⟨[], []⟩, bytesA B (.slice a0 f.sure.length c0) f.sure, row 32 1 pw f.pieces.length ps, piecesA B ps f.pieces, nextA B g R r, R, F]) (fun w_ h_ => ex_put (φ := fun x : Value × Value × List Value => x.2.2.length = (⟨[], []⟩ : FileS).pieces.length) (As := filePs B b ⟨[], []⟩) (.slice none 0 0, .slice none 0 0, []) rfl (h_.pick (M := [pt b (.cells #[.slice none 0 0, .slice none 0 0] 134 (0, 0)), bytesA B (.slice none 0 0) [], row 32 1 (.slice none 0 0) 0 ([]), piecesA B [] [], bytesA B (.slice a0 f.sure.length c0) f.sure, row 32 1 pw f.pieces.length ps, piecesA B ps f.pieces, nextA B g R r, R, F]) [3, 2, 0, 1, 4, 5, 6, 7, 8, 9] ⟨rfl, rfl, rfl, rfl, rfl, rfl, rfl, rfl, rfl, rfl, trivial⟩ (by decide))) ?_
      refine at_pick (M := [_, _, _, _]) [0, 4, 5, 6] ⟨rfl, rfl, rfl, rfl, trivial⟩ (by decide) ?_
      exact at_end0 (M := [_, _, _]) rfl ⟨rfl, by have hq := hkl.trans (by rw [List.drop_eq_nil_of_le (show f.pieces.length ≤ k by omega)]); unfold keepF; rw [hq]; rfl⟩ rfl
    · refine wl_fact 6 rfl row_cap ?_
      rintro hc4
      refine wl_1 trivial rfl (do_sliceP (vh := (some (.int .i64 ((ns : Nat) : Int)))) (h := ns) und_32 ty_5 rfl rfl rfl (by omega)) ?_
      refine wl_mem (L' := [bytesA B (.slice (some ⟨g4, 0, none⟩) ns c4) (acc.take ns), pt b (.cells #[.slice a0 f.sure.length c0, pw] 134 (0, 0)), bytesA B (.slice a0 f.sure.length c0) f.sure, row 32 1 pw f.pieces.length ps, piecesA B ps f.pieces, nextA B g R r, R, F]) (fun w_ h_ => row_cut hns (h_.pick (M := [row 5 1 (.slice (some ⟨g4, 0, none⟩) acc.length c4) acc.length (byv acc), pt b (.cells #[.slice a0 f.sure.length c0, pw] 134 (0, 0)), bytesA B (.slice a0 f.sure.length c0) f.sure, row 32 1 pw f.pieces.length ps, piecesA B ps f.pieces, nextA B g R r, R, F]) [6, 0, 1, 2, 3, 4, 5, 7] ⟨rfl, rfl, rfl, rfl, rfl, rfl, rfl, rfl, trivial⟩ (by decide))) ?_
      refine wl_1 trivial rfl (do_nilCheck rfl) ?_
      refine wl_1 trivial rfl (do_fieldAddr (k := 0) (k' := 0) fo_134_0 rfl (by rfl)) ?_
      refine wl_1 trivial rfl (do_store (L1 := [_]) rfl rfl one_32 rfl rfl (cs' := #[.slice (some ⟨g4, 0, none⟩) ns c4, pw]) rfl) ?_
      refine wl_1 trivial rfl (do_nilCheck rfl) ?_
      refine wl_1 trivial rfl (do_fieldAddr (k := 1) (k' := 1) fo_134_1 rfl (by rfl)) ?_
      refine wl_1 trivial rfl (do_store (L1 := [_]) rfl rfl one_132 rfl rfl (cs' := #[.slice (some ⟨g4, 0, none⟩) ns c4, .slice none 0 0]) rfl) ?_
      refine wl_nil ?_
      refine at_mem (L' := [piecesA B [] [], bytesA B (.slice (some ⟨g4, 0, none⟩) ns c4) (acc.take ns), pt b (.cells #[.slice (some ⟨g4, 0, none⟩) ns c4, .slice none 0 0] 134 (0, 0)), bytesA B (.slice a0 f.sure.length c0) f.sure, row 32 1 pw f.pieces.length ps, piecesA B ps f.pieces, nextA B g R r, R, F]) (fun w_ h_ => h_.intro trivial) ?_
      refine at_mem (L' := [row 32 1 (.slice none 0 0) 0 ([]), piecesA B [] [], bytesA B (.slice (some ⟨g4, 0, none⟩) ns c4) (acc.take ns), pt b (.cells #[.slice (some ⟨g4, 0, none⟩) ns c4, .slice none 0 0] 134 (0, 0)), bytesA B (.slice a0 f.sure.length c0) f.sure, row 32 1 pw f.pieces.length ps, piecesA B ps f.pieces, nextA B g R r, R, F]) (fun w_ h_ => h_.intro row_nil) ?_
      refine at_mem (L' := [fileA B b ⟨(acc.take ns), []⟩, bytesA B (.slice a0 f.sure.length c0) f.sure, row 32 1 pw f.pieces.length ps, piecesA B ps f.pieces, nextA B g R r, R, F]) (fun w_ h_ => ex_put (φ := fun x : Value × Value × List Value => x.2.2.length = (⟨(acc.take ns), []⟩ : FileS).pieces.length) (As := filePs B b ⟨(acc.take ns), []⟩) (.slice (some ⟨g4, 0, none⟩) ns c4, .slice none 0 0, []) rfl (h_.pick (M := [pt b (.cells #[.slice (some ⟨g4, 0, none⟩) ns c4, .slice none 0 0] 134 (0, 0)), bytesA B (.slice (some ⟨g4, 0, none⟩) ns c4) (acc.take ns), row 32 1 (.slice none 0 0) 0 ([]), piecesA B [] [], bytesA B (.slice a0 f.sure.length c0) f.sure, row 32 1 pw f.pieces.length ps, piecesA B ps f.pieces, nextA B g R r, R, F]) [3, 2, 0, 1, 4, 5, 6, 7, 8, 9] ⟨rfl, rfl, rfl, rfl, rfl, rfl, rfl, rfl, rfl, rfl, trivial⟩ (by decide))) ?_
      refine at_pick (M := [_, _, _, _]) [0, 4, 5, 6] ⟨rfl, rfl, rfl, rfl, trivial⟩ (by decide) ?_
      exact at_end0 (M := [_, _, _]) rfl ⟨rfl, by have hq := hkl.trans (by rw [List.drop_eq_nil_of_le (show f.pieces.length ≤ k by omega)]); unfold keepF; rw [hq]; rfl⟩ rfl
  · have p_c2 := cmp_lss_t h_c2
    refine wc_true rfl ?_
    refine wc_skip ?_
    refine at_then ?_
    refine wc_seq ?_
    refine wc_block ?_
    refine wc_seq ?_
    refine wc_region ?_
    refine wl_fact 2 rfl (row_some (by omega)) ?_
    rintro ⟨g3, cap4, rfl⟩
    refine wl_1 trivial rfl (do_indexAddr (j := k) (p := k) und_132 ty_32 rfl rfl rfl (by omega) (by omega)) ?_
    obtain ⟨p5, hp6⟩ : ∃ p, (ps)[k]? = some p := ⟨_, List.getElem?_eq_getElem (by omega)⟩
    obtain ⟨b7, hb8⟩ : ∃ b, (f.pieces)[k]? = some b := ⟨_, List.getElem?_eq_getElem (by omega)⟩
    have hRp5 : Rd B (piecesA B ps f.pieces) 1 p5 b7.length (byv b7) := pieces_Rd hp6 hb8
    refine wl_fact 3 rfl (fun h hb_ hh => rd_shape (hRp5 h hb_ hh)) ?_
    rintro ⟨a9, c10, rfl, _⟩
    rw [flat_take hb8, List.length_append] at hle1
    refine wl_1 trivial rfl (do_loadR (j := k) 2 rfl one_32 rfl row_R (by omega) hp6) ?_
    refine wl_1 trivial rfl (do_assign rfl) ?_
    refine wl_nil ?_
    refine at_then ?_
    refine wc_seq ?_
    refine wc_region ?_
    refine wl_1 trivial rfl (do_move rfl) ?_
    refine wl_do trivial rfl (do_callv (vs := []) rfl (next_tri B g R r) rfl trivial enters_76 [4, 5] [0, 1, 2, 3, 6, 7] ⟨rfl, rfl, trivial⟩ ⟨rfl, rfl, rfl, rfl, rfl, rfl, trivial⟩ (R := [_, _, _, _, _, _]) (by decide)) ?_
    rintro _ _ ⟨_, ⟨rfl, rfl⟩, rfl⟩
    refine wl_nil ?_
    refine at_then ?_
    cases hb11 : (r.headD false)
    · skip
      refine wc_false rfl ?_
      refine wc_region ?_
      refine wl_1 trivial rfl (do_move rfl) ?_
      refine wl_1 trivial rfl (do_move rfl) ?_
      refine wl_1 trivial rfl (do_lenSlice rfl isSlice_32 rfl) ?_
      refine wl_do trivial rfl (do_appendZ (L1 := [_, _, _, _, _, _]) (k := b7.length) und_32 und_3 ty_5 rfl rfl rfl rfl (by omega)) ?_
      rintro v12 _ ⟨ov12, rfl⟩
      refine wl_1 trivial rfl (do_assign rfl) ?_
      refine wl_nil ?_
      refine at_block ?_
      refine at_then ?_
      refine wc_region ?_
      refine wl_1 trivial rfl (do_add (r := ((k + 1 : Nat) : Int)) rfl rfl (wrap_nat (by omega) (by omega))) ?_
      refine wl_1 trivial rfl (do_move rfl) ?_
      refine wl_nil ?_
      refine at_pick (M := [_, _, _, _, _, _, _, _]) [2, 3, 4, 5, 0, 1, 6, 7] ⟨rfl, rfl, rfl, rfl, rfl, rfl, rfl, rfl, trivial⟩ (by decide) ?_
      have e1 : byv acc ++ List.replicate b7.length (Value.int .u8 0) = byv (acc ++ (List.replicate b7.length (0 : UInt8))) := by first | exact byv_app _ _ | (rw [byv_rep, byv_app])
      have e2 : (acc.length + b7.length : Nat) = (acc ++ (List.replicate b7.length (0 : UInt8))).length := by simp
      rw [e1, e2]
      have hphi : k + 1 ≤ f.pieces.length ∧ keepL f.pieces r0 f.sure f.sure.length = keepL (f.pieces.drop (k + 1)) r.tail (acc ++ (List.replicate b7.length (0 : UInt8))) ns ∧ ns ≤ (acc ++ (List.replicate b7.length (0 : UInt8))).length ∧ (acc ++ (List.replicate b7.length (0 : UInt8))).length = f.sure.length + (f.pieces.take (k + 1)).flatten.length := ⟨by omega, by rw [hkl, keep_step hb8, hb11]; rfl, by simp; omega, by rw [flat_take hb8]; simp only [List.length_append, List.length_replicate]; omega⟩
      exact at_round (k + 1, v12, acc ++ List.replicate b7.length 0, ns, r.tail) hphi (by show f.pieces.length - (k + 1) < f.pieces.length - k; omega) ⟨rfl, rfl, rfl, rfl, rfl, rfl, rfl, trivial⟩ rfl
    · skip
      refine wc_true rfl ?_
      refine wc_seq ?_
      refine wc_region ?_
      refine wl_1 trivial rfl (do_move rfl) ?_
      refine wl_1 trivial rfl (do_move rfl) ?_
      refine wl_do trivial rfl (do_appendR (L1 := [_, _, _, _, _, _]) (news := (byv b7)) 5 und_32 ty_5 (by decide) rfl rfl rfl hRp5 (byv_one _) (by simp only [maxLen]; omega) (by omega)) ?_
      rintro v13 _ ⟨ov13, rfl⟩
      refine wl_1 trivial rfl (do_assign rfl) ?_
      refine wl_nil ?_
      refine at_then ?_
      refine wc_region ?_
      refine wl_1 trivial rfl (do_move rfl) ?_
      refine wl_1 trivial rfl (do_lenRow 6 rfl isSlice_32 rfl rfl) ?_
      refine wl_1 trivial rfl (do_assign rfl) ?_
      refine wl_nil ?_
      refine at_block ?_
      refine at_then ?_
      refine wc_region ?_
      refine wl_1 trivial rfl (do_add (r := ((k + 1 : Nat) : Int)) rfl rfl (wrap_nat (by omega) (by omega))) ?_
      refine wl_1 trivial rfl (do_move rfl) ?_
      refine wl_nil ?_
      refine at_pick (M := [_, _, _, _, _, _, _, _]) [2, 3, 4, 5, 0, 1, 6, 7] ⟨rfl, rfl, rfl, rfl, rfl, rfl, rfl, rfl, trivial⟩ (by decide) ?_
      have e1 : byv acc ++ byv b7 = byv (acc ++ b7) := by first | exact byv_app _ _ | (rw [byv_rep, byv_app])
      have e2 : (acc.length + b7.length : Nat) = (acc ++ b7).length := by simp
      rw [e1, e2]
      have hphi : k + 1 ≤ f.pieces.length ∧ keepL f.pieces r0 f.sure f.sure.length = keepL (f.pieces.drop (k + 1)) r.tail (acc ++ b7) (acc ++ b7).length ∧ (acc ++ b7).length ≤ (acc ++ b7).length ∧ (acc ++ b7).length = f.sure.length + (f.pieces.take (k + 1)).flatten.length := ⟨by omega, by rw [hkl, keep_step hb8, hb11]; rfl, by simp, by rw [flat_take hb8]; simp only [List.length_append, List.length_replicate]; omega⟩
      exact at_round (k + 1, v13, acc ++ b7, (acc ++ b7).length, r.tail) hphi (by show f.pieces.length - (k + 1) < f.pieces.length - k; omega) ⟨rfl, rfl, rfl, rfl, rfl, rfl, rfl, trivial⟩ rfl
end Go.Proofs.Ytmefejfnddcelaa
