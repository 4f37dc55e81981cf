/- Printed by a program of this claim's: what each of these functions of the program does, as its theorem says. No condition but what stands in each theorem. -/
import Derived.Test.YtmefejfnddcelaaCa
import Derived.Test.YtmefejfnddcelaaSLSeq
import Derived.Test.YtmefejfnddcelaaSLYield
import Derived.Test.YtmefejfnddcelaaSLExtra
namespace Go.Proofs.Ytmefejfnddcelaa
theorem keys_fact {α : Type} {enc : α → Value} {B : Ctx} {r : Nat} {l : List (α × Value)} (h : Hp) (_ : ∀ k o, h k = some o → B.n ≤ k) (hv : mapA enc r l h) : (akeys l).Nodup := by obtain ⟨_, _, _, _, _, hn⟩ := hv; exact hn
theorem keys_perm {α : Type} [DecidableEq α] {l : List (α × Value)} {d : List α} (hn : (akeys l).Nodup) (h1 : d.Nodup) (h2 : ∀ k ∈ d, k ∈ akeys l) (h3 : ∀ p ∈ l, p.1 ∈ d) : d.Perm (akeys l) :=
  (List.perm_ext_iff_of_nodup h1 hn).2 fun x => ⟨h2 x, fun hx => by obtain ⟨p, hp, rfl⟩ := List.mem_map.1 hx; exact h3 p hp⟩
theorem keys_more {α : Type} [DecidableEq α] {l : List (α × Value)} {d : List α} {k : α} {v : Value} (h1 : d.Nodup) (h2 : ∀ k ∈ d, k ∈ akeys l) (hm : aget l k = some v) (hd : k ∉ d) : (d ++ [k]).Nodup ∧ (∀ j ∈ d ++ [k], j ∈ akeys l) ∧ d.length < l.length := by
  have h3 : ∀ j ∈ d ++ [k], j ∈ akeys l := fun j hj => by
    rcases List.mem_append.1 hj with hj | hj
    · exact h2 j hj
    · simp at hj; subst hj; exact mem_keys (aget_mem hm)
  have h4 := sub_len (nodup_snoc h1 hd) h3
  refine ⟨nodup_snoc h1 hd, h3, ?_⟩
  simp [akeys] at h4
  omega
theorem one_84 : oneOk Try.prog 84 = true := by kernel_rfl
theorem key_9 : KeyOk Try.prog 9 encS := keyS (by kernel_rfl)
theorem und_84 : Try.prog.underlying 84 = some (.map 9 123) := by kernel_rfl
theorem isMap_84 : isMap Try.prog 84 = true := by kernel_rfl
theorem one_39 : oneOk Try.prog 39 = true := by kernel_rfl
theorem und_39 : Try.prog.underlying 39 = some (.slice 9) := by kernel_rfl
theorem ty_9 : tyOk Try.prog 9 1 16 (.string ⟨#[]⟩) := ty_mk (by kernel_rfl) rfl
theorem zs_9_1 : ((Array.range (1 * 1)).map ((.string ⟨#[]⟩ : Value).cells[· % (.string ⟨#[]⟩ : Value).cells.size]!)) = #[.string ⟨#[]⟩] := by kernel_rfl
set_option maxRecDepth 100000 in
set_option maxHeartbeats 8000000 in
theorem keysf (B : Ctx) (g r l : Nat) (lv : List (ByteArray × Value)) (J : List ByteArray → Assn) (hJ : ∀ d k, d.length < lv.length → YTri Try.prog B l #[.string k] [J d] (fun v M => v = .bool true ∧ M = [J (d ++ [k])])) :
    Tri Try.prog B 95 #[.func (.yield l) #[] #[], .pointer (some ⟨g, 0, none⟩)] [pt g (.cells #[.map (some r)] 84 (0, 0)), mapA encS r lv, J ([])] (fun u M => ∃ d, d.Perm (akeys lv) ∧ u = .tuple #[] ∧ M = [pt g (.cells #[.map (some r)] 84 (0, 0)), mapA encS r lv, J d]) := by
  refine tri_pure (φ := (akeys lv).Nodup) 1 rfl keys_fact fun hkn => ?_
  refine tri_body (n := 14) Try.func95 rfl rfl rfl ?_
  intro F
  show WC _ _ _ _ _ _ _ [(0, .func (.yield l) #[] #[]), (1, .pointer (some ⟨g, 0, none⟩))] [pt g (.cells #[.map (some r)] 84 (0, 0)), mapA encS r lv, J ([]), F]
  refine wc_seq ?_
  refine wc_region ?_
  refine wl_1 trivial rfl (do_load 0 rfl one_84 rfl rfl) ?_
  refine wl_do trivial rfl (do_range (M := [_, _, _]) 1 [0, 2, 3] isMap_84 rfl ⟨rfl, rfl, rfl, trivial⟩ rfl (by decide)) ?_
  rintro _ _ ⟨it1, rfl, rfl⟩
  refine wl_nil ?_
  refine at_then ?_
  refine wc_block ?_
  refine wc_loop (fun (dn : List ByteArray) => dn.Nodup ∧ ∀ k ∈ dn, k ∈ akeys lv) (fun (dn : List ByteArray) => [(0, .func (.yield l) #[] #[]), (5, .pointer (some ⟨it1, 0, none⟩))]) (fun (dn : List ByteArray) => [mapIt encS r it1 lv dn, pt g (.cells #[.map (some r)] 84 (0, 0)), J dn, F]) (fun (dn : List ByteArray) => lv.length - dn.length) ([]) ⟨.nil, by simp⟩ ⟨rfl, rfl, trivial⟩ rfl ?_
  rintro dn hphi
  obtain ⟨hn1, hn2⟩ := hphi
  show WC _ _ _ _ _ _ _ [(0, .func (.yield l) #[] #[]), (5, .pointer (some ⟨it1, 0, none⟩))] [mapIt encS r it1 lv dn, pt g (.cells #[.map (some r)] 84 (0, 0)), J dn, F]
  refine wc_seq ?_
  refine wc_region ?_
  refine wl_do trivial rfl (do_next (L1 := []) rfl) ?_
  rintro _ _ (⟨k2, v3, hm4, hd5, rfl, rfl⟩ | ⟨ha6, rfl, rfl⟩)
  · skip
    refine wl_1 trivial rfl (do_extract rfl rfl) ?_
    refine wl_nil ?_
    refine at_then ?_
    refine wc_seq ?_
    refine wc_true rfl ?_
    refine wc_skip ?_
    refine at_then ?_
    refine wc_block ?_
    refine wc_seq ?_
    refine wc_region ?_
    refine wl_1 trivial rfl (do_entry (d := dn) 0 rfl rfl rfl hm4) ?_
    refine wl_1 trivial rfl (do_extract rfl rfl) ?_
    refine wl_1 trivial rfl (do_assign rfl) ?_
    refine wl_nil ?_
    refine at_then ?_
    refine wc_seq ?_
    refine wc_region ?_
    refine wl_1 trivial rfl (do_move rfl) ?_
    refine wl_1 trivial rfl (do_move rfl) ?_
    refine wl_do trivial rfl (do_yield (vs := [.string k2]) rfl (hJ dn k2 (keys_more hn1 hn2 hm4 hd5).2.2) rfl ⟨rfl, trivial⟩ [2] [0, 1, 3] ⟨rfl, trivial⟩ ⟨rfl, rfl, rfl, trivial⟩ (R := [_, _, _]) (by decide)) ?_
    rintro _ _ ⟨_, ⟨rfl, rfl⟩, rfl⟩
    have hmore := keys_more hn1 hn2 hm4 hd5
    refine wl_1 trivial rfl (do_not (c := true) rfl) ?_
    refine wl_nil ?_
    refine at_then ?_
    refine wc_false rfl ?_
    refine wc_skip ?_
    refine at_block ?_
    refine at_pick (M := [_, _, _, _]) [1, 2, 0, 3] ⟨rfl, rfl, rfl, rfl, trivial⟩ (by decide) ?_
    exact at_round (dn ++ [k2]) ⟨hmore.1, hmore.2.1⟩ (by have := hmore.2.2; simp only [List.length_append, List.length_cons, List.length_nil]; omega) ⟨rfl, rfl, trivial⟩ rfl
  · skip
    refine wl_1 trivial rfl (do_extract rfl rfl) ?_
    refine wl_nil ?_
    refine at_then ?_
    refine wc_seq ?_
    refine wc_false rfl ?_
    refine wc_exit ?_
    refine at_then_exit ?_
    refine at_then_exit ?_
    refine at_block_it ?_
    refine at_mem (L' := [mapA encS r lv, pt g (.cells #[.map (some r)] 84 (0, 0)), J dn, F]) (fun w_ h_ => mapIt_end (L1 := []) (h_.pick (M := [mapIt encS r it1 lv dn, pt g (.cells #[.map (some r)] 84 (0, 0)), J dn, F]) [0, 1, 2, 3] ⟨rfl, rfl, rfl, rfl, trivial⟩ (by decide))) ?_
    refine at_pick (M := [_, _, _, _]) [1, 0, 2, 3] ⟨rfl, rfl, rfl, rfl, trivial⟩ (by decide) ?_
    exact at_end0 (M := [_, _, _]) rfl ⟨dn, keys_perm hkn hn1 hn2 ha6, rfl, rfl⟩ rfl

def XS (b : Nat) (d : List ByteArray) : Assn := Ex (fun _ : Value => True) fun x => [pt b (.cells #[x] 39 (0, 0)), row 9 1 x d.length (d.map .string)]
def JS (l : Nat) (r : Loop) (b : Nat) (d : List ByteArray) : Assn := Star [XS b d, pt l (.loop (rec_ r .ready none))]

set_option maxRecDepth 100000 in
set_option maxHeartbeats 8000000 in
theorem aseq_tri (B : Ctx) (f : FuncId) (fi ca : Array Value) (A : Assn) (ok : List ByteArray → Prop) (N : Nat) (hen : Enters Try.prog f) (hs : SeqL Try.prog B f fi ca [A] ok N) (hN : N ≤ 2199023255552) :
    Tri Try.prog B 99 #[.slice none 0 0, .func (.func f) fi ca] [A] (fun u M => ∃ x d, ok d ∧ x = u ∧ M = [A, row 9 1 x d.length (d.map .string)]) := by
  refine tri_bodyM (n := 13) Try.func99 rfl rfl rfl ?_
  intro F
  show WC _ _ _ _ _ _ _ [(0, .slice none 0 0), (1, .func (.func f) fi ca)] [A, F]
  refine wc_seq ?_
  refine wc_region ?_
  refine wl_do trivial rfl (do_box rfl rfl) ?_
  rintro _ _ ⟨b1, rfl, rfl⟩
  refine wl_1 trivial rfl (do_assign rfl) ?_
  refine wl_nil ?_
  refine at_then ?_
  refine wc_seq ?_
  refine wc_seq ?_
  refine wc_region ?_
  refine wl_1 trivial rfl (do_move rfl) ?_
  refine wl_nil ?_
  refine at_then ?_
  refine wc_block ?_
  refine wc_rangeFunc rfl hen ?_
  intro dd ll rr hrr
  have hy : ∀ (d : List ByteArray) (k : ByteArray), d.length < N → YTri Try.prog B ll #[.string k] [JS ll rr b1 d] (fun v M => v = .bool true ∧ M = [JS ll rr b1 (d ++ [k])]) := by
    intro d k hlt
    refine ytri_post (post := fun v M => v = .bool true ∧ ∃ x, M = [pt ll (.loop (rec_ rr .ready none)), pt b1 (.cells #[x] 39 (0, 0)), row 9 1 x (d.length + 1) (d.map .string ++ [.string k])]) (ytri_star (ytri_ex (R := [pt ll (.loop (rec_ rr .ready none))]) fun x _ => ytri_mem (pre := [pt ll (.loop (rec_ rr .ready none)), pt b1 (.cells #[x] 39 (0, 0)), row 9 1 x d.length (d.map .string)]) ?_ (fun F w h => h.pick [2, 0, 1, 3] ⟨rfl, rfl, rfl, rfl, trivial⟩ (by decide)))) ?_
    · refine ytri_of (args := [.string k]) (J := [pt b1 (.cells #[x] 39 (0, 0)), row 9 1 x d.length (d.map .string)]) (ps := [7]) hrr rfl rfl ?_
      intro F2
      refine wc_region ?_
      refine wl_1 trivial rfl (do_assign rfl) ?_
      refine wl_nil ?_
      refine at_assign ?_
      refine wc_block ?_
      refine wc_region ?_
      refine wl_1 trivial rfl (do_load 1 rfl one_39 rfl rfl) ?_
      refine wl_1 trivial rfl (do_move rfl) ?_
      refine wl_do trivial rfl (do_buildSlice (ps := [(0, .string k)]) ⟨rfl, rfl, trivial⟩ (bslice_mk zs_9_1 und_39 ty_9 (by decide) (by decide) rfl)) ?_
      rintro _ _ ⟨b2, rfl, rfl⟩
      refine wl_do trivial rfl (do_append (L1 := [_, _, _]) (news := [.string k]) und_39 ty_9 (by decide) rfl rfl rfl (reads_pt (i := 0) rfl rfl) (one_list rfl) (by simp [maxLen]; omega) (by omega)) ?_
      rintro v3 _ ⟨hv3, ov3, rfl⟩
      refine wl_1 trivial rfl (do_store (L1 := [_, _]) rfl rfl one_39 ov3 rfl (cs' := #[v3]) rfl) ?_
      refine wl_nil ?_
      refine at_block ?_
      refine at_pick (M := [_, _, _, _]) [1, 2, 3, 4] ⟨rfl, rfl, rfl, rfl, trivial⟩ (by decide) ?_
      exact at_round_end (M := [_, _]) ⟨rfl, v3, rfl⟩ rfl
    · rintro v M ⟨rfl, x, rfl⟩
      refine ⟨_, ⟨rfl, rfl⟩, fun F w h => ?_⟩
      refine star_put (As := [XS b1 (d ++ [k]), pt ll (.loop (rec_ rr .ready none))]) (R := [F]) ?_
      refine ex_put (R := [pt ll (.loop (rec_ rr .ready none)), F]) x trivial ?_
      have e1 : (d ++ [k]).length = d.length + 1 := by simp
      have e2 : (d ++ [k]).map Value.string = d.map .string ++ [.string k] := by simp
      simp only [e1, e2]
      exact h.pick [1, 2, 0, 3] ⟨rfl, rfl, rfl, rfl, trivial⟩ (by decide)
  refine ⟨[A, JS ll rr b1 []], [pt dd (.deferred (some [])), F], _, hs ll (JS ll rr b1) hy, ?_, ?_⟩
  · intro w hS
    have h1 := hS.intro (A := row 9 1 (.slice none 0 0) 0 ([])) row_nil
    have h2 := ex_put (φ := fun _ : Value => True) (As := fun x => [pt b1 (.cells #[x] 39 (0, 0)), row 9 1 x 0 ([])]) (R := [pt ll (.loop (rec_ rr .ready none)), A, pt dd (.deferred (some [])), F]) (.slice none 0 0) trivial (h1.pick [3, 0, 1, 4, 2, 5] ⟨rfl, rfl, rfl, rfl, rfl, rfl, trivial⟩ (by decide))
    have h3 := star_put (As := [XS b1 [], pt ll (.loop (rec_ rr .ready none))]) (R := [A, pt dd (.deferred (some [])), F]) h2
    exact h3.pick [1, 0, 2, 3] ⟨rfl, rfl, rfl, rfl, trivial⟩ (by decide)
  · rintro v M ⟨d, hd, rfl, rfl⟩
    refine ⟨.ready, none, [XS b1 d, A, pt dd (.deferred (some [])), F], fun w hS => ?_, (by intro h; cases h), ?_⟩
    · have h1 := star_get (As := [XS b1 d, pt ll (.loop (rec_ rr .ready none))]) (R := [A, pt dd (.deferred (some [])), F]) (hS.pick [1, 0, 2, 3] ⟨rfl, rfl, rfl, rfl, trivial⟩ (by decide))
      exact h1.pick [1, 0, 2, 3, 4] ⟨rfl, rfl, rfl, rfl, rfl, trivial⟩ (by decide)
    · refine at_open (α := Value) (φ := fun _ => True) (Lf := fun x => [pt b1 (.cells #[x] 39 (0, 0)), row 9 1 x d.length (d.map .string), A, pt dd (.deferred (some [])), F]) (fun w hS => ex_get hS) ?_
      intro x _
      refine at_block ?_
      refine at_then ?_
      refine wc_seq ?_
      refine wc_region ?_
      refine wl_1 trivial rfl (do_load 0 rfl one_39 rfl rfl) ?_
      refine wl_1 trivial rfl (do_assign rfl) ?_
      refine wl_nil ?_
      refine at_then ?_
      refine wc_ret ?_
      refine at_pick (M := [_, _, _, _]) [3, 2, 1, 4] ⟨rfl, rfl, rfl, rfl, trivial⟩ (by decide) ?_
      refine at_retM ?_
      refine at_mark (M := [_, _, _]) 0 rfl [1, 2, 3] ⟨rfl, rfl, rfl, trivial⟩ (by decide) ?_
      exact lv_1 (M := [_, _]) rfl rfl ⟨_, d, hd, rfl, rfl⟩ rfl
end Go.Proofs.Ytmefejfnddcelaa
