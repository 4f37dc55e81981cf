/- Printed by a program of this claim's: what each of these functions of the program does, as its theorem says. No condition but what stands in each theorem. -/
import Derived.Test.YtmefejfnddcelaaCb
import Derived.Test.YtmefejfnddcelaaShelf
import Derived.Sort.OwnSorted
namespace Go.Proofs.Ytmefejfnddcelaa
open Go.Sort Go.RowKit
theorem enters_99 : Enters Try.prog 99 := enters_of Try.func99 (by kernel_rfl) (by kernel_rfl)
theorem enters_91 : Enters Try.prog 91 := enters_of Try.func91 (by kernel_rfl) (by kernel_rfl)
theorem enters_92 : Enters Try.prog 92 := enters_of Try.func92 (by kernel_rfl) (by kernel_rfl)
theorem enters_95 : Enters Try.prog 95 := enters_of Try.func95 (by kernel_rfl) (by kernel_rfl)
def leB (x y : List UInt8) : Bool := decide (x ≤ y)
def sortB (d : List ByteArray) : List ByteArray := ((d.map fun k => k.data.toList).mergeSort fun x y => decide (x ≤ y)).map fun l => ⟨l.toArray⟩
theorem sortB_len (d : List ByteArray) : (sortB d).length = d.length := by simp [sortB, List.length_mergeSort]
theorem sortB_perm {d e : List ByteArray} (h : d.Perm e) : sortB d = sortB e := by
  unfold sortB
  have hp : ((d.map fun k => k.data.toList).mergeSort fun x y => decide (x ≤ y)).Perm ((e.map fun k => k.data.toList).mergeSort fun x y => decide (x ≤ y)) :=
    (List.mergeSort_perm _ _).trans ((h.map _).trans (List.mergeSort_perm _ _).symm)
  have hs : ∀ l : List (List UInt8), (l.mergeSort fun x y => decide (x ≤ y)).Pairwise (fun x y => x ≤ y) := fun l => by
    have := List.pairwise_mergeSort (le := fun x y : List UInt8 => decide (x ≤ y)) (fun a b c h1 h2 => by simp only [decide_eq_true_eq] at *; exact List.le_trans h1 h2) (fun a b => by simpa using List.le_total a b) l
    exact this.imp fun h => by simpa using h
  rw [hp.eq_of_pairwise (fun a b _ _ h1 h2 => List.le_antisymm h1 h2) (hs _) (hs _)]

theorem sort_tri (B : Ctx) (v : Value) (d : List ByteArray) (hd : d.length ≤ 2199023255552) : Tri Try.prog B 92 #[v] [row 9 1 v d.length (d.map .string)] (fun u M => u = .tuple #[] ∧ M = [row 9 1 v d.length ((sortB d).map .string)]) := by
  intro F w hS
  have hS' : Sat B ([] ++ row 9 1 v d.length (d.map .string) :: [F]) w := hS
  obtain ⟨S, hS0, hA⟩ := hS'.at_
  obtain ⟨hl, hr⟩ := hA
  rcases hr with ⟨rfl, h0⟩ | ⟨g, cap, cur, rfl, hg, h1, h2, h3, h4⟩
  · have : d = [] := List.eq_nil_of_length_eq_zero h0
    subst this
    refine Calls.mono (Try.slices_Sort_string_none none 0 w) ?_
    rintro e w' ⟨rfl, rfl⟩
    exact ⟨_, _, rfl, ⟨rfl, rfl⟩, by simpa [sortB] using hS⟩
  · obtain ⟨hSg, hb⟩ := part_some hg
    have hlt := (Array.getElem?_eq_some_iff.1 hb).1
    have hm : (d.map fun k => k.data.toList).map encStr = d.map .string := by
      rw [List.map_map]; exact List.map_congr_left fun k _ => rfl
    have ht : cur.toList.take (d.map fun k => k.data.toList).length = (d.map fun k => k.data.toList).map encStr := by rw [hm, List.length_map, ← h4, Nat.mul_one]
    have hc := Try.slices_Sort_string g 0 cap (d.map fun k => k.data.toList) w (holds_of_block hb ht) hlt (by rw [List.length_map]; omega)
    rw [List.length_map] at hc
    refine Calls.mono hc ?_
    rintro e w' ⟨rfl, n, os, rfl⟩
    refine ⟨_, _, rfl, ⟨rfl, rfl⟩, ?_⟩
    have hg3 := grownBy_sorted (w := w) (g := g) (n := n) (os := os) ((d.map fun k => k.data.toList).mergeSort fun x y => decide (x ≤ y)).toArray
    refine Sat.upd (L1 := []) (L2 := [F]) hS' (grown_keep hg3) fun S' hSn hA' => ?_
    obtain ⟨ho, hk⟩ := row_part hSn hA'
    have hown := ownsRow_sorted (w := w) (base := B.n) (g := g) (cap := cap) (n := n) (e := 9) (os := os) (cur := cur) (ss := d.map fun k => k.data.toList) (ts := (d.map fun k => k.data.toList).mergeSort fun x y => decide (x ≤ y)) (List.length_mergeSort _) (hS0 g hSg) hb (by rw [List.length_map]; exact h1) h2 h3
    rw [List.length_map] at hown
    have e1 : ((d.map fun k => k.data.toList).mergeSort fun x y => decide (x ≤ y)).map encStr = (sortB d).map .string := by unfold sortB; rw [List.map_map]; rfl
    rw [e1] at hown
    exact ⟨fun k hk1 hk2 => hg3.block k hk1 (fun e => hk2 (hk k e.symm)), row_of hown fun k hk1 => .inl (hk k hk1)⟩

set_option maxRecDepth 100000 in
set_option maxHeartbeats 8000000 in
theorem coll_tri (B : Ctx) (f : FuncId) (fi ca : Array Value) (A : Assn) (ok : List ByteArray → Prop) (N : Nat) (hen : Enters Try.prog f) (hs : SeqL Try.prog B f fi ca [A] ok N) (hN : N ≤ 2199023255552) :
    Tri Try.prog B 91 #[.func (.func f) fi ca] [A] (fun u M => ∃ x d, ok d ∧ x = u ∧ M = [A, row 9 1 x d.length (d.map .string)]) := by
  refine tri_body (n := 5) Try.func91 rfl rfl rfl ?_
  intro F
  show WC _ _ _ _ _ _ _ [(0, .func (.func f) fi ca)] [A, F]
  refine wc_seq ?_
  refine wc_region ?_
  refine wl_1 trivial rfl (do_assign rfl) ?_
  refine wl_nil ?_
  refine at_then ?_
  refine wc_seq ?_
  refine wc_region ?_
  refine wl_1 trivial rfl (do_move rfl) ?_
  refine wl_do trivial rfl (do_call (aseq_tri B f fi ca A ok N hen hs hN) ⟨rfl, rfl, trivial⟩ enters_99 [0] [1] ⟨rfl, trivial⟩ ⟨rfl, trivial⟩ (R := [_]) (by decide)) ?_
  rintro _ _ ⟨_, ⟨x1, d2, h3, rfl, rfl⟩, rfl⟩
  refine wl_1 trivial rfl (do_assign rfl) ?_
  refine wl_nil ?_
  refine at_then ?_
  refine wc_ret ?_
  exact at_ret1 (M := [_, _]) rfl rfl ⟨_, d2, h3, rfl, rfl⟩ rfl

set_option maxRecDepth 100000 in
set_option maxHeartbeats 8000000 in
theorem sorted_tri (B : Ctx) (f : FuncId) (fi ca : Array Value) (A : Assn) (ok : List ByteArray → Prop) (N : Nat) (hen : Enters Try.prog f) (hs : SeqL Try.prog B f fi ca [A] ok N) (hN : N ≤ 2199023255552) (hdl : ∀ d, ok d → d.length ≤ 2199023255552) :
    Tri Try.prog B 66 #[.func (.func f) fi ca] [A] (fun u M => ∃ x d, ok d ∧ x = u ∧ M = [A, row 9 1 x d.length ((sortB d).map .string)]) := by
  refine tri_body (n := 9) Try.func66 rfl rfl rfl ?_
  intro F
  show WC _ _ _ _ _ _ _ [(0, .func (.func f) fi ca)] [A, F]
  refine wc_seq ?_
  refine wc_region ?_
  refine wl_1 trivial rfl (do_assign rfl) ?_
  refine wl_nil ?_
  refine at_then ?_
  refine wc_seq ?_
  refine wc_region ?_
  refine wl_1 trivial rfl (do_move rfl) ?_
  refine wl_do trivial rfl (do_call (coll_tri B f fi ca A ok N hen hs hN) ⟨rfl, trivial⟩ enters_91 [0] [1] ⟨rfl, trivial⟩ ⟨rfl, trivial⟩ (R := [_]) (by decide)) ?_
  rintro _ _ ⟨_, ⟨x1, d2, h3, rfl, rfl⟩, rfl⟩
  refine wl_1 trivial rfl (do_assign rfl) ?_
  refine wl_nil ?_
  refine at_then ?_
  refine wc_seq ?_
  refine wc_region ?_
  refine wl_1 trivial rfl (do_move rfl) ?_
  refine wl_do trivial rfl (do_call (sort_tri B x1 d2 (hdl _ ‹ok _›)) ⟨rfl, trivial⟩ enters_92 [1] [0, 2] ⟨rfl, trivial⟩ ⟨rfl, rfl, trivial⟩ (R := [_, _]) (by decide)) ?_
  rintro _ _ ⟨_, ⟨rfl, rfl⟩, rfl⟩
  refine wl_nil ?_
  refine at_then ?_
  refine wc_seq ?_
  refine wc_region ?_
  refine wl_1 trivial rfl (do_move rfl) ?_
  refine wl_1 trivial rfl (do_assign rfl) ?_
  refine wl_nil ?_
  refine at_then ?_
  refine wc_ret ?_
  refine at_pick (M := [_, _, _]) [1, 0, 2] ⟨rfl, rfl, rfl, trivial⟩ (by decide) ?_
  exact at_ret1 (M := [_, _]) rfl rfl ⟨_, d2, h3, rfl, rfl⟩ rfl

set_option maxRecDepth 100000 in
set_option maxHeartbeats 8000000 in
theorem mkeys73 (B : Ctx) (r : Nat) :
    Tri Try.prog B 73 #[.map (some r)] [] (fun u M => ∃ g, u = .func (.func 95) #[] #[.pointer (some ⟨g, 0, none⟩)] ∧ M = [pt g (.cells #[.map (some r)] 84 (0, 0))]) := by
  refine tri_body (n := 4) Try.func73 rfl rfl rfl ?_
  intro F
  show WC _ _ _ _ _ _ _ [(0, .map (some r))] [F]
  refine wc_seq ?_
  refine wc_region ?_
  refine wl_do trivial rfl (do_box rfl rfl) ?_
  rintro _ _ ⟨b1, rfl, rfl⟩
  refine wl_1 trivial rfl (do_assign rfl) ?_
  refine wl_nil ?_
  refine at_then ?_
  refine wc_seq ?_
  refine wc_region ?_
  refine wl_1 trivial rfl (do_makeFunc (vs := []) (us := [.pointer (some ⟨b1, 0, none⟩)]) trivial ⟨rfl, trivial⟩) ?_
  refine wl_1 trivial rfl (do_assign rfl) ?_
  refine wl_nil ?_
  refine at_then ?_
  refine wc_ret ?_
  exact at_ret1 (M := [_]) rfl rfl ⟨b1, rfl, rfl⟩ rfl

theorem sorted_keysf (B : Ctx) (g r : Nat) (lv : List (ByteArray × Value)) (hN : lv.length ≤ 2199023255552) :
    Tri Try.prog B 66 #[.func (.func 95) #[] #[.pointer (some ⟨g, 0, none⟩)]] [pt g (.cells #[.map (some r)] 84 (0, 0)), mapA encS r lv] (fun u M => ∃ x, x = u ∧ M = [pt g (.cells #[.map (some r)] 84 (0, 0)), mapA encS r lv] ++ [row 9 1 x lv.length ((sortB (akeys lv)).map .string)]) := by
  intro F w hS
  have hp : ∀ d : List ByteArray, d.Perm (akeys lv) → d.length = lv.length := fun d hd => by rw [hd.length_eq]; simp [akeys]
  refine Calls.mono (sorted_tri B 95 #[] #[.pointer (some ⟨g, 0, none⟩)] (Star [pt g (.cells #[.map (some r)] 84 (0, 0)), mapA encS r lv]) (fun d => d.Perm (akeys lv)) lv.length enters_95 (seq_star (As := [pt g (.cells #[.map (some r)] 84 (0, 0)), mapA encS r lv]) fun l J hJ => keysf B g r l lv J hJ) hN (fun d hd => by rw [hp d hd]; exact hN) F w (star_put (As := [pt g (.cells #[.map (some r)] 84 (0, 0)), mapA encS r lv]) (R := [F]) hS)) ?_
  rintro e w' ⟨v, M, rfl, ⟨x, d, hd, rfl, rfl⟩, hS'⟩
  refine ⟨x, _, rfl, ⟨x, rfl, rfl⟩, ?_⟩
  rw [sortB_perm hd, hp d hd] at hS'
  exact star_get (As := [pt g (.cells #[.map (some r)] 84 (0, 0)), mapA encS r lv]) (R := [row 9 1 x lv.length ((sortB (akeys lv)).map .string), F]) hS'
end Go.Proofs.Ytmefejfnddcelaa
