/- Printed by a program of this claim's: what each of these functions of the program does, as its theorem says. No condition but what stands in each theorem. -/
import Derived.Test.YtmefejfnddcelaaDe
namespace Go.Proofs.Ytmefejfnddcelaa
def fileD (s : DS) (i : Nat) : FileS := s.fs.getD i ⟨[], []⟩
theorem fileD_at {s : DS} {i : Nat} (h : i < s.fs.length) : s.fs[i]? = some (fileD s i) := by unfold fileD; rw [List.getD_eq_getElem?_getD, List.getElem?_eq_getElem h]; rfl
theorem DB.has {s : DS} {N : Nat} (h : DB s N) {k : ByteArray} {i : Nat} (hg : aget s.now k = some i) : i < s.fs.length := h.wn _ (aget_mem hg)
theorem DB.file {s : DS} {N : Nat} (h : DB s N) {i : Nat} (hi : i < s.fs.length) : (fileD s i).bytes.length ≤ N * 1048576 ∧ (fileD s i).pieces.length ≤ N := by
  have h1 : fileD s i ∈ s.fs := List.mem_of_getElem? (fileD_at hi)
  exact ⟨h.b1 _ h1, h.p1 _ h1⟩
def lenK (s : DS) (k : ByteArray) : Nat := match aget s.now k with | some i => (fileD s i).bytes.length | none => 0
theorem lenK_some {s : DS} {k : ByteArray} {i : Nat} (h : aget s.now k = some i) : lenK s k = (fileD s i).bytes.length := by unfold lenK; rw [h]
def usedS (s : DS) : Nat := ((sortB (akeys s.now)).map (lenK s)).sum
def sumK (s : DS) (l : List ByteArray) : Nat := (l.map (lenK s)).sum
theorem sumK_more {s : DS} {X : List ByteArray} {k : Nat} {y : ByteArray} (h : X[k]? = some y) : sumK s (X.take (k + 1)) = sumK s (X.take k) + lenK s y := by
  unfold sumK; rw [List.take_add_one, h]; simp
theorem DB.lenK {s : DS} {N : Nat} (h : DB s N) (k : ByteArray) : lenK s k ≤ N * 1048576 := by
  unfold Go.Proofs.Ytmefejfnddcelaa.lenK
  split
  · rename_i i hi; exact (h.file (h.has hi)).1
  · exact Nat.zero_le _
theorem DB.sumK {s : DS} {N : Nat} (h : DB s N) (hN : N ≤ 1000000) : ∀ (l : List ByteArray), l.length ≤ N → sumK s l ≤ 1048576000000000000 := by
  have key : ∀ l : List ByteArray, Go.Proofs.Ytmefejfnddcelaa.sumK s l ≤ l.length * (N * 1048576) := by
    intro l
    induction l with
    | nil => simp [Go.Proofs.Ytmefejfnddcelaa.sumK]
    | cons k l ih =>
      have h1 := h.lenK k
      have e : Go.Proofs.Ytmefejfnddcelaa.sumK s (k :: l) = Go.Proofs.Ytmefejfnddcelaa.lenK s k + Go.Proofs.Ytmefejfnddcelaa.sumK s l := by simp [Go.Proofs.Ytmefejfnddcelaa.sumK]
      rw [e, List.length_cons, Nat.add_mul]
      omega
  intro l hl
  refine Nat.le_trans (key l) ?_
  have h1 : N * 1048576 ≤ 1048576000000 := by omega
  exact Nat.le_trans (Nat.mul_le_mul (show l.length ≤ 1000000 by omega) h1) (by decide)
theorem in_now {s : DS} {k : ByteArray} (h : k ∈ sortB (akeys s.now)) : ∃ i, aget s.now k = some i := by
  have h1 : k ∈ akeys s.now := by
    have h2 : (sortB (akeys s.now)).Perm (akeys s.now) := by
      unfold sortB
      refine ((List.mergeSort_perm _ _).map _).trans ?_
      rw [List.map_map]
      have : ((fun l : List UInt8 => (⟨l.toArray⟩ : ByteArray)) ∘ fun k : ByteArray => k.data.toList) = id := by funext x; rfl
      rw [this, List.map_id]
    exact h2.mem_iff.1 h
  exact aget_some _ _ h1
theorem now_len (s : DS) : (sortB (akeys s.now)).length = s.now.length := by rw [sortB_len]; simp [akeys]
def readS (name : ByteArray) (s : DS) : Int × List UInt8 := if s.off then (9, []) else match aget s.now name with
  | some i => (0, (fileD s i).bytes)
  | none => (3, [])
theorem readS_off {name : ByteArray} {s : DS} (h : s.off = true) : readS name s = (9, []) := by unfold readS; rw [if_pos h]
theorem readS_none {name : ByteArray} {s : DS} (h : s.off = false) (hg : aget s.now name = none) : readS name s = (3, []) := by unfold readS; rw [if_neg (by simp [h]), hg]
theorem readS_some {name : ByteArray} {s : DS} {i : Nat} (h : s.off = false) (hg : aget s.now name = some i) : readS name s = (0, (fileD s i).bytes) := by unfold readS; rw [if_neg (by simp [h]), hg]
theorem may_off (B : Ctx) (d n su : Nat) (cv : Value) (fb : List Nat) (s : DS) (h : s.off = true) : Tri Try.prog B 80 #[.pointer (some ⟨d, 0, none⟩)] [pt d (.cells #[.int .i64 s.count, .bool s.done, .int .i64 s.fuse, .bool s.off, .int .i64 s.quota, .map (some n), .map (some su), cv] 87 (0, 0))] (fun u M => u = .int .i64 9 ∧ M = [pt d (.cells #[.int .i64 s.count, .bool s.done, .int .i64 s.fuse, .bool s.off, .int .i64 s.quota, .map (some n), .map (some su), cv] 87 (0, 0))]) := by
  have h1 := may_made B d n su cv s.count s.fuse s.quota s.done s.off
  rw [if_pos h] at h1; exact h1
theorem may_on (B : Ctx) (d n su : Nat) (cv : Value) (fb : List Nat) (s : DS) (h : s.off = false) : Tri Try.prog B 80 #[.pointer (some ⟨d, 0, none⟩)] [pt d (.cells #[.int .i64 s.count, .bool s.done, .int .i64 s.fuse, .bool s.off, .int .i64 s.quota, .map (some n), .map (some su), cv] 87 (0, 0))] (fun u M => u = .int .i64 0 ∧ M = [pt d (.cells #[.int .i64 s.count, .bool s.done, .int .i64 s.fuse, .bool s.off, .int .i64 s.quota, .map (some n), .map (some su), cv] 87 (0, 0))]) := by
  have h1 := may_made B d n su cv s.count s.fuse s.quota s.done s.off
  rw [if_neg (by simp [h])] at h1; exact h1
theorem enters_80 : Enters Try.prog 80 := enters_of Try.func80 (by kernel_rfl) (by kernel_rfl)
theorem enters_74 : Enters Try.prog 74 := enters_of Try.func74 (by kernel_rfl) (by kernel_rfl)
theorem enters_75 : Enters Try.prog 75 := enters_of Try.func75 (by kernel_rfl) (by kernel_rfl)
theorem enters_73 : Enters Try.prog 73 := enters_of Try.func73 (by kernel_rfl) (by kernel_rfl)
theorem enters_66 : Enters Try.prog 66 := enters_of Try.func66 (by kernel_rfl) (by kernel_rfl)
theorem enters_33 : Enters Try.prog 33 := enters_of Try.func33 (by kernel_rfl) (by kernel_rfl)
theorem fo_87_1 : fieldOk Try.prog 87 1 4 = true := by kernel_rfl
theorem enters_39 : Enters Try.prog 39 := enters_of Try.func39 (by kernel_rfl) (by kernel_rfl)
set_option maxRecDepth 100000 in
set_option maxHeartbeats 8000000 in
theorem get_off (B : Ctx) (d n su : Nat) (cv : Value) (fb : List Nat) (s : DS) (name : ByteArray) (hoff : s.off = true) :
    Tri Try.prog B 74 #[.pointer (some ⟨d, 0, none⟩), .string name] [pt d (.cells #[.int .i64 s.count, .bool s.done, .int .i64 s.fuse, .bool s.off, .int .i64 s.quota, .map (some n), .map (some su), cv] 87 (0, 0)), mapA encS n (pv fb s.now)] (fun u M => u = .tuple #[.pointer none, .int .i64 9] ∧ M = [pt d (.cells #[.int .i64 s.count, .bool s.done, .int .i64 s.fuse, .bool s.off, .int .i64 s.quota, .map (some n), .map (some su), cv] 87 (0, 0)), mapA encS n (pv fb s.now)]) := by
  refine tri_body (n := 26) Try.func74 rfl rfl rfl ?_
  intro F
  show WC _ _ _ _ _ _ _ [(0, .pointer (some ⟨d, 0, none⟩)), (1, .string name)] [pt d (.cells #[.int .i64 s.count, .bool s.done, .int .i64 s.fuse, .bool s.off, .int .i64 s.quota, .map (some n), .map (some su), cv] 87 (0, 0)), mapA encS n (pv fb s.now), F]
  refine wc_seq ?_
  refine wc_region ?_
  refine wl_1 trivial rfl (do_assign rfl) ?_
  refine wl_1 trivial rfl (do_assign rfl) ?_
  refine wl_nil ?_
  refine at_then ?_
  refine wc_seq ?_
  refine wc_seq ?_
  refine wc_region ?_
  refine wl_1 trivial rfl (do_move rfl) ?_
  refine wl_do trivial rfl (do_call (may_off B d n su cv fb s hoff) ⟨rfl, trivial⟩ enters_80 [0] [1, 2] ⟨rfl, trivial⟩ ⟨rfl, rfl, trivial⟩ (R := [_, _]) (by decide)) ?_
  rintro _ _ ⟨_, ⟨rfl, rfl⟩, rfl⟩
  refine wl_1 trivial rfl (do_assign rfl) ?_
  refine wl_nil ?_
  refine at_then ?_
  refine wc_seq ?_
  refine wc_region ?_
  refine wl_1 trivial rfl (do_move rfl) ?_
  refine wl_1 trivial rfl (do_cmp (c := true) rfl rfl rfl) ?_
  refine wl_nil ?_
  refine at_then ?_
  refine wc_true rfl ?_
  refine wc_seq ?_
  refine wc_region ?_
  refine wl_1 trivial rfl (do_move rfl) ?_
  refine wl_1 trivial rfl (do_assign rfl) ?_
  refine wl_1 trivial rfl (do_assign rfl) ?_
  refine wl_nil ?_
  refine at_then ?_
  refine wc_ret ?_
  refine at_then_ret ?_
  exact at_ret2 (M := [_, _]) rfl rfl rfl ⟨rfl, rfl⟩ rfl

set_option maxRecDepth 100000 in
set_option maxHeartbeats 8000000 in
theorem get_none (B : Ctx) (d n su : Nat) (cv : Value) (fb : List Nat) (s : DS) (name : ByteArray) (hoff : s.off = false) (hg : aget s.now name = none) :
    Tri Try.prog B 74 #[.pointer (some ⟨d, 0, none⟩), .string name] [pt d (.cells #[.int .i64 s.count, .bool s.done, .int .i64 s.fuse, .bool s.off, .int .i64 s.quota, .map (some n), .map (some su), cv] 87 (0, 0)), mapA encS n (pv fb s.now)] (fun u M => u = .tuple #[.pointer none, .int .i64 3] ∧ M = [pt d (.cells #[.int .i64 s.count, .bool s.done, .int .i64 s.fuse, .bool s.off, .int .i64 s.quota, .map (some n), .map (some su), cv] 87 (0, 0)), mapA encS n (pv fb s.now)]) := by
  refine tri_body (n := 26) Try.func74 rfl rfl rfl ?_
  intro F
  show WC _ _ _ _ _ _ _ [(0, .pointer (some ⟨d, 0, none⟩)), (1, .string name)] [pt d (.cells #[.int .i64 s.count, .bool s.done, .int .i64 s.fuse, .bool s.off, .int .i64 s.quota, .map (some n), .map (some su), cv] 87 (0, 0)), mapA encS n (pv fb s.now), F]
  have hx : aget (pv fb s.now) name = none := by rw [pv_get, hg]; rfl
  refine wc_seq ?_
  refine wc_region ?_
  refine wl_1 trivial rfl (do_assign rfl) ?_
  refine wl_1 trivial rfl (do_assign rfl) ?_
  refine wl_nil ?_
  refine at_then ?_
  refine wc_seq ?_
  refine wc_seq ?_
  refine wc_region ?_
  refine wl_1 trivial rfl (do_move rfl) ?_
  refine wl_do trivial rfl (do_call (may_on B d n su cv fb s hoff) ⟨rfl, trivial⟩ enters_80 [0] [1, 2] ⟨rfl, trivial⟩ ⟨rfl, rfl, trivial⟩ (R := [_, _]) (by decide)) ?_
  rintro _ _ ⟨_, ⟨rfl, rfl⟩, rfl⟩
  refine wl_1 trivial rfl (do_assign rfl) ?_
  refine wl_nil ?_
  refine at_then ?_
  refine wc_seq ?_
  refine wc_region ?_
  refine wl_1 trivial rfl (do_move rfl) ?_
  refine wl_1 trivial rfl (do_cmp (c := false) rfl rfl rfl) ?_
  refine wl_nil ?_
  refine at_then ?_
  refine wc_false rfl ?_
  refine wc_skip ?_
  refine at_then ?_
  refine wc_seq ?_
  refine wc_region ?_
  refine wl_1 trivial rfl (do_move rfl) ?_
  refine wl_1 trivial rfl (do_nilCheck rfl) ?_
  refine wl_1 trivial rfl (do_fieldAddr (k := 5) (k' := 5) fo_87_2 rfl (by rfl)) ?_
  refine wl_1 trivial rfl (do_load 0 rfl one_84 rfl rfl) ?_
  refine wl_1 trivial rfl (do_move rfl) ?_
  refine wl_1 trivial rfl (do_lookup2N und_84 key_9 zero_123 1 rfl rfl rfl hx) ?_
  refine wl_1 trivial rfl (do_move rfl) ?_
  refine wl_1 trivial rfl (do_extract rfl rfl) ?_
  refine wl_1 trivial rfl (do_extract rfl rfl) ?_
  refine wl_1 trivial rfl (do_assign rfl) ?_
  refine wl_1 trivial rfl (do_assign rfl) ?_
  refine wl_nil ?_
  refine at_then ?_
  refine wc_seq ?_
  refine wc_seq ?_
  refine wc_region ?_
  refine wl_1 trivial rfl (do_move rfl) ?_
  refine wl_1 trivial rfl (do_not (c := false) rfl) ?_
  refine wl_nil ?_
  refine at_then ?_
  refine wc_true rfl ?_
  refine wc_seq ?_
  refine wc_region ?_
  refine wl_1 trivial rfl (do_assign rfl) ?_
  refine wl_1 trivial rfl (do_assign rfl) ?_
  refine wl_nil ?_
  refine at_then ?_
  refine wc_ret ?_
  refine at_then_ret ?_
  exact at_ret2 (M := [_, _]) rfl rfl rfl ⟨rfl, rfl⟩ rfl

set_option maxRecDepth 100000 in
set_option maxHeartbeats 8000000 in
theorem get_some (B : Ctx) (d n su : Nat) (cv : Value) (fb : List Nat) (s : DS) (name : ByteArray) (i : Nat) (hoff : s.off = false) (hg : aget s.now name = some i) :
    Tri Try.prog B 74 #[.pointer (some ⟨d, 0, none⟩), .string name] [pt d (.cells #[.int .i64 s.count, .bool s.done, .int .i64 s.fuse, .bool s.off, .int .i64 s.quota, .map (some n), .map (some su), cv] 87 (0, 0)), mapA encS n (pv fb s.now)] (fun u M => u = .tuple #[ptF fb i, .int .i64 0] ∧ M = [pt d (.cells #[.int .i64 s.count, .bool s.done, .int .i64 s.fuse, .bool s.off, .int .i64 s.quota, .map (some n), .map (some su), cv] 87 (0, 0)), mapA encS n (pv fb s.now)]) := by
  refine tri_body (n := 26) Try.func74 rfl rfl rfl ?_
  intro F
  show WC _ _ _ _ _ _ _ [(0, .pointer (some ⟨d, 0, none⟩)), (1, .string name)] [pt d (.cells #[.int .i64 s.count, .bool s.done, .int .i64 s.fuse, .bool s.off, .int .i64 s.quota, .map (some n), .map (some su), cv] 87 (0, 0)), mapA encS n (pv fb s.now), F]
  have hx : aget (pv fb s.now) name = some (ptF fb i) := by rw [pv_get, hg]; rfl
  refine wc_seq ?_
  refine wc_region ?_
  refine wl_1 trivial rfl (do_assign rfl) ?_
  refine wl_1 trivial rfl (do_assign rfl) ?_
  refine wl_nil ?_
  refine at_then ?_
  refine wc_seq ?_
  refine wc_seq ?_
  refine wc_region ?_
  refine wl_1 trivial rfl (do_move rfl) ?_
  refine wl_do trivial rfl (do_call (may_on B d n su cv fb s hoff) ⟨rfl, trivial⟩ enters_80 [0] [1, 2] ⟨rfl, trivial⟩ ⟨rfl, rfl, trivial⟩ (R := [_, _]) (by decide)) ?_
  rintro _ _ ⟨_, ⟨rfl, rfl⟩, rfl⟩
  refine wl_1 trivial rfl (do_assign rfl) ?_
  refine wl_nil ?_
  refine at_then ?_
  refine wc_seq ?_
  refine wc_region ?_
  refine wl_1 trivial rfl (do_move rfl) ?_
  refine wl_1 trivial rfl (do_cmp (c := false) rfl rfl rfl) ?_
  refine wl_nil ?_
  refine at_then ?_
  refine wc_false rfl ?_
  refine wc_skip ?_
  refine at_then ?_
  refine wc_seq ?_
  refine wc_region ?_
  refine wl_1 trivial rfl (do_move rfl) ?_
  refine wl_1 trivial rfl (do_nilCheck rfl) ?_
  refine wl_1 trivial rfl (do_fieldAddr (k := 5) (k' := 5) fo_87_2 rfl (by rfl)) ?_
  refine wl_1 trivial rfl (do_load 0 rfl one_84 rfl rfl) ?_
  refine wl_1 trivial rfl (do_move rfl) ?_
  refine wl_1 trivial rfl (do_lookup2S und_84 key_9 zero_123 1 rfl rfl rfl hx) ?_
  refine wl_1 trivial rfl (do_move rfl) ?_
  refine wl_1 trivial rfl (do_extract rfl rfl) ?_
  refine wl_1 trivial rfl (do_extract rfl rfl) ?_
  refine wl_1 trivial rfl (do_assign rfl) ?_
  refine wl_1 trivial rfl (do_assign rfl) ?_
  refine wl_nil ?_
  refine at_then ?_
  refine wc_seq ?_
  refine wc_seq ?_
  refine wc_region ?_
  refine wl_1 trivial rfl (do_move rfl) ?_
  refine wl_1 trivial rfl (do_not (c := true) rfl) ?_
  refine wl_nil ?_
  refine at_then ?_
  refine wc_false rfl ?_
  refine wc_skip ?_
  refine at_then ?_
  refine wc_seq ?_
  refine wc_region ?_
  refine wl_1 trivial rfl (do_move rfl) ?_
  refine wl_1 trivial rfl (do_assign rfl) ?_
  refine wl_1 trivial rfl (do_assign rfl) ?_
  refine wl_nil ?_
  refine at_then ?_
  refine wc_ret ?_
  exact at_ret2 (M := [_, _]) rfl rfl rfl ⟨rfl, rfl⟩ rfl

set_option maxRecDepth 100000 in
set_option maxHeartbeats 8000000 in
theorem read_tri (B : Ctx) (d n su : Nat) (cv : Value) (fb : List Nat) (s : DS) (name : ByteArray) (N : Nat) (hs : DB s N) (hN : N ≤ 1000000) :
    Tri Try.prog B 34 #[.pointer (some ⟨d, 0, none⟩), .string name] [pt d (.cells #[.int .i64 s.count, .bool s.done, .int .i64 s.fuse, .bool s.off, .int .i64 s.quota, .map (some n), .map (some su), cv] 87 (0, 0)), mapA encS n (pv fb s.now), mapA encS su (pv fb s.sure), row 20 1 cv s.chg.length (s.chg.map (chgV fb)), filesA B fb s.fs] (fun u M => ∃ x, u = .tuple #[x, .int .i64 (readS name s).1] ∧ M = DL B d n su cv fb s ++ [row 5 1 x ((readS name s).2.length) (byv (readS name s).2)]) := by
  refine tri_body (n := 19) Try.func34 rfl rfl rfl ?_
  intro F
  show WC _ _ _ _ _ _ _ [(0, .pointer (some ⟨d, 0, none⟩)), (1, .string name)] [pt d (.cells #[.int .i64 s.count, .bool s.done, .int .i64 s.fuse, .bool s.off, .int .i64 s.quota, .map (some n), .map (some su), cv] 87 (0, 0)), mapA encS n (pv fb s.now), mapA encS su (pv fb s.sure), row 20 1 cv s.chg.length (s.chg.map (chgV fb)), filesA B fb s.fs, F]
  have hs0 := hs
  refine wc_seq ?_
  refine wc_region ?_
  refine wl_1 trivial rfl (do_assign rfl) ?_
  refine wl_1 trivial rfl (do_assign rfl) ?_
  refine wl_nil ?_
  refine at_then ?_
  refine wc_seq ?_
  refine wc_region ?_
  refine wl_1 trivial rfl (do_move rfl) ?_
  refine wl_1 trivial rfl (do_move rfl) ?_
  rcases (Bool.eq_false_or_eq_true s.off).symm with hb1 | hb1
  · skip
    rcases hg2 : aget s.now name with _ | v3
    · skip
      refine wl_do trivial rfl (do_call (get_none B d n su cv fb s name hb1 hg2) ⟨rfl, rfl, trivial⟩ enters_74 [0, 1] [2, 3, 4, 5] ⟨rfl, rfl, trivial⟩ ⟨rfl, rfl, rfl, rfl, trivial⟩ (R := [_, _, _, _]) (by decide)) ?_
      rintro _ _ ⟨_, ⟨rfl, rfl⟩, rfl⟩
      refine wl_1 trivial rfl (do_move rfl) ?_
      refine wl_1 trivial rfl (do_extract rfl rfl) ?_
      refine wl_1 trivial rfl (do_extract rfl rfl) ?_
      refine wl_1 trivial rfl (do_assign rfl) ?_
      refine wl_1 trivial rfl (do_assign rfl) ?_
      refine wl_nil ?_
      refine at_then ?_
      refine wc_seq ?_
      refine wc_seq ?_
      refine wc_region ?_
      refine wl_1 trivial rfl (do_move rfl) ?_
      refine wl_1 trivial rfl (do_cmp (c := true) rfl rfl rfl) ?_
      refine wl_nil ?_
      refine at_then ?_
      refine wc_true rfl ?_
      refine wc_seq ?_
      refine wc_region ?_
      refine wl_1 trivial rfl (do_move rfl) ?_
      refine wl_1 trivial rfl (do_assign rfl) ?_
      refine wl_1 trivial rfl (do_assign rfl) ?_
      refine wl_nil ?_
      refine at_then ?_
      refine wc_ret ?_
      refine at_then_ret ?_
      refine at_mem (L' := [row 5 1 (.slice none 0 0) 0 ([]), pt d (.cells #[.int .i64 s.count, .bool s.done, .int .i64 s.fuse, .bool s.off, .int .i64 s.quota, .map (some n), .map (some su), cv] 87 (0, 0)), mapA encS n (pv fb s.now), mapA encS su (pv fb s.sure), row 20 1 cv s.chg.length (s.chg.map (chgV fb)), filesA B fb s.fs, F]) (fun w_ h_ => h_.intro row_nil) ?_
      refine at_pick (M := [_, _, _, _, _, _, _]) [1, 2, 3, 4, 5, 0, 6] ⟨rfl, rfl, rfl, rfl, rfl, rfl, rfl, trivial⟩ (by decide) ?_
      exact at_ret2 (M := [_, _, _, _, _, _]) rfl rfl rfl ⟨.slice none 0 0, by rw [readS_none hb1 hg2], by rw [readS_none hb1 hg2]; rfl⟩ rfl
    · skip
      refine wl_do trivial rfl (do_call (get_some B d n su cv fb s name v3 hb1 hg2) ⟨rfl, rfl, trivial⟩ enters_74 [0, 1] [2, 3, 4, 5] ⟨rfl, rfl, trivial⟩ ⟨rfl, rfl, rfl, rfl, trivial⟩ (R := [_, _, _, _]) (by decide)) ?_
      rintro _ _ ⟨_, ⟨rfl, rfl⟩, rfl⟩
      refine wl_1 trivial rfl (do_move rfl) ?_
      refine wl_1 trivial rfl (do_extract rfl rfl) ?_
      refine wl_1 trivial rfl (do_extract rfl rfl) ?_
      refine wl_1 trivial rfl (do_assign rfl) ?_
      refine wl_1 trivial rfl (do_assign rfl) ?_
      refine wl_nil ?_
      refine at_then ?_
      refine wc_seq ?_
      refine wc_seq ?_
      refine wc_region ?_
      refine wl_1 trivial rfl (do_move rfl) ?_
      refine wl_1 trivial rfl (do_cmp (c := false) rfl rfl rfl) ?_
      refine wl_nil ?_
      refine at_then ?_
      refine wc_false rfl ?_
      refine wc_skip ?_
      refine at_then ?_
      refine wc_seq ?_
      refine wc_region ?_
      refine wl_1 trivial rfl (do_move rfl) ?_
      refine wl_do trivial rfl (do_call (bytes_at B fb s.fs v3 (fileD s v3) (fileD_at (hs0.has hg2)) (by have := (hs0.file (hs0.has hg2)).2; omega) (by have := (hs0.file (hs0.has hg2)).1; omega)) ⟨rfl, trivial⟩ enters_75 [4] [0, 1, 2, 3, 5] ⟨rfl, trivial⟩ ⟨rfl, rfl, rfl, rfl, rfl, trivial⟩ (R := [_, _, _, _, _]) (by decide)) ?_
      rintro _ _ ⟨_, ⟨x4, rfl, rfl⟩, rfl⟩
      refine wl_1 trivial rfl (do_assign rfl) ?_
      refine wl_1 trivial rfl (do_assign rfl) ?_
      refine wl_nil ?_
      refine at_then ?_
      refine wc_ret ?_
      refine at_pick (M := [_, _, _, _, _, _, _]) [2, 3, 4, 5, 0, 1, 6] ⟨rfl, rfl, rfl, rfl, rfl, rfl, rfl, trivial⟩ (by decide) ?_
      exact at_ret2 (M := [_, _, _, _, _, _]) rfl rfl rfl ⟨x4, by rw [readS_some hb1 hg2], by rw [readS_some hb1 hg2]; rfl⟩ rfl
  · skip
    refine wl_do trivial rfl (do_call (get_off B d n su cv fb s name hb1) ⟨rfl, rfl, trivial⟩ enters_74 [0, 1] [2, 3, 4, 5] ⟨rfl, rfl, trivial⟩ ⟨rfl, rfl, rfl, rfl, trivial⟩ (R := [_, _, _, _]) (by decide)) ?_
    rintro _ _ ⟨_, ⟨rfl, rfl⟩, rfl⟩
    refine wl_1 trivial rfl (do_move rfl) ?_
    refine wl_1 trivial rfl (do_extract rfl rfl) ?_
    refine wl_1 trivial rfl (do_extract rfl rfl) ?_
    refine wl_1 trivial rfl (do_assign rfl) ?_
    refine wl_1 trivial rfl (do_assign rfl) ?_
    refine wl_nil ?_
    refine at_then ?_
    refine wc_seq ?_
    refine wc_seq ?_
    refine wc_region ?_
    refine wl_1 trivial rfl (do_move rfl) ?_
    refine wl_1 trivial rfl (do_cmp (c := true) rfl rfl rfl) ?_
    refine wl_nil ?_
    refine at_then ?_
    refine wc_true rfl ?_
    refine wc_seq ?_
    refine wc_region ?_
    refine wl_1 trivial rfl (do_move rfl) ?_
    refine wl_1 trivial rfl (do_assign rfl) ?_
    refine wl_1 trivial rfl (do_assign rfl) ?_
    refine wl_nil ?_
    refine at_then ?_
    refine wc_ret ?_
    refine at_then_ret ?_
    refine at_mem (L' := [row 5 1 (.slice none 0 0) 0 ([]), pt d (.cells #[.int .i64 s.count, .bool s.done, .int .i64 s.fuse, .bool s.off, .int .i64 s.quota, .map (some n), .map (some su), cv] 87 (0, 0)), mapA encS n (pv fb s.now), mapA encS su (pv fb s.sure), row 20 1 cv s.chg.length (s.chg.map (chgV fb)), filesA B fb s.fs, F]) (fun w_ h_ => h_.intro row_nil) ?_
    refine at_pick (M := [_, _, _, _, _, _, _]) [1, 2, 3, 4, 5, 0, 6] ⟨rfl, rfl, rfl, rfl, rfl, rfl, rfl, trivial⟩ (by decide) ?_
    exact at_ret2 (M := [_, _, _, _, _, _]) rfl rfl rfl ⟨.slice none 0 0, by rw [readS_off hb1], by rw [readS_off hb1]; rfl⟩ rfl

set_option maxRecDepth 100000 in
set_option maxHeartbeats 8000000 in
theorem list_tri (B : Ctx) (d n su : Nat) (cv : Value) (fb : List Nat) (s : DS) (N : Nat) (hs : DB s N) (hN : N ≤ 1000000) :
    Tri Try.prog B 33 #[.pointer (some ⟨d, 0, none⟩)] [pt d (.cells #[.int .i64 s.count, .bool s.done, .int .i64 s.fuse, .bool s.off, .int .i64 s.quota, .map (some n), .map (some su), cv] 87 (0, 0)), mapA encS n (pv fb s.now)] (fun u M => ∃ x, x = u ∧ M = [pt d (.cells #[.int .i64 s.count, .bool s.done, .int .i64 s.fuse, .bool s.off, .int .i64 s.quota, .map (some n), .map (some su), cv] 87 (0, 0)), mapA encS n (pv fb s.now), row 9 1 x s.now.length ((sortB (akeys s.now)).map .string)]) := by
  refine tri_body (n := 11) Try.func33 rfl rfl rfl ?_
  intro F
  show WC _ _ _ _ _ _ _ [(0, .pointer (some ⟨d, 0, none⟩))] [pt d (.cells #[.int .i64 s.count, .bool s.done, .int .i64 s.fuse, .bool s.off, .int .i64 s.quota, .map (some n), .map (some su), cv] 87 (0, 0)), mapA encS n (pv fb s.now), F]
  obtain ⟨hwn, hws, hwc, hf1, hn1, hc1, hb1, hp1, hq0, hq1, hk0, hk1, hu0, hu1, hnn, hns⟩ := hs
  refine wc_seq ?_
  refine wc_region ?_
  refine wl_1 trivial rfl (do_assign rfl) ?_
  refine wl_nil ?_
  refine at_then ?_
  refine wc_seq ?_
  refine wc_seq ?_
  refine wc_region ?_
  refine wl_1 trivial rfl (do_move rfl) ?_
  refine wl_do trivial rfl (do_call (none_made B d n su cv s.count s.fuse s.quota s.done s.off) ⟨rfl, trivial⟩ enters_72 [0] [1, 2] ⟨rfl, trivial⟩ ⟨rfl, rfl, trivial⟩ (R := [_, _]) (by decide)) ?_
  rintro _ _ ⟨_, ⟨rfl, rfl⟩, rfl⟩
  refine wl_nil ?_
  refine at_then ?_
  refine wc_false rfl ?_
  refine wc_skip ?_
  refine at_then ?_
  refine wc_seq ?_
  refine wc_region ?_
  refine wl_1 trivial rfl (do_move rfl) ?_
  refine wl_1 trivial rfl (do_nilCheck rfl) ?_
  refine wl_1 trivial rfl (do_fieldAddr (k := 5) (k' := 5) fo_87_2 rfl (by rfl)) ?_
  refine wl_1 trivial rfl (do_load 0 rfl one_84 rfl rfl) ?_
  refine wl_do trivial rfl (do_call (mkeys73 B n) ⟨rfl, trivial⟩ enters_73 [] [0, 1, 2] trivial ⟨rfl, rfl, rfl, trivial⟩ (R := [_, _, _]) (by decide)) ?_
  rintro _ _ ⟨_, ⟨g1, rfl, rfl⟩, rfl⟩
  refine wl_do trivial rfl (do_call (sorted_keysf B g1 n (pv fb s.now) ((by rw [pv_len]; omega))) ⟨rfl, trivial⟩ enters_66 [0, 2] [1, 3] ⟨rfl, rfl, trivial⟩ ⟨rfl, rfl, trivial⟩ (R := [_, _]) (by decide)) ?_
  rintro _ _ ⟨_, ⟨x2, rfl, rfl⟩, rfl⟩
  refine wl_1 trivial rfl (do_assign rfl) ?_
  refine wl_nil ?_
  refine at_then ?_
  refine wc_ret ?_
  refine at_pick (M := [_, _, _, _]) [3, 1, 2, 4] ⟨rfl, rfl, rfl, rfl, trivial⟩ (by decide) ?_
  exact at_ret1 (M := [_, _, _]) rfl rfl ⟨_, rfl, by rw [pv_keys, pv_len]⟩ rfl

set_option maxRecDepth 100000 in
set_option maxHeartbeats 8000000 in
theorem used_tri (B : Ctx) (d n su : Nat) (cv : Value) (fb : List Nat) (s : DS) (N : Nat) (hs : DB s N) (hN : N ≤ 1000000) :
    Tri Try.prog B 39 #[.pointer (some ⟨d, 0, none⟩)] [pt d (.cells #[.int .i64 s.count, .bool s.done, .int .i64 s.fuse, .bool s.off, .int .i64 s.quota, .map (some n), .map (some su), cv] 87 (0, 0)), mapA encS n (pv fb s.now), filesA B fb s.fs] (fun u M => u = .int .i64 ((usedS s : Nat) : Int) ∧ M = [pt d (.cells #[.int .i64 s.count, .bool s.done, .int .i64 s.fuse, .bool s.off, .int .i64 s.quota, .map (some n), .map (some su), cv] 87 (0, 0)), mapA encS n (pv fb s.now), filesA B fb s.fs]) := by
  refine tri_body (n := 25) Try.func39 rfl rfl rfl ?_
  intro F
  show WC _ _ _ _ _ _ _ [(0, .pointer (some ⟨d, 0, none⟩))] [pt d (.cells #[.int .i64 s.count, .bool s.done, .int .i64 s.fuse, .bool s.off, .int .i64 s.quota, .map (some n), .map (some su), cv] 87 (0, 0)), mapA encS n (pv fb s.now), filesA B fb s.fs, F]
  have hs0 := hs
  obtain ⟨hwn, hws, hwc, hf1, hn1, hc1, hb1, hp1, hq0, hq1, hk0, hk1, hu0, hu1, hnn, hns⟩ := hs
  refine wc_seq ?_
  refine wc_region ?_
  refine wl_1 trivial rfl (do_assign rfl) ?_
  refine wl_nil ?_
  refine at_then ?_
  refine wc_seq ?_
  refine wc_region ?_
  refine wl_1 trivial rfl (do_assign rfl) ?_
  refine wl_nil ?_
  refine at_then ?_
  refine wc_seq ?_
  refine wc_seq ?_
  refine wc_region ?_
  refine wl_1 trivial rfl (do_move rfl) ?_
  refine wl_do trivial rfl (do_call (list_tri B d n su cv fb s N hs0 hN) ⟨rfl, trivial⟩ enters_33 [0, 1] [2, 3] ⟨rfl, rfl, trivial⟩ ⟨rfl, rfl, trivial⟩ (R := [_, _]) (by decide)) ?_
  rintro _ _ ⟨_, ⟨x1, rfl, rfl⟩, rfl⟩
  refine wl_1 trivial rfl (do_lenRow 2 rfl isSlice_39 rfl rfl) ?_
  refine wl_1 trivial rfl (do_move rfl) ?_
  refine wl_nil ?_
  refine at_then ?_
  refine wc_block ?_
  refine wc_mem (fun w_ h_ => h_.pick (M := [pt d (.cells #[.int .i64 s.count, .bool s.done, .int .i64 s.fuse, .bool s.off, .int .i64 s.quota, .map (some n), .map (some su), cv] 87 (0, 0)), mapA encS n (pv fb s.now), filesA B fb s.fs, row 9 1 x1 s.now.length ((sortB (akeys s.now)).map .string), F]) [0, 1, 3, 2, 4] ⟨rfl, rfl, rfl, rfl, rfl, trivial⟩ (by decide)) ?_
  refine wc_loop (fun (k : Nat) => k ≤ s.now.length ∧ True) (fun (k : Nat) => [(0, .pointer (some ⟨d, 0, none⟩)), (2, .int .i64 0), (3, .int .i64 ((sumK s ((sortB (akeys s.now)).take k) : Nat) : Int)), (7, x1), (8, .int .i64 ((s.now.length : Nat) : Int)), (9, .int .i64 ((k : Nat) : Int))]) (fun (k : Nat) => [pt d (.cells #[.int .i64 s.count, .bool s.done, .int .i64 s.fuse, .bool s.off, .int .i64 s.quota, .map (some n), .map (some su), cv] 87 (0, 0)), mapA encS n (pv fb s.now), filesA B fb s.fs, row 9 1 x1 s.now.length ((sortB (akeys s.now)).map .string), F]) (fun (k : Nat) => s.now.length - k) 0 ⟨Nat.zero_le _, trivial⟩ ⟨rfl, rfl, rfl, rfl, rfl, rfl, trivial⟩ rfl ?_
  rintro k hphi
  obtain ⟨hk, _⟩ := hphi
  show WC _ _ _ _ _ _ _ [(0, .pointer (some ⟨d, 0, none⟩)), (2, .int .i64 0), (3, .int .i64 ((sumK s ((sortB (akeys s.now)).take k) : Nat) : Int)), (7, x1), (8, .int .i64 ((s.now.length : Nat) : Int)), (9, .int .i64 ((k : Nat) : Int))] [pt d (.cells #[.int .i64 s.count, .bool s.done, .int .i64 s.fuse, .bool s.off, .int .i64 s.quota, .map (some n), .map (some su), cv] 87 (0, 0)), mapA encS n (pv fb s.now), filesA B fb s.fs, row 9 1 x1 s.now.length ((sortB (akeys s.now)).map .string), F]
  have hsl := now_len s
  have hsm := hs0.sumK hN ((sortB (akeys s.now)).take k) (by rw [List.length_take]; omega)
  have hsm1 := hs0.sumK hN ((sortB (akeys s.now)).take (k + 1)) (by rw [List.length_take]; omega)
  refine wc_seq ?_
  refine wc_region ?_
  obtain ⟨c2, h_c2⟩ : ∃ c : Bool, cmpB .lss ((k : Nat) : Int) ((s.now.length : Nat) : Int) = some c := ⟨_, rfl⟩
  refine wl_1 trivial rfl (do_cmp rfl rfl h_c2) ?_
  refine wl_nil ?_
  refine at_then ?_
  refine wc_seq ?_
  cases c2
  · have p_c2 := cmp_lss_f h_c2
    refine wc_false rfl ?_
    refine wc_exit ?_
    refine at_then_exit ?_
    refine at_then_exit ?_
    refine at_block_it ?_
    refine at_then ?_
    refine wc_seq ?_
    refine wc_region ?_
    refine wl_1 trivial rfl (do_move rfl) ?_
    refine wl_1 trivial rfl (do_assign rfl) ?_
    refine wl_nil ?_
    refine at_then ?_
    refine wc_ret ?_
    refine at_pick (M := [_, _, _, _]) [0, 1, 2, 4] ⟨rfl, rfl, rfl, rfl, trivial⟩ (by decide) ?_
    exact at_ret1 (M := [_, _, _]) rfl rfl ⟨by rw [List.take_of_length_le (show (sortB (akeys s.now)).length ≤ k by rw [now_len]; omega)]; rfl, rfl⟩ rfl
  · have p_c2 := cmp_lss_t h_c2
    refine wc_true rfl ?_
    refine wc_skip ?_
    refine at_then ?_
    refine wc_seq ?_
    refine wc_block ?_
    refine wc_seq ?_
    refine wc_region ?_
    refine wl_fact 3 rfl (row_some (by omega)) ?_
    rintro ⟨g3, cap4, rfl⟩
    refine wl_1 trivial rfl (do_indexAddr (j := k) (p := k) und_39 ty_9 rfl rfl rfl (by omega) (by omega)) ?_
    obtain ⟨y5, hy6⟩ : ∃ y, (sortB (akeys s.now))[k]? = some y := ⟨_, List.getElem?_eq_getElem (by omega)⟩
    obtain ⟨iu, hiu⟩ := in_now (List.mem_of_getElem? hy6)
    rw [sumK_more hy6, lenK_some hiu] at hsm1
    refine wl_1 trivial rfl (do_loadR (j := k) 3 rfl one_9 rfl row_R (by omega) (str_at hy6)) ?_
    refine wl_1 trivial rfl (do_assign rfl) ?_
    refine wl_nil ?_
    refine at_then ?_
    refine wc_region ?_
    refine wl_1 trivial rfl (do_move rfl) ?_
    refine wl_1 trivial rfl (do_move rfl) ?_
    refine wl_1 trivial rfl (do_nilCheck rfl) ?_
    refine wl_1 trivial rfl (do_fieldAddr (k := 5) (k' := 5) fo_87_2 rfl (by rfl)) ?_
    refine wl_1 trivial rfl (do_load 0 rfl one_84 rfl rfl) ?_
    refine wl_1 trivial rfl (do_move rfl) ?_
    refine wl_1 trivial rfl (do_lookup1S und_84 key_9 zero_123 1 rfl rfl rfl (by rw [pv_get, hiu]; rfl)) ?_
    refine wl_do trivial rfl (do_call (bytes_at B fb s.fs iu (fileD s iu) (fileD_at (hs0.has hiu)) (by have := (hs0.file (hs0.has hiu)).2; omega) (by have := (hs0.file (hs0.has hiu)).1; omega)) ⟨rfl, trivial⟩ enters_75 [2] [0, 1, 3, 4] ⟨rfl, trivial⟩ ⟨rfl, rfl, rfl, rfl, trivial⟩ (R := [_, _, _, _]) (by decide)) ?_
    rintro _ _ ⟨_, ⟨x7, rfl, rfl⟩, rfl⟩
    refine wl_1 trivial rfl (do_lenRow 1 rfl isSlice_32 rfl rfl) ?_
    refine wl_1 trivial rfl (do_add (r := (((sumK s ((sortB (akeys s.now)).take k)) + ((fileD s iu).bytes.length) : Nat) : Int)) rfl rfl (wrap_nat (by omega) (by omega))) ?_
    refine wl_1 trivial rfl (do_assign rfl) ?_
    refine wl_nil ?_
    refine at_block ?_
    refine at_then ?_
    refine wc_region ?_
    refine wl_1 trivial rfl (do_add (r := ((k + 1 : Nat) : Int)) rfl rfl (wrap_nat (by omega) (by omega))) ?_
    refine wl_1 trivial rfl (do_move rfl) ?_
    refine wl_nil ?_
    refine at_pick (M := [_, _, _, _, _]) [2, 3, 0, 4, 5] ⟨rfl, rfl, rfl, rfl, rfl, trivial⟩ (by decide) ?_
    rw [show ((sumK s ((sortB (akeys s.now)).take k) + (fileD s iu).bytes.length : Nat)) = sumK s ((sortB (akeys s.now)).take (k + 1)) by rw [sumK_more hy6, lenK_some hiu]]
    exact at_round (k + 1) ⟨by omega, trivial⟩ (by omega) ⟨rfl, rfl, rfl, rfl, rfl, rfl, trivial⟩ rfl

theorem used_le {s : DS} {N : Nat} (h : DB s N) (hN : N ≤ 1000000) : usedS s ≤ 1048576000000000000 := h.sumK hN _ (by rw [now_len]; exact h.n1)

set_option maxRecDepth 100000 in
set_option maxHeartbeats 8000000 in
theorem free_tri (B : Ctx) (d n su : Nat) (cv : Value) (fb : List Nat) (s : DS) (N : Nat) (hs : DB s N) (hN : N ≤ 1000000) :
    Tri Try.prog B 46 #[.pointer (some ⟨d, 0, none⟩)] [pt d (.cells #[.int .i64 s.count, .bool s.done, .int .i64 s.fuse, .bool s.off, .int .i64 s.quota, .map (some n), .map (some su), cv] 87 (0, 0)), mapA encS n (pv fb s.now), filesA B fb s.fs] (fun u M => u = .int .i64 (s.quota - ((usedS s : Nat) : Int)) ∧ M = [pt d (.cells #[.int .i64 s.count, .bool s.done, .int .i64 s.fuse, .bool s.off, .int .i64 s.quota, .map (some n), .map (some su), cv] 87 (0, 0)), mapA encS n (pv fb s.now), filesA B fb s.fs]) := by
  refine tri_body (n := 12) Try.func46 rfl rfl rfl ?_
  intro F
  show WC _ _ _ _ _ _ _ [(0, .pointer (some ⟨d, 0, none⟩))] [pt d (.cells #[.int .i64 s.count, .bool s.done, .int .i64 s.fuse, .bool s.off, .int .i64 s.quota, .map (some n), .map (some su), cv] 87 (0, 0)), mapA encS n (pv fb s.now), filesA B fb s.fs, F]
  have hs0 := hs
  obtain ⟨hwn, hws, hwc, hf1, hn1, hc1, hb1, hp1, hq0, hq1, hk0, hk1, hu0, hu1, hnn, hns⟩ := hs
  have hul := used_le hs0 hN
  refine wc_seq ?_
  refine wc_region ?_
  refine wl_1 trivial rfl (do_assign rfl) ?_
  refine wl_nil ?_
  refine at_then ?_
  refine wc_seq ?_
  refine wc_seq ?_
  refine wc_region ?_
  refine wl_1 trivial rfl (do_move rfl) ?_
  refine wl_do trivial rfl (do_call (none_made B d n su cv s.count s.fuse s.quota s.done s.off) ⟨rfl, trivial⟩ enters_72 [0] [1, 2, 3] ⟨rfl, trivial⟩ ⟨rfl, rfl, rfl, trivial⟩ (R := [_, _, _]) (by decide)) ?_
  rintro _ _ ⟨_, ⟨rfl, rfl⟩, rfl⟩
  refine wl_nil ?_
  refine at_then ?_
  refine wc_false rfl ?_
  refine wc_skip ?_
  refine at_then ?_
  refine wc_seq ?_
  refine wc_draw [[], [0], [0, 1], [0, 1, 2], [], [4], [0, 1, 2, 3, 4, 5], [0, 1, 2, 3, 4, 5, 6]] [some (.pointer (some ⟨d, 0, none⟩)), some (.pointer (some ⟨d, 0, none⟩)), some (.pointer (some ⟨d, 4, none⟩)), some (.int .i64 s.quota), some (.pointer (some ⟨d, 0, none⟩)), none, none, none] [5] mixed (by kernel_rfl) (by decide) ⟨rfl, rfl, ⟨.inr ⟨_, [.old 0], rfl, rfl, .inl ⟨trivial, do_move rfl⟩⟩, .inr ⟨_, [.op 0], rfl, rfl, .inl ⟨trivial, do_nilCheck rfl⟩⟩, .inr ⟨_, [.op 1], rfl, rfl, .inl ⟨trivial, do_fieldAddr (k := 4) (k' := 4) fo_87_1 rfl (by rfl)⟩⟩, .inr ⟨_, [.op 2], rfl, rfl, .inl ⟨trivial, do_load 0 rfl one_3 rfl rfl⟩⟩, .inr ⟨_, [.old 0], rfl, rfl, .inl ⟨trivial, do_move rfl⟩⟩, trivial⟩, _, [.op 4], _, rfl, rfl, trivial, do_call (used_tri B d n su cv fb s N hs0 hN) ⟨rfl, trivial⟩ enters_39 [0, 1, 2] [3] ⟨rfl, rfl, rfl, trivial⟩ ⟨rfl, trivial⟩ (R := [_]) (by decide), ?_⟩
  rintro _ _ ⟨_, ⟨rfl, rfl⟩, rfl⟩
  refine ⟨[some (.pointer (some ⟨d, 0, none⟩)), some (.pointer (some ⟨d, 0, none⟩)), some (.pointer (some ⟨d, 4, none⟩)), some (.int .i64 s.quota), some (.pointer (some ⟨d, 0, none⟩)), some (.int .i64 ((usedS s : Nat) : Int)), some (.int .i64 (s.quota - ((usedS s : Nat) : Int))), some (.int .i64 (s.quota - ((usedS s : Nat) : Int)))], more_mk ⟨rfl, rfl, rfl, rfl, rfl, trivial⟩ rfl, ?_⟩
  refine ⟨rfl, ⟨.inr ⟨_, [.old 0], rfl, rfl, .inl ⟨trivial, do_move rfl⟩⟩, .inr ⟨_, [.op 0], rfl, rfl, .inl ⟨trivial, do_nilCheck rfl⟩⟩, .inr ⟨_, [.op 1], rfl, rfl, .inl ⟨trivial, do_fieldAddr (k := 4) (k' := 4) fo_87_1 rfl (by rfl)⟩⟩, .inr ⟨_, [.op 2], rfl, rfl, .inl ⟨trivial, do_load 0 rfl one_3 rfl rfl⟩⟩, .inl rfl, .inl rfl, .inr ⟨_, [.op 3, .op 5], rfl, rfl, .inl ⟨trivial, do_sub (r := s.quota - ((usedS s : Nat) : Int)) rfl rfl (wrap_i64 (by omega) (by omega))⟩⟩, .inr ⟨_, [.op 6], rfl, rfl, .inl ⟨trivial, do_assign rfl⟩⟩, trivial⟩, [.op 7], [(2, .int .i64 (s.quota - ((usedS s : Nat) : Int)))], rfl, rfl, ?_⟩
  refine at_then ?_
  refine wc_ret ?_
  exact at_ret1 (M := [_, _, _]) rfl rfl ⟨rfl, rfl⟩ rfl
end Go.Proofs.Ytmefejfnddcelaa
