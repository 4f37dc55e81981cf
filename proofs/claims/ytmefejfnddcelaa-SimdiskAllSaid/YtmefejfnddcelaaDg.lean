/- Printed by a program of this claim's: what each of these functions of the program does, as its theorem says. No condition but what stands in each theorem. -/
import Derived.Test.YtmefejfnddcelaaDf
namespace Go.Proofs.Ytmefejfnddcelaa
theorem clone_one (B : Ctx) (R : Assn) (v : Value) (bs : List UInt8) (hR : Rd B R 1 v bs.length (byv bs)) (hl : bs.length ≤ 140737488351232) :
    Tri Try.prog B 68 #[v] [R] (fun u M => ∃ x, x = u ∧ M = [R, row 5 1 x bs.length (byv bs)] ∧ x.oneCell' = true) :=
  tri_posts (clone_tri B R v bs hR hl) fun u M F w ⟨x, h1, h2⟩ hS => ⟨M, ⟨x, h1, h2, by subst h2; exact sat_fact (L := [R, row 5 1 x bs.length (byv bs)] ++ [F]) hS 1 rfl row_one⟩, hS⟩
theorem bytes_one (B : Ctx) (fb : List Nat) (fs : List FileS) (i : Nat) (f : FileS) (hi : fs[i]? = some f) (hbl : f.pieces.length ≤ 1099511627775) (hT : f.bytes.length ≤ 1099511627776) :
    Tri Try.prog B 75 #[ptF fb i] [filesA B fb fs] (fun u M => ∃ x, x = u ∧ M = [filesA B fb fs, row 5 1 x f.bytes.length (byv f.bytes)] ∧ x.oneCell' = true) :=
  tri_posts (bytes_at B fb fs i f hi hbl hT) fun u M F w ⟨x, h1, h2⟩ hS => ⟨M, ⟨x, h1, h2, by subst h2; exact sat_fact (L := [filesA B fb fs, row 5 1 x f.bytes.length (byv f.bytes)] ++ [F]) hS 1 rfl row_one⟩, hS⟩
theorem DL_mk {B : Ctx} {d n su : Nat} {cv : Value} {fb : List Nat} {s : DS} {fs : List FileS} {now sure : List (ByteArray × Nat)} {chg : List ChgD} (h1 : s.fs = fs) (h2 : s.now = now) (h3 : s.sure = sure) (h4 : s.chg = chg) :
    [pt d (.cells #[.int .i64 s.count, .bool s.done, .int .i64 s.fuse, .bool s.off, .int .i64 s.quota, .map (some n), .map (some su), cv] 87 (0, 0)), mapA encS n (pv fb now), mapA encS su (pv fb sure), row 20 1 cv chg.length (chg.map (chgV fb)), filesA B fb fs] = DL B d n su cv fb s := by subst h1 h2 h3 h4; rfl
def createS (name : ByteArray) (s : DS) : Int × DS :=
  if s.off then (9, s) else if rightB name = false then (1, s) else if (aget s.now name).isSome then (4, s) else if 512 ≤ s.now.length then (7, s) else
  ((opS s).1, if (opS s).2.1 then { (opS s).2.2 with fs := s.fs ++ [⟨[], []⟩], now := doC s.now (.made name s.fs.length), chg := s.chg ++ [.made name s.fs.length] } else (opS s).2.2)
def appendS (name : ByteArray) (bs : List UInt8) (s : DS) : Int × DS :=
  if s.off then (9, s) else match aget s.now name with
  | none => (3, s)
  | some i => if s.quota - ((usedS s : Nat) : Int) < (bs.length : Int) then (7, s) else
    ((opS s).1, if (opS s).2.1 then (if 0 < bs.length then { (opS s).2.2 with fs := s.fs.set i ⟨(fileD s i).sure, (fileD s i).pieces ++ [bs]⟩ } else (opS s).2.2) else (opS s).2.2)
def renameS (a b : ByteArray) (s : DS) : Int × DS :=
  if s.off then (9, s) else match aget s.now a with
  | none => (3, s)
  | some _ => if rightB b = false then (1, s) else changeS (.ren a b) s
def removeS (a : ByteArray) (s : DS) : Int × DS :=
  if s.off then (9, s) else match aget s.now a with
  | none => (3, s)
  | some _ => changeS (.del a) s
def syncS (name : ByteArray) (s : DS) : Int × DS :=
  if s.off then (9, s) else match aget s.now name with
  | none => (3, s)
  | some i => ((opS s).1, if (opS s).2.1 then { (opS s).2.2 with fs := s.fs.set i ⟨(fileD s i).bytes, []⟩ } else (opS s).2.2)
def syncdirS (s : DS) : Int × DS :=
  if s.off then (9, s) else ((opS s).1, if (opS s).2.1 then { (opS s).2.2 with sure := s.now, chg := [] } else (opS s).2.2)
theorem createS_9 {name : ByteArray} {s : DS} (h : s.off = true) : createS name s = (9, s) := by unfold createS; rw [if_pos h]
theorem createS_1 {name : ByteArray} {s : DS} (h : s.off = false) (h1 : rightB name = false) : createS name s = (1, s) := by unfold createS; rw [if_neg (by simp [h]), if_pos h1]
theorem createS_4 {name : ByteArray} {s : DS} {i : Nat} (h : s.off = false) (h1 : rightB name = true) (h2 : aget s.now name = some i) : createS name s = (4, s) := by unfold createS; rw [if_neg (by simp [h]), if_neg (by simp [h1]), if_pos (by rw [h2]; rfl)]
theorem createS_7 {name : ByteArray} {s : DS} (h : s.off = false) (h1 : rightB name = true) (h2 : aget s.now name = none) (h3 : 512 ≤ s.now.length) : createS name s = (7, s) := by unfold createS; rw [if_neg (by simp [h]), if_neg (by simp [h1]), if_neg (by simp [h2]), if_pos h3]
theorem createS_0 {name : ByteArray} {s : DS} (h : s.off = false) (h1 : rightB name = true) (h2 : aget s.now name = none) (h3 : ¬ 512 ≤ s.now.length) (hd : (opS s).2.1 = false) : createS name s = ((opS s).1, (opS s).2.2) := by
  unfold createS; rw [if_neg (by simp [h]), if_neg (by simp [h1]), if_neg (by simp [h2]), if_neg h3, if_neg (by simp [hd])]
theorem createS_ok {name : ByteArray} {s : DS} (h : s.off = false) (h1 : rightB name = true) (h2 : aget s.now name = none) (h3 : ¬ 512 ≤ s.now.length) (hd : (opS s).2.1 = true) :
    createS name s = ((opS s).1, { (opS s).2.2 with fs := s.fs ++ [⟨[], []⟩], now := doC s.now (.made name s.fs.length), chg := s.chg ++ [.made name s.fs.length] }) := by
  unfold createS; rw [if_neg (by simp [h]), if_neg (by simp [h1]), if_neg (by simp [h2]), if_neg h3, if_pos hd]
theorem appendS_9 {name : ByteArray} {bs : List UInt8} {s : DS} (h : s.off = true) : appendS name bs s = (9, s) := by unfold appendS; rw [if_pos h]
theorem appendS_3 {name : ByteArray} {bs : List UInt8} {s : DS} (h : s.off = false) (h2 : aget s.now name = none) : appendS name bs s = (3, s) := by unfold appendS; rw [if_neg (by simp [h]), h2]
theorem appendS_7 {name : ByteArray} {bs : List UInt8} {s : DS} {i : Nat} (h : s.off = false) (h2 : aget s.now name = some i) (h3 : s.quota - ((usedS s : Nat) : Int) < (bs.length : Int)) : appendS name bs s = (7, s) := by unfold appendS; rw [if_neg (by simp [h]), h2]; simp only; rw [if_pos h3]
theorem appendS_0 {name : ByteArray} {bs : List UInt8} {s : DS} {i : Nat} (h : s.off = false) (h2 : aget s.now name = some i) (h3 : ¬ s.quota - ((usedS s : Nat) : Int) < (bs.length : Int)) (hd : (opS s).2.1 = false) : appendS name bs s = ((opS s).1, (opS s).2.2) := by
  unfold appendS; rw [if_neg (by simp [h]), h2]; simp only; rw [if_neg h3, if_neg (by simp [hd])]
theorem appendS_e {name : ByteArray} {bs : List UInt8} {s : DS} {i : Nat} (h : s.off = false) (h2 : aget s.now name = some i) (h3 : ¬ s.quota - ((usedS s : Nat) : Int) < (bs.length : Int)) (hd : (opS s).2.1 = true) (h0 : ¬ 0 < bs.length) : appendS name bs s = ((opS s).1, (opS s).2.2) := by
  unfold appendS; rw [if_neg (by simp [h]), h2]; simp only; rw [if_neg h3, if_pos hd, if_neg h0]
theorem appendS_ok {name : ByteArray} {bs : List UInt8} {s : DS} {i : Nat} (h : s.off = false) (h2 : aget s.now name = some i) (h3 : ¬ s.quota - ((usedS s : Nat) : Int) < (bs.length : Int)) (hd : (opS s).2.1 = true) (h0 : 0 < bs.length) :
    appendS name bs s = ((opS s).1, { (opS s).2.2 with fs := s.fs.set i ⟨(fileD s i).sure, (fileD s i).pieces ++ [bs]⟩ }) := by
  unfold appendS; rw [if_neg (by simp [h]), h2]; simp only; rw [if_neg h3, if_pos hd, if_pos h0]
theorem renameS_9 {a b : ByteArray} {s : DS} (h : s.off = true) : renameS a b s = (9, s) := by unfold renameS; rw [if_pos h]
theorem renameS_3 {a b : ByteArray} {s : DS} (h : s.off = false) (h2 : aget s.now a = none) : renameS a b s = (3, s) := by unfold renameS; rw [if_neg (by simp [h]), h2]
theorem renameS_1 {a b : ByteArray} {s : DS} {i : Nat} (h : s.off = false) (h2 : aget s.now a = some i) (h3 : rightB b = false) : renameS a b s = (1, s) := by unfold renameS; rw [if_neg (by simp [h]), h2]; simp only; rw [if_pos h3]
theorem renameS_c {a b : ByteArray} {s : DS} {i : Nat} (h : s.off = false) (h2 : aget s.now a = some i) (h3 : rightB b = true) : renameS a b s = changeS (.ren a b) s := by unfold renameS; rw [if_neg (by simp [h]), h2]; simp only; rw [if_neg (by simp [h3])]
theorem removeS_9 {a : ByteArray} {s : DS} (h : s.off = true) : removeS a s = (9, s) := by unfold removeS; rw [if_pos h]
theorem removeS_3 {a : ByteArray} {s : DS} (h : s.off = false) (h2 : aget s.now a = none) : removeS a s = (3, s) := by unfold removeS; rw [if_neg (by simp [h]), h2]
theorem removeS_c {a : ByteArray} {s : DS} {i : Nat} (h : s.off = false) (h2 : aget s.now a = some i) : removeS a s = changeS (.del a) s := by unfold removeS; rw [if_neg (by simp [h]), h2]
theorem changeS_0 {c : ChgD} {s : DS} (hd : (opS s).2.1 = false) : changeS c s = ((opS s).1, (opS s).2.2) := by unfold changeS; rw [if_neg (by simp [hd])]
theorem changeS_ok {c : ChgD} {s : DS} (hd : (opS s).2.1 = true) : changeS c s = ((opS s).1, { (opS s).2.2 with now := doC s.now c, chg := s.chg ++ [c] }) := by unfold changeS; rw [if_pos hd]
theorem syncS_9 {name : ByteArray} {s : DS} (h : s.off = true) : syncS name s = (9, s) := by unfold syncS; rw [if_pos h]
theorem syncS_3 {name : ByteArray} {s : DS} (h : s.off = false) (h2 : aget s.now name = none) : syncS name s = (3, s) := by unfold syncS; rw [if_neg (by simp [h]), h2]
theorem syncS_0 {name : ByteArray} {s : DS} {i : Nat} (h : s.off = false) (h2 : aget s.now name = some i) (hd : (opS s).2.1 = false) : syncS name s = ((opS s).1, (opS s).2.2) := by unfold syncS; rw [if_neg (by simp [h]), h2]; simp only; rw [if_neg (by simp [hd])]
theorem syncS_ok {name : ByteArray} {s : DS} {i : Nat} (h : s.off = false) (h2 : aget s.now name = some i) (hd : (opS s).2.1 = true) : syncS name s = ((opS s).1, { (opS s).2.2 with fs := s.fs.set i ⟨(fileD s i).bytes, []⟩ }) := by unfold syncS; rw [if_neg (by simp [h]), h2]; simp only; rw [if_pos hd]
theorem syncdirS_9 {s : DS} (h : s.off = true) : syncdirS s = (9, s) := by unfold syncdirS; rw [if_pos h]
theorem syncdirS_0 {s : DS} (h : s.off = false) (hd : (opS s).2.1 = false) : syncdirS s = ((opS s).1, (opS s).2.2) := by unfold syncdirS; rw [if_neg (by simp [h]), if_neg (by simp [hd])]
theorem syncdirS_ok {s : DS} (h : s.off = false) (hd : (opS s).2.1 = true) : syncdirS s = ((opS s).1, { (opS s).2.2 with sure := s.now, chg := [] }) := by unfold syncdirS; rw [if_neg (by simp [h]), if_pos hd]
theorem oper_at (B : Ctx) (d n su : Nat) (cv : Value) (fb : List Nat) (s : DS) (b : Bool) (N : Nat) (hs : DB s N) (hN : N ≤ 1000000) (hd : (opS s).2.1 = b) : Tri Try.prog B 83 #[.pointer (some ⟨d, 0, none⟩)] [pt d (.cells #[.int .i64 s.count, .bool s.done, .int .i64 s.fuse, .bool s.off, .int .i64 s.quota, .map (some n), .map (some su), cv] 87 (0, 0))] (fun u M => u = .tuple #[.int .i64 (opS s).1, .bool b] ∧ M = [pt d (.cells #[.int .i64 ((opS s).2.2.count), .bool ((opS s).2.2.done), .int .i64 ((opS s).2.2.fuse), .bool ((opS s).2.2.off), .int .i64 ((opS s).2.2.quota), .map (some n), .map (some su), cv] 87 (0, 0))]) := by
  subst hd; exact oper_tri B d n su cv fb s N hs hN
theorem change_made (B : Ctx) (d n su : Nat) (cv : Value) (fb : List Nat) (s : DS) (name : ByteArray) (b : Nat) (N : Nat) (hs : DB s N) (hN : N ≤ 1000000) (hd : (opS s).2.1 = true) (hfb : fb.length = s.fs.length) :
    Tri Try.prog B 82 #[.pointer (some ⟨d, 0, none⟩), .iface 136 (.agg #[.string name, .pointer (some ⟨b, 0, none⟩)])] [pt d (.cells #[.int .i64 s.count, .bool s.done, .int .i64 s.fuse, .bool s.off, .int .i64 s.quota, .map (some n), .map (some su), cv] 87 (0, 0)), mapA encS n (pv fb s.now), row 20 1 cv s.chg.length (s.chg.map (chgV fb))] (fun u M => ∃ cv', u = .int .i64 (opS s).1 ∧ M = [pt d (.cells #[.int .i64 ((opS s).2.2.count), .bool ((opS s).2.2.done), .int .i64 ((opS s).2.2.fuse), .bool ((opS s).2.2.off), .int .i64 ((opS s).2.2.quota), .map (some n), .map (some su), cv'] 87 (0, 0)), mapA encS n (pv (fb ++ [b]) (doC s.now (ChgD.made name s.fs.length))), row 20 1 cv' ((s.chg ++ [ChgD.made name s.fs.length]).length) ((s.chg ++ [ChgD.made name s.fs.length]).map (chgV (fb ++ [b])))]) := by
  have h := change_done B d n su cv (fb ++ [b]) s (.made name s.fs.length) N hs hN hd
  have e1 : pv (fb ++ [b]) s.now = pv fb s.now := pv_ext b (by rw [hfb]; exact hs.wn)
  have e2 : s.chg.map (chgV (fb ++ [b])) = s.chg.map (chgV fb) := chgV_ext b (by rw [hfb]; exact hs.wc)
  have e3 : chgV (fb ++ [b]) (.made name s.fs.length) = .iface 136 (.agg #[.string name, .pointer (some ⟨b, 0, none⟩)]) := by unfold chgV; simp only; rw [← hfb, ptF_new]
  rw [e1, e2, e3] at h
  exact h
theorem enters_81 : Enters Try.prog 81 := enters_of Try.func81 (by kernel_rfl) (by kernel_rfl)
theorem zero_134 : zeroOk Try.prog 134 (.agg #[.slice none 0 0, .slice none 0 0]) := zero_mk (by kernel_rfl)
theorem build_134 : ∀ {parts : List (Nat × Value)} {cells : Array Value}, Instr.fill ((#[(0, 1), (1, 1)] : Array (Nat × Nat))[·]?) (.agg #[.slice none 0 0, .slice none 0 0] : Value).cells parts = some cells → buildOk Try.prog 134 parts cells := fun h => ⟨_, fieldsOf Try.prog 134, _, zero_134, by kernel_rfl, fun w => by kernel_rfl, h⟩
theorem build_136 : ∀ {parts : List (Nat × Value)} {cells : Array Value}, Instr.fill ((#[(0, 1), (1, 1)] : Array (Nat × Nat))[·]?) (.agg #[.string ⟨#[]⟩, .pointer none] : Value).cells parts = some cells → buildOk Try.prog 136 parts cells := fun h => ⟨_, fieldsOf Try.prog 136, _, zero_136, by kernel_rfl, fun w => by kernel_rfl, h⟩
theorem enters_82 : Enters Try.prog 82 := enters_of Try.func82 (by kernel_rfl) (by kernel_rfl)
set_option maxRecDepth 100000 in
set_option maxHeartbeats 8000000 in
theorem create_tri (B : Ctx) (d n su : Nat) (cv : Value) (fb : List Nat) (s : DS) (name : ByteArray) (N : Nat) (hs : DB s N) (hN : N ≤ 1000000) (hfb : fb.length = s.fs.length) (hks : name.size ≤ 9223372036854775807) :
    Tri Try.prog B 40 #[.pointer (some ⟨d, 0, none⟩), .string name] [pt d (.cells #[.int .i64 s.count, .bool s.done, .int .i64 s.fuse, .bool s.off, .int .i64 s.quota, .map (some n), .map (some su), cv] 87 (0, 0)), mapA encS n (pv fb s.now), mapA encS su (pv fb s.sure), row 20 1 cv s.chg.length (s.chg.map (chgV fb)), filesA B fb s.fs] (fun u M => ∃ n' su' cv' fb', fb'.length = (createS name s).2.fs.length ∧ u = .int .i64 (createS name s).1 ∧ M = DL B d n' su' cv' fb' (createS name s).2) := by
  refine tri_body (n := 42) Try.func40 rfl rfl rfl ?_
  intro F
  show WC _ _ _ _ _ _ _ [(0, .pointer (some ⟨d, 0, none⟩)), (1, .string name)] [pt d (.cells #[.int .i64 s.count, .bool s.done, .int .i64 s.fuse, .bool s.off, .int .i64 s.quota, .map (some n), .map (some su), cv] 87 (0, 0)), mapA encS n (pv fb s.now), mapA encS su (pv fb s.sure), row 20 1 cv s.chg.length (s.chg.map (chgV fb)), filesA B fb s.fs, F]
  have hs0 := hs
  obtain ⟨hwn, hws, hwc, hf1, hn1, hc1, hb1, hp1, hq0, hq1, hk0, hk1, hu0, hu1, hnn, hns⟩ := hs
  refine wc_seq ?_
  refine wc_region ?_
  refine wl_1 trivial rfl (do_assign rfl) ?_
  refine wl_nil ?_
  refine at_then ?_
  refine wc_seq ?_
  refine wc_seq ?_
  refine wc_region ?_
  refine wl_1 trivial rfl (do_move rfl) ?_
  rcases (Bool.eq_false_or_eq_true s.off).symm with hb1 | hb1
  · skip
    refine wl_do trivial rfl (do_call (may_on B d n su cv fb s hb1) ⟨rfl, trivial⟩ enters_80 [0] [1, 2, 3, 4, 5] ⟨rfl, trivial⟩ ⟨rfl, rfl, rfl, rfl, rfl, trivial⟩ (R := [_, _, _, _, _]) (by decide)) ?_
    rintro _ _ ⟨_, ⟨rfl, rfl⟩, rfl⟩
    refine wl_1 trivial rfl (do_assign rfl) ?_
    refine wl_nil ?_
    refine at_then ?_
    refine wc_seq ?_
    refine wc_region ?_
    refine wl_1 trivial rfl (do_move rfl) ?_
    refine wl_1 trivial rfl (do_cmp (c := false) rfl rfl rfl) ?_
    refine wl_nil ?_
    refine at_then ?_
    refine wc_false rfl ?_
    refine wc_skip ?_
    refine at_then ?_
    refine wc_seq ?_
    refine wc_region ?_
    refine wl_1 trivial rfl (do_move rfl) ?_
    refine wl_1 trivial rfl (do_nilCheck rfl) ?_
    refine wl_1 trivial rfl (do_fieldAddr (k := 5) (k' := 5) fo_87_2 rfl (by rfl)) ?_
    refine wl_1 trivial rfl (do_load 0 rfl one_84 rfl rfl) ?_
    refine wl_1 trivial rfl (do_move rfl) ?_
    rcases hg2 : aget (pv fb s.now) name with _ | v3
    · skip
      refine wl_1 trivial rfl (do_lookup2N und_84 key_9 zero_123 1 rfl rfl rfl hg2) ?_
      refine wl_1 trivial rfl (do_move rfl) ?_
      refine wl_1 trivial rfl (do_extract rfl rfl) ?_
      refine wl_1 trivial rfl (do_extract rfl rfl) ?_
      refine wl_1 trivial rfl (do_assign rfl) ?_
      refine wl_1 trivial rfl (do_assign rfl) ?_
      refine wl_nil ?_
      refine at_then ?_
      refine wc_seq ?_
      refine wc_block ?_
      refine wc_seq ?_
      refine wc_region ?_
      refine wl_1 trivial rfl (do_move rfl) ?_
      refine wl_do trivial rfl (do_call (right_tri B name hks) ⟨rfl, trivial⟩ enters_81 [] [0, 1, 2, 3, 4, 5] trivial ⟨rfl, rfl, rfl, rfl, rfl, rfl, trivial⟩ (R := [_, _, _, _, _, _]) (by decide)) ?_
      rintro _ _ ⟨_, ⟨rfl, rfl⟩, rfl⟩
      refine wl_1 trivial rfl (do_not (c := (rightB name)) rfl) ?_
      refine wl_1 trivial rfl (do_assign rfl) ?_
      refine wl_nil ?_
      refine at_then ?_
      cases hb4 : (rightB name)
      · skip
        refine wc_true rfl ?_
        refine wc_seq ?_
        refine wc_region ?_
        refine wl_1 trivial rfl (do_assign rfl) ?_
        refine wl_nil ?_
        refine at_then ?_
        refine wc_ret ?_
        refine at_block_ret ?_
        refine at_then_ret ?_
        exact at_ret1 (M := [_, _, _, _, _]) rfl rfl ⟨n, su, cv, fb, by rw [createS_1 hb1 ‹_›]; exact hfb, by rw [createS_1 hb1 ‹_›], by rw [createS_1 hb1 ‹_›]; exact rfl⟩ rfl
      · skip
        refine wc_false rfl ?_
        refine wc_seq ?_
        refine wc_region ?_
        refine wl_1 trivial rfl (do_move rfl) ?_
        refine wl_1 trivial rfl (do_assign rfl) ?_
        refine wl_nil ?_
        refine at_then ?_
        refine wc_false rfl ?_
        refine wc_seq ?_
        refine wc_region ?_
        refine wl_1 trivial rfl (do_move rfl) ?_
        refine wl_1 trivial rfl (do_nilCheck rfl) ?_
        refine wl_1 trivial rfl (do_fieldAddr (k := 5) (k' := 5) fo_87_2 rfl (by rfl)) ?_
        refine wl_1 trivial rfl (do_load 0 rfl one_84 rfl rfl) ?_
        refine wl_1 trivial rfl (do_lenMapA 1 rfl isMap_84 rfl rfl) ?_
        obtain ⟨c5, h_c5⟩ : ∃ c : Bool, cmpB .geq (((pv fb s.now).length : Nat) : Int) 512 = some c := ⟨_, rfl⟩
        refine wl_1 trivial rfl (do_cmp rfl rfl h_c5) ?_
        refine wl_1 trivial rfl (do_assign rfl) ?_
        refine wl_nil ?_
        refine at_then ?_
        cases c5
        · have p_c5 := cmp_geq_f h_c5
          refine wc_false rfl ?_
          refine wc_skip ?_
          refine at_block ?_
          refine at_then ?_
          refine wc_seq ?_
          refine wc_region ?_
          refine wl_1 trivial rfl (do_move rfl) ?_
          refine wl_1 trivial rfl (do_move rfl) ?_
          refine wl_1 trivial rfl (do_build (ps := []) trivial (build_134 rfl)) ?_
          refine wl_do trivial rfl (do_box rfl rfl) ?_
          rintro _ _ ⟨b6, rfl, rfl⟩
          refine wl_1 trivial rfl (do_build (ps := [(0, .string name), (1, .pointer (some ⟨b6, 0, none⟩))]) ⟨rfl, rfl, rfl, rfl, trivial⟩ (build_136 rfl)) ?_
          refine wl_1 trivial rfl (do_makeIface isConc_136 rfl) ?_
          rcases (Bool.eq_false_or_eq_true ((opS s).2.1)).symm with hb7 | hb7
          · skip
            refine wl_do trivial rfl (do_call (change_not B d n su cv fb s (.iface 136 (.agg #[.string name, .pointer (some ⟨b6, 0, none⟩)])) N hs0 hN hb7) ⟨rfl, rfl, trivial⟩ enters_82 [1] [0, 2, 3, 4, 5, 6] ⟨rfl, trivial⟩ ⟨rfl, rfl, rfl, rfl, rfl, rfl, trivial⟩ (R := [_, _, _, _, _, _]) (by decide)) ?_
            rintro _ _ ⟨_, ⟨rfl, rfl⟩, rfl⟩
            refine wl_1 trivial rfl (do_assign rfl) ?_
            refine wl_nil ?_
            refine at_then ?_
            refine wc_ret ?_
            refine at_pick (M := [_, _, _, _, _, _]) [0, 2, 3, 4, 5, 6] ⟨rfl, rfl, rfl, rfl, rfl, rfl, trivial⟩ (by decide) ?_
            exact at_ret1 (M := [_, _, _, _, _]) rfl rfl ⟨n, su, cv, fb, by rw [createS_0 hb1 ‹_› (pv_none hg2) (by rw [pv_len] at *; omega) hb7]; rw [opS_fs]; exact hfb, by rw [createS_0 hb1 ‹_› (pv_none hg2) (by rw [pv_len] at *; omega) hb7], by rw [createS_0 hb1 ‹_› (pv_none hg2) (by rw [pv_len] at *; omega) hb7]; exact DL_mk (opS_fs s) (opS_now s) (opS_sure s) (opS_chg s)⟩ rfl
          · skip
            refine wl_do trivial rfl (do_call (change_made B d n su cv fb s name b6 N hs0 hN hb7 hfb) ⟨rfl, rfl, trivial⟩ enters_82 [1, 2, 4] [0, 3, 5, 6] ⟨rfl, rfl, rfl, trivial⟩ ⟨rfl, rfl, rfl, rfl, trivial⟩ (R := [_, _, _, _]) (by decide)) ?_
            rintro _ _ ⟨_, ⟨cv8, rfl, rfl⟩, rfl⟩
            refine wl_1 trivial rfl (do_assign rfl) ?_
            refine wl_nil ?_
            refine at_then ?_
            refine wc_ret ?_
            refine at_mem (L' := [piecesA B [] [], pt d (.cells #[.int .i64 ((opS s).2.2.count), .bool ((opS s).2.2.done), .int .i64 ((opS s).2.2.fuse), .bool ((opS s).2.2.off), .int .i64 ((opS s).2.2.quota), .map (some n), .map (some su), cv8] 87 (0, 0)), mapA encS n (pv (fb ++ [b6]) (doC s.now (ChgD.made name s.fs.length))), row 20 1 cv8 ((s.chg ++ [(ChgD.made name s.fs.length)]).length) ((s.chg ++ [(ChgD.made name s.fs.length)]).map (chgV (fb ++ [b6]))), pt b6 (.cells #[.slice none 0 0, .slice none 0 0] 134 (0, 0)), mapA encS su (pv fb s.sure), filesA B fb s.fs, F]) (fun w_ h_ => h_.intro trivial) ?_
            refine at_mem (L' := [row 32 1 (.slice none 0 0) 0 ([]), piecesA B [] [], pt d (.cells #[.int .i64 ((opS s).2.2.count), .bool ((opS s).2.2.done), .int .i64 ((opS s).2.2.fuse), .bool ((opS s).2.2.off), .int .i64 ((opS s).2.2.quota), .map (some n), .map (some su), cv8] 87 (0, 0)), mapA encS n (pv (fb ++ [b6]) (doC s.now (ChgD.made name s.fs.length))), row 20 1 cv8 ((s.chg ++ [(ChgD.made name s.fs.length)]).length) ((s.chg ++ [(ChgD.made name s.fs.length)]).map (chgV (fb ++ [b6]))), pt b6 (.cells #[.slice none 0 0, .slice none 0 0] 134 (0, 0)), mapA encS su (pv fb s.sure), filesA B fb s.fs, F]) (fun w_ h_ => h_.intro row_nil) ?_
            refine at_mem (L' := [bytesA B (.slice none 0 0) [], row 32 1 (.slice none 0 0) 0 ([]), piecesA B [] [], pt d (.cells #[.int .i64 ((opS s).2.2.count), .bool ((opS s).2.2.done), .int .i64 ((opS s).2.2.fuse), .bool ((opS s).2.2.off), .int .i64 ((opS s).2.2.quota), .map (some n), .map (some su), cv8] 87 (0, 0)), mapA encS n (pv (fb ++ [b6]) (doC s.now (ChgD.made name s.fs.length))), row 20 1 cv8 ((s.chg ++ [(ChgD.made name s.fs.length)]).length) ((s.chg ++ [(ChgD.made name s.fs.length)]).map (chgV (fb ++ [b6]))), pt b6 (.cells #[.slice none 0 0, .slice none 0 0] 134 (0, 0)), mapA encS su (pv fb s.sure), filesA B fb s.fs, F]) (fun w_ h_ => h_.intro ⟨rfl, none, 0, rfl, fun j u hj => by simp [byv] at hj⟩) ?_
            refine at_mem (L' := [fileA B b6 ⟨[], []⟩, pt d (.cells #[.int .i64 ((opS s).2.2.count), .bool ((opS s).2.2.done), .int .i64 ((opS s).2.2.fuse), .bool ((opS s).2.2.off), .int .i64 ((opS s).2.2.quota), .map (some n), .map (some su), cv8] 87 (0, 0)), mapA encS n (pv (fb ++ [b6]) (doC s.now (ChgD.made name s.fs.length))), row 20 1 cv8 ((s.chg ++ [(ChgD.made name s.fs.length)]).length) ((s.chg ++ [(ChgD.made name s.fs.length)]).map (chgV (fb ++ [b6]))), mapA encS su (pv fb s.sure), filesA B fb s.fs, F]) (fun w_ h_ => ex_put (φ := fun x : Value × Value × List Value => x.2.2.length = (⟨[], []⟩ : FileS).pieces.length) (As := filePs B b6 ⟨[], []⟩) (.slice none 0 0, .slice none 0 0, []) rfl (h_.pick (M := [pt b6 (.cells #[.slice none 0 0, .slice none 0 0] 134 (0, 0)), bytesA B (.slice none 0 0) [], row 32 1 (.slice none 0 0) 0 ([]), piecesA B [] [], pt d (.cells #[.int .i64 ((opS s).2.2.count), .bool ((opS s).2.2.done), .int .i64 ((opS s).2.2.fuse), .bool ((opS s).2.2.off), .int .i64 ((opS s).2.2.quota), .map (some n), .map (some su), cv8] 87 (0, 0)), mapA encS n (pv (fb ++ [b6]) (doC s.now (ChgD.made name s.fs.length))), row 20 1 cv8 ((s.chg ++ [(ChgD.made name s.fs.length)]).length) ((s.chg ++ [(ChgD.made name s.fs.length)]).map (chgV (fb ++ [b6]))), mapA encS su (pv fb s.sure), filesA B fb s.fs, F]) [6, 0, 1, 2, 3, 4, 5, 7, 8, 9] ⟨rfl, rfl, rfl, rfl, rfl, rfl, rfl, rfl, rfl, rfl, trivial⟩ (by decide))) ?_
            refine at_mem (L' := [filesA B (fb ++ [b6]) (s.fs ++ [⟨[], []⟩]), pt d (.cells #[.int .i64 ((opS s).2.2.count), .bool ((opS s).2.2.done), .int .i64 ((opS s).2.2.fuse), .bool ((opS s).2.2.off), .int .i64 ((opS s).2.2.quota), .map (some n), .map (some su), cv8] 87 (0, 0)), mapA encS n (pv (fb ++ [b6]) (doC s.now (ChgD.made name s.fs.length))), row 20 1 cv8 ((s.chg ++ [(ChgD.made name s.fs.length)]).length) ((s.chg ++ [(ChgD.made name s.fs.length)]).map (chgV (fb ++ [b6]))), mapA encS su (pv fb s.sure), F]) (fun w_ h_ => files_add (h_.pick (M := [fileA B b6 ⟨[], []⟩, filesA B fb s.fs, pt d (.cells #[.int .i64 ((opS s).2.2.count), .bool ((opS s).2.2.done), .int .i64 ((opS s).2.2.fuse), .bool ((opS s).2.2.off), .int .i64 ((opS s).2.2.quota), .map (some n), .map (some su), cv8] 87 (0, 0)), mapA encS n (pv (fb ++ [b6]) (doC s.now (ChgD.made name s.fs.length))), row 20 1 cv8 ((s.chg ++ [(ChgD.made name s.fs.length)]).length) ((s.chg ++ [(ChgD.made name s.fs.length)]).map (chgV (fb ++ [b6]))), mapA encS su (pv fb s.sure), F]) [0, 5, 1, 2, 3, 4, 6] ⟨rfl, rfl, rfl, rfl, rfl, rfl, rfl, trivial⟩ (by decide))) ?_
            refine at_pick (M := [_, _, _, _, _, _]) [1, 2, 4, 3, 0, 5] ⟨rfl, rfl, rfl, rfl, rfl, rfl, trivial⟩ (by decide) ?_
            exact at_ret1 (M := [_, _, _, _, _]) rfl rfl ⟨n, su, cv8, (fb ++ [b6]), by rw [createS_ok hb1 ‹_› (pv_none hg2) (by rw [pv_len] at *; omega) hb7]; simp [hfb], by rw [createS_ok hb1 ‹_› (pv_none hg2) (by rw [pv_len] at *; omega) hb7], by rw [createS_ok hb1 ‹_› (pv_none hg2) (by rw [pv_len] at *; omega) hb7]; rw [← pv_ext (m := s.sure) b6 (by rw [hfb]; exact hws)]; exact DL_mk (s := { (opS s).2.2 with fs := s.fs ++ [⟨[], []⟩], now := doC s.now (.made name s.fs.length), chg := s.chg ++ [.made name s.fs.length] }) rfl rfl (opS_sure s) rfl⟩ rfl
        · have p_c5 := cmp_geq_t h_c5
          refine wc_true rfl ?_
          refine wc_seq ?_
          refine wc_region ?_
          refine wl_1 trivial rfl (do_assign rfl) ?_
          refine wl_nil ?_
          refine at_then ?_
          refine wc_ret ?_
          refine at_block_ret ?_
          refine at_then_ret ?_
          exact at_ret1 (M := [_, _, _, _, _]) rfl rfl ⟨n, su, cv, fb, by rw [createS_7 hb1 ‹_› (pv_none hg2) (by rw [pv_len] at *; omega)]; exact hfb, by rw [createS_7 hb1 ‹_› (pv_none hg2) (by rw [pv_len] at *; omega)], by rw [createS_7 hb1 ‹_› (pv_none hg2) (by rw [pv_len] at *; omega)]; exact rfl⟩ rfl
    · skip
      refine wl_1 trivial rfl (do_lookup2S und_84 key_9 zero_123 1 rfl rfl rfl hg2) ?_
      refine wl_1 trivial rfl (do_move rfl) ?_
      refine wl_1 trivial rfl (do_extract rfl rfl) ?_
      refine wl_1 trivial rfl (do_extract rfl rfl) ?_
      refine wl_1 trivial rfl (do_assign rfl) ?_
      refine wl_1 trivial rfl (do_assign rfl) ?_
      refine wl_nil ?_
      refine at_then ?_
      refine wc_seq ?_
      refine wc_block ?_
      refine wc_seq ?_
      refine wc_region ?_
      refine wl_1 trivial rfl (do_move rfl) ?_
      refine wl_do trivial rfl (do_call (right_tri B name hks) ⟨rfl, trivial⟩ enters_81 [] [0, 1, 2, 3, 4, 5] trivial ⟨rfl, rfl, rfl, rfl, rfl, rfl, trivial⟩ (R := [_, _, _, _, _, _]) (by decide)) ?_
      rintro _ _ ⟨_, ⟨rfl, rfl⟩, rfl⟩
      refine wl_1 trivial rfl (do_not (c := (rightB name)) rfl) ?_
      refine wl_1 trivial rfl (do_assign rfl) ?_
      refine wl_nil ?_
      refine at_then ?_
      cases hb9 : (rightB name)
      · skip
        refine wc_true rfl ?_
        refine wc_seq ?_
        refine wc_region ?_
        refine wl_1 trivial rfl (do_assign rfl) ?_
        refine wl_nil ?_
        refine at_then ?_
        refine wc_ret ?_
        refine at_block_ret ?_
        refine at_then_ret ?_
        exact at_ret1 (M := [_, _, _, _, _]) rfl rfl ⟨n, su, cv, fb, by rw [createS_1 hb1 ‹_›]; exact hfb, by rw [createS_1 hb1 ‹_›], by rw [createS_1 hb1 ‹_›]; exact rfl⟩ rfl
      · skip
        refine wc_false rfl ?_
        refine wc_seq ?_
        refine wc_region ?_
        refine wl_1 trivial rfl (do_move rfl) ?_
        refine wl_1 trivial rfl (do_assign rfl) ?_
        refine wl_nil ?_
        refine at_then ?_
        refine wc_true rfl ?_
        refine wc_seq ?_
        refine wc_region ?_
        refine wl_1 trivial rfl (do_assign rfl) ?_
        refine wl_nil ?_
        refine at_then ?_
        refine wc_ret ?_
        refine at_block_ret ?_
        refine at_then_ret ?_
        exact at_ret1 (M := [_, _, _, _, _]) rfl rfl (by obtain ⟨i_, hi_, _⟩ := pv_some hg2; exact ⟨n, su, cv, fb, by rw [createS_4 hb1 ‹_› hi_]; exact hfb, by rw [createS_4 hb1 ‹_› hi_], by rw [createS_4 hb1 ‹_› hi_]; exact rfl⟩) rfl
  · skip
    refine wl_do trivial rfl (do_call (may_off B d n su cv fb s hb1) ⟨rfl, trivial⟩ enters_80 [0] [1, 2, 3, 4, 5] ⟨rfl, trivial⟩ ⟨rfl, rfl, rfl, rfl, rfl, trivial⟩ (R := [_, _, _, _, _]) (by decide)) ?_
    rintro _ _ ⟨_, ⟨rfl, rfl⟩, rfl⟩
    refine wl_1 trivial rfl (do_assign rfl) ?_
    refine wl_nil ?_
    refine at_then ?_
    refine wc_seq ?_
    refine wc_region ?_
    refine wl_1 trivial rfl (do_move rfl) ?_
    refine wl_1 trivial rfl (do_cmp (c := true) rfl rfl rfl) ?_
    refine wl_nil ?_
    refine at_then ?_
    refine wc_true rfl ?_
    refine wc_seq ?_
    refine wc_region ?_
    refine wl_1 trivial rfl (do_move rfl) ?_
    refine wl_1 trivial rfl (do_assign rfl) ?_
    refine wl_nil ?_
    refine at_then ?_
    refine wc_ret ?_
    refine at_then_ret ?_
    exact at_ret1 (M := [_, _, _, _, _]) rfl rfl ⟨n, su, cv, fb, by rw [createS_9 hb1]; exact hfb, by rw [createS_9 hb1], by rw [createS_9 hb1]; exact rfl⟩ rfl
end Go.Proofs.Ytmefejfnddcelaa
