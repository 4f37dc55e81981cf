/- Printed by a program of this claim's: what each of these functions of the program does, as its theorem says. No condition but what stands in each theorem. -/
import Derived.Test.YtmefejfnddcelaaDh
namespace Go.Proofs.Ytmefejfnddcelaa
theorem mem_aput {α β : Type} [DecidableEq α] {l : List (α × β)} {k : α} {v : β} : ∀ {p : α × β}, p ∈ aput l k v → p = (k, v) ∨ p ∈ l := by
  induction l with
  | nil => intro p hp; simp [aput] at hp; exact .inl hp
  | cons q l ih =>
    intro p hp
    obtain ⟨a, x⟩ := q
    simp only [aput] at hp
    split at hp
    · rcases List.mem_cons.1 hp with h | h
      · exact .inl h
      · exact .inr (List.mem_cons_of_mem _ h)
    · rcases List.mem_cons.1 hp with h | h
      · exact .inr (by rw [h]; simp)
      · rcases ih h with h | h
        · exact .inl h
        · exact .inr (List.mem_cons_of_mem _ h)
theorem mem_adel {α β : Type} [DecidableEq α] {l : List (α × β)} {k : α} : ∀ {p : α × β}, p ∈ adel l k → p ∈ l := by
  induction l with
  | nil => intro p hp; simp [adel] at hp
  | cons q l ih =>
    intro p hp
    obtain ⟨a, x⟩ := q
    simp only [adel] at hp
    split at hp
    · exact List.mem_cons_of_mem _ hp
    · rcases List.mem_cons.1 hp with h | h
      · rw [h]; simp
      · exact List.mem_cons_of_mem _ (ih h)
theorem len_aput {α β : Type} [DecidableEq α] (l : List (α × β)) (k : α) (v : β) : (aput l k v).length ≤ l.length + 1 := by
  induction l with
  | nil => simp [aput]
  | cons q l ih => obtain ⟨a, x⟩ := q; simp only [aput]; split <;> simp; omega
theorem len_adel {α β : Type} [DecidableEq α] (l : List (α × β)) (k : α) : (adel l k).length ≤ l.length := by
  induction l with
  | nil => simp [adel]
  | cons q l ih => obtain ⟨a, x⟩ := q; simp only [adel]; split <;> simp; omega
theorem doC_len (m : List (ByteArray × Nat)) (c : ChgD) : (doC m c).length ≤ m.length + 1 := by
  cases c with
  | made k i => exact len_aput _ _ _
  | del a => exact Nat.le_succ_of_le (len_adel _ _)
  | ren a b =>
    simp only [doC]
    split
    · exact Nat.le_trans (len_aput _ _ _) (Nat.succ_le_succ (len_adel _ _))
    · exact Nat.le_succ _
theorem doC_nodup {m : List (ByteArray × Nat)} (h : (akeys m).Nodup) (c : ChgD) : (akeys (doC m c)).Nodup := by
  cases c with
  | made k i => exact nodup_aput h _ _
  | del a => exact nodup_adel h _
  | ren a b =>
    simp only [doC]
    split
    · exact nodup_aput (nodup_adel h _) _ _
    · exact h
theorem doC_ids {m : List (ByteArray × Nat)} {L : Nat} (h : ∀ q ∈ m, q.2 < L) {c : ChgD} (hc : ∀ i, c.file = some i → i < L) : ∀ q ∈ doC m c, q.2 < L := by
  cases c with
  | made k i => intro q hq; rcases mem_aput hq with rfl | hq; exact hc i rfl; exact h q hq
  | del a => intro q hq; exact h q (mem_adel hq)
  | ren a b =>
    simp only [doC]
    split
    · rename_i i hi
      intro q hq
      rcases mem_aput hq with rfl | hq
      · exact (show i < L from h (a, i) (aget_mem hi))
      · exact h q (mem_adel hq)
    · exact h
/-- The names behind a crash. -/
def crashN : List ChgD → List Bool → List (ByteArray × Nat) → List (ByteArray × Nat) × List Bool
  | [], r, m => (m, r)
  | c :: cs, r, m => crashN cs r.tail (if r.headD false then doC m c else m)
theorem crashN_step {l : List ChgD} {k : Nat} {c : ChgD} (h : l[k]? = some c) (r : List Bool) (m : List (ByteArray × Nat)) : crashN (l.drop k) r m = crashN (l.drop (k + 1)) r.tail (if r.headD false then doC m c else m) := by
  have hk := (List.getElem?_eq_some_iff.1 h).1
  rw [List.drop_eq_getElem_cons hk, (List.getElem?_eq_some_iff.1 h).2]
  rfl
theorem crashN_ok {L : Nat} : ∀ (l : List ChgD) (r : List Bool) (m : List (ByteArray × Nat)), (∀ q ∈ m, q.2 < L) → (∀ c ∈ l, ∀ i, c.file = some i → i < L) → (akeys m).Nodup → (∀ q ∈ (crashN l r m).1, q.2 < L) ∧ (crashN l r m).1.length ≤ m.length + l.length ∧ (akeys (crashN l r m).1).Nodup
  | [], r, m, h1, _, h3 => ⟨h1, Nat.le_refl _, h3⟩
  | c :: cs, r, m, h1, h2, h3 => by
    have hc := h2 c (by simp)
    have key : (∀ q ∈ (if r.headD false then doC m c else m), q.2 < L) ∧ (if r.headD false then doC m c else m).length ≤ m.length + 1 ∧ (akeys (if r.headD false then doC m c else m)).Nodup := by
      split
      · exact ⟨doC_ids h1 hc, doC_len _ _, doC_nodup h3 _⟩
      · exact ⟨h1, Nat.le_succ _, h3⟩
    have := crashN_ok cs r.tail _ key.1 (fun c' hc' => h2 c' (List.mem_cons_of_mem _ hc')) key.2.2
    refine ⟨this.1, ?_, this.2.2⟩
    have h4 := this.2.1
    have h5 := key.2.1
    show (crashN cs r.tail _).1.length ≤ _
    simp only [List.length_cons]
    omega
/-- The files behind a crash: name by name. -/
def crashF (m : List (ByteArray × Nat)) : List ByteArray → List FileS → List Bool → List FileS × List Bool
  | [], fs, r => (fs, r)
  | k :: ks, fs, r => match aget m k with
    | some i => crashF m ks (fs.set i (keepF (fs.getD i ⟨[], []⟩) r).1) (keepF (fs.getD i ⟨[], []⟩) r).2
    | none => crashF m ks fs r
theorem crashF_step {m : List (ByteArray × Nat)} {l : List ByteArray} {k i : Nat} {y : ByteArray} (h : l[k]? = some y) (hg : aget m y = some i) (fs : List FileS) (r : List Bool) : crashF m (l.drop k) fs r = crashF m (l.drop (k + 1)) (fs.set i (keepF (fs.getD i ⟨[], []⟩) r).1) (keepF (fs.getD i ⟨[], []⟩) r).2 := by
  have hk := (List.getElem?_eq_some_iff.1 h).1
  rw [List.drop_eq_getElem_cons hk, (List.getElem?_eq_some_iff.1 h).2]
  simp only [crashF, hg]
def crashS (keep : List Bool) (s : DS) : DS :=
  ⟨(crashF (crashN s.chg keep s.sure).1 (sortB (akeys (crashN s.chg keep s.sure).1)) s.fs (crashN s.chg keep s.sure).2).1, (crashN s.chg keep s.sure).1, (crashN s.chg keep s.sure).1, [], s.quota, 0, false, -1, false⟩
theorem keepL_len : ∀ (ps : List (List UInt8)) (r : List Bool) (b : List UInt8) (n : Nat), (keepL ps r b n).1.length = b.length + ps.flatten.length
  | [], r, b, n => by simp [keepL]
  | p :: ps, r, b, n => by
    simp only [keepL]
    split
    · rw [keepL_len]; simp; omega
    · rw [keepL_len]; simp; omega
theorem keepF_len (f : FileS) (r : List Bool) : (keepF f r).1.bytes.length ≤ f.bytes.length ∧ (keepF f r).1.pieces.length = 0 := by
  unfold keepF FileS.bytes
  refine ⟨?_, rfl⟩
  have := keepL_len f.pieces r f.sure f.sure.length
  simp only [List.length_append, List.flatten_nil, List.append_nil, List.length_take]
  omega
/-- Files of which none is too long. -/
def FOk (fs : List FileS) (N : Nat) : Prop := ∀ f ∈ fs, f.bytes.length ≤ N * 1048576 ∧ f.pieces.length ≤ N
theorem FOk.set {fs : List FileS} {N : Nat} (h : FOk fs N) {i : Nat} {f : FileS} (hf : f.bytes.length ≤ N * 1048576 ∧ f.pieces.length ≤ N) : FOk (fs.set i f) N := fun g hg => by
  rcases List.mem_or_eq_of_mem_set hg with hg | rfl
  · exact h g hg
  · exact hf
theorem FOk.get {fs : List FileS} {N : Nat} (h : FOk fs N) (i : Nat) : (fs.getD i ⟨[], []⟩).bytes.length ≤ N * 1048576 ∧ (fs.getD i ⟨[], []⟩).pieces.length ≤ N := by
  rw [List.getD_eq_getElem?_getD]
  cases hg : fs[i]? with
  | none => exact ⟨Nat.zero_le _, Nat.zero_le _⟩
  | some f => exact h f (List.mem_of_getElem? hg)
theorem FOk.keep {fs : List FileS} {N : Nat} (h : FOk fs N) (i : Nat) (r : List Bool) : FOk (fs.set i (keepF (fs.getD i ⟨[], []⟩) r).1) N :=
  h.set ⟨Nat.le_trans (keepF_len _ r).1 (h.get i).1, by rw [(keepF_len _ r).2]; exact Nat.zero_le _⟩
def crS (s : DS) (m : List (ByteArray × Nat)) : DS := { s with now := m, sure := m, chg := [] }
theorem crS_ok {s : DS} {N : Nat} (h : DB s N) (keep : List Bool) : DB (crS s (crashN s.chg keep s.sure).1) N := by
  obtain ⟨h1, h2, h3⟩ := crashN_ok s.chg keep s.sure h.ws h.wc h.ns
  have h4 := h.c1
  exact ⟨h1, h1, (fun c hc => by cases hc), h.f1, (by show (crashN s.chg keep s.sure).1.length ≤ N; omega), (by show (crashN s.chg keep s.sure).1.length + 0 ≤ N; omega), h.b1, h.p1, h.q0, h.q1, h.k0, h.k1, h.u0, h.u1, h3, h3⟩
theorem keep_at (B : Ctx) (fb : List Nat) (fs : List FileS) (i g : Nat) (R : Assn) (r : List Bool) (hi : i < fs.length) (hbl : (fs.getD i ⟨[], []⟩).pieces.length ≤ 1099511627775) (hT : (fs.getD i ⟨[], []⟩).bytes.length ≤ 1099511627776) :
    Tri Try.prog B 79 #[ptF fb i, .func (.func 76) #[] #[.pointer (some ⟨g, 0, none⟩)]] [filesA B fb fs, nextA B g R r, R] (fun u M => u = .tuple #[] ∧ M = [filesA B fb (fs.set i (keepF (fs.getD i ⟨[], []⟩) r).1), nextA B g R (keepF (fs.getD i ⟨[], []⟩) r).2, R]) := by
  have hf : fs[i]? = some (fs.getD i ⟨[], []⟩) := by rw [List.getD_eq_getElem?_getD, List.getElem?_eq_getElem hi]; rfl
  refine tri_pure (φ := fb.length = fs.length) 0 rfl files_len fun hl => ?_
  refine tri_pre (pre' := [fileA B (fb.getD i 0) (fs.getD i ⟨[], []⟩), nextA B g R r, R, Star ((List.zipWith (fileA B) fb fs).eraseIdx i)]) ?_ (fun F w h => (files_open hf h).pick [0, 2, 3, 1, 4] ⟨rfl, rfl, rfl, rfl, rfl, trivial⟩ (by decide))
  refine tri_ex fun x hx => ?_
  obtain ⟨sv, pw, ps⟩ := x
  refine tri_postm (tri_frame [Star ((List.zipWith (fileA B) fb fs).eraseIdx i)] (keep_tri B (fb.getD i 0) g (fs.getD i ⟨[], []⟩) sv pw ps R r hx hbl hT)) ?_
  rintro u M ⟨N, ⟨rfl, rfl⟩, rfl⟩
  exact ⟨_, ⟨rfl, rfl⟩, fun F w h => files_close hl hi (h.pick [0, 3, 1, 2, 4] ⟨rfl, rfl, rfl, rfl, rfl, trivial⟩ (by decide))⟩
theorem crash_eq {s : DS} {keep r r2 : List Bool} {sm : List (ByteArray × Nat)} {fs1 : List FileS} (h1 : crashN s.chg keep s.sure = (sm, r)) (h2 : crashF sm (sortB (akeys sm)) s.fs r = (fs1, r2)) : crashS keep s = ⟨fs1, sm, sm, [], s.quota, 0, false, -1, false⟩ := by
  unfold crashS; rw [h1]; simp only; rw [h2]
theorem isSlice_85 : isSlice Try.prog 85 = true := by kernel_rfl
theorem agg_82 : aggOk Try.prog 82 4 = true := by kernel_rfl
theorem enters_79 : Enters Try.prog 79 := enters_of Try.func79 (by kernel_rfl) (by kernel_rfl)
theorem one_20 : oneOk Try.prog 20 = true := by kernel_rfl
set_option maxRecDepth 100000 in
set_option maxHeartbeats 8000000 in
theorem crash_tri (B : Ctx) (d n su : Nat) (cv : Value) (fb : List Nat) (s : DS) (ka : Option Addr) (kc : Nat) (keep : List Bool) (R : Assn) (N : Nat) (hs : DB s N) (hN : N ≤ 1000000) (hfb : fb.length = s.fs.length) (hR : Rd B R 1 (.slice ka keep.length kc) keep.length (keep.map .bool)) (hkc : keep.length ≤ kc) :
    Tri Try.prog B 35 #[.pointer (some ⟨d, 0, none⟩), .slice ka keep.length kc] [pt d (.cells #[.int .i64 s.count, .bool s.done, .int .i64 s.fuse, .bool s.off, .int .i64 s.quota, .map (some n), .map (some su), cv] 87 (0, 0)), mapA encS n (pv fb s.now), mapA encS su (pv fb s.sure), row 20 1 cv s.chg.length (s.chg.map (chgV fb)), filesA B fb s.fs, R] (fun u M => ∃ n' su' cv' fb', fb'.length = (crashS keep s).fs.length ∧ u = .tuple #[] ∧ M = DL B d n' su' cv' fb' (crashS keep s) ++ [R]) := by
  refine tri_body (n := 61) Try.func35 rfl rfl rfl ?_
  intro F
  show WC _ _ _ _ _ _ _ [(0, .pointer (some ⟨d, 0, none⟩)), (1, .slice ka keep.length kc)] [pt d (.cells #[.int .i64 s.count, .bool s.done, .int .i64 s.fuse, .bool s.off, .int .i64 s.quota, .map (some n), .map (some su), cv] 87 (0, 0)), mapA encS n (pv fb s.now), mapA encS su (pv fb s.sure), row 20 1 cv s.chg.length (s.chg.map (chgV fb)), filesA B fb s.fs, R, F]
  have hs0 := hs
  obtain ⟨hwn, hws, hwc, hf1, hn1, hc1, hb1, hp1, hq0, hq1, hk0, hk1, hu0, hu1, hnn, hns⟩ := hs
  refine wc_seq ?_
  refine wc_region ?_
  refine wl_do trivial rfl (do_box rfl rfl) ?_
  rintro _ _ ⟨b1, rfl, rfl⟩
  refine wl_nil ?_
  refine at_then ?_
  refine wc_seq ?_
  refine wc_seq ?_
  refine wc_region ?_
  refine wl_1 trivial rfl (do_move rfl) ?_
  refine wl_do trivial rfl (do_call (none_made B d n su cv s.count s.fuse s.quota s.done s.off) ⟨rfl, trivial⟩ enters_72 [1] [0, 2, 3, 4, 5, 6, 7] ⟨rfl, trivial⟩ ⟨rfl, rfl, rfl, rfl, rfl, rfl, rfl, trivial⟩ (R := [_, _, _, _, _, _, _]) (by decide)) ?_
  rintro _ _ ⟨_, ⟨rfl, rfl⟩, rfl⟩
  refine wl_nil ?_
  refine at_then ?_
  refine wc_false rfl ?_
  refine wc_skip ?_
  refine at_then ?_
  refine wc_seq ?_
  refine wc_region ?_
  refine wl_mem (L' := [nextA B b1 R keep, pt d (.cells #[.int .i64 s.count, .bool s.done, .int .i64 s.fuse, .bool s.off, .int .i64 s.quota, .map (some n), .map (some su), cv] 87 (0, 0)), mapA encS n (pv fb s.now), mapA encS su (pv fb s.sure), row 20 1 cv s.chg.length (s.chg.map (chgV fb)), filesA B fb s.fs, R, F]) (fun w_ h_ => ex_put (φ := fun kv : Value => Rd B R 1 kv keep.length (keep.map .bool) ∧ ∃ a cap, kv = .slice a keep.length cap ∧ keep.length ≤ cap) (As := fun kv => [pt b1 (.cells #[kv] 65 (0, 0))]) (.slice ka keep.length kc) ⟨hR, ka, kc, rfl, hkc⟩ (h_.pick (M := [pt b1 (.cells #[.slice ka keep.length kc] 65 (0, 0)), pt d (.cells #[.int .i64 s.count, .bool s.done, .int .i64 s.fuse, .bool s.off, .int .i64 s.quota, .map (some n), .map (some su), cv] 87 (0, 0)), mapA encS n (pv fb s.now), mapA encS su (pv fb s.sure), row 20 1 cv s.chg.length (s.chg.map (chgV fb)), filesA B fb s.fs, R, F]) [1, 0, 2, 3, 4, 5, 6, 7] ⟨rfl, rfl, rfl, rfl, rfl, rfl, rfl, rfl, trivial⟩ (by decide))) ?_
  refine wl_1 trivial rfl (do_makeFunc (vs := []) (us := [.pointer (some ⟨b1, 0, none⟩)]) trivial ⟨rfl, trivial⟩) ?_
  refine wl_1 trivial rfl (do_assign rfl) ?_
  refine wl_nil ?_
  refine at_then ?_
  refine wc_seq ?_
  refine wc_seq ?_
  refine wc_region ?_
  refine wl_1 trivial rfl (do_move rfl) ?_
  refine wl_1 trivial rfl (do_nilCheck rfl) ?_
  refine wl_1 trivial rfl (do_fieldAddr (k := 7) (k' := 7) fo_87_4 rfl (by rfl)) ?_
  refine wl_1 trivial rfl (do_load 1 rfl one_85 rfl rfl) ?_
  refine wl_1 trivial rfl (do_lenRow 4 rfl isSlice_85 rfl rfl) ?_
  refine wl_1 trivial rfl (do_move rfl) ?_
  refine wl_nil ?_
  refine at_then ?_
  refine wc_block ?_
  refine wc_mem (fun w_ h_ => h_.pick (M := [pt d (.cells #[.int .i64 s.count, .bool s.done, .int .i64 s.fuse, .bool s.off, .int .i64 s.quota, .map (some n), .map (some su), cv] 87 (0, 0)), mapA encS n (pv fb s.now), mapA encS su (pv fb s.sure), row 20 1 cv s.chg.length (s.chg.map (chgV fb)), filesA B fb s.fs, nextA B b1 R keep, R, F]) [1, 2, 3, 4, 5, 0, 6, 7] ⟨rfl, rfl, rfl, rfl, rfl, rfl, rfl, rfl, trivial⟩ (by decide)) ?_
  refine wc_loop (fun (z_ : Nat × List Bool × List (ByteArray × Nat)) => match z_ with | (k, r, sm) => k ≤ s.chg.length ∧ crashN s.chg keep s.sure = crashN (s.chg.drop k) r sm) (fun (z_ : Nat × List Bool × List (ByteArray × Nat)) => match z_ with | (k, r, sm) => [(0, .pointer (some ⟨d, 0, none⟩)), (4, .func (.func 76) #[] #[.pointer (some ⟨b1, 0, none⟩)]), (15, cv), (16, .int .i64 ((s.chg.length : Nat) : Int)), (17, .int .i64 ((k : Nat) : Int))]) (fun (z_ : Nat × List Bool × List (ByteArray × Nat)) => match z_ with | (k, r, sm) => [pt d (.cells #[.int .i64 s.count, .bool s.done, .int .i64 s.fuse, .bool s.off, .int .i64 s.quota, .map (some n), .map (some su), cv] 87 (0, 0)), mapA encS n (pv fb s.now), mapA encS su (pv fb sm), row 20 1 cv s.chg.length (s.chg.map (chgV fb)), filesA B fb s.fs, nextA B b1 R r, R, F]) (fun (z_ : Nat × List Bool × List (ByteArray × Nat)) => match z_ with | (k, r, sm) => s.chg.length - k) (0, keep, s.sure) ⟨Nat.zero_le _, rfl⟩ ⟨rfl, rfl, rfl, rfl, rfl, trivial⟩ rfl ?_
  rintro ⟨k, r, sm⟩ hphi
  obtain ⟨hk, hcr⟩ := hphi
  show WC _ _ _ _ _ _ _ [(0, .pointer (some ⟨d, 0, none⟩)), (4, .func (.func 76) #[] #[.pointer (some ⟨b1, 0, none⟩)]), (15, cv), (16, .int .i64 ((s.chg.length : Nat) : Int)), (17, .int .i64 ((k : Nat) : Int))] [pt d (.cells #[.int .i64 s.count, .bool s.done, .int .i64 s.fuse, .bool s.off, .int .i64 s.quota, .map (some n), .map (some su), cv] 87 (0, 0)), mapA encS n (pv fb s.now), mapA encS su (pv fb sm), row 20 1 cv s.chg.length (s.chg.map (chgV fb)), filesA B fb s.fs, nextA B b1 R r, R, F]
  refine wc_seq ?_
  refine wc_region ?_
  obtain ⟨c2, h_c2⟩ : ∃ c : Bool, cmpB .lss ((k : Nat) : Int) ((s.chg.length : Nat) : Int) = some c := ⟨_, rfl⟩
  refine wl_1 trivial rfl (do_cmp rfl rfl h_c2) ?_
  refine wl_nil ?_
  refine at_then ?_
  refine wc_seq ?_
  cases c2
  · have p_c2 := cmp_lss_f h_c2
    refine wc_false rfl ?_
    refine wc_exit ?_
    refine at_then_exit ?_
    refine at_then_exit ?_
    refine at_block_it ?_
    refine at_then ?_
    refine wc_seq ?_
    refine wc_region ?_
    refine wl_1 trivial rfl (do_move rfl) ?_
    refine wl_1 trivial rfl (do_move rfl) ?_
    refine wl_1 trivial rfl (do_move rfl) ?_
    refine wl_1 trivial rfl (do_nilCheck rfl) ?_
    refine wl_1 trivial rfl (do_fieldAddr (k := 6) (k' := 6) fo_87_3 rfl (by rfl)) ?_
    refine wl_1 trivial rfl (do_load 0 rfl one_84 rfl rfl) ?_
    refine wl_do trivial rfl (do_call (mclone_tri B su (pv fb sm)) ⟨rfl, trivial⟩ enters_78 [2] [0, 1, 3, 4, 5, 6, 7] ⟨rfl, trivial⟩ ⟨rfl, rfl, rfl, rfl, rfl, rfl, rfl, trivial⟩ (R := [_, _, _, _, _, _, _]) (by decide)) ?_
    rintro _ _ ⟨_, ⟨r3, rfl, rfl⟩, rfl⟩
    refine wl_1 trivial rfl (do_nilCheck rfl) ?_
    refine wl_1 trivial rfl (do_fieldAddr (k := 5) (k' := 5) fo_87_2 rfl (by rfl)) ?_
    refine wl_1 trivial rfl (do_store (L1 := [_, _]) rfl rfl one_84 rfl rfl (cs' := #[.int .i64 s.count, .bool s.done, .int .i64 s.fuse, .bool s.off, .int .i64 s.quota, .map (some r3), .map (some su), cv]) rfl) ?_
    refine wl_1 trivial rfl (do_nilCheck rfl) ?_
    refine wl_1 trivial rfl (do_fieldAddr (k := 7) (k' := 7) fo_87_4 rfl (by rfl)) ?_
    refine wl_1 trivial rfl (do_store (L1 := [_, _]) rfl rfl one_85 rfl rfl (cs' := #[.int .i64 s.count, .bool s.done, .int .i64 s.fuse, .bool s.off, .int .i64 s.quota, .map (some r3), .map (some su), .slice none 0 0]) rfl) ?_
    refine wl_nil ?_
    refine at_then ?_
    refine wc_seq ?_
    refine wc_seq ?_
    refine wc_region ?_
    refine wl_1 trivial rfl (do_move rfl) ?_
    have hcr2 : crashN s.chg keep s.sure = (sm, r) := hcr.trans (by rw [List.drop_eq_nil_of_le (show s.chg.length ≤ k by omega)]; rfl)
    have hs1 : DB (crS s sm) N := by have h_ := crS_ok hs0 keep; rw [hcr2] at h_; exact h_
    have hs1n := hs1.n1
    refine wl_do trivial rfl (do_call (list_tri B d r3 su (.slice none 0 0) fb (crS s sm) N hs1 hN) ⟨rfl, trivial⟩ enters_33 [2, 1] [0, 3, 4, 5, 6, 7, 8] ⟨rfl, rfl, trivial⟩ ⟨rfl, rfl, rfl, rfl, rfl, rfl, rfl, trivial⟩ (R := [_, _, _, _, _, _, _]) (by decide)) ?_
    rintro _ _ ⟨_, ⟨x4, rfl, rfl⟩, rfl⟩
    refine wl_1 trivial rfl (do_lenRow 2 rfl isSlice_39 rfl rfl) ?_
    refine wl_1 trivial rfl (do_move rfl) ?_
    refine wl_nil ?_
    refine at_then ?_
    refine wc_block ?_
    refine wc_mem (fun w_ h_ => h_.pick (M := [pt d (.cells #[.int .i64 s.count, .bool s.done, .int .i64 s.fuse, .bool s.off, .int .i64 s.quota, .map (some r3), .map (some su), .slice none 0 0] 87 (0, 0)), mapA encS r3 (pv fb sm), mapA encS su (pv fb sm), filesA B fb s.fs, nextA B b1 R r, R, row 9 1 x4 ((crS s sm).now.length) ((sortB (akeys (crS s sm).now)).map .string), F]) [0, 1, 3, 6, 7, 8, 2, 9] ⟨rfl, rfl, rfl, rfl, rfl, rfl, rfl, rfl, trivial⟩ (by decide)) ?_
    refine wc_loop (fun (z_ : Nat × List FileS × List Bool) => match z_ with | (k2, fs1, r2) => k2 ≤ (crS s sm).now.length ∧ crashF sm (sortB (akeys (crS s sm).now)) s.fs r = crashF sm ((sortB (akeys (crS s sm).now)).drop k2) fs1 r2 ∧ FOk fs1 N ∧ fs1.length = s.fs.length) (fun (z_ : Nat × List FileS × List Bool) => match z_ with | (k2, fs1, r2) => [(0, .pointer (some ⟨d, 0, none⟩)), (4, .func (.func 76) #[] #[.pointer (some ⟨b1, 0, none⟩)]), (42, x4), (43, .int .i64 (((crS s sm).now.length : Nat) : Int)), (44, .int .i64 ((k2 : Nat) : Int))]) (fun (z_ : Nat × List FileS × List Bool) => match z_ with | (k2, fs1, r2) => [pt d (.cells #[.int .i64 s.count, .bool s.done, .int .i64 s.fuse, .bool s.off, .int .i64 s.quota, .map (some r3), .map (some su), .slice none 0 0] 87 (0, 0)), mapA encS r3 (pv fb sm), mapA encS su (pv fb sm), filesA B fb fs1, nextA B b1 R r2, R, row 9 1 x4 ((crS s sm).now.length) ((sortB (akeys (crS s sm).now)).map .string), F]) (fun (z_ : Nat × List FileS × List Bool) => match z_ with | (k2, fs1, r2) => (crS s sm).now.length - k2) (0, s.fs, r) ⟨Nat.zero_le _, rfl, fun f hf => ⟨hs0.b1 f hf, hs0.p1 f hf⟩, rfl⟩ ⟨rfl, rfl, rfl, rfl, rfl, trivial⟩ rfl ?_
    rintro ⟨k2, fs1, r2⟩ hphi
    obtain ⟨hk2, hcf, hfo, hfl⟩ := hphi
    show WC _ _ _ _ _ _ _ [(0, .pointer (some ⟨d, 0, none⟩)), (4, .func (.func 76) #[] #[.pointer (some ⟨b1, 0, none⟩)]), (42, x4), (43, .int .i64 (((crS s sm).now.length : Nat) : Int)), (44, .int .i64 ((k2 : Nat) : Int))] [pt d (.cells #[.int .i64 s.count, .bool s.done, .int .i64 s.fuse, .bool s.off, .int .i64 s.quota, .map (some r3), .map (some su), .slice none 0 0] 87 (0, 0)), mapA encS r3 (pv fb sm), mapA encS su (pv fb sm), filesA B fb fs1, nextA B b1 R r2, R, row 9 1 x4 ((crS s sm).now.length) ((sortB (akeys (crS s sm).now)).map .string), F]
    have hsl := now_len (crS s sm)
    refine wc_seq ?_
    refine wc_region ?_
    obtain ⟨c5, h_c5⟩ : ∃ c : Bool, cmpB .lss ((k2 : Nat) : Int) (((crS s sm).now.length : Nat) : Int) = some c := ⟨_, rfl⟩
    refine wl_1 trivial rfl (do_cmp rfl rfl h_c5) ?_
    refine wl_nil ?_
    refine at_then ?_
    refine wc_seq ?_
    cases c5
    · have p_c5 := cmp_lss_f h_c5
      refine wc_false rfl ?_
      refine wc_exit ?_
      refine at_then_exit ?_
      refine at_then_exit ?_
      refine at_block_it ?_
      refine at_then ?_
      refine wc_region ?_
      refine wl_1 trivial rfl (do_move rfl) ?_
      refine wl_1 trivial rfl (do_build (ps := [(2, .int .i64 (-1))]) ⟨rfl, rfl, trivial⟩ (build_82 rfl)) ?_
      refine wl_1 trivial rfl (do_nilCheck rfl) ?_
      refine wl_1 trivial rfl (do_fieldAddr (k := 0) (k' := 0) fo_87_0 rfl (by rfl)) ?_
      refine wl_1 trivial rfl (do_storeL (L1 := []) rfl rfl agg_82 rfl (cs' := #[.int .i64 0, .bool false, .int .i64 (-1), .bool false, .int .i64 s.quota, .map (some r3), .map (some su), .slice none 0 0]) rfl trivial) ?_
      refine wl_nil ?_
      refine at_mem (L' := [row 20 1 (.slice none 0 0) 0 ([]), pt d (.cells #[.int .i64 0, .bool false, .int .i64 (-1), .bool false, .int .i64 s.quota, .map (some r3), .map (some su), .slice none 0 0] 87 (0, 0)), mapA encS r3 (pv fb sm), mapA encS su (pv fb sm), filesA B fb fs1, nextA B b1 R r2, R, row 9 1 x4 ((crS s sm).now.length) ((sortB (akeys (crS s sm).now)).map .string), F]) (fun w_ h_ => h_.intro row_nil) ?_
      refine at_pick (M := [_, _, _, _, _, _, _]) [1, 2, 3, 0, 4, 6, 8] ⟨rfl, rfl, rfl, rfl, rfl, rfl, rfl, trivial⟩ (by decide) ?_
      exact at_end0 (M := [_, _, _, _, _, _]) rfl (by have hq : crashF sm (sortB (akeys (crS s sm).now)) s.fs r = (fs1, r2) := hcf.trans (by rw [List.drop_eq_nil_of_le (show (sortB (akeys (crS s sm).now)).length ≤ k2 by omega)]; rfl); exact ⟨r3, su, .slice none 0 0, fb, by rw [crash_eq hcr2 hq]; exact hfb.trans hfl.symm, rfl, by rw [crash_eq hcr2 hq]; rfl⟩) rfl
    · have p_c5 := cmp_lss_t h_c5
      refine wc_true rfl ?_
      refine wc_skip ?_
      refine at_then ?_
      refine wc_seq ?_
      refine wc_block ?_
      refine wc_seq ?_
      refine wc_region ?_
      refine wl_fact 6 rfl (row_some (by omega)) ?_
      rintro ⟨g6, cap7, rfl⟩
      refine wl_1 trivial rfl (do_indexAddr (j := k2) (p := k2) und_39 ty_9 rfl rfl rfl (by omega) (by omega)) ?_
      obtain ⟨y8, hy9⟩ : ∃ y, (sortB (akeys (crS s sm).now))[k2]? = some y := ⟨_, List.getElem?_eq_getElem (by omega)⟩
      obtain ⟨iu, hiu'⟩ := in_now (List.mem_of_getElem? hy9)
      have hiu : aget sm y8 = some iu := hiu'
      refine wl_1 trivial rfl (do_loadR (j := k2) 6 rfl one_9 rfl row_R (by omega) (str_at hy9)) ?_
      refine wl_1 trivial rfl (do_assign rfl) ?_
      refine wl_nil ?_
      refine at_then ?_
      refine wc_region ?_
      refine wl_1 trivial rfl (do_move rfl) ?_
      refine wl_1 trivial rfl (do_nilCheck rfl) ?_
      refine wl_1 trivial rfl (do_fieldAddr (k := 5) (k' := 5) fo_87_2 rfl (by rfl)) ?_
      refine wl_1 trivial rfl (do_load 0 rfl one_84 rfl rfl) ?_
      refine wl_1 trivial rfl (do_move rfl) ?_
      refine wl_1 trivial rfl (do_lookup1S und_84 key_9 zero_123 1 rfl rfl rfl (by rw [pv_get, hiu]; rfl)) ?_
      refine wl_1 trivial rfl (do_move rfl) ?_
      refine wl_do trivial rfl (do_call (keep_at B fb fs1 iu b1 R r2 (by rw [hfl]; exact (hs1.has hiu')) (by have := (hfo.get iu).2; omega) (by have := (hfo.get iu).1; omega)) ⟨rfl, rfl, trivial⟩ enters_79 [3, 4, 5] [0, 1, 2, 6, 7] ⟨rfl, rfl, rfl, trivial⟩ ⟨rfl, rfl, rfl, rfl, rfl, trivial⟩ (R := [_, _, _, _, _]) (by decide)) ?_
      rintro _ _ ⟨_, ⟨rfl, rfl⟩, rfl⟩
      refine wl_nil ?_
      refine at_block ?_
      refine at_then ?_
      refine wc_region ?_
      refine wl_1 trivial rfl (do_add (r := ((k2 + 1 : Nat) : Int)) rfl rfl (wrap_nat (by omega) (by omega))) ?_
      refine wl_1 trivial rfl (do_move rfl) ?_
      refine wl_nil ?_
      refine at_pick (M := [_, _, _, _, _, _, _, _]) [3, 4, 5, 0, 1, 2, 6, 7] ⟨rfl, rfl, rfl, rfl, rfl, rfl, rfl, rfl, trivial⟩ (by decide) ?_
      have hphi : k2 + 1 ≤ (crS s sm).now.length ∧ crashF sm (sortB (akeys (crS s sm).now)) s.fs r = crashF sm ((sortB (akeys (crS s sm).now)).drop (k2 + 1)) (fs1.set iu (keepF (fs1.getD iu ⟨[], []⟩) r2).1) (keepF (fs1.getD iu ⟨[], []⟩) r2).2 ∧ FOk (fs1.set iu (keepF (fs1.getD iu ⟨[], []⟩) r2).1) N ∧ (fs1.set iu (keepF (fs1.getD iu ⟨[], []⟩) r2).1).length = s.fs.length := ⟨by omega, by rw [hcf, crashF_step hy9 hiu], hfo.keep iu r2, by simpa using hfl⟩
      exact at_round (k2 + 1, fs1.set iu (keepF (fs1.getD iu ⟨[], []⟩) r2).1, (keepF (fs1.getD iu ⟨[], []⟩) r2).2) hphi (by show (crS s sm).now.length - (k2 + 1) < (crS s sm).now.length - k2; omega) ⟨rfl, rfl, rfl, rfl, rfl, trivial⟩ rfl
  · have p_c2 := cmp_lss_t h_c2
    refine wc_true rfl ?_
    refine wc_skip ?_
    refine at_then ?_
    refine wc_seq ?_
    refine wc_block ?_
    refine wc_seq ?_
    refine wc_region ?_
    refine wl_fact 3 rfl (row_some (by omega)) ?_
    rintro ⟨g10, cap11, rfl⟩
    refine wl_1 trivial rfl (do_indexAddr (j := k) (p := k) und_85 ty_20 rfl rfl rfl (by omega) (by omega)) ?_
    obtain ⟨c12, hc13⟩ : ∃ c, s.chg[k]? = some c := ⟨_, List.getElem?_eq_getElem (by omega)⟩
    refine wl_1 trivial rfl (do_loadR (j := k) 3 rfl one_20 rfl row_R (by omega) (by rw [List.getElem?_map, hc13]; rfl)) ?_
    refine wl_1 trivial rfl (do_assign rfl) ?_
    refine wl_nil ?_
    refine at_then ?_
    refine wc_seq ?_
    refine wc_region ?_
    refine wl_1 trivial rfl (do_move rfl) ?_
    refine wl_do trivial rfl (do_callv (vs := []) rfl (next_tri B b1 R r) rfl trivial enters_76 [5, 6] [0, 1, 2, 3, 4, 7] ⟨rfl, rfl, trivial⟩ ⟨rfl, rfl, rfl, rfl, rfl, rfl, trivial⟩ (R := [_, _, _, _, _, _]) (by decide)) ?_
    rintro _ _ ⟨_, ⟨rfl, rfl⟩, rfl⟩
    refine wl_nil ?_
    refine at_then ?_
    cases hb14 : (r.headD false)
    · skip
      refine wc_false rfl ?_
      refine wc_skip ?_
      refine at_block ?_
      refine at_then ?_
      refine wc_region ?_
      refine wl_1 trivial rfl (do_add (r := ((k + 1 : Nat) : Int)) rfl rfl (wrap_nat (by omega) (by omega))) ?_
      refine wl_1 trivial rfl (do_move rfl) ?_
      refine wl_nil ?_
      refine at_pick (M := [_, _, _, _, _, _, _, _]) [2, 3, 4, 5, 6, 0, 1, 7] ⟨rfl, rfl, rfl, rfl, rfl, rfl, rfl, rfl, trivial⟩ (by decide) ?_
      have hphi : k + 1 ≤ s.chg.length ∧ crashN s.chg keep s.sure = crashN (s.chg.drop (k + 1)) r.tail sm := ⟨by omega, by rw [hcr, crashN_step hc13, hb14]; rfl⟩
      exact at_round (k + 1, r.tail, sm) hphi (by show s.chg.length - (k + 1) < s.chg.length - k; omega) ⟨rfl, rfl, rfl, rfl, rfl, trivial⟩ rfl
    · skip
      refine wc_true rfl ?_
      refine wc_region ?_
      refine wl_1 trivial rfl (do_move rfl) ?_
      refine wl_1 trivial rfl (do_nilCheck rfl) ?_
      refine wl_1 trivial rfl (do_fieldAddr (k := 6) (k' := 6) fo_87_3 rfl (by rfl)) ?_
      refine wl_1 trivial rfl (do_load 2 rfl one_84 rfl rfl) ?_
      refine wl_1 trivial rfl (do_move rfl) ?_
      refine wl_do trivial rfl (do_call (do_tri B su fb sm c12) ⟨rfl, rfl, trivial⟩ enters_77 [4] [0, 1, 2, 3, 5, 6, 7] ⟨rfl, trivial⟩ ⟨rfl, rfl, rfl, rfl, rfl, rfl, rfl, trivial⟩ (R := [_, _, _, _, _, _, _]) (by decide)) ?_
      rintro _ _ ⟨_, ⟨rfl, rfl⟩, rfl⟩
      refine wl_nil ?_
      refine at_block ?_
      refine at_then ?_
      refine wc_region ?_
      refine wl_1 trivial rfl (do_add (r := ((k + 1 : Nat) : Int)) rfl rfl (wrap_nat (by omega) (by omega))) ?_
      refine wl_1 trivial rfl (do_move rfl) ?_
      refine wl_nil ?_
      refine at_pick (M := [_, _, _, _, _, _, _, _]) [3, 4, 0, 5, 6, 1, 2, 7] ⟨rfl, rfl, rfl, rfl, rfl, rfl, rfl, rfl, trivial⟩ (by decide) ?_
      have hphi : k + 1 ≤ s.chg.length ∧ crashN s.chg keep s.sure = crashN (s.chg.drop (k + 1)) r.tail (doC sm c12) := ⟨by omega, by rw [hcr, crashN_step hc13, hb14]; rfl⟩
      exact at_round (k + 1, r.tail, doC sm c12) hphi (by show s.chg.length - (k + 1) < s.chg.length - k; omega) ⟨rfl, rfl, rfl, rfl, rfl, trivial⟩ rfl
end Go.Proofs.Ytmefejfnddcelaa
