/- Printed by a program of this claim's: what each of these functions of the program does, as its theorem says. No condition but what stands in each theorem. -/
import Derived.Test.YtmefejfnddcelaaDi
namespace Go.Proofs.Ytmefejfnddcelaa
/-- The disk, as one part of memory. -/
def diskA (B : Ctx) (d : Nat) (s : DS) : Assn := Ex (fun x : Nat × Nat × Value × List Nat => x.2.2.2.length = s.fs.length) fun x => DL B d x.1 x.2.1 x.2.2.1 x.2.2.2 s
theorem disk_put {B : Ctx} {d n su : Nat} {cv : Value} {fb : List Nat} {s : DS} {R : List Assn} {w : World} (hl : fb.length = s.fs.length) (h : Sat B (DL B d n su cv fb s ++ R) w) : Sat B (diskA B d s :: R) w :=
  ex_put (φ := fun x : Nat × Nat × Value × List Nat => x.2.2.2.length = s.fs.length) (As := fun x => DL B d x.1 x.2.1 x.2.2.1 x.2.2.2 s) (n, su, cv, fb) hl h
theorem DB.more {s : DS} {N M : Nat} (h : DB s N) (hm : N ≤ M) : DB s M :=
  ⟨h.wn, h.ws, h.wc, Nat.le_trans h.f1 hm, Nat.le_trans h.n1 hm, Nat.le_trans h.c1 hm, fun f hf => Nat.le_trans (h.b1 f hf) (Nat.mul_le_mul_right _ hm), fun f hf => Nat.le_trans (h.p1 f hf) hm, h.q0, h.q1, h.k0, h.k1, h.u0, h.u1, h.nn, h.ns⟩
/-- Another disk of the same files, names and changes. -/
theorem DB.same {s s' : DS} {N : Nat} (h : DB s N) (e1 : s'.fs = s.fs) (e2 : s'.now = s.now) (e3 : s'.sure = s.sure) (e4 : s'.chg = s.chg) (e5 : s'.quota = s.quota) (k0 : 0 ≤ s'.count) (k1 : s'.count ≤ 9223372036854775807) (u0 : -1 ≤ s'.fuse) (u1 : s'.fuse ≤ 9223372036854775807) : DB s' N :=
  ⟨by rw [e1, e2]; exact h.wn, by rw [e1, e3]; exact h.ws, by rw [e1, e4]; exact h.wc, by rw [e1]; exact h.f1, by rw [e2]; exact h.n1, by rw [e3, e4]; exact h.c1, by rw [e1]; exact h.b1, by rw [e1]; exact h.p1, by rw [e5]; exact h.q0, by rw [e5]; exact h.q1, k0, k1, u0, u1, by rw [e2]; exact h.nn, by rw [e3]; exact h.ns⟩
theorem opS_num {s : DS} (hk0 : 0 ≤ s.count) (hk1 : s.count ≤ 9223372036854775807) (hu0 : -1 ≤ s.fuse) (hu1 : s.fuse ≤ 9223372036854775807) : 0 ≤ (opS s).2.2.count ∧ (opS s).2.2.count ≤ 9223372036854775807 ∧ -1 ≤ (opS s).2.2.fuse ∧ (opS s).2.2.fuse ≤ 9223372036854775807 := by
  unfold opS
  split
  · exact ⟨hk0, hk1, hu0, hu1⟩
  · simp only
    have hf : -1 ≤ (if 0 < s.fuse then s.fuse - 1 else s.fuse) ∧ (if 0 < s.fuse then s.fuse - 1 else s.fuse) ≤ 9223372036854775807 := by split <;> omega
    split
    · split
      · exact ⟨by show 0 ≤ s.count - 1; omega, by show s.count - 1 ≤ _; omega, hf.1, hf.2⟩
      · exact ⟨by show 0 ≤ s.count - 1; omega, by show s.count - 1 ≤ _; omega, hf.1, hf.2⟩
    · exact ⟨hk0, hk1, hf.1, hf.2⟩
theorem DB.op {s : DS} {N : Nat} (h : DB s N) : DB (opS s).2.2 N := by
  obtain ⟨h1, h2, h3, h4⟩ := opS_num h.k0 h.k1 h.u0 h.u1
  exact h.same (opS_fs s) (opS_now s) (opS_sure s) (opS_chg s) (opS_quota s) h1 h2 h3 h4
theorem DB.change {s : DS} {N : Nat} (h : DB s N) {c : ChgD} (hc : ∀ i, c.file = some i → i < s.fs.length) : DB (changeS c s).2 (N + 1) := by
  have ho := h.op
  show DB (if (opS s).2.1 then _ else _) _
  split
  · refine ⟨?_, ?_, ?_, ?_, ?_, ?_, ?_, ?_, ho.q0, ho.q1, ho.k0, ho.k1, ho.u0, ho.u1, ?_, ho.ns⟩
    · show ∀ q ∈ doC s.now c, q.2 < (opS s).2.2.fs.length
      rw [opS_fs]; exact doC_ids h.wn hc
    · exact ho.ws
    · show ∀ c' ∈ s.chg ++ [c], ∀ i, c'.file = some i → i < (opS s).2.2.fs.length
      rw [opS_fs]
      intro c' hc' i hi
      rcases List.mem_append.1 hc' with h1 | h1
      · exact h.wc c' h1 i hi
      · simp at h1; subst h1; exact hc i hi
    · exact Nat.le_succ_of_le ho.f1
    · have := doC_len s.now c; have := h.n1; show (doC s.now c).length ≤ _; omega
    · have := h.c1; show (opS s).2.2.sure.length + (s.chg ++ [c]).length ≤ _; rw [opS_sure]; simp; omega
    · intro f hf; exact Nat.le_trans (ho.b1 f hf) (Nat.mul_le_mul_right _ (Nat.le_succ N))
    · intro f hf; exact Nat.le_succ_of_le (ho.p1 f hf)
    · exact doC_nodup h.nn c
  · exact ho.more (Nat.le_succ N)
theorem DB.create {s : DS} {N : Nat} (h : DB s N) (name : ByteArray) : DB (createS name s).2 (N + 1) := by
  have hm := h.more (Nat.le_succ N)
  have ho := h.op
  unfold createS
  split
  · exact hm
  split
  · exact hm
  split
  · exact hm
  split
  · exact hm
  show DB (if (opS s).2.1 then _ else _) _
  split
  · refine ⟨?_, ?_, ?_, ?_, ?_, ?_, ?_, ?_, ho.q0, ho.q1, ho.k0, ho.k1, ho.u0, ho.u1, ?_, ho.ns⟩
    · show ∀ q ∈ doC s.now (.made name s.fs.length), q.2 < (s.fs ++ [(⟨[], []⟩ : FileS)]).length
      refine doC_ids (fun q hq => ?_) (fun i hi => ?_)
      · have := h.wn q hq; simp; omega
      · cases hi; simp
    · show ∀ q ∈ (opS s).2.2.sure, q.2 < (s.fs ++ [(⟨[], []⟩ : FileS)]).length
      rw [opS_sure]; intro q hq; have := h.ws q hq; simp; omega
    · show ∀ c' ∈ s.chg ++ [ChgD.made name s.fs.length], ∀ i, c'.file = some i → i < (s.fs ++ [(⟨[], []⟩ : FileS)]).length
      intro c' hc' i hi
      rcases List.mem_append.1 hc' with h1 | h1
      · have := h.wc c' h1 i hi; simp; omega
      · simp at h1; subst h1; cases hi; simp
    · have := h.f1; show (s.fs ++ [(⟨[], []⟩ : FileS)]).length ≤ _; simp; omega
    · have := doC_len s.now (.made name s.fs.length); have := h.n1; show (doC s.now (ChgD.made name s.fs.length)).length ≤ _; omega
    · have := h.c1; show (opS s).2.2.sure.length + (s.chg ++ [ChgD.made name s.fs.length]).length ≤ _; rw [opS_sure]; simp; omega
    · intro f hf
      rcases List.mem_append.1 hf with h1 | h1
      · exact Nat.le_trans (h.b1 f h1) (Nat.mul_le_mul_right _ (Nat.le_succ N))
      · simp at h1; subst h1; simp [FileS.bytes]
    · intro f hf
      rcases List.mem_append.1 hf with h1 | h1
      · exact Nat.le_succ_of_le (h.p1 f h1)
      · simp at h1; subst h1; simp
    · exact doC_nodup h.nn (ChgD.made name s.fs.length)
  · exact ho.more (Nat.le_succ N)
theorem DB.setF {s : DS} {N : Nat} (h : DB s N) {i : Nat} {f : FileS} (hb : f.bytes.length ≤ (N + 1) * 1048576) (hp : f.pieces.length ≤ N + 1) : DB { (opS s).2.2 with fs := s.fs.set i f } (N + 1) := by
  have ho := h.op
  refine ⟨?_, ?_, ?_, ?_, ?_, ?_, ?_, ?_, ho.q0, ho.q1, ho.k0, ho.k1, ho.u0, ho.u1, ho.nn, ho.ns⟩
  · show ∀ q ∈ (opS s).2.2.now, q.2 < (s.fs.set i f).length; rw [opS_now, List.length_set]; exact h.wn
  · show ∀ q ∈ (opS s).2.2.sure, q.2 < (s.fs.set i f).length; rw [opS_sure, List.length_set]; exact h.ws
  · show ∀ c ∈ (opS s).2.2.chg, ∀ j, c.file = some j → j < (s.fs.set i f).length; rw [opS_chg, List.length_set]; exact h.wc
  · have := h.f1; show (s.fs.set i f).length ≤ _; rw [List.length_set]; omega
  · exact Nat.le_succ_of_le ho.n1
  · exact Nat.le_succ_of_le ho.c1
  · intro g hg
    rcases List.mem_or_eq_of_mem_set hg with hg | rfl
    · exact Nat.le_trans (h.b1 g hg) (Nat.mul_le_mul_right _ (Nat.le_succ N))
    · exact hb
  · intro g hg
    rcases List.mem_or_eq_of_mem_set hg with hg | rfl
    · exact Nat.le_succ_of_le (h.p1 g hg)
    · exact hp
theorem DB.append {s : DS} {N : Nat} (h : DB s N) (name : ByteArray) (bs : List UInt8) : DB (appendS name bs s).2 (N + 1) := by
  have hm := h.more (Nat.le_succ N)
  have ho := h.op.more (Nat.le_succ N)
  unfold appendS
  split
  · exact hm
  split
  · exact hm
  · rename_i i hi
    split
    · exact hm
    · show DB (if (opS s).2.1 then _ else _) _
      split
      · split
        · have hf := h.file (h.has hi)
          have hq := h.q1
          refine h.setF ?_ ?_
          · have e : (⟨(fileD s i).sure, (fileD s i).pieces ++ [bs]⟩ : FileS).bytes = (fileD s i).bytes ++ bs := by simp [FileS.bytes]
            rw [e, List.length_append]; omega
          · show ((fileD s i).pieces ++ [bs]).length ≤ N + 1; simp; omega
        · exact ho
      · exact ho
theorem DB.rename {s : DS} {N : Nat} (h : DB s N) (a b : ByteArray) : DB (renameS a b s).2 (N + 1) := by
  have hm := h.more (Nat.le_succ N)
  unfold renameS
  split
  · exact hm
  split
  · exact hm
  split
  · exact hm
  · exact h.change (fun i hi => by cases hi)
theorem DB.remove {s : DS} {N : Nat} (h : DB s N) (a : ByteArray) : DB (removeS a s).2 (N + 1) := by
  have hm := h.more (Nat.le_succ N)
  unfold removeS
  split
  · exact hm
  split
  · exact hm
  · exact h.change (fun i hi => by cases hi)
theorem DB.sync {s : DS} {N : Nat} (h : DB s N) (name : ByteArray) : DB (syncS name s).2 (N + 1) := by
  have hm := h.more (Nat.le_succ N)
  have ho := h.op.more (Nat.le_succ N)
  unfold syncS
  split
  · exact hm
  split
  · exact hm
  · rename_i i hi
    show DB (if (opS s).2.1 then _ else _) _
    split
    · have hf := h.file (h.has hi)
      refine h.setF ?_ (Nat.zero_le _)
      have e : (⟨(fileD s i).bytes, []⟩ : FileS).bytes = (fileD s i).bytes := by simp [FileS.bytes]
      rw [e]; omega
    · exact ho
theorem DB.syncdir {s : DS} {N : Nat} (h : DB s N) : DB (syncdirS s).2 (N + 1) := by
  have hm := h.more (Nat.le_succ N)
  have ho := h.op
  unfold syncdirS
  split
  · exact hm
  · show DB (if (opS s).2.1 then _ else _) _
    split
    · refine ⟨ho.wn, ?_, (fun c hc => by cases hc), Nat.le_succ_of_le ho.f1, Nat.le_succ_of_le ho.n1, ?_, ?_, ?_, ho.q0, ho.q1, ho.k0, ho.k1, ho.u0, ho.u1, ho.nn, h.nn⟩
      · show ∀ q ∈ s.now, q.2 < (opS s).2.2.fs.length; rw [opS_fs]; exact h.wn
      · have := h.n1; show s.now.length + 0 ≤ _; omega
      · intro f hf; exact Nat.le_trans (ho.b1 f hf) (Nat.mul_le_mul_right _ (Nat.le_succ N))
      · intro f hf; exact Nat.le_succ_of_le (ho.p1 f hf)
    · exact ho.more (Nat.le_succ N)
def failS (k : Int) (yes : Bool) (s : DS) : DS := { s with count := max k 0, done := yes }
def cutS (k : Int) (s : DS) : DS := { s with fuse := max k (-1) }
theorem DB.fail {s : DS} {N : Nat} (h : DB s N) {k : Int} (hk : k ≤ 9223372036854775807) (yes : Bool) : DB (failS k yes s) N := h.same rfl rfl rfl rfl rfl (by show 0 ≤ max k 0; omega) (by show max k 0 ≤ _; omega) h.u0 h.u1
theorem DB.cut {s : DS} {N : Nat} (h : DB s N) {k : Int} (hk : k ≤ 9223372036854775807) : DB (cutS k s) N := h.same rfl rfl rfl rfl rfl h.k0 h.k1 (by show -1 ≤ max k (-1); omega) (by show max k (-1) ≤ _; omega)
theorem crashF_ok {m : List (ByteArray × Nat)} {N : Nat} : ∀ (ks : List ByteArray) (fs : List FileS) (r : List Bool), FOk fs N → FOk (crashF m ks fs r).1 N ∧ (crashF m ks fs r).1.length = fs.length
  | [], fs, r, h => ⟨h, rfl⟩
  | k :: ks, fs, r, h => by
    simp only [crashF]
    split
    · rename_i i hi
      have := crashF_ok (m := m) ks _ (keepF (fs.getD i ⟨[], []⟩) r).2 (h.keep i r)
      exact ⟨this.1, by rw [this.2, List.length_set]⟩
    · exact crashF_ok ks fs r h
theorem DB.crash {s : DS} {N : Nat} (h : DB s N) (keep : List Bool) : DB (crashS keep s) N := by
  have hc := crS_ok h keep
  obtain ⟨h1, h2⟩ := crashF_ok (m := (crashN s.chg keep s.sure).1) (sortB (akeys (crashN s.chg keep s.sure).1)) s.fs (crashN s.chg keep s.sure).2 (N := N) (fun f hf => ⟨h.b1 f hf, h.p1 f hf⟩)
  refine ⟨?_, ?_, (fun c hc => by cases hc), ?_, hc.n1, hc.c1, fun f hf => (h1 f hf).1, fun f hf => (h1 f hf).2, h.q0, h.q1, Int.le_refl 0, (by decide : (0 : Int) ≤ 9223372036854775807), (by decide : (-1 : Int) ≤ -1), (by decide : (-1 : Int) ≤ 9223372036854775807), hc.nn, hc.ns⟩
  · show ∀ q ∈ (crashN s.chg keep s.sure).1, q.2 < (crashF _ _ _ _).1.length; rw [h2]; exact hc.wn
  · show ∀ q ∈ (crashN s.chg keep s.sure).1, q.2 < (crashF _ _ _ _).1.length; rw [h2]; exact hc.ws
  · show (crashF _ _ _ _).1.length ≤ N; rw [h2]; exact h.f1
theorem DB.new {q : Int} (h0 : 1 ≤ q) (h1 : q ≤ 1048576) : DB (newD q) 0 :=
  ⟨(fun x hx => by cases hx), (fun x hx => by cases hx), (fun x hx => by cases hx), Nat.le_refl _, Nat.le_refl _, Nat.le_refl _, (fun f hf => by cases hf), (fun f hf => by cases hf), h0, h1, Int.le_refl 0, (by decide : (0 : Int) ≤ 9223372036854775807), (by decide : (-1 : Int) ≤ -1), (by decide : (-1 : Int) ≤ 9223372036854775807), .nil, .nil⟩
theorem d_create (B : Ctx) (d : Nat) (s : DS) (name : ByteArray) (N : Nat) (hs : DB s N) (hN : N ≤ 1000000) (hks : name.size ≤ 9223372036854775807) :
    Tri Try.prog B 40 #[.pointer (some ⟨d, 0, none⟩), .string name] [diskA B d s] (fun u M => u = .int .i64 (createS name s).1 ∧ M = [diskA B d ((createS name s).2)]) := by
  refine tri_ex fun x hfb => ?_
  obtain ⟨n, su, cv, fb⟩ := x
  refine tri_postm (create_tri B d n su cv fb s name N hs hN hfb hks) ?_
  rintro u M ⟨n', su', cv', fb', hl, rfl, rfl⟩
  exact ⟨_, ⟨rfl, rfl⟩, fun F w h => disk_put hl h⟩

theorem d_append (B : Ctx) (d : Nat) (s : DS) (name : ByteArray) (ba : Option Addr) (bc : Nat) (bs : List UInt8) (R : Assn) (N : Nat) (hs : DB s N) (hN : N ≤ 1000000) (hR : Rd B R 1 (.slice ba bs.length bc) bs.length (byv bs)) (hl : bs.length ≤ 9223372036854775807) :
    Tri Try.prog B 41 #[.pointer (some ⟨d, 0, none⟩), .string name, .slice ba bs.length bc] [diskA B d s, R] (fun u M => u = .int .i64 (appendS name bs s).1 ∧ M = [diskA B d ((appendS name bs s).2), R]) := by
  refine tri_ex fun x hfb => ?_
  obtain ⟨n, su, cv, fb⟩ := x
  refine tri_postm (append_tri B d n su cv fb s name ba bc bs R N hs hN hfb hR hl) ?_
  rintro u M ⟨n', su', cv', fb', hl, rfl, rfl⟩
  exact ⟨_, ⟨rfl, rfl⟩, fun F w h => disk_put hl (by rw [List.append_assoc] at h; exact h)⟩

theorem d_rename (B : Ctx) (d : Nat) (s : DS) (name to : ByteArray) (N : Nat) (hs : DB s N) (hN : N ≤ 1000000) (hks : to.size ≤ 9223372036854775807) :
    Tri Try.prog B 42 #[.pointer (some ⟨d, 0, none⟩), .string name, .string to] [diskA B d s] (fun u M => u = .int .i64 (renameS name to s).1 ∧ M = [diskA B d ((renameS name to s).2)]) := by
  refine tri_ex fun x hfb => ?_
  obtain ⟨n, su, cv, fb⟩ := x
  refine tri_postm (rename_tri B d n su cv fb s name to N hs hN hfb hks) ?_
  rintro u M ⟨n', su', cv', fb', hl, rfl, rfl⟩
  exact ⟨_, ⟨rfl, rfl⟩, fun F w h => disk_put hl h⟩

theorem d_remove (B : Ctx) (d : Nat) (s : DS) (name : ByteArray) (N : Nat) (hs : DB s N) (hN : N ≤ 1000000) :
    Tri Try.prog B 43 #[.pointer (some ⟨d, 0, none⟩), .string name] [diskA B d s] (fun u M => u = .int .i64 (removeS name s).1 ∧ M = [diskA B d ((removeS name s).2)]) := by
  refine tri_ex fun x hfb => ?_
  obtain ⟨n, su, cv, fb⟩ := x
  refine tri_postm (remove_tri B d n su cv fb s name N hs hN hfb) ?_
  rintro u M ⟨n', su', cv', fb', hl, rfl, rfl⟩
  exact ⟨_, ⟨rfl, rfl⟩, fun F w h => disk_put hl h⟩

theorem d_sync (B : Ctx) (d : Nat) (s : DS) (name : ByteArray) (N : Nat) (hs : DB s N) (hN : N ≤ 1000000) :
    Tri Try.prog B 44 #[.pointer (some ⟨d, 0, none⟩), .string name] [diskA B d s] (fun u M => u = .int .i64 (syncS name s).1 ∧ M = [diskA B d ((syncS name s).2)]) := by
  refine tri_ex fun x hfb => ?_
  obtain ⟨n, su, cv, fb⟩ := x
  refine tri_postm (sync_tri B d n su cv fb s name N hs hN hfb) ?_
  rintro u M ⟨n', su', cv', fb', hl, rfl, rfl⟩
  exact ⟨_, ⟨rfl, rfl⟩, fun F w h => disk_put hl h⟩

theorem d_syncdir (B : Ctx) (d : Nat) (s : DS) (N : Nat) (hs : DB s N) (hN : N ≤ 1000000) :
    Tri Try.prog B 45 #[.pointer (some ⟨d, 0, none⟩)] [diskA B d s] (fun u M => u = .int .i64 (syncdirS s).1 ∧ M = [diskA B d ((syncdirS s).2)]) := by
  refine tri_ex fun x hfb => ?_
  obtain ⟨n, su, cv, fb⟩ := x
  refine tri_postm (syncdir_tri B d n su cv fb s N hs hN hfb) ?_
  rintro u M ⟨n', su', cv', fb', hl, rfl, rfl⟩
  exact ⟨_, ⟨rfl, rfl⟩, fun F w h => disk_put hl h⟩

theorem d_crash (B : Ctx) (d : Nat) (s : DS) (ka : Option Addr) (kc : Nat) (keep : List Bool) (R : Assn) (N : Nat) (hs : DB s N) (hN : N ≤ 1000000) (hR : Rd B R 1 (.slice ka keep.length kc) keep.length (keep.map .bool)) (hkc : keep.length ≤ kc) :
    Tri Try.prog B 35 #[.pointer (some ⟨d, 0, none⟩), .slice ka keep.length kc] [diskA B d s, R] (fun u M => u = .tuple #[] ∧ M = [diskA B d (crashS keep s), R]) := by
  refine tri_ex fun x hfb => ?_
  obtain ⟨n, su, cv, fb⟩ := x
  refine tri_postm (crash_tri B d n su cv fb s ka kc keep R N hs hN hfb hR hkc) ?_
  rintro u M ⟨n', su', cv', fb', hl, rfl, rfl⟩
  exact ⟨_, ⟨rfl, rfl⟩, fun F w h => disk_put hl (by rw [List.append_assoc] at h; exact h)⟩

theorem d_fail (B : Ctx) (d : Nat) (s : DS) (k : Int) (yes : Bool) :
    Tri Try.prog B 38 #[.pointer (some ⟨d, 0, none⟩), .int .i64 k, .bool yes] [diskA B d s] (fun u M => u = .tuple #[] ∧ M = [diskA B d (failS k yes s)]) := by
  refine tri_ex fun x hfb => ?_
  obtain ⟨n, su, cv, fb⟩ := x
  refine tri_pre (tri_postm (tri_frame [mapA encS n (pv fb s.now), mapA encS su (pv fb s.sure), row 20 1 cv s.chg.length (s.chg.map (chgV fb)), filesA B fb s.fs] (fail_tri B d n su cv fb s k yes)) ?_) (fun F w h => h)
  rintro u M ⟨N_, ⟨rfl, rfl⟩, rfl⟩
  exact ⟨_, ⟨rfl, rfl⟩, fun F w h => disk_put (n := n) (su := su) (cv := cv) (fb := fb) hfb h⟩

theorem d_cut (B : Ctx) (d : Nat) (s : DS) (k : Int) :
    Tri Try.prog B 37 #[.pointer (some ⟨d, 0, none⟩), .int .i64 k] [diskA B d s] (fun u M => u = .tuple #[] ∧ M = [diskA B d (cutS k s)]) := by
  refine tri_ex fun x hfb => ?_
  obtain ⟨n, su, cv, fb⟩ := x
  refine tri_pre (tri_postm (tri_frame [mapA encS n (pv fb s.now), mapA encS su (pv fb s.sure), row 20 1 cv s.chg.length (s.chg.map (chgV fb)), filesA B fb s.fs] (cut_tri B d n su cv fb s k)) ?_) (fun F w h => h)
  rintro u M ⟨N_, ⟨rfl, rfl⟩, rfl⟩
  exact ⟨_, ⟨rfl, rfl⟩, fun F w h => disk_put (n := n) (su := su) (cv := cv) (fb := fb) hfb h⟩

theorem d_down (B : Ctx) (d : Nat) (s : DS) :
    Tri Try.prog B 47 #[.pointer (some ⟨d, 0, none⟩)] [diskA B d s] (fun u M => u = .bool s.off ∧ M = [diskA B d s]) := by
  refine tri_ex fun x hfb => ?_
  obtain ⟨n, su, cv, fb⟩ := x
  refine tri_pre (tri_postm (tri_frame [mapA encS n (pv fb s.now), mapA encS su (pv fb s.sure), row 20 1 cv s.chg.length (s.chg.map (chgV fb)), filesA B fb s.fs] (down_tri B d n su cv fb s)) ?_) (fun F w h => h)
  rintro u M ⟨N_, ⟨rfl, rfl⟩, rfl⟩
  exact ⟨_, ⟨rfl, rfl⟩, fun F w h => disk_put (n := n) (su := su) (cv := cv) (fb := fb) hfb h⟩

theorem d_used (B : Ctx) (d : Nat) (s : DS) (N : Nat) (hs : DB s N) (hN : N ≤ 1000000) :
    Tri Try.prog B 39 #[.pointer (some ⟨d, 0, none⟩)] [diskA B d s] (fun u M => u = .int .i64 ((usedS s : Nat) : Int) ∧ M = [diskA B d s]) := by
  refine tri_ex fun x hfb => ?_
  obtain ⟨n, su, cv, fb⟩ := x
  refine tri_pre (tri_postm (tri_frame [mapA encS su (pv fb s.sure), row 20 1 cv s.chg.length (s.chg.map (chgV fb))] (used_tri B d n su cv fb s N hs hN)) ?_) (fun F w h => (h.pick [0, 1, 4, 2, 3, 5] ⟨rfl, rfl, rfl, rfl, rfl, rfl, trivial⟩ (by decide)))
  rintro u M ⟨N_, ⟨rfl, rfl⟩, rfl⟩
  exact ⟨_, ⟨rfl, rfl⟩, fun F w h => disk_put (n := n) (su := su) (cv := cv) (fb := fb) hfb (h.pick [0, 1, 3, 4, 2, 5] ⟨rfl, rfl, rfl, rfl, rfl, rfl, trivial⟩ (by decide))⟩

theorem d_free (B : Ctx) (d : Nat) (s : DS) (N : Nat) (hs : DB s N) (hN : N ≤ 1000000) :
    Tri Try.prog B 46 #[.pointer (some ⟨d, 0, none⟩)] [diskA B d s] (fun u M => u = .int .i64 (s.quota - ((usedS s : Nat) : Int)) ∧ M = [diskA B d s]) := by
  refine tri_ex fun x hfb => ?_
  obtain ⟨n, su, cv, fb⟩ := x
  refine tri_pre (tri_postm (tri_frame [mapA encS su (pv fb s.sure), row 20 1 cv s.chg.length (s.chg.map (chgV fb))] (free_tri B d n su cv fb s N hs hN)) ?_) (fun F w h => (h.pick [0, 1, 4, 2, 3, 5] ⟨rfl, rfl, rfl, rfl, rfl, rfl, trivial⟩ (by decide)))
  rintro u M ⟨N_, ⟨rfl, rfl⟩, rfl⟩
  exact ⟨_, ⟨rfl, rfl⟩, fun F w h => disk_put (n := n) (su := su) (cv := cv) (fb := fb) hfb (h.pick [0, 1, 3, 4, 2, 5] ⟨rfl, rfl, rfl, rfl, rfl, rfl, trivial⟩ (by decide))⟩

theorem d_read (B : Ctx) (d : Nat) (s : DS) (name : ByteArray) (N : Nat) (hs : DB s N) (hN : N ≤ 1000000) :
    Tri Try.prog B 34 #[.pointer (some ⟨d, 0, none⟩), .string name] [diskA B d s] (fun u M => ∃ x, u = .tuple #[x, .int .i64 (readS name s).1] ∧ M = [diskA B d s, row 5 1 x ((readS name s).2.length) (byv (readS name s).2)]) := by
  refine tri_ex fun x hfb => ?_
  obtain ⟨n, su, cv, fb⟩ := x
  refine tri_postm (read_tri B d n su cv fb s name N hs hN) ?_
  rintro u M ⟨x, rfl, rfl⟩
  exact ⟨_, ⟨x, rfl, rfl⟩, fun F w h => disk_put (n := n) (su := su) (cv := cv) (fb := fb) hfb (by rw [List.append_assoc] at h; exact h)⟩

theorem d_list (B : Ctx) (d : Nat) (s : DS) (N : Nat) (hs : DB s N) (hN : N ≤ 1000000) :
    Tri Try.prog B 33 #[.pointer (some ⟨d, 0, none⟩)] [diskA B d s] (fun u M => ∃ x, x = u ∧ M = [diskA B d s, row 9 1 x s.now.length ((sortB (akeys s.now)).map .string)]) := by
  refine tri_ex fun x hfb => ?_
  obtain ⟨n, su, cv, fb⟩ := x
  refine tri_postm (tri_frame [mapA encS su (pv fb s.sure), row 20 1 cv s.chg.length (s.chg.map (chgV fb)), filesA B fb s.fs] (list_tri B d n su cv fb s N hs hN)) ?_
  rintro u M ⟨N_, ⟨x, rfl, rfl⟩, rfl⟩
  exact ⟨_, ⟨x, rfl, rfl⟩, fun F w h => disk_put (n := n) (su := su) (cv := cv) (fb := fb) hfb (h.pick [0, 1, 3, 4, 5, 2, 6] ⟨rfl, rfl, rfl, rfl, rfl, rfl, rfl, trivial⟩ (by decide))⟩

theorem d_new (B : Ctx) (q : Int) (h0 : 1 ≤ q) (h1 : q ≤ 1048576) : Tri Try.prog B 29 #[.int .i64 q] [] (fun u M => ∃ d, u = .tuple #[.pointer (some ⟨d, 0, none⟩), .int .i64 0] ∧ M = [diskA B d (newD q)]) := by
  refine tri_postm (new_tri B q) ?_
  rintro u M (⟨h, _⟩ | ⟨_, _, d, n, su, rfl, rfl⟩)
  · omega
  · exact ⟨_, ⟨d, rfl, rfl⟩, fun F w h => disk_put (fb := []) rfl h⟩
end Go.Proofs.Ytmefejfnddcelaa
