/- Printed by a program of this claim's: what each of these functions of the program does, as its theorem says. No condition but what stands in each theorem. -/
import Derived.Test.YtmefejfnddcelaaDv
namespace Go.Proofs.Ytmefejfnddcelaa
def tp (fs : List FileS) : Nat := (fs.map (fun f => f.pieces.length)).sum
theorem tp_set : ∀ (fs : List FileS) (i : Nat) (f : FileS), tp (fs.set i f) + (fs.getD i ⟨[], []⟩).pieces.length ≤ tp fs + f.pieces.length
  | [], i, f => by simp [tp]
  | g :: fs, 0, f => by simp [tp]; omega
  | g :: fs, i + 1, f => by
    have := tp_set fs i f
    simp only [tp, List.set_cons_succ, List.map_cons, List.sum_cons, List.getD_cons_succ] at this ⊢
    omega
theorem tp_get (fs : List FileS) (i : Nat) : (fs.getD i ⟨[], []⟩).pieces.length ≤ tp fs := by
  have := tp_set fs i ⟨[], []⟩
  simp only [List.length_nil] at this
  omega
/-- What operations keep, if nothing cuts the power. -/
structure AI (s : DS) (N : Nat) : Prop where
  off : s.off = false
  fuse : s.fuse = -1
  now : s.now = s.chg.foldl doC s.sure
  cnt : s.chg.length + tp s.fs ≤ N
theorem AI.more {s : DS} {N M : Nat} (h : AI s N) (hm : N ≤ M) : AI s M := ⟨h.off, h.fuse, h.now, Nat.le_trans h.cnt hm⟩
theorem opS_fuse {s : DS} (h : s.fuse = -1) : (opS s).2.2.fuse = -1 ∧ (opS s).2.2.off = s.off := by
  obtain ⟨fs, nw, su, ch, q, c, dn, fu, of⟩ := s
  simp only at h
  subst h
  have e : opS ⟨fs, nw, su, ch, q, c, dn, -1, of⟩ = (if 0 < c then (if c - 1 = 0 then (8, dn, ⟨fs, nw, su, ch, q, c - 1, dn, -1, of⟩) else (0, true, ⟨fs, nw, su, ch, q, c - 1, dn, -1, of⟩)) else (0, true, ⟨fs, nw, su, ch, q, c, dn, -1, of⟩)) := rfl
  rw [e]
  split
  · split <;> exact ⟨rfl, rfl⟩
  · exact ⟨rfl, rfl⟩
theorem AI.op {s : DS} {N : Nat} (h : AI s N) : AI (opS s).2.2 N :=
  ⟨(opS_fuse h.fuse).2.trans h.off, (opS_fuse h.fuse).1, by rw [opS_now, opS_sure, opS_chg]; exact h.now, by rw [opS_chg, opS_fs]; exact h.cnt⟩
theorem AI.change {s : DS} {N : Nat} (h : AI s N) (c : ChgD) : AI (changeS c s).2 (N + 1) := by
  unfold changeS
  show AI (if (opS s).2.1 = true then _ else _) _
  split
  · refine ⟨h.op.off, h.op.fuse, ?_, ?_⟩
    · show doC s.now c = (s.chg ++ [c]).foldl doC (opS s).2.2.sure
      rw [opS_sure, List.foldl_append, ← h.now]; rfl
    · show (s.chg ++ [c]).length + tp (opS s).2.2.fs ≤ _
      have := h.cnt
      rw [opS_fs, List.length_append]; simp only [List.length_cons, List.length_nil]; omega
  · exact h.op.more (by omega)
theorem tp_app (fs : List FileS) : tp (fs ++ [⟨[], []⟩]) = tp fs := by simp [tp]
theorem AI.create {s : DS} {N : Nat} (h : AI s N) (name : ByteArray) : AI (createS name s).2 (N + 1) := by
  unfold createS
  split
  · exact h.more (by omega)
  split
  · exact h.more (by omega)
  split
  · exact h.more (by omega)
  split
  · exact h.more (by omega)
  show AI (if (opS s).2.1 = true then _ else _) _
  split
  · refine ⟨h.op.off, h.op.fuse, ?_, ?_⟩
    · show doC s.now (ChgD.made name s.fs.length) = (s.chg ++ [ChgD.made name s.fs.length]).foldl doC (opS s).2.2.sure
      rw [opS_sure, List.foldl_append, ← h.now]; rfl
    · show (s.chg ++ [_]).length + tp (s.fs ++ [⟨[], []⟩]) ≤ _
      have := h.cnt
      rw [tp_app, List.length_append]; simp only [List.length_cons, List.length_nil]; omega
  · exact h.op.more (by omega)
theorem AI.files {s : DS} {N : Nat} (h : AI s N) {fs : List FileS} (hf : tp fs ≤ tp s.fs + 1) : AI { (opS s).2.2 with fs := fs } (N + 1) := by
  refine ⟨h.op.off, h.op.fuse, h.op.now, ?_⟩
  have := h.cnt
  show (opS s).2.2.chg.length + tp fs ≤ _
  rw [opS_chg]; omega
theorem AI.append {s : DS} {N : Nat} (h : AI s N) (name : ByteArray) (bs : List UInt8) : AI (appendS name bs s).2 (N + 1) := by
  unfold appendS
  split
  · exact h.more (by omega)
  split
  · exact h.more (by omega)
  rename_i i hi
  split
  · exact h.more (by omega)
  show AI (if (opS s).2.1 = true then _ else _) _
  split
  · split
    · refine h.files ?_
      have := tp_set s.fs i ⟨(fileD s i).sure, (fileD s i).pieces ++ [bs]⟩
      simp only [List.length_append, List.length_cons, List.length_nil] at this
      have e : fileD s i = s.fs.getD i ⟨[], []⟩ := rfl
      rw [e] at this ⊢; omega
    · exact h.op.more (by omega)
  · exact h.op.more (by omega)
theorem AI.sync {s : DS} {N : Nat} (h : AI s N) (name : ByteArray) : AI (syncS name s).2 (N + 1) := by
  unfold syncS
  split
  · exact h.more (by omega)
  split
  · exact h.more (by omega)
  rename_i i hi
  show AI (if (opS s).2.1 = true then _ else _) _
  split
  · refine h.files ?_
    have := tp_set s.fs i ⟨(fileD s i).bytes, []⟩
    simp only [List.length_nil] at this
    omega
  · exact h.op.more (by omega)
theorem AI.syncdir {s : DS} {N : Nat} (h : AI s N) : AI (syncdirS s).2 (N + 1) := by
  unfold syncdirS
  split
  · exact h.more (by omega)
  show AI (if (opS s).2.1 = true then _ else _) _
  split
  · refine ⟨h.op.off, h.op.fuse, opS_now s, ?_⟩
    have := h.cnt
    show 0 + tp (opS s).2.2.fs ≤ _
    rw [opS_fs]; omega
  · exact h.op.more (by omega)
theorem AI.rename {s : DS} {N : Nat} (h : AI s N) (a b : ByteArray) : AI (renameS a b s).2 (N + 1) := by
  unfold renameS
  split
  · exact h.more (by omega)
  split
  · exact h.more (by omega)
  split
  · exact h.more (by omega)
  · exact h.change _
theorem AI.remove {s : DS} {N : Nat} (h : AI s N) (a : ByteArray) : AI (removeS a s).2 (N + 1) := by
  unfold removeS
  split
  · exact h.more (by omega)
  split
  · exact h.more (by omega)
  · exact h.change _
theorem AI.do {s : DS} {N : Nat} (h : AI s N) {kd : Int} (h7 : ¬ kd = 7) (name to : ByteArray) (bs : List UInt8) (k : Int) (yes : Bool) : AI (doD kd name to bs k yes s) (N + 1) := by
  unfold doD
  split
  · exact h.create name
  split
  · exact h.append name bs
  split
  · exact h.rename name to
  split
  · exact h.remove name
  split
  · exact h.sync name
  split
  · exact h.syncdir
  split
  · exact ⟨h.off, h.fuse, h.now, Nat.le_trans h.cnt (by omega)⟩
  try rw [if_neg h7]
  exact h.more (by omega)
theorem crashN_all : ∀ (l : List ChgD) (n : Nat) (m : List (ByteArray × Nat)), l.length ≤ n → crashN l (List.replicate n true) m = (l.foldl doC m, List.replicate (n - l.length) true)
  | [], n, m, _ => rfl
  | c :: cs, 0, m, h => by simp at h
  | c :: cs, n + 1, m, h => by
    have h1 : cs.length ≤ n := by simpa using h
    show crashN cs (List.replicate (n + 1) true).tail (if (List.replicate (n + 1) true).headD false then doC m c else m) = _
    rw [List.replicate_succ]
    show crashN cs (List.replicate n true) (doC m c) = _
    rw [crashN_all cs n _ h1, List.length_cons, Nat.add_sub_add_right]
    rfl
theorem keepL_all : ∀ (ps : List (List UInt8)) (n : Nat) (b : List UInt8), ps.length ≤ n → keepL ps (List.replicate n true) b b.length = (b ++ ps.flatten, (b ++ ps.flatten).length, List.replicate (n - ps.length) true)
  | [], n, b, _ => by simp [keepL]
  | p :: ps, 0, b, h => by simp at h
  | p :: ps, n + 1, b, h => by
    have h1 : ps.length ≤ n := by simpa using h
    have h2 := keepL_all ps n (b ++ p) h1
    rw [List.replicate_succ]
    show keepL ps (List.replicate n true) (b ++ p) (b ++ p).length = _
    rw [h2]
    simp [List.append_assoc]
theorem keepF_all (f : FileS) (n : Nat) (h : f.pieces.length ≤ n) : keepF f (List.replicate n true) = (⟨f.bytes, []⟩, List.replicate (n - f.pieces.length) true) := by
  unfold keepF
  rw [keepL_all _ _ _ h]
  simp only [List.take_length]
  rfl
theorem keepF_none (f : FileS) (h : f.pieces = []) (r : List Bool) : keepF f r = (⟨f.bytes, []⟩, r) := by
  unfold keepF FileS.bytes
  rw [h]
  simp [keepL]
theorem getD_set (fs : List FileS) (i j : Nat) (x : FileS) : (fs.set i x).getD j ⟨[], []⟩ = if i = j ∧ i < fs.length then x else fs.getD j ⟨[], []⟩ := by
  simp only [List.getD_eq_getElem?_getD, List.getElem?_set]
  by_cases h : i = j
  · subst h
    by_cases h2 : i < fs.length
    · simp [h2]
    · simp [h2]
  · simp [h]
theorem set_bytes (fs : List FileS) (i j : Nat) : ((fs.set i ⟨(fs.getD i ⟨[], []⟩).bytes, []⟩).getD j ⟨[], []⟩).bytes = (fs.getD j ⟨[], []⟩).bytes := by
  rw [getD_set]
  split
  · rename_i h; obtain ⟨rfl, _⟩ := h; simp [FileS.bytes]
  · rfl
theorem set_pieces (fs : List FileS) (i j : Nat) (x : List UInt8) (h : i = j ∨ (fs.getD j ⟨[], []⟩).pieces = []) : ((fs.set i ⟨x, []⟩).getD j ⟨[], []⟩).pieces = [] := by
  rw [getD_set]
  split
  · rfl
  · rename_i hn
    rcases h with rfl | h
    · have : fs.length ≤ i := by
        apply Classical.byContradiction; intro hc; exact hn ⟨rfl, by omega⟩
      rw [List.getD_eq_getElem?_getD, List.getElem?_eq_none this]; rfl
    · exact h
theorem crashF_all (m : List (ByteArray × Nat)) : ∀ (ks : List ByteArray) (fs : List FileS) (n : Nat), tp fs ≤ n →
    ∃ fs' r, crashF m ks fs (List.replicate n true) = (fs', r) ∧ (∀ i, (fs'.getD i ⟨[], []⟩).bytes = (fs.getD i ⟨[], []⟩).bytes) ∧ (∀ i, (fs.getD i ⟨[], []⟩).pieces = [] → (fs'.getD i ⟨[], []⟩).pieces = []) ∧ ∀ k ∈ ks, ∀ i, aget m k = some i → (fs'.getD i ⟨[], []⟩).pieces = []
  | [], fs, n, _ => ⟨fs, _, rfl, fun _ => rfl, fun _ h => h, fun k hk => by cases hk⟩
  | k :: ks, fs, n, h => by
    simp only [crashF]
    cases hg : aget m k with
    | none =>
      obtain ⟨fs', r, e, h1, h2, h3⟩ := crashF_all m ks fs n h
      refine ⟨fs', r, e, h1, h2, fun k' hk' i hi => ?_⟩
      rcases List.mem_cons.1 hk' with rfl | hk'
      · rw [hg] at hi; cases hi
      · exact h3 k' hk' i hi
    | some i =>
      simp only
      have hp : (fs.getD i ⟨[], []⟩).pieces.length ≤ n := Nat.le_trans (tp_get fs i) h
      rw [keepF_all _ _ hp]
      have ht := tp_set fs i ⟨(fs.getD i ⟨[], []⟩).bytes, []⟩
      simp only [List.length_nil] at ht
      obtain ⟨fs', r, e, h1, h2, h3⟩ := crashF_all m ks (fs.set i ⟨(fs.getD i ⟨[], []⟩).bytes, []⟩) (n - (fs.getD i ⟨[], []⟩).pieces.length) (by omega)
      refine ⟨fs', r, e, fun j => (h1 j).trans (set_bytes fs i j), fun j hj => h2 j (set_pieces fs i j _ (.inr hj)), fun k' hk' j hj => ?_⟩
      rcases List.mem_cons.1 hk' with rfl | hk'
      · rw [hg] at hj; cases hj
        exact h2 i (set_pieces fs i i _ (.inl rfl))
      · exact h3 k' hk' j hj
theorem crashF_none (m : List (ByteArray × Nat)) : ∀ (ks : List ByteArray) (fs : List FileS) (r : List Bool), (∀ k ∈ ks, ∀ i, aget m k = some i → (fs.getD i ⟨[], []⟩).pieces = []) →
    ∃ fs', crashF m ks fs r = (fs', r) ∧ (∀ i, (fs'.getD i ⟨[], []⟩).bytes = (fs.getD i ⟨[], []⟩).bytes) ∧ (∀ i, (fs.getD i ⟨[], []⟩).pieces = [] → (fs'.getD i ⟨[], []⟩).pieces = [])
  | [], fs, r, _ => ⟨fs, rfl, fun _ => rfl, fun _ h => h⟩
  | k :: ks, fs, r, h => by
    simp only [crashF]
    cases hg : aget m k with
    | none => exact crashF_none m ks fs r (fun k' hk' => h k' (List.mem_cons_of_mem _ hk'))
    | some i =>
      simp only
      rw [keepF_none _ (h k (by simp) i hg)]
      obtain ⟨fs', e, h1, h2⟩ := crashF_none m ks (fs.set i ⟨(fs.getD i ⟨[], []⟩).bytes, []⟩) r (fun k' hk' j hj => set_pieces fs i j _ (.inr (h k' (List.mem_cons_of_mem _ hk') j hj)))
      exact ⟨fs', e, fun j => (h1 j).trans (set_bytes fs i j), fun j hj => h2 j (set_pieces fs i j _ (.inr hj))⟩
theorem mem_sortB {l : List ByteArray} {k : ByteArray} : k ∈ sortB l ↔ k ∈ l := by
  have hp : (sortB l).Perm l := by
    unfold sortB
    refine ((List.mergeSort_perm _ _).map _).trans ?_
    rw [List.map_map]
    have : ((fun l : List UInt8 => (⟨l.toArray⟩ : ByteArray)) ∘ fun k : ByteArray => k.data.toList) = id := by funext x; rfl
    rw [this, List.map_id]
  exact hp.mem_iff
/-- Behind a crash that kept all: as before, and all is sure. -/
structure JA (s t : DS) : Prop where
  off : t.off = false
  now : t.now = s.now
  sure : t.sure = s.now
  chg : t.chg = []
  same : ∀ k ∈ akeys s.now, ∀ i, aget s.now k = some i → (fileD t i).bytes = (fileD s i).bytes ∧ (fileD t i).pieces = []
theorem JA.first {s : DS} {N : Nat} (h : AI s N) (hN : N ≤ 1000) : JA s (crashS (List.replicate 1000 true) s) := by
  have hc := h.cnt
  have e := crashN_all s.chg 1000 s.sure (by omega)
  rw [← h.now] at e
  obtain ⟨fs', r, e2, h1, h2, h3⟩ := crashF_all s.now (sortB (akeys s.now)) s.fs (1000 - s.chg.length) (by omega)
  have ec : crashS (List.replicate 1000 true) s = ⟨fs', s.now, s.now, [], s.quota, 0, false, -1, false⟩ := by
    unfold crashS; rw [e]; simp only; rw [e2]
  rw [ec]
  exact ⟨rfl, rfl, rfl, rfl, fun k hk i hi => ⟨h1 i, h3 k (mem_sortB.2 hk) i hi⟩⟩
theorem JA.again {s t : DS} (h : JA s t) : JA s (crashS [] t) := by
  have e : crashN t.chg [] t.sure = (s.now, []) := by rw [h.chg, h.sure]; rfl
  obtain ⟨fs', e2, h1, h2⟩ := crashF_none s.now (sortB (akeys s.now)) t.fs [] (fun k hk i hi => (h.same k (mem_sortB.1 hk) i hi).2)
  have ec : crashS [] t = ⟨fs', s.now, s.now, [], t.quota, 0, false, -1, false⟩ := by
    unfold crashS; rw [e]; simp only; rw [e2]
  rw [ec]
  exact ⟨rfl, rfl, rfl, rfl, fun k hk i hi => ⟨(h1 i).trans (h.same k hk i hi).1, h2 i (h.same k hk i hi).2⟩⟩
theorem JA.read {s t : DS} (h : JA s t) (ho : s.off = false) {y : ByteArray} {k : Nat} (hy : (sortB (akeys s.now))[k]? = some y) : readS y t = readS y s := by
  have hm : y ∈ akeys s.now := mem_sortB.1 (List.mem_of_getElem? hy)
  obtain ⟨v, hv⟩ := aget_some s.now y hm
  rw [readS_some ho hv, readS_some h.off (show aget t.now y = some v by rw [h.now]; exact hv), (h.same y hm v hv).1]
def wasW (s : DS) (k : ByteArray) : ByteArray := ⟨((readS k s).2).toArray⟩
end Go.Proofs.Ytmefejfnddcelaa
