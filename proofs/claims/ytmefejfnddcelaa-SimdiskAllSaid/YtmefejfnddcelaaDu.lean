/- Printed by a program of this claim's: what each of these functions of the program does, as its theorem says. No condition but what stands in each theorem. -/
import Derived.Test.YtmefejfnddcelaaDq
namespace Go.Proofs.Ytmefejfnddcelaa
def Calm (s : DS) : Prop := s.count = 0 ∧ s.fuse = -1 ∧ s.off = false
def bareEq (s t : DS) : Prop := s.fs = t.fs ∧ s.now = t.now ∧ s.sure = t.sure ∧ s.chg = t.chg ∧ s.quota = t.quota ∧ s.off = false ∧ t.off = false
theorem opS_calm (fs : List FileS) (nw su : List (ByteArray × Nat)) (ch : List ChgD) (q : Int) (dn : Bool) : opS ⟨fs, nw, su, ch, q, 0, dn, -1, false⟩ = (0, true, ⟨fs, nw, su, ch, q, 0, dn, -1, false⟩) := rfl
theorem opS_fault (fs : List FileS) (nw su : List (ByteArray × Nat)) (ch : List ChgD) (q : Int) (y : Bool) : opS ⟨fs, nw, su, ch, q, 1, y, -1, false⟩ = (8, y, ⟨fs, nw, su, ch, q, 0, y, -1, false⟩) := rfl
theorem used_same (fs : List FileS) (nw su su' : List (ByteArray × Nat)) (ch ch' : List ChgD) (q q' c c' f f' : Int) (d d' o o' : Bool) : usedS ⟨fs, nw, su, ch, q, c, d, f, o⟩ = usedS ⟨fs, nw, su', ch', q', c', d', f', o'⟩ := rfl
theorem do_calm {s : DS} (h : Calm s) {kd : Int} (h5 : kd ≤ 5) (name to : ByteArray) (bs : List UInt8) (k : Int) (yes : Bool) : Calm (doD kd name to bs k yes s) := by
  obtain ⟨fs, nw, su, ch, q, c, dn, fu, of⟩ := s
  obtain ⟨h1, h2, h3⟩ := h
  simp only at h1 h2 h3
  subst h1 h2 h3
  unfold doD
  split
  · simp only [createS, opS_calm]; (repeat' split) <;> exact ⟨rfl, rfl, rfl⟩
  split
  · simp only [appendS, opS_calm]; (repeat' split) <;> exact ⟨rfl, rfl, rfl⟩
  split
  · simp only [renameS, changeS, opS_calm]; (repeat' split) <;> exact ⟨rfl, rfl, rfl⟩
  split
  · simp only [removeS, changeS, opS_calm]; (repeat' split) <;> exact ⟨rfl, rfl, rfl⟩
  split
  · simp only [syncS, opS_calm]; (repeat' split) <;> exact ⟨rfl, rfl, rfl⟩
  split
  · simp only [syncdirS, opS_calm]; (repeat' split) <;> exact ⟨rfl, rfl, rfl⟩
  split
  · omega
  split
  · omega
  · exact ⟨rfl, rfl, rfl⟩
theorem fault_do {s : DS} (h : Calm s) {kd : Int} (h0 : 0 ≤ kd) (h5 : kd ≤ 5) (name to : ByteArray) (bs : List UInt8) (k : Int) (yes y : Bool) : bareEq (doD kd name to bs k yes (failS 1 y s)) (if y = true then doD kd name to bs k yes s else s) := by
  obtain ⟨fs, nw, su, ch, q, c, dn, fu, of⟩ := s
  obtain ⟨h1, h2, h3⟩ := h
  simp only at h1 h2 h3
  subst h1 h2 h3
  show bareEq (doD kd name to bs k yes ⟨fs, nw, su, ch, q, 1, y, -1, false⟩) _
  unfold doD
  split
  · simp only [createS, opS_calm, opS_fault]; cases y <;> (repeat' split) <;> simp_all [bareEq]
  split
  · simp only [appendS, opS_calm, opS_fault, fileD]
    cases aget nw name with
    | none => cases y <;> simp [bareEq]
    | some i =>
      by_cases hq : q - ((usedS ⟨fs, nw, su, ch, q, 0, dn, -1, false⟩ : Nat) : Int) < (bs.length : Int)
      · have hq' : q - ((usedS ⟨fs, nw, su, ch, q, 1, y, -1, false⟩ : Nat) : Int) < (bs.length : Int) := hq
        simp only [if_pos hq, if_pos hq']; cases y <;> simp [bareEq]
      · have hq' : ¬ q - ((usedS ⟨fs, nw, su, ch, q, 1, y, -1, false⟩ : Nat) : Int) < (bs.length : Int) := hq
        simp only [if_neg hq, if_neg hq']; by_cases hl : 0 < bs.length <;> cases y <;> simp [bareEq, hl]
  split
  · simp only [renameS, changeS, opS_calm, opS_fault]; cases y <;> (repeat' split) <;> simp_all [bareEq]
  split
  · simp only [removeS, changeS, opS_calm, opS_fault]; cases y <;> (repeat' split) <;> simp_all [bareEq]
  split
  · simp only [syncS, opS_calm, opS_fault, fileD]; cases y <;> (repeat' split) <;> simp_all [bareEq]
  split
  · simp only [syncdirS, opS_calm, opS_fault]; cases y <;> (repeat' split) <;> simp_all [bareEq]
  · omega
theorem bare_read {s t : DS} (h : bareEq s t) (name : ByteArray) : readS name s = readS name t := by
  obtain ⟨fs, nw, su, ch, q, c, dn, fu, of⟩ := s
  obtain ⟨fs', nw', su', ch', q', c', dn', fu', of'⟩ := t
  obtain ⟨h1, h2, h3, h4, h5, h6, h7⟩ := h
  simp only at h1 h2 h3 h4 h5 h6 h7
  subst h1 h2 h3 h4 h5 h6 h7
  rfl
theorem bare_used {s t : DS} (h : bareEq s t) : usedS s = usedS t := by
  obtain ⟨fs, nw, su, ch, q, c, dn, fu, of⟩ := s
  obtain ⟨fs', nw', su', ch', q', c', dn', fu', of'⟩ := t
  obtain ⟨h1, h2, h3, h4, h5, h6, h7⟩ := h
  simp only at h1 h2 h3 h4 h5 h6 h7
  subst h1 h2 h3 h4 h5 h6 h7
  rfl
theorem bare_crash {s t : DS} (h : bareEq s t) (keep : List Bool) : bareEq (crashS keep s) (crashS keep t) := by
  have e : crashS keep s = crashS keep t := by
    obtain ⟨fs, nw, su, ch, q, c, dn, fu, of⟩ := s
    obtain ⟨fs', nw', su', ch', q', c', dn', fu', of'⟩ := t
    obtain ⟨h1, h2, h3, h4, h5, h6, h7⟩ := h
    simp only at h1 h2 h3 h4 h5 h6 h7
    subst h1 h2 h3 h4 h5 h6 h7
    rfl
  rw [e]; exact ⟨rfl, rfl, rfl, rfl, rfl, rfl, rfl⟩
theorem read_has {s : DS} (ho : s.off = false) {y : ByteArray} {k : Nat} (h : (sortB (akeys s.now))[k]? = some y) : (readS y s).1 = 0 := by
  have hm : y ∈ akeys s.now := by
    have hp : (sortB (akeys s.now)).Perm (akeys s.now) := by
      unfold sortB
      refine ((List.mergeSort_perm _ _).map _).trans ?_
      rw [List.map_map]
      have : ((fun l : List UInt8 => (⟨l.toArray⟩ : ByteArray)) ∘ fun k : ByteArray => k.data.toList) = id := by funext x; rfl
      rw [this, List.map_id]
    exact hp.mem_iff.1 (List.mem_of_getElem? h)
  obtain ⟨v, hv⟩ := aget_some s.now y hm
  rw [readS_some ho hv]
def stepF (s : DS) (o : OpD) : DS := if o.kind ≤ 5 then doD o.kind o.name o.to o.bL o.n o.yes s else s
def runF (l : List OpD) (s : DS) : DS := l.foldl stepF s
theorem runF_more {l : List OpD} {k : Nat} {o : OpD} (h : l[k]? = some o) (s : DS) : runF (l.take (k + 1)) s = stepF (runF (l.take k) s) o := by
  unfold runF; rw [List.take_add_one, h]; simp
theorem runF_calm : ∀ (l : List OpD) (s : DS), Calm s → Calm (runF l s)
  | [], _, h => h
  | o :: l, s, h => by
    refine runF_calm l (stepF s o) ?_
    unfold stepF
    split
    · exact do_calm h ‹_› _ _ _ _ _
    · exact h
/-- Whatever happens to k, a kind of at most 5 does not look at it. -/
theorem do_n {kd : Int} (h5 : kd ≤ 5) (name to : ByteArray) (bs : List UInt8) (k k' : Int) (yes : Bool) (s : DS) : doD kd name to bs k yes s = doD kd name to bs k' yes s := by
  unfold doD
  have h6 : ¬ kd = 6 := by omega
  have h7 : ¬ kd = 7 := by omega
  simp only [if_neg h6, if_neg h7]
theorem DB.runF : ∀ (l : List OpD) (s : DS) (N : Nat), DB s N → DB (Go.Proofs.Ytmefejfnddcelaa.runF l s) (N + l.length)
  | [], _, _, h => h
  | o :: l, s, N, h => by
    have h1 : DB (stepF s o) (N + 1) := by
      unfold stepF
      split
      · rw [do_n ‹_› _ _ _ o.n 0]; exact h.do _ _ _ _ (by decide) _
      · exact h.more (by omega)
    exact (DB.runF l _ _ h1).more (by simp; omega)
def sF (ops : List OpD) : DS := runF (ops.take 100) qD
theorem sF_calm (ops : List OpD) : Calm (sF ops) := runF_calm _ _ ⟨rfl, rfl, rfl⟩
theorem sF_db (ops : List OpD) : DB (sF ops) 100 := (DB.runF _ _ 0 su_b0).more (by simp; omega)
theorem sF_of {ops : List OpD} {k : Nat} (h : k ≤ 100) (hk : ops.length ≤ k ∨ 100 ≤ k) : runF (ops.take k) qD = sF ops := by
  unfold sF
  rcases hk with h1 | h1
  · rw [List.take_of_length_le h1, List.take_of_length_le (by omega)]
  · rw [show k = 100 by omega]
end Go.Proofs.Ytmefejfnddcelaa
