/- Printed by gen/simobj.py for this claim: what each of these functions of the program does, as its theorem says. No condition but what stands in each theorem. -/
import Derived.Test.YtmefejfnddcelaaOr
namespace Go.Proofs.Ytmefejfnddcelaa
/-- What every store that is worked with keeps; N bounds what has been done. -/
structure StOk (s : SS) (N : Nat) : Prop where
  now0 : 0 ≤ s.now
  now1 : s.now ≤ 1099511627776
  lag0 : 0 ≤ s.lag
  lag1 : s.lag ≤ s.most
  count0 : 0 ≤ s.count
  count1 : s.count ≤ 9223372036854775807
  most0 : 0 ≤ s.most
  most1 : s.most ≤ 100
  calls0 : 0 ≤ s.calls
  calls1 : s.calls ≤ N
  chg1 : s.chg.length ≤ N
  objs1 : s.objs.length ≤ N
  mem : ∀ p ∈ s.objs, p.2.length ≤ 1048576
theorem StOk.ok {s : SS} {N : Nat} (h : StOk s N) : SOk s :=
  ⟨h.now0, h.now1, h.lag0, Int.le_trans h.lag1 h.most1, h.calls0, h.count0, h.count1, fun _ _ hg => h.mem _ (aget_mem hg), h.most0, h.most1⟩
theorem StOk.more {s : SS} {N M : Nat} (h : StOk s N) (hm : N ≤ M) : StOk s M :=
  ⟨h.now0, h.now1, h.lag0, h.lag1, h.count0, h.count1, h.most0, h.most1, h.calls0, by have := h.calls1; omega, by have := h.chg1; omega, by have := h.objs1; omega, h.mem⟩
theorem mem_aput {α β : Type} [DecidableEq α] {l : List (α × β)} {k : α} {v : β} : ∀ {p : α × β}, p ∈ aput l k v → p = (k, v) ∨ p ∈ l := by
  induction l with
  | nil => intro p hp; simp [aput] at hp; exact .inl hp
  | cons q l ih =>
    intro p hp
    obtain ⟨a, x⟩ := q
    simp only [aput] at hp
    split at hp
    · rcases List.mem_cons.1 hp with h | h
      · exact .inl h
      · exact .inr (List.mem_cons_of_mem _ h)
    · rcases List.mem_cons.1 hp with h | h
      · exact .inr (by rw [h]; simp)
      · rcases ih h with h | h
        · exact .inl h
        · exact .inr (List.mem_cons_of_mem _ h)
theorem mem_adel {α β : Type} [DecidableEq α] {l : List (α × β)} {k : α} : ∀ {p : α × β}, p ∈ adel l k → p ∈ l := by
  induction l with
  | nil => intro p hp; simp [adel] at hp
  | cons q l ih =>
    intro p hp
    obtain ⟨a, x⟩ := q
    simp only [adel] at hp
    split at hp
    · exact List.mem_cons_of_mem _ hp
    · rcases List.mem_cons.1 hp with h | h
      · rw [h]; simp
      · exact List.mem_cons_of_mem _ (ih h)
theorem len_aput {α β : Type} [DecidableEq α] (l : List (α × β)) (k : α) (v : β) : (aput l k v).length ≤ l.length + 1 := by
  induction l with
  | nil => simp [aput]
  | cons q l ih => obtain ⟨a, x⟩ := q; simp only [aput]; split <;> simp; omega
theorem len_adel {α β : Type} [DecidableEq α] (l : List (α × β)) (k : α) : (adel l k).length ≤ l.length := by
  induction l with
  | nil => simp [adel]
  | cons q l ih => obtain ⟨a, x⟩ := q; simp only [adel]; split <;> simp; omega
/-- A call as the store sees it: one call more, the count gone down or not. -/
theorem StOk.count {s : SS} {N : Nat} (h : StOk s N) : (callS s).2.2.objs = s.objs ∧ (callS s).2.2.chg = s.chg ∧ (callS s).2.2.now = s.now ∧ (callS s).2.2.lag = s.lag ∧ (callS s).2.2.most = s.most ∧ (callS s).2.2.calls = s.calls + 1 ∧ 0 ≤ (callS s).2.2.count ∧ (callS s).2.2.count ≤ 9223372036854775807 := by
  have h0 := h.count0
  have h1 := h.count1
  unfold callS
  split
  · split <;> refine ⟨rfl, rfl, rfl, rfl, rfl, rfl, ?_, ?_⟩ <;> show _ ≤ _ <;> simp only <;> omega
  · exact ⟨rfl, rfl, rfl, rfl, rfl, rfl, h0, h1⟩
theorem StOk.call {s : SS} {N : Nat} (h : StOk s N) : StOk (callS s).2.2 (N + 1) := by
  obtain ⟨e1, e2, e3, e4, e5, e6, e7, e8⟩ := h.count
  have h1 := h.calls1
  have h2 := h.chg1
  have h3 := h.objs1
  have h4 := h.calls0
  exact ⟨by rw [e3]; exact h.now0, by rw [e3]; exact h.now1, by rw [e4]; exact h.lag0, by rw [e4, e5]; exact h.lag1, e7, e8, by rw [e5]; exact h.most0, by rw [e5]; exact h.most1, by rw [e6]; omega, by rw [e6]; omega, by rw [e2]; omega, by rw [e1]; omega, by rw [e1]; exact h.mem⟩
theorem StOk.callPut {s : SS} {N : Nat} (h : StOk s N) (key : ByteArray) {bs : List UInt8} (hb : bs.length ≤ 1048576) : StOk (putO key bs (callS s).2.2) (N + 1) := by
  obtain ⟨e1, e2, e3, e4, e5, e6, e7, e8⟩ := h.count
  have hc := h.call
  have h2 := h.chg1
  have h3 := h.objs1
  have hl := len_aput s.objs key bs
  have hm : ∀ p ∈ aput s.objs key bs, p.2.length ≤ 1048576 := fun p hp => by
    rcases mem_aput hp with rfl | hp
    · exact hb
    · exact h.mem p hp
  unfold putO
  rw [e1, e2]
  split
  · exact ⟨hc.now0, hc.now1, hc.lag0, hc.lag1, hc.count0, hc.count1, hc.most0, hc.most1, hc.calls0, hc.calls1, by show s.chg.length ≤ _; omega, by show (aput s.objs key bs).length ≤ _; omega, hm⟩
  · exact ⟨hc.now0, hc.now1, hc.lag0, hc.lag1, hc.count0, hc.count1, hc.most0, hc.most1, hc.calls0, hc.calls1, by show (s.chg ++ [_]).length ≤ _; simp; omega, by show (aput s.objs key bs).length ≤ _; omega, hm⟩
theorem StOk.callDel {s : SS} {N : Nat} (h : StOk s N) (key : ByteArray) : StOk (delO key (callS s).2.2) (N + 1) := by
  obtain ⟨e1, e2, e3, e4, e5, e6, e7, e8⟩ := h.count
  have hc := h.call
  have h2 := h.chg1
  have h3 := h.objs1
  have hl := len_adel s.objs key
  unfold delO
  rw [e1, e2]
  split
  · exact ⟨hc.now0, hc.now1, hc.lag0, hc.lag1, hc.count0, hc.count1, hc.most0, hc.most1, hc.calls0, hc.calls1, by show (s.chg ++ [_]).length ≤ _; simp; omega, by show (adel s.objs key).length ≤ _; omega, fun p hp => h.mem p (mem_adel hp)⟩
  · exact hc
theorem doS_eq (f : SS → SS) (s : SS) : doS f s = ((callS s).1, if (callS s).2.1 then f (callS s).2.2 else (callS s).2.2) := rfl
theorem StOk.put {s : SS} {N : Nat} (h : StOk s N) (key : ByteArray) (bs : List UInt8) : StOk (putS key bs s).2 (N + 1) := by
  have hm := h.more (Nat.le_succ N)
  unfold putS
  split
  · exact hm
  · split
    · exact hm
    · split
      · exact hm
      · rw [doS_eq]
        show StOk (if _ then _ else _) _
        split
        · exact h.callPut key (by omega)
        · exact h.call
theorem StOk.del {s : SS} {N : Nat} (h : StOk s N) (key : ByteArray) : StOk (delS key s).2 (N + 1) := by
  unfold delS
  split
  · exact h.more (Nat.le_succ N)
  · rw [doS_eq]
    show StOk (if _ then _ else _) _
    split
    · exact h.callDel key
    · exact h.call
theorem StOk.get {s : SS} {N : Nat} (h : StOk s N) (key : ByteArray) : StOk (getS key s).2.2 (N + 1) := by
  unfold getS
  split
  · exact h.more (Nat.le_succ N)
  · split
    · split <;> exact h.call
    · exact h.call
theorem StOk.list {s : SS} {N : Nat} (h : StOk s N) (p : ByteArray) : StOk (listS p s).2.2 (N + 1) := by
  unfold listS
  split
  · exact h.more (Nat.le_succ N)
  · split <;> exact h.call
theorem StOk.tick {s : SS} {N : Nat} (h : StOk s N) (k : Int) : StOk (tickS s k).2 N := by
  have h0 := h.now0
  unfold tickS
  split
  · exact ⟨by show 0 ≤ s.now + k; omega, by show s.now + k ≤ _; omega, h.lag0, h.lag1, h.count0, h.count1, h.most0, h.most1, h.calls0, h.calls1, h.chg1, h.objs1, h.mem⟩
  · exact h
theorem StOk.lag {s : SS} {N : Nat} (h : StOk s N) (k : Int) : StOk (lagS s k).2 N := by
  unfold lagS
  split
  · exact ⟨h.now0, h.now1, by show 0 ≤ k; omega, by show k ≤ s.most; omega, h.count0, h.count1, h.most0, h.most1, h.calls0, h.calls1, h.chg1, h.objs1, h.mem⟩
  · exact h
def failS (s : SS) (k : Int) (d : Bool) : SS := { s with count := max k 0, done := d }
theorem StOk.fail {s : SS} {N : Nat} (h : StOk s N) {k : Int} (hk : k ≤ 9223372036854775807) (d : Bool) : StOk (failS s k d) N :=
  ⟨h.now0, h.now1, h.lag0, h.lag1, by show 0 ≤ max k 0; omega, by show max k 0 ≤ _; omega, h.most0, h.most1, h.calls0, h.calls1, h.chg1, h.objs1, h.mem⟩
theorem doS_cases (f : SS → SS) (s : SS) : (∃ e : Int, (e = 0 ∨ e = 8) ∧ doS f s = (e, f (callS s).2.2)) ∨ doS f s = (8, (callS s).2.2) := by
  rw [doS_eq]
  unfold callS
  split
  · split
    · cases hd : s.done with
      | true => exact .inl ⟨8, .inr rfl, rfl⟩
      | false => exact .inr rfl
    · exact .inl ⟨0, .inl rfl, rfl⟩
  · exact .inl ⟨0, .inl rfl, rfl⟩
theorem putS_cases (key : ByteArray) (bs : List UInt8) (s : SS) : (∃ e : Int, (e = 1 ∨ e = 6 ∨ e = 7) ∧ putS key bs s = (e, s)) ∨ (∃ e : Int, (e = 0 ∨ e = 8) ∧ bs.length ≤ 1048576 ∧ putS key bs s = (e, putO key bs (callS s).2.2)) ∨ putS key bs s = (8, (callS s).2.2) := by
  unfold putS
  split
  · exact .inl ⟨1, .inl rfl, rfl⟩
  · split
    · exact .inl ⟨6, .inr (.inl rfl), rfl⟩
    · split
      · exact .inl ⟨7, .inr (.inr rfl), rfl⟩
      · rcases doS_cases (putO key bs) s with ⟨e, he, h⟩ | h
        · exact .inr (.inl ⟨e, he, by omega, h⟩)
        · exact .inr (.inr h)
theorem delS_cases (key : ByteArray) (s : SS) : delS key s = (1, s) ∨ (∃ e : Int, (e = 0 ∨ e = 8) ∧ delS key s = (e, delO key (callS s).2.2)) ∨ delS key s = (8, (callS s).2.2) := by
  unfold delS
  split
  · exact .inl rfl
  · exact .inr (doS_cases _ _)
theorem getS_cases (key : ByteArray) (s : SS) : getS key s = (1, [], s) ∨ (aget s.objs key = none ∧ getS key s = (3, [], (callS s).2.2)) ∨ (∃ bs, aget s.objs key = some bs ∧ getS key s = (0, bs, (callS s).2.2)) ∨ getS key s = (8, [], (callS s).2.2) := by
  unfold getS
  split
  · exact .inl rfl
  · split
    · cases hg : aget s.objs key with
      | none => exact .inr (.inl ⟨rfl, rfl⟩)
      | some bs => exact .inr (.inr (.inl ⟨bs, rfl, rfl⟩))
    · rename_i h
      have : (callS s).1 = 8 := by
        revert h
        unfold callS
        split
        · split
          · intro _; rfl
          · intro h; exact absurd rfl h
        · intro h; exact absurd rfl h
      rw [this]
      exact .inr (.inr (.inr rfl))
theorem putO_get (key : ByteArray) (bs : List UInt8) (s : SS) (k : ByteArray) : aget (putO key bs s).objs k = if k = key then some bs else aget s.objs k := by
  unfold putO
  split <;> exact aget_aput _ _ _ _
theorem delO_get (key : ByteArray) {s : SS} (hn : (akeys s.objs).Nodup) (k : ByteArray) : aget (delO key s).objs k = if k = key then none else aget s.objs k := by
  unfold delO
  split
  · exact aget_adel hn _ _
  · rename_i h
    by_cases e : k = key
    · rw [if_pos e, e]; cases hg : aget s.objs key with
      | none => rfl
      | some x => rw [hg] at h; exact absurd rfl h
    · rw [if_neg e]
end Go.Proofs.Ytmefejfnddcelaa
