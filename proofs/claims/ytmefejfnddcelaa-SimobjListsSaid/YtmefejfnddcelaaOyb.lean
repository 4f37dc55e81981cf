/- Printed by gen/simobj.py for this claim: what each of these functions of the program does, as its theorem says. No condition but what stands in each theorem. -/
import Derived.Test.YtmefejfnddcelaaOx
import Derived.Test.YtmefejfnddcelaaOya
namespace Go.Proofs.Ytmefejfnddcelaa
/-- When a key came, or went, last: the time and one; 0: never. -/
def cget (m : List (ByteArray × Int)) (k : ByteArray) : Int := (aget m k).getD 0
theorem cget_put (m : List (ByteArray × Int)) (k j : ByteArray) (t : Int) : cget (aput m k t) j = if j = k then t else cget m j := by
  unfold cget; rw [aget_aput]; split <;> rfl
/-- What the two maps of the law say of the store. -/
structure LI (s : SS) (ca we : List (ByteArray × Int)) : Prop where
  ts : ∀ c ∈ s.chg, 0 ≤ c.2.1 ∧ c.2.1 ≤ s.now
  nd : (akeys s.objs).Nodup
  came : ∀ k t, (k, t, true) ∈ s.chg → t + 1 ≤ cget ca k
  went : ∀ k t, (k, t, false) ∈ s.chg → t + 1 ≤ cget we k ∧ 1 ≤ cget ca k
  objs : ∀ k, k ∈ akeys s.objs → 1 ≤ cget ca k
  rc : ∀ k, 0 ≤ cget ca k ∧ cget ca k ≤ 1099511627777
  rw : ∀ k, 0 ≤ cget we k ∧ cget we k ≤ 1099511627777
theorem LI.same {s s' : SS} {ca we : List (ByteArray × Int)} (h : LI s ca we) (e1 : s'.objs = s.objs) (e2 : s'.chg = s.chg) (e3 : s.now ≤ s'.now) : LI s' ca we :=
  ⟨fun c hc => by rw [e2] at hc; have := h.ts c hc; omega, by rw [e1]; exact h.nd, by rw [e2]; exact h.came, by rw [e2]; exact h.went, by rw [e1]; exact h.objs, h.rc, h.rw⟩
theorem mem_akeys_aput {l : List (ByteArray × List UInt8)} {k j : ByteArray} {v : List UInt8} (h : j ∈ akeys (aput l k v)) : j = k ∨ j ∈ akeys l := by
  rw [keys_aput] at h
  split at h
  · exact .inr h
  · rcases List.mem_append.1 h with h | h
    · exact .inr h
    · simp at h; exact .inl h
theorem mem_akeys_adel {l : List (ByteArray × List UInt8)} {k j : ByteArray} (hn : (akeys l).Nodup) (h : j ∈ akeys (adel l k)) : j ∈ akeys l := by
  rw [keys_adel hn] at h
  exact (List.mem_filter.1 h).1
theorem isSome_keys {l : List (ByteArray × List UInt8)} {k : ByteArray} (h : (aget l k).isSome = true) : k ∈ akeys l := by
  cases hg : aget l k with
  | none => rw [hg] at h; cases h
  | some x => exact mem_keys (aget_mem hg)
theorem keys_isSome {l : List (ByteArray × List UInt8)} {k : ByteArray} (h : k ∈ akeys l) : (aget l k).isSome = true := by
  obtain ⟨x, hx⟩ := aget_some l k h
  rw [hx]; rfl
theorem LI.putOld {s : SS} {ca we : List (ByteArray × Int)} (h : LI s ca we) {key : ByteArray} (bs : List UInt8) (hk : (aget s.objs key).isSome = true) : LI (putO key bs s) ca we := by
  unfold putO
  rw [if_pos hk]
  exact ⟨h.ts, nodup_aput h.nd _ _, h.came, h.went, fun k hm => by
    rcases mem_akeys_aput hm with rfl | hm
    · exact h.objs _ (isSome_keys hk)
    · exact h.objs _ hm, h.rc, h.rw⟩
theorem LI.putNew {s : SS} {ca we : List (ByteArray × Int)} (h : LI s ca we) {key : ByteArray} (bs : List UInt8) (hk : ¬ (aget s.objs key).isSome = true) (h0 : 0 ≤ s.now) (h1 : s.now ≤ 1099511627776) : LI (putO key bs s) (aput ca key (s.now + 1)) we := by
  unfold putO
  rw [if_neg hk]
  refine ⟨fun c hc => ?_, nodup_aput h.nd _ _, fun k t hc => ?_, fun k t hc => ?_, fun k hm => ?_, fun k => ?_, h.rw⟩
  · rcases List.mem_append.1 hc with hc | hc
    · exact h.ts c hc
    · simp at hc; subst hc; exact ⟨h0, Int.le_refl _⟩
  · rw [cget_put]
    rcases List.mem_append.1 hc with hc | hc
    · have h2 := h.came k t hc
      have h3 := (h.ts _ hc).2
      split
      · show t + 1 ≤ s.now + 1
        have : t ≤ s.now := h3
        omega
      · exact h2
    · simp at hc
      obtain ⟨rfl, rfl⟩ := hc
      rw [if_pos rfl]; exact Int.le_refl _
  · rcases List.mem_append.1 hc with hc | hc
    · refine ⟨(h.went k t hc).1, ?_⟩
      rw [cget_put]
      split
      · omega
      · exact (h.went k t hc).2
    · simp at hc
  · rw [cget_put]
    split
    · omega
    · rcases mem_akeys_aput hm with rfl | hm
      · exact absurd rfl ‹_›
      · exact h.objs _ hm
  · rw [cget_put]
    split
    · omega
    · exact h.rc k
theorem LI.delOld {s : SS} {ca we : List (ByteArray × Int)} (h : LI s ca we) {key : ByteArray} (hk : (aget s.objs key).isSome = true) (h0 : 0 ≤ s.now) (h1 : s.now ≤ 1099511627776) : LI (delO key s) ca (aput we key (s.now + 1)) := by
  unfold delO
  rw [if_pos hk]
  refine ⟨fun c hc => ?_, nodup_adel h.nd _, fun k t hc => ?_, fun k t hc => ?_, fun k hm => h.objs _ (mem_akeys_adel h.nd hm), h.rc, fun k => ?_⟩
  · rcases List.mem_append.1 hc with hc | hc
    · exact h.ts c hc
    · simp at hc; subst hc; exact ⟨h0, Int.le_refl _⟩
  · rcases List.mem_append.1 hc with hc | hc
    · exact h.came k t hc
    · simp at hc
  · rw [cget_put]
    rcases List.mem_append.1 hc with hc | hc
    · have h2 := h.went k t hc
      have h3 := (h.ts _ hc).2
      split
      · have : t ≤ s.now := h3
        exact ⟨by omega, h2.2⟩
      · exact h2
    · simp at hc
      obtain ⟨rfl, rfl⟩ := hc
      rw [if_pos rfl]; exact ⟨Int.le_refl _, h.objs _ (isSome_keys hk)⟩
  · rw [cget_put]
    split
    · omega
    · exact h.rw k
theorem LI.delNew {s : SS} {ca we : List (ByteArray × Int)} (h : LI s ca we) {key : ByteArray} (hk : ¬ (aget s.objs key).isSome = true) : LI (delO key s) ca we := by
  unfold delO
  rw [if_neg hk]; exact h
theorem mem_while {α : Type} {p : α → Bool} {c : α} : ∀ {l : List α}, c ∈ l.takeWhile p → p c = true
  | x :: l, h => by
    by_cases hx : p x = true
    · rw [List.takeWhile_cons_of_pos hx] at h
      rcases List.mem_cons.1 h with rfl | h
      · exact hx
      · exact mem_while h
    · rw [List.takeWhile_cons_of_neg hx] at h; cases h
theorem hid_mem {s : SS} {c : ByteArray × Int × Bool} (h : c ∈ hidL s) : c ∈ s.chg ∧ s.now - s.lag < c.2.1 := by
  unfold hidL at h
  have h1 := (List.takeWhile_sublist (hidP s) (l := s.chg.reverse)).subset h
  have h2 := mem_while h
  unfold hidP at h2
  exact ⟨by simpa using h1, by simpa using h2⟩
/-- What a look into the view says: of a change that is hidden, or of what is there. -/
theorem hidF_look {l : List (ByteArray × Int × Bool)} : ∀ {m : List (ByteArray × Bool)} {k : ByteArray}, aget (hidF m l) k = aget m k ∨ ∃ t b, (k, t, b) ∈ l ∧ aget (hidF m l) k = some (!b) := by
  induction l with
  | nil => intro m k; exact .inl rfl
  | cons c l ih =>
    intro m k
    obtain ⟨ck, ct, cb⟩ := c
    show aget (hidF (aput m ck (!cb)) l) k = _ ∨ _
    rcases ih (m := aput m ck (!cb)) (k := k) with h | ⟨t, b, h1, h2⟩
    · rw [aget_aput] at h
      by_cases e : k = ck
      · subst e
        rw [if_pos rfl] at h
        exact .inr ⟨ct, cb, by simp, h⟩
      · rw [if_neg e] at h
        exact .inl h
    · exact .inr ⟨t, b, List.mem_cons_of_mem _ h1, h2⟩
theorem sortB_mem {d : List ByteArray} {k : ByteArray} : k ∈ sortB d ↔ k ∈ d := by
  unfold sortB
  rw [List.mem_map]
  constructor
  · rintro ⟨x, hx, rfl⟩
    rw [(List.mergeSort_perm _ _).mem_iff, List.mem_map] at hx
    obtain ⟨y, hy, rfl⟩ := hx
    exact hy
  · intro h
    exact ⟨k.data.toList, by rw [(List.mergeSort_perm _ _).mem_iff, List.mem_map]; exact ⟨k, h, rfl⟩, rfl⟩
theorem pref_e (k : ByteArray) : prefB kE k = true := by
  have h : k.extract 0 kE.size = kE := by
    apply ByteArray.ext
    show (k.extract 0 0).data = #[]
    simp
  unfold prefB
  rw [h, decide_eq_true (p := kE.size ≤ k.size) (Nat.zero_le _)]
  simp
theorem listK_mem {s : SS} (hn : (akeys s.objs).Nodup) {k : ByteArray} : k ∈ listK kE s ↔ aget (viewS s) k = some true := by
  have hv : (akeys (viewS s)).Nodup := hidF_nodup (by rw [allT_keys]; exact hn)
  unfold listK
  rw [sortB_mem]
  constructor
  · intro h
    obtain ⟨⟨a, b⟩, hq, rfl⟩ := List.mem_map.1 h
    obtain ⟨h1, h2⟩ := List.mem_filter.1 hq
    have : b = true := by unfold keepQ at h2; simp at h2; exact h2.1
    subst this
    exact aget_of_mem hv h1
  · intro h
    exact List.mem_map.2 ⟨(k, true), List.mem_filter.2 ⟨aget_mem h, by simp [keepQ, pref_e]⟩, rfl⟩
theorem view_in {s : SS} {ca we : List (ByteArray × Int)} (h : LI s ca we) {k : ByteArray} (hk : k ∈ listK kE s) : 1 ≤ cget ca k ∧ ((aget s.objs k).isSome = false → s.now - s.lag < cget we k - 1) := by
  rw [listK_mem h.nd] at hk
  unfold viewS at hk
  rcases hidF_look (m := allT (akeys s.objs)) (l := hidL s) (k := k) with h1 | ⟨t, b, h1, h2⟩
  · rw [h1, allT_get] at hk
    split at hk
    · rename_i hm
      exact ⟨h.objs k hm, fun hf => by rw [keys_isSome hm] at hf; cases hf⟩
    · cases hk
  · rw [h2] at hk
    have hb : b = false := by cases b <;> simp_all
    subst hb
    obtain ⟨h3, h4⟩ := hid_mem h1
    have h5 := h.went k t h3
    exact ⟨h5.2, fun _ => by have : s.now - s.lag < t := h4; omega⟩
theorem view_out {s : SS} {ca we : List (ByteArray × Int)} (h : LI s ca we) {k : ByteArray} (hm : k ∈ akeys s.objs) (hk : k ∉ listK kE s) : s.now - s.lag < cget ca k - 1 := by
  rw [listK_mem h.nd] at hk
  unfold viewS at hk
  rcases hidF_look (m := allT (akeys s.objs)) (l := hidL s) (k := k) with h1 | ⟨t, b, h1, h2⟩
  · rw [h1, allT_get, if_pos hm] at hk
    exact absurd rfl hk
  · rw [h2] at hk
    have hb : b = true := by cases b <;> simp_all
    subst hb
    obtain ⟨h3, h4⟩ := hid_mem h1
    have h5 := h.came k t h3
    have : s.now - s.lag < t := h4
    omega
/-- Where nothing is hidden, a list is the keys. -/
theorem list_quiet {s : SS} (hn : (akeys s.objs).Nodup) (h : ∀ c ∈ s.chg, c.2.1 ≤ s.now - s.lag) : listK kE s = sortB (akeys s.objs) := by
  have hh : hidL s = [] := by
    cases hl : hidL s with
    | nil => rfl
    | cons c l =>
      have := hid_mem (s := s) (c := c) (by rw [hl]; simp)
      have h2 := h c this.1
      omega
  unfold listK viewS
  rw [hh]
  show sortB (akeys ((allT (akeys s.objs)).filter (keepQ kE))) = _
  rw [List.filter_eq_self.2]
  · rw [allT_keys]
  · intro q hq
    obtain ⟨k, _, rfl⟩ := List.mem_map.1 hq
    simp [keepQ, pref_e]
def cv (m : List (ByteArray × Int)) : List (ByteArray × Value) := m.map fun q => (q.1, .int .i64 q.2)
theorem cv_get {w : List (ByteArray × Int)} {k : ByteArray} : aget (cv w) k = (aget w k).map (Value.int .i64) := by
  induction w with
  | nil => rfl
  | cons q w ih =>
    obtain ⟨a, x⟩ := q
    show aget ((a, .int .i64 x) :: cv w) k = _
    simp only [aget]
    split
    · rfl
    · exact ih
theorem cv_put {w : List (ByteArray × Int)} (k : ByteArray) (x : Int) : aput (cv w) k (.int .i64 x) = cv (aput w k x) := by
  induction w with
  | nil => rfl
  | cons q w ih =>
    obtain ⟨a, y⟩ := q
    show aput ((a, .int .i64 y) :: cv w) k _ = _
    simp only [aput]
    split
    · rfl
    · rw [ih]; rfl
theorem cv_none {w : List (ByteArray × Int)} {k : ByteArray} (h : aget (cv w) k = none) : cget w k = 0 := by
  rw [cv_get] at h
  unfold cget
  cases hg : aget w k with
  | none => rfl
  | some x => rw [hg] at h; cases h
theorem cv_some {w : List (ByteArray × Int)} {k : ByteArray} {v : Value} (h : aget (cv w) k = some v) : ∃ t, v = .int .i64 t ∧ cget w k = t := by
  rw [cv_get] at h
  unfold cget
  cases hg : aget w k with
  | none => rw [hg] at h; cases h
  | some x => rw [hg] at h; cases h; exact ⟨x, rfl, rfl⟩
theorem bv_aget {m : List (ByteArray × Bool)} {k : ByteArray} : aget (bv m) k = (aget m k).map Value.bool := by
  induction m with
  | nil => rfl
  | cons q w ih =>
    obtain ⟨a, x⟩ := q
    show aget ((a, .bool x) :: bv w) k = _
    simp only [aget]
    split
    · rfl
    · exact ih
theorem bv_none {m : List (ByteArray × Bool)} {k : ByteArray} (h : aget (bv m) k = none) : aget m k = none := by
  rw [bv_aget] at h
  cases hg : aget m k with
  | none => rfl
  | some x => rw [hg] at h; cases h
theorem bv_some {m : List (ByteArray × Bool)} {k : ByteArray} {v : Value} (h : aget (bv m) k = some v) : ∃ b, v = .bool b ∧ aget m k = some b := by
  rw [bv_aget] at h
  cases hg : aget m k with
  | none => rw [hg] at h; cases h
  | some x => rw [hg] at h; cases h; exact ⟨x, rfl, rfl⟩
theorem putO_now (key : ByteArray) (bs : List UInt8) (s : SS) : (putO key bs s).now = s.now := by unfold putO; split <;> rfl
theorem putO_lag (key : ByteArray) (bs : List UInt8) (s : SS) : (putO key bs s).lag = s.lag := by unfold putO; split <;> rfl
theorem delO_now (key : ByteArray) (s : SS) : (delO key s).now = s.now := by unfold delO; split <;> rfl
theorem delO_lag (key : ByteArray) (s : SS) : (delO key s).lag = s.lag := by unfold delO; split <;> rfl
theorem tickS_chg (s : SS) (k : Int) : (tickS s k).2.chg = s.chg := by unfold tickS; split <;> rfl
theorem tickS_lag (s : SS) (k : Int) : (tickS s k).2.lag = s.lag := by unfold tickS; split <;> rfl
theorem tickS_now (s : SS) (k : Int) : s.now ≤ (tickS s k).2.now ∧ ((tickS s k).2.now ≤ s.now + k ∨ (tickS s k).2.now = s.now) := by
  unfold tickS; split
  · exact ⟨by show s.now ≤ s.now + k; omega, .inl (Int.le_refl _)⟩
  · exact ⟨Int.le_refl _, .inr rfl⟩
theorem LI.call {s : SS} {ca we : List (ByteArray × Int)} (h : LI s ca we) : LI (callS s).2.2 ca we := h.same (callS_objs s) (callS_chg s) (by rw [callS_now]; exact Int.le_refl _)
/-- The clock and the lag of a store of this law. -/
structure LN (s : SS) (lg : Int) (i : Nat) : Prop where
  lag : s.lag = lg
  now : s.now ≤ 30 * (i : Int)
theorem LN.more {s : SS} {lg : Int} {i : Nat} (h : LN s lg i) : LN s lg (i + 1) := ⟨h.lag, by have := h.now; omega⟩
theorem LN.call {s : SS} {lg : Int} {i : Nat} (h : LN s lg i) : LN (callS s).2.2 lg i := ⟨by rw [callS_lag]; exact h.lag, by rw [callS_now]; exact h.now⟩
theorem LN.put {s : SS} {lg : Int} {i : Nat} (h : LN s lg i) (key : ByteArray) (bs : List UInt8) : LN (putO key bs s) lg i := ⟨by rw [putO_lag]; exact h.lag, by rw [putO_now]; exact h.now⟩
theorem LN.del {s : SS} {lg : Int} {i : Nat} (h : LN s lg i) (key : ByteArray) : LN (delO key s) lg i := ⟨by rw [delO_lag]; exact h.lag, by rw [delO_now]; exact h.now⟩
theorem LN.fail {s : SS} {lg : Int} {i : Nat} (h : LN s lg i) (k : Int) (d : Bool) : LN (failS s k d) lg i := ⟨h.lag, h.now⟩
theorem LN.tick {s : SS} {lg : Int} {i : Nat} (h : LN s lg i) {k : Int} (hk : k < 30) : LN (tickS s k).2 lg (i + 1) := ⟨by rw [tickS_lag]; exact h.lag, by have := h.now; have := tickS_now s k; omega⟩
def lagK (k : Int) : SS := ⟨[], [], 20, k, 0, 0, 0, false⟩
theorem lagK_ok {k : Int} (h0 : 0 ≤ k) (h1 : k ≤ 20) : StOk (lagK k) 0 := ⟨Int.le_refl 0, (by decide : (0 : Int) ≤ 1099511627776), h0, h1, Int.le_refl 0, (by decide : (0 : Int) ≤ 9223372036854775807), (by decide : (0 : Int) ≤ 20), (by decide : (20 : Int) ≤ 100), Int.le_refl 0, Int.le_refl 0, Nat.le_refl 0, Nat.le_refl 0, fun p hp => by cases hp⟩
theorem lagK_li (k : Int) : LI (lagK k) [] [] := ⟨fun c hc => (by cases hc), .nil, fun _ _ h => (by cases h), fun _ _ h => (by cases h), fun _ h => (by cases h), fun _ => ⟨Int.le_refl 0, (by decide : (0 : Int) ≤ 1099511627777)⟩, fun _ => ⟨Int.le_refl 0, (by decide : (0 : Int) ≤ 1099511627777)⟩⟩
def tickT (s : SS) (k : Int) : SS := { s with now := s.now + k }
theorem callS_8 (s : SS) : (callS s).1 = 0 ∨ (callS s).1 = 8 := by
  unfold callS; split
  · split
    · exact .inr rfl
    · exact .inl rfl
  · exact .inl rfl
theorem listS_e (s : SS) : listS kE s = (8, [], (callS s).2.2) ∨ listS kE s = (0, listK kE (callS s).2.2, (callS s).2.2) := by
  have hf : fineB kE = true := by kernel_rfl
  rcases callS_8 s with h | h
  · exact .inr (listS_ok hf h)
  · refine .inl ?_
    rw [listS_err hf (by omega), h]
theorem end_quiet {s : SS} {ca we : List (ByteArray × Int)} {lg : Int} {i : Nat} (h : LI s ca we) (hn : LN s lg i) : listK kE (callS (tickT (failS s 0 false) lg)).2.2 = sortB (akeys (callS (tickT (failS s 0 false) lg)).2.2.objs) := by
  refine list_quiet (by rw [callS_objs]; exact h.nd) fun c hc => ?_
  rw [callS_chg] at hc
  rw [callS_now, callS_lag]
  have h1 := h.ts c hc
  have h2 := hn.lag
  show c.2.1 ≤ s.now + lg - s.lag
  omega
end Go.Proofs.Ytmefejfnddcelaa
