/- Printed by a program of this claim's: what each of these functions of the program does, as its theorem says. No condition but what stands in each theorem. -/
import Derived.Test.YtmefejfnddcelaaDp
namespace Go.Proofs.Ytmefejfnddcelaa
def kT : ByteArray := ⟨#[116, 109, 112]⟩
def kI : ByteArray := ⟨#[105, 116]⟩
theorem kTI : ¬ kT = kI := by decide
/-- Names: it has the file i, tmp has t, nothing else is there. -/
structure NS (m : List (ByteArray × Nat)) (i : Nat) (t : Option Nat) : Prop where
  it : aget m kI = some i
  tmp : aget m kT = t
  no : ∀ k, k ≠ kI → k ≠ kT → aget m k = none
  nd : (akeys m).Nodup
theorem NS.made {m : List (ByteArray × Nat)} {i : Nat} {t : Option Nat} (h : NS m i t) (k : Nat) : NS (doC m (.made kT k)) i (some k) :=
  ⟨by show aget (aput m kT k) kI = _; rw [aget_aput, if_neg (fun e => kTI e.symm)]; exact h.it, by show aget (aput m kT k) kT = _; rw [aget_aput, if_pos rfl],
   fun a h1 h2 => by show aget (aput m kT k) a = _; rw [aget_aput, if_neg h2]; exact h.no a h1 h2, doC_nodup h.nd (.made kT k)⟩
theorem NS.del {m : List (ByteArray × Nat)} {i : Nat} {t : Option Nat} (h : NS m i t) : NS (doC m (.del kT)) i none :=
  ⟨by show aget (adel m kT) kI = _; rw [aget_adel h.nd, if_neg (fun e => kTI e.symm)]; exact h.it, by show aget (adel m kT) kT = _; rw [aget_adel h.nd, if_pos rfl],
   fun a h1 h2 => by show aget (adel m kT) a = _; rw [aget_adel h.nd, if_neg h2]; exact h.no a h1 h2, doC_nodup h.nd (.del kT)⟩
theorem NS.ren {m : List (ByteArray × Nat)} {i k : Nat} (h : NS m i (some k)) : NS (doC m (.ren kT kI)) k none := by
  have e : doC m (.ren kT kI) = aput (adel m kT) kI k := by simp only [doC, h.tmp]
  rw [e]
  refine ⟨by rw [aget_aput, if_pos rfl], by rw [aget_aput, if_neg kTI, aget_adel h.nd, if_pos rfl], fun a h1 h2 => ?_, nodup_aput (nodup_adel h.nd _) _ _⟩
  rw [aget_aput, if_neg h1, aget_adel h.nd, if_neg h2]; exact h.no a h1 h2
theorem NS.ren0 {m : List (ByteArray × Nat)} {i : Nat} (h : NS m i none) : NS (doC m (.ren kT kI)) i none := by
  have e : doC m (.ren kT kI) = m := by simp only [doC, h.tmp]
  rw [e]; exact h
theorem NS.keys {m : List (ByteArray × Nat)} {i : Nat} {t : Option Nat} (h : NS m i t) {k : ByteArray} (hk : k ∈ akeys m) : k = kI ∨ k = kT := by
  apply Classical.byContradiction
  intro hn
  obtain ⟨v, hv⟩ := aget_some m k hk
  rw [h.no k (fun e => hn (.inl e)) (fun e => hn (.inr e))] at hv
  cases hv
theorem NS.len {m : List (ByteArray × Nat)} {i : Nat} {t : Option Nat} (h : NS m i t) : m.length ≤ 2 := by
  have h1 := sub_len (m := [kI, kT]) h.nd (fun k hk => by rcases h.keys hk with rfl | rfl <;> simp)
  simpa [akeys] using h1
theorem sum_two (f : ByteArray → Nat) (a b : ByteArray) : ∀ (l : List ByteArray), l.Nodup → (∀ x ∈ l, x = a ∨ x = b) → (l.map f).sum ≤ f a + f b := by
  intro l hn hl
  have h2 : l.length ≤ 2 := by
    have := sub_len (m := [a, b]) hn (fun k hk => by rcases hl k hk with rfl | rfl <;> simp)
    simpa using this
  match l, h2, hn, hl with
  | [], _, _, _ => simp
  | [x], _, _, hl => rcases hl x (by simp) with rfl | rfl <;> simp
  | [x, y], _, hn, hl =>
    have hne : ¬ x = y := by simpa using hn
    rcases hl x (by simp) with rfl | rfl <;> rcases hl y (by simp) with rfl | rfl
    · exact absurd rfl hne
    · simp
    · simp; omega
    · exact absurd rfl hne
theorem NS.used {s : DS} {i : Nat} {t : Option Nat} (h : NS s.now i t) : usedS s ≤ lenK s kI + lenK s kT := by
  unfold usedS
  have hp : (sortB (akeys s.now)).Perm (akeys s.now) := by
    unfold sortB
    refine ((List.mergeSort_perm _ _).map _).trans ?_
    rw [List.map_map]
    have : ((fun l : List UInt8 => (⟨l.toArray⟩ : ByteArray)) ∘ fun k : ByteArray => k.data.toList) = id := by funext x; rfl
    rw [this, List.map_id]
  exact sum_two _ _ _ _ (hp.nodup_iff.2 h.nd) (fun x hx => h.keys (hp.mem_iff.1 hx))
/-- What an operation answers. -/
theorem opS_cases (s : DS) : ((opS s).1 = 0 ∧ (opS s).2.1 = true ∧ (opS s).2.2.off = s.off) ∨ (opS s).1 = 8 ∨ ((opS s).1 = 9 ∧ (opS s).2.1 = false) := by
  unfold opS
  split
  · exact .inr (.inr ⟨rfl, rfl⟩)
  · simp only
    split
    · split
      · exact .inr (.inl rfl)
      · exact .inl ⟨rfl, rfl, rfl⟩
    · exact .inl ⟨rfl, rfl, rfl⟩
/-- What a swap begins with: a disk that is sure, it has the bytes cur. -/
structure WI (cur : List UInt8) (i : Nat) (t : Option Nat) (s : DS) : Prop where
  off : s.off = false
  chg : s.chg = []
  now : NS s.now i t
  sure : NS s.sure i t
  file : s.fs[i]? = some ⟨cur, []⟩
  ti : t ≠ some i
  len : cur.length ≤ 500
  quota : s.quota = 1048576
/-- Behind any crash: it has b, or (where that may be) cur. -/
def CS (cur b : List UInt8) (fin : Prop) (s : DS) : Prop :=
  s.quota = 1048576 ∧ ∀ keep, ∃ i t c, NS (crashN s.chg keep s.sure).1 i t ∧ s.fs[i]? = some ⟨c, []⟩ ∧ (c = b ∨ (¬ fin ∧ c = cur)) ∧ t ≠ some i
theorem CS.crash {cur b : List UInt8} {fin : Prop} {s : DS} (h : CS cur b fin s) (hb : b.length ≤ 500) (hc : cur.length ≤ 500) (keep : List Bool) : ∃ i t c, WI c i t (crashS keep s) ∧ readS kI (crashS keep s) = (0, c) ∧ (c = b ∨ (¬ fin ∧ c = cur)) := by
  obtain ⟨hq, hk⟩ := h
  obtain ⟨i, t, c, h1, h2, h3, h4⟩ := hk keep
  have hf : (crashS keep s).fs[i]? = some ⟨c, []⟩ := crashF_sure _ _ _ h2
  refine ⟨i, t, c, ⟨rfl, rfl, h1, h1, hf, h4, ?_, hq⟩, ?_, h3⟩
  · rcases h3 with rfl | ⟨_, rfl⟩ <;> assumption
  · rw [readS_some (i := i) rfl (show aget (crashS keep s).now kI = some i from h1.it)]
    have h5 : fileD (crashS keep s) i = ⟨c, []⟩ := by unfold fileD; rw [List.getD_eq_getElem?_getD, hf]; rfl
    rw [h5]; simp [FileS.bytes]
/-- As far as the writing goes: tmp is the new file k. -/
structure WN (cur : List UInt8) (i k : Nat) (s : DS) : Prop where
  off : s.off = false
  chg : s.chg = [.made kT k]
  now : NS s.now i (some k)
  sure : NS s.sure i none
  file : s.fs[i]? = some ⟨cur, []⟩
  ki : k ≠ i
  len : cur.length ≤ 500
  quota : s.quota = 1048576
  lt : k < s.fs.length
def swapA (b : List UInt8) (s : DS) : Int × DS :=
  if (createS kT s).1 = 0 then
    (if (appendS kT b (createS kT s).2).1 = 0 then
      (if (syncS kT (appendS kT b (createS kT s).2).2).1 = 0 then
        (if (renameS kT kI (syncS kT (appendS kT b (createS kT s).2).2).2).1 = 0 then syncdirS (renameS kT kI (syncS kT (appendS kT b (createS kT s).2).2).2).2
         else renameS kT kI (syncS kT (appendS kT b (createS kT s).2).2).2)
       else syncS kT (appendS kT b (createS kT s).2).2)
     else appendS kT b (createS kT s).2)
  else createS kT s
def swapD (b : List UInt8) (s : DS) : Int × DS :=
  if (readS kT s).1 = 0 then
    (if (removeS kT s).1 = 0 then (if (syncdirS (removeS kT s).2).1 = 0 then swapA b (syncdirS (removeS kT s).2).2 else syncdirS (removeS kT s).2) else removeS kT s)
  else swapA b s
theorem DB.swapA {s : DS} {N : Nat} (h : DB s N) (b : List UInt8) : DB (swapA b s).2 (N + 5) := by
  have h1 := h.create kT
  have h2 := h1.append kT b
  have h3 := h2.sync kT
  have h4 := h3.rename kT kI
  have h5 := h4.syncdir
  unfold Go.Proofs.Ytmefejfnddcelaa.swapA
  split
  · split
    · split
      · split
        · exact h5
        · exact h4.more (by omega)
      · exact h3.more (by omega)
    · exact h2.more (by omega)
  · exact h1.more (by omega)
theorem DB.swap {s : DS} {N : Nat} (h : DB s N) (b : List UInt8) : DB (swapD b s).2 (N + 7) := by
  have h1 := h.remove kT
  have h2 := h1.syncdir
  unfold swapD
  split
  · split
    · split
      · exact h2.swapA b
      · exact h2.more (by omega)
    · exact h1.more (by omega)
  · exact (h.swapA b).more (by omega)
/-- Nothing is done, or a change that a crash forgives. -/
theorem cs_same {cur b : List UInt8} {i : Nat} {t : Option Nat} {s s' : DS} (h : WI cur i t s) (e1 : s'.fs[i]? = s.fs[i]?) (e2 : s'.sure = s.sure) (e3 : s'.chg = []) (e4 : s'.quota = s.quota) : CS cur b False s' := by
  refine ⟨e4.trans h.quota, fun keep => ⟨i, t, cur, ?_, e1.trans h.file, .inr ⟨fun x => x, rfl⟩, h.ti⟩⟩
  rw [e2, e3]; exact h.sure
theorem cs_del {cur b : List UInt8} {i : Nat} {t : Option Nat} {s s' : DS} (h : WI cur i t s) (e1 : s'.fs[i]? = s.fs[i]?) (e2 : s'.sure = s.sure) (e3 : s'.chg = [.del kT]) (e4 : s'.quota = s.quota) : CS cur b False s' := by
  refine ⟨e4.trans h.quota, fun keep => ?_⟩
  rw [e2, e3]
  show ∃ i' t' c, NS (if keep.headD false then doC s.sure (.del kT) else s.sure) i' t' ∧ _
  split
  · exact ⟨i, none, cur, h.sure.del, e1.trans h.file, .inr ⟨fun x => x, rfl⟩, by simp⟩
  · exact ⟨i, t, cur, h.sure, e1.trans h.file, .inr ⟨fun x => x, rfl⟩, h.ti⟩
theorem cs_made {cur b : List UInt8} {i k : Nat} {s' : DS} (hs : NS s'.sure i none) (hf : s'.fs[i]? = some ⟨cur, []⟩) (hki : k ≠ i) (e3 : s'.chg = [.made kT k]) (e4 : s'.quota = 1048576) : CS cur b False s' := by
  refine ⟨e4, fun keep => ?_⟩
  rw [e3]
  show ∃ i' t' c, NS (if keep.headD false then doC s'.sure (.made kT k) else s'.sure) i' t' ∧ _
  split
  · exact ⟨i, some k, cur, hs.made k, hf, .inr ⟨fun x => x, rfl⟩, by simpa using hki⟩
  · exact ⟨i, none, cur, hs, hf, .inr ⟨fun x => x, rfl⟩, by simp⟩
theorem cs_ren {cur b : List UInt8} {i k : Nat} {s' : DS} (hs : NS s'.sure i none) (hf : s'.fs[i]? = some ⟨cur, []⟩) (hk : s'.fs[k]? = some ⟨b, []⟩) (hki : k ≠ i) (e3 : s'.chg = [.made kT k, .ren kT kI]) (e4 : s'.quota = 1048576) : CS cur b False s' := by
  refine ⟨e4, fun keep => ?_⟩
  rw [e3]
  show ∃ i' t' c, NS (if keep.tail.headD false then doC (if keep.headD false then doC s'.sure (.made kT k) else s'.sure) (.ren kT kI) else (if keep.headD false then doC s'.sure (.made kT k) else s'.sure)) i' t' ∧ _
  by_cases h1 : keep.headD false = true <;> by_cases h2 : keep.tail.headD false = true
  · simp only [if_pos h1, if_pos h2]; exact ⟨k, none, b, (hs.made k).ren, hk, .inl rfl, by simp⟩
  · simp only [if_pos h1, if_neg h2]; exact ⟨i, some k, cur, hs.made k, hf, .inr ⟨fun x => x, rfl⟩, by simpa using hki⟩
  · simp only [if_neg h1, if_pos h2]; exact ⟨i, none, cur, hs.ren0, hf, .inr ⟨fun x => x, rfl⟩, by simp⟩
  · simp only [if_neg h1, if_neg h2]; exact ⟨i, none, cur, hs, hf, .inr ⟨fun x => x, rfl⟩, by simp⟩
theorem cs_weak {cur b : List UInt8} {s : DS} {fin : Prop} (h : CS cur b False s) (hf : ¬ fin) : CS cur b fin s := ⟨h.1, fun keep => by
  obtain ⟨i, t, c, h1, h2, h3, h4⟩ := h.2 keep
  exact ⟨i, t, c, h1, h2, h3.imp (fun x => x) (fun x => ⟨hf, x.2⟩), h4⟩⟩
def errOk (e : Int) : Prop := e = 0 ∨ e = 8 ∨ e = 9
theorem op_err (s : DS) : errOk (opS s).1 := by rcases opS_cases s with ⟨h, _⟩ | h | ⟨h, _⟩ <;> unfold errOk <;> omega
theorem op_done {s : DS} (h : (opS s).1 = 0) : (opS s).2.1 = true ∧ (opS s).2.2.off = s.off := by
  rcases opS_cases s with ⟨_, h1, h2⟩ | h1 | ⟨h1, _⟩
  · exact ⟨h1, h2⟩
  · omega
  · omega
/-- A change of names behind which all is well, done or not. -/
theorem sw_remove {cur b : List UInt8} {i : Nat} {j : Nat} {s : DS} (h : WI cur i (some j) s) : errOk (removeS kT s).1 ∧ CS cur b False (removeS kT s).2 ∧ ((removeS kT s).1 = 0 → (removeS kT s).2.off = false ∧ NS (removeS kT s).2.now i none ∧ (removeS kT s).2.fs = s.fs ∧ (removeS kT s).2.quota = s.quota ∧ (removeS kT s).2.sure = s.sure ∧ (removeS kT s).2.chg = [.del kT]) := by
  rw [removeS_c h.off h.now.tmp]
  cases hd : (opS s).2.1 with
  | false =>
    rw [changeS_0 hd]
    refine ⟨op_err s, cs_same h (by rw [opS_fs]) (opS_sure s) ((opS_chg s).trans h.chg) (opS_quota s), fun e => ?_⟩
    have := (op_done e).1; rw [hd] at this; cases this
  | true =>
    rw [changeS_ok hd]
    refine ⟨op_err s, cs_del h (by show (opS s).2.2.fs[i]? = _; rw [opS_fs]) (opS_sure s) (by show s.chg ++ [.del kT] = _; rw [h.chg]; rfl) (opS_quota s), fun e => ?_⟩
    exact ⟨(op_done e).2.trans h.off, h.now.del, opS_fs s, opS_quota s, opS_sure s, by show s.chg ++ [.del kT] = _; rw [h.chg]; rfl⟩
theorem sw_syncdir1 {cur b : List UInt8} {i : Nat} {t : Option Nat} {s0 s : DS} (h0 : WI cur i t s0) (hoff : s.off = false) (hn : NS s.now i none) (hf : s.fs = s0.fs) (hq : s.quota = s0.quota) (hs : s.sure = s0.sure) (hc : s.chg = [.del kT]) :
    errOk (syncdirS s).1 ∧ CS cur b False (syncdirS s).2 ∧ ((syncdirS s).1 = 0 → WI cur i none (syncdirS s).2) := by
  cases hd : (opS s).2.1 with
  | false =>
    rw [syncdirS_0 hoff hd]
    refine ⟨op_err s, cs_del h0 (by rw [opS_fs, hf]) ((opS_sure s).trans hs) ((opS_chg s).trans hc) ((opS_quota s).trans hq), fun e => ?_⟩
    have := (op_done e).1; rw [hd] at this; cases this
  | true =>
    rw [syncdirS_ok hoff hd]
    have hfile : (opS s).2.2.fs[i]? = some ⟨cur, []⟩ := by rw [opS_fs, hf]; exact h0.file
    refine ⟨op_err s, ⟨(opS_quota s).trans (hq.trans h0.quota), fun keep => ⟨i, none, cur, hn, hfile, .inr ⟨fun x => x, rfl⟩, by simp⟩⟩, fun e => ?_⟩
    exact ⟨(op_done e).2.trans hoff, rfl, by show NS (opS s).2.2.now i none; rw [opS_now]; exact hn, hn, hfile, by simp, h0.len, (opS_quota s).trans (hq.trans h0.quota)⟩
theorem sw_create {cur b : List UInt8} {i : Nat} {s : DS} (h : WI cur i none s) : errOk (createS kT s).1 ∧ CS cur b False (createS kT s).2 ∧ ((createS kT s).1 = 0 → ∃ k, WN cur i k (createS kT s).2 ∧ (createS kT s).2.fs[k]? = some ⟨[], []⟩) := by
  have hlen := h.now.len
  have hr : rightB kT = true := by kernel_rfl
  have hi : i < s.fs.length := (List.getElem?_eq_some_iff.1 h.file).1
  cases hd : (opS s).2.1 with
  | false =>
    rw [createS_0 h.off hr h.now.tmp (by omega) hd]
    refine ⟨op_err s, cs_same h (by rw [opS_fs]) (opS_sure s) ((opS_chg s).trans h.chg) (opS_quota s), fun e => ?_⟩
    have := (op_done e).1; rw [hd] at this; cases this
  | true =>
    rw [createS_ok h.off hr h.now.tmp (by omega) hd]
    have hfile : (s.fs ++ [(⟨[], []⟩ : FileS)])[i]? = some ⟨cur, []⟩ := by rw [List.getElem?_append_left hi]; exact h.file
    have hsure : NS (opS s).2.2.sure i none := by rw [opS_sure]; exact h.sure
    refine ⟨op_err s, cs_made (k := s.fs.length) hsure hfile (by omega) (by show s.chg ++ [.made kT s.fs.length] = _; rw [h.chg]; rfl) ((opS_quota s).trans h.quota), fun e => ⟨s.fs.length, ⟨(op_done e).2.trans h.off, by show s.chg ++ [.made kT s.fs.length] = _; rw [h.chg]; rfl, h.now.made _, hsure, hfile, by omega, h.len, (opS_quota s).trans h.quota, by show s.fs.length < (s.fs ++ [(⟨[], []⟩ : FileS)]).length; simp⟩, ?_⟩⟩
    show (s.fs ++ [(⟨[], []⟩ : FileS)])[s.fs.length]? = _
    simp
theorem WN.file2 {cur : List UInt8} {i k : Nat} {s : DS} (h : WN cur i k s) (f : FileS) : WN cur i k { (opS s).2.2 with fs := s.fs.set k f } ∨ True := .inr trivial
theorem WN.setf {cur : List UInt8} {i k : Nat} {s : DS} (h : WN cur i k s) (f : FileS) (ho : (opS s).2.2.off = s.off) : WN cur i k { (opS s).2.2 with fs := s.fs.set k f } :=
  ⟨ho.trans h.off, (opS_chg s).trans h.chg, by show NS (opS s).2.2.now i (some k); rw [opS_now]; exact h.now, by show NS (opS s).2.2.sure i none; rw [opS_sure]; exact h.sure, by show (s.fs.set k f)[i]? = _; rw [List.getElem?_set_ne h.ki]; exact h.file, h.ki, h.len, (opS_quota s).trans h.quota, by show k < (s.fs.set k f).length; rw [List.length_set]; exact h.lt⟩
theorem WN.opp {cur : List UInt8} {i k : Nat} {s : DS} (h : WN cur i k s) (ho : (opS s).2.2.off = s.off) : WN cur i k (opS s).2.2 :=
  ⟨ho.trans h.off, (opS_chg s).trans h.chg, by rw [opS_now]; exact h.now, by rw [opS_sure]; exact h.sure, by rw [opS_fs]; exact h.file, h.ki, h.len, (opS_quota s).trans h.quota, by rw [opS_fs]; exact h.lt⟩
theorem WN.cs {cur b : List UInt8} {i k : Nat} {s : DS} (h : WN cur i k s) {fs : List FileS} (hf : fs[i]? = some ⟨cur, []⟩) : CS cur b False { (opS s).2.2 with fs := fs } :=
  cs_made (k := k) (by show NS (opS s).2.2.sure i none; rw [opS_sure]; exact h.sure) hf h.ki ((opS_chg s).trans h.chg) ((opS_quota s).trans h.quota)
theorem WN.cs0 {cur b : List UInt8} {i k : Nat} {s : DS} (h : WN cur i k s) : CS cur b False (opS s).2.2 :=
  cs_made (k := k) (by rw [opS_sure]; exact h.sure) (by rw [opS_fs]; exact h.file) h.ki ((opS_chg s).trans h.chg) ((opS_quota s).trans h.quota)
theorem sw_append {cur b : List UInt8} {i k : Nat} {s : DS} (h : WN cur i k s) (hk : s.fs[k]? = some ⟨[], []⟩) (hb : b.length ≤ 500) :
    errOk (appendS kT b s).1 ∧ CS cur b False (appendS kT b s).2 ∧ ((appendS kT b s).1 = 0 → WN cur i k (appendS kT b s).2 ∧ (fileD (appendS kT b s).2 k).bytes = b) := by
  have hfk : fileD s k = ⟨[], []⟩ := by unfold fileD; rw [List.getD_eq_getElem?_getD, hk]; rfl
  have hfi : fileD s i = ⟨cur, []⟩ := by unfold fileD; rw [List.getD_eq_getElem?_getD, h.file]; rfl
  have hu : usedS s ≤ 500 := by
    have h1 := h.now.used
    rw [lenK_some h.now.it, lenK_some h.now.tmp, hfk, hfi] at h1
    have h2 := h.len
    simp [FileS.bytes] at h1
    omega
  have hq : ¬ s.quota - ((usedS s : Nat) : Int) < (b.length : Int) := by rw [h.quota]; omega
  cases hd : (opS s).2.1 with
  | false =>
    rw [appendS_0 h.off h.now.tmp hq hd]
    refine ⟨op_err s, h.cs0, fun e => ?_⟩
    have := (op_done e).1; rw [hd] at this; cases this
  | true =>
    by_cases h0 : 0 < b.length
    · rw [appendS_ok h.off h.now.tmp hq hd h0, hfk]
      refine ⟨op_err s, h.cs (by rw [List.getElem?_set_ne h.ki]; exact h.file), fun e => ⟨h.setf _ (op_done e).2, ?_⟩⟩
      have e1 : (s.fs.set k (⟨[], [] ++ [b]⟩ : FileS))[k]? = some ⟨[], [] ++ [b]⟩ := List.getElem?_set_self h.lt
      show ((s.fs.set k (⟨[], [] ++ [b]⟩ : FileS)).getD k ⟨[], []⟩).bytes = b
      rw [List.getD_eq_getElem?_getD, e1]
      simp [FileS.bytes]
    · rw [appendS_e h.off h.now.tmp hq hd h0]
      refine ⟨op_err s, h.cs0, fun e => ⟨h.opp (op_done e).2, ?_⟩⟩
      have hb0 : b = [] := List.eq_nil_of_length_eq_zero (by omega)
      unfold fileD
      rw [opS_fs, List.getD_eq_getElem?_getD, hk, hb0]
      rfl
theorem sw_sync {cur b : List UInt8} {i k : Nat} {s : DS} (h : WN cur i k s) (hk : (fileD s k).bytes = b) :
    errOk (syncS kT s).1 ∧ CS cur b False (syncS kT s).2 ∧ ((syncS kT s).1 = 0 → WN cur i k (syncS kT s).2 ∧ (syncS kT s).2.fs[k]? = some ⟨b, []⟩) := by
  cases hd : (opS s).2.1 with
  | false =>
    rw [syncS_0 h.off h.now.tmp hd]
    refine ⟨op_err s, h.cs0, fun e => ?_⟩
    have := (op_done e).1; rw [hd] at this; cases this
  | true =>
    rw [syncS_ok h.off h.now.tmp hd, hk]
    refine ⟨op_err s, h.cs (by rw [List.getElem?_set_ne h.ki]; exact h.file), fun e => ⟨h.setf _ (op_done e).2, ?_⟩⟩
    exact List.getElem?_set_self h.lt
theorem sw_rename {cur b : List UInt8} {i k : Nat} {s : DS} (h : WN cur i k s) (hk : s.fs[k]? = some ⟨b, []⟩) :
    errOk (renameS kT kI s).1 ∧ CS cur b False (renameS kT kI s).2 ∧ ((renameS kT kI s).1 = 0 → (renameS kT kI s).2.off = false ∧ NS (renameS kT kI s).2.now k none ∧ NS (renameS kT kI s).2.sure i none ∧ (renameS kT kI s).2.fs = s.fs ∧ (renameS kT kI s).2.quota = 1048576 ∧ (renameS kT kI s).2.chg = [.made kT k, .ren kT kI]) := by
  rw [renameS_c h.off h.now.tmp (by kernel_rfl)]
  cases hd : (opS s).2.1 with
  | false =>
    rw [changeS_0 hd]
    refine ⟨op_err s, h.cs0, fun e => ?_⟩
    have := (op_done e).1; rw [hd] at this; cases this
  | true =>
    rw [changeS_ok hd]
    have hc : s.chg ++ [.ren kT kI] = [.made kT k, .ren kT kI] := by rw [h.chg]; rfl
    have hsure : NS (opS s).2.2.sure i none := by rw [opS_sure]; exact h.sure
    refine ⟨op_err s, cs_ren hsure (by show (opS s).2.2.fs[i]? = _; rw [opS_fs]; exact h.file) (by show (opS s).2.2.fs[k]? = _; rw [opS_fs]; exact hk) h.ki hc ((opS_quota s).trans h.quota), fun e => ⟨(op_done e).2.trans h.off, h.now.ren, hsure, opS_fs s, (opS_quota s).trans h.quota, hc⟩⟩
theorem sw_syncdir2 {cur b : List UInt8} {i k : Nat} {s : DS} (hoff : s.off = false) (hn : NS s.now k none) (hs : NS s.sure i none) (hf : s.fs[i]? = some ⟨cur, []⟩) (hk : s.fs[k]? = some ⟨b, []⟩) (hki : k ≠ i) (hq : s.quota = 1048576) (hc : s.chg = [.made kT k, .ren kT kI]) :
    errOk (syncdirS s).1 ∧ CS cur b ((syncdirS s).1 = 0) (syncdirS s).2 := by
  cases hd : (opS s).2.1 with
  | false =>
    rw [syncdirS_0 hoff hd]
    refine ⟨op_err s, cs_weak (cs_ren (by rw [opS_sure]; exact hs) (by rw [opS_fs]; exact hf) (by rw [opS_fs]; exact hk) hki ((opS_chg s).trans hc) ((opS_quota s).trans hq)) (fun e => ?_)⟩
    have := (op_done e).1; rw [hd] at this; cases this
  | true =>
    rw [syncdirS_ok hoff hd]
    exact ⟨op_err s, (opS_quota s).trans hq, fun keep => ⟨k, none, b, hn, by show (opS s).2.2.fs[k]? = _; rw [opS_fs]; exact hk, .inl rfl, by simp⟩⟩
theorem sw_A {cur b : List UInt8} {i : Nat} {s : DS} (h : WI cur i none s) (hb : b.length ≤ 500) : errOk (swapA b s).1 ∧ CS cur b ((swapA b s).1 = 0) (swapA b s).2 := by
  obtain ⟨c1, c2, c3⟩ := sw_create (b := b) h
  unfold swapA
  split
  · rename_i e1
    obtain ⟨k, w1, f1⟩ := c3 e1
    obtain ⟨a1, a2, a3⟩ := sw_append w1 f1 hb
    split
    · rename_i e2
      obtain ⟨w2, f2⟩ := a3 e2
      obtain ⟨y1, y2, y3⟩ := sw_sync w2 f2
      split
      · rename_i e3
        obtain ⟨w3, f3⟩ := y3 e3
        obtain ⟨r1, r2, r3⟩ := sw_rename w3 f3
        split
        · rename_i e4
          obtain ⟨o1, o2, o3, o4, o5, o6⟩ := r3 e4
          exact sw_syncdir2 o1 o2 o3 (by rw [o4]; exact w3.file) (by rw [o4]; exact f3) w3.ki o5 o6
        · exact ⟨r1, cs_weak r2 ‹_›⟩
      · exact ⟨y1, cs_weak y2 ‹_›⟩
    · exact ⟨a1, cs_weak a2 ‹_›⟩
  · exact ⟨c1, cs_weak c2 ‹_›⟩
theorem sw_all {cur b : List UInt8} {i : Nat} {t : Option Nat} {s : DS} (h : WI cur i t s) (hb : b.length ≤ 500) : errOk (swapD b s).1 ∧ CS cur b ((swapD b s).1 = 0) (swapD b s).2 := by
  unfold swapD
  cases t with
  | none =>
    have hr : ¬ (readS kT s).1 = 0 := by rw [readS_none h.off h.now.tmp]; decide
    rw [if_neg hr]
    exact sw_A h hb
  | some j =>
    have hr : (readS kT s).1 = 0 := by rw [readS_some h.off h.now.tmp]
    rw [if_pos hr]
    obtain ⟨r1, r2, r3⟩ := sw_remove (b := b) h
    split
    · rename_i e1
      obtain ⟨o1, o2, o3, o4, o5, o6⟩ := r3 e1
      obtain ⟨d1, d2, d3⟩ := sw_syncdir1 (b := b) h o1 o2 o3 o4 o5 o6
      split
      · rename_i e2
        exact sw_A (d3 e2) hb
      · exact ⟨d1, cs_weak d2 ‹_›⟩
    · exact ⟨r1, cs_weak r2 ‹_›⟩
theorem WI.switch {cur : List UInt8} {i : Nat} {t : Option Nat} {s : DS} (h : WI cur i t s) (k : Int) (m : Int) (yes : Bool) : WI cur i t (failS m yes (cutS k s)) := ⟨h.off, h.chg, h.now, h.sure, h.file, h.ti, h.len, h.quota⟩
end Go.Proofs.Ytmefejfnddcelaa
