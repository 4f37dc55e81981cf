/- Printed by a program of this claim's: what each of these functions of the program does, as its theorem says. No condition but what stands in each theorem. -/
import Derived.Test.YtmefejfnddcelaaDn
namespace Go.Proofs.Ytmefejfnddcelaa
/-- A change of names that does not touch the name k, nor the file i. -/
def ChgD.nice (k : ByteArray) (i : Nat) : ChgD → Prop
  | .made a j => a ≠ k ∧ j ≠ i
  | .ren a b => a ≠ k ∧ b ≠ k
  | .del a => a ≠ k
theorem doC_nice {m : List (ByteArray × Nat)} (hn : (akeys m).Nodup) {k : ByteArray} {i : Nat} {c : ChgD} (hc : c.nice k i) : aget (doC m c) k = aget m k := by
  cases c with
  | made a j => show aget (aput m a j) k = _; rw [aget_aput, if_neg (fun e => hc.1 e.symm)]
  | del a => show aget (adel m a) k = _; rw [aget_adel hn, if_neg (fun e => hc e.symm)]
  | ren a b =>
    simp only [doC]
    split
    · rw [aget_aput, if_neg (fun e => hc.2 e.symm), aget_adel hn, if_neg (fun e => hc.1 e.symm)]
    · rfl
/-- Only k has the file i. -/
def only (k : ByteArray) (i : Nat) (m : List (ByteArray × Nat)) : Prop := ∀ q ∈ m, q.2 = i → q.1 = k
theorem doC_only {m : List (ByteArray × Nat)} {k : ByteArray} {i : Nat} (h : only k i m) {c : ChgD} (hc : c.nice k i) : only k i (doC m c) := by
  cases c with
  | made a j => intro q hq hi; rcases mem_aput hq with rfl | hq; exact absurd hi hc.2; exact h q hq hi
  | del a => intro q hq hi; exact h q (mem_adel hq) hi
  | ren a b =>
    simp only [doC]
    split
    · rename_i j hj
      intro q hq hi
      rcases mem_aput hq with rfl | hq
      · exact absurd (h (a, j) (aget_mem hj) hi) hc.1
      · exact h q (mem_adel hq) hi
    · exact h
/-- A name that is sure, with its file. -/
structure SI (k : ByteArray) (i : Nat) (b : List UInt8) (s : DS) : Prop where
  now : aget s.now k = some i
  sure : aget s.sure k = some i
  file : s.fs[i]? = some ⟨b, []⟩
  on : only k i s.now
  chg : ∀ c ∈ s.chg, c.nice k i
  nn : (akeys s.now).Nodup
  ns : (akeys s.sure).Nodup
theorem SI.same {k : ByteArray} {i : Nat} {b : List UInt8} {s s' : DS} (h : SI k i b s) (e1 : s'.fs = s.fs) (e2 : s'.now = s.now) (e3 : s'.sure = s.sure) (e4 : s'.chg = s.chg) : SI k i b s' :=
  ⟨by rw [e2]; exact h.now, by rw [e3]; exact h.sure, by rw [e1]; exact h.file, by rw [e2]; exact h.on, by rw [e4]; exact h.chg, by rw [e2]; exact h.nn, by rw [e3]; exact h.ns⟩
theorem SI.op {k : ByteArray} {i : Nat} {b : List UInt8} {s : DS} (h : SI k i b s) : SI k i b (opS s).2.2 := h.same (opS_fs s) (opS_now s) (opS_sure s) (opS_chg s)
theorem SI.lt {k : ByteArray} {i : Nat} {b : List UInt8} {s : DS} (h : SI k i b s) : i < s.fs.length := (List.getElem?_eq_some_iff.1 h.file).1
theorem SI.names {k : ByteArray} {i : Nat} {b : List UInt8} {s : DS} (h : SI k i b s) {c : ChgD} (hc : c.nice k i) : SI k i b { (opS s).2.2 with now := doC s.now c, chg := s.chg ++ [c] } :=
  ⟨(doC_nice h.nn hc).trans h.now, h.op.sure, h.op.file, doC_only h.on hc, fun c' hc' => by
    rcases List.mem_append.1 hc' with h1 | h1
    · exact h.chg c' h1
    · simp at h1; subst h1; exact hc, doC_nodup h.nn c, h.op.ns⟩
theorem SI.change {k : ByteArray} {i : Nat} {b : List UInt8} {s : DS} (h : SI k i b s) {c : ChgD} (hc : c.nice k i) : SI k i b (changeS c s).2 := by
  show SI k i b (if (opS s).2.1 then _ else _)
  split
  · exact h.names hc
  · exact h.op
theorem SI.setF {k : ByteArray} {i j : Nat} {b : List UInt8} {s : DS} (h : SI k i b s) {f : FileS} (hj : j ≠ i) : SI k i b { (opS s).2.2 with fs := s.fs.set j f } :=
  ⟨h.op.now, h.op.sure, (by show (s.fs.set j f)[i]? = _; rw [List.getElem?_set_ne hj]; exact h.file), h.op.on, h.op.chg, h.op.nn, h.op.ns⟩
theorem SI.ne {k : ByteArray} {i j : Nat} {b : List UInt8} {s : DS} (h : SI k i b s) {a : ByteArray} (ha : a ≠ k) (hg : aget s.now a = some j) : j ≠ i := fun e => ha (h.on (a, j) (aget_mem hg) e)
theorem SI.create {k : ByteArray} {i : Nat} {b : List UInt8} {s : DS} (h : SI k i b s) {a : ByteArray} (ha : a ≠ k) : SI k i b (createS a s).2 := by
  unfold createS
  split
  · exact h
  split
  · exact h
  split
  · exact h
  split
  · exact h
  show SI k i b (if (opS s).2.1 then _ else _)
  split
  · have hl := h.lt
    have h1 := h.names (c := .made a s.fs.length) ⟨ha, by omega⟩
    exact ⟨h1.now, h1.sure, (by show (s.fs ++ [(⟨[], []⟩ : FileS)])[i]? = _; rw [List.getElem?_append_left hl]; exact h.file), h1.on, h1.chg, h1.nn, h1.ns⟩
  · exact h.op
theorem SI.append {k : ByteArray} {i : Nat} {b : List UInt8} {s : DS} (h : SI k i b s) {a : ByteArray} (ha : a ≠ k) (bs : List UInt8) : SI k i b (appendS a bs s).2 := by
  unfold appendS
  split
  · exact h
  split
  · exact h
  · rename_i j hj
    split
    · exact h
    · show SI k i b (if (opS s).2.1 then _ else _)
      split
      · split
        · exact h.setF (h.ne ha hj)
        · exact h.op
      · exact h.op
theorem SI.rename {k : ByteArray} {i : Nat} {b : List UInt8} {s : DS} (h : SI k i b s) {a c : ByteArray} (ha : a ≠ k) (hc : c ≠ k) : SI k i b (renameS a c s).2 := by
  unfold renameS
  split
  · exact h
  split
  · exact h
  split
  · exact h
  · exact h.change ⟨ha, hc⟩
theorem SI.remove {k : ByteArray} {i : Nat} {b : List UInt8} {s : DS} (h : SI k i b s) {a : ByteArray} (ha : a ≠ k) : SI k i b (removeS a s).2 := by
  unfold removeS
  split
  · exact h
  split
  · exact h
  · exact h.change (c := .del a) ha
theorem SI.sync {k : ByteArray} {i : Nat} {b : List UInt8} {s : DS} (h : SI k i b s) {a : ByteArray} (ha : a ≠ k) : SI k i b (syncS a s).2 := by
  unfold syncS
  split
  · exact h
  split
  · exact h
  · rename_i j hj
    show SI k i b (if (opS s).2.1 then _ else _)
    split
    · exact h.setF (h.ne ha hj)
    · exact h.op
theorem SI.syncdir {k : ByteArray} {i : Nat} {b : List UInt8} {s : DS} (h : SI k i b s) : SI k i b (syncdirS s).2 := by
  unfold syncdirS
  split
  · exact h
  · show SI k i b (if (opS s).2.1 then _ else _)
    split
    · exact ⟨h.op.now, h.now, h.op.file, h.op.on, (fun c hc => by cases hc), h.op.nn, h.nn⟩
    · exact h.op
theorem SI.do {k : ByteArray} {i : Nat} {b : List UInt8} {s : DS} (h : SI k i b s) (kd : Int) {a c : ByteArray} (ha : a ≠ k) (hc : c ≠ k) (bs : List UInt8) (n : Int) (yes : Bool) : SI k i b (doD kd a c bs n yes s) := by
  unfold doD
  split
  · exact h.create ha
  split
  · exact h.append ha bs
  split
  · exact h.rename ha hc
  split
  · exact h.remove ha
  split
  · exact h.sync ha
  split
  · exact h.syncdir
  split
  · exact h.same rfl rfl rfl rfl
  split
  · exact h.same rfl rfl rfl rfl
  · exact h
theorem crashN_nice {k : ByteArray} {i : Nat} : ∀ (l : List ChgD) (r : List Bool) (m : List (ByteArray × Nat)), (akeys m).Nodup → (∀ c ∈ l, c.nice k i) → aget (crashN l r m).1 k = aget m k
  | [], _, _, _, _ => rfl
  | c :: cs, r, m, hn, hc => by
    show aget (crashN cs r.tail (if r.headD false then doC m c else m)).1 k = _
    have h2 := fun c' hc' => hc c' (List.mem_cons_of_mem _ hc')
    split
    · rw [crashN_nice cs _ _ (doC_nodup hn c) h2, doC_nice hn (hc c (by simp))]
    · rw [crashN_nice cs _ _ hn h2]
theorem keepF_sure (b : List UInt8) (r : List Bool) : (keepF ⟨b, []⟩ r).1 = ⟨b, []⟩ := by
  unfold keepF; simp [keepL]
theorem crashF_sure {m : List (ByteArray × Nat)} {i : Nat} {b : List UInt8} : ∀ (ks : List ByteArray) (fs : List FileS) (r : List Bool), fs[i]? = some ⟨b, []⟩ → (crashF m ks fs r).1[i]? = some ⟨b, []⟩
  | [], _, _, h => h
  | k :: ks, fs, r, h => by
    simp only [crashF]
    split
    · rename_i j hj
      refine crashF_sure ks _ _ ?_
      by_cases e : j = i
      · subst e
        have hl := (List.getElem?_eq_some_iff.1 h).1
        rw [List.getElem?_set_self hl, List.getD_eq_getElem?_getD, h]
        exact congrArg some (keepF_sure b r)
      · rw [List.getElem?_set_ne e]; exact h
    · exact crashF_sure ks fs r h
theorem SI.crash {k : ByteArray} {i : Nat} {b : List UInt8} {s : DS} (h : SI k i b s) (keep : List Bool) : readS k (crashS keep s) = (0, b) := by
  have h1 : aget (crashS keep s).now k = some i := (crashN_nice s.chg keep s.sure h.ns h.chg).trans h.sure
  have h2 : (crashS keep s).fs[i]? = some ⟨b, []⟩ := crashF_sure _ _ _ h.file
  rw [readS_some (i := i) rfl h1]
  have h3 : fileD (crashS keep s) i = ⟨b, []⟩ := by unfold fileD; rw [List.getD_eq_getElem?_getD, h2]; rfl
  rw [h3]
  simp [FileS.bytes]
def kS : ByteArray := ⟨#[115, 117, 114, 101]⟩
def qD : DS := newD 1048576
def su1 : DS := ⟨[⟨[], []⟩], [(kS, 0)], [], [.made kS 0], 1048576, 0, false, -1, false⟩
def su2 (b : List UInt8) : DS := ⟨[⟨[], if 0 < b.length then [b] else []⟩], [(kS, 0)], [], [.made kS 0], 1048576, 0, false, -1, false⟩
def su3 (b : List UInt8) : DS := ⟨[⟨b, []⟩], [(kS, 0)], [], [.made kS 0], 1048576, 0, false, -1, false⟩
def su4 (b : List UInt8) : DS := ⟨[⟨b, []⟩], [(kS, 0)], [(kS, 0)], [], 1048576, 0, false, -1, false⟩
theorem se1 : createS kS qD = (0, su1) := by kernel_rfl
theorem used_0 : usedS su1 = 0 := by
  unfold usedS
  rw [show akeys su1.now = [kS] from rfl, sortB_1]
  show lenK su1 kS + 0 = _
  rw [lenK_some (i := 0) (by kernel_rfl)]; rfl
theorem se2 {b : List UInt8} (h : b.length ≤ 1000) : appendS kS b su1 = (0, su2 b) := by
  have hu : ¬ su1.quota - ((usedS su1 : Nat) : Int) < (b.length : Int) := by rw [used_0]; show ¬ (1048576 : Int) - 0 < _; omega
  by_cases h0 : 0 < b.length
  · rw [appendS_ok (i := 0) (by kernel_rfl) (by kernel_rfl) hu (by kernel_rfl) h0]
    unfold su2; rw [if_pos h0]; rfl
  · rw [appendS_e (i := 0) (by kernel_rfl) (by kernel_rfl) hu (by kernel_rfl) h0]
    unfold su2; rw [if_neg h0]; rfl
theorem se3 (b : List UInt8) : syncS kS (su2 b) = (0, su3 b) := by
  rw [syncS_ok (i := 0) rfl (by show aget [(kS, 0)] kS = _; kernel_rfl) rfl]
  have e : (fileD (su2 b) 0).bytes = b := by
    show FileS.bytes ⟨[], if 0 < b.length then [b] else []⟩ = b
    unfold FileS.bytes
    split
    · simp
    · have : b = [] := List.eq_nil_of_length_eq_zero (by omega)
      rw [this]; rfl
  rw [e]; rfl
theorem se4 (b : List UInt8) : syncdirS (su3 b) = (0, su4 b) := by rw [syncdirS_ok rfl rfl]; rfl
theorem su_i (b : List UInt8) : SI kS 0 b (su4 b) := ⟨by show aget [(kS, 0)] kS = _; kernel_rfl, by show aget [(kS, 0)] kS = _; kernel_rfl, rfl, (fun q hq _ => by
  have hq' : q ∈ [(kS, 0)] := hq
  simp at hq'; subst hq'; rfl), (fun c hc => by cases hc), (by show [kS].Nodup; simp), (by show [kS].Nodup; simp)⟩
theorem su_b0 : DB qD 0 := DB.new (by decide) (by decide)
theorem su_b1 : DB su1 1 := by have h := su_b0.create kS; rw [se1] at h; exact h
theorem su_b2 {b : List UInt8} (h : b.length ≤ 1000) : DB (su2 b) 2 := by have h1 := su_b1.append kS b; rw [se2 h] at h1; exact h1
theorem su_b3 {b : List UInt8} (h : b.length ≤ 1000) : DB (su3 b) 3 := by have h1 := (su_b2 h).sync kS; rw [se3] at h1; exact h1
theorem su_b4 {b : List UInt8} (h : b.length ≤ 1000) : DB (su4 b) 4 := by have h1 := (su_b3 h).syncdir; rw [se4] at h1; exact h1
theorem rd_prefix {B : Ctx} {R : Assn} {a : Option Addr} {bs : List UInt8} {cap k : Nat} (hk : k ≤ bs.length) (h : Rd B R 1 (.slice a bs.length cap) bs.length (byv bs)) : Rd B R 1 (.slice a (bs.take k).length cap) (bs.take k).length (byv (bs.take k)) := fun hp hb hr => by
  obtain ⟨h1, a', c, h2, h3⟩ := h hp hb hr
  cases h2
  refine ⟨by rw [byv_len, Nat.mul_one], _, _, rfl, fun j u hj => h3 j u ?_⟩
  have hjk : j < (bs.take k).length := by have := (List.getElem?_eq_some_iff.1 hj).1; rw [byv_len] at this; exact this
  rw [List.length_take] at hjk
  have hj1 : j < k := by omega
  simp only [byv, List.map_take, List.getElem?_take, if_pos hj1] at hj
  exact hj
end Go.Proofs.Ytmefejfnddcelaa
