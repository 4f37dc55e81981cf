/- Bytes, texts, slices of slices. -/
import Derived.Test.YtmefejfnddcelaaSLRows
import Derived.Laws.BytesString
namespace Go.Proofs.Ytmefejfnddcelaa

/-- Bytes as cells. -/
def byv (l : List UInt8) : List Value := l.map fun c => .int .u8 (c.toNat : Int)
theorem byv_len (l : List UInt8) : (byv l).length = l.length := by simp [byv]
theorem byv_one (l : List UInt8) : ∀ u ∈ byv l, u.oneCell' = true := by intro u hu; obtain ⟨c, _, rfl⟩ := List.mem_map.1 hu; rfl
theorem byv_get (l : List UInt8) (j : Nat) (h : j < l.length) : (byv l)[j]? = some (.int .u8 (l[j].toNat : Int)) := by simp [byv, h]

/-- A text's byte. -/
def byteAt (s : ByteArray) (j : Nat) : Int := ((s.data.toList.getD j 0).toNat : Int)
theorem byteAt_lo (s : ByteArray) (j : Nat) : 0 ≤ byteAt s j := by unfold byteAt; omega
theorem byteAt_hi (s : ByteArray) (j : Nat) : byteAt s j ≤ 255 := by unfold byteAt; have := (s.data.toList.getD j 0).toNat_lt; omega
theorem byv_at (s : ByteArray) (j : Nat) (h : j < s.size) : (byv s.data.toList)[j]? = some (.int .u8 (byteAt s j)) := by
  have hl : j < s.data.toList.length := h
  have hd : s.data[j]? = some (s.data[j]'h) := by simp
  simp [byv, byteAt, hd]
theorem cell_byv {s : ByteArray} {cs : Array Value} {j : Nat} (h : cs.toList.take s.size = byv s.data.toList) (hj : j < s.size) : nth cs.toList j = some (.int .u8 (byteAt s j)) := by
  rw [nth_eq]
  have h1 := byv_at s j hj
  rw [← h, List.getElem?_take, if_pos hj] at h1
  exact h1
theorem one_list {l : List Value} (h : allOne l = true) : ∀ u ∈ l, u.oneCell' = true := fun u hu => List.all_eq_true.1 h u hu

/-- What a part of memory lets one read. -/
def Rd (B : Ctx) (R : Assn) (sz : Nat) (v : Value) (n : Nat) (xs : List Value) : Prop := ∀ h : Hp, (∀ k o, h k = some o → B.n ≤ k) → R h → rd B sz v n xs h

section
variable {P : Program} {B : Ctx} {n : Nat} {ds : List Deferred} {ro : Option Nat} {E : List (Nat × Value)} {L M : List Assn} {o : Oper}
variable {dst : Option Tmp} {ty : TypeId} {pos : String} {after : Array Edge} {guard : Option (Nat × Bool)} {x y z : Operand} {v u : Value} {t s e : TypeId} {sz bytes : Nat}

theorem one_news (u : Value) (h : u.oneCell' = true) : ∀ x ∈ [u], x.oneCell' = true := by intro x hx; simp at hx; subst hx; exact h

theorem do_buildSlice0 {z0 : Value} (ht : P.underlying t = some (.slice e)) (hty : tyOk P e sz bytes z0) :
    Do P B n ds ro ⟨dst, .buildSlice t 0 #[], ty, pos, after, guard⟩ E L fun u M => ∃ b, u = .slice (some ⟨b, 0, none⟩) 0 0 ∧ M = row e sz u 0 [] :: L :=
  do_okx fun a w hE hS => by
    obtain ⟨i, hi, hs, _, hz, _⟩ := hty
    refine ⟨.slice (some ⟨w.heap.size, 0, none⟩) 0 0, { w with heap := w.heap.push (.cells #[] e) }, _, ?_, ⟨w.heap.size, rfl, rfl⟩, ?_⟩
    · simp [execOp, Instr.buildSlice, run_und ht, run_size hi, hs, Instr.fill, newRow, newObj, Sem.run]
      congr 2
      exact Array.eq_empty_of_size_eq_zero (by simp)
    · refine hS.new ⟨rfl, rfl, rfl, by simp⟩ (fun k hk => by simp [Array.getElem?_push, Nat.ne_of_lt hk]) ⟨by simp, .inr ⟨w.heap.size, 0, #[], rfl, ?_, Nat.le_refl _, Nat.zero_le _, by simp, by simp⟩⟩
      rw [part_of (Nat.le_refl _)]; simp

theorem reads_rd {R : Assn} {ad : Addr} {m cap : Nat} {xs : List Value} (i : Nat) (hL : nth L i = some R) (hR : Rd B R sz (.slice (some ad) m cap) m xs) : Reads B L ad xs := by
  intro w hS j u hj
  rw [nth_eq] at hL
  obtain ⟨he, own, ho⟩ := hS
  obtain ⟨_, a, c, hv, hc⟩ := hR _ (fun k o hk => (part_some hk).1.2) (ho i R hL)
  obtain ⟨b', off', ha, hcell⟩ := hc j u hj
  cases hv
  cases ha
  rw [addr_add]
  exact cellIn_part he hcell

theorem row_rd {b cap m : Nat} {xs : List Value} {v : Value} (h : Hp) (hr : row e sz v m xs h) (hb : ∀ k o, h k = some o → B.n ≤ k) : rd B sz v m xs h := by
  obtain ⟨h1, h2⟩ := hr
  refine ⟨h1, ?_⟩
  rcases h2 with ⟨rfl, rfl⟩ | ⟨g, cap, cur, rfl, hg, h3, h4, h5, h6⟩
  · refine ⟨none, 0, rfl, fun j u hj => ?_⟩
    have : xs = [] := List.eq_nil_of_length_eq_zero (by simpa using h1)
    subst this
    simp at hj
  · refine ⟨_, cap, rfl, fun j u hj => ⟨g, 0, rfl, ?_⟩⟩
    have hge := hb g _ hg
    unfold cellIn
    rw [if_neg (by simp; omega)]
    simp only [hg, Nat.zero_add]
    subst h6
    rw [List.getElem?_take] at hj
    split at hj
    · simpa using hj
    · cases hj

/-- A load through what can be read. -/
theorem do_loadR {R : Assn} {b off m cap j p : Nat} {xs : List Value} (i : Nat) (hx : ev E x = some (.pointer (some ⟨b, p, none⟩))) (h1 : oneOk P t = true) (hL : nth L i = some R)
    (hR : Rd B R sz (.slice (some ⟨b, off, none⟩) m cap) m xs) (hp : p = off + j) (hc : xs[j]? = some v) : Do1 P B n ds ro ⟨dst, .load t x, ty, pos, after, guard⟩ E L v L :=
  do_ok fun a w hE hS => ⟨w, by
    subst hp
    have := reads_rd i hL hR w hS j v hc
    rw [addr_add] at this
    simp [execOp, Instr.loadAt, hE.eval hx, Instr.sureAddr, run_loadVar1 h1 this], hS⟩

/-- []byte(s) -/
theorem do_convSB {c : ByteArray} (hs : P.underlying s = some .string) (ht : P.underlying t = some (.slice e)) (he : P.underlying e = some (.int .u8)) (hx : ev E x = some (.string c)) (hc : c.size ≤ maxLen) :
    Do P B n ds ro ⟨dst, .convert s t x, ty, pos, after, guard⟩ E L fun u M => ∃ b cap cs, u = .slice (some ⟨b, 0, none⟩) c.size cap ∧ M = pt b (.cells cs e (cs.size, cs.size + 1)) :: L ∧
      c.size ≤ cap ∧ cs.toList.take c.size = byv c.data.toList :=
  do_okx fun a w hE hS => by
    obtain ⟨cap, hcap⟩ : ∃ cap, cap = (Question.appendCap c.size 0 e).cut (w.tape w.drawn (.appendCap c.size 0 e)) := ⟨_, rfl⟩
    have hge : c.size ≤ cap := by subst hcap; simp [Question.cut]
    obtain ⟨cs, hcs⟩ : ∃ cs : Array Value, cs = (c.data.map fun b => Value.int .u8 (b.toNat : Int)) ++ Array.replicate (cap - c.size) (.int .u8 0) := ⟨_, rfl⟩
    have hsz : cs.size = cap := by subst hcs; have : c.data.size = c.size := rfl; simp; omega
    refine ⟨.slice (some ⟨w.heap.size, 0, none⟩) c.size cap, { w with heap := w.heap.push (.cells cs e (cs.size, cs.size + 1)), drawn := w.drawn + 1 }, _, ?_, ⟨w.heap.size, cap, cs, rfl, rfl, hge, ?_⟩, ?_⟩
    · have hf : ((w.heap.push (Obj.cells cs e)).modify w.heap.size fun
          | .cells c elem (lo, hi) => .cells c elem (if lo == hi then (cs.size, cs.size + 1) else (min lo cs.size, max hi (cs.size + 1)))
          | o => o) = w.heap.push (.cells cs e (cs.size, cs.size + 1)) := by
        apply Array.ext (by simp)
        intro i h1 h2
        rw [Array.getElem_modify]
        by_cases hi : w.heap.size = i
        · subst hi; simp
        · rw [if_neg hi]
          have hlt : i < w.heap.size := by simp at h1; omega
          simp [Array.getElem_push, hlt]
      simp [execOp, convert, hE.eval hx, run_und hs, run_und ht, run_und he, Conv.stringToBytes, choose, Sem.run, Question.forced, newRow, newObj, markStringish, shape, freeze]
      rw [← hcap, ← hcs]
      have hsh : (w.drew.alloc (.cells cs e)).shape? w.heap.size = some (e, cs.size) := by
        simp [World.shape?, show (w.drew.alloc (.cells cs e)).heap = w.heap.push (.cells cs e) from rfl]
      rw [hsh]
      simp only [Sem.run, Result.andThen]
      have hfr : (w.drew.alloc (.cells cs e)).freeze { block := w.heap.size, off := cs.size } 1 = { heap := w.heap.push (.cells cs e (cs.size, cs.size + 1)), tape := w.tape, drawn := w.drawn + 1, os := w.os, output := w.output } := by
        simp only [World.freeze]
        rw [if_neg (by omega)]
        show World.mk _ _ _ _ _ = World.mk _ _ _ _ _
        congr 1
      rw [hfr]
    · subst hcs
      rw [Array.toList_append, List.take_append_of_le_length (by have : c.data.size = c.size := rfl; simp)]
      have : c.data.toList.length = c.size := rfl
      rw [List.take_of_length_le (by have : c.data.size = c.size := rfl; simp)]
      simp [byv]
    · have := (hS.alloc (.cells cs e (cs.size, cs.size + 1))).drawn (w.drawn + 1)
      exact this
end
end Go.Proofs.Ytmefejfnddcelaa
