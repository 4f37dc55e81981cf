/- Slices: a row of one's own, what can be read, append, slicing, conversions. -/
import Derived.Test.YtmefejfnddcelaaSLPrims
import Derived.Maps.AppendAt
import Derived.Laws.OwnMore
namespace Go.Proofs.Ytmefejfnddcelaa

/-- A slice value of n elements of type e (sz cells each) that owns its cells xs. -/
def row (e : TypeId) (sz : Nat) (v : Value) (n : Nat) (xs : List Value) : Assn := fun h =>
  xs.length = n * sz ∧ ((v = .slice none 0 0 ∧ n = 0) ∨
    ∃ g cap cur, v = .slice (some ⟨g, 0, none⟩) n cap ∧ h g = some (.cells cur e (0, 0)) ∧ n ≤ cap ∧ cap ≤ maxLen ∧ cur.size = cap * sz ∧ cur.toList.take (n * sz) = xs)

/-- A cell, in the base or among what h bears. -/
def cellIn (B : Ctx) (h : Hp) (a : Addr) : Option Value :=
  match (if a.block < B.n then B.w.heap[a.block]? else h a.block) with
  | some (.cells c _ _) => if a.spot.isSome then none else c[a.off]?
  | _ => none

/-- A slice value that can be read: n elements of sz cells. -/
def rd (B : Ctx) (sz : Nat) (v : Value) (n : Nat) (xs : List Value) : Assn := fun h =>
  xs.length = n * sz ∧ ∃ a cap, v = .slice a n cap ∧ ∀ (j : Nat) (u : Value), xs[j]? = some u → ∃ b off, a = some ⟨b, off, none⟩ ∧ cellIn B h ⟨b, off + j, none⟩ = some u

section
variable {P : Program} {B : Ctx} {n : Nat} {ds : List Deferred} {ro : Option Nat} {E : List (Nat × Value)} {L M : List Assn} {o : Oper}

theorem cellIn_part {S : Nat → Prop} {w : World} {a : Addr} {v : Value} (he : Ext B w) (h : cellIn B (part S w) a = some v) : w.cell? a = some v := by
  unfold cellIn at h
  unfold World.cell?
  split at h
  · rename_i c e fr hh
    split at hh
    · rw [he.base _ ‹_›, hh]; exact h
    · rw [(part_some hh).2]; exact h
  · cases h

theorem row_part {e : TypeId} {sz : Nat} {v : Value} {m : Nat} {xs : List Value} {S : Nat → Prop} {w : World} (hS : ∀ k, S k → B.n ≤ k) (h : row e sz v m xs (part S w)) :
    w.ownsRow B.n e sz v m xs ∧ ∀ k, v.ownBlock = some k → S k := by
  obtain ⟨h1, h2⟩ := h
  rcases h2 with ⟨rfl, rfl⟩ | ⟨g, cap, cur, rfl, hg, h3⟩
  · exact ⟨⟨h1, .inl ⟨rfl, rfl⟩⟩, fun k hk => by simp [Value.ownBlock] at hk⟩
  · have := part_some hg
    exact ⟨⟨h1, .inr ⟨g, cap, cur, rfl, hS g this.1, this.2, h3⟩⟩, fun k hk => by simp [Value.ownBlock] at hk; subst hk; exact this.1⟩

theorem row_of {e : TypeId} {sz : Nat} {v : Value} {m : Nat} {xs : List Value} {S : Nat → Prop} {w : World} (h : w.ownsRow B.n e sz v m xs) (hS : ∀ k, v.ownBlock = some k → S k) : row e sz v m xs (part S w) := by
  obtain ⟨h1, h2⟩ := h
  refine ⟨h1, ?_⟩
  rcases h2 with ⟨rfl, rfl⟩ | ⟨g, cap, cur, rfl, _, hg, h3⟩
  · exact .inl ⟨rfl, rfl⟩
  · refine .inr ⟨g, cap, cur, rfl, ?_, h3⟩
    rw [part_of (hS g rfl), hg]

theorem grown_keep {w w' : World} {r : Option Nat} (h : w.grownBy w' r) : Keep w w' := ⟨h.os, h.tape, h.output, h.size⟩

/-- What the memory's cells say, for every world that bears L. -/
def Reads (B : Ctx) (L : List Assn) (a : Addr) (xs : List Value) : Prop := ∀ w, Sat B L w → ∀ (j : Nat) (u : Value), xs[j]? = some u → w.cell? (a.add j) = some u

/-- A type whose info is known. -/
def tyOk (P : Program) (e : TypeId) (size bytes : Nat) (z : Value) : Prop := ∃ i : TypeInfo, P.info? e = some i ∧ i.size = size ∧ i.bytes = bytes ∧ i.zero = some z ∧ z.cells.size = size

theorem ty_mk {e : TypeId} {size bytes : Nat} {z : Value} (h : (P.info? e).map (fun i => (i.size, i.bytes, i.zero)) = some (size, bytes, some z)) (hz : z.cells.size = size) : tyOk P e size bytes z := by
  cases hi : P.info? e with
  | none => rw [hi] at h; cases h
  | some i =>
    rw [hi] at h
    simp only [Option.map_some, Option.some.injEq, Prod.mk.injEq] at h
    exact ⟨i, hi, h.1, h.2.1, h.2.2, hz⟩
theorem zero_mk {e : TypeId} {z : Value} (h : (P.info? e).map (fun i => i.zero) = some (some z)) : zeroOk P e z := by
  cases hi : P.info? e with
  | none => rw [hi] at h; cases h
  | some i =>
    rw [hi] at h
    exact ⟨i, hi, Option.some.inj h⟩

variable {dst : Option Tmp} {ty : TypeId} {pos : String} {after : Array Edge} {guard : Option (Nat × Bool)} {x y : Operand} {v u : Value} {t s e : TypeId} {sz bytes : Nat} {z : Value}

/-- append(x, y...) to a row of one's own. -/
theorem do_append {L1 L2 : List Assn} {m k c : Nat} {xs news : List Value} {ad : Addr} (ht : P.underlying t = some (.slice e)) (hty : tyOk P e sz bytes z) (hsz : 0 < sz)
    (hx : ev E x = some v) (hy : ev E y = some (.slice (some ad) k c)) (hl : news.length = k * sz) (hn : Reads B (L1 ++ row e sz v m xs :: L2) ad news) (h1 : ∀ u ∈ news, u.oneCell' = true)
    (h63 : m + k ≤ maxLen) (hb : (m + k) * bytes ≤ 140737488355328) :
    Do P B n ds ro ⟨dst, .call { callee := .builtin .append, args := #[x, y], argTypes := #[t, t] }, ty, pos, after, guard⟩ E (L1 ++ row e sz v m xs :: L2)
      fun u M => (u = .slice none 0 0 ↔ v = .slice none 0 0 ∧ k = 0) ∧ u.oneCell' = true ∧ M = L1 ++ row e sz u (m + k) (xs ++ news) :: L2 :=
  do_okx fun a w hE hS => by
    obtain ⟨i, hi, hs1, hb1, hz, hzs⟩ := hty
    have hS1 : Sat B (row e sz v m xs :: (L1 ++ L2)) w := by
      have := hS
      obtain ⟨he, own, ho⟩ := this
      obtain ⟨g, hg⟩ : ∃ g : Nat → Nat, ∀ k, g k = (if own k = L1.length then 0 else if own k < L1.length then own k + 1 else own k) := ⟨_, fun _ => rfl⟩
      refine ⟨he, g, fun i C hC => ?_⟩
      cases i with
      | zero =>
        simp at hC
        subst hC
        refine (congrArg _ (part_congr fun k => ?_)).mp (ho L1.length _ (by simp))
        by_cases hk : own k = L1.length ∧ B.n ≤ k
        · exact .inl ⟨hk, ⟨by rw [hg, if_pos hk.1], hk.2⟩, rfl⟩
        · refine .inr (.inl ⟨hk, fun x => hk ⟨?_, x.2⟩⟩)
          have := x.1
          rw [hg] at this
          split at this
          · assumption
          · split at this <;> omega
      | succ i =>
        by_cases hi : i < L1.length
        · have hC' : (L1 ++ row e sz v m xs :: L2)[i]? = some C := by
            rw [List.getElem?_append_left hi]
            have : (L1 ++ L2)[i]? = some C := by simpa using hC
            rwa [List.getElem?_append_left hi] at this
          refine (congrArg C (part_congr fun k => ?_)).mp (ho i C hC')
          by_cases hk : own k = i ∧ B.n ≤ k
          · exact .inl ⟨hk, ⟨by rw [hg, if_neg (by omega), if_pos (by omega)]; omega, hk.2⟩, rfl⟩
          · refine .inr (.inl ⟨hk, fun x => hk ⟨?_, x.2⟩⟩)
            have := x.1
            rw [hg] at this
            split at this
            · omega
            · split at this <;> omega
        · have hC' : (L1 ++ row e sz v m xs :: L2)[i + 1]? = some C := by
            have h0 : (L1 ++ L2)[i]? = some C := by simpa using hC
            rw [List.getElem?_append_right (by omega)] at h0
            rw [List.getElem?_append_right (by omega), show i + 1 - L1.length = (i - L1.length) + 1 by omega]
            simpa using h0
          refine (congrArg C (part_congr fun k => ?_)).mp (ho (i + 1) C hC')
          by_cases hk : own k = i + 1 ∧ B.n ≤ k
          · exact .inl ⟨hk, ⟨by rw [hg, if_neg (by omega), if_neg (by omega)]; omega, hk.2⟩, rfl⟩
          · refine .inr (.inl ⟨hk, fun x => hk ⟨?_, x.2⟩⟩)
            have := x.1
            rw [hg] at this
            split at this
            · omega
            · split at this <;> omega
    obtain ⟨S0, hS0, hA0⟩ := hS1.one
    have hown := (row_part hS0 hA0).1
    obtain ⟨v', w', hr, h2, h3, h4, h5⟩ := run_append_own_at (P := P) w B.n t ty e i z sz bytes ht hi hz hs1 hb1 hzs hsz v m xs hown ad k c news hl (hn w hS) h1 h63 hb hS.1.size
    refine ⟨v', w', _, ?_, ⟨h4, ?_, rfl⟩, ?_⟩
    · simp [execOp, resolve, invoke, builtin, hE.eval hx, hE.eval hy, hr]
    · obtain ⟨_, h6⟩ := h2
      rcases h6 with ⟨rfl, _⟩ | ⟨g, cap, cur, rfl, _⟩ <;> rfl
    · refine hS.upd (grown_keep h3) fun S hSn hA => ?_
      obtain ⟨ho, hk⟩ := row_part hSn hA
      refine ⟨fun k hk1 hk2 => h3.block k hk1 (fun e => hk2 (hk k e.symm)), row_of h2 fun k hk1 => ?_⟩
      rcases h5 with h5 | h5
      · exact .inl (hk k (by rw [← h5]; exact hk1))
      · rw [h5] at hk1
        cases hk1
        exact .inr (Nat.le_refl _)

theorem reads_pt {i b : Nat} {cs : Array Value} {T : TypeId} {fr : Nat × Nat} {xs : List Value} (hL : nth L i = some (pt b (.cells cs T fr))) (hx : cs.toList = xs) : Reads B L ⟨b, 0, none⟩ xs := by
  intro w hS j u hj
  subst hx
  rw [addr_add, cell_of_block (hS.get hL).1]
  simpa using hj

/-- A literal's slice. -/
def bsliceOk (P : Program) (t e : TypeId) (len : Nat) (parts : List (Nat × Value)) (cells : Array Value) : Prop :=
  ∃ (sz : Nat) (z : Value) (i : TypeInfo), P.underlying t = some (.slice e) ∧ P.info? e = some i ∧ i.size = sz ∧ i.zero = some z ∧ 0 < len * sz ∧ len * sz ≤ 2 ^ 24 ∧
    Instr.fill (fun i => some (i * sz, sz)) ((Array.range (len * sz)).map (z.cells[· % z.cells.size]!)) parts = some cells

theorem do_buildSlice {len : Nat} {parts : List (Nat × Operand)} {ps : List (Nat × Value)} {cells : Array Value} (hp : evps E parts ps) (hb : bsliceOk P t e len ps cells) :
    Do P B n ds ro ⟨dst, .buildSlice t len parts.toArray, ty, pos, after, guard⟩ E L fun u M => ∃ b, u = .slice (some ⟨b, 0, none⟩) len len ∧ M = pt b (.cells cells e (0, 0)) :: L :=
  do_okx fun a w hE hS => by
    obtain ⟨sz, z, i, ht, hi, hs, hz, h0, h1, hf⟩ := hb
    have he := hE.evalps hp
    refine ⟨_, _, _, ?_, ⟨w.heap.size, rfl, rfl⟩, hS.alloc _⟩
    have hne : ¬ len * sz = 0 := by omega
    have hle : ¬ len * sz > 2 ^ 24 := by omega
    have hlen : ¬ len = 0 := by rintro rfl; simp at h0
    have hsz : ¬ sz = 0 := by rintro rfl; simp at h0
    have hz1 : (zeroValue e).run P w = .ok z w := by simp [zeroValue, run_info hi, hz]
    simp only [execOp, Instr.buildSlice]
    simp [run_und ht, run_size hi, hs, hne, hle, hlen, hsz, hz1, newRow, newObj, Sem.run]
    have he2 : List.map (fun x : Nat × Operand => (x.fst, a.eval x.snd)) parts = ps := he
    rw [he2, hf]
    simp [Sem.run]

theorem bslice_mk {len : Nat} {ps : List (Nat × Value)} {cells zs : Array Value} (hzs : ((Array.range (len * sz)).map (z.cells[· % z.cells.size]!)) = zs) (ht : P.underlying t = some (.slice e)) (hty : tyOk P e sz bytes z) (h0 : 0 < len * sz) (h1 : len * sz ≤ 2 ^ 24)
    (hf : Instr.fill (fun i => some (i * sz, sz)) zs ps = some cells) : bsliceOk P t e len ps cells := by
  subst hzs
  obtain ⟨i, hi, hs, _, hz, _⟩ := hty
  exact ⟨sz, z, i, ht, hi, hs, hz, h0, h1, hf⟩

theorem do_indexAddr {b off m cap j p : Nat} {k : IntKind} {i : Int} (ht : P.underlying t = some (.slice e)) (hty : tyOk P e sz bytes z) (hx : ev E x = some (.slice (some ⟨b, off, none⟩) m cap)) (hy : ev E y = some (.int k i))
    (hi : i = (j : Int)) (hj : j < m) (hp : off + j * sz = p) : Do1 P B n ds ro ⟨dst, .indexAddr t x y, ty, pos, after, guard⟩ E L (.pointer (some ⟨b, p, none⟩)) L := do_pure fun a w hE => by
  subst hi
  subst hp
  obtain ⟨i, hi, hs, _, hz, _⟩ := hty
  have h0 : (0 : Int) ≤ (j : Int) := by omega
  simp [execOp, Instr.indexAt, hE.eval hx, hE.eval hy, asIntOf, run_und ht, hj, run_size hi, hs, addr_add]

/-- A row is nil, or begins a block. -/
theorem row_open {w : World} {L : List Assn} {m : Nat} {xs : List Value} (h : Sat B (row e sz v m xs :: L) w) (hm : 0 < m) :
    ∃ x : Nat × Nat × Array Value, (v = .slice (some ⟨x.1, 0, none⟩) m x.2.1 ∧ m ≤ x.2.1 ∧ x.2.1 ≤ maxLen ∧ x.2.2.size = x.2.1 * sz ∧ x.2.2.toList.take (m * sz) = xs ∧ xs.length = m * sz) ∧ Sat B (pt x.1 (.cells x.2.2 e (0, 0)) :: L) w := by
  have := Sat.split (As := fun x : Nat × Nat × Array Value => [pt x.1 (.cells x.2.2 e (0, 0))]) (φ := fun x => v = .slice (some ⟨x.1, 0, none⟩) m x.2.1 ∧ m ≤ x.2.1 ∧ x.2.1 ≤ maxLen ∧ x.2.2.size = x.2.1 * sz ∧ x.2.2.toList.take (m * sz) = xs ∧ xs.length = m * sz) h (fun h hr => by
    obtain ⟨h1, h2⟩ := hr
    rcases h2 with ⟨rfl, rfl⟩ | ⟨g, cap, cur, rfl, hg, h3, h4, h5, h6⟩
    · omega
    · refine ⟨(g, cap, cur), ⟨rfl, h3, h4, h5, h6, h1⟩, fun _ => 0, fun i C hC => ?_⟩
      cases i with
      | zero => simp at hC; subst hC; simpa [pt] using hg
      | succ i => simp at hC)
  exact this
end
end Go.Proofs.Ytmefejfnddcelaa
