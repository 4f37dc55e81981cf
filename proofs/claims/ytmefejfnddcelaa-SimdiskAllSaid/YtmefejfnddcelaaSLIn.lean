/- What an input says: slices that can be read, structs, rows of structs, in the base. -/
import Derived.Test.YtmefejfnddcelaaSLLaw
import Derived.ChangeSlices
import Derived.Deep.Slices
import Derived.Deep.Grids
namespace Go.Proofs.Ytmefejfnddcelaa
open Go.ChangeShapes Go.WideShapes Go.ChangeAt Go.RowKit

theorem cell_lt {W : World} {a : Addr} {u : Value} (h : W.cell? a = some u) : a.block < W.heap.size ∧ a.spot = none := by
  unfold World.cell? at h
  split at h
  · rename_i c e fr hb
    refine ⟨(Array.getElem?_eq_some_iff.1 hb).1, ?_⟩
    split at h
    · cases h
    · rename_i hs; simpa using hs
  · cases h
theorem cellIn_base {W : World} {a : Addr} {u : Value} {h : Hp} (hc : W.cell? a = some u) : cellIn ⟨W.heap.size, W⟩ h a = some u := by
  unfold cellIn
  rw [if_pos (cell_lt hc).1]
  exact hc

/-- A slice of one-cell elements in the base. -/
def inSl (W : World) (v : Value) (n : Nat) (xs : List Value) : Prop :=
  xs.length = n ∧ ∃ a cap, v = .slice a n cap ∧ n ≤ cap ∧ n ≤ maxLen ∧ ∀ (j : Nat) (u : Value), xs[j]? = some u → ∃ b off, a = some ⟨b, off, none⟩ ∧ W.cell? ⟨b, off + j, none⟩ = some u
theorem inSl_rd {W : World} {v : Value} {n : Nat} {xs : List Value} (h : inSl W v n xs) {R : Assn} : Rd ⟨W.heap.size, W⟩ R 1 v n xs := fun hp _ _ => by
  obtain ⟨hl, a, cap, hv, _, _, hc⟩ := h
  refine ⟨by rw [hl, Nat.mul_one], a, cap, hv, fun j u hj => ?_⟩
  obtain ⟨b, off, ha, hcell⟩ := hc j u hj
  exact ⟨b, off, ha, cellIn_base hcell⟩
theorem inSl_shape {W : World} {v : Value} {n : Nat} {xs : List Value} (h : inSl W v n xs) : ∃ a cap, v = .slice a n cap ∧ n ≤ cap ∧ n ≤ maxLen := by
  obtain ⟨_, a, cap, hv, h1, h2, _⟩ := h; exact ⟨a, cap, hv, h1, h2⟩

theorem list_choose {α : Type} {Q : Nat → α → Prop} : ∀ (n : Nat), (∀ i, i < n → ∃ x, Q i x) → ∃ l : List α, l.length = n ∧ ∀ (j : Nat) (x : α), l[j]? = some x → Q j x
  | 0, _ => ⟨[], rfl, fun j x h => by simp at h⟩
  | n + 1, h => by
    obtain ⟨l, h1, h2⟩ := list_choose n fun i hi => h i (by omega)
    obtain ⟨x, hx⟩ := h n (by omega)
    refine ⟨l ++ [x], by simp [h1], fun j y hy => ?_⟩
    by_cases hj : j < l.length
    · rw [List.getElem?_append_left hj] at hy; exact h2 j y hy
    · rw [List.getElem?_append_right (by omega)] at hy
      have : j = n := by
        have := (List.getElem?_eq_some_iff.1 hy).1
        simp at this; omega
      subst this
      rw [h1] at hy
      simp at hy
      subst hy
      exact hx

section
variable {H : Type} {enc : TypeId × Value → H} {P : Program} {W : World} {sp : Nat → Bool} {hd : Bool}

/-- A slice whose elements are one cell each, each of a kind. -/
theorem open_one {α : Type} {t e : TypeId} {n : Nat} {v : Value} {y : DataW H × List MemPlace} (f : α → Value) (ht : P.underlying t = some (.slice e)) (hc : P.cellsOf e = 1)
    (hf : ∀ (m : Nat) (u : Value) (z : DataW H × List MemPlace), DataW.trod enc P W 0 sp hd m e [u] = some z → ∃ x, u = f x) (h : DataW.trod enc P W 0 sp hd n t [v] = some y) : ∃ l : List α, inSl W v l.length (l.map f) := by
  rcases Go.Deep.open_slice1 ht hc h with ⟨h0, _⟩ | ⟨a, len, cap, m, n, V, D, Pl, h0, _, hl, hcap, hm, _, hx⟩
  · simp at h0; subst h0
    exact ⟨[], rfl, none, 0, rfl, Nat.le_refl _, Nat.zero_le _, fun j u hj => by simp at hj⟩
  · simp at h0; subst h0
    have hle : len ≤ m := by rw [hm]; split <;> omega
    obtain ⟨l, h1, h2⟩ := list_choose (Q := fun j x => W.cell? (a.add j) = some (f x)) len fun j hj => by
      obtain ⟨h3, h4⟩ := hx j (by omega)
      obtain ⟨x, hx⟩ := hf _ _ _ h4
      exact ⟨x, by rw [h3, hx]⟩
    subst h1
    refine ⟨l, by simp, some a, cap, rfl, hl, Nat.le_trans hl hcap, fun j u hj => ?_⟩
    rw [List.getElem?_map] at hj
    cases hg : l[j]? with
    | none => rw [hg] at hj; cases hj
    | some x =>
      rw [hg] at hj
      cases hj
      have h3 := h2 j x hg
      have hjl := (List.getElem?_eq_some_iff.1 hg).1
      have hsp : a.spot = none := by have := (cell_lt (h2 0 (l[0]'(by omega)) (by simp))).2; simpa [Addr.add] using this
      obtain ⟨b, off, s⟩ := a
      have hs : s = none := hsp
      subst hs
      exact ⟨b, off, rfl, by rw [addr_add] at h3; exact h3⟩
theorem open_bytesI {t e : TypeId} {n : Nat} {v : Value} {y : DataW H × List MemPlace} (ht : P.underlying t = some (.slice e)) (he : P.underlying e = some (.int .u8)) (hc : P.cellsOf e = 1) (h : DataW.trod enc P W 0 sp hd n t [v] = some y) : ∃ bs, inSl W v bs.length (byv bs) :=
  open_one (fun c : UInt8 => .int .u8 (c.toNat : Int)) ht hc (fun m u z hz => by
    obtain ⟨k, q, _, hw⟩ := DataW.trod_int he hz
    simp at q
    subst q
    simp only [Lit.wf, IntKind.has, Bool.and_eq_true, decide_eq_true_eq] at hw
    have h1 : 0 ≤ k := hw.1
    have h2 : k ≤ 255 := hw.2
    refine ⟨UInt8.ofNat k.toNat, ?_⟩
    have h3 : (UInt8.ofNat k.toNat).toNat = k.toNat := UInt8.toNat_ofNat_of_lt' (by simp [UInt8.size]; omega)
    rw [h3]
    congr 1
    omega) h
theorem open_boolsI {t e : TypeId} {n : Nat} {v : Value} {y : DataW H × List MemPlace} (ht : P.underlying t = some (.slice e)) (he : P.underlying e = some .bool) (hc : P.cellsOf e = 1) (h : DataW.trod enc P W 0 sp hd n t [v] = some y) : ∃ l : List Bool, inSl W v l.length (l.map .bool) :=
  open_one (fun b : Bool => .bool b) ht hc (fun m u z hz => by
    obtain ⟨k, q, _⟩ := DataW.trod_bool he hz
    simp at q
    exact ⟨k, q⟩) h

/-- A struct of one-cell fields: each field by itself. -/
theorem open_fields {e : TypeId} {fs : Array Field} {n : Nat} {cs : List Value} {y : DataW H × List MemPlace} (ts : List TypeId) (he : P.underlying e = some (.struct fs)) (hc : P.cellsOf e = ts.length)
    (hf : fs.toList.map (fun f => (f.type, f.offset, P.cellsOf f.type)) = ts.zipIdx.map fun q => (q.1, q.2, 1)) (h : DataW.trod enc P W 0 sp hd n e cs = some y) :
    cs.length = ts.length ∧ ∃ m, ∀ (j : Nat) (t : TypeId), ts[j]? = some t → ∃ c z, cs[j]? = some c ∧ DataW.trod enc P W 0 sp hd m t [c] = some z := by
  obtain ⟨xs, n, _, rfl, hl, hlen, hx⟩ := DataW.trod_struct he h
  have hcl : cs.length = ts.length := hl.trans hc
  refine ⟨hcl, n, fun j t hj => ?_⟩
  have hsz : fs.size = ts.length := by have := congrArg List.length hf; simpa using this
  have hjl : j < ts.length := (List.getElem?_eq_some_iff.1 hj).1
  have h1 : fs[j]? = some (fs[j]'(by omega)) := by simp [show j < fs.size by omega]
  have h2 : (fs[j]'(by omega)).type = t ∧ (fs[j]'(by omega)).offset = j ∧ P.cellsOf (fs[j]'(by omega)).type = 1 := by
    have := congrArg (fun l => l[j]?) hf
    simp only [List.getElem?_map, Array.getElem?_toList, h1, Option.map_some, List.getElem?_zipIdx, hj] at this
    simp at this
    exact this
  have h3 := hx j _ h1
  have h7 := h2.2.2
  rw [h2.1] at h7
  rw [h2.1, h2.2.1, h7] at h3
  have h4 : xs[j]? = some (xs[j]'(by omega)) := by simp [show j < xs.length by omega]
  have h5 : cs[j]? = some (cs[j]'(by omega)) := by simp [show j < cs.length by omega]
  have h6 : (cs.drop j).take 1 = [cs[j]'(by omega)] := by
    rw [List.drop_eq_getElem_cons (by omega)]; rfl
  rw [h6, h4] at h3
  exact ⟨_, _, h5, h3⟩

/-- A slice of structs. -/
theorem open_rows {α : Type} {t e : TypeId} {n sz : Nat} {v : Value} {y : DataW H × List MemPlace} (cells : α → List Value) (Ok : α → Prop) (hcl : ∀ o, (cells o).length = sz) (ht : P.underlying t = some (.slice e)) (hc : P.cellsOf e = sz) (hsz : 0 < sz)
    (ho : ∀ (m : Nat) (cs : List Value) (z : DataW H × List MemPlace), DataW.trod enc P W 0 sp hd m e cs = some z → ∃ o, cs = cells o ∧ Ok o) (h : DataW.trod enc P W 0 sp hd n t [v] = some y) :
    ∃ (l : List α) (a : Option Addr) (cap b0 off : Nat), v = .slice a l.length cap ∧ l.length ≤ cap ∧ l.length ≤ maxLen ∧ ∀ (j : Nat) (o : α), l[j]? = some o → a = some ⟨b0, off, none⟩ ∧ Ok o ∧ ∀ (i : Nat) (u : Value), (cells o)[i]? = some u → (Ctx.cell ⟨W.heap.size, W⟩ ⟨b0, off + j * sz + i, none⟩ u) := by
  rcases Go.Deep.open_slice ht h with ⟨h0, _⟩ | ⟨a, len, cap, m, n, D, Pl, h0, _, hl, hcap, hm, _, hx⟩
  · simp at h0; subst h0
    exact ⟨[], none, 0, 0, 0, rfl, Nat.le_refl _, Nat.zero_le _, fun j o hj => by simp at hj⟩
  · simp at h0; subst h0
    have hle : len ≤ m := by rw [hm]; split <;> omega
    obtain ⟨ops, h1, h2⟩ := list_choose (Q := fun j o => (∀ (i : Nat) (u : Value), (cells o)[i]? = some u → W.cell? ((a.add (j * sz)).add i) = some u) ∧ Ok o) len fun j hj => by
      obtain ⟨cs, h3, h4⟩ := hx j (by omega)
      obtain ⟨o, rfl, ho⟩ := ho _ _ _ h4
      rw [hc] at h3
      obtain ⟨_, hcl2, hcell⟩ := World.cells?_some h3
      refine ⟨o, fun i u hi => ?_, ho⟩
      rw [hcell i (by have := (List.getElem?_eq_some_iff.1 hi).1; rw [hcl2] at this; exact this), hi]
    subst h1
    obtain ⟨b, off, s⟩ := a
    refine ⟨ops, _, cap, b, off, rfl, hl, Nat.le_trans hl hcap, fun j o hj => ?_⟩
    obtain ⟨h5, h6⟩ := h2 j o hj
    have hjl := (List.getElem?_eq_some_iff.1 hj).1
    have hs : s = none := by
      have h7 : 0 < (cells (ops[0]'(by omega))).length := by rw [hcl]; exact hsz
      have := (cell_lt ((h2 0 (ops[0]'(by omega)) (by simp)).1 0 ((cells (ops[0]'(by omega)))[0]) (by simp [h7]))).2
      simpa [Addr.add] using this
    subst hs
    refine ⟨rfl, h6, fun i u hi => ?_⟩
    have h8 := h5 i u hi
    rw [addr_add, addr_add] at h8
    exact ⟨(cell_lt h8).1, h8⟩
end
theorem cmpB_neq {a b : Int} {c : Bool} (h : cmpB .eql a b = some c) : cmpB .neq a b = some (!c) := by
  unfold cmpB at h ⊢; cases h; simp [bne]
theorem cmpB_eql {a b : Int} {c : Bool} (h : cmpB .neq a b = some c) : cmpB .eql a b = some (!c) := by
  unfold cmpB at h ⊢; cases h; simp [bne]
end Go.Proofs.Ytmefejfnddcelaa
