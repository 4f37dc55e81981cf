/- What an input says: bytes, rows of structs, in the base. -/
import Derived.Test.YtmefejfnddcelaaSLLaw
import Derived.ChangeSlices
import Derived.Deep.Slices
namespace Go.Proofs.Ytmefejfnddcelaa
open Go.ChangeShapes Go.WideShapes Go.ChangeAt Go.RowKit

/-- The bytes of a slice in the base. -/
def brd (W : World) (v : Value) (bs : List UInt8) : Prop :=
  ∃ a cap, v = .slice a bs.length cap ∧ ∀ (j : Nat) (u : Value), (byv bs)[j]? = some u → ∃ b off, a = some ⟨b, off, none⟩ ∧ W.cell? ⟨b, off + j, none⟩ = some u

theorem cell_lt {W : World} {a : Addr} {u : Value} (h : W.cell? a = some u) : a.block < W.heap.size ∧ a.spot = none := by
  unfold World.cell? at h
  split at h
  · rename_i c e fr hb
    refine ⟨(Array.getElem?_eq_some_iff.1 hb).1, ?_⟩
    split at h
    · cases h
    · rename_i hs; simpa using hs
  · cases h

theorem cellIn_base {W : World} {a : Addr} {u : Value} {h : Hp} (hc : W.cell? a = some u) : cellIn ⟨W.heap.size, W⟩ h a = some u := by
  unfold cellIn
  rw [if_pos (cell_lt hc).1]
  exact hc

theorem brd_rd {W : World} {v : Value} {bs : List UInt8} (h : brd W v bs) (hp : Hp) : rd ⟨W.heap.size, W⟩ 1 v bs.length (byv bs) hp := by
  obtain ⟨a, cap, hv, hc⟩ := h
  refine ⟨by rw [byv_len, Nat.mul_one], a, cap, hv, fun j u hj => ?_⟩
  obtain ⟨b, off, ha, hcell⟩ := hc j u hj
  exact ⟨b, off, ha, cellIn_base hcell⟩

theorem list_choose {α : Type} {Q : Nat → α → Prop} : ∀ (n : Nat), (∀ i, i < n → ∃ x, Q i x) → ∃ l : List α, l.length = n ∧ ∀ (j : Nat) (x : α), l[j]? = some x → Q j x
  | 0, _ => ⟨[], rfl, fun j x h => by simp at h⟩
  | n + 1, h => by
    obtain ⟨l, h1, h2⟩ := list_choose n fun i hi => h i (by omega)
    obtain ⟨x, hx⟩ := h n (by omega)
    refine ⟨l ++ [x], by simp [h1], fun j y hy => ?_⟩
    by_cases hj : j < l.length
    · rw [List.getElem?_append_left hj] at hy; exact h2 j y hy
    · rw [List.getElem?_append_right (by omega)] at hy
      have : j = n := by
        have := (List.getElem?_eq_some_iff.1 hy).1
        simp at this; omega
      subst this
      rw [h1] at hy
      simp at hy
      subst hy
      exact hx

section
variable {H : Type} {enc : TypeId × Value → H} {P : Program} {W : World} {sp : Nat → Bool} {hd : Bool}

theorem open_bytes {t e : TypeId} {n : Nat} {v : Value} {y : DataW H × List MemPlace} (ht : P.underlying t = some (.slice e)) (he : P.underlying e = some (.int .u8)) (hc : P.cellsOf e = 1)
    (h : DataW.trod enc P W 0 sp hd n t [v] = some y) : ∃ bs, brd W v bs := by
  rcases open_ints ht he hc h with ⟨h0, _⟩ | ⟨a, len, cap, zs, h0, _, hl, _, hz, _, hcell, hwf⟩
  · simp at h0; subst h0
    exact ⟨[], none, 0, rfl, fun j u hj => by simp [byv] at hj⟩
  · simp at h0; subst h0
    have hle : len ≤ zs.length := by rw [hz]; split <;> omega
    refine ⟨(zs.take len).map fun n => UInt8.ofNat n.toNat, some a, cap, by simp [Nat.min_eq_left hle], fun j u hj => ?_⟩
    have hjl : j < len := by
      have := (List.getElem?_eq_some_iff.1 hj).1
      simp [byv] at this; omega
    have hc1 := hcell j (by omega)
    have hw := hwf (zs.getD j 0) (by
      rw [List.getD_eq_getElem?_getD, List.getElem?_eq_getElem (by omega)]; simp)
    have hsp : a.spot = none := by have := (cell_lt (hcell 0 (by omega))).2; simpa [Addr.add] using this
    obtain ⟨b, off, s⟩ := a
    have hs : s = none := hsp
    subst hs
    refine ⟨b, off, rfl, ?_⟩
    rw [addr_add] at hc1
    rw [hc1]
    obtain ⟨z, hz0⟩ : ∃ z, z = zs.getD j 0 := ⟨_, rfl⟩
    rw [← hz0] at hw ⊢
    have hg : zs[j]? = some z := by rw [hz0, List.getD_eq_getElem?_getD, List.getElem?_eq_getElem (by omega)]; simp
    simp only [Lit.wf, IntKind.has, Bool.and_eq_true, decide_eq_true_eq] at hw
    have h1 : 0 ≤ z := hw.1
    have h2 : z ≤ 255 := hw.2
    have hu : u = .int .u8 ((UInt8.ofNat z.toNat).toNat : Int) := by
      simp only [byv, List.map_map, List.getElem?_map, List.getElem?_take, if_pos hjl, hg, Option.map_some] at hj
      exact (Option.some.inj hj).symm
    rw [hu]
    have h3 : (UInt8.ofNat z.toNat).toNat = z.toNat := UInt8.toNat_ofNat_of_lt' (by simp [UInt8.size]; omega)
    rw [h3]
    congr 2
    omega

/-- A struct of five cells: int, text, bytes, int, bool. -/
structure OpR where
  kind : Int
  key : ByteArray
  b : Value
  bs : List UInt8
  n : Int
  yes : Bool
def OpR.cells (o : OpR) : List Value := [.int .i64 o.kind, .string o.key, o.b, .int .i64 o.n, .bool o.yes]
/-- What is known of its numbers. -/
structure OpOk (W : World) (o : OpR) : Prop where
  kind : IntKind.i64.has o.kind
  n : IntKind.i64.has o.n
  key : o.key.size ≤ maxLen
  bytes : brd W o.b o.bs

theorem open_op {e : TypeId} {fs : Array Field} {t0 t1 t2 t3 t4 e2 : TypeId} {n : Nat} {cs : List Value} {y : DataW H × List MemPlace} (he : P.underlying e = some (.struct fs)) (hc5 : P.cellsOf e = 5)
    (hf : fs.toList.map (fun f => (f.type, f.offset, P.cellsOf f.type)) = [(t0, 0, 1), (t1, 1, 1), (t2, 2, 1), (t3, 3, 1), (t4, 4, 1)]) (u0 : P.underlying t0 = some (.int .i64)) (u1 : P.underlying t1 = some .string) (u2 : P.underlying t2 = some (.slice e2))
    (v2 : P.underlying e2 = some (.int .u8)) (w2 : P.cellsOf e2 = 1) (u3 : P.underlying t3 = some (.int .i64)) (u4 : P.underlying t4 = some .bool)
    (h : DataW.trod enc P W 0 sp hd n e cs = some y) : ∃ o : OpR, cs = o.cells ∧ OpOk W o := by
  obtain ⟨xs, n, _, rfl, hl, hlen, hx⟩ := DataW.trod_struct he h
  have hsz : fs.size = 5 := by have := congrArg List.length hf; simpa using this
  have fld : ∀ (i : Nat) (p : TypeId × Nat × Nat), [(t0, 0, 1), (t1, 1, 1), (t2, 2, 1), (t3, 3, 1), (t4, 4, 1)][i]? = some p → ∃ f z, fs[i]? = some f ∧ (f.type = p.1 ∧ f.offset = p.2.1 ∧ P.cellsOf f.type = p.2.2) ∧ xs[i]? = some z := fun i p hp => by
    have hi : i < 5 := by have := (List.getElem?_eq_some_iff.1 hp).1; simpa using this
    have h1 : fs[i]? = some (fs[i]'(by omega)) := by simp [show i < fs.size by omega]
    refine ⟨_, xs[i]'(by omega), h1, ?_, by simp [show i < xs.length by omega]⟩
    rw [← hf, List.getElem?_map, Array.getElem?_toList, h1] at hp
    simp at hp
    subst hp
    exact ⟨rfl, rfl, rfl⟩
  rw [hc5] at hl
  match cs, hl with
  | [c0, c1, c2, c3, c4], _ =>
    obtain ⟨f0, z0, g0, ⟨a0, b0, d0⟩, k0⟩ := fld 0 _ rfl
    obtain ⟨f1, z1, g1, ⟨a1, b1, d1⟩, k1⟩ := fld 1 _ rfl
    obtain ⟨f2, z2, g2, ⟨a2, b2, d2⟩, k2⟩ := fld 2 _ rfl
    obtain ⟨f3, z3, g3, ⟨a3, b3, d3⟩, k3⟩ := fld 3 _ rfl
    obtain ⟨f4, z4, g4, ⟨a4, b4, d4⟩, k4⟩ := fld 4 _ rfl
    have h0 := hx 0 f0 g0
    have h1 := hx 1 f1 g1
    have h2 := hx 2 f2 g2
    have h3 := hx 3 f3 g3
    have h4 := hx 4 f4 g4
    rw [k0, b0, d0, a0] at h0
    rw [k1, b1, d1, a1] at h1
    rw [k2, b2, d2, a2] at h2
    rw [k3, b3, d3, a3] at h3
    rw [k4, b4, d4, a4] at h4
    obtain ⟨m0, q0, _, w0⟩ := DataW.trod_int u0 h0
    obtain ⟨m1, q1, _, w1⟩ := DataW.trod_string u1 h1
    obtain ⟨bs, hbs⟩ := open_bytes u2 v2 w2 (show DataW.trod enc P W 0 sp hd n t2 [c2] = some z2 from h2)
    obtain ⟨m3, q3, _, w3⟩ := DataW.trod_int u3 h3
    obtain ⟨m4, q4, _⟩ := DataW.trod_bool u4 h4
    have r0 : c0 = .int .i64 m0 := by simpa using q0
    have r1 : c1 = .string m1 := by simpa using q1
    have r3 : c3 = .int .i64 m3 := by simpa using q3
    have r4 : c4 = .bool m4 := by simpa using q4
    subst r0 r1 r3 r4
    refine ⟨⟨m0, m1, c2, bs, m3, m4⟩, rfl, ⟨?_, ?_, w1, hbs⟩⟩
    · simpa [Lit.wf, IntKind.has] using w0
    · simpa [Lit.wf, IntKind.has] using w3

/-- A slice of them. -/
def opsIn (W : World) (v : Value) (ops : List OpR) : Prop :=
  ∃ a cap, v = .slice a ops.length cap ∧ ∀ (j : Nat) (o : OpR), ops[j]? = some o → ∃ b off, a = some ⟨b, off, none⟩ ∧ (∀ (i : Nat) (u : Value), o.cells[i]? = some u → W.cell? ⟨b, off + (j * 5 + i), none⟩ = some u) ∧ OpOk W o

theorem open_ops {t e : TypeId} {fs : Array Field} {t0 t1 t2 t3 t4 e2 : TypeId} {v : Value} {d : DataW H} {ps : List MemPlace} (ht : P.underlying t = some (.slice e)) (he : P.underlying e = some (.struct fs)) (hc5 : P.cellsOf e = 5)
    (hf : fs.toList.map (fun f => (f.type, f.offset, P.cellsOf f.type)) = [(t0, 0, 1), (t1, 1, 1), (t2, 2, 1), (t3, 3, 1), (t4, 4, 1)]) (u0 : P.underlying t0 = some (.int .i64)) (u1 : P.underlying t1 = some .string) (u2 : P.underlying t2 = some (.slice e2))
    (v2 : P.underlying e2 = some (.int .u8)) (w2 : P.cellsOf e2 = 1) (u3 : P.underlying t3 = some (.int .i64)) (u4 : P.underlying t4 = some .bool) (hv : v.cells = #[v])
    (h : DataW.Trod enc P W 0 sp hd t v d ps) : ∃ ops, opsIn W v ops := by
  obtain ⟨fuel, hf1⟩ := h
  rw [hv] at hf1
  rcases Go.Deep.open_slice ht hf1 with ⟨h0, _⟩ | ⟨a, len, cap, m, n, D, Pl, h0, _, hl, _, hm, _, hx⟩
  · simp at h0; subst h0
    exact ⟨[], none, 0, rfl, fun j o hj => by simp at hj⟩
  · simp at h0; subst h0
    have hle : len ≤ m := by rw [hm]; split <;> omega
    obtain ⟨ops, h1, h2⟩ := list_choose (Q := fun j o => (∀ (i : Nat) (u : Value), o.cells[i]? = some u → W.cell? ((a.add (j * 5)).add i) = some u) ∧ OpOk W o) len fun j hj => by
      obtain ⟨cs, h3, h4⟩ := hx j (by omega)
      obtain ⟨o, rfl, ho⟩ := open_op he hc5 hf u0 u1 u2 v2 w2 u3 u4 h4
      rw [hc5] at h3
      obtain ⟨_, hcl, hcell⟩ := World.cells?_some h3
      refine ⟨o, fun i u hi => ?_, ho⟩
      rw [hcell i (by have := (List.getElem?_eq_some_iff.1 hi).1; rw [hcl] at this; exact this), hi]
    subst h1
    refine ⟨ops, some a, cap, rfl, fun j o hj => ?_⟩
    have hjl := (List.getElem?_eq_some_iff.1 hj).1
    obtain ⟨h5, h6⟩ := h2 j o hj
    have hsp : a.spot = none := by
      obtain ⟨h7, _⟩ := h2 0 (ops[0]'(by omega)) (by simp)
      have := (cell_lt (h7 0 _ rfl)).2
      simpa [Addr.add] using this
    obtain ⟨b, off, s⟩ := a
    have hs : s = none := hsp
    subst hs
    refine ⟨b, off, rfl, fun i u hi => ?_, h6⟩
    have := h5 i u hi
    rw [addr_add, addr_add] at this
    rw [← this]
    congr 2
    omega
end
/-- An op of the input, over the base. -/
structure OpB (B : Ctx) (b0 off j : Nat) (o : OpR) : Prop where
  kind : IntKind.i64.has o.kind
  n : IntKind.i64.has o.n
  key : o.key.size ≤ 9223372036854775807
  cells : ∀ (i : Nat) (u : Value), o.cells[i]? = some u → B.cell ⟨b0, off + (j * 5 + i), none⟩ u
  rd : Rd B AnyP 1 o.b o.bs.length (byv o.bs)
  slice : ∃ a cap, o.b = .slice a o.bs.length cap

theorem ops_base {W : World} {v : Value} {ops : List OpR} (h : opsIn W v ops) : ∃ a cap b0 off, v = .slice a ops.length cap ∧ ∀ (j : Nat) (o : OpR), ops[j]? = some o → a = some ⟨b0, off, none⟩ ∧ OpB ⟨W.heap.size, W⟩ b0 off j o := by
  obtain ⟨a, cap, hv, ho⟩ := h
  have key : ∃ b0 off, ∀ (j : Nat) (o : OpR), ops[j]? = some o → a = some ⟨b0, off, none⟩ ∧ OpB ⟨W.heap.size, W⟩ b0 off j o := by
    cases ops with
    | nil => exact ⟨0, 0, fun j o hj => by simp at hj⟩
    | cons o0 ops =>
      obtain ⟨b0, off, ha, _⟩ := ho 0 o0 rfl
      refine ⟨b0, off, fun j o hj => ⟨ha, ?_⟩⟩
      obtain ⟨b1, off1, ha1, hc, hok⟩ := ho j o hj
      rw [ha] at ha1
      cases ha1
      obtain ⟨a2, cap2, hb2, _⟩ := hok.bytes
      exact ⟨hok.kind, hok.n, hok.key, fun i u hi => ⟨(cell_lt (hc i u hi)).1, hc i u hi⟩, fun hp _ _ => brd_rd hok.bytes hp, a2, cap2, hb2⟩
  obtain ⟨b0, off, hk⟩ := key
  exact ⟨a, cap, b0, off, hv, hk⟩
end Go.Proofs.Ytmefejfnddcelaa
