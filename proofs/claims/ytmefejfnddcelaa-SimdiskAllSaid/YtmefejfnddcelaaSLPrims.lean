/- One rule an operation. -/
import Derived.Test.YtmefejfnddcelaaSLOps
import Derived.WalkSpells
import Derived.Laws.Entries
namespace Go.Proofs.Ytmefejfnddcelaa

section
variable {P : Program} {B : Ctx} {n : Nat} {ds : List Deferred} {ro : Option Nat} {E : List (Nat × Value)} {L M : List Assn} {o : Oper}

theorem do_ok {v : Value} (h : ∀ a w, Env n ds E a → Sat B L w → ∃ w', (execOp a.eval o).run P w = .ok (.value v) w' ∧ Sat B M w') (hnd : ∀ c, o.op ≠ .defer c := by intro c h; cases h) : Do1 P B n ds ro o E L v M := by
  intro a w hE hS K Q k
  obtain ⟨w', h1, h2⟩ := h a w hE hS
  refine ⟨fun _ _ => trivial, ?_⟩
  rw [Oper.semAt_eq _ _ _ hnd, h1]
  exact k v M w' ⟨rfl, rfl⟩ h2

theorem do_okx {post : Value → List Assn → Prop} (h : ∀ a w, Env n ds E a → Sat B L w → ∃ v w' M, (execOp a.eval o).run P w = .ok (.value v) w' ∧ post v M ∧ Sat B M w') (hnd : ∀ c, o.op ≠ .defer c := by intro c h; cases h) : Do P B n ds ro o E L post := by
  intro a w hE hS K Q k
  obtain ⟨v, w', M, h1, h2, h3⟩ := h a w hE hS
  refine ⟨fun _ _ => trivial, ?_⟩
  rw [Oper.semAt_eq _ _ _ hnd, h1]
  exact k v M w' h2 h3

theorem do_skip (h : ∀ a w, Env n ds E a → Sat B L w → ∃ w', (execOp a.eval o).run P w = .ok .skip w' ∧ Sat B M w') (hnd : ∀ c, o.op ≠ .defer c := by intro c h; cases h) : Do1 P B n ds ro o E L undef M := by
  intro a w hE hS K Q k
  obtain ⟨w', h1, h2⟩ := h a w hE hS
  refine ⟨fun _ _ => trivial, ?_⟩
  rw [Oper.semAt_eq _ _ _ hnd, h1]
  exact k undef M w' ⟨rfl, rfl⟩ h2

/-- What computes alone. -/
theorem do_pure {v : Value} (h : ∀ a w, Env n ds E a → (execOp a.eval o).run P w = .ok (.value v) w) (hnd : ∀ c, o.op ≠ .defer c := by intro c h; cases h) : Do1 P B n ds ro o E L v L :=
  do_ok (fun a w hE hS => ⟨w, h a w hE, hS⟩) hnd

theorem Do1.weak {v : Value} {post : Value → List Assn → Prop} (h : Do1 P B n ds ro o E L v M) (hp : post v M) : Do P B n ds ro o E L post :=
  fun a w hE hS K Q k => h a w hE hS K Q fun u N w' ⟨h1, h2⟩ hS' => k u N w' (by subst h1; subst h2; exact hp) hS'

variable {dst : Option Tmp} {ty : TypeId} {pos : String} {after : Array Edge} {guard : Option (Nat × Bool)} {x y : Operand} {v u : Value} {t s : TypeId}

theorem do_move (hx : ev E x = some v) : Do1 P B n ds ro ⟨dst, .move x, ty, pos, after, guard⟩ E L v L := do_pure fun a w hE => by simp [execOp, hE.eval hx]
theorem do_assign (hx : ev E x = some v) : Do1 P B n ds ro ⟨dst, .assign x, ty, pos, after, guard⟩ E L v L := do_pure fun a w hE => by simp [execOp, hE.eval hx]
theorem do_pick {c : Operand} {b : Bool} (hc : ev E c = some (.bool b)) (hx : ev E x = some v) (hy : ev E y = some u) :
    Do1 P B n ds ro ⟨dst, .pick c x y, ty, pos, after, guard⟩ E L (bif b then v else u) L := do_pure fun a w hE => by cases b <;> simp [execOp, hE.eval hx, hE.eval hy, hE.eval hc, asBool]
theorem do_pickT {c : Operand} (hc : ev E c = some (.bool true)) (hx : ev E x = some v) :
    Do1 P B n ds ro ⟨dst, .pick c x y, ty, pos, after, guard⟩ E L v L := do_pure fun a w hE => by simp [execOp, hE.eval hx, hE.eval hc, asBool]
theorem do_pickF {c : Operand} (hc : ev E c = some (.bool false)) (hy : ev E y = some u) :
    Do1 P B n ds ro ⟨dst, .pick c x y, ty, pos, after, guard⟩ E L u L := do_pure fun a w hE => by simp [execOp, hE.eval hy, hE.eval hc, asBool]
theorem do_nilCheck {p : Addr} (hx : ev E x = some (.pointer (some p))) : Do1 P B n ds ro ⟨dst, .nilCheck x, ty, pos, after, guard⟩ E L (.pointer (some p)) L :=
  do_pure fun a w hE => by simp [execOp, hE.eval hx]
theorem do_nilCheckF {f : FuncId} {fi ca : Array Value} (hx : ev E x = some (.func (.func f) fi ca)) : Do1 P B n ds ro ⟨dst, .nilCheck x, ty, pos, after, guard⟩ E L (.func (.func f) fi ca) L :=
  do_pure fun a w hE => by simp [execOp, hE.eval hx]

/-- The place of a field: of a struct type whose field is not of size 0. -/
def fieldOk (P : Program) (s : TypeId) (f off : Nat) : Bool :=
  match P.underlying s with
  | some (.struct fs) => match fs[f]? with
    | some fd => match P.info? fd.type with
      | some i => i.size != 0 && fd.offset == off
      | none => false
    | none => false
  | _ => false

theorem run_info {i : TypeInfo} (h : P.info? t = some i) (w : World) : (typeInfo t).run P w = .ok i w := by
  simp [typeInfo, program, Sem.run, bind, Sem.bind, h, pure]

theorem run_und {d : TypeDesc} (h : P.underlying t = some d) (w : World) : (underlying t).run P w = .ok d w := run_underlying h w

theorem run_size {i : TypeInfo} (h : P.info? t = some i) (w : World) : (sizeOf t).run P w = .ok i.size w := by
  simp [sizeOf, run_info h]

theorem addr_add (b off k : Nat) : (⟨b, off, none⟩ : Addr).add k = ⟨b, off + k, none⟩ := by
  unfold Addr.add
  split
  · rename_i h; subst h; rfl
  · rfl

theorem do_fieldAddr {b off f k k' : Nat} (hf : fieldOk P s f k = true) (hx : ev E x = some (.pointer (some ⟨b, off, none⟩))) (hk : off + k = k') :
    Do1 P B n ds ro ⟨dst, .fieldAddr s x f, ty, pos, after, guard⟩ E L (.pointer (some ⟨b, k', none⟩)) L := do_pure fun a w hE => by
  subst hk
  unfold fieldOk at hf
  split at hf
  · rename_i fs hu
    split at hf
    · rename_i fd hfd
      split at hf
      · rename_i i hi
        simp at hf
        obtain ⟨h1, h2⟩ := hf
        simp [execOp, Instr.fieldAt, run_und hu, hfd, hE.eval hx, Instr.sureAddr, fieldPlace, run_size hi, h1, addr_add, h2]
      · cases hf
    · cases hf
  · cases hf

/-- A type whose values are one cell. -/
def oneOk (P : Program) (t : TypeId) : Bool :=
  match P.underlying t with
  | some (.struct _) | some (.array _ _) | none => false
  | _ => match P.info? t with
    | some i => i.size == 1
    | none => false

theorem run_isAgg_one (h : oneOk P t = true) (w : World) : (isAgg t).run P w = .ok false w := by
  unfold oneOk at h
  cases hu : P.underlying t with
  | none => rw [hu] at h; cases h
  | some d => cases d <;> rw [hu] at h <;> first | (cases h; done) | simp [isAgg, run_und hu]

theorem one_size (h : oneOk P t = true) : ∃ i, P.info? t = some i ∧ i.size = 1 := by
  unfold oneOk at h
  split at h
  · cases h
  · cases h
  · cases h
  · split at h
    · rename_i i hi; exact ⟨i, hi, by simpa using h⟩
    · cases h

theorem run_loadVar1 {b off : Nat} {w : World} (h1 : oneOk P t = true) (hc : w.cell? ⟨b, off, none⟩ = some v) : (loadVar t ⟨b, off, none⟩).run P w = .ok v w := by
  simp [loadVar, run_isAgg_one h1, load, Sem.run, hc]

theorem nth_arr {cs : Array Value} {i : Nat} {v : Value} (h : nth cs.toList i = some v) : cs[i]? = some v := by rw [nth_eq] at h; simpa using h

theorem cell_of_block {w : World} {b off : Nat} {cs : Array Value} {T : TypeId} {fr : Nat × Nat} (h : w.heap[b]? = some (.cells cs T fr)) : w.cell? ⟨b, off, none⟩ = cs[off]? := by
  simp [World.cell?, h]

theorem do_load {b off : Nat} {cs : Array Value} {T : TypeId} {fr : Nat × Nat} (i : Nat) (hx : ev E x = some (.pointer (some ⟨b, off, none⟩))) (h1 : oneOk P t = true)
    (hL : nth L i = some (pt b (.cells cs T fr))) (hc : nth cs.toList off = some v) : Do1 P B n ds ro ⟨dst, .load t x, ty, pos, after, guard⟩ E L v L :=
  do_ok fun a w hE hS => ⟨w, by
    have hb := (hS.get hL).1
    simp [execOp, Instr.loadAt, hE.eval hx, Instr.sureAddr, run_loadVar1 h1 ((cell_of_block hb).trans (nth_arr hc))], hS⟩

/-- Memory of the base. -/
def Ctx.cell (B : Ctx) (a : Addr) (v : Value) : Prop := a.block < B.n ∧ B.w.cell? a = some v

theorem Sat.baseCell {w : World} {a : Addr} (h : Sat B L w) (hc : B.cell a v) : w.cell? a = some v := by
  rw [← hc.2]
  simp [World.cell?, h.1.base _ hc.1]

theorem do_loadB {b off : Nat} (hx : ev E x = some (.pointer (some ⟨b, off, none⟩))) (h1 : oneOk P t = true)
    (hc : B.cell ⟨b, off, none⟩ v) : Do1 P B n ds ro ⟨dst, .load t x, ty, pos, after, guard⟩ E L v L :=
  do_ok fun a w hE hS => ⟨w, by simp [execOp, Instr.loadAt, hE.eval hx, Instr.sureAddr, run_loadVar1 h1 (hS.baseCell hc)], hS⟩

/-- A struct's or an array's type, of k cells. -/
def aggOk (P : Program) (t : TypeId) (k : Nat) : Bool :=
  match P.underlying t with
  | some (.struct _) | some (.array _ _) => match P.info? t with
    | some i => i.size == k
    | none => false
  | _ => false

theorem run_isAgg_agg {k : Nat} (h : aggOk P t k = true) (w : World) : (isAgg t).run P w = .ok true w := by
  unfold aggOk at h
  split at h
  · rename_i hu; simp [isAgg, run_und hu]
  · rename_i hu; simp [isAgg, run_und hu]
  · cases h

theorem agg_size {k : Nat} (h : aggOk P t k = true) : ∃ i, P.info? t = some i ∧ i.size = k := by
  unfold aggOk at h
  split at h
  · split at h
    · rename_i i hi; exact ⟨i, hi, by simpa using h⟩
    · cases h
  · split at h
    · rename_i i hi; exact ⟨i, hi, by simpa using h⟩
    · cases h
  · cases h

theorem run_loadVarA {k : Nat} {b off : Nat} {w : World} {cs : List Value} (h1 : aggOk P t k = true) (hl : cs.length = k)
    (hc : ∀ j u, cs[j]? = some u → w.cell? ⟨b, off + j, none⟩ = some u) : (loadVar t ⟨b, off, none⟩).run P w = .ok (.agg cs.toArray) w := by
  obtain ⟨i, hi, hs⟩ := agg_size h1
  have := run_loadCells_list (P := P) (w := w) ⟨b, off, none⟩ cs (fun j u hj => by rw [addr_add]; exact hc j u hj)
  rw [hl] at this
  simp [loadVar, run_isAgg_agg h1, run_size hi, hs, this]

theorem do_loadA {k : Nat} {b off : Nat} {cs : Array Value} {T : TypeId} {fr : Nat × Nat} {vs : List Value} (i : Nat) (hx : ev E x = some (.pointer (some ⟨b, off, none⟩))) (h1 : aggOk P t k = true)
    (hL : nth L i = some (pt b (.cells cs T fr))) (hl : vs.length = k) (hc : ∀ j u, vs[j]? = some u → cs[off + j]? = some u) : Do1 P B n ds ro ⟨dst, .load t x, ty, pos, after, guard⟩ E L (.agg vs.toArray) L :=
  do_ok fun a w hE hS => ⟨w, by
    have hb := (hS.get hL).1
    simp [execOp, Instr.loadAt, hE.eval hx, Instr.sureAddr, run_loadVarA h1 hl (fun j u hj => (cell_of_block hb).trans (hc j u hj))], hS⟩

theorem do_loadAB {k : Nat} {b off : Nat} {vs : List Value} (hx : ev E x = some (.pointer (some ⟨b, off, none⟩))) (h1 : aggOk P t k = true)
    (hl : vs.length = k) (hc : ∀ j u, vs[j]? = some u → B.cell ⟨b, off + j, none⟩ u) : Do1 P B n ds ro ⟨dst, .load t x, ty, pos, after, guard⟩ E L (.agg vs.toArray) L :=
  do_ok fun a w hE hS => ⟨w, by
    simp [execOp, Instr.loadAt, hE.eval hx, Instr.sureAddr, run_loadVarA h1 hl (fun j u hj => hS.baseCell (hc j u hj))], hS⟩

/-- The cells of a piece of a block. -/
theorem piece {cs : Array Value} {off k : Nat} {vs : List Value} (h : (cs.toList.drop off).take k = vs) : ∀ (j : Nat) (u : Value), vs[j]? = some u → cs[off + j]? = some u := by
  intro j u hj
  subst h
  rw [List.getElem?_take] at hj
  split at hj
  · rw [List.getElem?_drop] at hj
    simpa using hj
  · cases hj

theorem do_loadL {k : Nat} {b off : Nat} {cs : Array Value} {T : TypeId} {fr : Nat × Nat} {vs : List Value} (i : Nat) (hx : ev E x = some (.pointer (some ⟨b, off, none⟩))) (h1 : aggOk P t k = true)
    (hL : nth L i = some (pt b (.cells cs T fr))) (hv : (cs.toList.drop off).take k = vs) (hl : vs.length = k) : Do1 P B n ds ro ⟨dst, .load t x, ty, pos, after, guard⟩ E L (.agg vs.toArray) L :=
  do_loadA i hx h1 hL hl (piece hv)

theorem keep_setCell (w : World) (a : Addr) (v : Value) : Keep w (w.setCell a v) := ⟨rfl, rfl, rfl, by simp [World.setCell]⟩

theorem Sat.setCell {w : World} {L1 L2 : List Assn} {b off : Nat} {cs : Array Value} {T : TypeId} {fr : Nat × Nat} (h : Sat B (L1 ++ pt b (.cells cs T fr) :: L2) w) (u : Value) :
    Sat B (L1 ++ pt b (.cells (cs.setIfInBounds off u) T fr) :: L2) (w.setCell ⟨b, off, none⟩ u) := by
  have hb : w.heap[b]? = some (.cells cs T fr) := (h.get (i := L1.length) (by simp [nth_eq])).1
  refine h.setBlock (keep_setCell _ _ _) ?_ ?_
  · have hlt := (Array.getElem?_eq_some_iff.1 hb).1
    have hge := (Array.getElem?_eq_some_iff.1 hb).2
    simp only [World.setCell]
    rw [Array.getElem?_modify, if_pos rfl, hb]
    simp
  · intro k hk
    simp only [World.setCell]
    rw [Array.getElem?_modify, if_neg (Ne.symm hk)]

/-- A list with one place turned, by a plain recursion. -/
def setAt {α : Type} : List α → Nat → α → List α
  | [], _, _ => []
  | _ :: l, 0, v => v :: l
  | x :: l, i + 1, v => x :: setAt l i v

theorem setAt_eq {α : Type} (l : List α) (v : α) : ∀ i, setAt l i v = l.set i v := by
  induction l with
  | nil => intro i; simp [setAt]
  | cons x l ih => intro i; cases i with
    | zero => simp [setAt]
    | succ i => simp [setAt, ih]

theorem setAt_arr {cs cs' : Array Value} {i : Nat} {v : Value} (h : setAt cs.toList i v = cs'.toList) : cs.setIfInBounds i v = cs' := by
  apply Array.toList_inj.1
  rw [← h, setAt_eq]
  simp

theorem do_store {L1 L2 : List Assn} {b off : Nat} {cs cs' : Array Value} {T : TypeId} (hx : ev E x = some (.pointer (some ⟨b, off, none⟩))) (hy : ev E y = some v) (h1 : oneOk P t = true)
    (hv : v.oneCell' = true) (hold : nth cs.toList off = some u) (hcs : setAt cs.toList off v = cs'.toList) :
    Do1 P B n ds ro ⟨dst, .store t x y, ty, pos, after, guard⟩ E (L1 ++ pt b (.cells cs T (0, 0)) :: L2) undef (L1 ++ pt b (.cells cs' T (0, 0)) :: L2) :=
  do_skip fun a w hE hS => ⟨w.setCell ⟨b, off, none⟩ v, by
    have hlt : off < cs.size := (Array.getElem?_eq_some_iff.1 (nth_arr hold)).1
    have hb : w.heap[b]? = some (.cells cs T (0, 0)) := (hS.get (i := L1.length) (by simp [nth_eq])).1
    obtain ⟨i, hi, hs⟩ := one_size h1
    have hc : w.cell? ⟨b, off, none⟩ = some cs[off] := by rw [cell_of_block hb]; simp [hlt]
    have hfr : w.frozen? ⟨b, off, none⟩ = false := by simp [World.frozen?, hb]
    have hcells : v.cells = #[v] := by cases v <;> first | rfl | (simp [Value.oneCell'] at hv)
    have hone : ∀ k : Sem Unit, (Sem.store .plain ⟨b, off, none⟩ v k).run P w = k.run P (w.setCell ⟨b, off, none⟩ v) := by
      intro k
      cases v <;> first | (simp [Sem.run, hc, hfr]; done) | (simp [Value.oneCell'] at hv)
    have h0 : (⟨b, off, none⟩ : Addr).add 0 = ⟨b, off, none⟩ := by simp [Addr.add]
    simp [execOp, Instr.storeAt, hE.eval hx, hE.eval hy, Instr.sureAddr, storeVar, hcells, run_size hi, hs, storeCells, store, h0, hone, Sem.run], by rw [← setAt_arr hcs]; exact hS.setCell v⟩

def allOne (vs : List Value) : Bool := vs.all Value.oneCell'

theorem do_storeL {L1 L2 : List Assn} {b off k : Nat} {cs cs' : Array Value} {T : TypeId} {vs : Array Value} (hx : ev E x = some (.pointer (some ⟨b, off, none⟩))) (hy : ev E y = some (.agg vs)) (h1 : aggOk P t k = true)
    (hv : (vs.size == k && allOne vs.toList && Nat.ble (off + k) cs.size) = true) (hcs : (cs.toList.take off ++ vs.toList ++ cs.toList.drop (off + k)) = cs'.toList) (_h : True) :
    Do1 P B n ds ro ⟨dst, .store t x y, ty, pos, after, guard⟩ E (L1 ++ pt b (.cells cs T (0, 0)) :: L2) undef (L1 ++ pt b (.cells cs' T (0, 0)) :: L2) :=
  do_skip fun a w hE hS => by
    simp only [Bool.and_eq_true, beq_iff_eq] at hv
    obtain ⟨⟨hk, hall⟩, hle⟩ := hv
    have hle := Nat.le_of_ble_eq_true hle
    have hb : w.heap[b]? = some (.cells cs T (0, 0)) := (hS.get (i := L1.length) (by simp [nth_eq])).1
    obtain ⟨i, hi, hs⟩ := agg_size h1
    have hst := run_storeCells_at P b off T vs.toList 0 cs w hb (by simp [hk]; omega) (fun v hv => List.all_eq_true.1 hall v hv)
    simp only [Nat.add_zero, Array.length_toList, hk, hcs] at hst
    refine ⟨w.setRow b cs'.toList.toArray, ?_, ?_⟩
    · simp only [execOp, Instr.storeAt, hE.eval hx, hE.eval hy, Instr.sureAddr]
      simp [storeVar, Value.cells, run_size hi, hs, hk, hst]
    · refine hS.setBlock ⟨rfl, rfl, rfl, by simp⟩ ?_ ?_
      · rw [setRow_heap w b cs _ T _ hb]
      · intro k hk; exact setRow_other w b k _ hk

/-! making -/
theorem do_box {vs : Array Value} (hx : ev E x = some v) (hc : v.cells = vs) :
    Do P B n ds ro ⟨dst, .box t x, ty, pos, after, guard⟩ E L fun u M => ∃ b, u = .pointer (some ⟨b, 0, none⟩) ∧ M = pt b (.cells vs t (0, 0)) :: L :=
  do_okx fun a w hE hS => ⟨_, _, _, by simp [execOp, Instr.box, hE.eval hx, newVar, newRow, newObj, Sem.run, hc], ⟨_, rfl, rfl⟩, hS.alloc _⟩

/-- A type's zero, its cells. -/
def zeroOk (P : Program) (t : TypeId) (v : Value) : Prop := ∃ i, P.info? t = some i ∧ i.zero = some v

theorem run_zero (h : zeroOk P t v) (w : World) : (zeroValue t).run P w = .ok v w := by
  obtain ⟨i, hi, hz⟩ := h
  simp [zeroValue, run_info hi, hz]

theorem do_alloc {vs : Array Value} (hz : zeroOk P t v) (hc : v.cells = vs) :
    Do P B n ds ro ⟨dst, .alloc t, ty, pos, after, guard⟩ E L fun u M => ∃ b, u = .pointer (some ⟨b, 0, none⟩) ∧ M = pt b (.cells vs t (0, 0)) :: L :=
  do_okx fun a w hE hS => ⟨_, _, _, by simp [execOp, Instr.alloc, run_zero hz, newVar, newRow, newObj, Sem.run, hc], ⟨_, rfl, rfl⟩, hS.alloc _⟩

theorem do_makeMap : Do P B n ds ro ⟨dst, .makeMap t none, ty, pos, after, guard⟩ E L fun u M => ∃ b, u = .map (some b) ∧ M = pt b (.map #[] 0) :: L :=
  do_okx fun a w hE hS => ⟨_, _, _, by simp [execOp, Instr.makeMap, newObj, Sem.run], ⟨_, rfl, rfl⟩, hS.alloc _⟩

theorem do_makeFunc {fn : Fn} {fs cs : List Operand} {vs us : List Value} (hf : evs E fs vs) (hc : evs E cs us) :
    Do1 P B n ds ro ⟨dst, .makeFunc fn fs.toArray cs.toArray, ty, pos, after, guard⟩ E L (.func fn vs.toArray us.toArray) L :=
  do_pure fun a w hE => by simp [execOp, Instr.makeFunc, hE.evals hf, hE.evals hc]

theorem do_extract {vs : Array Value} {i : Nat} (hx : ev E x = some (.tuple vs)) (hi : nth vs.toList i = some v) : Do1 P B n ds ro ⟨dst, .extract x i, ty, pos, after, guard⟩ E L v L :=
  do_pure fun a w hE => by simp [execOp, Instr.extract, hE.eval hx, nth_arr hi]

/-- What 'build' makes, by its parts. -/
def buildOk (P : Program) (t : TypeId) (parts : List (Nat × Value)) (cells : Array Value) : Prop :=
  ∃ (z : Value) (fs : Array Field) (pl : Array (Nat × Nat)), zeroOk P t z ∧ P.underlying t = some (.struct fs) ∧ (∀ w, (fs.mapM fun f => Prod.mk f.offset <$> sizeOf f.type : Sem _).run P w = .ok pl w) ∧
    Instr.fill (pl[·]?) z.cells parts = some cells

def fieldsOf (P : Program) (t : TypeId) : Array Field := match P.underlying t with | some (.struct fs) => fs | _ => #[]

def evps (E : List (Nat × Value)) : List (Nat × Operand) → List (Nat × Value) → Prop
  | [], [] => True
  | (i, x) :: xs, (j, v) :: vs => i = j ∧ ev E x = some v ∧ evps E xs vs
  | _, _ => False

theorem Env.evalps {a : Act} (h : Env n ds E a) {xs : List (Nat × Operand)} {vs : List (Nat × Value)} (hx : evps E xs vs) : xs.map (fun p => (p.1, a.eval p.2)) = vs := by
  induction xs generalizing vs with
  | nil => cases vs with
    | nil => rfl
    | cons => exact hx.elim
  | cons x xs ih => cases vs with
    | nil => exact hx.elim
    | cons v vs =>
      obtain ⟨i, x⟩ := x
      obtain ⟨j, v⟩ := v
      obtain ⟨h1, h2, h3⟩ := hx
      subst h1
      rw [List.map_cons, ih h3, h.eval h2]

theorem do_build {parts : List (Nat × Operand)} {ps : List (Nat × Value)} {cells : Array Value} (hp : evps E parts ps) (hb : buildOk P t ps cells) :
    Do1 P B n ds ro ⟨dst, .build t parts.toArray, ty, pos, after, guard⟩ E L (.agg cells) L :=
  do_pure fun a w hE => by
    obtain ⟨z, fs, pl, hz, hu, hpl, hf⟩ := hb
    have he := hE.evalps hp
    simp only [execOp, Instr.build]
    simp [run_zero hz, run_und hu, hpl, he, hf]

/-! numbers, tests -/
variable {k : IntKind} {i j r : Int}

theorem do_arith {op : BinOp} {ty2 : TypeId} (f : Int → Int → Int) (hop : (op = .add ∧ f = fun a b => a + b) ∨ (op = .sub ∧ f = fun a b => a - b) ∨ (op = .mul ∧ f = fun a b => a * b))
    (hx : ev E x = some (.int k i)) (hy : ev E y = some (.int k j)) (hr : k.wrap (f i j) = r) :
    Do1 P B n ds ro ⟨dst, .binOp op t x y ty2, ty, pos, after, guard⟩ E L (.int k r) L := do_pure fun a w hE => by
  subst hr
  rcases hop with ⟨rfl, rfl⟩ | ⟨rfl, rfl⟩ | ⟨rfl, rfl⟩ <;> simp [execOp, eqGuard, binOp, hE.eval hx, hE.eval hy, Op.intArith]
theorem do_add {ty2 : TypeId} (hx : ev E x = some (.int k i)) (hy : ev E y = some (.int k j)) (hr : k.wrap (i + j) = r) :
    Do1 P B n ds ro ⟨dst, .binOp .add t x y ty2, ty, pos, after, guard⟩ E L (.int k r) L := do_arith _ (.inl ⟨rfl, rfl⟩) hx hy hr
theorem do_sub {ty2 : TypeId} (hx : ev E x = some (.int k i)) (hy : ev E y = some (.int k j)) (hr : k.wrap (i - j) = r) :
    Do1 P B n ds ro ⟨dst, .binOp .sub t x y ty2, ty, pos, after, guard⟩ E L (.int k r) L := do_arith _ (.inr (.inl ⟨rfl, rfl⟩)) hx hy hr
theorem do_mul {ty2 : TypeId} (hx : ev E x = some (.int k i)) (hy : ev E y = some (.int k j)) (hr : k.wrap (i * j) = r) :
    Do1 P B n ds ro ⟨dst, .binOp .mul t x y ty2, ty, pos, after, guard⟩ E L (.int k r) L := do_arith _ (.inr (.inr ⟨rfl, rfl⟩)) hx hy hr

def cmpB : BinOp → Int → Int → Option Bool
  | .eql, a, b => some (a == b)
  | .neq, a, b => some (a != b)
  | .lss, a, b => some (decide (a < b))
  | .leq, a, b => some (decide (a ≤ b))
  | .gtr, a, b => some (decide (a > b))
  | .geq, a, b => some (decide (a ≥ b))
  | _, _, _ => none

theorem do_cmp {op : BinOp} {ty2 : TypeId} {c : Bool} (hx : ev E x = some (.int k i)) (hy : ev E y = some (.int k j)) (hc : cmpB op i j = some c) :
    Do1 P B n ds ro ⟨dst, .binOp op t x y ty2, ty, pos, after, guard⟩ E L (.bool c) L := do_pure fun a w hE => by
  cases op <;> simp [cmpB] at hc <;> subst hc <;> simp [execOp, eqGuard, binOp, hE.eval hx, hE.eval hy, Op.intCmp, pure, Sem.run]

theorem do_not {c : Bool} (hx : ev E x = some (.bool c)) : Do1 P B n ds ro ⟨dst, .unOp .not t x, ty, pos, after, guard⟩ E L (.bool (!c)) L :=
  do_pure fun a w hE => by simp [execOp, hE.eval hx, Op.unary]

def strB : BinOp → List UInt8 → List UInt8 → Option Bool
  | .eql, a, b => some (a == b)
  | .neq, a, b => some (!(a == b))
  | .lss, a, b => some (Op.bytesLess a b)
  | .leq, a, b => some (Op.bytesLess a b || a == b)
  | .gtr, a, b => some (!(Op.bytesLess a b || a == b))
  | .geq, a, b => some (!Op.bytesLess a b)
  | _, _, _ => none

theorem do_strcmp {op : BinOp} {ty2 : TypeId} {c : Bool} {a1 b1 : ByteArray} (hx : ev E x = some (.string a1)) (hy : ev E y = some (.string b1)) (hc : strB op a1.toList b1.toList = some c) :
    Do1 P B n ds ro ⟨dst, .binOp op t x y ty2, ty, pos, after, guard⟩ E L (.bool c) L := do_pure fun a w hE => by
  cases op <;> simp only [strB, reduceCtorEq, Option.some.injEq] at hc <;> subst hc <;> simp [execOp, eqGuard, binOp, hE.eval hx, hE.eval hy, Op.stringOp, pure, Sem.run]

/-- Against nil: pointers, maps, slices, functions; and bools. -/
theorem run_equalIn_ptr {d : Nat} {e : TypeId} (hu : P.underlying t = some (.pointer e)) (a b : Option Addr) (h : a = none ∨ b = none) (w : World) :
    (Op.equalIn (d + 1) t (.pointer a) (.pointer b)).run P w = .ok (a.isNone && b.isNone) w := by
  rcases h with rfl | rfl
  · simp [Op.equalIn, run_und hu]
  · cases a <;> simp [Op.equalIn, run_und hu]
theorem run_equal_ptr {e : TypeId} (hu : P.underlying t = some (.pointer e)) (a b : Option Addr) (h : a = none ∨ b = none) (w : World) :
    (Op.equal t (.pointer a) (.pointer b)).run P w = .ok (a.isNone && b.isNone) w := run_equalIn_ptr (d := 9999) hu a b h w
theorem run_equalIn_map {d : Nat} {k1 e : TypeId} (hu : P.underlying t = some (.map k1 e)) (a : Option Nat) (w : World) :
    (Op.equalIn (d + 1) t (.map a) (.map none)).run P w = .ok a.isNone w := by
  cases a <;> simp [Op.equalIn, run_und hu]
theorem run_equal_map {k1 e : TypeId} (hu : P.underlying t = some (.map k1 e)) (a : Option Nat) (w : World) :
    (Op.equal t (.map a) (.map none)).run P w = .ok a.isNone w := run_equalIn_map (d := 9999) hu a w
theorem run_equalIn_slice {d : Nat} {e : TypeId} (hu : P.underlying t = some (.slice e)) (a : Option Addr) (l c l2 c2 : Nat) (w : World) :
    (Op.equalIn (d + 1) t (.slice a l c) (.slice none l2 c2)).run P w = .ok a.isNone w := by
  cases a <;> simp [Op.equalIn, run_und hu]
theorem run_equal_slice {e : TypeId} (hu : P.underlying t = some (.slice e)) (a : Option Addr) (l c l2 c2 : Nat) (w : World) :
    (Op.equal t (.slice a l c) (.slice none l2 c2)).run P w = .ok a.isNone w := run_equalIn_slice (d := 9999) hu a l c l2 c2 w
theorem run_equalIn_bool {d : Nat} (hu : P.underlying t = some .bool) (a b : Bool) (w : World) :
    (Op.equalIn (d + 1) t (.bool a) (.bool b)).run P w = .ok (a == b) w := by
  simp [Op.equalIn, run_und hu]
theorem run_equal_bool (hu : P.underlying t = some .bool) (a b : Bool) (w : World) :
    (Op.equal t (.bool a) (.bool b)).run P w = .ok (a == b) w := run_equalIn_bool (d := 9999) hu a b w

def isPtr (P : Program) (t : TypeId) : Bool := match P.underlying t with | some (.pointer _) => true | _ => false
def isMap (P : Program) (t : TypeId) : Bool := match P.underlying t with | some (.map _ _) => true | _ => false
def isSlice (P : Program) (t : TypeId) : Bool := match P.underlying t with | some (.slice _) => true | _ => false
def isBool (P : Program) (t : TypeId) : Bool := match P.underlying t with | some .bool => true | _ => false
def isStr (P : Program) (t : TypeId) : Bool := match P.underlying t with | some .string => true | _ => false

theorem isPtr_und (h : isPtr P t = true) : ∃ e, P.underlying t = some (.pointer e) := by unfold isPtr at h; split at h <;> first | exact ⟨_, ‹_›⟩ | cases h
theorem isMap_und (h : isMap P t = true) : ∃ k e, P.underlying t = some (.map k e) := by unfold isMap at h; split at h <;> first | exact ⟨_, _, ‹_›⟩ | cases h
theorem isSlice_und (h : isSlice P t = true) : ∃ e, P.underlying t = some (.slice e) := by unfold isSlice at h; split at h <;> first | exact ⟨_, ‹_›⟩ | cases h
theorem isBool_und (h : isBool P t = true) : P.underlying t = some .bool := by unfold isBool at h; split at h <;> first | assumption | cases h
theorem isStr_und (h : isStr P t = true) : P.underlying t = some .string := by unfold isStr at h; split at h <;> first | assumption | cases h

theorem do_eqPtr {ty2 : TypeId} {p q : Option Addr} (ht : isPtr P t = true) (hx : ev E x = some (.pointer p)) (hy : ev E y = some (.pointer q)) (h : p = none ∨ q = none) :
    Do1 P B n ds ro ⟨dst, .binOp .eql t x y ty2, ty, pos, after, guard⟩ E L (.bool (p.isNone && q.isNone)) L := do_pure fun a w hE => by
  obtain ⟨e, hu⟩ := isPtr_und ht
  simp [execOp, eqGuard, binOp, hE.eval hx, hE.eval hy, run_equal_ptr hu p q h]
theorem do_nePtr {ty2 : TypeId} {p q : Option Addr} (ht : isPtr P t = true) (hx : ev E x = some (.pointer p)) (hy : ev E y = some (.pointer q)) (h : p = none ∨ q = none) :
    Do1 P B n ds ro ⟨dst, .binOp .neq t x y ty2, ty, pos, after, guard⟩ E L (.bool (!(p.isNone && q.isNone))) L := do_pure fun a w hE => by
  obtain ⟨e, hu⟩ := isPtr_und ht
  simp [execOp, eqGuard, binOp, hE.eval hx, hE.eval hy, run_equal_ptr hu p q h]
theorem do_eqMap {ty2 : TypeId} {p : Option Nat} (ht : isMap P t = true) (hx : ev E x = some (.map p)) (hy : ev E y = some (.map none)) :
    Do1 P B n ds ro ⟨dst, .binOp .eql t x y ty2, ty, pos, after, guard⟩ E L (.bool p.isNone) L := do_pure fun a w hE => by
  obtain ⟨_, _, hu⟩ := isMap_und ht
  simp [execOp, eqGuard, binOp, hE.eval hx, hE.eval hy, run_equal_map hu p]
theorem do_eqSlice {ty2 : TypeId} {p : Option Addr} {l c l2 c2 : Nat} (ht : isSlice P t = true) (hx : ev E x = some (.slice p l c)) (hy : ev E y = some (.slice none l2 c2)) :
    Do1 P B n ds ro ⟨dst, .binOp .eql t x y ty2, ty, pos, after, guard⟩ E L (.bool p.isNone) L := do_pure fun a w hE => by
  obtain ⟨_, hu⟩ := isSlice_und ht
  simp [execOp, eqGuard, binOp, hE.eval hx, hE.eval hy, run_equal_slice hu p]
theorem do_neSlice {ty2 : TypeId} {p : Option Addr} {l c l2 c2 : Nat} (ht : isSlice P t = true) (hx : ev E x = some (.slice p l c)) (hy : ev E y = some (.slice none l2 c2)) :
    Do1 P B n ds ro ⟨dst, .binOp .neq t x y ty2, ty, pos, after, guard⟩ E L (.bool (!p.isNone)) L := do_pure fun a w hE => by
  obtain ⟨_, hu⟩ := isSlice_und ht
  simp [execOp, eqGuard, binOp, hE.eval hx, hE.eval hy, run_equal_slice hu p]
theorem do_eqBool {ty2 : TypeId} {p q : Bool} (ht : isBool P t = true) (hx : ev E x = some (.bool p)) (hy : ev E y = some (.bool q)) :
    Do1 P B n ds ro ⟨dst, .binOp .eql t x y ty2, ty, pos, after, guard⟩ E L (.bool (p == q)) L := do_pure fun a w hE => by
  simp [execOp, eqGuard, binOp, hE.eval hx, hE.eval hy, run_equal_bool (isBool_und ht) p q]
theorem do_neBool {ty2 : TypeId} {p q : Bool} (ht : isBool P t = true) (hx : ev E x = some (.bool p)) (hy : ev E y = some (.bool q)) :
    Do1 P B n ds ro ⟨dst, .binOp .neq t x y ty2, ty, pos, after, guard⟩ E L (.bool (!(p == q))) L := do_pure fun a w hE => by
  simp [execOp, eqGuard, binOp, hE.eval hx, hE.eval hy, run_equal_bool (isBool_und ht) p q]

section cmp
variable {a b : Int}
theorem cmp_eql_t (h : cmpB .eql a b = some true) : a = b := by simpa [cmpB] using h
theorem cmp_eql_f (h : cmpB .eql a b = some false) : ¬ a = b := by simpa [cmpB] using h
theorem cmp_neq_t (h : cmpB .neq a b = some true) : ¬ a = b := by simpa [cmpB] using h
theorem cmp_neq_f (h : cmpB .neq a b = some false) : a = b := by simpa [cmpB] using h
theorem cmp_lss_t (h : cmpB .lss a b = some true) : a < b := by simpa [cmpB] using h
theorem cmp_lss_f (h : cmpB .lss a b = some false) : b ≤ a := by simpa [cmpB] using h
theorem cmp_leq_t (h : cmpB .leq a b = some true) : a ≤ b := by simpa [cmpB] using h
theorem cmp_leq_f (h : cmpB .leq a b = some false) : b < a := by simpa [cmpB] using h
theorem cmp_gtr_t (h : cmpB .gtr a b = some true) : b < a := by simpa [cmpB] using h
theorem cmp_gtr_f (h : cmpB .gtr a b = some false) : a ≤ b := by simpa [cmpB] using h
theorem cmp_geq_t (h : cmpB .geq a b = some true) : b ≤ a := by simpa [cmpB] using h
theorem cmp_geq_f (h : cmpB .geq a b = some false) : a < b := by simpa [cmpB] using h
theorem toList_inj {a b : ByteArray} (h : a.toList = b.toList) : a = b := by
  have h1 : a.data.toList = b.data.toList := by simpa [ByteArray.toList_eq] using h
  cases a; cases b; congr 1; exact Array.toList_inj.1 h1
variable {s u : ByteArray}
theorem str_eql_t (h : strB .eql s.toList u.toList = some true) : s = u := by simp [strB] at h; exact toList_inj h
theorem str_eql_f (h : strB .eql s.toList u.toList = some false) : ¬ s = u := by rintro rfl; simp [strB] at h
theorem str_neq_t (h : strB .neq s.toList u.toList = some true) : ¬ s = u := by rintro rfl; simp [strB] at h
theorem str_neq_f (h : strB .neq s.toList u.toList = some false) : s = u := by simp [strB] at h; exact toList_inj h
theorem wrap_i64 {x : Int} (h1 : -9223372036854775808 ≤ x) (h2 : x ≤ 9223372036854775807) : IntKind.i64.wrap x = x := IntWalk.i64_in _ ⟨h1, h2⟩
theorem wrap_nat {k k' : Nat} {m : Int} (h0 : (k' : Int) = (k : Int) + m) (h2 : k' ≤ 9223372036854775807) : IntKind.i64.wrap ((k : Int) + m) = (k' : Int) := by
  rw [wrap_i64 (by omega) (by omega)]; omega
end cmp

/-- A type that is no interface. -/
def isConc (P : Program) (t : TypeId) : Bool := match P.underlying t with | some (.interface _) | none => false | _ => true
theorem do_makeIface (ht : isConc P t = true) (hx : ev E x = some v) : Do1 P B n ds ro ⟨dst, .makeInterface t x, ty, pos, after, guard⟩ E L (.iface t v) L := do_pure fun a w hE => by
  unfold isConc at ht
  cases hu : P.underlying t with
  | none => rw [hu] at ht; cases ht
  | some d => cases d <;> rw [hu] at ht <;> first | (cases ht; done) | simp [execOp, Instr.makeInterface, run_und hu, hE.eval hx]

/-! builtins that look -/
theorem do_lenStr {ts : Array TypeId} {b1 : ByteArray} {t1 : TypeId} (ht : ts[0]? = some t1) (hs : isStr P t1 = true) (hx : ev E x = some (.string b1)) :
    Do1 P B n ds ro ⟨dst, .call { callee := .builtin .len, args := #[x], argTypes := ts }, ty, pos, after, guard⟩ E L (.int .i64 b1.size) L := do_pure fun a w hE => by
  simp [execOp, resolve, invoke, builtin, Builtin.len_, hE.eval hx, ht, run_und (isStr_und hs), goInt]
theorem do_lenSlice {ts : Array TypeId} {p : Option Addr} {l c : Nat} {t1 : TypeId} (ht : ts[0]? = some t1) (hs : isSlice P t1 = true) (hx : ev E x = some (.slice p l c)) :
    Do1 P B n ds ro ⟨dst, .call { callee := .builtin .len, args := #[x], argTypes := ts }, ty, pos, after, guard⟩ E L (.int .i64 l) L := do_pure fun a w hE => by
  obtain ⟨_, hu⟩ := isSlice_und hs
  simp [execOp, resolve, invoke, builtin, Builtin.len_, hE.eval hx, ht, run_und hu, goInt]
theorem do_lenMap {ts : Array TypeId} {b clock : Nat} {es : Array MapEntry} {t1 : TypeId} (ht : ts[0]? = some t1) (hs : isMap P t1 = true) (i : Nat) (hx : ev E x = some (.map (some b))) (hL : nth L i = some (pt b (.map es clock))) :
    Do1 P B n ds ro ⟨dst, .call { callee := .builtin .len, args := #[x], argTypes := ts }, ty, pos, after, guard⟩ E L (.int .i64 es.size) L := do_ok fun a w hE hS => by
  obtain ⟨_, _, hu⟩ := isMap_und hs
  have hb := (hS.get hL).1
  refine ⟨w, ?_, hS⟩
  simp [execOp, resolve, invoke, builtin, Builtin.len_, hE.eval hx, ht, run_und hu, goInt, getObj, Sem.run, hb]

theorem do_max {ts : Array TypeId} (hx : ev E x = some (.int k i)) (hy : ev E y = some (.int k j)) :
    Do1 P B n ds ro ⟨dst, .call { callee := .builtin .max, args := #[x, y], argTypes := ts }, ty, pos, after, guard⟩ E L (.int k (max i j)) L := do_pure fun a w hE => by
  have h : Builtin.max2 (.int k i) (.int k j) = pure (.int k (max i j)) := by
    simp only [Builtin.max2, gt_iff_lt]; congr 2; split <;> omega
  simp [execOp, resolve, invoke, builtin, Builtin.max_, hE.eval hx, hE.eval hy, h]
theorem do_min {ts : Array TypeId} (hx : ev E x = some (.int k i)) (hy : ev E y = some (.int k j)) :
    Do1 P B n ds ro ⟨dst, .call { callee := .builtin .min, args := #[x, y], argTypes := ts }, ty, pos, after, guard⟩ E L (.int k (min i j)) L := do_pure fun a w hE => by
  have h : Builtin.min2 (.int k i) (.int k j) = pure (.int k (min i j)) := by
    simp only [Builtin.min2]; congr 2; split <;> omega
  simp [execOp, resolve, invoke, builtin, Builtin.min_, hE.eval hx, hE.eval hy, h]

/-! calls -/
def Enters (P : Program) (f : FuncId) : Prop := ∀ args w, (callFunc f args).run P w = .ok (.enter f args) w

theorem enters_of {f : FuncId} {fn : Func} (hf : P.funcs[f]? = some fn) (hn : (fn.name == "runtime.NumGoroutine") = false) (hb : fn.body.isNone = false) : Enters P f := by
  intro args w
  have hn' : ¬ fn.name = "runtime.NumGoroutine" := by simpa using hn
  have hb' : ¬ fn.body = none := by intro h; rw [h] at hb; cases hb
  simp [callFunc, program, Sem.run, bind, Sem.bind, hf, hn', hb', pure]

theorem do_calls {vs : Array Value} {f : FuncId} {pre R : List Assn} {post : Value → List Assn → Prop} {c : Call}
    (hrun : ∀ a w, Env n ds E a → (execOp a.eval ⟨dst, .call c, ty, pos, after, guard⟩).run P w = .ok (.enter f vs) w)
    (hT : Tri P B f vs pre post) (is js : List Nat) (hp : picks L is pre) (hr : picks L js R) (hn : (is ++ js).Nodup) :
    Do P B n ds ro ⟨dst, .call c, ty, pos, after, guard⟩ E L fun v M => ∃ M0, post v M0 ∧ M = M0 ++ R := by
  intro a w hE hS K Q k
  refine ⟨fun _ _ => trivial, ?_⟩
  rw [Oper.semAt_eq _ _ _ (by intro c h; cases h), hrun a w hE, Oper.uponIn_enter]
  refine ⟨fun h => Bool.noConfusion h, calls_fz ?_⟩
  have hpr : ∀ {is : List Nat} {A : List Assn}, picks L is A → ∀ {js : List Nat} {A' : List Assn}, picks L js A' → picks L (is ++ js) (A ++ A') := by
    intro is
    induction is with
    | nil => intro A h js A' h'; cases A with
      | nil => exact h'
      | cons => exact h.elim
    | cons i is ih => intro A h js A' h'; cases A with
      | nil => exact h.elim
      | cons A0 A => exact ⟨h.1, ih h.2 h'⟩
  have h1 := star_join (hS.pick (is ++ js) (hpr hp hr) hn)
  refine Calls.mono (hT (Star R) w h1) ?_
  rintro e w' ⟨v, M0, rfl, hpost, hS'⟩
  exact k v _ w' ⟨M0, hpost, rfl⟩ (star_split hS')

theorem do_call {f : FuncId} {xs : List Operand} {vs : List Value} {pre R : List Assn} {post : Value → List Assn → Prop} {ts : Array TypeId}
    (hT : Tri P B f vs.toArray pre post) (hx : evs E xs vs) (hen : Enters P f) (is js : List Nat) (hp : picks L is pre) (hr : picks L js R) (hn : (is ++ js).Nodup) :
    Do P B n ds ro ⟨dst, .call { callee := .value (.func f), args := xs.toArray, argTypes := ts }, ty, pos, after, guard⟩ E L fun v M => ∃ M0, post v M0 ∧ M = M0 ++ R :=
  do_calls (fun a w hE => by
    have := hE.evals hx
    simp [execOp, resolve, Act.eval, Deferred.ofValue, invoke, this, hen _ w]) hT is js hp hr hn

/-- The call of a function value. -/
theorem do_callv {as : Array Value} {f : FuncId} {xs : List Operand} {vs : List Value} {fi ca : Array Value} {pre R : List Assn} {post : Value → List Assn → Prop} {ts : Array TypeId} {g : Operand}
    (hg : ev E g = some (.func (.func f) fi ca)) (hT : Tri P B f as pre post) (has : as = fi ++ vs.toArray ++ ca) (hx : evs E xs vs) (hen : Enters P f) (is js : List Nat) (hp : picks L is pre) (hr : picks L js R) (hn : (is ++ js).Nodup) :
    Do P B n ds ro ⟨dst, .call { callee := .value g, args := xs.toArray, argTypes := ts }, ty, pos, after, guard⟩ E L fun v M => ∃ M0, post v M0 ∧ M = M0 ++ R :=
  do_calls (vs := as) (fun a w hE => by
    subst has
    have := hE.evals hx
    simp [execOp, resolve, hE.eval hg, Deferred.ofValue, invoke, this, hen _ w]) hT is js hp hr hn
end
end Go.Proofs.Ytmefejfnddcelaa
