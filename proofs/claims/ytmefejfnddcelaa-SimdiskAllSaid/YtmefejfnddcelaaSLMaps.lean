/- Maps with whole numbers or texts as keys: a map as a list of keys and values, in the order in which they came. -/
import Derived.Test.YtmefejfnddcelaaSLRows
import Derived.Maps.RangeRun
namespace Go.Proofs.Ytmefejfnddcelaa

theorem bytes_beq_dec (a b : ByteArray) : (a == b) = decide (a = b) := by
  cases a with | mk x => cases b with | mk y =>
  show (x == y) = _
  by_cases h : x = y
  · subst h; simp
  · have : ¬ (ByteArray.mk x = ByteArray.mk y) := by intro e; cases e; exact h rfl
    simp [h]

section pure
variable {α β : Type} [DecidableEq α]

def aget (l : List (α × β)) (k : α) : Option β :=
  match l with
  | [] => none
  | (a, x) :: l => if a = k then some x else aget l k

def aput (l : List (α × β)) (k : α) (v : β) : List (α × β) :=
  match l with
  | [] => [(k, v)]
  | (a, x) :: l => if a = k then (k, v) :: l else (a, x) :: aput l k v

def adel (l : List (α × β)) (k : α) : List (α × β) :=
  match l with
  | [] => []
  | (a, x) :: l => if a = k then l else (a, x) :: adel l k

def akeys (l : List (α × β)) : List α := l.map (·.1)

theorem aget_none (l : List (α × β)) (k : α) : aget l k = none ↔ k ∉ akeys l := by
  induction l with
  | nil => simp [aget, akeys]
  | cons p l ih =>
    obtain ⟨a, x⟩ := p
    unfold aget
    by_cases h : a = k
    · simp [h, akeys]
    · rw [if_neg h, ih]
      simp [akeys, Ne.symm h]

theorem aget_some (l : List (α × β)) (k : α) (h : k ∈ akeys l) : ∃ v, aget l k = some v := by
  cases hg : aget l k with
  | none => exact absurd h ((aget_none l k).1 hg)
  | some v => exact ⟨v, rfl⟩

theorem aget_mem {l : List (α × β)} {k : α} {v : β} (h : aget l k = some v) : (k, v) ∈ l := by
  induction l with
  | nil => simp [aget] at h
  | cons p l ih =>
    obtain ⟨a, x⟩ := p
    unfold aget at h
    by_cases e : a = k
    · rw [if_pos e] at h; simp at h; subst h; subst e; exact List.mem_cons_self
    · rw [if_neg e] at h; exact List.mem_cons_of_mem _ (ih h)

theorem mem_keys {α β : Type} {l : List (α × β)} {k : α} {v : β} (h : (k, v) ∈ l) : k ∈ akeys l := List.mem_map.2 ⟨_, h, rfl⟩

theorem aget_of_mem {l : List (α × β)} (hn : (akeys l).Nodup) {k : α} {v : β} (h : (k, v) ∈ l) : aget l k = some v := by
  induction l with
  | nil => cases h
  | cons p l ih =>
    obtain ⟨a, x⟩ := p
    have hn' := List.nodup_cons.1 (show (a :: akeys l).Nodup from hn)
    unfold aget
    rcases List.mem_cons.1 h with h | h
    · cases h; rw [if_pos rfl]
    · have : a ≠ k := fun e => hn'.1 (e ▸ mem_keys h)
      rw [if_neg this]; exact ih hn'.2 h

theorem keys_aput (l : List (α × β)) (k : α) (v : β) : akeys (aput l k v) = if k ∈ akeys l then akeys l else akeys l ++ [k] := by
  induction l with
  | nil => simp [aput, akeys]
  | cons p l ih =>
    obtain ⟨a, x⟩ := p
    unfold aput
    by_cases h : a = k
    · rw [if_pos h, if_pos (by simp [akeys, h])]; simp [akeys, h]
    · rw [if_neg h]
      show a :: akeys (aput l k v) = _
      rw [ih]
      show _ = if k ∈ a :: akeys l then a :: akeys l else (a :: akeys l) ++ [k]
      by_cases hk : k ∈ akeys l
      · rw [if_pos hk, if_pos (List.mem_cons_of_mem _ hk)]
      · rw [if_neg hk, if_neg (fun hh => by rcases List.mem_cons.1 hh with hh | hh; exact h hh.symm; exact hk hh)]; rfl

theorem nodup_aput {l : List (α × β)} (h : (akeys l).Nodup) (k : α) (v : β) : (akeys (aput l k v)).Nodup := by
  rw [keys_aput]
  split
  · exact h
  · rename_i hk
    exact List.nodup_append.2 ⟨h, by simp, fun a ha b hb => by simp at hb; subst hb; exact fun e => hk (e ▸ ha)⟩

theorem keys_adel {l : List (α × β)} (h : (akeys l).Nodup) (k : α) : akeys (adel l k) = (akeys l).filter (· ≠ k) := by
  induction l with
  | nil => simp [adel, akeys]
  | cons p l ih =>
    obtain ⟨a, x⟩ := p
    have hn := List.nodup_cons.1 (show (a :: akeys l).Nodup from h)
    unfold adel
    by_cases e : a = k
    · subst e
      rw [if_pos rfl]
      show akeys l = (a :: akeys l).filter _
      rw [List.filter_cons_of_neg (by simp)]
      exact (List.filter_eq_self.2 fun y hy => by simpa using fun (e : y = a) => hn.1 (e ▸ hy)).symm
    · rw [if_neg e]
      show a :: akeys (adel l k) = (a :: akeys l).filter _
      rw [ih hn.2, List.filter_cons_of_pos (by simpa using e)]

theorem nodup_adel {l : List (α × β)} (h : (akeys l).Nodup) (k : α) : (akeys (adel l k)).Nodup := by
  rw [keys_adel h]; exact h.filter _

theorem aget_aput (l : List (α × β)) (k j : α) (v : β) : aget (aput l k v) j = if j = k then some v else aget l j := by
  induction l with
  | nil => simp only [aput, aget]; by_cases h : k = j <;> simp [h, eq_comm]
  | cons p l ih =>
    obtain ⟨a, x⟩ := p
    unfold aput
    by_cases h : a = k
    · subst h
      rw [if_pos rfl]
      simp only [aget]
      by_cases e : a = j
      · simp [e]
      · rw [if_neg e, if_neg e, if_neg (Ne.symm e)]
    · rw [if_neg h]
      simp only [aget]
      rw [ih]
      by_cases e : a = j
      · subst e; simp [h]
      · simp [e]

theorem aget_adel {l : List (α × β)} (h : (akeys l).Nodup) (k j : α) : aget (adel l k) j = if j = k then none else aget l j := by
  induction l with
  | nil => simp [adel, aget]
  | cons p l ih =>
    obtain ⟨a, x⟩ := p
    have hn := List.nodup_cons.1 (show (a :: akeys l).Nodup from h)
    unfold adel
    by_cases e : a = k
    · subst e
      rw [if_pos rfl]
      by_cases ej : j = a
      · rw [if_pos ej, ej]; exact (aget_none _ _).2 hn.1
      · rw [if_neg ej]; simp only [aget]; rw [if_neg (Ne.symm ej)]
    · rw [if_neg e]
      simp only [aget]
      rw [ih hn.2]
      by_cases ej : a = j
      · subst ej; simp [e]
      · simp [ej]
end pure

/-- Keys of one kind: how they are told apart. -/
structure KeyOk (P : Program) (kt : TypeId) {α : Type} [DecidableEq α] (enc : α → Value) : Prop where
  same : ∃ d, P.underlying kt = some d ∧ ∀ a b, Instr.sameNow d (enc a) (enc b) = some (decide (a = b))
  check : ∀ (e : Bool) (a : α) (w : World), (Instr.checkKey e 10000 kt (enc a)).run P w = .ok () w
  bits : ∀ a, Instr.sameBits 10000 (enc a) (enc a) = true

def encS : ByteArray → Value := .string
def encI : Int → Value := .int .i64

theorem run_checkKey_plain {P : Program} {kt : TypeId} {d : TypeDesc} (hu : P.underlying kt = some d) (hd : (match d with | .interface _ | .array _ _ | .struct _ => false | _ => true) = true) (n : Nat) (e : Bool) (v : Value) (w : World) :
    (Instr.checkKey e (n + 1) kt v).run P w = .ok () w := by
  cases d <;> first | (cases hd; done) | (simp [Instr.checkKey, run_und hu]; done)

theorem keyS {P : Program} {kt : TypeId} (hu : P.underlying kt = some .string) : KeyOk P kt encS :=
  ⟨⟨_, hu, fun a b => by
      simp only [encS, Instr.sameNow, bytes_beq_dec]⟩,
    fun e a w => run_checkKey_plain hu rfl 9999 e _ w, fun a => by
      show (a == a) = true
      rw [bytes_beq_dec]; simp⟩
theorem keyI {P : Program} {kt : TypeId} {k : IntKind} (hu : P.underlying kt = some (.int k)) : KeyOk P kt encI :=
  ⟨⟨_, hu, fun a b => by
      simp only [encI, Instr.sameNow, if_true]
      congr 1⟩,
    fun e a w => run_checkKey_plain hu rfl 9999 e _ w, fun a => by
      simp [encI, Instr.sameBits]⟩

def kv {α : Type} (enc : α → Value) (es : List MapEntry) (l : List (α × Value)) : Prop := es.map (fun e => (e.key, e.val)) = l.map (fun p => (enc p.1, p.2))

def bornOk (es : List MapEntry) (clock : Nat) : Prop := (es.map (·.born)).Pairwise (· < ·) ∧ ∀ e ∈ es, e.born < clock

/-- Block r is a map with these keys and values. -/
def mapA {α : Type} (enc : α → Value) (r : Nat) (l : List (α × Value)) : Assn := fun h =>
  ∃ es clock, h r = some (.map es clock) ∧ kv enc es.toList l ∧ bornOk es.toList clock ∧ (akeys l).Nodup

section
variable {P : Program} {B : Ctx} {n : Nat} {ds : List Deferred} {ro : Option Nat} {E : List (Nat × Value)} {L M : List Assn} {o : Oper}
variable {dst : Option Tmp} {ty : TypeId} {pos : String} {after : Array Edge} {guard : Option (Nat × Bool)} {x y z : Operand} {v u : Value} {t s e kt : TypeId}
variable {α : Type} [DecidableEq α] {enc : α → Value} {r : Nat} {l : List (α × Value)}

theorem Sat.at_ {L1 L2 : List Assn} {A : Assn} {w : World} (h : Sat B (L1 ++ A :: L2) w) : ∃ S : Nat → Prop, (∀ k, S k → B.n ≤ k) ∧ A (part S w) := by
  obtain ⟨_, own, ho⟩ := h
  exact ⟨_, fun k hk => hk.2, ho L1.length A (by simp)⟩

theorem Sat.nth {A : Assn} {i : Nat} {w : World} (h : Sat B L w) (hi : nth L i = some A) : ∃ S : Nat → Prop, (∀ k, S k → B.n ≤ k) ∧ A (part S w) := by
  rw [nth_eq] at hi
  obtain ⟨_, own, ho⟩ := h
  exact ⟨_, fun k hk => hk.2, ho i A hi⟩

theorem mapA_empty {α : Type} {enc : α → Value} (h : Hp) (hp : pt r (.map #[] 0) h) : mapA enc r ([] : List (α × Value)) h := ⟨#[], 0, hp, rfl, ⟨.nil, by simp⟩, .nil⟩

/-- Where a key stands. -/
theorem find_now (d : TypeDesc) (hd : ∀ a b, Instr.sameNow d (enc a) (enc b) = some (decide (a = b))) (k : α) : ∀ (es : List MapEntry) (l : List (α × Value)) (i : Nat), kv enc es l →
    (aget l k = none ∧ Instr.findNow d (enc k) es i = some none) ∨
    ∃ j v, aget l k = some v ∧ Instr.findNow d (enc k) es i = some (some (i + j, v)) ∧ (∃ e, es[j]? = some e ∧ e.key = enc k ∧ e.val = v) ∧
      (∀ v', kv enc (es.modify j fun e => { e with key := enc k, val := v' }) (aput l k v')) ∧ kv enc (es.eraseIdx j) (adel l k) ∧ adel l k = l.eraseIdx j := by
  intro es
  induction es with
  | nil => intro l i h; cases l with
    | nil => exact .inl ⟨rfl, rfl⟩
    | cons => simp [kv] at h
  | cons e es ih => intro l i h; cases l with
    | nil => simp [kv] at h
    | cons p l =>
      obtain ⟨a, x⟩ := p
      simp only [kv, List.map_cons, List.cons.injEq, Prod.mk.injEq] at h
      obtain ⟨⟨hk, hv⟩, hrest⟩ := h
      by_cases e1 : k = a
      · subst e1
        refine .inr ⟨0, x, by simp [aget], ?_, ⟨e, rfl, hk, hv⟩, fun v' => ?_, ?_, by simp [adel]⟩
        · simp [Instr.findNow, hk, hd, hv]
        · simp [kv, List.modify, aput, hrest]
        · simp [adel]; exact hrest
      · have e2 : ¬ a = k := fun h => e1 h.symm
        have hf : Instr.findNow d (enc k) (e :: es) i = Instr.findNow d (enc k) es (i + 1) := by
          simp [Instr.findNow, hk, hd, e1]
        rcases ih l (i + 1) hrest with ⟨h1, h2⟩ | ⟨j, v, h1, h2, ⟨e', h3, h4, h5⟩, h6, h7, h8⟩
        · exact .inl ⟨by simp [aget, e2, h1], by rw [hf, h2]⟩
        · refine .inr ⟨j + 1, v, by simp [aget, e2, h1], by rw [hf, h2]; congr 3; omega, ⟨e', by simpa using h3, h4, h5⟩, fun v' => ?_, ?_, by simp [adel, e2, h8]⟩
          · have := h6 v'
            simp only [kv, List.modify_succ_cons, List.map_cons, aput, if_neg e2, hk, hv] at this ⊢
            rw [this]
          · simp only [kv, List.eraseIdx_cons_succ, adel, if_neg e2, List.map_cons, hk, hv] at h7 ⊢
            rw [h7]

theorem findKey_run (hk : KeyOk P kt enc) (k : α) (es : List MapEntry) (l : List (α × Value)) (h : kv enc es l) (w : World) :
    (aget l k = none ∧ (Instr.findKey kt (enc k) es).run P w = .ok none w) ∨
    ∃ j v, aget l k = some v ∧ (Instr.findKey kt (enc k) es).run P w = .ok (some (j, v)) w ∧ (∃ e, es[j]? = some e ∧ e.key = enc k ∧ e.val = v) ∧
      (∀ v', kv enc (es.modify j fun e => { e with key := enc k, val := v' }) (aput l k v')) ∧ kv enc (es.eraseIdx j) (adel l k) ∧ adel l k = l.eraseIdx j := by
  obtain ⟨d, hu, hd⟩ := hk.same
  rcases find_now d hd k es l 0 h with ⟨h1, h2⟩ | ⟨j, v, h1, h2, h3⟩
  · exact .inl ⟨h1, by simp [Instr.findKey, run_und hu, h2]⟩
  · exact .inr ⟨j, v, h1, by simp [Instr.findKey, run_und hu, h2], h3⟩

/-- v, ok := m[k] -/
theorem do_lookup2 {k : α} (hu : P.underlying t = some (.map kt e)) (hk : KeyOk P kt enc) (hz : zeroOk P e u) (i : Nat) (hx : ev E x = some (.map (some r))) (hy : ev E y = some (enc k)) (hL : nth L i = some (mapA enc r l)) :
    Do1 P B n ds ro ⟨dst, .lookup t x y true, ty, pos, after, guard⟩ E L (.tuple #[(aget l k).getD u, .bool (aget l k).isSome]) L :=
  do_ok fun a w hE hS => ⟨w, by
    obtain ⟨S, _, es, clock, hb, hkv, _⟩ := hS.nth hL
    have hb := (part_some hb).2
    rcases findKey_run (P := P) hk k es.toList l hkv w with ⟨h1, h2⟩ | ⟨j, v, h1, h2, _⟩
    · simp [execOp, Instr.lookup, hE.eval hx, hE.eval hy, run_und hu, getObj, Sem.run, hb, hk.check, h2, h1, run_zero hz]
    · simp [execOp, Instr.lookup, hE.eval hx, hE.eval hy, run_und hu, getObj, Sem.run, hb, hk.check, h2, h1], hS⟩

/-- m[k] -/
theorem do_lookup1 {k : α} (hu : P.underlying t = some (.map kt e)) (hk : KeyOk P kt enc) (hz : zeroOk P e u) (i : Nat) (hx : ev E x = some (.map (some r))) (hy : ev E y = some (enc k)) (hL : nth L i = some (mapA enc r l)) :
    Do1 P B n ds ro ⟨dst, .lookup t x y false, ty, pos, after, guard⟩ E L ((aget l k).getD u) L :=
  do_ok fun a w hE hS => ⟨w, by
    obtain ⟨S, _, es, clock, hb, hkv, _⟩ := hS.nth hL
    have hb := (part_some hb).2
    rcases findKey_run (P := P) hk k es.toList l hkv w with ⟨h1, h2⟩ | ⟨j, v, h1, h2, _⟩
    · simp [execOp, Instr.lookup, hE.eval hx, hE.eval hy, run_und hu, getObj, Sem.run, hb, hk.check, h2, h1, run_zero hz]
    · simp [execOp, Instr.lookup, hE.eval hx, hE.eval hy, run_und hu, getObj, Sem.run, hb, hk.check, h2, h1], hS⟩

theorem do_lookup2S {k : α} (hu : P.underlying t = some (.map kt e)) (hk : KeyOk P kt enc) (hz : zeroOk P e u) (i : Nat) (hx : ev E x = some (.map (some r))) (hy : ev E y = some (enc k)) (hL : nth L i = some (mapA enc r l))
    (hg : aget l k = some v) : Do1 P B n ds ro ⟨dst, .lookup t x y true, ty, pos, after, guard⟩ E L (.tuple #[v, .bool true]) L := by
  have := do_lookup2 (dst := dst) (ty := ty) (pos := pos) (after := after) (guard := guard) (ro := ro) (ds := ds) (n := n) (B := B) hu hk hz i hx hy hL
  rw [hg] at this; exact this
theorem do_lookup2N {k : α} (hu : P.underlying t = some (.map kt e)) (hk : KeyOk P kt enc) (hz : zeroOk P e u) (i : Nat) (hx : ev E x = some (.map (some r))) (hy : ev E y = some (enc k)) (hL : nth L i = some (mapA enc r l))
    (hg : aget l k = none) : Do1 P B n ds ro ⟨dst, .lookup t x y true, ty, pos, after, guard⟩ E L (.tuple #[u, .bool false]) L := by
  have := do_lookup2 (dst := dst) (ty := ty) (pos := pos) (after := after) (guard := guard) (ro := ro) (ds := ds) (n := n) (B := B) hu hk hz i hx hy hL
  rw [hg] at this; exact this
theorem do_lookup1S {k : α} (hu : P.underlying t = some (.map kt e)) (hk : KeyOk P kt enc) (hz : zeroOk P e u) (i : Nat) (hx : ev E x = some (.map (some r))) (hy : ev E y = some (enc k)) (hL : nth L i = some (mapA enc r l))
    (hg : aget l k = some v) : Do1 P B n ds ro ⟨dst, .lookup t x y false, ty, pos, after, guard⟩ E L v L := by
  have := do_lookup1 (dst := dst) (ty := ty) (pos := pos) (after := after) (guard := guard) (ro := ro) (ds := ds) (n := n) (B := B) hu hk hz i hx hy hL
  rw [hg] at this; exact this
theorem do_lookup1N {k : α} (hu : P.underlying t = some (.map kt e)) (hk : KeyOk P kt enc) (hz : zeroOk P e u) (i : Nat) (hx : ev E x = some (.map (some r))) (hy : ev E y = some (enc k)) (hL : nth L i = some (mapA enc r l))
    (hg : aget l k = none) : Do1 P B n ds ro ⟨dst, .lookup t x y false, ty, pos, after, guard⟩ E L u L := by
  have := do_lookup1 (dst := dst) (ty := ty) (pos := pos) (after := after) (guard := guard) (ro := ro) (ds := ds) (n := n) (B := B) hu hk hz i hx hy hL
  rw [hg] at this; exact this

theorem do_lookupNil1 {k : α} (hu : P.underlying t = some (.map kt e)) (hk : KeyOk P kt enc) (hz : zeroOk P e u) (hx : ev E x = some (.map none)) (hy : ev E y = some (enc k)) :
    Do1 P B n ds ro ⟨dst, .lookup t x y false, ty, pos, after, guard⟩ E L u L := do_pure fun a w hE => by
  obtain ⟨d, hu2, _⟩ := hk.same
  simp [execOp, Instr.lookup, hE.eval hx, hE.eval hy, run_und hu, hk.check, Instr.findKey, run_und hu2, Instr.findNow, run_zero hz]
theorem do_lookupNil2 {k : α} (hu : P.underlying t = some (.map kt e)) (hk : KeyOk P kt enc) (hz : zeroOk P e u) (hx : ev E x = some (.map none)) (hy : ev E y = some (enc k)) :
    Do1 P B n ds ro ⟨dst, .lookup t x y true, ty, pos, after, guard⟩ E L (.tuple #[u, .bool false]) L := do_pure fun a w hE => by
  obtain ⟨d, hu2, _⟩ := hk.same
  simp [execOp, Instr.lookup, hE.eval hx, hE.eval hy, run_und hu, hk.check, Instr.findKey, run_und hu2, Instr.findNow, run_zero hz]

theorem born_modify {es : List MapEntry} {c j : Nat} {k v : Value} (h : bornOk es c) : bornOk (es.modify j fun e => { e with key := k, val := v }) c := by
  have hm : ∀ (es : List MapEntry) (j : Nat), (es.modify j fun e => { e with key := k, val := v }).map (·.born) = es.map (·.born) := by
    intro es
    induction es with
    | nil => intro j; simp
    | cons e es ih => intro j; cases j with
      | zero => simp
      | succ j => simpa using ih j
  refine ⟨by rw [hm]; exact h.1, fun e he => ?_⟩
  have : e.born ∈ (es.modify j fun e => { e with key := k, val := v }).map (·.born) := List.mem_map.2 ⟨e, he, rfl⟩
  rw [hm] at this
  obtain ⟨e', he', hb⟩ := List.mem_map.1 this
  rw [← hb]; exact h.2 e' he'

theorem born_push {es : List MapEntry} {c : Nat} {k v : Value} (h : bornOk es c) : bornOk (es ++ [{ key := k, val := v, born := c }]) (c + 1) := by
  refine ⟨?_, ?_⟩
  · rw [List.map_append, List.pairwise_append]
    exact ⟨h.1, by simp, fun a ha b hb => by
      obtain ⟨e, he, rfl⟩ := List.mem_map.1 ha
      simp at hb; subst hb; exact h.2 e he⟩
  · intro e he
    rcases List.mem_append.1 he with he | he
    · have := h.2 e he; omega
    · simp at he; subst he; simp

theorem born_erase {es : List MapEntry} {c j : Nat} (h : bornOk es c) : bornOk (es.eraseIdx j) c :=
  ⟨h.1.sublist ((List.eraseIdx_sublist _ _).map _), fun e he => h.2 e (List.mem_of_mem_eraseIdx he)⟩

/-- A write to the map's block. -/
theorem Sat.setMap {α : Type} {enc : α → Value} {l : List (α × Value)} {L1 L2 : List Assn} {w : World} {l' : List (α × Value)} {es' : Array MapEntry} {clock' : Nat} (h : Sat B (L1 ++ mapA enc r l :: L2) w)
    (h1 : kv enc es'.toList l') (h2 : bornOk es'.toList clock') (h3 : (akeys l').Nodup) : Sat B (L1 ++ mapA enc r l' :: L2) { w with heap := w.heap.setIfInBounds r (.map es' clock') } := by
  refine h.upd ⟨rfl, rfl, rfl, by simp⟩ fun S _ hA => ?_
  obtain ⟨es, clock, hb, _⟩ := hA
  have hb := part_some hb
  have hlt := (Array.getElem?_eq_some_iff.1 hb.2).1
  refine ⟨fun k _ hk => by simp [Array.getElem?_setIfInBounds_ne (fun e : r = k => hk (e ▸ hb.1))], es', clock', ?_, h1, h2, h3⟩
  rw [part_of (.inl hb.1)]
  simp [hlt]

theorem modify_key {es : Array MapEntry} {j : Nat} {e' : MapEntry} {k : Value} (h : es.toList[j]? = some e') (hk : e'.key = k) :
    ((es[j]?).map (·.key)).getD k = k := by
  have : es[j]? = some e' := by simpa using h
  simp [this, hk]

/-- m[k] = v -/
theorem do_mapUpdate {L1 L2 : List Assn} {k : α} (hu : P.underlying t = some (.map kt e)) (hk : KeyOk P kt enc) (hx : ev E x = some (.map (some r))) (hy : ev E y = some (enc k)) (hv : ev E z = some v) :
    Do1 P B n ds ro ⟨dst, .mapUpdate t x y z, ty, pos, after, guard⟩ E (L1 ++ mapA enc r l :: L2) undef (L1 ++ mapA enc r (aput l k v) :: L2) :=
  do_skip fun a w hE hS => by
    obtain ⟨S, _, es, clock, hb, hkv, hbo, hnd⟩ := hS.at_
    have hb := (part_some hb).2
    rcases findKey_run (P := P) hk k es.toList l hkv w with ⟨h1, h2⟩ | ⟨j, v0, h1, h2, ⟨e', h3, h4, h5⟩, h6, h7, h8⟩
    · refine ⟨{ w with heap := w.heap.setIfInBounds r (.map (es.push { key := enc k, val := v, born := clock }) (clock + 1)) }, ?_, hS.setMap ?_ ?_ (nodup_aput hnd k v)⟩
      · simp [execOp, Instr.mapUpdate, hE.eval hx, hE.eval hy, hE.eval hv, run_und hu, getObj, setObj, Sem.run, hb, hk.check, h2]
      · have : ∀ l : List (α × Value), aget l k = none → aput l k v = l ++ [(k, v)] := by
          intro l
          induction l with
          | nil => intro _; rfl
          | cons p l ih =>
            obtain ⟨a, x⟩ := p
            intro h
            unfold aget at h
            by_cases e : a = k
            · rw [if_pos e] at h; cases h
            · rw [if_neg e] at h; unfold aput; rw [if_neg e, ih h]; rfl
        rw [this l h1]
        simp only [kv] at hkv ⊢
        simp [hkv]
      · rw [Array.toList_push]; exact born_push hbo
    · refine ⟨{ w with heap := w.heap.setIfInBounds r (.map (es.modify j fun e => { e with key := enc k, val := v }) clock) }, ?_, hS.setMap ?_ ?_ (nodup_aput hnd k v)⟩
      · have hkk : (Option.map (fun x => x.key) es[j]?).getD (enc k) = enc k := modify_key h3 h4
        simp [execOp, Instr.mapUpdate, hE.eval hx, hE.eval hy, hE.eval hv, run_und hu, getObj, setObj, Sem.run, hb, hk.check, h2, hkk, Instr.keyThatStays, hk.bits]
      · have := h6 v
        simpa using this
      · have := born_modify (j := j) (k := enc k) (v := v) hbo
        simpa using this

/-- delete(m, k) -/
theorem do_delete {L1 L2 : List Assn} {k : α} {ts : Array TypeId} (ht : ts[0]? = some t) (hu : P.underlying t = some (.map kt e)) (hk : KeyOk P kt enc) (hx : ev E x = some (.map (some r))) (hy : ev E y = some (enc k)) :
    Do1 P B n ds ro ⟨dst, .call { callee := .builtin .delete, args := #[x, y], argTypes := ts }, ty, pos, after, guard⟩ E (L1 ++ mapA enc r l :: L2) (.tuple #[]) (L1 ++ mapA enc r (adel l k) :: L2) :=
  do_ok fun a w hE hS => by
    obtain ⟨S, _, es, clock, hb, hkv, hbo, hnd⟩ := hS.at_
    have hb := (part_some hb).2
    rcases findKey_run (P := P) hk k es.toList l hkv w with ⟨h1, h2⟩ | ⟨j, v0, h1, h2, ⟨e', h3, h4, h5⟩, h6, h7, h8⟩
    · refine ⟨{ w with heap := w.heap.setIfInBounds r (.map es clock) }, ?_, hS.setMap ?_ hbo (nodup_adel hnd k)⟩
      · simp [execOp, resolve, invoke, builtin, Builtin.delete_, ht, hE.eval hx, hE.eval hy, run_und hu, getObj, setObj, Sem.run, hb, hk.check, h2]
      · have : ∀ l : List (α × Value), aget l k = none → adel l k = l := by
          intro l
          induction l with
          | nil => intro _; rfl
          | cons p l ih =>
            obtain ⟨a, x⟩ := p
            intro h
            unfold aget at h
            by_cases e : a = k
            · rw [if_pos e] at h; cases h
            · rw [if_neg e] at h; unfold adel; rw [if_neg e, ih h]
        rw [this l h1]; exact hkv
    · refine ⟨{ w with heap := w.heap.setIfInBounds r (.map (es.eraseIdxIfInBounds j) clock) }, ?_, hS.setMap ?_ ?_ (nodup_adel hnd k)⟩
      · simp [execOp, resolve, invoke, builtin, Builtin.delete_, ht, hE.eval hx, hE.eval hy, run_und hu, getObj, setObj, Sem.run, hb, hk.check, h2]
      · have hj : j < es.size := by have := (List.getElem?_eq_some_iff.1 h3).1; simpa using this
        simpa [Array.eraseIdxIfInBounds, hj] using h7
      · have hj : j < es.size := by have := (List.getElem?_eq_some_iff.1 h3).1; simpa using this
        have := born_erase (j := j) hbo
        simpa [Array.eraseIdxIfInBounds, hj] using this

theorem do_lenMapA {α : Type} {enc : α → Value} {l : List (α × Value)} {ts : Array TypeId} (i : Nat) (ht : ts[0]? = some t) (hs : isMap P t = true) (hx : ev E x = some (.map (some r))) (hL : nth L i = some (mapA enc r l)) :
    Do1 P B n ds ro ⟨dst, .call { callee := .builtin .len, args := #[x], argTypes := ts }, ty, pos, after, guard⟩ E L (.int .i64 l.length) L := do_ok fun a w hE hS => by
  obtain ⟨_, _, hu⟩ := isMap_und hs
  obtain ⟨S, _, es, clock, hb, hkv, _⟩ := hS.nth hL
  have hb := (part_some hb).2
  have hlen : es.size = l.length := by have := congrArg List.length hkv; simpa using this
  refine ⟨w, ?_, hS⟩
  simp [execOp, resolve, invoke, builtin, Builtin.len_, hE.eval hx, ht, run_und hu, goInt, getObj, Sem.run, hb, hlen]
theorem do_lenMapNil {ts : Array TypeId} (ht : ts[0]? = some t) (hs : isMap P t = true) (hx : ev E x = some (.map none)) :
    Do1 P B n ds ro ⟨dst, .call { callee := .builtin .len, args := #[x], argTypes := ts }, ty, pos, after, guard⟩ E L (.int .i64 0) L := do_pure fun a w hE => by
  obtain ⟨_, _, hu⟩ := isMap_und hs
  simp [execOp, resolve, invoke, builtin, Builtin.len_, hE.eval hx, ht, run_und hu, goInt]

/-! ranging -/
/-- A map that is being ranged over: the iterator's block, and the keys that have come, in order; the last of them lies in the map till the next step. -/
def mapIt {α : Type} (enc : α → Value) (r it : Nat) (l : List (α × Value)) (done : List α) : Assn := fun h =>
  ∃ es clock seen, h r = some (.map es clock) ∧ h it = some (.mapIter (some r) clock seen clock) ∧ r ≠ it ∧ kv enc es.toList l ∧ bornOk es.toList clock ∧ (akeys l).Nodup ∧
    (∀ (j : Nat) (e : MapEntry) (p : α × Value), es.toList[j]? = some e → l[j]? = some p → (e.born ∈ seen.toList ↔ p.1 ∈ done)) ∧
    (∀ k, done.getLast? = some k → ∃ s' b, seen = Array.push s' b ∧ ∀ (j : Nat) (e : MapEntry) (p : α × Value), es.toList[j]? = some e → l[j]? = some p → (e.born = b ↔ p.1 = k))

theorem do_range {α : Type} {enc : α → Value} {l : List (α × Value)} (i : Nat) (js : List Nat) (hs : isMap P t = true) (hx : ev E x = some (.map (some r))) (hp : picks L js M) (hL : nth L i = some (mapA enc r l)) (hn : (i :: js).Nodup) :
    Do P B n ds ro ⟨dst, .range t x, ty, pos, after, guard⟩ E L fun u N => ∃ it, u = .pointer (some ⟨it, 0, none⟩) ∧ N = mapIt enc r it l [] :: M :=
  do_okx fun a w hE hS => by
    obtain ⟨_, _, hu⟩ := isMap_und hs
    have hS1 : Sat B (mapA enc r l :: M) w := hS.pick (i :: js) (show picks L (i :: js) (mapA enc r l :: M) from ⟨hL, hp⟩) hn
    obtain ⟨S, _, es, clock, hb, hkv, _⟩ := hS1.one
    have hb := (part_some hb).2
    refine ⟨_, { w with heap := w.heap.push (.mapIter (some r) clock #[] clock) }, _, ?_, ⟨w.heap.size, rfl, rfl⟩, ?_⟩
    · simp [execOp, Instr.range, hE.eval hx, run_und hu, getObj, newObj, Sem.run, hb]
    · refine Sat.upd (L1 := []) hS1 ⟨rfl, rfl, rfl, by simp⟩ fun S _ hA => ?_
      obtain ⟨es', clock', hb', hkv', hbo, hnd⟩ := hA
      have hb2 := part_some hb'
      rw [hb] at hb2
      obtain ⟨hSr, heq⟩ := hb2
      cases heq
      have hlt := (Array.getElem?_eq_some_iff.1 hb).1
      refine ⟨fun k hk _ => by simp [Array.getElem?_push, Nat.ne_of_lt hk], es, clock, #[], ?_, ?_, by omega, hkv', hbo, hnd, by simp, by simp⟩
      · rw [part_of (.inl hSr)]; simp [Array.getElem?_push, Nat.ne_of_lt hlt, hb]
      · rw [part_of (.inr (Nat.le_refl _))]; simp

theorem kv_len {α : Type} {enc : α → Value} {es : List MapEntry} {l : List (α × Value)} (h : kv enc es l) : es.length = l.length := by
  have := congrArg List.length h; simpa using this

theorem kv_get {α : Type} {enc : α → Value} {es : List MapEntry} {l : List (α × Value)} (h : kv enc es l) {j : Nat} {e : MapEntry} (he : es[j]? = some e) : ∃ p, l[j]? = some p ∧ e.key = enc p.1 ∧ e.val = p.2 := by
  have hl := kv_len h
  have hj := (List.getElem?_eq_some_iff.1 he).1
  have hp : l[j]? = some l[j] := by simp [show j < l.length by omega]
  have h2 := congrArg (fun x : List (Value × Value) => x[j]?) h
  simp only [List.getElem?_map, he, hp, Option.map_some, Option.some.injEq, Prod.mk.injEq] at h2
  exact ⟨_, hp, h2.1, h2.2⟩

theorem nodup_inj {β : Type} {l : List β} (h : l.Nodup) : ∀ {i j : Nat} (hi : i < l.length) (hj : j < l.length), l[i] = l[j] → i = j := by
  induction l with
  | nil => intro i j hi; simp at hi
  | cons x l ih =>
    have hn := List.nodup_cons.1 h
    intro i j hi hj he
    cases i with
    | zero => cases j with
      | zero => rfl
      | succ j => simp at he; exact absurd (List.getElem_mem _) (he ▸ hn.1)
    | succ i => cases j with
      | zero => simp at he; exact absurd (List.getElem_mem _) (he ▸ hn.1)
      | succ j => simp at he hi hj; rw [ih hn.2 hi hj he]

theorem nodup_at {β : Type} {l : List β} (h : l.Nodup) {i j : Nat} {x : β} (hi : l[i]? = some x) (hj : l[j]? = some x) : i = j := by
  obtain ⟨hi1, hi2⟩ := List.getElem?_eq_some_iff.1 hi
  obtain ⟨hj1, hj2⟩ := List.getElem?_eq_some_iff.1 hj
  exact nodup_inj h hi1 hj1 (hi2.trans hj2.symm)

theorem born_inj {es : List MapEntry} {c : Nat} (h : bornOk es c) {i j : Nat} {e e' : MapEntry} (hi : es[i]? = some e) (hj : es[j]? = some e') (he : e.born = e'.born) : i = j := by
  have hn : (es.map (·.born)).Nodup := h.1.imp (fun h => Nat.ne_of_lt h)
  exact nodup_at hn (x := e.born) (by simp [hi]) (by simp [hj, he])

theorem key_inj {α : Type} {l : List (α × Value)} (hn : (akeys l).Nodup) {i j : Nat} {p q : α × Value} (hi : l[i]? = some p) (hj : l[j]? = some q) (he : p.1 = q.1) : i = j :=
  nodup_at hn (x := p.1) (by simp [akeys, hi]) (by simp [akeys, hj, he])

/-- One step of the range: a key that has not come yet, or the end. -/
theorem do_next {L1 L2 : List Assn} {it : Nat} {done : List α} (hx : ev E x = some (.pointer (some ⟨it, 0, none⟩))) :
    Do P B n ds ro ⟨dst, .next x false, ty, pos, after, guard⟩ E (L1 ++ mapIt enc r it l done :: L2) fun u N =>
      (∃ k v, aget l k = some v ∧ k ∉ done ∧ u = .tuple #[.bool true, enc k, v] ∧ N = L1 ++ mapIt enc r it l (done ++ [k]) :: L2) ∨
      ((∀ p ∈ l, p.1 ∈ done) ∧ u = .tuple #[.bool false] ∧ N = L1 ++ mapIt enc r it l done :: L2) :=
  do_okx fun a w hE hS => by
    obtain ⟨S, _, es, clock, seen, hb, hi, hne, hkv, hbo, hnd, hseen, hlast⟩ := hS.at_
    have hb := (part_some hb).2
    have hi := (part_some hi).2
    rcases run_next_at (P := P) w ty it r clock clock seen es clock hi hb (fun x hx => hbo.2 x hx) (Nat.le_refl _) with ⟨h0, hrun⟩ | ⟨e, he, w1, hw1, hrun⟩
    · refine ⟨.tuple #[.bool false], w, _, by simp [execOp, hE.eval hx, hrun], .inr ⟨?_, rfl, rfl⟩, hS⟩
      intro p hp
      obtain ⟨j, hj⟩ := List.mem_iff_getElem?.1 hp
      have hjl := (List.getElem?_eq_some_iff.1 hj).1
      have hlen := kv_len hkv
      have hje : es.toList[j]? = some (es.toList[j]'(by omega)) := by simp
      refine (hseen j _ p hje hj).1 ?_
      apply Classical.byContradiction
      intro hno
      have : es.toList[j]'(by omega) ∈ leftOf es seen := by
        unfold leftOf
        refine Array.mem_filter.2 ⟨by simp, ?_⟩
        simpa using hno
      have h3 : leftOf es seen = #[] := Array.eq_empty_of_size_eq_zero h0
      rw [h3] at this
      simp at this
    · have hmem : e ∈ es.toList ∧ e.born ∉ seen.toList := by
        unfold leftOf at he
        simpa using he
      obtain ⟨j, hj⟩ := List.mem_iff_getElem?.1 hmem.1
      obtain ⟨p, hp, hk, hv⟩ := kv_get hkv hj
      refine ⟨.tuple #[.bool true, enc p.1, p.2], ChangeMaps.setBlock w1 it (.mapIter (some r) clock (seen.push e.born) clock), _, by simp [execOp, hE.eval hx, hrun, hk, hv], .inl ⟨p.1, p.2, aget_of_mem hnd (List.mem_of_getElem? hp), fun hd => hmem.2 ((hseen j e p hj hp).2 hd), rfl, rfl⟩, ?_⟩
      have hS1 : Sat B (L1 ++ mapIt enc r it l done :: L2) w1 := by
        rcases hw1 with rfl | rfl
        · exact hS
        · exact hS.drawn _
      have hh : w1.heap = w.heap := by rcases hw1 with rfl | rfl <;> rfl
      refine hS1.upd ⟨rfl, rfl, rfl, by simp [ChangeMaps.setBlock]⟩ fun S' _ hA => ?_
      obtain ⟨es', clock', seen', hb', hi', _⟩ := hA
      have hb2 := part_some hb'
      have hi2 := part_some hi'
      rw [hh, hb] at hb2
      rw [hh, hi] at hi2
      have hlt := (Array.getElem?_eq_some_iff.1 hi).1
      refine ⟨fun k _ hk => by simp [ChangeMaps.setBlock, Array.getElem?_setIfInBounds_ne (fun e : it = k => hk (e ▸ hi2.1))], es, clock, seen.push e.born, ?_, ?_, hne, hkv, hbo, hnd, ?_, ?_⟩
      · rw [part_of (.inl hb2.1)]; simp [ChangeMaps.setBlock, Array.getElem?_setIfInBounds_ne hne.symm, hh, hb]
      · rw [part_of (.inl hi2.1)]; simp [ChangeMaps.setBlock, hh, hlt]
      · intro i e' q hi' hq
        have := hseen i e' q hi' hq
        simp only [Array.toList_push, List.mem_append, List.mem_singleton]
        rw [this]
        constructor
        · rintro (h | h)
          · exact .inl h
          · have := born_inj hbo hi' hj h; subst this; rw [hp] at hq; cases hq; exact .inr rfl
        · rintro (h | h)
          · exact .inl h
          · have := key_inj hnd hq hp h; subst this; rw [hj] at hi'; cases hi'; exact .inr rfl
      · intro k hk'
        have hk2 : p.1 = k := by simpa using hk'
        subst hk2
        refine ⟨seen, e.born, rfl, fun i e' q hi' hq => ⟨fun h => ?_, fun h => ?_⟩⟩
        · have := born_inj hbo hi' hj h; subst this; rw [hp] at hq; cases hq; rfl
        · have := key_inj hnd hq hp h; subst this; rw [hj] at hi'; cases hi'; rfl

/-- The round's key and value. -/
theorem do_entry {k : α} {it : Nat} {d done : List α} (i : Nat) (hx : ev E x = some (.pointer (some ⟨it, 0, none⟩))) (hL : nth L i = some (mapIt enc r it l done)) (hd : done = d ++ [k]) (hv : aget l k = some v) :
    Do1 P B n ds ro ⟨dst, .entry x, ty, pos, after, guard⟩ E L (.tuple #[enc k, v]) L :=
  do_ok fun a w hE hS => ⟨w, by
    subst hd
    obtain ⟨S, _, es, clock, seen, hb, hi, hne, hkv, hbo, hnd, hseen, hlast⟩ := hS.nth hL
    have hb := (part_some hb).2
    have hi := (part_some hi).2
    obtain ⟨s', b, rfl, hl⟩ := hlast k (by simp)
    obtain ⟨j, hj⟩ := List.mem_iff_getElem?.1 (aget_mem hv)
    have hjl := (List.getElem?_eq_some_iff.1 hj).1
    have hlen := kv_len hkv
    have hje : es.toList[j]? = some (es.toList[j]'(by omega)) := by simp
    obtain ⟨p, hp, hk, hv2⟩ := kv_get hkv hje
    rw [hj] at hp
    cases hp
    have hbn := (hl j _ _ hje hj).2 rfl
    subst hbn
    have := run_entry_at (P := P) w it r clock s' es clock _ hi hb (List.mem_of_getElem? hje) (hbo.1.imp (fun h => Nat.ne_of_lt h))
    rw [hk, hv2] at this
    simp only [execOp, hE.eval hx]
    simp [this], hS⟩

/-- Done with the range. -/
theorem mapIt_end {α : Type} {enc : α → Value} {l : List (α × Value)} {it : Nat} {done : List α} {L1 L2 : List Assn} {w : World} (h : Sat B (L1 ++ mapIt enc r it l done :: L2) w) : Sat B (L1 ++ mapA enc r l :: L2) w :=
  h.imp fun _ ⟨es, clock, _, hb, _, _, hkv, hbo, hnd, _⟩ => ⟨es, clock, hb, hkv, hbo, hnd⟩

/-- delete(m, k) while m is being ranged over. -/
theorem do_deleteIt {L1 L2 : List Assn} {k : α} {ts : Array TypeId} {it : Nat} {done : List α} (ht : ts[0]? = some t) (hu : P.underlying t = some (.map kt e)) (hk : KeyOk P kt enc) (hx : ev E x = some (.map (some r))) (hy : ev E y = some (enc k)) :
    Do1 P B n ds ro ⟨dst, .call { callee := .builtin .delete, args := #[x, y], argTypes := ts }, ty, pos, after, guard⟩ E (L1 ++ mapIt enc r it l done :: L2) (.tuple #[]) (L1 ++ mapIt enc r it (adel l k) done :: L2) :=
  do_ok fun a w hE hS => by
    obtain ⟨S, _, es, clock, seen, hb, hi, hne, hkv, hbo, hnd, hseen, hlast⟩ := hS.at_
    have hb := (part_some hb).2
    have hi := (part_some hi).2
    have hlt := (Array.getElem?_eq_some_iff.1 hb).1
    -- what is written
    have fin : ∀ (es' : Array MapEntry) (l' : List (α × Value)), kv enc es'.toList l' → bornOk es'.toList clock → (akeys l').Nodup →
        (∀ (j : Nat) (e : MapEntry) (p : α × Value), es'.toList[j]? = some e → l'[j]? = some p → ∃ i : Nat, es.toList[i]? = some e ∧ l[i]? = some p) →
        Sat B (L1 ++ mapIt enc r it l' done :: L2) { w with heap := w.heap.setIfInBounds r (.map es' clock) } := by
      intro es' l' g1 g2 g3 g4
      refine hS.upd ⟨rfl, rfl, rfl, by simp⟩ fun S' _ hA => ?_
      obtain ⟨es2, clock2, seen2, hb', hi', _⟩ := hA
      have hb2 := part_some hb'
      have hi2 := part_some hi'
      refine ⟨fun k _ hk => by simp [Array.getElem?_setIfInBounds_ne (fun e : r = k => hk (e ▸ hb2.1))], es', clock, seen, ?_, ?_, hne, g1, g2, g3, ?_, ?_⟩
      · rw [part_of (.inl hb2.1)]; simp [hlt]
      · rw [part_of (.inl hi2.1)]; simp [Array.getElem?_setIfInBounds_ne hne, hi]
      · intro j e p hj hp
        obtain ⟨i, h1, h2⟩ := g4 j e p hj hp
        exact hseen i e p h1 h2
      · intro k hk
        obtain ⟨s', b, h3, h4⟩ := hlast k hk
        refine ⟨s', b, h3, fun j e p hj hp => ?_⟩
        obtain ⟨i, h1, h2⟩ := g4 j e p hj hp
        exact h4 i e p h1 h2
    rcases findKey_run (P := P) hk k es.toList l hkv w with ⟨h1, h2⟩ | ⟨j, v0, h1, h2, ⟨e', h3, h4, h5⟩, h6, h7, h8⟩
    · refine ⟨{ w with heap := w.heap.setIfInBounds r (.map es clock) }, ?_, ?_⟩
      · simp [execOp, resolve, invoke, builtin, Builtin.delete_, ht, hE.eval hx, hE.eval hy, run_und hu, getObj, setObj, Sem.run, hb, hk.check, h2]
      · have : adel l k = l := by
          have := keys_adel hnd k
          have h9 := (aget_none l k).1 h1
          clear fin hS hseen hlast hkv h2
          induction l with
          | nil => rfl
          | cons p l ih =>
            obtain ⟨a, x⟩ := p
            unfold aget at h1
            by_cases e : a = k
            · rw [if_pos e] at h1; cases h1
            · rw [if_neg e] at h1
              have hn := List.nodup_cons.1 (show (a :: akeys l).Nodup from hnd)
              unfold adel; rw [if_neg e, ih hn.2 h1 (keys_adel hn.2 k) ((aget_none l k).1 h1)]
        rw [this]
        exact fin es l hkv hbo hnd (fun j e p hj hp => ⟨j, hj, hp⟩)
    · have hj : j < es.size := by have := (List.getElem?_eq_some_iff.1 h3).1; simpa using this
      refine ⟨{ w with heap := w.heap.setIfInBounds r (.map (es.eraseIdxIfInBounds j) clock) }, ?_, fin _ _ ?_ ?_ (nodup_adel hnd k) ?_⟩
      · simp [execOp, resolve, invoke, builtin, Builtin.delete_, ht, hE.eval hx, hE.eval hy, run_und hu, getObj, setObj, Sem.run, hb, hk.check, h2]
      · simpa [Array.eraseIdxIfInBounds, hj] using h7
      · have := born_erase (j := j) hbo
        simpa [Array.eraseIdxIfInBounds, hj] using this
      · intro i e p hi' hp
        have he2 : (es.toList.eraseIdx j)[i]? = some e := by simpa [Array.eraseIdxIfInBounds, hj] using hi'
        rw [h8] at hp
        rw [List.getElem?_eraseIdx] at he2 hp
        by_cases hij : i < j
        · rw [if_pos hij] at he2 hp; exact ⟨i, he2, hp⟩
        · rw [if_neg hij] at he2 hp; exact ⟨i + 1, he2, hp⟩

theorem do_rangeNil (hs : isMap P t = true) (hx : ev E x = some (.map none)) :
    Do P B n ds ro ⟨dst, .range t x, ty, pos, after, guard⟩ E L fun u N => ∃ it, u = .pointer (some ⟨it, 0, none⟩) ∧ N = pt it (.mapIter none 0 #[] 0) :: L :=
  do_okx fun a w hE hS => by
    obtain ⟨_, _, hu⟩ := isMap_und hs
    exact ⟨_, _, _, by simp [execOp, Instr.range, hE.eval hx, run_und hu, newObj, Sem.run], ⟨w.heap.size, rfl, rfl⟩, hS.alloc _⟩

theorem do_nextNil {it : Nat} (i : Nat) (hx : ev E x = some (.pointer (some ⟨it, 0, none⟩))) (hL : nth L i = some (pt it (.mapIter none 0 #[] 0))) :
    Do1 P B n ds ro ⟨dst, .next x false, ty, pos, after, guard⟩ E L (.tuple #[.bool false]) L :=
  do_ok fun a w hE hS => ⟨w, by
    have hi := (hS.get hL).1
    simp [execOp, Instr.next, hE.eval hx, getObj, Sem.run, hi], hS⟩
end
end Go.Proofs.Ytmefejfnddcelaa
