/- A separation logic over the kit's 'Calls' and 'Code.wp': lists of assertions, each true of blocks of its own; a base of memory that nobody turns. -/
import Derived.WalkKit
import Derived.Below
import Derived.Orders
import Derived.Deep.LoopGhost
import Derived.Laws.AppendOwn
namespace Go.Proofs.Ytmefejfnddcelaa

/-- A list's place, by a plain recursion (quick to compute). -/
def nth {α : Type} : List α → Nat → Option α
  | [], _ => none
  | x :: _, 0 => some x
  | _ :: l, i + 1 => nth l i

theorem nth_eq {α : Type} (l : List α) : ∀ i : Nat, nth l i = l[i]? := by
  induction l with
  | nil => intro i; simp [nth]
  | cons x l ih => intro i; cases i with
    | zero => simp [nth]
    | succ i => simp [nth, ih]

abbrev Hp := Nat → Option Obj
abbrev Assn := Hp → Prop

/-- The base: the world as it was when the law's call began; its blocks below 'n' are never turned. -/
structure Ctx where
  n : Nat
  w : World

open Classical in
/-- What a world holds at the blocks of S. -/
noncomputable def part (S : Nat → Prop) (w : World) : Hp := fun k => if S k then w.heap[k]? else none

structure Ext (B : Ctx) (w : World) : Prop where
  os : w.os = B.w.os
  tape : w.tape = B.w.tape
  output : w.output = B.w.output
  size : B.n ≤ w.heap.size
  base : ∀ k, k < B.n → w.heap[k]? = B.w.heap[k]?

def Sat (B : Ctx) (L : List Assn) (w : World) : Prop :=
  Ext B w ∧ ∃ own : Nat → Nat, ∀ (i : Nat) (A : Assn), L[i]? = some A → A (part (fun k => own k = i ∧ B.n ≤ k) w)

/-- A list of assertions, each true of its own part of h. -/
def Star (L : List Assn) : Assn := fun h => ∃ own : Nat → Nat, ∀ (i : Nat) (A : Assn), L[i]? = some A → A (fun k => if own k = i then h k else none)

def pt (b : Nat) (o : Obj) : Assn := fun h => h b = some o

/-- What changes in a world but its memory: nothing. -/
structure Keep (w w' : World) : Prop where
  os : w'.os = w.os
  tape : w'.tape = w.tape
  output : w'.output = w.output
  size : w.heap.size ≤ w'.heap.size

theorem Keep.refl (w : World) : Keep w w := ⟨rfl, rfl, rfl, Nat.le_refl _⟩
theorem Keep.trans {a b c : World} (h : Keep a b) (k : Keep b c) : Keep a c := ⟨k.os.trans h.os, k.tape.trans h.tape, k.output.trans h.output, Nat.le_trans h.size k.size⟩

theorem part_some {S : Nat → Prop} {w : World} {k : Nat} {o : Obj} (h : part S w k = some o) : S k ∧ w.heap[k]? = some o := by
  unfold part at h
  split at h
  · exact ⟨‹_›, h⟩
  · cases h

theorem part_of {S : Nat → Prop} {w : World} {k : Nat} (h : S k) : part S w k = w.heap[k]? := by unfold part; rw [if_pos h]

theorem part_congr {S S' : Nat → Prop} {w w' : World} (h : ∀ k, (S k ∧ S' k ∧ w.heap[k]? = w'.heap[k]?) ∨ (¬ S k ∧ ¬ S' k) ∨ (¬ S k ∧ w'.heap[k]? = none) ∨ (¬ S' k ∧ w.heap[k]? = none)) : part S w = part S' w' := by
  funext k
  unfold part
  rcases h k with ⟨a, b, c⟩ | ⟨a, b⟩ | ⟨a, b⟩ | ⟨a, b⟩
  · rw [if_pos a, if_pos b, c]
  · rw [if_neg a, if_neg b]
  · rw [if_neg a]; split <;> simp [b]
  · rw [if_neg a]; split <;> simp [b]

theorem heap_none {w : World} {k : Nat} (h : w.heap.size ≤ k) : w.heap[k]? = none := by simp [h]

/-- Of a list those at given places. -/
def picks (L : List Assn) : List Nat → List Assn → Prop
  | [], [] => True
  | i :: is, A :: M => nth L i = some A ∧ picks L is M
  | _, _ => False

theorem picks_get {L : List Assn} : ∀ {is : List Nat} {M : List Assn}, picks L is M → ∀ (i : Nat) (A : Assn), M[i]? = some A → ∃ j, is[i]? = some j ∧ L[j]? = some A := by
  intro is
  induction is with
  | nil => intro M h i A hA; cases M with
    | nil => simp at hA
    | cons => exact h.elim
  | cons j js ih => intro M h i A hA; cases M with
    | nil => exact h.elim
    | cons A0 M => cases i with
      | zero => simp at hA; subst hA; exact ⟨j, rfl, by rw [← nth_eq]; exact h.1⟩
      | succ i => simpa using ih h.2 i A (by simpa using hA)

section
variable {B : Ctx} {L : List Assn} {w w' : World}

theorem Ext.keep (h : Ext B w) (hk : Keep w w') (hb : ∀ k, k < B.n → w'.heap[k]? = w.heap[k]?) : Ext B w' :=
  ⟨hk.os.trans h.os, hk.tape.trans h.tape, hk.output.trans h.output, Nat.le_trans h.size hk.size, fun k l => (hb k l).trans (h.base k l)⟩

theorem Sat.get (h : Sat B L w) {i : Nat} {b : Nat} {o : Obj} (hi : nth L i = some (pt b o)) : w.heap[b]? = some o ∧ B.n ≤ b := by
  rw [nth_eq] at hi
  obtain ⟨_, own, ho⟩ := h
  have := part_some (ho i _ hi)
  exact ⟨this.2, this.1.2⟩

/-- Any choice of places, each at most once. -/
theorem Sat.pick (h : Sat B L w) (is : List Nat) {M : List Assn} (hp : picks L is M) (hn : is.Nodup) : Sat B M w := by
  obtain ⟨he, own, ho⟩ := h
  obtain ⟨g, hg⟩ : ∃ g : Nat → Nat, ∀ k, g k = is.idxOf (own k) := ⟨_, fun _ => rfl⟩
  refine ⟨he, g, fun i A hA => ?_⟩
  obtain ⟨j, hj, hL⟩ := picks_get hp i A hA
  have := ho j A hL
  refine (congrArg A (part_congr fun k => ?_)).mp this
  have hlt : i < is.length := (List.getElem?_eq_some_iff.1 hj).1
  have hij : is[i] = j := (List.getElem?_eq_some_iff.1 hj).2
  by_cases hk : own k = j ∧ B.n ≤ k
  · refine .inl ⟨hk, ⟨?_, hk.2⟩, rfl⟩
    rw [hg, hk.1, ← hij]
    exact hn.idxOf_getElem i hlt
  · refine .inr (.inl ⟨hk, fun hh => hk ⟨?_, hh.2⟩⟩)
    have h1 := hh.1
    rw [hg] at h1
    have h2 : is.idxOf (own k) < is.length := by omega
    have h3 := List.getElem_idxOf h2
    rw [← h3, ← hij]
    congr 1

theorem Sat.mem (h : Sat B L w) {M : List Assn} (is : List Nat) (hp : picks L is M) (hn : is.Nodup) : Sat B M w := h.pick is hp hn

/-- An assertion parted: what it says, and its parts. -/
theorem Sat.split {A : Assn} (h : Sat B (A :: L) w) {α : Type} {φ : α → Prop} {As : α → List Assn} (hA : ∀ h, A h → ∃ x, φ x ∧ Star (As x) h) : ∃ x, φ x ∧ Sat B (As x ++ L) w := by
  obtain ⟨he, own, ho⟩ := h
  obtain ⟨x, hx, own2, h2⟩ := hA _ (ho 0 A rfl)
  obtain ⟨g, hg⟩ : ∃ g : Nat → Nat, ∀ k, g k = (if own k = 0 then (if own2 k < (As x).length then own2 k else (As x).length + L.length) else own k - 1 + (As x).length) := ⟨_, fun _ => rfl⟩
  refine ⟨x, hx, he, g, fun i C hC => ?_⟩
  by_cases hi : i < (As x).length
  · have hC' : (As x)[i]? = some C := by rwa [List.getElem?_append_left hi] at hC
    refine (congrArg C ?_).mp (h2 i C hC')
    funext k
    unfold part
    by_cases h0 : own k = 0 ∧ B.n ≤ k
    · by_cases hk : own2 k = i
      · rw [if_pos hk, if_pos h0, if_pos]
        exact ⟨by rw [hg, if_pos h0.1, if_pos (by omega)]; exact hk, h0.2⟩
      · rw [if_neg hk, if_neg]
        intro hh
        have h1 := hh.1
        rw [hg, if_pos h0.1] at h1
        split at h1 <;> omega
    · rw [if_neg h0]
      have hne : ¬ (g k = i ∧ B.n ≤ k) := by
        intro hh
        have h1 := hh.1
        rw [hg] at h1
        split at h1
        · exact h0 ⟨‹_›, hh.2⟩
        · omega
      rw [if_neg hne]
      split <;> rfl
  · have hC' : L[i - (As x).length]? = some C := by rwa [List.getElem?_append_right (by omega)] at hC
    have hl := (List.getElem?_eq_some_iff.1 hC').1
    refine (congrArg C (part_congr fun k => ?_)).mp (ho (i - (As x).length + 1) C (by simpa using hC'))
    by_cases hk : own k = i - (As x).length + 1 ∧ B.n ≤ k
    · refine .inl ⟨hk, ⟨?_, hk.2⟩, rfl⟩
      rw [hg, if_neg (by omega)]
      omega
    · refine .inr (.inl ⟨hk, fun hh => hk ⟨?_, hh.2⟩⟩)
      have h1 := hh.1
      rw [hg] at h1
      split at h1
      · split at h1 <;> omega
      · omega

/-- Assertions joined. -/
theorem Sat.join {A : Assn} {As : List Assn} (h : Sat B (As ++ L) w) (hA : ∀ h, Star As h → A h) : Sat B (A :: L) w := by
  obtain ⟨he, own, ho⟩ := h
  obtain ⟨g, hg⟩ : ∃ g : Nat → Nat, ∀ k, g k = (if own k < As.length then 0 else own k - As.length + 1) := ⟨_, fun _ => rfl⟩
  refine ⟨he, g, fun i C hC => ?_⟩
  cases i with
  | zero =>
    simp at hC
    subst hC
    refine hA _ ⟨own, fun i C hC => ?_⟩
    have hl := (List.getElem?_eq_some_iff.1 hC).1
    refine (congrArg C ?_).mp (ho i C (by rwa [List.getElem?_append_left hl]))
    funext k
    unfold part
    by_cases hk : own k = i
    · rw [if_pos hk]
      by_cases hn : B.n ≤ k
      · rw [if_pos ⟨hk, hn⟩, if_pos ⟨by rw [hg, if_pos (by omega)], hn⟩]
      · rw [if_neg (fun x => hn x.2), if_neg (fun x => hn x.2)]
    · rw [if_neg hk, if_neg (fun x => hk x.1)]
  | succ i =>
    have hC' : L[i]? = some C := by simpa using hC
    refine (congrArg C (part_congr fun k => ?_)).mp (ho (As.length + i) C (by rw [List.getElem?_append_right (by omega)]; simpa using hC'))
    by_cases hk : own k = As.length + i ∧ B.n ≤ k
    · refine .inl ⟨hk, ⟨?_, hk.2⟩, rfl⟩
      rw [hg, if_neg (by omega)]
      omega
    · refine .inr (.inl ⟨hk, fun hh => hk ⟨?_, hh.2⟩⟩)
      have h1 := hh.1
      rw [hg] at h1
      split at h1 <;> omega

/-- A write that one assertion's blocks bear, and new blocks. -/
theorem Sat.upd {L1 L2 : List Assn} {A A' : Assn} (h : Sat B (L1 ++ A :: L2) w) (hk : Keep w w')
    (key : ∀ S : Nat → Prop, (∀ k, S k → B.n ≤ k) → A (part S w) → (∀ k, k < w.heap.size → ¬ S k → w'.heap[k]? = w.heap[k]?) ∧ A' (part (fun k => S k ∨ w.heap.size ≤ k) w')) :
    Sat B (L1 ++ A' :: L2) w' := by
  obtain ⟨he, own, ho⟩ := h
  have h0 := ho L1.length A (by simp)
  obtain ⟨hf, hA'⟩ := key _ (fun k hk => hk.2) h0
  obtain ⟨g, hg⟩ : ∃ g : Nat → Nat, ∀ k, g k = (if w.heap.size ≤ k then L1.length else own k) := ⟨_, fun _ => rfl⟩
  refine ⟨he.keep hk fun k hl => hf k (Nat.lt_of_lt_of_le hl he.size) (fun x => by omega), g, fun i C hC => ?_⟩
  by_cases hi : i = L1.length
  · subst hi
    simp at hC
    subst hC
    refine (congrArg A' (part_congr fun k => ?_)).mp hA'
    by_cases hs : w.heap.size ≤ k
    · exact .inl ⟨.inr hs, ⟨by rw [hg, if_pos hs], Nat.le_trans he.size hs⟩, rfl⟩
    · by_cases hk : own k = L1.length ∧ B.n ≤ k
      · exact .inl ⟨.inl hk, ⟨by rw [hg, if_neg hs]; exact hk.1, hk.2⟩, rfl⟩
      · exact .inr (.inl ⟨fun x => x.elim hk hs, fun x => hk ⟨by have := x.1; rwa [hg, if_neg hs] at this, x.2⟩⟩)
  · have hC' : (L1 ++ A :: L2)[i]? = some C := by
      rw [List.getElem?_append] at hC ⊢
      split
      · rwa [if_pos ‹_›] at hC
      · rw [if_neg ‹_›] at hC
        rw [List.getElem?_cons] at hC ⊢
        rw [if_neg (by omega)] at hC ⊢
        exact hC
    refine (congrArg C (part_congr fun k => ?_)).mp (ho i C hC')
    by_cases hs : w.heap.size ≤ k
    · exact .inr (.inr (.inr ⟨fun x => by have := x.1; rw [hg, if_pos hs] at this; exact hi this.symm, heap_none hs⟩))
    · by_cases hk : own k = i ∧ B.n ≤ k
      · refine .inl ⟨hk, ⟨by rw [hg, if_neg hs]; exact hk.1, hk.2⟩, (hf k (by omega) (fun x => hi (hk.1.symm.trans x.1))).symm⟩
      · exact .inr (.inl ⟨hk, fun x => hk ⟨by have := x.1; rwa [hg, if_neg hs] at this, x.2⟩⟩)

/-- New blocks. -/
theorem Sat.new {A' : Assn} (h : Sat B L w) (hk : Keep w w') (hf : ∀ k, k < w.heap.size → w'.heap[k]? = w.heap[k]?) (hA : A' (part (fun k => w.heap.size ≤ k) w')) :
    Sat B (A' :: L) w' := by
  obtain ⟨he, own, ho⟩ := h
  obtain ⟨g, hg⟩ : ∃ g : Nat → Nat, ∀ k, g k = (if w.heap.size ≤ k then 0 else own k + 1) := ⟨_, fun _ => rfl⟩
  refine ⟨he.keep hk fun k hl => hf k (Nat.lt_of_lt_of_le hl he.size), g, fun i C hC => ?_⟩
  cases i with
  | zero =>
    simp at hC
    subst hC
    refine (congrArg A' (part_congr fun k => ?_)).mp hA
    by_cases hs : w.heap.size ≤ k
    · exact .inl ⟨hs, ⟨by rw [hg, if_pos hs], Nat.le_trans he.size hs⟩, rfl⟩
    · exact .inr (.inl ⟨hs, fun x => by have := x.1; rw [hg, if_neg hs] at this; omega⟩)
  | succ i =>
    refine (congrArg C (part_congr fun k => ?_)).mp (ho i C (by simpa using hC))
    by_cases hs : w.heap.size ≤ k
    · exact .inr (.inr (.inr ⟨fun x => by have := x.1; rw [hg, if_pos hs] at this; omega, heap_none hs⟩))
    · by_cases hk : own k = i ∧ B.n ≤ k
      · exact .inl ⟨hk, ⟨by rw [hg, if_neg hs, hk.1], hk.2⟩, (hf k (by omega)).symm⟩
      · exact .inr (.inl ⟨hk, fun x => hk ⟨by have := x.1; rw [hg, if_neg hs] at this; omega, x.2⟩⟩)

theorem Sat.tail {A : Assn} (h : Sat B (A :: L) w) : Sat B L w := by
  have := Sat.join (As := [A]) (L := L) (A := fun _ => True) h (fun _ _ => trivial)
  obtain ⟨he, own, ho⟩ := this
  obtain ⟨g, hg⟩ : ∃ g : Nat → Nat, ∀ k, g k = (if own k = 0 then L.length else own k - 1) := ⟨_, fun _ => rfl⟩
  refine ⟨he, g, fun i C hC => ?_⟩
  have hi := (List.getElem?_eq_some_iff.1 hC).1
  refine (congrArg C (part_congr fun k => ?_)).mp (ho (i + 1) C (by simpa using hC))
  by_cases hk : own k = i + 1 ∧ B.n ≤ k
  · exact .inl ⟨hk, ⟨by rw [hg, if_neg (by omega)]; omega, hk.2⟩, rfl⟩
  · refine .inr (.inl ⟨hk, fun x => hk ⟨?_, x.2⟩⟩)
    have := x.1
    rw [hg] at this
    split at this <;> omega

theorem Sat.drawn (h : Sat B L w) (n : Nat) : Sat B L { w with drawn := n } := ⟨⟨h.1.os, h.1.tape, h.1.output, h.1.size, h.1.base⟩, h.2⟩

theorem Sat.alloc (h : Sat B L w) (o : Obj) : Sat B (pt w.heap.size o :: L) { w with heap := w.heap.push o } :=
  h.new ⟨rfl, rfl, rfl, by simp⟩ (fun k hk => by simp [Array.getElem?_push, Nat.ne_of_lt hk]) (by unfold pt part; rw [if_pos (Nat.le_refl _)]; simp)

/-- A write to one block. -/
theorem Sat.setBlock {L1 L2 : List Assn} {b : Nat} {o o' : Obj} (h : Sat B (L1 ++ pt b o :: L2) w) (hk : Keep w w') (hs : w'.heap[b]? = some o')
    (hf : ∀ k, k ≠ b → w'.heap[k]? = w.heap[k]?) : Sat B (L1 ++ pt b o' :: L2) w' :=
  h.upd hk fun S _ hA => by
    have hb := part_some hA
    refine ⟨fun k _ hk => hf k (fun e => hk (e ▸ hb.1)), ?_⟩
    unfold pt
    rw [part_of (.inl hb.1), hs]

/-- An assertion that says less. -/
theorem Sat.imp {L1 L2 : List Assn} {A A' : Assn} (h : Sat B (L1 ++ A :: L2) w) (hA : ∀ h, A h → A' h) : Sat B (L1 ++ A' :: L2) w := by
  obtain ⟨he, own, ho⟩ := h
  refine ⟨he, own, fun i C hC => ?_⟩
  by_cases hi : i = L1.length
  · subst hi
    simp at hC
    subst hC
    exact hA _ (ho _ A (by simp))
  · refine ho i C ?_
    rw [List.getElem?_append] at hC ⊢
    split
    · rwa [if_pos ‹_›] at hC
    · rw [if_neg ‹_›] at hC
      rw [List.getElem?_cons] at hC ⊢
      rw [if_neg (by omega)] at hC ⊢
      exact hC

theorem Sat.one {A : Assn} (h : Sat B (A :: L) w) : ∃ S : Nat → Prop, (∀ k, S k → B.n ≤ k) ∧ A (part S w) := by
  obtain ⟨_, own, ho⟩ := h
  exact ⟨_, fun k hk => hk.2, ho 0 A rfl⟩

/-- What is true without any block. -/
theorem Sat.intro {A : Assn} (h : Sat B L w) (hA : A (fun _ => none)) : Sat B (A :: L) w := by
  obtain ⟨he, own, ho⟩ := h
  obtain ⟨g, hg⟩ : ∃ g : Nat → Nat, ∀ k, g k = own k + 1 := ⟨_, fun _ => rfl⟩
  refine ⟨he, g, fun i C hC => ?_⟩
  cases i with
  | zero =>
    simp at hC
    subst hC
    refine (congrArg A ?_).mp hA
    funext k
    unfold part
    rw [if_neg (fun x => by have := x.1; rw [hg] at this; omega)]
  | succ i =>
    refine (congrArg C (part_congr fun k => ?_)).mp (ho i C (by simpa using hC))
    by_cases hk : own k = i ∧ B.n ≤ k
    · exact .inl ⟨hk, ⟨by rw [hg, hk.1], hk.2⟩, rfl⟩
    · exact .inr (.inl ⟨hk, fun x => hk ⟨by have := x.1; rw [hg] at this; omega, x.2⟩⟩)
end

/-- Two assertions that say where their blocks are: the blocks are not the same. -/
theorem Sat.ne {B : Ctx} {L : List Assn} {w : World} (h : Sat B L w) {i j b c : Nat} {o o' : Obj} (hi : nth L i = some (pt b o)) (hj : nth L j = some (pt c o')) (hij : i ≠ j) : b ≠ c := by
  rw [nth_eq] at hi hj
  obtain ⟨_, own, ho⟩ := h
  have h1 := (part_some (ho i _ hi)).1.1
  have h2 := (part_some (ho j _ hj)).1.1
  rintro rfl
  exact hij (h1.symm.trans h2)
end Go.Proofs.Ytmefejfnddcelaa
