/- Facts out of memory in the middle of a walk; a cut between two codes; rows opened. -/
import Derived.Test.YtmefejfnddcelaaSLText
import Derived.Test.YtmefejfnddcelaaSLDraw
namespace Go.Proofs.Ytmefejfnddcelaa
section
variable {P : Program} {B : Ctx} {n : Nat} {ds : List Deferred} {ro : Option Nat} {E : List (Nat × Value)} {L M : List Assn} {o : Oper} {Q : Exit → Act → World → Prop} {ops : Array Oper} {rest : List Oper}

theorem wc_fact {c : Code} {φ : Prop} {A : Assn} (i : Nat) (hA : nth L i = some A) (h : ∀ h : Hp, (∀ k o, h k = some o → B.n ≤ k) → A h → φ) (k : φ → WC P B n ds ro c Q E L) : WC P B n ds ro c Q E L :=
  fun a w hE hS => k (sat_fact hS i hA h) a w hE hS
theorem wl_fact {φ : Prop} {A : Assn} (i : Nat) (hA : nth L i = some A) (h : ∀ h : Hp, (∀ k o, h k = some o → B.n ≤ k) → A h → φ) (k : φ → WL P B n ds ro ops Q rest E L) : WL P B n ds ro ops Q rest E L :=
  fun a w hE hS => k (sat_fact hS i hA h) a w hE hS
theorem at_fact {x : Exit} {φ : Prop} {A : Assn} (i : Nat) (hA : nth L i = some A) (h : ∀ h : Hp, (∀ k o, h k = some o → B.n ≤ k) → A h → φ) (k : φ → AtX B n ds Q x E L) : AtX B n ds Q x E L :=
  fun a w hE hS => k (sat_fact hS i hA h) a w hE hS

theorem row_some {e : TypeId} {sz : Nat} {v : Value} {m : Nat} {xs : List Value} (hm : 0 < m) (h : Hp) (_ : ∀ k o, h k = some o → B.n ≤ k) (hr : row e sz v m xs h) : ∃ g cap, v = .slice (some ⟨g, 0, none⟩) m cap := by
  obtain ⟨_, (⟨rfl, rfl⟩ | ⟨g, cap, cur, rfl, _⟩)⟩ := hr
  · omega
  · exact ⟨g, cap, rfl⟩
theorem row_any {e : TypeId} {sz : Nat} {v : Value} {m : Nat} {xs : List Value} (h : Hp) (_ : ∀ k o, h k = some o → B.n ≤ k) (hr : row e sz v m xs h) : (v = .slice none 0 0 ∧ m = 0) ∨ ∃ g cap, v = .slice (some ⟨g, 0, none⟩) m cap := by
  obtain ⟨_, (⟨rfl, rfl⟩ | ⟨g, cap, cur, rfl, _⟩)⟩ := hr
  · exact .inl ⟨rfl, rfl⟩
  · exact .inr ⟨g, cap, rfl⟩
theorem row_length {e : TypeId} {sz : Nat} {v : Value} {m : Nat} {xs : List Value} (h : Hp) (_ : ∀ k o, h k = some o → B.n ≤ k) (hr : row e sz v m xs h) : xs.length = m * sz := hr.1

/-- A cut: what holds between two codes. -/
theorem wc_seq_mid {x y : Code} {α : Type} (φ : α → Prop) (Ef : α → List (Nat × Value)) (Lf : α → List Assn)
    (h : WC P B n ds ro x (Exit.then (fun a' w' => ∃ z, φ z ∧ Env n ds (Ef z) a' ∧ Sat B (Lf z) w') Q) E L) (k : ∀ z, φ z → WC P B n ds ro y Q (Ef z) (Lf z)) : WC P B n ds ro (.seq x y) Q E L :=
  wc_seq_cut _ h fun a w ⟨z, h1, h2, h3⟩ => k z h1 a w h2 h3
theorem at_mid {α : Type} {φ : α → Prop} {Ef : α → List (Nat × Value)} {Lf : α → List Assn} (y : α) (h1 : φ y) (hE : known E (Ef y)) (hL : L = Lf y) :
    AtX B n ds (Exit.then (fun a' w' => ∃ z, φ z ∧ Env n ds (Ef z) a' ∧ Sat B (Lf z) w') Q) .normal E L :=
  fun a w hEn hS => ⟨y, h1, hEn.sub hE, hL ▸ hS⟩

variable {dst : Option Tmp} {ty : TypeId} {pos : String} {after : Array Edge} {guard : Option (Nat × Bool)} {x y : Operand} {v u : Value} {t s e : TypeId} {k : IntKind} {i j r : Int}
theorem do_rem {ty2 : TypeId} (hx : ev E x = some (.int k i)) (hy : ev E y = some (.int k j)) (hj : ¬ j = 0) (hr : i.tmod j = r) :
    Do1 P B n ds ro ⟨dst, .binOp .rem t x y ty2, ty, pos, after, guard⟩ E L (.int k r) L := do_pure fun a w hE => by
  subst hr
  simp [execOp, eqGuard, binOp, hE.eval hx, hE.eval hy, Op.intDiv, hj]
theorem do_quo {ty2 : TypeId} (hx : ev E x = some (.int k i)) (hy : ev E y = some (.int k j)) (hj : ¬ j = 0) (hr : k.wrap (i.tdiv j) = r) :
    Do1 P B n ds ro ⟨dst, .binOp .quo t x y ty2, ty, pos, after, guard⟩ E L (.int k r) L := do_pure fun a w hE => by
  subst hr
  simp [execOp, eqGuard, binOp, hE.eval hx, hE.eval hy, Op.intDiv, hj]
theorem rem_rng (i k : Int) (hk : 0 < k) : -k < i.tmod k ∧ i.tmod k < k ∧ (0 ≤ i → 0 ≤ i.tmod k) := by
  have h1 := Int.tmod_lt_of_pos i hk
  have h2 := Int.tmod_lt_of_pos (-i) hk
  rw [Int.neg_tmod] at h2
  exact ⟨by omega, h1, fun h => Int.tmod_nonneg _ h⟩
theorem str_at {X : List ByteArray} {j : Nat} {y : ByteArray} (h : X[j]? = some y) : (X.map Value.string)[j]? = some (.string y) := by rw [List.getElem?_map, h]; rfl
end
end Go.Proofs.Ytmefejfnddcelaa
