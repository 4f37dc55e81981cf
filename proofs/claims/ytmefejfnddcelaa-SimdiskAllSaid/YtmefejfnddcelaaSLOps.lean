/- The rules for single operations, over lists of assertions and a list of known slots. -/
import Derived.Test.YtmefejfnddcelaaSLCore
import Derived.LoopNIn
import Derived.TacticsIn
import Derived.OrdersIn
import Derived.CallsIn
import Derived.RangeFuncIn
namespace Go.Proofs.Ytmefejfnddcelaa

def look : List (Nat × Value) → Nat → Option Value
  | [], _ => none
  | (d, v) :: E, t => bif Nat.beq d t then some v else look E t

def ev (E : List (Nat × Value)) : Operand → Option Value
  | .tmp t => look E t
  | .const v => some v
  | .global g => some (.pointer (some ⟨g, 0, none⟩))
  | .func f => some (.func (.func f) #[] #[])

def evs (E : List (Nat × Value)) : List Operand → List Value → Prop
  | [], [] => True
  | x :: xs, v :: vs => ev E x = some v ∧ evs E xs vs
  | _, _ => False

def put (dst : Option Tmp) (v : Value) (E : List (Nat × Value)) : List (Nat × Value) :=
  match dst with
  | some d => (d, v) :: E
  | none => E

def dstOk (dst : Option Tmp) (n : Nat) : Bool :=
  match dst with
  | some d => Nat.blt d n
  | none => true

structure Env (n : Nat) (ds : List Deferred) (E : List (Nat × Value)) (a : Act) : Prop where
  size : a.tmps.size = n
  defers : a.defers = ds
  get : ∀ d v, look E d = some v → a.tmps[d]? = some v

/-- All rows of E' are known by E. -/
def known (E : List (Nat × Value)) : List (Nat × Value) → Prop
  | [] => True
  | (d, v) :: E' => look E d = some v ∧ known E E'

section env
variable {n : Nat} {ds : List Deferred} {E E' : List (Nat × Value)} {a : Act}

theorem look_known (h : known E E') : ∀ d v, look E' d = some v → look E d = some v := by
  induction E' with
  | nil => intro d v h; simp [look] at h
  | cons p E' ih =>
    obtain ⟨d0, v0⟩ := p
    intro d v hd
    simp only [look] at hd
    cases hb : Nat.beq d0 d with
    | true =>
      rw [hb] at hd
      simp at hd
      subst hd
      have := Nat.eq_of_beq_eq_true hb
      subst this
      exact h.1
    | false =>
      rw [hb] at hd
      exact ih h.2 d v hd

theorem Env.sub (h : Env n ds E a) (hk : known E E') : Env n ds E' a := ⟨h.size, h.defers, fun d v hd => h.get d v (look_known hk d v hd)⟩

theorem Env.eval (h : Env n ds E a) {x : Operand} {v : Value} (hx : ev E x = some v) : a.eval x = v := by
  cases x with
  | tmp t => have := h.get t v hx; simp [Act.eval, this]
  | const v => simpa [ev, Act.eval] using hx
  | global g => simpa [ev, Act.eval] using hx
  | func f => simpa [ev, Act.eval] using hx

theorem Env.evals (h : Env n ds E a) {xs : List Operand} {vs : List Value} (hx : evs E xs vs) : xs.map a.eval = vs := by
  induction xs generalizing vs with
  | nil => cases vs with
    | nil => rfl
    | cons => exact hx.elim
  | cons x xs ih => cases vs with
    | nil => exact hx.elim
    | cons v vs => rw [List.map_cons, h.eval hx.1, ih hx.2]

theorem Env.put (h : Env n ds E a) {dst : Option Tmp} (hd : dstOk dst n = true) (v : Value) : Env n ds (put dst v E) (a.put dst v) := by
  cases dst with
  | none => exact h
  | some d =>
    have hlt : d < n := Nat.le_of_ble_eq_true (show Nat.ble (d + 1) n = true from hd)
    refine ⟨by simpa [Act.put] using h.size, h.defers, fun t u ht => ?_⟩
    simp only [Go.Proofs.Ytmefejfnddcelaa.put, look] at ht
    cases hb : Nat.beq d t with
    | true =>
      rw [hb] at ht
      simp at ht
      have := Nat.eq_of_beq_eq_true hb
      subst this
      subst ht
      simp [Act.put, h.size, hlt]
    | false =>
      rw [hb] at ht
      have hne : d ≠ t := Nat.ne_of_beq_eq_false hb
      simp only [Act.put, Array.getElem?_setIfInBounds_ne hne]
      exact h.get t u ht
end env

/-- No fence; in a round of a range over a function, or not. -/
abbrev fz (ro : Option Nat) : Fence := { Fence.wide with round := ro }

theorem calls_fz {ro : Option Nat} {m : Nat} {P : Program} {f : FuncId} {args : Array Value} {w : World} {R : Ending → World → Prop} (h : Calls P f args w R) : CallsIn (fz ro) m P f args w R :=
  show CallsIn Fence.wide m P f args w R from callsIn_wide.2 h
theorem fz_calls {ro : Option Nat} {m : Nat} {P : Program} {f : FuncId} {args : Array Value} {w : World} {R : Ending → World → Prop} (h : CallsIn (fz ro) m P f args w R) : Calls P f args w R :=
  callsIn_wide.1 (show CallsIn Fence.wide m P f args w R from h)

section judge
variable (P : Program) (B : Ctx) (n : Nat) (ds : List Deferred) (ro : Option Nat)

/-- One operation: whatever the frame, if it bears these slots, and the memory these assertions. -/
def Do (o : Oper) (E : List (Nat × Value)) (L : List Assn) (post : Value → List Assn → Prop) : Prop :=
  ∀ (a : Act) (w : World), Env n ds E a → Sat B L w → ∀ (K : Act → World → Prop) (Q : Exit → Act → World → Prop),
    (∀ v M w', post v M → Sat B M w' → K (a.put o.dst v) w') → o.wpIn (fz ro) 0 P a w K Q

/-- One operation with one result. -/
def Do1 (o : Oper) (E : List (Nat × Value)) (L : List Assn) (v : Value) (M : List Assn) : Prop :=
  Do P B n ds ro o E L fun u N => u = v ∧ N = M

def WL (ops : Array Oper) (Q : Exit → Act → World → Prop) (rest : List Oper) (E : List (Nat × Value)) (L : List Assn) : Prop :=
  ∀ a w, Env n ds E a → Sat B L w → wpListIn (fz ro) 0 P ops Q rest a w

def WC (c : Code) (Q : Exit → Act → World → Prop) (E : List (Nat × Value)) (L : List Assn) : Prop :=
  ∀ a w, Env n ds E a → Sat B L w → c.wpIn (fz ro) 0 P Q a w

def AtX (Q : Exit → Act → World → Prop) (x : Exit) (E : List (Nat × Value)) (L : List Assn) : Prop :=
  ∀ a w, Env n ds E a → Sat B L w → Q x a w

/-- Its guard lets it run. -/
def wants (ops : Array Oper) (o : Oper) (E : List (Nat × Value)) : Prop :=
  match o.guard with
  | none => True
  | some (j, want) => ∃ g, (ops[j]?).bind (·.dst) = some g ∧ look E g = some (.bool want)
end judge

section rules
variable {P : Program} {B : Ctx} {n : Nat} {ds : List Deferred} {ro : Option Nat} {E E' : List (Nat × Value)} {L L' M : List Assn} {o : Oper} {ops : Array Oper} {rest : List Oper}
  {Q : Exit → Act → World → Prop}

theorem wpIn_loop_ghost {F : Fence} {m : Nat} {a : Act} {w : World} {c : Code} (I : Nat → Act → World → Prop) (n₀ : Nat) (h₀ : I n₀ a w)
    (round : ∀ n a w, I n a w → c.wpIn F m P (Exit.then (fun a' w' => ∃ n', n' < n ∧ I n' a' w') Q) a w) : (Code.loop c).wpIn F m P Q a w := by
  refine wpIn_loop (fun a w => ∃ n, I n a w) (fun a w => leastOf (fun n => I n a w)) ⟨n₀, h₀⟩ ?_
  intro a w hI
  refine wpIn_mono (round _ a w (leastOf_spec hI).1) ?_
  intro e a' w' hq
  cases e with
  | normal =>
    obtain ⟨n', hlt, hI'⟩ := hq
    exact show (∃ n, I n a' w') ∧ leastOf (fun n => I n a' w') < leastOf (fun n => I n a w) from ⟨⟨n', hI'⟩, Nat.lt_of_le_of_lt ((leastOf_spec ⟨n', hI'⟩).2 n' hI') hlt⟩
  | exit id => exact hq
  | goto l => exact hq
  | ret => exact hq
  | panic chain => exact hq
  | outgrown => exact hq

theorem wants_wanted {a : Act} (h : wants ops o E) (hE : Env n ds E a) : Region.wanted o (yielded ops a.tmps) = true := by
  unfold wants at h
  unfold Region.wanted
  cases hg : o.guard with
  | none => rfl
  | some p =>
    obtain ⟨j, want⟩ := p
    rw [hg] at h
    obtain ⟨g, h1, h2⟩ := h
    have := hE.get g _ h2
    simp [yielded, h1, this]

theorem wl_do {post : Value → List Assn → Prop} (hw : wants ops o E) (hd : dstOk o.dst n = true) (h : Do P B n ds ro o E L post)
    (k : ∀ v M, post v M → WL P B n ds ro ops Q rest (put o.dst v E) M) : WL P B n ds ro ops Q (o :: rest) E L := by
  intro a w hE hS
  unfold wpListIn
  rw [if_pos (wants_wanted hw hE)]
  exact h a w hE hS _ _ fun v M w' hp hS' => k v M hp _ _ (hE.put hd v) hS'

theorem wl_1 {v : Value} (hw : wants ops o E) (hd : dstOk o.dst n = true) (h : Do1 P B n ds ro o E L v M)
    (k : WL P B n ds ro ops Q rest (put o.dst v E) M) : WL P B n ds ro ops Q (o :: rest) E L :=
  wl_do hw hd h fun _ _ ⟨h1, h2⟩ => by subst h1; subst h2; exact k

/-- The guard says no. -/
theorem wl_no {j g : Nat} {want b : Bool} (hg : o.guard = some (j, want)) (hj : (ops[j]?).bind (·.dst) = some g) (hb : look E g = some (.bool b)) (hne : (b == want) = false)
    (hd : dstOk o.dst n = true) (k : WL P B n ds ro ops Q rest (put o.dst undef E) L) : WL P B n ds ro ops Q (o :: rest) E L := by
  intro a w hE hS
  unfold wpListIn
  rw [if_neg ?_]
  · exact ⟨fun _ _ => trivial, k _ _ (hE.put hd undef) hS⟩
  · have := hE.get g _ hb
    simp only [Region.wanted, hg, yielded, hj, Option.bind_some, this]
    intro h
    have h2 : (some b == some want) = false := by simpa using hne
    rw [h2] at h
    cases h

/-- The guard's own operation was not done. -/
theorem wl_noU {j g : Nat} {want : Bool} (hg : o.guard = some (j, want)) (hj : (ops[j]?).bind (·.dst) = some g) (hb : look E g = some undef)
    (hd : dstOk o.dst n = true) (k : WL P B n ds ro ops Q rest (put o.dst undef E) L) : WL P B n ds ro ops Q (o :: rest) E L := by
  intro a w hE hS
  unfold wpListIn
  rw [if_neg ?_]
  · exact ⟨fun _ _ => trivial, k _ _ (hE.put hd undef) hS⟩
  · have := hE.get g _ hb
    simp only [Region.wanted, hg, yielded, hj, Option.bind_some, this]
    intro h
    cases h

theorem wl_nil (h : AtX B n ds Q .normal E L) : WL P B n ds ro ops Q [] E L := fun a w hE hS => h a w hE hS

/-! code -/
theorem wc_region {id : Nat} {l : List Oper} (h : WL P B n ds ro l.toArray Q l E L) : WC P B n ds ro (Code.region id l.toArray false) Q E L :=
  fun a w hE hS => wpIn_region_lit (h a w hE hS)
theorem wc_seq {x y : Code} (h : WC P B n ds ro x (Exit.then (y.wpIn (fz ro) 0 P Q) Q) E L) : WC P B n ds ro (.seq x y) Q E L :=
  fun a w hE hS => wpIn_seq (h a w hE hS)
theorem wc_seq_cut {x y : Code} (I : Act → World → Prop) (h : WC P B n ds ro x (Exit.then I Q) E L) (k : ∀ a w, I a w → y.wpIn (fz ro) 0 P Q a w) : WC P B n ds ro (.seq x y) Q E L :=
  fun a w hE hS => wpIn_seq (wpIn_mono (h a w hE hS) fun e a w q => by cases e <;> first | exact k _ _ q | exact q)
theorem wc_true {c : Operand} {x y : Code} (hc : ev E c = some (.bool true)) (h : WC P B n ds ro x Q E L) : WC P B n ds ro (.cond c x y) Q E L :=
  fun a w hE hS => wpIn_cond_true (hE.eval hc) (h a w hE hS)
theorem wc_false {c : Operand} {x y : Code} (hc : ev E c = some (.bool false)) (h : WC P B n ds ro y Q E L) : WC P B n ds ro (.cond c x y) Q E L :=
  fun a w hE hS => wpIn_cond_false (hE.eval hc) (h a w hE hS)
theorem wc_block {id : Nat} {c : Code} (h : WC P B n ds ro c (Exit.inBlock id Q) E L) : WC P B n ds ro (.block id c) Q E L :=
  fun a w hE hS => wpIn_block (h a w hE hS)
theorem wc_skip (h : AtX B n ds Q .normal E L) : WC P B n ds ro .skip Q E L := fun a w hE hS => wpIn_skip (h a w hE hS)
theorem wc_ret (h : AtX B n ds Q .ret E L) : WC P B n ds ro .ret Q E L := fun a w hE hS => wpIn_ret (h a w hE hS)
theorem wc_exit {id : Nat} (h : AtX B n ds Q (.exit id) E L) : WC P B n ds ro (.exit id) Q E L := fun a w hE hS => wpIn_exit (h a w hE hS)

/-- A loop: what holds at each round's head, by a number that goes down. -/
theorem wc_loop {α : Type} {c : Code} (φ : α → Prop) (Ef : α → List (Nat × Value)) (Lf : α → List Assn) (μ : α → Nat) (x0 : α) (h0 : φ x0)
    (hE : known E (Ef x0)) (hL : L = Lf x0)
    (round : ∀ x, φ x → WC P B n ds ro c (Exit.then (fun a' w' => ∃ y, φ y ∧ μ y < μ x ∧ Env n ds (Ef y) a' ∧ Sat B (Lf y) w') Q) (Ef x) (Lf x)) :
    WC P B n ds ro (.loop c) Q E L := by
  intro a w hEn hS
  subst hL
  refine wpIn_loop_ghost (fun m a w => ∃ x, μ x = m ∧ φ x ∧ Env n ds (Ef x) a ∧ Sat B (Lf x) w) (μ x0) ⟨x0, rfl, h0, hEn.sub hE, hS⟩ ?_
  rintro m a w ⟨x, rfl, hx, hEx, hSx⟩
  refine wpIn_mono (round x hx a w hEx hSx) ?_
  intro e a' w' q
  cases e with
  | normal => obtain ⟨y, h1, h2, h3, h4⟩ := q; exact ⟨μ y, h2, y, rfl, h1, h3, h4⟩
  | exit id => exact q
  | goto l => exact q
  | ret => exact q
  | panic c => exact q
  | outgrown => exact q

theorem at_round {α : Type} {φ : α → Prop} {Ef : α → List (Nat × Value)} {Lf : α → List Assn} {μ : α → Nat} {m : Nat} (y : α) (h1 : φ y) (h2 : μ y < m) (hE : known E (Ef y)) (hL : L = Lf y) :
    AtX B n ds (Exit.then (fun a' w' => ∃ y, φ y ∧ μ y < m ∧ Env n ds (Ef y) a' ∧ Sat B (Lf y) w') Q) .normal E L :=
  fun a w hEn hS => ⟨y, h1, h2, hEn.sub hE, hL ▸ hS⟩

/-- A loop's first rounds, laid out. -/
theorem wc_rounds {c : Code} (m : Nat) (h : WC P B n ds ro c (Exit.then (Code.roundsIn (fz ro) 0 P c Q m) Q) E L) : WC P B n ds ro (.loop c) Q E L :=
  fun a w hE hS => wpIn_loop_rounds (m + 1) (h a w hE hS)
theorem at_rounds {c : Code} {m : Nat} (h : WC P B n ds ro c (Exit.then (Code.roundsIn (fz ro) 0 P c Q m) Q) E L) : AtX B n ds (Exit.then (Code.roundsIn (fz ro) 0 P c Q (m + 1)) Q) .normal E L :=
  fun a w hE hS => h a w hE hS

theorem at_then {y : Code} {R : Exit → Act → World → Prop} (h : WC P B n ds ro y Q E L) : AtX B n ds (Exit.then (y.wpIn (fz ro) 0 P Q) R) .normal E L := fun a w hE hS => h a w hE hS
theorem at_then_exit {K : Act → World → Prop} {id : Nat} (h : AtX B n ds Q (.exit id) E L) : AtX B n ds (Exit.then K Q) (.exit id) E L := fun a w hE hS => h a w hE hS
theorem at_then_ret {K : Act → World → Prop} (h : AtX B n ds Q .ret E L) : AtX B n ds (Exit.then K Q) .ret E L := fun a w hE hS => h a w hE hS
theorem at_block {id : Nat} (h : AtX B n ds Q .normal E L) : AtX B n ds (Exit.inBlock id Q) .normal E L := fun a w hE hS => h a w hE hS
theorem at_block_ret {id : Nat} (h : AtX B n ds Q .ret E L) : AtX B n ds (Exit.inBlock id Q) .ret E L := fun a w hE hS => h a w hE hS
theorem at_block_it {id : Nat} (h : AtX B n ds Q .normal E L) : AtX B n ds (Exit.inBlock id Q) (.exit id) E L := fun a w hE hS => by
  show (if id = id then _ else _)
  rw [if_pos rfl]; exact h a w hE hS
theorem at_block_other {id id' : Nat} (hne : Nat.beq id' id = false) (h : AtX B n ds Q (.exit id') E L) : AtX B n ds (Exit.inBlock id Q) (.exit id') E L := fun a w hE hS => by
  show (if id' = id then _ else _)
  rw [if_neg (Nat.ne_of_beq_eq_false hne)]; exact h a w hE hS

theorem at_pick {x : Exit} {M : List Assn} (is : List Nat) (hp : picks L is M) (hn : is.Nodup) (h : AtX B n ds Q x E M) : AtX B n ds Q x E L := fun a w hE hS => h a w hE (hS.pick is hp hn)
theorem at_mem {x : Exit} (hL : ∀ w, Sat B L w → Sat B L' w) (h : AtX B n ds Q x E L') : AtX B n ds Q x E L := fun a w hE hS => h a w hE (hL w hS)
theorem at_less {x : Exit} (hE : known E E') (h : AtX B n ds Q x E' L) : AtX B n ds Q x E L := fun a w hEn hS => h a w (hEn.sub hE) hS

/-- Fewer slots, other assertions. -/
theorem wc_less {c : Code} (hE : known E E') (hL : ∀ w, Sat B L w → Sat B L' w) (h : WC P B n ds ro c Q E' L') : WC P B n ds ro c Q E L :=
  fun a w hEn hS => h a w (hEn.sub hE) (hL w hS)
theorem wl_less (hE : known E E') (hL : ∀ w, Sat B L w → Sat B L' w) (h : WL P B n ds ro ops Q rest E' L') : WL P B n ds ro ops Q rest E L :=
  fun a w hEn hS => h a w (hEn.sub hE) (hL w hS)
theorem wc_mem {c : Code} (hL : ∀ w, Sat B L w → Sat B L' w) (h : WC P B n ds ro c Q E L') : WC P B n ds ro c Q E L :=
  fun a w hEn hS => h a w hEn (hL w hS)
theorem wl_mem (hL : ∀ w, Sat B L w → Sat B L' w) (h : WL P B n ds ro ops Q rest E L') : WL P B n ds ro ops Q rest E L :=
  fun a w hEn hS => h a w hEn (hL w hS)
theorem wl_open {α : Type} {φ : α → Prop} {Lf : α → List Assn} (hL : ∀ w, Sat B L w → ∃ x, φ x ∧ Sat B (Lf x) w) (h : ∀ x, φ x → WL P B n ds ro ops Q rest E (Lf x)) : WL P B n ds ro ops Q rest E L :=
  fun a w hEn hS => let ⟨x, hx, hS'⟩ := hL w hS; h x hx a w hEn hS'
theorem wc_open {c : Code} {α : Type} {φ : α → Prop} {Lf : α → List Assn} (hL : ∀ w, Sat B L w → ∃ x, φ x ∧ Sat B (Lf x) w) (h : ∀ x, φ x → WC P B n ds ro c Q E (Lf x)) : WC P B n ds ro c Q E L :=
  fun a w hEn hS => let ⟨x, hx, hS'⟩ := hL w hS; h x hx a w hEn hS'
end rules

/-! calls -/
section calls
variable {P : Program} {B : Ctx}

/-- A function's contract: from what memory bears it returns, and what memory bears then; whatever else it bears stays. -/
def Tri (P : Program) (B : Ctx) (f : FuncId) (args : Array Value) (pre : List Assn) (post : Value → List Assn → Prop) : Prop :=
  ∀ (F : Assn) (w : World), Sat B (pre ++ [F]) w → Calls P f args w fun e w' => ∃ v M, e = .returned v ∧ post v M ∧ Sat B (M ++ [F]) w'

def RPost (B : Ctx) (F : Assn) (post : Value → List Assn → Prop) (e : Ending) (w' : World) : Prop := ∃ v M, e = .returned v ∧ post v M ∧ Sat B (M ++ [F]) w'

def slots : Nat → List Value → List (Nat × Value)
  | _, [] => []
  | i, v :: vs => (i, v) :: slots (i + 1) vs

theorem look_slots (vs : List Value) : ∀ (i d : Nat) (v : Value), look (slots i vs) d = some v → i ≤ d ∧ vs[d - i]? = some v := by
  induction vs with
  | nil => intro i d v h; simp [slots, look] at h
  | cons x vs ih =>
    intro i d v h
    simp only [slots, look] at h
    cases hb : Nat.beq i d with
    | true =>
      rw [hb] at h
      have := Nat.eq_of_beq_eq_true hb
      subst this
      simpa using h
    | false =>
      rw [hb] at h
      have hne : i ≠ d := Nat.ne_of_beq_eq_false hb
      obtain ⟨h1, h2⟩ := ih (i + 1) d v h
      have he : d - i = (d - (i + 1)) + 1 := by omega
      exact ⟨by omega, by rw [he]; simpa using h2⟩

theorem tri_body {f : FuncId} {fn : Func} {c : Code} {args : List Value} {pre : List Assn} {post : Value → List Assn → Prop}
    {n : Nat} (hf : P.funcs[f]? = some fn) (hb : fn.body = some c) (hn2 : fn.ntmps = n) (hn : Nat.ble args.length n = true)
    (h : ∀ F, WC P B n [] none c (bodyPost P fn (RPost B F post)) (slots 0 args) (pre ++ [F])) : Tri P B f args.toArray pre post := by
  subst hn2
  intro F w hS
  refine (callsIn_wide (n := 0)).1 (callsIn_of_wp hf hb trivial (h F _ w ⟨?_, rfl, ?_⟩ hS))
  · have := Nat.le_of_ble_eq_true hn
    simp
    omega
  · intro d v hd
    obtain ⟨h1, h2⟩ := look_slots args 0 d v hd
    have hl := (List.getElem?_eq_some_iff.1 h2).1
    simp only [Nat.sub_zero] at h2 hl
    rw [Array.getElem?_append_left (by simpa using hl)]
    simpa using h2

theorem at_ret1 {n : Nat} {fn : Func} {t : Tmp} {F : Assn} {post : Value → List Assn → Prop} {E : List (Nat × Value)} {L M : List Assn} {v : Value}
    (hr : fn.results = #[.tmp t]) (hv : look E t = some v) (hp : post v M) (hL : L = M ++ [F]) : AtX B n [] (bodyPost P fn (RPost B F post)) .ret E L := by
  intro a w hE hS
  refine ⟨hE.defers, v, ?_, v, M, rfl, hp, hL ▸ hS⟩
  rw [results_tmp hr]
  have := hE.get t v hv
  simp [this]

theorem at_ret2 {n : Nat} {fn : Func} {t u : Tmp} {F : Assn} {post : Value → List Assn → Prop} {E : List (Nat × Value)} {L M : List Assn} {v v2 : Value}
    (hr : fn.results = #[.tmp t, .tmp u]) (hv : look E t = some v) (hv2 : look E u = some v2) (hp : post (.tuple #[v, v2]) M) (hL : L = M ++ [F]) : AtX B n [] (bodyPost P fn (RPost B F post)) .ret E L := by
  intro a w hE hS
  refine ⟨hE.defers, .tuple #[v, v2], ?_, _, M, rfl, hp, hL ▸ hS⟩
  rw [results_tmp2 hr]
  have h1 := hE.get t v hv
  have h2 := hE.get u v2 hv2
  simp [h1, h2]

theorem results_tmp3' {fn : Func} {t u x : Tmp} (h : fn.results = #[.tmp t, .tmp u, .tmp x]) (tmps : Array Value) (P : Program) (w : World) :
    (results fn tmps).run P w = .ok (.tuple #[tmps.getD t undef, tmps.getD u undef, tmps.getD x undef]) w := by
  simp [results, h]

theorem at_ret3 {n : Nat} {fn : Func} {t u x : Tmp} {F : Assn} {post : Value → List Assn → Prop} {E : List (Nat × Value)} {L M : List Assn} {v v2 v3 : Value}
    (hr : fn.results = #[.tmp t, .tmp u, .tmp x]) (hv : look E t = some v) (hv2 : look E u = some v2) (hv3 : look E x = some v3) (hp : post (.tuple #[v, v2, v3]) M) (hL : L = M ++ [F]) :
    AtX B n [] (bodyPost P fn (RPost B F post)) .ret E L := by
  intro a w hE hS
  refine ⟨hE.defers, .tuple #[v, v2, v3], ?_, _, M, rfl, hp, hL ▸ hS⟩
  rw [results_tmp3' hr]
  have h1 := hE.get t v hv
  have h2 := hE.get u v2 hv2
  have h3 := hE.get x v3 hv3
  simp [h1, h2, h3]

theorem at_ret0 {n : Nat} {fn : Func} {F : Assn} {post : Value → List Assn → Prop} {E : List (Nat × Value)} {L M : List Assn}
    (hr : fn.results = #[]) (hp : post (.tuple #[]) M) (hL : L = M ++ [F]) : AtX B n [] (bodyPost P fn (RPost B F post)) .ret E L := by
  intro a w hE hS
  exact ⟨hE.defers, .tuple #[], results_none hr _ _ _, _, M, rfl, hp, hL ▸ hS⟩
theorem at_end0 {n : Nat} {fn : Func} {F : Assn} {post : Value → List Assn → Prop} {E : List (Nat × Value)} {L M : List Assn}
    (hr : fn.results = #[]) (hp : post (.tuple #[]) M) (hL : L = M ++ [F]) : AtX B n [] (bodyPost P fn (RPost B F post)) .normal E L := by
  intro a w hE hS
  exact ⟨hE.defers, .tuple #[], results_none hr _ _ _, _, M, rfl, hp, hL ▸ hS⟩

theorem star_join {L1 L2 : List Assn} {w : World} (h : Sat B (L1 ++ L2) w) : Sat B (L1 ++ [Star L2]) w := by
  obtain ⟨he, own, ho⟩ := h
  obtain ⟨g, hg⟩ : ∃ g : Nat → Nat, ∀ k, g k = (if own k < L1.length then own k else L1.length) := ⟨_, fun _ => rfl⟩
  refine ⟨he, g, fun i C hC => ?_⟩
  by_cases hi : i < L1.length
  · rw [List.getElem?_append_left hi] at hC
    refine (congrArg C (part_congr fun k => ?_)).mp (ho i C (by rwa [List.getElem?_append_left hi]))
    by_cases hk : own k = i ∧ B.n ≤ k
    · exact .inl ⟨hk, ⟨by rw [hg, if_pos (by omega)]; exact hk.1, hk.2⟩, rfl⟩
    · refine .inr (.inl ⟨hk, fun x => hk ⟨?_, x.2⟩⟩)
      have := x.1
      rw [hg] at this
      split at this <;> omega
  · rw [List.getElem?_append_right (by omega)] at hC
    have h0 : i - L1.length = 0 := by
      have := (List.getElem?_eq_some_iff.1 hC).1
      simp at this
      omega
    have hi2 : i = L1.length := by omega
    subst hi2
    simp at hC
    subst hC
    obtain ⟨g2, hg2⟩ : ∃ g2 : Nat → Nat, ∀ k, g2 k = own k - L1.length + (if own k < L1.length then L2.length else 0) := ⟨_, fun _ => rfl⟩
    refine ⟨g2, fun j D hD => ?_⟩
    have hj := (List.getElem?_eq_some_iff.1 hD).1
    refine (congrArg D ?_).mp (ho (L1.length + j) D (by rw [List.getElem?_append_right (by omega)]; simpa using hD))
    funext k
    unfold part
    by_cases hk : own k = L1.length + j
    · rw [if_pos (show g2 k = j by rw [hg2, if_neg (by omega)]; omega)]
      by_cases hn : B.n ≤ k
      · rw [if_pos ⟨hk, hn⟩, if_pos ⟨by rw [hg, if_neg (by omega)], hn⟩]
      · rw [if_neg (fun x => hn x.2), if_neg (fun x => hn x.2)]
    · rw [if_neg (fun x => hk x.1)]
      split
      · rename_i hh
        rw [if_neg]
        intro x
        have h1 := x.1
        rw [hg] at h1
        split at h1
        · omega
        · rw [hg2, if_neg ‹_›] at hh; omega
      · rfl

theorem star_split {L1 L2 : List Assn} {w : World} (h : Sat B (L1 ++ [Star L2]) w) : Sat B (L1 ++ L2) w := by
  obtain ⟨he, own, ho⟩ := h
  obtain ⟨own2, h2⟩ := ho L1.length (Star L2) (by simp)
  obtain ⟨g, hg⟩ : ∃ g : Nat → Nat, ∀ k, g k = (if own k < L1.length then own k else if own k = L1.length then L1.length + own2 k else L1.length + L2.length + own k) := ⟨_, fun _ => rfl⟩
  refine ⟨he, g, fun i C hC => ?_⟩
  by_cases hi : i < L1.length
  · rw [List.getElem?_append_left hi] at hC
    refine (congrArg C (part_congr fun k => ?_)).mp (ho i C (by rwa [List.getElem?_append_left hi]))
    by_cases hk : own k = i ∧ B.n ≤ k
    · exact .inl ⟨hk, ⟨by rw [hg, if_pos (by omega)]; exact hk.1, hk.2⟩, rfl⟩
    · refine .inr (.inl ⟨hk, fun x => hk ⟨?_, x.2⟩⟩)
      have := x.1
      rw [hg] at this
      split at this
      · omega
      · split at this <;> omega
  · rw [List.getElem?_append_right (by omega)] at hC
    have hj := (List.getElem?_eq_some_iff.1 hC).1
    refine (congrArg C ?_).mp (h2 (i - L1.length) C hC)
    funext k
    unfold part
    by_cases hk : own2 k = i - L1.length
    · rw [if_pos hk]
      by_cases hn : own k = L1.length ∧ B.n ≤ k
      · rw [if_pos hn, if_pos ⟨by rw [hg, if_neg (by omega), if_pos hn.1]; omega, hn.2⟩]
      · rw [if_neg hn, if_neg]
        intro x
        have h1 := x.1
        rw [hg] at h1
        split at h1
        · omega
        · split at h1
          · exact hn ⟨‹_›, x.2⟩
          · omega
    · rw [if_neg hk, if_neg]
      intro x
      have h1 := x.1
      rw [hg] at h1
      split at h1
      · omega
      · split at h1 <;> omega
end calls
end Go.Proofs.Ytmefejfnddcelaa
