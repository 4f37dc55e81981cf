/- A region whose order is drawn: quiet operations in whatever order, and a chain of operations that turn memory. -/
import Derived.Test.YtmefejfnddcelaaSLPrims
namespace Go.Proofs.Ytmefejfnddcelaa

section
variable {P : Program} {B : Ctx} {n : Nat} {ds : List Deferred} {ro : Option Nat} {ops : Array Oper} {Q : Exit → Act → World → Prop}

def upd (S : Nat → Bool) (i : Nat) : Nat → Bool := fun j => if j = i then true else S j

/-- Each edge leads back. -/
def backOk (ops : Array Oper) : Bool :=
  (List.range ops.size).all fun i => match ops[i]? with
    | some o => o.after.toList.all fun e => !Region.binds .any e || Nat.blt e.on i
    | none => true

theorem back_of (h : backOk ops = true) {i : Nat} {o : Oper} (hi : ops[i]? = some o) {e : Edge} (he : e ∈ o.after) (hbe : Region.binds .any e = true) : e.on < i := by
  have hlt := (Array.getElem?_eq_some_iff.1 hi).1
  have h1 := List.all_eq_true.1 h i (List.mem_range.2 hlt)
  rw [hi] at h1
  have h2 := List.all_eq_true.1 h1 e (by simpa using he)
  rw [hbe] at h2
  simp only [Bool.not_true, Bool.false_or] at h2
  exact Nat.le_of_ble_eq_true h2

theorem wc_any {id : Nat} {a : Act} {w : World} (hm : P.follows .mixedOrders = true) (hb : backOk ops = true) (J : (Nat → Bool) → Act → World → Prop)
    (h0 : J (fun _ => false) a { w with drawn := w.drawn + 1 })
    (hstep : ∀ S i o a w, ops[i]? = some o → J S a w → S i = false → (∀ e ∈ o.after, Region.binds .any e = true → S e.on = true) →
      (∀ j o', ops[j]? = some o' → S j = true → ∀ e ∈ o'.after, Region.binds .any e = true → S e.on = true) → (∀ j, ops.size ≤ j → S j = false) →
      if Region.wanted o (yielded ops a.tmps) then o.wpIn (fz ro) 0 P a w (J (upd S i)) Q else J (upd S i) (a.put o.dst undef) w)
    (hend : ∀ S a w, J S a w → (∀ i, i < ops.size → S i = true) → Q .normal a w) : (Code.region id ops true).wpIn (fz ro) 0 P Q a w := by
  refine wpIn_region_any hm ?_
  have key : ∀ fuel (listed : Array Bool) (S : Nat → Bool) a w, listed.size = ops.size → (∀ i, i < ops.size → listed.getD i true = S i) →
      (∀ i, i < ops.size → listed.getD i false = S i) → (∀ i, ops.size ≤ i → S i = false) →
      (∀ j o', ops[j]? = some o' → S j = true → ∀ e ∈ o'.after, Region.binds .any e = true → S e.on = true) → J S a w →
      ((List.range ops.size).filter fun i => !S i).length = fuel → wpAnyIn (fz ro) 0 P .any ops Q fuel listed a w := by
    intro fuel
    have ready_nil : ∀ (listed : Array Bool) (S : Nat → Bool), listed.size = ops.size → (∀ i, i < ops.size → listed.getD i true = S i) →
        (∀ i, i < ops.size → listed.getD i false = S i) → Region.ready .any ops listed = [] → ∀ i, i < ops.size → S i = true := by
      intro listed S hs h1 h2 hr i
      induction i using Nat.strongRecOn with
      | _ i ih =>
        intro hi
        cases hS : S i with
        | true => rfl
        | false =>
          exfalso
          have hmem : i ∈ Region.ready .any ops listed := by
            unfold Region.ready
            rw [List.mem_filter]
            refine ⟨List.mem_range.2 hi, ?_⟩
            rw [h1 i hi, hS]
            simp only [Bool.not_false, Bool.true_and]
            have ho : ops[i]? = some ops[i] := by simp [hi]
            rw [ho]
            simp only [Option.map_some, Option.getD_some]
            rw [Array.all_eq_true']
            intro e he
            cases hbe : Region.binds .any e with
            | false => rfl
            | true =>
              have hlt := back_of hb ho he hbe
              rw [h2 e.on (by omega), ih e.on hlt (by omega)]
              simp
          rw [hr] at hmem
          cases hmem
    induction fuel with
    | zero =>
      intro listed S a w hs h1 h2 h3 h4 hJ hf
      have hall : ∀ i, i < ops.size → S i = true := by
        intro i hi
        cases hS : S i with
        | true => rfl
        | false =>
          have : i ∈ (List.range ops.size).filter fun i => !S i := List.mem_filter.2 ⟨List.mem_range.2 hi, by simp [hS]⟩
          rw [List.length_eq_zero_iff.1 hf] at this
          cases this
      refine ⟨?_, hend S a w hJ hall⟩
      unfold Region.ready
      rw [List.filter_eq_nil_iff]
      intro i hi
      rw [h1 i (List.mem_range.1 hi), hall i (List.mem_range.1 hi)]
      simp
    | succ fuel ih =>
      intro listed S a w hs h1 h2 h3 h4 hJ hf
      refine ⟨fun hr => hend S a w hJ (ready_nil listed S hs h1 h2 hr), fun i hi => ?_⟩
      unfold Region.ready at hi
      rw [List.mem_filter] at hi
      obtain ⟨hi1, hi2⟩ := hi
      have hlt := List.mem_range.1 hi1
      have ho : ops[i]? = some ops[i] := by simp [hlt]
      rw [h1 i hlt, ho] at hi2
      simp only [Option.map_some, Option.getD_some, Bool.and_eq_true, Bool.not_eq_true'] at hi2
      obtain ⟨hSi, hall⟩ := hi2
      rw [Array.all_eq_true'] at hall
      have hpre : ∀ e ∈ ops[i].after, Region.binds .any e = true → S e.on = true := by
        intro e he hbe
        have := hall e he
        rw [hbe] at this
        have hlt2 := back_of hb ho he hbe
        rw [h2 e.on (by omega)] at this
        simpa using this
      have hst := hstep S i ops[i] a w ho hJ hSi hpre h4 h3
      have hnext : ∀ a w, J (upd S i) a w → wpAnyIn (fz ro) 0 P .any ops Q fuel (listed.setIfInBounds i true) a w := by
        intro a w hJ'
        refine ih _ (upd S i) a w (by simpa using hs) ?_ ?_ ?_ ?_ hJ' ?_
        · intro j hj
          unfold upd
          by_cases e : j = i
          · subst e; simp [hs, hlt]
          · rw [if_neg e, ← h1 j hj]; simp [Array.getD_eq_getD_getElem?, Array.getElem?_setIfInBounds_ne (Ne.symm e)]
        · intro j hj
          unfold upd
          by_cases e : j = i
          · subst e; simp [hs, hlt]
          · rw [if_neg e, ← h2 j hj]; simp [Array.getD_eq_getD_getElem?, Array.getElem?_setIfInBounds_ne (Ne.symm e)]
        · intro j hj
          unfold upd
          rw [if_neg (by omega)]
          exact h3 j hj
        · intro j o' hj hSj e he hbe
          unfold upd at hSj ⊢
          split
          · rfl
          · split at hSj
            · rename_i e1; subst e1
              rw [ho] at hj
              cases hj
              exact hpre e he hbe
            · exact h4 j o' hj hSj e he hbe
        · have hcount : ∀ (l : List Nat), l.Nodup → i ∈ l → S i = false → (l.filter fun j => !S j).length = (l.filter fun j => !upd S i j).length + 1 := by
            intro l
            induction l with
            | nil => intro _ h; cases h
            | cons x l ihl =>
              intro hnd hm hSi
              have hnd' := List.nodup_cons.1 hnd
              by_cases e : x = i
              · subst e
                have hrest : ∀ l : List Nat, x ∉ l → (l.filter fun j => !S j) = (l.filter fun j => !upd S x j) := by
                  intro l hl
                  apply List.filter_congr
                  intro y hy
                  unfold upd
                  rw [if_neg (fun h => hl (by rw [← h]; exact hy))]
                rw [List.filter_cons_of_pos (by simp [hSi]), List.filter_cons_of_neg (by simp [upd]), hrest l hnd'.1]
                simp
              · have hm' : i ∈ l := by
                  rcases List.mem_cons.1 hm with h | h
                  · exact absurd h.symm e
                  · exact h
                have := ihl hnd'.2 hm' hSi
                have hu : upd S i x = S x := by unfold upd; rw [if_neg e]
                cases hx : S x with
                | true => rw [List.filter_cons_of_neg (by simp [hx]), List.filter_cons_of_neg (by simp [hu, hx])]; exact this
                | false => rw [List.filter_cons_of_pos (by simp [hx]), List.filter_cons_of_pos (by simp [hu, hx])]; simp [this]
          have := hcount _ List.nodup_range (List.mem_range.2 hlt) hSi
          omega
      unfold wpOpIn
      rw [ho]
      simp only
      split
      · rename_i hw
        rw [if_pos hw] at hst
        exact Oper.wpIn_mono hnext hst
      · rename_i hw
        rw [if_neg hw] at hst
        exact ⟨fun _ _ => trivial, hnext _ _ hst⟩
  refine key ops.size _ (fun _ => false) _ _ (by simp) ?_ ?_ (fun _ _ => rfl) (fun _ _ _ h => by cases h) h0 ?_
  · intro i hi; simp [hi]
  · intro i hi; simp [hi]
  · have : (List.range ops.size).filter (fun _ => !false) = List.range ops.size := List.filter_eq_self.2 (fun _ _ => rfl)
    rw [this]; simp

/-! the chain -/
def dstOf (ops : Array Oper) (i : Nat) : Option Nat := (ops[i]?).bind (·.dst)

/-- 'bef': what surely stands before each operation. -/
def befOk (ops : Array Oper) (bef : List (List Nat)) : Bool :=
  (List.range ops.size).all fun i => match ops[i]? with
    | some o => (bef.getD i []).all fun p => o.after.toList.any fun e => Region.binds .any e && (Nat.beq e.on p || (bef.getD e.on []).any (Nat.beq p))
    | none => true

def nodupOk (ops : Array Oper) : Bool :=
  (List.range ops.size).all fun i => (List.range ops.size).all fun j => Nat.beq i j || (match dstOf ops i, dstOf ops j with | some d, some e => !Nat.beq d e | _, _ => true)

inductive Src where
  | old (d : Nat)
  | op (p : Nat)

def srcOk (ops : Array Oper) (bef : List (List Nat)) (i : Nat) : List Src → Bool
  | [] => true
  | .old d :: r => ((List.range ops.size).all fun j => match dstOf ops j with | some e => !Nat.beq d e || Nat.beq i j || (bef.getD j []).any (Nat.beq i) | none => true) && srcOk ops bef i r
  | .op p :: r => (bef.getD i []).any (Nat.beq p) && srcOk ops bef i r

def mkE (ops : Array Oper) (E0 : List (Nat × Value)) (V : List (Option Value)) : List Src → List (Nat × Value)
  | [] => []
  | .old d :: r => match look E0 d with
    | some v => (d, v) :: mkE ops E0 V r
    | none => mkE ops E0 V r
  | .op p :: r => match dstOf ops p, V.getD p none with
    | some d, some v => (d, v) :: mkE ops E0 V r
    | _, _ => mkE ops E0 V r

structure Inv (n : Nat) (ds : List Deferred) (ops : Array Oper) (E0 : List (Nat × Value)) (V : List (Option Value)) (S : Nat → Bool) (a : Act) : Prop where
  size : a.tmps.size = n
  defers : a.defers = ds
  vals : ∀ i d, dstOf ops i = some d → S i = true → ∃ v, V.getD i none = some v ∧ a.tmps[d]? = some v
  olds : ∀ d v, look E0 d = some v → (∀ j, dstOf ops j = some d → S j = false) → a.tmps[d]? = some v

theorem bef_of {bef : List (List Nat)} (hb : backOk ops = true) (h : befOk ops bef = true) {S : Nat → Bool}
    (hd : ∀ j o', ops[j]? = some o' → S j = true → ∀ e ∈ o'.after, Region.binds .any e = true → S e.on = true) :
    ∀ i o, ops[i]? = some o → (∀ e ∈ o.after, Region.binds .any e = true → S e.on = true) → ∀ p, (bef.getD i []).any (Nat.beq p) = true → S p = true := by
  intro i
  induction i using Nat.strongRecOn with
  | _ i ih =>
    intro o ho hpre p hp
    have hlt := (Array.getElem?_eq_some_iff.1 ho).1
    have h1 := List.all_eq_true.1 h i (List.mem_range.2 hlt)
    rw [ho] at h1
    simp only [List.any_eq_true] at hp
    obtain ⟨q, hq, hqp⟩ := hp
    have := Nat.eq_of_beq_eq_true hqp
    subst this
    have h2 := List.all_eq_true.1 h1 p hq
    simp only [List.any_eq_true, Bool.and_eq_true, Bool.or_eq_true] at h2
    obtain ⟨e, he, hbe, h3⟩ := h2
    have he' : e ∈ o.after := by simpa using he
    have hSe := hpre e he' hbe
    rcases h3 with h3 | h3
    · have := Nat.eq_of_beq_eq_true h3
      subst this
      exact hSe
    · have hlt2 := back_of hb ho he' hbe
      have ho2 : ops[e.on]? = some ops[e.on] := by simp [show e.on < ops.size by omega]
      exact ih e.on hlt2 _ ho2 (fun e' he2 hb2 => hd _ _ ho2 hSe e' he2 hb2) p (by simpa [List.any_eq_true] using h3)

theorem inv_env {bef : List (List Nat)} {E0 : List (Nat × Value)} {V : List (Option Value)} {S : Nat → Bool} {a : Act} {i : Nat} (hI : Inv n ds ops E0 V S a)
    (hbef : ∀ p, (bef.getD i []).any (Nat.beq p) = true → S p = true) (hSi : S i = false)
    (hdown : ∀ j, S j = true → ∀ p, (bef.getD j []).any (Nat.beq p) = true → S p = true) {srcs : List Src} (hs : srcOk ops bef i srcs = true) :
    Env n ds (mkE ops E0 V srcs) a := by
  refine ⟨hI.size, hI.defers, ?_⟩
  induction srcs with
  | nil => intro d v h; simp [mkE, look] at h
  | cons s srcs ih =>
    cases s with
    | old d0 =>
      simp only [srcOk, Bool.and_eq_true] at hs
      have ih' := ih hs.2
      intro d v hl
      simp only [mkE] at hl
      cases h0 : look E0 d0 with
      | none => rw [h0] at hl; exact ih' d v hl
      | some v0 =>
        rw [h0] at hl
        simp only [look] at hl
        cases hb : Nat.beq d0 d with
        | false => rw [hb] at hl; exact ih' d v hl
        | true =>
          rw [hb] at hl
          simp at hl
          subst hl
          have := Nat.eq_of_beq_eq_true hb
          subst this
          refine hI.olds d0 v0 h0 fun j hj => ?_
          have hjlt : j < ops.size := by
            unfold dstOf at hj
            cases hoj : ops[j]? with
            | none => rw [hoj] at hj; cases hj
            | some o => exact (Array.getElem?_eq_some_iff.1 hoj).1
          have h1 := List.all_eq_true.1 hs.1 j (List.mem_range.2 hjlt)
          rw [hj] at h1
          simp only [Bool.or_eq_true, Bool.not_eq_true'] at h1
          rcases h1 with (h1 | h1) | h1
          · have : Nat.beq d0 d0 = true := Nat.beq_refl d0
            rw [this] at h1; cases h1
          · have := Nat.eq_of_beq_eq_true h1
            subst this
            exact hSi
          · cases hSj : S j with
            | false => rfl
            | true => have := hdown j hSj i h1; rw [hSi] at this; cases this
    | op p =>
      simp only [srcOk, Bool.and_eq_true] at hs
      have ih' := ih hs.2
      intro d v hl
      simp only [mkE] at hl
      cases hp : dstOf ops p with
      | none => rw [hp] at hl; exact ih' d v hl
      | some d0 =>
        cases hv : V.getD p none with
        | none => rw [hp, hv] at hl; exact ih' d v hl
        | some v0 =>
          rw [hp, hv] at hl
          simp only [look] at hl
          cases hb : Nat.beq d0 d with
          | false => rw [hb] at hl; exact ih' d v hl
          | true =>
            rw [hb] at hl
            simp at hl
            subst hl
            have := Nat.eq_of_beq_eq_true hb
            subst this
            obtain ⟨v', h1, h2⟩ := hI.vals p d0 hp (hbef p hs.1)
            rw [hv] at h1
            cases h1
            exact h2

section good
variable (P B n ds ro ops Q)
variable (bef : List (List Nat)) (E0 : List (Nat × Value))

/-- Does a guard's value say what is wanted? -/
def saysB : Value → Bool → Bool
  | .bool b, want => b == want
  | _, _ => false
/-- One quiet operation, or one that its guard keeps from running. -/
def QO (V : List (Option Value)) (L : List Assn) (i : Nat) (v : Value) : Prop :=
  ∃ o srcs, ops[i]? = some o ∧ srcOk ops bef i srcs = true ∧
    ((wants ops o (mkE ops E0 V srcs) ∧ Do1 P B n ds ro o (mkE ops E0 V srcs) L v L) ∨
     (v = undef ∧ ∃ j g want u, o.guard = some (j, want) ∧ dstOf ops j = some g ∧ look (mkE ops E0 V srcs) g = some u ∧ saysB u want = false))

def Quiet (V : List (Option Value)) (L : List Assn) (sure : List Nat) : Nat → List (Option Value) → Prop
  | _, [] => True
  | i, none :: r => Quiet V L sure (i + 1) r
  | i, some v :: r => (sure.any (Nat.beq i) = true ∨ QO P B n ds ro ops bef E0 V L i v) ∧ Quiet V L sure (i + 1) r

def coverOk (ops : Array Oper) (bef : List (List Nat)) (V : List (Option Value)) (mem : List Nat) : Bool :=
  (List.range ops.size).all fun i => (match V.getD i none with | some _ => true | none => false) || mem.any (fun m => Nat.beq m i || (bef.getD i []).any (Nat.beq m))

def chainOk (bef : List (List Nat)) (m : Nat) (mem : List Nat) : Bool := mem.all fun m' => (bef.getD m' []).any (Nat.beq m)

/-- V' tells all that V tells, and of m that it is v. -/
def more (V V' : List (Option Value)) (m : Nat) (v : Value) : Prop := (∀ i u, V.getD i none = some u → V'.getD i none = some u) ∧ V'.getD m none = some v

def endOk (ops : Array Oper) : List Src → Bool
  | [] => true
  | .old d :: r => ((List.range ops.size).all fun j => match dstOf ops j with | some e => !Nat.beq d e | none => true) && endOk ops r
  | .op _ :: r => endOk ops r

def Good : List Nat → List (Option Value) → List Assn → List Nat → Prop
  | [], V, L, sure => coverOk ops bef V [] = true ∧ Quiet P B n ds ro ops bef E0 V L sure 0 V ∧ ∃ srcs E1, endOk ops srcs = true ∧ mkE ops E0 V srcs = E1 ∧ AtX B n ds Q .normal E1 L
  | m :: mem, V, L, sure => (coverOk ops bef V (m :: mem) && chainOk bef m mem) = true ∧ V.getD m none = none ∧ Quiet P B n ds ro ops bef E0 V L sure 0 V ∧
      ∃ o srcs post, ops[m]? = some o ∧ srcOk ops bef m srcs = true ∧ wants ops o (mkE ops E0 V srcs) ∧ Do P B n ds ro o (mkE ops E0 V srcs) L post ∧
        ∀ v M, post v M → ∃ V', more V V' m v ∧ Good mem V' M (m :: (bef.getD m []) ++ sure)
end good

theorem quiet_get {bef : List (List Nat)} {E0 : List (Nat × Value)} {V : List (Option Value)} {L : List Assn} {sure : List Nat} : ∀ (r : List (Option Value)) (k : Nat), Quiet P B n ds ro ops bef E0 V L sure k r →
    ∀ i v, r.getD i none = some v → sure.any (Nat.beq (k + i)) = true ∨ QO P B n ds ro ops bef E0 V L (k + i) v := by
  intro r
  induction r with
  | nil => intro k _ i v h; simp at h
  | cons x r ih =>
    intro k h i v hi
    cases x with
    | none =>
      cases i with
      | zero => simp at hi
      | succ i => have := ih (k + 1) h i v (by simpa using hi); rwa [show k + 1 + i = k + (i + 1) by omega] at this
    | some u =>
      cases i with
      | zero => simp at hi; subst hi; exact h.1
      | succ i => have := ih (k + 1) h.2 i v (by simpa using hi); rwa [show k + 1 + i = k + (i + 1) by omega] at this

theorem inv_step {E0 : List (Nat × Value)} {V V' : List (Option Value)} {S : Nat → Bool} {a : Act} {i : Nat} {o : Oper} {v : Value} (hI : Inv n ds ops E0 V S a) (hnd : nodupOk ops = true)
    (ho : ops[i]? = some o) (hdst : dstOk o.dst n = true) (hm : more V V' i v) : Inv n ds ops E0 V' (upd S i) (a.put o.dst v) := by
  have hdi : dstOf ops i = o.dst := by simp [dstOf, ho]
  have hlt := (Array.getElem?_eq_some_iff.1 ho).1
  have hput : ∀ d, o.dst ≠ some d → (a.put o.dst v).tmps[d]? = a.tmps[d]? := by
    intro d hd
    cases hx : o.dst with
    | none => rfl
    | some d0 => rw [hx] at hd; exact Array.getElem?_setIfInBounds_ne (fun e => hd (by rw [e]))
  refine ⟨?_, ?_, ?_, ?_⟩
  · cases hx : o.dst <;> simp [Act.put, hI.size]
  · cases hx : o.dst <;> simp [Act.put, hI.defers]
  · intro j d hj hS
    by_cases e : j = i
    · subst e
      refine ⟨v, hm.2, ?_⟩
      rw [hdi] at hj
      rw [hj] at hdst ⊢
      have hlt2 : d < n := Nat.le_of_ble_eq_true (show Nat.ble (d + 1) n = true from hdst)
      simp [Act.put, hI.size, hlt2]
    · have hS' : S j = true := by unfold upd at hS; rwa [if_neg e] at hS
      obtain ⟨u, h1, h2⟩ := hI.vals j d hj hS'
      refine ⟨u, hm.1 j u h1, ?_⟩
      rw [hput d ?_]
      · exact h2
      · intro hd
        have hjlt : j < ops.size := by
          unfold dstOf at hj
          cases hoj : ops[j]? with
          | none => rw [hoj] at hj; cases hj
          | some o => exact (Array.getElem?_eq_some_iff.1 hoj).1
        have h3 := List.all_eq_true.1 (List.all_eq_true.1 hnd i (List.mem_range.2 hlt)) j (List.mem_range.2 hjlt)
        rw [hdi, hd, hj] at h3
        simp only [Bool.or_eq_true, Bool.not_eq_true'] at h3
        rcases h3 with h3 | h3
        · exact e (Nat.eq_of_beq_eq_true h3).symm
        · have : Nat.beq d d = true := Nat.beq_refl d
          rw [this] at h3; cases h3
  · intro d u hl hj
    rw [hput d (fun hd => by have := hj i (by rw [hdi, hd]); simp [upd] at this)]
    refine hI.olds d u hl fun j hdj => ?_
    have := hj j hdj
    unfold upd at this
    split at this
    · cases this
    · exact this

def dstsOk (ops : Array Oper) (n : Nat) : Bool := ops.toList.all fun o => dstOk o.dst n

theorem inv_end {E0 : List (Nat × Value)} {V : List (Option Value)} {S : Nat → Bool} {a : Act} (hI : Inv n ds ops E0 V S a) (hall : ∀ i, i < ops.size → S i = true) {srcs : List Src}
    (hs : endOk ops srcs = true) : Env n ds (mkE ops E0 V srcs) a := by
  refine ⟨hI.size, hI.defers, ?_⟩
  have hlt : ∀ {j d : Nat}, dstOf ops j = some d → j < ops.size := by
    intro j d hj
    unfold dstOf at hj
    cases hoj : ops[j]? with
    | none => rw [hoj] at hj; cases hj
    | some o => exact (Array.getElem?_eq_some_iff.1 hoj).1
  induction srcs with
  | nil => intro d v h; simp [mkE, look] at h
  | cons s srcs ih =>
    cases s with
    | old d0 =>
      simp only [endOk, Bool.and_eq_true] at hs
      have ih' := ih hs.2
      intro d v hl
      simp only [mkE] at hl
      cases h0 : look E0 d0 with
      | none => rw [h0] at hl; exact ih' d v hl
      | some v0 =>
        rw [h0] at hl
        simp only [look] at hl
        cases hb : Nat.beq d0 d with
        | false => rw [hb] at hl; exact ih' d v hl
        | true =>
          rw [hb] at hl
          simp at hl
          subst hl
          have := Nat.eq_of_beq_eq_true hb
          subst this
          refine hI.olds d0 v0 h0 fun j hj => ?_
          have h1 := List.all_eq_true.1 hs.1 j (List.mem_range.2 (hlt hj))
          rw [hj] at h1
          have : Nat.beq d0 d0 = true := Nat.beq_refl d0
          simp only [this, Bool.not_true] at h1
          cases h1
    | op p =>
      simp only [endOk] at hs
      have ih' := ih hs
      intro d v hl
      simp only [mkE] at hl
      cases hp : dstOf ops p with
      | none => rw [hp] at hl; exact ih' d v hl
      | some d0 =>
        cases hv : V.getD p none with
        | none => rw [hp, hv] at hl; exact ih' d v hl
        | some v0 =>
          rw [hp, hv] at hl
          simp only [look] at hl
          cases hb : Nat.beq d0 d with
          | false => rw [hb] at hl; exact ih' d v hl
          | true =>
            rw [hb] at hl
            simp at hl
            subst hl
            have := Nat.eq_of_beq_eq_true hb
            subst this
            obtain ⟨v', h1, h2⟩ := hI.vals p d0 hp (hall p (hlt hp))
            rw [hv] at h1
            cases h1
            exact h2

theorem more_refl {V : List (Option Value)} {i : Nat} {v : Value} (h : V.getD i none = some v) : more V V i v := ⟨fun _ _ h => h, h⟩

def agree : List (Option Value) → List (Option Value) → Prop
  | [], _ => True
  | none :: V, _ :: V' => agree V V'
  | some u :: V, x :: V' => x = some u ∧ agree V V'
  | _ :: _, [] => False

theorem more_mk {V V' : List (Option Value)} {m : Nat} {v : Value} (h : agree V V') (h2 : V'.getD m none = some v) : more V V' m v := by
  refine ⟨?_, h2⟩
  clear h2
  induction V generalizing V' with
  | nil => intro i u hu; simp at hu
  | cons x V ih =>
    intro i u hu
    cases V' with
    | nil => cases x <;> exact h.elim
    | cons y V' =>
      cases x with
      | none =>
        cases i with
        | zero => simp at hu
        | succ i => simpa using ih h i u (by simpa using hu)
      | some z =>
        cases i with
        | zero => simp at hu; subst hu; simpa using h.1
        | succ i => simpa using ih h.2 i u (by simpa using hu)

theorem wc_draw {id : Nat} {E : List (Nat × Value)} {L : List Assn} (bef : List (List Nat)) (V0 : List (Option Value)) (mem : List Nat) (hm : P.follows .mixedOrders = true)
    (hok : (backOk ops && befOk ops bef && nodupOk ops && dstsOk ops n) = true) (hmn : mem.Nodup) (h : Good P B n ds ro ops Q bef E mem V0 L []) :
    WC P B n ds ro (Code.region id ops true) Q E L := by
  simp only [Bool.and_eq_true] at hok
  obtain ⟨⟨⟨hb, hbef⟩, hnd⟩, hdst⟩ := hok
  intro a w hE hS
  refine wc_any hm hb (fun S a w => ∃ (V : List (Option Value)) (L : List Assn) (sure mem : List Nat), Good P B n ds ro ops Q bef E mem V L sure ∧ Inv n ds ops E V S a ∧ Sat B L w ∧ (∀ m ∈ mem, S m = false) ∧
    (∀ i, sure.any (Nat.beq i) = true → S i = true) ∧ mem.Nodup) ?_ ?_ ?_
  · exact ⟨V0, L, [], mem, h, ⟨hE.size, hE.defers, fun i d _ h => Bool.noConfusion h, fun d v hl _ => hE.get d v hl⟩, hS.drawn _, fun _ _ => rfl, fun i h => by simp at h, hmn⟩
  · rintro S i o a w ho ⟨V, L, sure, mem, hG, hI, hS, hmem, hsure, hnod⟩ hSi hpre hdown hout
    have hbi := bef_of hb hbef hdown i o ho hpre
    have hlt := (Array.getElem?_eq_some_iff.1 ho).1
    have hdsti : dstOk o.dst n = true := by
      have := List.all_eq_true.1 hdst o (by simpa using Array.mem_of_getElem? ho)
      exact this
    have hdown' : ∀ j, S j = true → ∀ p, (bef.getD j []).any (Nat.beq p) = true → S p = true := by
      intro j hj p hp
      cases hoj : ops[j]? with
      | none =>
        have : ops.size ≤ j := by simpa using hoj
        rw [hout j this] at hj; cases hj
      | some oj => exact bef_of hb hbef hdown j oj hoj (fun e he hbe => hdown j oj hoj hj e he hbe) p hp
    -- what a quiet operation does
    have quiet : ∀ v, V.getD i none = some v → Quiet P B n ds ro ops bef E V L sure 0 V → i ∉ mem →
        if Region.wanted o (yielded ops a.tmps) then o.wpIn (fz ro) 0 P a w (fun a w => ∃ (V : List (Option Value)) (L : List Assn) (sure mem : List Nat), Good P B n ds ro ops Q bef E mem V L sure ∧ Inv n ds ops E V (upd S i) a ∧ Sat B L w ∧ (∀ m ∈ mem, upd S i m = false) ∧
          (∀ j, sure.any (Nat.beq j) = true → upd S i j = true) ∧ mem.Nodup) Q else (fun a w => ∃ (V : List (Option Value)) (L : List Assn) (sure mem : List Nat), Good P B n ds ro ops Q bef E mem V L sure ∧ Inv n ds ops E V (upd S i) a ∧ Sat B L w ∧ (∀ m ∈ mem, upd S i m = false) ∧
          (∀ j, sure.any (Nat.beq j) = true → upd S i j = true) ∧ mem.Nodup) (a.put o.dst undef) w := by
      intro v hv hq hni
      have hfin : ∀ w', Sat B L w' → (∃ (V : List (Option Value)) (L : List Assn) (sure mem : List Nat), Good P B n ds ro ops Q bef E mem V L sure ∧ Inv n ds ops E V (upd S i) (a.put o.dst v) ∧ Sat B L w' ∧ (∀ m ∈ mem, upd S i m = false) ∧
          (∀ j, sure.any (Nat.beq j) = true → upd S i j = true) ∧ mem.Nodup) := fun w' hS' =>
        ⟨V, L, sure, mem, hG, inv_step hI hnd ho hdsti (more_refl hv), hS', fun m hm => by
          unfold upd; rw [if_neg (fun e : m = i => hni (e ▸ hm))]; exact hmem m hm, fun j hj => by
          unfold upd; split; · rfl
          · exact hsure j hj, hnod⟩
      have h1 := quiet_get V 0 hq i v hv
      rw [Nat.zero_add] at h1
      rcases h1 with h1 | ⟨o', srcs, ho', hso, h1⟩
      · have := hsure i h1
        rw [hSi] at this; cases this
      · rw [ho] at ho'
        cases ho'
        have hEi := inv_env hI hbi hSi hdown' hso
        rcases h1 with ⟨hw, hdo⟩ | ⟨rfl, j, g, want, u, hg, hj, hlk, hne⟩
        · rw [if_pos (wants_wanted hw hEi)]
          refine hdo a w hEi hS _ Q ?_
          rintro u M w' ⟨rfl, rfl⟩ hS'
          exact hfin w' hS'
        · rw [if_neg ?_]
          · exact hfin w hS
          · have := hEi.get g _ hlk
            have hj' : (ops[j]?).bind (·.dst) = some g := hj
            simp only [Region.wanted, hg, yielded, hj', Option.bind_some, this]
            intro h
            cases u <;> simp [saysB] at hne h
            exact hne h
    -- which of the two it is
    have cover : coverOk ops bef V mem = true → (∃ v, V.getD i none = some v) ∨ ∃ m ∈ mem, m = i ∨ S m = true := by
      intro hc
      have h1 := List.all_eq_true.1 hc i (List.mem_range.2 hlt)
      simp only [Bool.or_eq_true, List.any_eq_true] at h1
      rcases h1 with h1 | ⟨m, hm, h1⟩
      · cases hv : V.getD i none with
        | none => rw [hv] at h1; cases h1
        | some v => exact .inl ⟨v, rfl⟩
      · rcases h1 with h1 | h1
        · exact .inr ⟨m, hm, .inl (Nat.eq_of_beq_eq_true h1)⟩
        · exact .inr ⟨m, hm, .inr (hbi m (by simpa [List.any_eq_true] using h1))⟩
    cases mem with
    | nil =>
      obtain ⟨hc, hq, _⟩ := hG
      rcases cover hc with ⟨v, hv⟩ | ⟨m, hm, _⟩
      · exact quiet v hv hq (by simp)
      · cases hm
    | cons m mem =>
      have hG' := hG
      obtain ⟨hcc, hvm, hq, o', srcs, post, ho', hso, hw, hdo, hk⟩ := hG
      simp only [Bool.and_eq_true] at hcc
      by_cases him : i = m
      · subst him
        rw [ho] at ho'
        cases ho'
        have hEi := inv_env hI hbi hSi hdown' hso
        rw [if_pos (wants_wanted hw hEi)]
        refine hdo a w hEi hS _ Q ?_
        intro v M w' hp hS'
        obtain ⟨V', hmore, hG2⟩ := hk v M hp
        refine ⟨V', M, _, mem, hG2, inv_step hI hnd ho hdsti hmore, hS', ?_, ?_, (List.nodup_cons.1 hnod).2⟩
        · intro m' hm'
          unfold upd
          rw [if_neg (fun e : m' = i => (List.nodup_cons.1 hnod).1 (e ▸ hm'))]
          exact hmem m' (List.mem_cons_of_mem _ hm')
        · intro j hj
          unfold upd
          split
          · rfl
          · rename_i hne
            simp only [List.cons_append, List.any_cons, List.any_append, Bool.or_eq_true] at hj
            rcases hj with hj | hj | hj
            · exact absurd (Nat.eq_of_beq_eq_true hj) hne
            · exact hbi j hj
            · exact hsure j hj
      · have hnotmem : i ∉ m :: mem := by
          intro hi
          rcases List.mem_cons.1 hi with h | h
          · exact him h
          · have h2 := List.all_eq_true.1 hcc.2 i h
            have := hbi m h2
            rw [hmem m (List.mem_cons_self)] at this
            cases this
        rcases cover hcc.1 with ⟨v, hv⟩ | ⟨m', hm', h1⟩
        · exact quiet v hv hq hnotmem
        · rcases h1 with rfl | h1
          · exact absurd hm' hnotmem
          · rw [hmem m' hm'] at h1; cases h1
  · rintro S a w ⟨V, L, sure, mem, hG, hI, hS, hmem, hsure, hnod⟩ hall
    cases mem with
    | nil =>
      obtain ⟨_, _, srcs, E1, hs, he, hx⟩ := hG
      subst he
      exact hx a w (inv_end hI hall hs) hS
    | cons m mem =>
      obtain ⟨_, _, _, o', srcs, post, ho', _⟩ := hG
      have := hall m (Array.getElem?_eq_some_iff.1 ho').1
      rw [hmem m List.mem_cons_self] at this
      cases this
end
end Go.Proofs.Ytmefejfnddcelaa
