/- What memory tells without a program; what can be read, in parts. -/
import Derived.Test.YtmefejfnddcelaaSLMore
import Derived.Test.YtmefejfnddcelaaSLMaps
namespace Go.Proofs.Ytmefejfnddcelaa
section
variable {P : Program} {B : Ctx} {L : List Assn} {w : World} {f : FuncId} {args : Array Value} {pre : List Assn} {post : Value → List Assn → Prop}

/-- A fact that memory holds. -/
theorem tri_pure {φ : Prop} (i : Nat) {A : Assn} (hA : nth pre i = some A) (h : ∀ h : Hp, (∀ k o, h k = some o → B.n ≤ k) → A h → φ) (k : φ → Tri P B f args pre post) : Tri P B f args pre post := fun F w hS => by
  have h1 : nth (pre ++ [F]) i = some A := by
    rw [nth_eq] at hA ⊢
    rw [List.getElem?_append_left (List.getElem?_eq_some_iff.1 hA).1, hA]
  obtain ⟨S, h0, hh⟩ := hS.nth h1
  exact k (h _ (fun k o hk => h0 k (part_some hk).1) hh) F w hS

theorem sat_fact {φ : Prop} (hS : Sat B L w) (i : Nat) {A : Assn} (hA : nth L i = some A) (h : ∀ h : Hp, (∀ k o, h k = some o → B.n ≤ k) → A h → φ) : φ := by
  obtain ⟨S, h0, hh⟩ := hS.nth hA
  exact h _ (fun k o hk => h0 k (part_some hk).1) hh

theorem tri_post {post' : Value → List Assn → Prop} (h : Tri P B f args pre post) (k : ∀ v M, post v M → post' v M) : Tri P B f args pre post' := fun F w hS =>
  Calls.mono (h F w hS) fun _ _ ⟨v, M, e, hp, hS'⟩ => ⟨v, M, e, k v M hp, hS'⟩

/-- Another memory in front. -/
theorem tri_pre {pre' : List Assn} (h : Tri P B f args pre' post) (k : ∀ F w, Sat B (pre ++ [F]) w → Sat B (pre' ++ [F]) w) : Tri P B f args pre post := fun F w hS => h F w (k F w hS)

/-- Two parts become one. -/
theorem Sat.join2 {A1 A2 A : Assn} (h : Sat B (A1 :: A2 :: L) w)
    (hA : ∀ h1 h2 h : Hp, A1 h1 → A2 h2 → (∀ k o, h1 k = some o → h k = some o ∧ B.n ≤ k) → (∀ k o, h2 k = some o → h k = some o ∧ B.n ≤ k) → (∀ k o, h k = some o → B.n ≤ k) → A h) : Sat B (A :: L) w := by
  obtain ⟨he, own, ho⟩ := h
  obtain ⟨g, hg⟩ : ∃ g : Nat → Nat, ∀ k, g k = own k - 1 := ⟨_, fun _ => rfl⟩
  refine ⟨he, g, fun i C hC => ?_⟩
  cases i with
  | zero =>
    simp at hC
    subst hC
    refine hA _ _ _ (ho 0 A1 rfl) (ho 1 A2 rfl) (fun k o hk => ?_) (fun k o hk => ?_) (fun k o hk => (part_some hk).1.2)
    · have := part_some hk
      refine ⟨?_, this.1.2⟩
      rw [part_of ⟨by rw [hg]; omega, this.1.2⟩]; exact this.2
    · have := part_some hk
      refine ⟨?_, this.1.2⟩
      rw [part_of ⟨by rw [hg]; omega, this.1.2⟩]; exact this.2
  | succ i =>
    refine (congrArg C (part_congr fun k => ?_)).mp (ho (i + 2) C (by simpa using hC))
    by_cases hk : own k = i + 2 ∧ B.n ≤ k
    · exact .inl ⟨hk, ⟨by rw [hg]; omega, hk.2⟩, rfl⟩
    · exact .inr (.inl ⟨hk, fun x => hk ⟨by have := x.1; rw [hg] at this; omega, x.2⟩⟩)

/-- A part, changed to what it comes to, with what is known of its blocks. -/
theorem Sat.imp0 {A A' : Assn} (h : Sat B (A :: L) w) (hA : ∀ h : Hp, (∀ k o, h k = some o → B.n ≤ k) → A h → A' h) : Sat B (A' :: L) w := by
  obtain ⟨he, own, ho⟩ := h
  refine ⟨he, own, fun i C hC => ?_⟩
  cases i with
  | zero => simp at hC; subst hC; exact hA _ (fun k o hk => (part_some hk).1.2) (ho 0 A rfl)
  | succ i => exact ho (i + 1) C hC

theorem rd_mono {sz : Nat} {v : Value} {n : Nat} {xs : List Value} {h h' : Hp} (hr : rd B sz v n xs h) (hh : ∀ k o, h k = some o → h' k = some o) : rd B sz v n xs h' := by
  obtain ⟨h1, a, cap, hv, hc⟩ := hr
  refine ⟨h1, a, cap, hv, fun j u hj => ?_⟩
  obtain ⟨b, off, ha, hcell⟩ := hc j u hj
  refine ⟨b, off, ha, ?_⟩
  unfold cellIn at hcell ⊢
  by_cases hlt : b < B.n
  · simpa only [if_pos hlt] using hcell
  · simp only [if_neg hlt] at hcell ⊢
    cases hh2 : h b with
    | none => rw [hh2] at hcell; cases hcell
    | some o => rw [hh2] at hcell; rw [hh b o hh2]; exact hcell
end

theorem rd_shape {B : Ctx} {sz : Nat} {v : Value} {n : Nat} {xs : List Value} {h : Hp} (hr : rd B sz v n xs h) : ∃ a cap, v = .slice a n cap ∧ (a = none → xs = []) := by
  obtain ⟨_, a, cap, hv, hc⟩ := hr
  refine ⟨a, cap, hv, fun ha => ?_⟩
  cases xs with
  | nil => rfl
  | cons x xs => obtain ⟨b, off, h1, _⟩ := hc 0 x rfl; rw [ha] at h1; cases h1

/-- What a call leaves, and a part more that holds of nothing. -/
theorem sat_add {B : Ctx} {L M : List Assn} {w : World} (A : Assn) (h : Sat B L w) (hA : A (fun _ => none)) (is : List Nat) (hp : picks (A :: L) is M) (hn : is.Nodup) : Sat B M w := (h.intro hA).pick is hp hn
theorem row_nil {e : TypeId} {sz : Nat} {h : Hp} : row e sz (.slice none 0 0) 0 [] h := ⟨by simp, .inl ⟨rfl, rfl⟩⟩

/-- Values that can be read, key by key. -/
def valsP (B : Ctx) (h : Hp) : List (ByteArray × Value) → List (ByteArray × List UInt8) → Prop
  | [], [] => True
  | p :: lv, q :: os => (p.1 = q.1 ∧ rd B 1 p.2 q.2.length (byv q.2) h) ∧ valsP B h lv os
  | _, _ => False
theorem vals_keys {B : Ctx} {h : Hp} : ∀ {lv : List (ByteArray × Value)} {os : List (ByteArray × List UInt8)}, valsP B h lv os → akeys lv = akeys os
  | [], [], _ => rfl
  | p :: lv, q :: os, hh => by
    show p.1 :: akeys lv = q.1 :: akeys os
    rw [hh.1.1, vals_keys hh.2]
  | [], _ :: _, hh => hh.elim
  | _ :: _, [], hh => hh.elim
theorem vals_mono {B : Ctx} {h h' : Hp} (hm : ∀ k o, h k = some o → h' k = some o) : ∀ {lv : List (ByteArray × Value)} {os : List (ByteArray × List UInt8)}, valsP B h lv os → valsP B h' lv os
  | [], [], _ => trivial
  | p :: lv, q :: os, hh => ⟨⟨hh.1.1, rd_mono hh.1.2 hm⟩, vals_mono hm hh.2⟩
  | [], _ :: _, hh => hh.elim
  | _ :: _, [], hh => hh.elim
theorem vals_put {B : Ctx} {h : Hp} {k : ByteArray} {u : Value} {bs : List UInt8} (hu : rd B 1 u bs.length (byv bs) h) : ∀ {lv : List (ByteArray × Value)} {os : List (ByteArray × List UInt8)}, valsP B h lv os → valsP B h (aput lv k u) (aput os k bs)
  | [], [], _ => ⟨⟨rfl, hu⟩, trivial⟩
  | (a, x) :: lv, (a', y) :: os, hh => by
    obtain ⟨⟨rfl, h1⟩, h2⟩ := hh
    simp only [aput]
    split
    · exact ⟨⟨rfl, hu⟩, h2⟩
    · exact ⟨⟨rfl, h1⟩, vals_put hu h2⟩
  | [], _ :: _, hh => hh.elim
  | _ :: _, [], hh => hh.elim
theorem vals_del {B : Ctx} {h : Hp} {k : ByteArray} : ∀ {lv : List (ByteArray × Value)} {os : List (ByteArray × List UInt8)}, valsP B h lv os → valsP B h (adel lv k) (adel os k)
  | [], [], _ => trivial
  | (a, x) :: lv, (a', y) :: os, hh => by
    obtain ⟨⟨rfl, h1⟩, h2⟩ := hh
    simp only [adel]
    split
    · exact h2
    · exact ⟨⟨rfl, h1⟩, vals_del h2⟩
  | [], _ :: _, hh => hh.elim
  | _ :: _, [], hh => hh.elim
theorem vals_get {B : Ctx} {h : Hp} {k : ByteArray} {u : Value} {bs : List UInt8} : ∀ {lv : List (ByteArray × Value)} {os : List (ByteArray × List UInt8)}, valsP B h lv os → aget lv k = some u → aget os k = some bs → rd B 1 u bs.length (byv bs) h
  | [], [], _, h1, _ => by cases h1
  | (a, x) :: lv, (a', y) :: os, hh, h1, h2 => by
    obtain ⟨⟨h0, h3⟩, h4⟩ := hh
    have h0' : a = a' := h0
    subst h0'
    simp only [aget] at h1 h2
    split at h1
    · cases h1; rw [if_pos ‹_›] at h2; cases h2; exact h3
    · rw [if_neg ‹_›] at h2; exact vals_get h4 h1 h2
  | [], _ :: _, hh, _, _ => hh.elim
  | _ :: _, [], hh, _, _ => hh.elim
theorem aget_same {β γ : Type} {lv : List (ByteArray × β)} {os : List (ByteArray × γ)} (h : akeys lv = akeys os) (k : ByteArray) : (aget lv k).isNone = (aget os k).isNone := by
  have e : aget lv k = none ↔ aget os k = none := by rw [aget_none, aget_none, h]
  cases h1 : aget lv k <;> cases h2 : aget os k <;> simp_all
theorem aget_none2 {β γ : Type} {lv : List (ByteArray × β)} {os : List (ByteArray × γ)} (h : akeys lv = akeys os) {k : ByteArray} (hg : aget lv k = none) : aget os k = none := by
  rw [aget_none] at hg ⊢; rwa [← h]
theorem aget_some2 {β γ : Type} {lv : List (ByteArray × β)} {os : List (ByteArray × γ)} (h : akeys lv = akeys os) {k : ByteArray} {v : β} (hg : aget lv k = some v) : ∃ u, aget os k = some u := by
  cases h1 : aget os k with
  | none => rw [aget_none2 h.symm h1] at hg; cases hg
  | some u => exact ⟨u, rfl⟩
theorem len_same {β γ : Type} {lv : List (ByteArray × β)} {os : List (ByteArray × γ)} (h : akeys lv = akeys os) : lv.length = os.length := by
  have := congrArg List.length h
  simpa [akeys] using this

def valsA (B : Ctx) (lv : List (ByteArray × Value)) (os : List (ByteArray × List UInt8)) : Assn := fun h => valsP B h lv os
/-- A row becomes a value. -/
theorem vals_row {B : Ctx} {L : List Assn} {w : World} {e : TypeId} {u : Value} {k : ByteArray} {bs : List UInt8} {lv : List (ByteArray × Value)} {os : List (ByteArray × List UInt8)} (h : Sat B (row e 1 u bs.length (byv bs) :: valsA B lv os :: L) w) :
    Sat B (valsA B (aput lv k u) (aput os k bs) :: L) w :=
  h.join2 fun h1 h2 hh hr hv m1 m2 hb => vals_put (rd_mono (row_rd (b := 0) (cap := 0) _ hr fun k o hk => (m1 k o hk).2) fun k o hk => (m1 k o hk).1) (vals_mono (fun k o hk => (m2 k o hk).1) hv)
end Go.Proofs.Ytmefejfnddcelaa
