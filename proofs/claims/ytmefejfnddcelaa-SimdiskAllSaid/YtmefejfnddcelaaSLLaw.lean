/- From a law's contract to its row. -/
import Derived.Test.YtmefejfnddcelaaSLText
import Derived.ProofKit
import Derived.OpenShut
namespace Go.Proofs.Ytmefejfnddcelaa
open Go.ChangeShapes Go.WideShapes Go.ChangeAt Go.RowKit

theorem ext_refl (W : World) : Ext ⟨W.heap.size, W⟩ W := ⟨rfl, rfl, rfl, Nat.le_refl _, fun _ _ => rfl⟩

/-- The call of a law, from its contract. -/
theorem calls_of_tri {P : Program} {f : FuncId} {args : Array Value} {W : World} {v0 : Value} (h : Tri P ⟨W.heap.size, W⟩ f args [] (fun u M => u = v0 ∧ M = [])) :
    Calls P f args W fun e w' => e = .returned v0 ∧ Below W.heap.size W w' := by
  have hS : Sat ⟨W.heap.size, W⟩ ([] ++ [fun _ => True]) W := ⟨ext_refl W, fun _ => 0, fun i A hA => by
    cases i with
    | zero => simp at hA; subst hA; trivial
    | succ i => simp at hA⟩
  refine Calls.mono (h _ W hS) ?_
  rintro e w' ⟨v, M, rfl, ⟨rfl, rfl⟩, hS'⟩
  have he := hS'.1
  exact ⟨rfl, he.os, he.tape, he.output, he.size, he.base⟩

/-- A part that asks nothing: what is read in the base is read through it. -/
def AnyP : Assn := fun _ => True
theorem calls_of_tri' {P : Program} {f : FuncId} {args : Array Value} {W : World} {v0 : Value} (h : Tri P ⟨W.heap.size, W⟩ f args [AnyP] (fun u M => u = v0 ∧ M = [AnyP])) :
    Calls P f args W fun e w' => e = .returned v0 ∧ Below W.heap.size W w' := by
  have hS : Sat ⟨W.heap.size, W⟩ ([AnyP] ++ [fun _ => True]) W := ⟨ext_refl W, fun _ => 0, fun i A hA => by
    match i, hA with
    | 0, hA => simp at hA; subst hA; trivial
    | 1, hA => simp at hA; subst hA; trivial
    | i + 2, hA => simp at hA⟩
  refine Calls.mono (h _ W hS) ?_
  rintro e w' ⟨v, M, rfl, ⟨rfl, rfl⟩, hS'⟩
  have he := hS'.1
  exact ⟨rfl, he.os, he.tape, he.output, he.size, he.base⟩

section
variable {H : Type} {enc : TypeId × Value → H} {P : Program}

theorem trodAll_stays (hl : laidOutB P = true) {W W' : World} {sp : Nat → Bool} : ∀ {ts : List TypeId} {vs : List Value} {ds : List (DataW H)} {ps : List MemPlace},
    (ts.all fun t => P.readableRec t && decide (t < P.types.size)) = true → DataW.TrodAll enc P W 0 (fun _ => true) true ts vs ds ps → (∀ x ∈ ps, W.sameAt W' x) → (∀ x ∈ ps, sp x.block = true) → DataW.TrodAll enc P W' 0 sp true ts vs ds ps
  | [], _, _, _, _, h, _, _ => by
    obtain ⟨rfl, rfl, rfl⟩ := trodAll_nil h
    exact trodAll_mk0
  | t :: ts, _, _, _, hr, h, h1, h2 => by
    obtain ⟨v, vs, d, ds, p, q, rfl, rfl, rfl, h3, h4⟩ := trodAll_cons h
    simp only [List.all_cons, Bool.and_eq_true, decide_eq_true_eq] at hr
    exact trodAll_cons_mk (WideElems.Trod_stays hl hr.1.1 hr.1.2 h3 (fun x hx => h1 x (by simp [hx])) (fun x hx => h2 x (by simp [hx]))) (trodAll_stays hl hr.2 h4 (fun x hx => h1 x (by simp [hx])) (fun x hx => h2 x (by simp [hx])))

theorem trodAll_len {W : World} {sp : Nat → Bool} {hd : Bool} {b : Nat} : ∀ {ts : List TypeId} {vs : List Value} {ds : List (DataW H)} {ps : List MemPlace}, DataW.TrodAll enc P W b sp hd ts vs ds ps → ds.length = ts.length
  | [], _, _, _, h => by obtain ⟨_, rfl, _⟩ := trodAll_nil h; rfl
  | t :: ts, _, _, _, h => by
    obtain ⟨v, vs, d, ds, p, q, rfl, rfl, rfl, h3, h4⟩ := trodAll_cons h
    simp [trodAll_len h4]

/-- The law's answer, and the input as it was: what the row asks. -/
theorem law_post (hl : laidOutB P = true) {f : Func} {s : ChangeSpec} {tb : TypeId} (hpr : (f.params.toList.all fun t => P.readableRec t && decide (t < P.types.size)) = true) (hrt : f.resultTypes = #[tb]) (hb : P.underlying tb = some .bool) (hvars : s.vars = [])
    (hfn : ∀ ds : List (DataW H), ds.length = f.params.toList.length → s.fn H ds = { results := [.lit (.bool true)], args := ds }) {W W' : World} {args : Array Value} {ds gs : List (DataW H)} {before : List MemPlace} {handsOn : Bool}
    (hW : DataW.Whole enc P f.params.toList s.vars false W args.toList ds gs before) (hB : Below W.heap.size W W') : s.post enc P f false true handsOn false W args (.bool true) W' := by
  have hW' := hW
  obtain ⟨p, q, hA, hV, rfl, hz, hn⟩ := hW
  rw [hvars] at hV
  obtain ⟨rfl, rfl⟩ := trodVars_none hV
  have hlt : ∀ x ∈ p, x.block < W.heap.size := fun x hx => hW'.lt x (by simp [hx])
  have hsame : ∀ x ∈ p, W.sameAt W' x := fun x hx => hB.same (hlt x hx)
  have hf := hfn ds (trodAll_len hA)
  have hargs : ∀ sp : Nat → Bool, (∀ x ∈ p, sp x.block = true) → DataW.TrodAll enc P W' 0 sp true f.params.toList args.toList ds p := fun sp hsp => trodAll_stays hl hpr hA hsame hsp
  have hres : ∀ (b : Nat) (sp : Nat → Bool) (hd : Bool), DataW.TrodAll enc P W' b sp hd f.resultTypes.toList ((Value.bool true).resultList f.resultTypes.size) [.lit (.bool true)] [] := fun b sp hd => by
    rw [hrt]; exact trodAll_cons_mk (shut_bool hb _) trodAll_mk0
  refine ⟨ds, [], p ++ [], [], p, [], hW', ?_, ?_, ?_, ?_, fun h => Bool.noConfusion h⟩
  · simp only [List.append_nil, hf]; exact hres _ _ _
  · simp only [List.append_nil, hf]; exact hargs _ fun x hx => by simpa using hlt x hx
  · simp only [List.append_nil, hf]; rw [hvars]; rfl
  · exact World.keptBut_mono (fun x hx => False.elim hx) (hB.frame fun _ => False)
end

/-! shapes of cells -/
section
variable {P : Program} {w : World} {r : Reach} {b : Nat} {t : TypeId} {v : Value}
theorem cell_int {k : IntKind} (hu : P.underlying t = some (.int k)) (h : Cell.okWide P w r b t v) : ∃ n, v = .int k n := by
  unfold Cell.okWide Cell.ok at h
  rw [hu] at h
  cases v <;> simp at h
  obtain ⟨rfl, _⟩ := h
  exact ⟨_, rfl⟩
theorem cell_bool (hu : P.underlying t = some .bool) (h : Cell.okWide P w r b t v) : ∃ n, v = .bool n := by
  unfold Cell.okWide Cell.ok at h
  rw [hu] at h
  cases v <;> simp at h
  exact ⟨_, rfl⟩
theorem cell_string (hu : P.underlying t = some .string) (h : Cell.okWide P w r b t v) : ∃ s : ByteArray, v = .string s := by
  unfold Cell.okWide Cell.ok at h
  rw [hu] at h
  cases v <;> simp at h
  exact ⟨_, rfl⟩
theorem cell_slice {e : TypeId} (hu : P.underlying t = some (.slice e)) (h : Cell.okWide P w r b t v) : ∃ a l c, v = .slice a l c := by
  unfold Cell.okWide Cell.ok at h
  rw [hu] at h
  cases v <;> simp at h
  exact ⟨_, _, _, rfl⟩
theorem array5 {α : Type} {cs : Array α} (h : cs.size = 5) : ∃ c0 c1 c2 c3 c4, cs = #[c0, c1, c2, c3, c4] := by
  obtain ⟨l⟩ := cs
  match l, h with
  | [c0, c1, c2, c3, c4], _ => exact ⟨c0, c1, c2, c3, c4, rfl⟩
end
end Go.Proofs.Ytmefejfnddcelaa
