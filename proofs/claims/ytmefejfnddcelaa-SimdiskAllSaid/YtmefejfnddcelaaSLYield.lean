/- Iterators: a call of yield, a round of a range over a function, the statement itself, and how a function that holds one leaves. -/
import Derived.Test.YtmefejfnddcelaaSLPrims
import Derived.RangeFuncLeaves
namespace Go.Proofs.Ytmefejfnddcelaa

/-- A call of loop l's yield. -/
def YTri (P : Program) (B : Ctx) (l : Nat) (args : Array Value) (pre : List Assn) (post : Value → List Assn → Prop) : Prop :=
  ∀ (F : Assn) (w : World), Sat B (pre ++ [F]) w → ∃ fn tmps assign body, (Instr.yield l args).run P w = .ok (.round l fn tmps assign body) w ∧
    RoundIn (fz none) 0 P l fn tmps assign body w fun e w' => ∃ v M, e = .returned v ∧ post v M ∧ Sat B (M ++ [F]) w'

section
variable {P : Program} {B : Ctx} {n : Nat} {ds : List Deferred} {ro : Option Nat} {E : List (Nat × Value)} {L M : List Assn} {o : Oper}
variable {dst : Option Tmp} {ty : TypeId} {pos : String} {after : Array Edge} {guard : Option (Nat × Bool)}

theorem picks_append {is : List Nat} {A : List Assn} (h : picks L is A) {js : List Nat} {A' : List Assn} (h' : picks L js A') : picks L (is ++ js) (A ++ A') := by
  induction is generalizing A with
  | nil => cases A with
    | nil => exact h'
    | cons => exact h.elim
  | cons i is ih => cases A with
    | nil => exact h.elim
    | cons A0 A => exact ⟨h.1, ih h.2⟩

theorem do_yield {l : Nat} {g : Operand} {xs : List Operand} {vs : List Value} {as : Array Value} {pre R : List Assn} {post : Value → List Assn → Prop} {ts : Array TypeId}
    (hg : ev E g = some (.func (.yield l) #[] #[])) (hT : YTri P B l as pre post) (has : as = vs.toArray) (hx : evs E xs vs) (is js : List Nat) (hp : picks L is pre) (hr : picks L js R) (hn : (is ++ js).Nodup) :
    Do P B n ds ro ⟨dst, .call { callee := .value g, args := xs.toArray, argTypes := ts }, ty, pos, after, guard⟩ E L fun v M => ∃ M0, post v M0 ∧ M = M0 ++ R := by
  subst has
  intro a w hE hS K Q k
  have h1 := star_join (hS.pick (is ++ js) (picks_append hp hr) hn)
  obtain ⟨fn, tmps, assign, body, hy, hR⟩ := hT (Star R) w h1
  refine ⟨fun _ _ => trivial, ?_⟩
  have hrun : (execOp a.eval ⟨dst, .call { callee := .value g, args := xs.toArray, argTypes := ts }, ty, pos, after, guard⟩).run P w = .ok (.round l fn tmps assign body) w := by
    have := hE.evals hx
    simp [execOp, resolve, hE.eval hg, Deferred.ofValue, invoke, this, hy]
  rw [Oper.semAt_eq _ _ _ (by intro c h; cases h), hrun, Oper.uponIn_round]
  refine ⟨fun h => Bool.noConfusion h, ?_⟩
  refine RoundIn.mono (R := fun e w' => ∃ v M, e = .returned v ∧ post v M ∧ Sat B (M ++ [Star R]) w') hR ?_
  rintro e w' ⟨v, M0, rfl, hpost, hS'⟩
  exact k v _ w' ⟨M0, hpost, rfl⟩ (star_split hS')

/-- A loop's record as it was laid: its state and pending jump aside. -/
structure RecOk (n : Nat) (E : List (Nat × Value)) (ps : Array Tmp) (assign body : Code) (r : Loop) : Prop where
  params : r.params = ps
  assign : r.assign = assign
  body : r.body = body
  env : Env n [] E ⟨r.tmps, []⟩

/-- The slots of a round: yield's arguments over those at the loop's entry. -/
def zipE : List Tmp → List Value → List (Nat × Value) → List (Nat × Value)
  | t :: ts, v :: vs, E => zipE ts vs ((t, v) :: E)
  | _, _, E => E

theorem env_zip (ts : List Tmp) : ∀ (vs : List Value) (E : List (Nat × Value)) (t : Array Value), (ts.all fun d => Nat.blt d n) = true → Env n [] E ⟨t, []⟩ →
    Env n [] (zipE ts vs E) ⟨(ts.zip vs).foldl (fun tmps (x : Tmp × Value) => tmps.setIfInBounds x.1 x.2) t, []⟩ := by
  induction ts with
  | nil => intro vs E t _ h; simpa [zipE] using h
  | cons d ts ih =>
    intro vs E t hd h
    simp only [List.all_cons, Bool.and_eq_true] at hd
    cases vs with
    | nil => simpa [zipE] using h
    | cons v vs =>
      simp only [zipE, List.zip_cons_cons, List.foldl_cons]
      exact ih vs _ _ hd.2 (h.put (dst := some d) hd.1 v)

def rec_ (r : Loop) (s : LoopState) (p : Option Code) : Loop := { r with state := s, pending := p }

/-- What a round's body must come to. -/
def RoundQ (P : Program) (B : Ctx) (l : Nat) (F : Assn) (post : Value → List Assn → Prop) : Exit → Act → World → Prop :=
  roundPost P l fun e w' => ∃ v M, e = .returned v ∧ post v M ∧ Sat B (M ++ [F]) w'

def NoX : Exit → Act → World → Prop := fun _ _ _ => False

theorem ytri_of {l : Nat} {r : Loop} {p : Option Code} {ps : List Tmp} {assign body : Code} {args : List Value} {J : List Assn} {post : Value → List Assn → Prop} (hr : RecOk n E ps.toArray assign body r)
    (hn : args.length = ps.length) (hps : (ps.all fun d => Nat.blt d n) = true)
    (h : ∀ F, WC P B n [] (some l) assign (Exit.then (fun a₁ w₁ => ∃ w₂, (Instr.beginRound l).run P w₁ = .ok () w₂ ∧ body.wpIn (fz (some l)) 0 P (RoundQ P B l F post) a₁ w₂) NoX)
      (zipE ps args E) (pt l (.loop (rec_ r .ready p)) :: J ++ [F])) : YTri P B l args.toArray (pt l (.loop (rec_ r .ready p)) :: J) post := by
  intro F w hS
  have hl : w.heap[l]? = some (.loop (rec_ r .ready p)) := (hS.get (i := 0) rfl).1
  refine ⟨r.fn, (ps.zip args).foldl (fun tmps (x : Tmp × Value) => tmps.setIfInBounds x.1 x.2) r.tmps, assign, body, ?_, ?_⟩
  · have h1 : args.toArray.size = ps.toArray.size := by simpa using hn
    simp [Instr.yield, Instr.getLoop, getObj, Sem.run, hl, rec_, hr.params, hr.assign, hr.body, h1, hn]
  · refine roundIn_of_wpIn (F := fz none) trivial ?_
    have hE := env_zip ps args E r.tmps hps hr.env
    exact h F _ w hE hS

theorem at_assign {l : Nat} {r : Loop} {p : Option Code} {body : Code} {F : Assn} {post : Value → List Assn → Prop}
    (h : WC P B n ds (some l) body (RoundQ P B l F post) E (pt l (.loop (rec_ r .busy p)) :: L)) :
    AtX B n ds (Exit.then (fun a₁ w₁ => ∃ w₂, (Instr.beginRound l).run P w₁ = .ok () w₂ ∧ body.wpIn (fz (some l)) 0 P (RoundQ P B l F post) a₁ w₂) NoX) .normal E (pt l (.loop (rec_ r .ready p)) :: L) := by
  intro a w hE hS
  have hl : w.heap[l]? = some (.loop (rec_ r .ready p)) := (hS.get (i := 0) rfl).1
  refine ⟨{ w with heap := w.heap.setIfInBounds l (.loop (rec_ r .busy p)) }, ?_, h a _ hE ?_⟩
  · simp [Instr.beginRound, Instr.getLoop, getObj, setObj, Sem.run, hl, rec_]
  · have hlt := (Array.getElem?_eq_some_iff.1 hl).1
    exact Sat.setBlock (L1 := []) hS ⟨rfl, rfl, rfl, by simp⟩ (by simp [hlt]) (fun k hk => by simp [Array.getElem?_setIfInBounds_ne (Ne.symm hk)])

theorem end_round {l : Nat} {r : Loop} {p : Option Code} (j : Option Code) {w : World} (hS : Sat B (pt l (.loop (rec_ r .busy p)) :: L) w) :
    ∃ w', (Instr.endRound l j).run P w = .ok (.bool j.isNone) w' ∧ Sat B (pt l (.loop (rec_ r (if j.isNone then .ready else .done) j)) :: L) w' := by
  have hl : w.heap[l]? = some (.loop (rec_ r .busy p)) := (hS.get (i := 0) rfl).1
  have hlt := (Array.getElem?_eq_some_iff.1 hl).1
  refine ⟨{ w with heap := w.heap.setIfInBounds l (.loop (rec_ r (if j.isNone then .ready else .done) j)) }, ?_, ?_⟩
  · simp [Instr.endRound, Instr.getLoop, getObj, setObj, Sem.run, hl, rec_]
  · exact Sat.setBlock (L1 := []) hS ⟨rfl, rfl, rfl, by simp⟩ (by simp [hlt]) (fun k hk => by simp [Array.getElem?_setIfInBounds_ne (Ne.symm hk)])

theorem at_round_end {l : Nat} {r : Loop} {p : Option Code} {F : Assn} {post : Value → List Assn → Prop} (hp : post (.bool true) (pt l (.loop (rec_ r .ready none)) :: M)) (hL : L = M ++ [F]) :
    AtX B n ds (RoundQ P B l F post) .normal E (pt l (.loop (rec_ r .busy p)) :: L) := by
  intro a w hE hS
  subst hL
  obtain ⟨w', h1, h2⟩ := end_round (P := P) none hS
  exact ⟨_, w', h1, _, _, rfl, hp, h2⟩

theorem at_round_ret {l : Nat} {r : Loop} {p : Option Code} {F : Assn} {post : Value → List Assn → Prop} (hp : post (.bool false) (pt l (.loop (rec_ r .done (some .ret))) :: M)) (hL : L = M ++ [F]) :
    AtX B n ds (RoundQ P B l F post) .ret E (pt l (.loop (rec_ r .busy p)) :: L) := by
  intro a w hE hS
  subst hL
  obtain ⟨w', h1, h2⟩ := end_round (P := P) (some .ret) hS
  exact ⟨_, w', h1, _, _, rfl, hp, h2⟩

theorem at_round_exit {l id : Nat} {r : Loop} {p : Option Code} {F : Assn} {post : Value → List Assn → Prop} (hp : post (.bool false) (pt l (.loop (rec_ r .done (some (.exit id)))) :: M)) (hL : L = M ++ [F]) :
    AtX B n ds (RoundQ P B l F post) (.exit id) E (pt l (.loop (rec_ r .busy p)) :: L) := by
  intro a w hE hS
  subst hL
  obtain ⟨w', h1, h2⟩ := end_round (P := P) (some (.exit id)) hS
  exact ⟨_, w', h1, _, _, rfl, hp, h2⟩

abbrev mark_ (d : Nat) : Deferred := { target := .collected d, args := #[] }

theorem enter_loop {fn : FuncId} {a : Act} {ps : Array Tmp} {assign body : Code} {w : World} (hE : Env n ds E a) (hS : Sat B L w) :
    ∃ (d l : Nat) (r : Loop) (w1 : World), (Instr.enterLoop fn a.tmps ps assign body none).run P w = .ok (l, [mark_ d]) w1 ∧ RecOk n E ps assign body r ∧
      Sat B (pt l (.loop (rec_ r .ready none)) :: pt d (.deferred (some [])) :: L) w1 := by
  have hS1 := (hS.alloc (.deferred (some [])))
  have hS2 := hS1.alloc (.loop { state := .ready, pending := none, fn, tmps := a.tmps, params := ps, assign, body, defers := w.heap.size })
  refine ⟨w.heap.size, (w.heap.push (.deferred (some []))).size, { state := .ready, pending := none, fn, tmps := a.tmps, params := ps, assign, body, defers := w.heap.size }, _, ?_, ⟨rfl, rfl, rfl, ⟨hE.size, rfl, hE.get⟩⟩, hS2⟩
  simp [Instr.enterLoop, newObj, Sem.run]
  rfl

theorem exit_loop {l : Nat} {r : Loop} {s : LoopState} {p : Option Code} {w : World} (hs : s ≠ .busy) (hS : Sat B (pt l (.loop (rec_ r s p)) :: L) w) :
    ∃ w', (Instr.endLoop l).run P w = .ok p w' ∧ Sat B L w' := by
  have hl : w.heap[l]? = some (.loop (rec_ r s p)) := (hS.get (i := 0) rfl).1
  have hlt := (Array.getElem?_eq_some_iff.1 hl).1
  have h2 : Sat B (pt l (.loop (rec_ r .exhausted p)) :: L) { w with heap := w.heap.setIfInBounds l (.loop (rec_ r .exhausted p)) } :=
    Sat.setBlock (L1 := []) hS ⟨rfl, rfl, rfl, by simp⟩ (by simp [hlt]) (fun k hk => by simp [Array.getElem?_setIfInBounds_ne (Ne.symm hk)])
  refine ⟨_, ?_, h2.tail⟩
  cases s <;> first | exact absurd rfl hs | (simp [Instr.endLoop, Instr.getLoop, getObj, setObj, Sem.run, hl, rec_]; done)

/-- 'for .. := range g { body }', outermost. -/
theorem wc_rangeFunc {g : Operand} {ps : Array Tmp} {assign body : Code} {Q : Exit → Act → World → Prop} {f : FuncId} {fi ca : Array Value} (hg : ev E g = some (.func (.func f) fi ca)) (hen : Enters P f)
    (h : ∀ (d l : Nat) (r : Loop), RecOk n E ps assign body r → ∃ (pre R : List Assn) (post : Value → List Assn → Prop),
      Tri P B f (fi ++ #[.func (.yield l) #[] #[]] ++ ca) pre post ∧ (∀ w, Sat B (pt l (.loop (rec_ r .ready none)) :: pt d (.deferred (some [])) :: L) w → Sat B (pre ++ R) w) ∧
      ∀ v M, post v M → ∃ s p M', (∀ w, Sat B (M ++ R) w → Sat B (pt l (.loop (rec_ r s p)) :: M') w) ∧ s ≠ .busy ∧
        (match p with
         | none => AtX B n (mark_ d :: ds) Q .normal E M'
         | some c => WC P B n (mark_ d :: ds) none c Q E M')) : WC P B n ds none (.rangeFunc g ps assign body) Q E L := by
  intro a w hE hS
  refine wpIn_rangeFunc fun fn _ => ?_
  obtain ⟨d, l, r, w1, h1, hr, hS1⟩ := enter_loop (P := P) (fn := fn) (ps := ps) (assign := assign) (body := body) hE hS
  obtain ⟨pre, R, post, hT, hpre, hpost⟩ := h d l r hr
  have hres : (resolve a.eval (rangeCall g l) 0).run P w1 = .ok { target := .fn (.func f) ca, args := fi ++ #[.func (.yield l) #[] #[]] } w1 := by
    have hx : a.eval (.const (.func (.yield l) #[] #[])) = .func (.yield l) #[] #[] := rfl
    simp [resolve, rangeCall, hE.eval hg, Deferred.ofValue, hx]
  have hinv : (invoke (.fn (.func f) ca) (fi ++ #[.func (.yield l) #[] #[]])).run P w1 = .ok (.enter f (fi ++ #[.func (.yield l) #[] #[]] ++ ca)) w1 := by
    simp [invoke, hen _ _]
  refine ⟨l, [mark_ d], w1, _, w1, f, _, w1, h1, hres, fun _ _ => trivial, hinv, fun h => Bool.noConfusion h, calls_fz (Calls.mono (hT (Star R) _ (star_join (hpre _ hS1))) ?_)⟩
  rintro e w' ⟨v, M, rfl, hp, hS'⟩
  obtain ⟨s, p, M', hM, hs, hk⟩ := hpost v M hp
  obtain ⟨w2, h2, hS2⟩ := exit_loop (P := P) hs (hM _ (star_split hS'))
  refine ⟨p, w2, h2, ?_⟩
  have hE' : Env n (mark_ d :: ds) E { a with defers := [mark_ d] ++ a.defers } := ⟨hE.size, by simp [hE.defers], hE.get⟩
  cases p with
  | none => exact hk _ _ hE' hS2
  | some c => exact hk _ _ hE' hS2

/-! leaving with marks -/
def AtLv (P : Program) (B : Ctx) (n : Nat) (fn : Func) (F : Assn) (post : Value → List Assn → Prop) (ds : List Deferred) (E : List (Nat × Value)) (L : List Assn) : Prop :=
  ∀ a w, Env n ds E a → Sat B L w → LeavesInM (fz none) 0 P fn a.tmps (RPost B F post) ds .returning w

theorem tri_bodyM {f : FuncId} {fn : Func} {c : Code} {args : List Value} {pre : List Assn} {post : Value → List Assn → Prop}
    {n : Nat} (hf : P.funcs[f]? = some fn) (hb : fn.body = some c) (hn2 : fn.ntmps = n) (hn : Nat.ble args.length n = true)
    (h : ∀ F, WC P B n [] none c (bodyPostM (fz none) 0 P fn (RPost B F post)) (slots 0 args) (pre ++ [F])) : Tri P B f args.toArray pre post := by
  subst hn2
  intro F w hS
  refine (callsIn_wide (n := 0)).1 (callsIn_of_wp_marks hf hb trivial (h F _ w ⟨?_, rfl, ?_⟩ hS))
  · have := Nat.le_of_ble_eq_true hn
    simp
    omega
  · intro d v hd
    obtain ⟨h1, h2⟩ := look_slots args 0 d v hd
    have hl := (List.getElem?_eq_some_iff.1 h2).1
    simp only [Nat.sub_zero] at h2 hl
    rw [Array.getElem?_append_left (by simpa using hl)]
    simpa using h2

theorem at_retM {fn : Func} {F : Assn} {post : Value → List Assn → Prop} (h : AtLv P B n fn F post ds E L) : AtX B n ds (bodyPostM (fz none) 0 P fn (RPost B F post)) .ret E L := by
  intro a w hE hS
  have := h a w hE hS
  rw [← hE.defers] at this
  exact this
theorem at_endM {fn : Func} {F : Assn} {post : Value → List Assn → Prop} (h : AtLv P B n fn F post ds E L) : AtX B n ds (bodyPostM (fz none) 0 P fn (RPost B F post)) .normal E L := by
  intro a w hE hS
  have := h a w hE hS
  rw [← hE.defers] at this
  exact this

theorem at_mark {fn : Func} {F : Assn} {post : Value → List Assn → Prop} {d : Nat} (i : Nat) (hd : nth L i = some (pt d (.deferred (some [])))) (is : List Nat) (hp : picks L is M) (hn : (i :: is).Nodup)
    (h : AtLv P B n fn F post ds E M) : AtLv P B n fn F post (mark_ d :: ds) E L := by
  intro a w hE hS
  have hS1 : Sat B (pt d (.deferred (some [])) :: M) w := hS.pick (i :: is) (show picks L (i :: is) (pt d (.deferred (some [])) :: M) from ⟨hd, hp⟩) hn
  have hl : w.heap[d]? = some (.deferred (some [])) := (hS1.get (i := 0) rfl).1
  have hlt := (Array.getElem?_eq_some_iff.1 hl).1
  have h2 : Sat B (pt d (.deferred none) :: M) { w with heap := w.heap.setIfInBounds d (.deferred none) } :=
    Sat.setBlock (L1 := []) hS1 ⟨rfl, rfl, rfl, by simp⟩ (by simp [hlt]) (fun k hk => by simp [Array.getElem?_setIfInBounds_ne (Ne.symm hk)])
  refine ⟨by simp, .inl ⟨d, { w with heap := w.heap.setIfInBounds d (.deferred none) }, rfl, ?_, ?_⟩⟩
  · simp [Instr.takeDeferred, getObj, setObj, Sem.run, hl]
  · exact h ⟨a.tmps, ds⟩ _ ⟨hE.size, rfl, hE.get⟩ h2.tail

theorem lv_0 {fn : Func} {F : Assn} {post : Value → List Assn → Prop} (hr : fn.results = #[]) (hp : post (.tuple #[]) M) (hL : L = M ++ [F]) : AtLv P B n fn F post [] E L := by
  intro a w hE hS
  exact ⟨.tuple #[], results_none hr _ _ _, _, M, rfl, hp, hL ▸ hS⟩
theorem lv_1 {fn : Func} {t : Tmp} {v : Value} {F : Assn} {post : Value → List Assn → Prop} (hr : fn.results = #[.tmp t]) (hv : look E t = some v) (hp : post v M) (hL : L = M ++ [F]) : AtLv P B n fn F post [] E L := by
  intro a w hE hS
  refine ⟨v, ?_, v, M, rfl, hp, hL ▸ hS⟩
  rw [results_tmp hr]
  have := hE.get t v hv
  simp [this]
theorem lv_2 {fn : Func} {t u : Tmp} {v v2 : Value} {F : Assn} {post : Value → List Assn → Prop} (hr : fn.results = #[.tmp t, .tmp u]) (hv : look E t = some v) (hv2 : look E u = some v2) (hp : post (.tuple #[v, v2]) M) (hL : L = M ++ [F]) : AtLv P B n fn F post [] E L := by
  intro a w hE hS
  refine ⟨.tuple #[v, v2], ?_, _, M, rfl, hp, hL ▸ hS⟩
  rw [results_tmp2 hr]
  have h1 := hE.get t v hv
  have h2 := hE.get u v2 hv2
  simp [h1, h2]
/-- A result that lies in a variable's block. -/
theorem lv_cell {fn : Func} {t : Tmp} {ty : TypeId} {b off : Nat} {cs : Array Value} {T : TypeId} {v : Value} {F : Assn} {post : Value → List Assn → Prop} (hr : fn.results = #[.cell t ty]) (hv : look E t = some (.pointer (some ⟨b, off, none⟩)))
    (h1 : oneOk P ty = true) (i : Nat) (hL1 : nth L i = some (pt b (.cells cs T (0, 0)))) (hc : nth cs.toList off = some v) (is : List Nat) (hpk : picks L is (M ++ [F])) (hn : is.Nodup) (hp : post v M) : AtLv P B n fn F post [] E L := by
  intro a w hE hS
  have hb := (hS.get hL1).1
  refine ⟨v, ?_, v, M, rfl, hp, hS.pick is hpk hn⟩
  have := hE.get t _ hv
  simp [results, hr, this, asAddr, run_loadVar1 h1 ((cell_of_block hb).trans (nth_arr hc))]
end
end Go.Proofs.Ytmefejfnddcelaa
