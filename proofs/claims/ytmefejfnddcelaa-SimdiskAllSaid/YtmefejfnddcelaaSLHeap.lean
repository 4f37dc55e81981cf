/- Parts in any order; one of many parts taken out and put back; appends of what can be read, and of zeros; slices of rows; type assertions; a map's clone. -/
import Derived.Test.YtmefejfnddcelaaSLMid
import Derived.Test.YtmefejfnddcelaaSLSeq
import Derived.Test.YtmefejfnddcelaaSLLaw
namespace Go.Proofs.Ytmefejfnddcelaa
section
variable {P : Program} {B : Ctx} {n : Nat} {ds : List Deferred} {ro : Option Nat} {E : List (Nat × Value)} {L M R : List Assn} {w : World}

theorem Sat.reindex (f g : Nat → Nat) (h1 : ∀ i, g (f i) = i) (h2 : ∀ j, f (g j) = j) (hM : ∀ (i : Nat) (A : Assn), M[i]? = some A → L[f i]? = some A) (h : Sat B L w) : Sat B M w := by
  obtain ⟨he, own, ho⟩ := h
  obtain ⟨o2, ho2⟩ : ∃ o2 : Nat → Nat, ∀ k, o2 k = g (own k) := ⟨_, fun _ => rfl⟩
  refine ⟨he, o2, fun i A hA => ?_⟩
  refine (congrArg A (part_congr fun k => ?_)).mp (ho (f i) A (hM i A hA))
  by_cases hk : own k = f i ∧ B.n ≤ k
  · exact .inl ⟨hk, ⟨by rw [ho2, hk.1, h1], hk.2⟩, rfl⟩
  · exact .inr (.inl ⟨hk, fun x => hk ⟨by rw [← x.1, ho2, h2], x.2⟩⟩)

theorem Sat.swap {X : List Assn} {a b : Assn} (h : Sat B (X ++ a :: b :: L) w) : Sat B (X ++ b :: a :: L) w := by
  obtain ⟨f, hf⟩ : ∃ f : Nat → Nat, ∀ i, f i = (if i = X.length then X.length + 1 else if i = X.length + 1 then X.length else i) := ⟨_, fun _ => rfl⟩
  have hff : ∀ i, f (f i) = i := fun i => by
    rw [hf (f i), hf i]
    by_cases e1 : i = X.length
    · rw [if_pos e1, if_neg (by omega), if_pos rfl]; exact e1.symm
    · rw [if_neg e1]
      by_cases e2 : i = X.length + 1
      · rw [if_pos e2, if_pos rfl]; exact e2.symm
      · rw [if_neg e2, if_neg e1, if_neg e2]
  refine Sat.reindex f f hff hff (fun i A hA => ?_) h
  rw [hf]
  by_cases e1 : i = X.length
  · rw [if_pos e1, List.getElem?_append_right (by omega)]
    subst e1
    rw [List.getElem?_append_right (Nat.le_refl _)] at hA
    simpa using hA
  · rw [if_neg e1]
    by_cases e2 : i = X.length + 1
    · rw [if_pos e2, List.getElem?_append_right (Nat.le_refl _)]
      subst e2
      rw [List.getElem?_append_right (by omega)] at hA
      simpa using hA
    · rw [if_neg e2]
      by_cases e3 : i < X.length
      · rw [List.getElem?_append_left e3] at hA ⊢; exact hA
      · rw [List.getElem?_append_right (by omega)] at hA ⊢
        obtain ⟨k, hk⟩ : ∃ k, i - X.length = k + 2 := ⟨i - X.length - 2, by omega⟩
        rw [hk] at hA ⊢
        simpa using hA

theorem Sat.perm (hp : L.Perm M) : ∀ (X : List Assn), Sat B (X ++ L) w → Sat B (X ++ M) w := by
  induction hp with
  | nil => intro X h; exact h
  | cons a _ ih => intro X h; have := ih (X ++ [a]) (by simpa using h); simpa using this
  | swap a b l => intro X h; exact h.swap
  | trans _ _ ih1 ih2 => intro X h; exact ih2 X (ih1 X h)
theorem Sat.permute (hp : L.Perm M) (h : Sat B L w) : Sat B M w := Sat.perm hp [] h

theorem erase_perm {α : Type} : ∀ (l : List α) (i : Nat) (h : i < l.length), (l[i] :: l.eraseIdx i).Perm l
  | x :: l, 0, _ => .refl _
  | x :: l, i + 1, h => by
    have hi : i < l.length := by simpa using h
    simp only [List.getElem_cons_succ, List.eraseIdx_cons_succ]
    exact (List.Perm.swap _ _ _).trans ((erase_perm l i hi).cons x)
/-- One of many parts, taken out. -/
theorem star_open {Ls : List Assn} {A : Assn} {i : Nat} (hi : Ls[i]? = some A) (h : Sat B (Star Ls :: R) w) : Sat B (A :: Star (Ls.eraseIdx i) :: R) w := by
  have h1 := star_get h
  obtain ⟨hl, rfl⟩ := List.getElem?_eq_some_iff.1 hi
  have h2 : Sat B (Ls.eraseIdx i ++ Ls[i] :: R) w := Sat.permute (((erase_perm Ls i hl).symm.append_right R).trans (List.perm_middle (l₁ := Ls.eraseIdx i)).symm) h1
  exact (star_put h2).permute (List.Perm.swap _ _ _)
theorem star_close {Ls : List Assn} {A : Assn} {i : Nat} (hl : i < Ls.length) (h : Sat B (A :: Star (Ls.eraseIdx i) :: R) w) : Sat B (Star (Ls.set i A) :: R) w := by
  have h1 := star_get (h.permute (List.Perm.swap _ _ _))
  refine star_put (h1.permute (List.perm_middle.trans ?_))
  have hs : i < (Ls.set i A).length := by simpa using hl
  have h2 := erase_perm (Ls.set i A) i hs
  rw [List.getElem_set_self, List.eraseIdx_set_eq] at h2
  exact h2.append_right R
theorem star_snoc {Ls : List Assn} {A : Assn} (h : Sat B (A :: Star Ls :: R) w) : Sat B (Star (Ls ++ [A]) :: R) w := by
  have h1 := star_get (h.permute (List.Perm.swap _ _ _))
  exact star_put (by simpa using h1)

variable {o : Oper} {post : Value → List Assn → Prop}
theorem do_premem {L' : List Assn} (hL : ∀ w, Sat B L w → Sat B L' w) (h : Do P B n ds ro o E L' post) : Do P B n ds ro o E L post := fun a w hE hS => h a w hE (hL w hS)
theorem do_prefact {φ : Prop} {A : Assn} (i : Nat) (hA : nth L i = some A) (h : ∀ h : Hp, (∀ k o, h k = some o → B.n ≤ k) → A h → φ) (k : φ → Do P B n ds ro o E L post) : Do P B n ds ro o E L post := fun a w hE hS => k (sat_fact hS i hA h) a w hE hS

/-- A literal's block as a row. -/
theorem pt_row {b m : Nat} {cs : Array Value} {e : TypeId} (sz : Nat) (hs : cs.size = m * sz) (hm : m ≤ maxLen) (h : Sat B (pt b (.cells cs e (0, 0)) :: L) w) : Sat B (row e sz (.slice (some ⟨b, 0, none⟩) m m) m cs.toList :: L) w :=
  h.imp0 fun h _ hp => ⟨by simpa using hs, .inr ⟨b, m, cs, rfl, hp, Nat.le_refl _, hm, hs, by rw [List.take_of_length_le]; simpa using Nat.le_of_eq hs⟩⟩
/-- A row's beginning is a row. -/
theorem row_take {g cap m k sz : Nat} {e : TypeId} {xs : List Value} (hk : k ≤ m) (h : Sat B (row e sz (.slice (some ⟨g, 0, none⟩) m cap) m xs :: L) w) : Sat B (row e sz (.slice (some ⟨g, 0, none⟩) k cap) k (xs.take (k * sz)) :: L) w :=
  h.imp0 fun h _ hr => by
    obtain ⟨h1, (⟨h2, _⟩ | ⟨g', cap', cur, h2, h3, h4, h5, h6, h7⟩)⟩ := hr
    · cases h2
    · cases h2
      have hle : k * sz ≤ m * sz := Nat.mul_le_mul_right _ hk
      refine ⟨by rw [List.length_take]; omega, .inr ⟨g, cap, cur, rfl, h3, by omega, h5, h6, ?_⟩⟩
      rw [← h7, List.take_take, Nat.min_eq_left hle]

variable {dst : Option Tmp} {ty : TypeId} {pos : String} {after : Array Edge} {guard : Option (Nat × Bool)} {x y z : Operand} {v u z0 : Value} {t s e : TypeId} {sz bytes : Nat}

/-- append(x, y...) of what can be read. -/
theorem do_appendR {L1 L2 : List Assn} {m k : Nat} {xs news : List Value} {A : Assn} (j : Nat) (ht : P.underlying t = some (.slice e)) (hty : tyOk P e sz bytes z0) (hsz : 0 < sz)
    (hx : ev E x = some v) (hy : ev E y = some u) (hA : nth (L1 ++ row e sz v m xs :: L2) j = some A) (hR : Rd B A sz u k news) (h1 : ∀ u ∈ news, u.oneCell' = true)
    (h63 : m + k ≤ maxLen) (hb : (m + k) * bytes ≤ 140737488355328) :
    Do P B n ds ro ⟨dst, .call { callee := .builtin .append, args := #[x, y], argTypes := #[t, t] }, ty, pos, after, guard⟩ E (L1 ++ row e sz v m xs :: L2)
      fun u' M => u'.oneCell' = true ∧ M = L1 ++ row e sz u' (m + k) (xs ++ news) :: L2 := by
  intro a w hE hS
  obtain ⟨hl, ad, cap, hu, hn⟩ := sat_fact hS j hA fun h hb hr => And.intro (hR h hb hr).1 (rd_shape (hR h hb hr))
  subst hu
  cases ad with
  | some ad =>
    intro K Q hK
    exact do_append ht hty hsz hx hy hl (reads_rd j hA hR) h1 h63 hb a w hE hS K Q fun v M w' ⟨_, h2, h3⟩ hS' => hK v M w' ⟨h2, h3⟩ hS'
  | none =>
    have h0 : news = [] := hn rfl
    subst h0
    have hk : k = 0 := by
      have h2 : k * sz = 0 := hl.symm
      rcases Nat.mul_eq_zero.1 h2 with h | h
      · exact h
      · omega
    subst hk
    refine do_okx (P := P) (B := B) (n := n) (ds := ds) (ro := ro) (fun a w hE hS => ?_) (fun c h => by cases h) a w hE hS
    obtain ⟨i, hi, hs1, hb1, hz, hzs⟩ := hty
    obtain ⟨S0, hS0, hA0⟩ := hS.at_
    have hown := (row_part hS0 hA0).1
    have hrun : (Builtin.append_ #[t, t] ty #[v, .slice none 0 cap]).run P w = .ok v w := by
      rcases hown.2 with ⟨rfl, rfl⟩ | ⟨g, cap', cur, rfl, _, _, hnc, _⟩
      · simp [Builtin.append_, run_underlying ht, sizeOf, typeInfo, hi, Builtin.lenOf, Builtin.firstCells]
      · simp [Builtin.append_, run_underlying ht, sizeOf, typeInfo, hi, Builtin.lenOf, Builtin.firstCells, hnc, storeCells]
    refine ⟨v, w, _, ?_, ⟨?_, rfl⟩, by simpa using hS⟩
    · simp [execOp, resolve, invoke, builtin, hE.eval hx, hE.eval hy, hrun]
    · rcases hown.2 with ⟨rfl, _⟩ | ⟨g, cap', cur, rfl, _⟩ <;> rfl

/-- append(x, make([]T, k)...) of a row with room for the numbers. -/
theorem run_append_zeros {w : World} {tn : TypeId} {kn k2 : IntKind} (base : Nat) (i : TypeInfo) (ht : P.underlying t = some (.slice e)) (htn : P.underlying tn = some (.int kn)) (hi : P.info? e = some i) (hz : i.zero = some z0)
    (hzs : z0.cells.size = 1) (hs1 : i.size = 1) (hone : z0.cells = #[z0]) (hz1 : z0.oneCell' = true) (hby : i.bytes = 1) {m k : Nat} {xs : List Value} (hown : w.ownsRow base e 1 v m xs) (h63 : m + k ≤ 1099511627776) (hbase : base ≤ w.heap.size) :
    ∃ v' w', (Builtin.append_ #[t, tn] ty #[v, .int k2 (k : Int)]).run P w = .ok v' w' ∧ w'.ownsRow base e 1 v' (m + k) (xs ++ List.replicate k z0) ∧ w.grownBy w' v.ownBlock ∧ (v'.ownBlock = v.ownBlock ∨ v'.ownBlock = some w.heap.size) := by
  have hw : IntKind.i64.wrap (k : Int) = k := by rw [IntKind.wrap_i64]; omega
  have hneg : ¬ ((k : Int) < 0) := by omega
  have hzc : ∀ q, Builtin.zeroCells z0.cells q = Array.replicate q z0 := fun q => by
    apply Array.ext
    · simp [Builtin.zeroCells, hone]
    · intro j h1 h2
      have hj : j % 1 = 0 := Nat.mod_one j
      simp [Builtin.zeroCells, hj, hone]
  have hxl : xs.length = m := by have := hown.1; omega
  have hlen : (xs ++ List.replicate k z0).length = (m + k) * 1 := by simp [hxl]
  have hq : ∀ a b, (Question.appendCap a b e).forced = false := fun _ _ => rfl
  have h48i : ¬ (281474976710656 < (k : Int) * (i.bytes : Int)) := by rw [hby]; omega
  have grown : ∀ (old : Nat) (row : Option Nat),
      (w.drew.alloc (.cells (xs.toArray ++ Array.replicate k z0 ++ Array.replicate (grownCap w (m + k) old e - (m + k)) z0) e)).ownsRow base e 1
        (.slice (some ⟨w.heap.size, 0, none⟩) (m + k) (grownCap w (m + k) old e)) (m + k) (xs ++ List.replicate k z0) ∧
      w.grownBy (w.drew.alloc (.cells (xs.toArray ++ Array.replicate k z0 ++ Array.replicate (grownCap w (m + k) old e - (m + k)) z0) e)) row := by
    intro old row
    have hge := grownCap_ge w (m + k) old e
    have hcm : grownCap w (m + k) old e ≤ maxLen := grownCap_le_maxLen w (m + k) old e (by simp only [maxLen]; omega)
    refine ⟨⟨hlen, .inr ⟨w.heap.size, _, _, rfl, hbase, heap_alloc_new w.drew _, hge, hcm, ?_, ?_⟩⟩, ⟨rfl, rfl, rfl, by simp, fun k' hk' _ => heap_alloc_old w.drew _ hk'⟩⟩
    · simp [hxl]; omega
    · simp only [Array.toList_append, List.append_assoc, Array.toList_replicate]
      rw [← List.append_assoc, ← hlen]
      exact List.take_left
  rcases hown.2 with ⟨rfl, rfl⟩ | ⟨g, cap, cur, rfl, hbg, hg, hnc, hcm, hcs, htake⟩
  · have hx : xs = [] := List.eq_nil_of_length_eq_zero hxl
    subst hx
    by_cases hk : k = 0
    · subst hk
      refine ⟨.slice none 0 0, w, ?_, World.ownsRow_nil w base e 1, ⟨rfl, rfl, rfl, Nat.le_refl _, fun _ _ _ => rfl⟩, Or.inl rfl⟩
      simp [Builtin.append_, run_underlying ht, run_underlying htn, sizeOf, typeInfo, hi, asInt, asIntOf, IntKind.wrap_i64]
    · have hgr := grown 0 (Value.ownBlock (.slice none 0 0))
      refine ⟨_, _, ?_, hgr.1, hgr.2, Or.inr rfl⟩
      have h63' : ¬ (9223372036854775807 < (k : Int)) := by omega
      have h48' : ¬ (281474976710656 < Builtin.nextslicecap k 0 * i.bytes) := by rw [nextslicecap_zero (by omega), hby]; omega
      simp [Builtin.append_, run_underlying ht, run_underlying htn, sizeOf, typeInfo, zeroValue, hi, hz, hs1, asInt, asIntOf, hw, hneg, h48i, hk, h63', h48', Question.forced, run_firstCells_none, hzc, newRow, grownCap]
  · by_cases hroom : m + k ≤ cap
    · by_cases hk : k = 0
      · subst hk
        refine ⟨_, w, ?_, by simpa using hown, ⟨rfl, rfl, rfl, Nat.le_refl _, fun _ _ _ => rfl⟩, Or.inl rfl⟩
        have hnc' : m ≤ cap := hnc
        simp [Builtin.append_, run_underlying ht, run_underlying htn, sizeOf, typeInfo, hi, hs1, asInt, asIntOf, IntKind.wrap_i64, hnc', storeCells]
      · have hfit : m + (List.replicate k z0).length ≤ cur.size := by rw [hcs]; simp; omega
        have hst := run_storeCells_at P g (m * 1) e (List.replicate k z0) 0 cur w hg (by simpa using hfit) (fun u hu => by rw [List.eq_of_mem_replicate hu]; exact hz1)
        simp only [Nat.add_zero, Nat.mul_one] at hst
        obtain ⟨cs, hcs2⟩ : ∃ cs : Array Value, cs = (List.take m cur.toList ++ List.replicate k z0 ++ List.drop (m + (List.replicate k z0).length) cur.toList).toArray := ⟨_, rfl⟩
        rw [← hcs2] at hst
        have hrun : (Builtin.append_ #[t, tn] ty #[.slice (some ⟨g, 0, none⟩) m cap, .int k2 (k : Int)]).run P w = .ok (.slice (some ⟨g, 0, none⟩) (m + k) cap) (w.setRow g cs) := by
          simp [Builtin.append_, run_underlying ht, run_underlying htn, sizeOf, typeInfo, zeroValue, hi, hz, hs1, asInt, asIntOf, hw, hneg, h48i, hk, hroom, hzc, Addr.add_lit, hst]
        refine ⟨_, _, hrun, ⟨hlen, .inr ⟨g, cap, cs, rfl, hbg, setRow_heap w g cur cs e _ hg, hroom, hcm, ?_, ?_⟩⟩, ⟨rfl, rfl, rfl, by simp, fun k _ hk => setRow_other w g k cs (fun e => hk (by simp [Value.ownBlock, e]))⟩, Or.inl rfl⟩
        · subst hcs2; simp [hcs]; omega
        · subst hcs2
          rw [Nat.mul_one] at htake
          rw [htake, ← hlen]
          exact List.take_left
    · have holds : ∀ j u, xs[j]? = some u → w.cell? ((⟨g, 0, none⟩ : Addr).add j) = some u := hown.cells (g := g) rfl
      have hgr := grown cap (Value.ownBlock (.slice (some ⟨g, 0, none⟩) m cap))
      refine ⟨_, _, ?_, hgr.1, hgr.2, Or.inr rfl⟩
      have hk : ¬ k = 0 := by omega
      have h63' : ¬ (9223372036854775807 < ((m : Int) + (k : Int))) := by omega
      have h48' : ¬ (281474976710656 < Builtin.nextslicecap (m + k) cap * i.bytes) := by
        have := growslice_fits (need := m + k) (old := cap) (bytes := i.bytes) (by omega) (by rw [hby]; omega)
        omega
      have hfo := run_firstCells_some (P := P) w.drew 1 m ⟨g, 0, none⟩ m cap xs (by omega) (by simpa using holds)
      simp [Builtin.append_, run_underlying ht, run_underlying htn, sizeOf, typeInfo, zeroValue, hi, hz, hs1, asInt, asIntOf, hw, hneg, h48i, hk, hroom, h63', h48', Question.forced, hfo, hzc, newRow, grownCap]
/-- append(x, make([]T, k)...) -/
theorem do_appendZ {L1 L2 : List Assn} {tn : TypeId} {kn k2 : IntKind} {m k : Nat} {xs : List Value} (ht : P.underlying t = some (.slice e)) (htn : P.underlying tn = some (.int kn)) (hty : tyOk P e 1 1 z0) (hone : z0.cells = #[z0]) (hz1 : z0.oneCell' = true)
    (hx : ev E x = some v) (hy : ev E y = some (.int k2 (k : Int))) (h63 : m + k ≤ 1099511627776) :
    Do P B n ds ro ⟨dst, .call { callee := .builtin .append, args := #[x, y], argTypes := #[t, tn] }, ty, pos, after, guard⟩ E (L1 ++ row e 1 v m xs :: L2)
      fun u' M => u'.oneCell' = true ∧ M = L1 ++ row e 1 u' (m + k) (xs ++ List.replicate k z0) :: L2 :=
  do_okx fun a w hE hS => by
    obtain ⟨i, hi, hs1, hb1, hz, hzs⟩ := hty
    obtain ⟨S0, hS0, hA0⟩ := hS.at_
    have hown := (row_part hS0 hA0).1
    obtain ⟨v', w', hr, h2, h3, h5⟩ := run_append_zeros (P := P) (ty := ty) (k2 := k2) B.n i ht htn hi hz hzs hs1 hone hz1 hb1 hown h63 hS.1.size
    refine ⟨v', w', _, ?_, ⟨?_, rfl⟩, ?_⟩
    · simp [execOp, resolve, invoke, builtin, hE.eval hx, hE.eval hy, hr]
    · obtain ⟨_, h6⟩ := h2
      rcases h6 with ⟨rfl, _⟩ | ⟨g, cap, cur, rfl, _⟩ <;> rfl
    · refine hS.upd (grown_keep h3) fun S hSn hA => ?_
      obtain ⟨ho, hk⟩ := row_part hSn hA
      refine ⟨fun k hk1 hk2 => h3.block k hk1 (fun e => hk2 (hk k e.symm)), row_of h2 fun k hk1 => ?_⟩
      rcases h5 with h5 | h5
      · exact .inl (hk k (by rw [← h5]; exact hk1))
      · rw [h5] at hk1
        cases hk1
        exact .inr (Nat.le_refl _)

/-- x[l:h] of a slice. -/
theorem do_sliceV {lo hi : Option Operand} {vl vh : Option Value} {b off m cap l h : Nat} (ht : P.underlying t = some (.slice e)) (hty : tyOk P e sz bytes z0) (hx : ev E x = some (.slice (some ⟨b, off, none⟩) m cap)) (hlo : evo E lo vl) (hhi : evo E hi vh)
    (hl : bnd vl 0 l) (hh : bnd vh m h) (h1 : l ≤ h) (h2 : h ≤ cap) : Do1 P B n ds ro ⟨dst, .slice t x lo hi none, ty, pos, after, guard⟩ E L (.slice (some (if cap = l then ⟨b, off, none⟩ else ⟨b, off + l * sz, none⟩)) (h - l) (cap - l)) L := do_pure fun a w hE => by
  obtain ⟨i, hi, hs, _, hz, _⟩ := hty
  have e1 := hE.evalo hlo
  have e2 := hE.evalo hhi
  simp [execOp, Instr.sliceAt, Instr.slice, hE.eval hx, e1, e2, run_und ht, bounds_run hl hh h1 h2, run_size hi, hs, addr_add]
  split <;> rfl
/-- x[:0] of no slice. -/
theorem do_sliceN {lo hi : Option Operand} {vl vh : Option Value} (ht : P.underlying t = some (.slice e)) (hty : tyOk P e sz bytes z0) (hx : ev E x = some (.slice none 0 0)) (hlo : evo E lo vl) (hhi : evo E hi vh)
    (hl : bnd vl 0 0) (hh : bnd vh 0 0) : Do1 P B n ds ro ⟨dst, .slice t x lo hi none, ty, pos, after, guard⟩ E L (.slice none 0 0) L := do_pure fun a w hE => by
  obtain ⟨i, hi, hs, _, hz, _⟩ := hty
  have e1 := hE.evalo hlo
  have e2 := hE.evalo hhi
  simp [execOp, Instr.sliceAt, Instr.slice, hE.eval hx, e1, e2, run_und ht, bounds_run hl hh (Nat.le_refl 0) (Nat.le_refl 0), run_size hi, hs]
/-- x[:h] of a slice: the same address. -/
theorem do_sliceP {hi : Option Operand} {vh : Option Value} {b off m cap h : Nat} (ht : P.underlying t = some (.slice e)) (hty : tyOk P e sz bytes z0) (hx : ev E x = some (.slice (some ⟨b, off, none⟩) m cap)) (hhi : evo E hi vh)
    (hh : bnd vh m h) (h2 : h ≤ cap) : Do1 P B n ds ro ⟨dst, .slice t x none hi none, ty, pos, after, guard⟩ E L (.slice (some ⟨b, off, none⟩) h cap) L := by
  have := do_sliceV (P := P) (B := B) (n := n) (ds := ds) (ro := ro) (L := L) (dst := dst) (ty := ty) (pos := pos) (after := after) (guard := guard) (lo := none) (vl := none) (l := 0) ht hty hx trivial hhi rfl hh (Nat.zero_le h) h2
  simpa using this
/-- x[:k] of a row of bytes: bytes that can be read. -/
theorem row_cut {g cap m k : Nat} {e : TypeId} {bs : List UInt8} (hk : k ≤ bs.length) (h : Sat B (row e 1 (.slice (some ⟨g, 0, none⟩) m cap) m (byv bs) :: L) w) : Sat B ((fun h => rd B 1 (.slice (some ⟨g, 0, none⟩) k cap) (bs.take k).length (byv (bs.take k)) h) :: L) w := by
  have hm : bs.length = m := sat_fact h 0 rfl fun h _ hr => by have := hr.1; rw [byv_len] at this; omega
  have h1 := row_take (k := k) (by omega) h
  have e1 : (byv bs).take (k * 1) = byv (bs.take k) := by rw [Nat.mul_one]; simp [byv, List.map_take]
  rw [e1] at h1
  have e2 : (bs.take k).length = k := by rw [List.length_take]; omega
  rw [e2]
  exact h1.imp0 fun h hb hr => row_rd (b := 0) (cap := 0) h hr hb
theorem star_rd {Ls : List Assn} {A : Assn} {i sz m : Nat} {v : Value} {xs : List Value} (hi : Ls[i]? = some A) (hR : Rd B A sz v m xs) : Rd B (Star Ls) sz v m xs := fun h hb ⟨own, ho⟩ =>
  rd_mono (hR _ (fun k o hk => by
    by_cases e : own k = i
    · simp only [if_pos e] at hk; exact hb k o hk
    · simp only [if_neg e] at hk; cases hk) (ho i A hi)) fun k o hk => by
    by_cases e : own k = i
    · simpa only [if_pos e] using hk
    · simp only [if_neg e] at hk; cases hk
theorem cells_one {v : Value} (h : v.oneCell' = true) : v.cells = #[v] := by cases v <;> first | rfl | (simp [Value.oneCell'] at h)
theorem bslice_one {v : Value} {bytes : Nat} (hv : v.oneCell' = true) (ht : P.underlying t = some (.slice e)) (hty : tyOk P e 1 bytes z0) (hzs : ((Array.range (1 * 1)).map (z0.cells[· % z0.cells.size]!)) = #[z0]) : bsliceOk P t e 1 [(0, v)] #[v] :=
  bslice_mk (zs := #[z0]) hzs ht hty (by decide) (by decide) (by simp [Instr.fill, cells_one hv])
theorem row_one {m : Nat} {xs : List Value} (h : Hp) (_ : ∀ k o, h k = some o → B.n ≤ k) (hr : row e sz v m xs h) : v.oneCell' = true := by
  obtain ⟨_, (⟨rfl, _⟩ | ⟨g, cap, cur, rfl, _⟩)⟩ := hr <;> rfl
theorem tri_posts {f : FuncId} {args : Array Value} {pre : List Assn} {post post' : Value → List Assn → Prop} (h : Tri P B f args pre post) (k : ∀ v M F w, post v M → Sat B (M ++ [F]) w → ∃ M', post' v M' ∧ Sat B (M' ++ [F]) w) : Tri P B f args pre post' := fun F w hS =>
  Calls.mono (h F w hS) fun _ _ ⟨v, M, e, hp, hS'⟩ => let ⟨M', h1, h2⟩ := k v M F _ hp hS'; ⟨v, M', e, h1, h2⟩
theorem byv_app (a b : List UInt8) : byv a ++ byv b = byv (a ++ b) := by simp [byv]
theorem byv_rep (k : Nat) : List.replicate k (Value.int .u8 0) = byv (List.replicate k 0) := by simp [byv]
theorem do_capSlice {ts : Array TypeId} {p : Option Addr} {l c : Nat} {t1 : TypeId} (ht : ts[0]? = some t1) (hs : isSlice P t1 = true) (hx : ev E x = some (.slice p l c)) :
    Do1 P B n ds ro ⟨dst, .call { callee := .builtin .cap, args := #[x], argTypes := ts }, ty, pos, after, guard⟩ E L (.int .i64 c) L := do_pure fun a w hE => by
  obtain ⟨_, hu⟩ := isSlice_und hs
  simp [execOp, resolve, invoke, builtin, Builtin.cap_, hE.eval hx, ht, run_und hu, goInt]

/-- x.(T), of an interface that is T, or is not. -/
theorem do_assertT {xt at_ : TypeId} (hc : isConc P at_ = true) (hx : ev E x = some (.iface at_ v)) : Do1 P B n ds ro ⟨dst, .typeAssert x xt at_ true, ty, pos, after, guard⟩ E L (.tuple #[v, .bool true]) L := do_pure fun a w hE => by
  unfold isConc at hc
  cases hu : P.underlying at_ with
  | none => rw [hu] at hc; cases hc
  | some d => cases d <;> rw [hu] at hc <;> first | (cases hc; done) | simp [execOp, Instr.typeAssert, run_und hu, hE.eval hx]
theorem do_assertF {xt at_ t2 : TypeId} (hc : isConc P at_ = true) (hx : ev E x = some (.iface t2 v)) (hne : Nat.beq t2 at_ = false) (hz : zeroOk P at_ u) : Do1 P B n ds ro ⟨dst, .typeAssert x xt at_ true, ty, pos, after, guard⟩ E L (.tuple #[u, .bool false]) L := do_pure fun a w hE => by
  have hne' : ¬ t2 = at_ := Nat.ne_of_beq_eq_false hne
  unfold isConc at hc
  cases hu : P.underlying at_ with
  | none => rw [hu] at hc; cases hc
  | some d => cases d <;> rw [hu] at hc <;> first | (cases hc; done) | simp [execOp, Instr.typeAssert, run_und hu, hE.eval hx, hne', run_zero hz]
theorem do_assert1 {xt at_ : TypeId} (hc : isConc P at_ = true) (hx : ev E x = some (.iface at_ v)) : Do1 P B n ds ro ⟨dst, .typeAssert x xt at_ false, ty, pos, after, guard⟩ E L v L := do_pure fun a w hE => by
  unfold isConc at hc
  cases hu : P.underlying at_ with
  | none => rw [hu] at hc; cases hc
  | some d => cases d <;> rw [hu] at hc <;> first | (cases hc; done) | simp [execOp, Instr.typeAssert, run_und hu, hE.eval hx]

theorem run_mapsClone {r : Nat} {f : FuncId} {fn : Func} {es : Array MapEntry} {clock : Nat} {w : World} (hf : P.funcs[f]? = some fn) (hne : (fn.name == "runtime.NumGoroutine") = false) (hb : fn.body.isNone = true) (hfind : Extern.find fn = some Extern.MapsClone.clone) (hnext : (Extern.findNext fn).isNone = true)
    (hobj : w.heap[r]? = some (.map es clock)) : (callFunc f #[.iface t (.map (some r))]).run P w = .ok (.value (.iface t (.map (some w.heap.size)))) { w with heap := w.heap.push (.map es clock) } := by
  have hnext' : Extern.findNext fn = none := by simpa using hnext
  have hne' : ¬ fn.name = "runtime.NumGoroutine" := by simpa using hne
  have hb' : fn.body = none := by simpa using hb
  have e : Extern.MapsClone.clone #[.iface t (.map (some r))] = (getObj r).bind fun o => match o with | .map entries clock => (newObj (.map entries clock)).bind fun a => pure (.iface t (.map (some a))) | _ => stuck "maps.clone: a map expected" := rfl
  have hc : (Extern.MapsClone.clone #[.iface t (.map (some r))]).run P w = .ok (.iface t (.map (some w.heap.size))) { w with heap := w.heap.push (.map es clock) } := by
    rw [e]
    simp [getObj, Sem.run, Sem.bind, hobj, newObj, pure]
  simp [callFunc, program, Sem.run, bind, Sem.bind, hf, hne', hb', mark, hfind, hnext', pure]
  have hb2 : ((Extern.MapsClone.clone #[.iface t (.map (some r))]).bind fun v => Sem.pure (Next.value v)).run P w = _ := Sem.run_bind P w (Extern.MapsClone.clone #[.iface t (.map (some r))]) (fun v => Sem.pure (Next.value v))
  rw [hb2, hc]
  rfl

/-- maps.clone, the runtime's own. -/
theorem do_mapsClone {α : Type} {enc : α → Value} {l : List (α × Value)} {r i : Nat} {f : FuncId} {fn : Func} {ts : Array TypeId} (hf : P.funcs[f]? = some fn) (hne : (fn.name == "runtime.NumGoroutine") = false) (hb : fn.body.isNone = true) (hfind : Extern.find fn = some Extern.MapsClone.clone) (hnext : (Extern.findNext fn).isNone = true)
    (hx : ev E x = some (.iface t (.map (some r)))) (hL : nth L i = some (mapA enc r l)) :
    Do P B n ds ro ⟨dst, .call { callee := .value (.func f), args := #[x], argTypes := ts }, ty, pos, after, guard⟩ E L fun u M => ∃ r2, u = .iface t (.map (some r2)) ∧ M = mapA enc r2 l :: L :=
  do_okx fun a w hE hS => by
    obtain ⟨S, hS0, hA⟩ := hS.nth hL
    obtain ⟨es, clock, h1, h2, h3, h4⟩ := hA
    have hobj : w.heap[r]? = some (.map es clock) := (part_some h1).2
    have hrun := run_mapsClone (t := t) hf hne hb hfind hnext hobj
    refine ⟨_, _, _, ?_, ⟨w.heap.size, rfl, rfl⟩, hS.new (w' := { w with heap := w.heap.push (.map es clock) }) ⟨rfl, rfl, rfl, by simp⟩ (fun k hk => by simp [Array.getElem?_push, Nat.ne_of_lt hk]) ⟨es, clock, ?_, h2, h3, h4⟩⟩
    · have hx' := hE.eval hx
      have hfe : a.eval (.func f) = .func (.func f) #[] #[] := rfl
      simp [execOp, resolve, Deferred.ofValue, invoke, hx', hfe, hrun]
    · show part _ _ _ = _
      rw [part_of (Nat.le_refl _)]; simp
end
end Go.Proofs.Ytmefejfnddcelaa
