/- Texts and slices: pieces, conversions, joins. -/
import Derived.Test.YtmefejfnddcelaaSLSeq
import Derived.Laws.BytesString
import Derived.Laws.Cells
namespace Go.Proofs.Ytmefejfnddcelaa
section
variable {P : Program} {B : Ctx} {n : Nat} {ds : List Deferred} {ro : Option Nat} {E : List (Nat × Value)} {L M : List Assn} {o : Oper}
variable {dst : Option Tmp} {ty : TypeId} {pos : String} {after : Array Edge} {guard : Option (Nat × Bool)} {x y z : Operand} {v u : Value} {t s e : TypeId} {sz bytes : Nat}

def evo (E : List (Nat × Value)) : Option Operand → Option Value → Prop
  | none, none => True
  | some x, some v => ev E x = some v
  | _, _ => False
theorem Env.evalo {a : Act} (h : Env n ds E a) {x : Option Operand} {v : Option Value} (hx : evo E x v) : x.map a.eval = v := by
  cases x with
  | none => cases v with
    | none => rfl
    | some v => exact hx.elim
  | some x => cases v with
    | none => exact hx.elim
    | some v => simp [h.eval hx]
def bnd : Option Value → Nat → Nat → Prop
  | none, d, m => m = d
  | some (.int _ i), _, m => i = (m : Int)
  | _, _, _ => False

theorem bounds_run {b : Bool} {len cap : Nat} {vl vh : Option Value} {l h : Nat} {w : World} (hl : bnd vl 0 l) (hh : bnd vh len h) (h1 : l ≤ h) (h2 : h ≤ cap) :
    (Instr.sliceBounds b len cap vl vh none).run P w = .ok (l, h, cap) w := by
  have hb : ∀ {c : BoundsCode} {k : IntKind} {m y : Nat}, m ≤ y → (Instr.sliceBound (.int k (m : Int)) y c).run P w = .ok m w := fun {c k m y} hm => by
    have : (0 : Int) ≤ (m : Int) ∧ (m : Int) ≤ (y : Int) := ⟨by omega, by omega⟩
    simp [Instr.sliceBound, asIntOf, this, hm]
  unfold Instr.sliceBounds
  cases vh with
  | none =>
    have hh' : h = len := hh
    subst hh'
    cases vl with
    | none => have : l = 0 := hl; subst this; simp
    | some v => cases v with
      | int k i => have : i = (l : Int) := hl; subst this; simp [hb h1]
      | _ => exact hl.elim
  | some v => cases v with
    | int k i =>
      have : i = (h : Int) := hh
      subst this
      cases vl with
      | none => have : l = 0 := hl; subst this; simp [hb h2]
      | some v => cases v with
        | int k i => have : i = (l : Int) := hl; subst this; simp [hb h1, hb h2]
        | _ => exact hl.elim
    | _ => exact hh.elim

/-- s[l:h] of a text -/
theorem do_sliceStr {lo hi : Option Operand} {vl vh : Option Value} {c : ByteArray} {l h : Nat} (hs : isStr P t = true) (hx : ev E x = some (.string c)) (hlo : evo E lo vl) (hhi : evo E hi vh) (hl : bnd vl 0 l) (hh : bnd vh c.size h) (h1 : l ≤ h) (h2 : h ≤ c.size) :
    Do1 P B n ds ro ⟨dst, .slice t x lo hi none, ty, pos, after, guard⟩ E L (.string (c.extract l h)) L := do_pure fun a w hE => by
  have e1 := hE.evalo hlo
  have e2 := hE.evalo hhi
  simp [execOp, Instr.sliceAt, Instr.slice, hE.eval hx, e1, e2, run_und (isStr_und hs), bounds_run hl hh h1 h2]

theorem str_same_neq (s : ByteArray) : strB .neq s.toList s.toList = some false := by simp [strB]
theorem str_same_eql (s : ByteArray) : strB .eql s.toList s.toList = some true := by simp [strB]
theorem row_R {m : Nat} {xs : List Value} : Rd B (row e sz v m xs) sz v m xs := fun h hb hr => row_rd (b := 0) (cap := 0) h hr hb

/-- A load of several cells through what can be read. -/
theorem do_loadRA {R : Assn} {b p m cap k : Nat} {xs vs : List Value} (i : Nat) (hx : ev E x = some (.pointer (some ⟨b, p, none⟩))) (h1 : aggOk P t k = true) (hL : nth L i = some R) (hR : Rd B R sz (.slice (some ⟨b, 0, none⟩) m cap) m xs)
    (hv : (xs.drop p).take k = vs) (hl : vs.length = k) : Do1 P B n ds ro ⟨dst, .load t x, ty, pos, after, guard⟩ E L (.agg vs.toArray) L :=
  do_ok fun a w hE hS => ⟨w, by
    have hr := reads_rd i hL hR w hS
    simp [execOp, Instr.loadAt, hE.eval hx, Instr.sureAddr, run_loadVarA h1 hl (fun j u hj => by
      have := hr (p + j) u (by
        subst hv
        rw [List.getElem?_take] at hj
        split at hj
        · rwa [List.getElem?_drop] at hj
        · cases hj)
      rw [addr_add] at this
      simpa using this)], hS⟩

theorem push_fold (bs : List UInt8) : ∀ s : ByteArray, (bs.map fun c => (c.toNat : Int)).foldl (fun r n => r.push (UInt8.ofNat n.toNat)) s = ⟨(s.data.toList ++ bs).toArray⟩ := by
  induction bs with
  | nil => intro s; cases s; simp
  | cons c bs ih =>
    intro s
    simp only [List.map_cons, List.foldl_cons]
    rw [ih]
    cases s
    simp [ByteArray.push]

/-- string(b) -/
theorem do_convBS {R : Assn} {bs : List UInt8} (i : Nat) (hs : P.underlying s = some (.slice e)) (he : P.underlying e = some (.int .u8)) (ht : P.underlying t = some .string) (hx : ev E x = some v) (hL : nth L i = some R)
    (hR : Rd B R 1 v bs.length (byv bs)) : Do1 P B n ds ro ⟨dst, .convert s t x, ty, pos, after, guard⟩ E L (.string ⟨bs.toArray⟩) L :=
  do_ok fun a w hE hS => ⟨w, by
    have hsh := sat_fact hS i hL fun h hb hr => rd_shape (hR h hb hr)
    obtain ⟨ad, cap, rfl, hnil⟩ := hsh
    cases ad with
    | none =>
      have h0 : bs = [] := List.eq_nil_of_length_eq_zero (by rw [← byv_len, hnil rfl]; rfl)
      subst h0
      simp only [execOp]
      have := run_convert_bytes_string (P := P) w s t e none 0 cap hs he ht
      simp [hE.eval hx, this, Conv.bytesToString]
      rfl
    | some ad =>
      have hr := reads_rd i hL hR w hS
      have hc : (loadCells ad bs.length).run P w = .ok ((bs.map fun c => (c.toNat : Int)).map (Value.int .u8)).toArray w := by
        have := run_loadCells_list (P := P) (w := w) ad (byv bs) hr
        rw [byv_len] at this
        rw [this]
        simp [byv, Function.comp_def]
      have h2 := run_bytesToString (P := P) w ad bs.length cap _ hc
      rw [push_fold] at h2
      have h3 := run_convert_bytes_string (P := P) w s t e (some ad) bs.length cap hs he ht
      simp only [execOp]
      simp [hE.eval hx, h3, h2], hS⟩

/-- []byte(b), of bytes: the same slice, marked. -/
theorem do_convBB {L1 L2 : List Assn} {b m cap : Nat} {cs : Array Value} {T : TypeId} (hu : P.underlying s = some (.slice e)) (he : P.underlying e = some (.int .u8)) (hx : ev E x = some (.slice (some ⟨b, 0, none⟩) m cap)) :
    Do1 P B n ds ro ⟨dst, .convert s s x, ty, pos, after, guard⟩ E (L1 ++ pt b (.cells cs T (0, 0)) :: L2) (.slice (some ⟨b, 0, none⟩) m cap) (L1 ++ pt b (.cells cs T (cs.size, cs.size + 1)) :: L2) :=
  do_ok fun a w hE hS => by
    have hb : w.heap[b]? = some (.cells cs T (0, 0)) := (hS.get (i := L1.length) (by simp [nth_eq])).1
    have hlt := (Array.getElem?_eq_some_iff.1 hb).1
    refine ⟨w.freeze { block := b, off := cs.size } 1, ?_, ?_⟩
    · have hsh : w.shape? b = some (T, cs.size) := by simp [World.shape?, hb]
      simp [execOp, hE.eval hx, convert, run_und hu, run_und he, markStringish, shape, freeze, Sem.run, hsh]
    · refine hS.setBlock ⟨rfl, rfl, rfl, by simp [World.freeze]⟩ ?_ ?_
      · simp only [World.freeze]
        rw [if_neg (by omega)]
        simp [Array.getElem?_modify, hb]
      · intro k hk
        simp only [World.freeze]
        rw [if_neg (by omega)]
        rw [Array.getElem?_modify, if_neg (Ne.symm hk)]
theorem pt_R {b m cap : Nat} {cs : Array Value} {T : TypeId} {fr : Nat × Nat} {xs : List Value} (hl : xs.length = m) (hx : cs.toList.take m = xs) (hsz : ∀ h : Hp, pt b (.cells cs T fr) h → True := fun _ _ => trivial) : Rd B (pt b (.cells cs T fr)) 1 (.slice (some ⟨b, 0, none⟩) m cap) m xs := by
  intro h hb hp
  refine ⟨by rw [hl, Nat.mul_one], _, cap, rfl, fun j u hj => ⟨b, 0, rfl, ?_⟩⟩
  have hge := hb b _ hp
  unfold cellIn
  rw [if_neg (by simp; omega)]
  have hp' : h b = some (.cells cs T fr) := hp
  simp only [hp', Nat.zero_add]
  subst hx
  rw [List.getElem?_take] at hj
  split at hj
  · simpa using hj
  · cases hj
theorem do_lenRow {ts : Array TypeId} {m : Nat} {xs : List Value} {t1 : TypeId} (i : Nat) (ht : ts[0]? = some t1) (hs : isSlice P t1 = true) (hx : ev E x = some v) (hL : nth L i = some (row e sz v m xs)) :
    Do1 P B n ds ro ⟨dst, .call { callee := .builtin .len, args := #[x], argTypes := ts }, ty, pos, after, guard⟩ E L (.int .i64 m) L := do_ok fun a w hE hS => by
  obtain ⟨_, hu⟩ := isSlice_und hs
  have hv : ∃ p c, v = .slice p m c := sat_fact hS i hL fun h _ hr => by
    obtain ⟨_, (⟨rfl, rfl⟩ | ⟨g, cap, cur, rfl, _⟩)⟩ := hr
    · exact ⟨_, _, rfl⟩
    · exact ⟨_, _, rfl⟩
  obtain ⟨p, c, rfl⟩ := hv
  refine ⟨w, ?_, hS⟩
  simp [execOp, resolve, invoke, builtin, Builtin.len_, hE.eval hx, ht, run_und hu, goInt]
end
end Go.Proofs.Ytmefejfnddcelaa
