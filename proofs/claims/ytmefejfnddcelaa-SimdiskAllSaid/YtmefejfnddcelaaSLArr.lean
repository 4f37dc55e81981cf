/- An array's cell by a number; a made slice of one-cell things. -/
import Derived.Test.YtmefejfnddcelaaSLHeap
import Derived.Laws.OwnMore
namespace Go.Proofs.Ytmefejfnddcelaa
section
variable {P : Program} {B : Ctx} {n : Nat} {ds : List Deferred} {ro : Option Nat} {E : List (Nat × Value)} {L M R : List Assn} {w : World}
variable {dst : Option Tmp} {ty : TypeId} {pos : String} {after : Array Edge} {guard : Option (Nat × Bool)} {x y z : Operand} {v u z0 : Value} {t s e : TypeId} {sz bytes : Nat}
theorem do_indexArr {b off m j p : Nat} {k : IntKind} {i : Int} {z : Value} (ht : P.underlying t = some (.array m e)) (hty : tyOk P e sz bytes z) (hm : 2 ≤ m) (hx : ev E x = some (.pointer (some ⟨b, off, none⟩))) (hy : ev E y = some (.int k i))
    (hi : i = (j : Int)) (hj : j < m) (hp : off + j * sz = p) : Do1 P B n ds ro ⟨dst, .indexAddr t x y, ty, pos, after, guard⟩ E L (.pointer (some ⟨b, p, none⟩)) L := do_pure fun a w hE => by
  subst hi
  subst hp
  obtain ⟨i, hi, hs, _, hz, _⟩ := hty
  have h0 : (0 : Int) ≤ (j : Int) := by omega
  have h1 : ¬ m ≤ 1 := by omega
  simp [execOp, Instr.indexAt, Instr.sureAddr, hE.eval hx, hE.eval hy, asIntOf, run_und ht, hj, h1, run_size hi, hs, addr_add]
theorem do_makeSlice {m : Nat} {k1 k2 : IntKind} {i1 i2 : Int} (ht : P.underlying t = some (.slice e)) (hty : tyOk P e 1 1 z0) (hone : z0.cells = #[z0]) (hx : ev E x = some (.int k1 i1)) (hy : ev E y = some (.int k2 i2)) (h1 : i1 = (m : Int)) (h2 : i2 = (m : Int)) (hm : m ≤ 1099511627776) :
    Do P B n ds ro ⟨dst, .makeSlice t x y, ty, pos, after, guard⟩ E L fun u M => ∃ b, u = .slice (some ⟨b, 0, none⟩) m m ∧ M = pt b (.cells (List.replicate m z0).toArray e (0, 0)) :: L :=
  do_okx fun a w hE hS => by
    subst h1
    subst h2
    obtain ⟨i, hi, hs, hb, hz, _⟩ := hty
    have hr := run_make (P := P) w t e i z0 ht hi hz k1 k2 (m : Int) (m : Int) (by omega) (Int.le_refl _) (by rw [hb]; omega) (by omega)
    have e1 : madeCells z0.cells ((m : Int).toNat * i.size) = (List.replicate m z0).toArray := by
      rw [hs, hone]
      apply Array.toList_inj.1
      rw [toList_madeCells_one]
      simp
    rw [e1] at hr
    exact ⟨_, _, _, by simp [execOp, hE.eval hx, hE.eval hy, hr], ⟨_, rfl, rfl⟩, hS.alloc _⟩
theorem set_half {a b : Value} {j m : Nat} (h : j < m) : setAt (List.replicate j a ++ List.replicate (m - j) b) j a = List.replicate (j + 1) a ++ List.replicate (m - (j + 1)) b := by
  rw [setAt_eq]
  obtain ⟨k, rfl⟩ : ∃ k, m = j + (k + 1) := ⟨m - j - 1, by omega⟩
  rw [show j + (k + 1) - j = k + 1 by omega, show j + (k + 1) - (j + 1) = k by omega, List.replicate_succ, List.set_append_right _ _ (by simp)]
  simp [List.replicate_succ', List.append_assoc]
theorem nth_half {a b : Value} {j m : Nat} (h : j < m) : nth (List.replicate j a ++ List.replicate (m - j) b) j = some b := by
  rw [nth_eq, List.getElem?_append_right (by simp), List.length_replicate, Nat.sub_self, List.getElem?_replicate, if_pos (by omega)]
theorem cmpB_self_neq {a : Int} : cmpB .neq a a = some false := by simp [cmpB]
theorem cmpB_self_eql {a : Int} : cmpB .eql a a = some true := by simp [cmpB]
end
end Go.Proofs.Ytmefejfnddcelaa
