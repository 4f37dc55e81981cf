/- An array's cell by a number; a made slice of one-cell things. -/
import Derived.Test.YtmefejfnddcelaaSLHeap
namespace Go.Proofs.Ytmefejfnddcelaa
section
variable {P : Program} {B : Ctx} {n : Nat} {ds : List Deferred} {ro : Option Nat} {E : List (Nat × Value)} {L M R : List Assn} {w : World}
variable {dst : Option Tmp} {ty : TypeId} {pos : String} {after : Array Edge} {guard : Option (Nat × Bool)} {x y z : Operand} {v u z0 : Value} {t s e : TypeId} {sz bytes : Nat}
theorem do_indexArr {b off m j p : Nat} {k : IntKind} {i : Int} {z : Value} (ht : P.underlying t = some (.array m e)) (hty : tyOk P e sz bytes z) (hm : 2 ≤ m) (hx : ev E x = some (.pointer (some ⟨b, off, none⟩))) (hy : ev E y = some (.int k i))
    (hi : i = (j : Int)) (hj : j < m) (hp : off + j * sz = p) : Do1 P B n ds ro ⟨dst, .indexAddr t x y, ty, pos, after, guard⟩ E L (.pointer (some ⟨b, p, none⟩)) L := do_pure fun a w hE => by
  subst hi
  subst hp
  obtain ⟨i, hi, hs, _, hz, _⟩ := hty
  have h0 : (0 : Int) ≤ (j : Int) := by omega
  have h1 : ¬ m ≤ 1 := by omega
  simp [execOp, Instr.indexAt, Instr.sureAddr, hE.eval hx, hE.eval hy, asIntOf, run_und ht, hj, h1, run_size hi, hs, addr_add]
theorem cmpB_self_neq {a : Int} : cmpB .neq a a = some false := by simp [cmpB]
theorem cmpB_self_eql {a : Int} : cmpB .eql a a = some true := by simp [cmpB]
end
end Go.Proofs.Ytmefejfnddcelaa
