/- Printed by gen/simobj.py for this claim: what each of these functions of the program does, as its theorem says. No condition but what stands in each theorem. -/
import Derived.Test.YtmefejfnddcelaaOu
import Derived.Test.YtmefejfnddcelaaOs
namespace Go.Proofs.Ytmefejfnddcelaa
theorem put_alts (B : Ctx) (b r : Nat) (v : Value) (lv : List (ByteArray × Value)) (s : SS) (key : ByteArray) (a : Option Addr) (cap : Nat) (bs : List UInt8) (R : Assn) (N : Nat) (hst : StOk s N) (hN : N ≤ 1000000) (hks : key.size ≤ 9223372036854775807) (hR : Rd B R 1 (.slice a bs.length cap) bs.length (byv bs)) :
    Tri Try.prog B 21 #[.pointer (some ⟨b, 0, none⟩), .string key, .slice a bs.length cap] [pt b (.cells #[.map (some r), v, .int .i64 s.most, .int .i64 s.lag, .int .i64 s.now, .int .i64 s.calls, .int .i64 s.count, .bool s.done] 52 (0, 0)), mapA encS r lv, row 113 3 v s.chg.length (chgCells s.chg), valsA B lv s.objs, R] (fun u M => (∃ e v' lv', (e = 1 ∨ e = 6 ∨ e = 7) ∧ u = .int .i64 e ∧ M = SL B b r v' lv' s ++ [R]) ∨ (∃ e v' lv', (e = 0 ∨ e = 8) ∧ bs.length ≤ 1048576 ∧ u = .int .i64 e ∧ M = SL B b r v' lv' (putO key bs (callS s).2.2) ++ [R]) ∨ (∃ v' lv', u = .int .i64 8 ∧ M = SL B b r v' lv' (callS s).2.2 ++ [R])) := by
  refine tri_post (put_tri B b r v lv s key a cap bs R hst.ok (by have := hst.calls1; omega) (by have := hst.chg1; omega) hks hR) ?_
  rintro u M ⟨v', lv', rfl, rfl⟩
  rcases putS_cases key bs s with ⟨e, he, h⟩ | ⟨e, he, hb, h⟩ | h <;> rw [h]
  · exact .inl ⟨e, v', lv', he, rfl, rfl⟩
  · exact .inr (.inl ⟨e, v', lv', he, hb, rfl, rfl⟩)
  · exact .inr (.inr ⟨v', lv', rfl, rfl⟩)

theorem del_alts (B : Ctx) (b r : Nat) (v : Value) (lv : List (ByteArray × Value)) (s : SS) (key : ByteArray) (N : Nat) (hst : StOk s N) (hN : N ≤ 1000000) (hks : key.size ≤ 9223372036854775807) :
    Tri Try.prog B 22 #[.pointer (some ⟨b, 0, none⟩), .string key] [pt b (.cells #[.map (some r), v, .int .i64 s.most, .int .i64 s.lag, .int .i64 s.now, .int .i64 s.calls, .int .i64 s.count, .bool s.done] 52 (0, 0)), mapA encS r lv, row 113 3 v s.chg.length (chgCells s.chg), valsA B lv s.objs] (fun u M => (∃ v' lv', u = .int .i64 1 ∧ M = SL B b r v' lv' s) ∨ (∃ e v' lv', (e = 0 ∨ e = 8) ∧ u = .int .i64 e ∧ M = SL B b r v' lv' (delO key (callS s).2.2)) ∨ (∃ v' lv', u = .int .i64 8 ∧ M = SL B b r v' lv' (callS s).2.2)) := by
  refine tri_post (del_tri B b r v lv s key hst.ok (by have := hst.calls1; omega) (by have := hst.chg1; omega) hks) ?_
  rintro u M ⟨v', lv', rfl, rfl⟩
  rcases delS_cases key s with h | ⟨e, he, h⟩ | h <;> rw [h]
  · exact .inl ⟨v', lv', rfl, rfl⟩
  · exact .inr (.inl ⟨e, v', lv', he, rfl, rfl⟩)
  · exact .inr (.inr ⟨v', lv', rfl, rfl⟩)

theorem get_alts (B : Ctx) (b r : Nat) (v : Value) (lv : List (ByteArray × Value)) (s : SS) (key : ByteArray) (N : Nat) (hst : StOk s N) (hN : N ≤ 1000000) (hks : key.size ≤ 9223372036854775807) :
    Tri Try.prog B 18 #[.pointer (some ⟨b, 0, none⟩), .string key] [pt b (.cells #[.map (some r), v, .int .i64 s.most, .int .i64 s.lag, .int .i64 s.now, .int .i64 s.calls, .int .i64 s.count, .bool s.done] 52 (0, 0)), mapA encS r lv, row 113 3 v s.chg.length (chgCells s.chg), valsA B lv s.objs] (fun u M => (∃ x, u = .tuple #[x, .int .i64 1] ∧ M = SL B b r v lv s ++ [row 5 1 x 0 (byv [])]) ∨ (∃ x, aget s.objs key = none ∧ u = .tuple #[x, .int .i64 3] ∧ M = SL B b r v lv (callS s).2.2 ++ [row 5 1 x 0 (byv [])]) ∨ (∃ x bs, aget s.objs key = some bs ∧ u = .tuple #[x, .int .i64 0] ∧ M = SL B b r v lv (callS s).2.2 ++ [row 5 1 x bs.length (byv bs)]) ∨ (∃ x, u = .tuple #[x, .int .i64 8] ∧ M = SL B b r v lv (callS s).2.2 ++ [row 5 1 x 0 (byv [])])) := by
  refine tri_post (get_tri B b r v lv s key hst.ok (by have := hst.calls1; omega) (by have := hst.chg1; omega) hks) ?_
  rintro u M ⟨x, rfl, rfl⟩
  rcases getS_cases key s with h | ⟨hg, h⟩ | ⟨bs, hg, h⟩ | h <;> rw [h]
  · exact .inl ⟨x, rfl, rfl⟩
  · exact .inr (.inl ⟨x, hg, rfl, rfl⟩)
  · exact .inr (.inr (.inl ⟨x, bs, hg, rfl, rfl⟩))
  · exact .inr (.inr (.inr ⟨x, rfl, rfl⟩))
end Go.Proofs.Ytmefejfnddcelaa
