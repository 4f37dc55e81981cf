/- Printed by gen/simobj.py for this claim: what each of these functions of the program does, as its theorem says. No condition but what stands in each theorem. -/
import Derived.Test.YtmefejfnddcelaaOv
import Derived.Test.YtmefejfnddcelaaSLOpen
namespace Go.Proofs.Ytmefejfnddcelaa
theorem tri_frame {P : Program} {B : Ctx} {f : FuncId} {args : Array Value} {pre : List Assn} {post : Value → List Assn → Prop} (R : List Assn) (h : Tri P B f args pre post) :
    Tri P B f args (pre ++ R) (fun u M => ∃ N, post u N ∧ M = N ++ R) := by
  intro F w hS
  have h1 : Sat B (pre ++ [Star (R ++ [F])]) w := star_join (by rw [← List.append_assoc]; exact hS)
  refine Calls.mono (h _ w h1) ?_
  rintro e w' ⟨u, N, rfl, hp, hS'⟩
  exact ⟨u, N ++ R, rfl, ⟨N, hp, rfl⟩, by rw [List.append_assoc]; exact star_split hS'⟩
theorem tickS_sl (B : Ctx) (b r : Nat) (v : Value) (lv : List (ByteArray × Value)) (s : SS) (k : Int) : SL B b r v lv (tickS s k).2 = pt b (.cells #[.map (some r), v, .int .i64 ((tickS s k).2.most), .int .i64 ((tickS s k).2.lag), .int .i64 ((tickS s k).2.now), .int .i64 ((tickS s k).2.calls), .int .i64 ((tickS s k).2.count), .bool ((tickS s k).2.done)] 52 (0, 0)) :: (SL B b r v lv s).tail := by
  unfold tickS; split <;> rfl
theorem lagS_sl (B : Ctx) (b r : Nat) (v : Value) (lv : List (ByteArray × Value)) (s : SS) (k : Int) : SL B b r v lv (lagS s k).2 = pt b (.cells #[.map (some r), v, .int .i64 ((lagS s k).2.most), .int .i64 ((lagS s k).2.lag), .int .i64 ((lagS s k).2.now), .int .i64 ((lagS s k).2.calls), .int .i64 ((lagS s k).2.count), .bool ((lagS s k).2.done)] 52 (0, 0)) :: (SL B b r v lv s).tail := by
  unfold lagS; split <;> rfl
theorem baOf_nil : baOf [] = ⟨#[]⟩ := rfl
theorem tick_sl (B : Ctx) (b r : Nat) (v : Value) (lv : List (ByteArray × Value)) (s : SS) (N : Nat) (hst : StOk s N) (hN : N ≤ 1000000) (k : Int) :
    Tri Try.prog B 23 #[.pointer (some ⟨b, 0, none⟩), .int .i64 k] [pt b (.cells #[.map (some r), v, .int .i64 s.most, .int .i64 s.lag, .int .i64 s.now, .int .i64 s.calls, .int .i64 s.count, .bool s.done] 52 (0, 0)), mapA encS r lv, row 113 3 v s.chg.length (chgCells s.chg), valsA B lv s.objs] (fun u M => u = .int .i64 (tickS s k).1 ∧ M = SL B b r v lv (tickS s k).2) := by
  refine tri_post (tri_frame (pre := [pt b (.cells #[.map (some r), v, .int .i64 s.most, .int .i64 s.lag, .int .i64 s.now, .int .i64 s.calls, .int .i64 s.count, .bool s.done] 52 (0, 0))]) [mapA encS r lv, row 113 3 v s.chg.length (chgCells s.chg), valsA B lv s.objs] (tick_made B b r v lv s k hst.ok (by have := hst.calls1; omega) (by have := hst.chg1; omega))) ?_
  rintro u M ⟨N, ⟨rfl, rfl⟩, rfl⟩
  exact ⟨rfl, (tickS_sl B b r v lv s k).symm⟩

theorem lag_sl (B : Ctx) (b r : Nat) (v : Value) (lv : List (ByteArray × Value)) (s : SS) (k : Int) :
    Tri Try.prog B 24 #[.pointer (some ⟨b, 0, none⟩), .int .i64 k] [pt b (.cells #[.map (some r), v, .int .i64 s.most, .int .i64 s.lag, .int .i64 s.now, .int .i64 s.calls, .int .i64 s.count, .bool s.done] 52 (0, 0)), mapA encS r lv, row 113 3 v s.chg.length (chgCells s.chg), valsA B lv s.objs] (fun u M => u = .int .i64 (lagS s k).1 ∧ M = SL B b r v lv (lagS s k).2) := by
  refine tri_post (tri_frame (pre := [pt b (.cells #[.map (some r), v, .int .i64 s.most, .int .i64 s.lag, .int .i64 s.now, .int .i64 s.calls, .int .i64 s.count, .bool s.done] 52 (0, 0))]) [mapA encS r lv, row 113 3 v s.chg.length (chgCells s.chg), valsA B lv s.objs] (lag_made B b r v lv s k)) ?_
  rintro u M ⟨N, ⟨rfl, rfl⟩, rfl⟩
  exact ⟨rfl, (lagS_sl B b r v lv s k).symm⟩

theorem fail_sl (B : Ctx) (b r : Nat) (v : Value) (lv : List (ByteArray × Value)) (s : SS) (k : Int) (d : Bool) :
    Tri Try.prog B 17 #[.pointer (some ⟨b, 0, none⟩), .int .i64 k, .bool d] [pt b (.cells #[.map (some r), v, .int .i64 s.most, .int .i64 s.lag, .int .i64 s.now, .int .i64 s.calls, .int .i64 s.count, .bool s.done] 52 (0, 0)), mapA encS r lv, row 113 3 v s.chg.length (chgCells s.chg), valsA B lv s.objs] (fun u M => u = .tuple #[] ∧ M = SL B b r v lv (failS s k d)) := by
  refine tri_post (tri_frame (pre := [pt b (.cells #[.map (some r), v, .int .i64 s.most, .int .i64 s.lag, .int .i64 s.now, .int .i64 s.calls, .int .i64 s.count, .bool s.done] 52 (0, 0))]) [mapA encS r lv, row 113 3 v s.chg.length (chgCells s.chg), valsA B lv s.objs] (fail_made B b r v lv s k d)) ?_
  rintro u M ⟨N, ⟨rfl, rfl⟩, rfl⟩
  exact ⟨rfl, rfl⟩

theorem look_some (B : Ctx) (b r : Nat) (v : Value) (lv : List (ByteArray × Value)) (s : SS) (key : ByteArray) (hok : SOk s) (bs : List UInt8) (hg : aget s.objs key = some bs) : Tri Try.prog B 20 #[.pointer (some ⟨b, 0, none⟩), .string key] [pt b (.cells #[.map (some r), v, .int .i64 s.most, .int .i64 s.lag, .int .i64 s.now, .int .i64 s.calls, .int .i64 s.count, .bool s.done] 52 (0, 0)), mapA encS r lv, row 113 3 v s.chg.length (chgCells s.chg), valsA B lv s.objs] (fun u M => ∃ x, u = .tuple #[x, .bool true] ∧ M = SL B b r v lv s ++ [row 5 1 x bs.length (byv bs)]) := by
  refine tri_post (look_tri B b r v lv s key hok) ?_
  rintro u M ⟨x, rfl, rfl⟩
  rw [hg, show lk s key = bs by unfold lk; rw [hg]; rfl]
  exact ⟨x, rfl, rfl⟩
theorem look_none (B : Ctx) (b r : Nat) (v : Value) (lv : List (ByteArray × Value)) (s : SS) (key : ByteArray) (hok : SOk s) (hg : aget s.objs key = none) : Tri Try.prog B 20 #[.pointer (some ⟨b, 0, none⟩), .string key] [pt b (.cells #[.map (some r), v, .int .i64 s.most, .int .i64 s.lag, .int .i64 s.now, .int .i64 s.calls, .int .i64 s.count, .bool s.done] 52 (0, 0)), mapA encS r lv, row 113 3 v s.chg.length (chgCells s.chg), valsA B lv s.objs] (fun u M => ∃ x, u = .tuple #[x, .bool false] ∧ M = SL B b r v lv s ++ [row 5 1 x 0 (byv [])]) := by
  refine tri_post (look_tri B b r v lv s key hok) ?_
  rintro u M ⟨x, rfl, rfl⟩
  rw [hg, show lk s key = [] by unfold lk; rw [hg]; rfl]
  exact ⟨x, rfl, rfl⟩

def kS20 : SS := ⟨[], [], 20, 0, 0, 0, 0, false⟩
theorem k_new20 (B : Ctx) : Tri Try.prog B 12 #[.int .i64 20] [] (fun u M => ∃ b r, u = .tuple #[.pointer (some ⟨b, 0, none⟩), .int .i64 0] ∧ M = SL B b r (.slice none 0 0) [] kS20) :=
  tri_post (new_tri B 20) (by rintro v M (⟨h, _⟩ | ⟨_, _, b, r, h1, h2⟩); omega; exact ⟨b, r, h1, h2⟩)
theorem st20 : StOk kS20 0 := ⟨by decide, by decide, by decide, by decide, by decide, by decide, by decide, by decide, by decide, by decide, by decide, by decide, fun p hp => by cases hp⟩
end Go.Proofs.Ytmefejfnddcelaa
