/- Printed by gen/simobj.py for this claim: what each of these functions of the program does, as its theorem says. No condition but what stands in each theorem. -/
import Derived.Test.YtmefejfnddcelaaOp
namespace Go.Proofs.Ytmefejfnddcelaa
def kA : ByteArray := ⟨#[97]⟩
def kE : ByteArray := ⟨#[]⟩
def kS0 : SS := ⟨[], [], 5, 0, 0, 0, 0, false⟩
def kS1 : SS := ⟨[], [], 5, 0, 5, 0, 0, false⟩
def kS2 : SS := ⟨[(kA, [120])], [(kA, 5, true)], 5, 0, 5, 1, 0, false⟩
def kS3 : SS := ⟨[(kA, [120])], [(kA, 5, true)], 5, 3, 5, 1, 0, false⟩
def kS4 : SS := ⟨[(kA, [120])], [(kA, 5, true)], 5, 3, 5, 2, 0, false⟩
def kS5 : SS := ⟨[(kA, [120])], [(kA, 5, true)], 5, 3, 8, 2, 0, false⟩
def kS6 : SS := ⟨[(kA, [120])], [(kA, 5, true)], 5, 3, 8, 3, 0, false⟩
def kS7 : SS := ⟨[(kA, [120])], [(kA, 5, true)], 5, 3, 8, 4, 0, false⟩
theorem kf_1 : tickS kS0 5 = (0, kS1) := by kernel_rfl
theorem kf_2 : putS kA [120] kS1 = (0, kS2) := by kernel_rfl
theorem kf_3 : lagS kS2 3 = (0, kS3) := by kernel_rfl
theorem kf_5 : tickS kS4 3 = (0, kS5) := by kernel_rfl
theorem kf_7 : getS kA kS6 = (0, [120], kS7) := by kernel_rfl
theorem sortB_0 : sortB [] = [] := by simp [sortB]
theorem sortB_1 (k : ByteArray) : sortB [k] = [k] := by simp [sortB]
theorem kf_4 : listS kE kS3 = (0, [], kS4) := by
  have h : (viewS kS4).filter (keepQ kE) = [] := by kernel_rfl
  have h2 : (callS kS3).2.2 = kS4 := by kernel_rfl
  rw [listS_ok (by kernel_rfl) (by kernel_rfl), h2]
  unfold listK
  rw [h]
  rw [show akeys ([] : List (ByteArray × Bool)) = [] from rfl, sortB_0]
theorem kf_6 : listS kA kS5 = (0, [kA], kS6) := by
  have h : (viewS kS6).filter (keepQ kA) = [(kA, true)] := by kernel_rfl
  have h2 : (callS kS5).2.2 = kS6 := by kernel_rfl
  rw [listS_ok (by kernel_rfl) (by kernel_rfl), h2]
  unfold listK
  rw [h]
  rw [show akeys [(kA, true)] = [kA] from rfl, sortB_1]
theorem kv_1 (k : ByteArray) (bs : List UInt8) (h : aget [(kA, [(120 : UInt8)])] k = some bs) : bs.length ≤ 1048576 := by
  simp only [aget] at h
  split at h
  · cases h; decide
  · cases h
theorem kok1 : SOk kS1 := ⟨by decide, by decide, by decide, by decide, by decide, by decide, by decide, (fun k bs h => (by cases h)), by decide, by decide⟩
theorem kok0 : SOk kS0 := ⟨by decide, by decide, by decide, by decide, by decide, by decide, by decide, (fun k bs h => (by cases h)), by decide, by decide⟩
theorem kok3 : SOk kS3 := ⟨by decide, by decide, by decide, by decide, by decide, by decide, by decide, kv_1, by decide, by decide⟩
theorem kok4 : SOk kS4 := ⟨by decide, by decide, by decide, by decide, by decide, by decide, by decide, kv_1, by decide, by decide⟩
theorem kok5 : SOk kS5 := ⟨by decide, by decide, by decide, by decide, by decide, by decide, by decide, kv_1, by decide, by decide⟩
theorem kok6 : SOk kS6 := ⟨by decide, by decide, by decide, by decide, by decide, by decide, by decide, kv_1, by decide, by decide⟩
theorem k_new (B : Ctx) : Tri Try.prog B 12 #[.int .i64 5] [] (fun u M => ∃ b r, u = .tuple #[.pointer (some ⟨b, 0, none⟩), .int .i64 0] ∧ M = SL B b r (.slice none 0 0) [] kS0) :=
  tri_post (new_tri B 5) (by rintro v M (⟨h, _⟩ | ⟨_, _, b, r, h1, h2⟩); omega; exact ⟨b, r, h1, h2⟩)
theorem k_tick1 (B : Ctx) (b r : Nat) (v : Value) (lv : List (ByteArray × Value)) : Tri Try.prog B 23 #[.pointer (some ⟨b, 0, none⟩), .int .i64 5] [pt b (.cells #[.map (some r), v, .int .i64 kS0.most, .int .i64 kS0.lag, .int .i64 kS0.now, .int .i64 kS0.calls, .int .i64 kS0.count, .bool kS0.done] 52 (0, 0))] (fun u M => u = .int .i64 0 ∧ M = [pt b (.cells #[.map (some r), v, .int .i64 kS1.most, .int .i64 kS1.lag, .int .i64 kS1.now, .int .i64 kS1.calls, .int .i64 kS1.count, .bool kS1.done] 52 (0, 0))]) := by
  have h := tick_made B b r v lv kS0 5 kok0 (by decide) (by decide)
  rw [kf_1] at h
  exact h

theorem k_put (B : Ctx) (b r : Nat) (v : Value) (lv : List (ByteArray × Value)) (a : Option Addr) (cap : Nat) (R : Assn) (hR : Rd B R 1 (.slice a 1 cap) 1 (byv [120])) : Tri Try.prog B 21 #[.pointer (some ⟨b, 0, none⟩), .string kA, .slice a 1 cap] [pt b (.cells #[.map (some r), v, .int .i64 kS1.most, .int .i64 kS1.lag, .int .i64 kS1.now, .int .i64 kS1.calls, .int .i64 kS1.count, .bool kS1.done] 52 (0, 0)), mapA encS r lv, row 113 3 v kS1.chg.length (chgCells kS1.chg), valsA B lv kS1.objs, R] (fun u M => ∃ v' lv', u = .int .i64 0 ∧ M = SL B b r v' lv' kS2 ++ [R]) := by
  have h := put_tri B b r v lv kS1 kA a cap [120] R kok1 (by decide) (by decide) (by decide) hR
  rw [kf_2] at h
  exact h

theorem k_lag (B : Ctx) (b r : Nat) (v : Value) (lv : List (ByteArray × Value)) : Tri Try.prog B 24 #[.pointer (some ⟨b, 0, none⟩), .int .i64 3] [pt b (.cells #[.map (some r), v, .int .i64 kS2.most, .int .i64 kS2.lag, .int .i64 kS2.now, .int .i64 kS2.calls, .int .i64 kS2.count, .bool kS2.done] 52 (0, 0))] (fun u M => u = .int .i64 0 ∧ M = [pt b (.cells #[.map (some r), v, .int .i64 kS3.most, .int .i64 kS3.lag, .int .i64 kS3.now, .int .i64 kS3.calls, .int .i64 kS3.count, .bool kS3.done] 52 (0, 0))]) := by
  have h := lag_made B b r v lv kS2 3
  rw [kf_3] at h
  exact h

theorem k_list1 (B : Ctx) (b r : Nat) (v : Value) (lv : List (ByteArray × Value)) : Tri Try.prog B 19 #[.pointer (some ⟨b, 0, none⟩), .string kE] [pt b (.cells #[.map (some r), v, .int .i64 kS3.most, .int .i64 kS3.lag, .int .i64 kS3.now, .int .i64 kS3.calls, .int .i64 kS3.count, .bool kS3.done] 52 (0, 0)), mapA encS r lv, row 113 3 v kS3.chg.length (chgCells kS3.chg), valsA B lv kS3.objs] (fun u M => ∃ x, u = .tuple #[x, .int .i64 0] ∧ M = SL B b r v lv kS4 ++ [row 9 1 x 0 (([]).map .string)]) := by
  have h := list_tri B b r v lv kS3 kE kok3 (by decide) (by decide) (by decide) (by decide)
  rw [kf_4] at h
  exact h

theorem k_tick2 (B : Ctx) (b r : Nat) (v : Value) (lv : List (ByteArray × Value)) : Tri Try.prog B 23 #[.pointer (some ⟨b, 0, none⟩), .int .i64 3] [pt b (.cells #[.map (some r), v, .int .i64 kS4.most, .int .i64 kS4.lag, .int .i64 kS4.now, .int .i64 kS4.calls, .int .i64 kS4.count, .bool kS4.done] 52 (0, 0))] (fun u M => u = .int .i64 0 ∧ M = [pt b (.cells #[.map (some r), v, .int .i64 kS5.most, .int .i64 kS5.lag, .int .i64 kS5.now, .int .i64 kS5.calls, .int .i64 kS5.count, .bool kS5.done] 52 (0, 0))]) := by
  have h := tick_made B b r v lv kS4 3 kok4 (by decide) (by decide)
  rw [kf_5] at h
  exact h

theorem k_list2 (B : Ctx) (b r : Nat) (v : Value) (lv : List (ByteArray × Value)) : Tri Try.prog B 19 #[.pointer (some ⟨b, 0, none⟩), .string kA] [pt b (.cells #[.map (some r), v, .int .i64 kS5.most, .int .i64 kS5.lag, .int .i64 kS5.now, .int .i64 kS5.calls, .int .i64 kS5.count, .bool kS5.done] 52 (0, 0)), mapA encS r lv, row 113 3 v kS5.chg.length (chgCells kS5.chg), valsA B lv kS5.objs] (fun u M => ∃ x, u = .tuple #[x, .int .i64 0] ∧ M = SL B b r v lv kS6 ++ [row 9 1 x 1 (([kA]).map .string)]) := by
  have h := list_tri B b r v lv kS5 kA kok5 (by decide) (by decide) (by decide) (by decide)
  rw [kf_6] at h
  exact h

theorem k_get (B : Ctx) (b r : Nat) (v : Value) (lv : List (ByteArray × Value)) : Tri Try.prog B 18 #[.pointer (some ⟨b, 0, none⟩), .string kA] [pt b (.cells #[.map (some r), v, .int .i64 kS6.most, .int .i64 kS6.lag, .int .i64 kS6.now, .int .i64 kS6.calls, .int .i64 kS6.count, .bool kS6.done] 52 (0, 0)), mapA encS r lv, row 113 3 v kS6.chg.length (chgCells kS6.chg), valsA B lv kS6.objs] (fun u M => ∃ x, u = .tuple #[x, .int .i64 0] ∧ M = SL B b r v lv kS7 ++ [row 5 1 x 1 (byv [120])]) := by
  have h := get_tri B b r v lv kS6 kA kok6 (by decide) (by decide) (by decide)
  rw [kf_7] at h
  exact h
end Go.Proofs.Ytmefejfnddcelaa
