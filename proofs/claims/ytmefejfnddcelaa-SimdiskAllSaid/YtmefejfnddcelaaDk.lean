/- Printed by a program of this claim's: what each of these functions of the program does, as its theorem says. No condition but what stands in each theorem. -/
import Derived.Test.YtmefejfnddcelaaDj
namespace Go.Proofs.Ytmefejfnddcelaa
def kA : ByteArray := ⟨#[97]⟩
def kF (f : FileS) (c : List ChgD) (su : List (ByteArray × Nat)) : DS := ⟨[f], [(kA, 0)], su, c, 100, 0, false, -1, false⟩
def kD1 : DS := kF ⟨[], []⟩ [.made kA 0] []
def kD2 : DS := kF ⟨[], [[120]]⟩ [.made kA 0] []
def kD3 : DS := kF ⟨[], [[120], [121]]⟩ [.made kA 0] []
def kD4 : DS := kF ⟨[0, 121], []⟩ [] [(kA, 0)]
theorem sortB_1 (k : ByteArray) : sortB [k] = [k] := by simp [sortB]
theorem used_k (f : FileS) (c : List ChgD) (su : List (ByteArray × Nat)) : usedS (kF f c su) = f.bytes.length := by
  unfold usedS
  rw [show akeys (kF f c su).now = [kA] from rfl, sortB_1]
  show lenK (kF f c su) kA + 0 = _
  rw [lenK_some (i := 0) (by kernel_rfl)]; rfl
theorem kc1 : createS kA (newD 100) = (0, kD1) := by kernel_rfl
theorem kc2 : appendS kA [120] kD1 = (0, kD2) := by
  rw [appendS_ok (i := 0) (by kernel_rfl) (by kernel_rfl) (by unfold kD1; rw [used_k]; decide) (by kernel_rfl) (by decide)]; kernel_rfl
theorem kc3 : appendS kA [121] kD2 = (0, kD3) := by
  rw [appendS_ok (i := 0) (by kernel_rfl) (by kernel_rfl) (by unfold kD2; rw [used_k]; decide) (by kernel_rfl) (by decide)]; kernel_rfl
theorem kc4 : crashS [true, false, true] kD3 = kD4 := by
  rw [crash_eq (r := [false, true]) (r2 := []) (sm := [(kA, 0)]) (fs1 := [⟨[0, 121], []⟩]) (by kernel_rfl) (by rw [show akeys [(kA, 0)] = [kA] from rfl, sortB_1]; kernel_rfl)]; rfl
theorem kc5 : readS kA kD4 = (0, [0, 121]) := by kernel_rfl
theorem kb0 : DB (newD 100) 0 := DB.new (by decide) (by decide)
theorem kb1 : DB kD1 1 := by have h := kb0.create kA; rw [kc1] at h; exact h
theorem kb2 : DB kD2 2 := by have h := kb1.append kA [120]; rw [kc2] at h; exact h
theorem kb3 : DB kD3 3 := by have h := kb2.append kA [121]; rw [kc3] at h; exact h
theorem kb4 : DB kD4 3 := by have h := kb3.crash [true, false, true]; rw [kc4] at h; exact h
theorem k_new (B : Ctx) : Tri Try.prog B 29 #[.int .i64 100] [] (fun u M => ∃ d, u = .tuple #[.pointer (some ⟨d, 0, none⟩), .int .i64 0] ∧ M = [diskA B d (newD 100)]) := d_new B 100 (by decide) (by decide)
theorem k_used : usedS kD4 = 2 := by unfold kD4; rw [used_k]; rfl
set_option maxRecDepth 100000 in
set_option maxHeartbeats 8000000 in
theorem num_tri (B : Ctx) (k : Int) :
    Tri Try.prog B 30 #[.int .i64 k] [] (fun u M => u = .int .i64 k ∧ M = []) := by
  refine tri_body (n := 4) Try.func30 rfl rfl rfl ?_
  intro F
  show WC _ _ _ _ _ _ _ [(0, .int .i64 k)] [F]
  refine wc_seq ?_
  refine wc_region ?_
  refine wl_1 trivial rfl (do_assign rfl) ?_
  refine wl_nil ?_
  refine at_then ?_
  refine wc_seq ?_
  refine wc_region ?_
  refine wl_1 trivial rfl (do_move rfl) ?_
  refine wl_1 trivial rfl (do_assign rfl) ?_
  refine wl_nil ?_
  refine at_then ?_
  refine wc_ret ?_
  exact at_ret1 (M := []) rfl rfl ⟨rfl, rfl⟩ rfl

theorem k_create (B : Ctx) (d : Nat) : Tri Try.prog B 40 #[.pointer (some ⟨d, 0, none⟩), .string kA] [diskA B d (newD 100)] (fun u M => u = .int .i64 0 ∧ M = [diskA B d kD1]) := by
  have h := d_create B d (newD 100) kA 0 kb0 (by decide) (by decide)
  rw [kc1] at h
  exact h

theorem k_append1 (B : Ctx) (d : Nat) (ba : Option Addr) (bc : Nat) (R : Assn) (hR : Rd B R 1 (.slice ba 1 bc) 1 (byv [120])) : Tri Try.prog B 41 #[.pointer (some ⟨d, 0, none⟩), .string kA, .slice ba 1 bc] [diskA B d kD1, R] (fun u M => u = .int .i64 0 ∧ M = [diskA B d kD2, R]) := by
  have h := d_append B d kD1 kA ba bc [120] R 1 kb1 (by decide) hR (by decide)
  rw [kc2] at h
  exact h

theorem k_append2 (B : Ctx) (d : Nat) (ba : Option Addr) (bc : Nat) (R : Assn) (hR : Rd B R 1 (.slice ba 1 bc) 1 (byv [121])) : Tri Try.prog B 41 #[.pointer (some ⟨d, 0, none⟩), .string kA, .slice ba 1 bc] [diskA B d kD2, R] (fun u M => u = .int .i64 0 ∧ M = [diskA B d kD3, R]) := by
  have h := d_append B d kD2 kA ba bc [121] R 2 kb2 (by decide) hR (by decide)
  rw [kc3] at h
  exact h

theorem k_crash (B : Ctx) (d : Nat) (ka : Option Addr) (kc : Nat) (R : Assn) (hR : Rd B R 1 (.slice ka 3 kc) 3 ([true, false, true].map .bool)) (hkc : 3 ≤ kc) : Tri Try.prog B 35 #[.pointer (some ⟨d, 0, none⟩), .slice ka 3 kc] [diskA B d kD3, R] (fun u M => u = .tuple #[] ∧ M = [diskA B d kD4, R]) := by
  have h := d_crash B d kD3 ka kc [true, false, true] R 3 kb3 (by decide) hR hkc
  rw [kc4] at h
  exact h

theorem k_read (B : Ctx) (d : Nat) : Tri Try.prog B 34 #[.pointer (some ⟨d, 0, none⟩), .string kA] [diskA B d kD4] (fun u M => ∃ x, u = .tuple #[x, .int .i64 0] ∧ M = [diskA B d kD4, row 5 1 x 2 (byv [0, 121])]) := by
  have h := d_read B d kD4 kA 3 kb4 (by decide)
  rw [kc5] at h
  exact h

theorem k_used2 (B : Ctx) (d : Nat) : Tri Try.prog B 39 #[.pointer (some ⟨d, 0, none⟩)] [diskA B d kD4] (fun u M => u = .int .i64 2 ∧ M = [diskA B d kD4]) := by
  have h := d_used B d kD4 3 kb4 (by decide)
  rw [k_used] at h
  exact h

theorem k_free (B : Ctx) (d : Nat) : Tri Try.prog B 46 #[.pointer (some ⟨d, 0, none⟩)] [diskA B d kD4] (fun u M => u = .int .i64 98 ∧ M = [diskA B d kD4]) := by
  have h := d_free B d kD4 3 kb4 (by decide)
  rw [k_used] at h
  exact h
end Go.Proofs.Ytmefejfnddcelaa
