/- Printed by a program of this claim's: what each of these functions of the program does, as its theorem says. No condition but what stands in each theorem. -/
import Derived.Test.YtmefejfnddcelaaCd
import Derived.Test.YtmefejfnddcelaaSLHeap
namespace Go.Proofs.Ytmefejfnddcelaa
/-- A file: sure bytes, and pieces. -/
structure FileS where
  sure : List UInt8
  pieces : List (List UInt8)
def FileS.bytes (f : FileS) : List UInt8 := f.sure ++ f.pieces.flatten
/-- A change of names; a file is told by its number. -/
inductive ChgD where
  | made (k : ByteArray) (i : Nat)
  | ren (a b : ByteArray)
  | del (a : ByteArray)
/-- The disk, as the document tells it. -/
structure DS where
  fs : List FileS
  now : List (ByteArray × Nat)
  sure : List (ByteArray × Nat)
  chg : List ChgD
  quota : Int
  count : Int
  done : Bool
  fuse : Int
  off : Bool
def doC (m : List (ByteArray × Nat)) : ChgD → List (ByteArray × Nat)
  | .made k i => aput m k i
  | .ren a b => match aget m a with
    | some i => aput (adel m a) b i
    | none => m
  | .del a => adel m a
/-- An operation: its error, whether it is done, the disk behind it. -/
def opS (s : DS) : Int × Bool × DS :=
  if s.fuse = 0 then (9, false, { s with off := true }) else
  let f := if 0 < s.fuse then s.fuse - 1 else s.fuse
  if 0 < s.count then (if s.count - 1 = 0 then (8, s.done, { s with fuse := f, count := s.count - 1 }) else (0, true, { s with fuse := f, count := s.count - 1 }))
  else (0, true, { s with fuse := f })

/-- Where a file lies. -/
def ptF (fb : List Nat) (i : Nat) : Value := .pointer (some ⟨fb.getD i 0, 0, none⟩)
def pv (fb : List Nat) (l : List (ByteArray × Nat)) : List (ByteArray × Value) := l.map fun q => (q.1, ptF fb q.2)
def chgV (fb : List Nat) : ChgD → Value
  | .made k i => .iface 136 (.agg #[.string k, ptF fb i])
  | .ren a b => .iface 140 (.agg #[.string a, .string b])
  | .del a => .iface 142 (.agg #[.string a])

/-- Bytes that can be read. -/
def bytesA (B : Ctx) (v : Value) (bs : List UInt8) : Assn := fun h => rd B 1 v bs.length (byv bs) h
theorem bytes_rd {B : Ctx} {v : Value} {bs : List UInt8} : Rd B (bytesA B v bs) 1 v bs.length (byv bs) := fun h _ hr => hr
theorem row_bytes {B : Ctx} {e : TypeId} {v : Value} {bs : List UInt8} {L : List Assn} {w : World} (h : Sat B (row e 1 v bs.length (byv bs) :: L) w) : Sat B (bytesA B v bs :: L) w := h.imp0 fun h hb hr => row_rd (b := 0) (cap := 0) h hr hb
def piecesP (B : Ctx) (h : Hp) : List Value → List (List UInt8) → Prop
  | [], [] => True
  | v :: ps, b :: bs => rd B 1 v b.length (byv b) h ∧ piecesP B h ps bs
  | _, _ => False
def piecesA (B : Ctx) (ps : List Value) (bs : List (List UInt8)) : Assn := fun h => piecesP B h ps bs
theorem pieces_get {B : Ctx} {h : Hp} : ∀ {ps : List Value} {bs : List (List UInt8)} {j : Nat} {v : Value} {b : List UInt8}, piecesP B h ps bs → ps[j]? = some v → bs[j]? = some b → rd B 1 v b.length (byv b) h
  | [], _, _, _, _, _, h1, _ => by simp at h1
  | _ :: _, [], _, _, _, hh, _, _ => hh.elim
  | p :: ps, b :: bs, 0, _, _, hh, h1, h2 => by simp at h1 h2; subst h1 h2; exact hh.1
  | p :: ps, b :: bs, j + 1, _, _, hh, h1, h2 => pieces_get (j := j) hh.2 (by simpa using h1) (by simpa using h2)
theorem pieces_len {B : Ctx} {h : Hp} : ∀ {ps : List Value} {bs : List (List UInt8)}, piecesP B h ps bs → ps.length = bs.length
  | [], [], _ => rfl
  | _ :: _, [], hh => hh.elim
  | [], _ :: _, hh => hh.elim
  | p :: ps, b :: bs, hh => by simp [pieces_len hh.2]
theorem pieces_mono {B : Ctx} {h h' : Hp} (hm : ∀ k o, h k = some o → h' k = some o) : ∀ {ps : List Value} {bs : List (List UInt8)}, piecesP B h ps bs → piecesP B h' ps bs
  | [], [], _ => trivial
  | _ :: _, [], hh => hh.elim
  | [], _ :: _, hh => hh.elim
  | p :: ps, b :: bs, hh => ⟨rd_mono hh.1 hm, pieces_mono hm hh.2⟩
theorem pieces_snoc {B : Ctx} {h : Hp} {u : Value} {x : List UInt8} (hu : rd B 1 u x.length (byv x) h) : ∀ {ps : List Value} {bs : List (List UInt8)}, piecesP B h ps bs → piecesP B h (ps ++ [u]) (bs ++ [x])
  | [], [], _ => ⟨hu, trivial⟩
  | _ :: _, [], hh => hh.elim
  | [], _ :: _, hh => hh.elim
  | p :: ps, b :: bs, hh => ⟨hh.1, pieces_snoc hu hh.2⟩
theorem pieces_cons {B : Ctx} {L : List Assn} {w : World} {v : Value} {b : List UInt8} {ps : List Value} {bs : List (List UInt8)} (h : Sat B (bytesA B v b :: piecesA B ps bs :: L) w) : Sat B (piecesA B (v :: ps) (b :: bs) :: L) w :=
  h.join2 fun h1 h2 hh hr hv m1 m2 hb => ⟨rd_mono hr fun k o hk => (m1 k o hk).1, pieces_mono (fun k o hk => (m2 k o hk).1) hv⟩
theorem pieces_add {B : Ctx} {L : List Assn} {w : World} {e : TypeId} {v : Value} {b : List UInt8} {ps : List Value} {bs : List (List UInt8)} (h : Sat B (row e 1 v b.length (byv b) :: piecesA B ps bs :: L) w) : Sat B (piecesA B (ps ++ [v]) (bs ++ [b]) :: L) w :=
  h.join2 fun h1 h2 hh hr hv m1 m2 hb => pieces_snoc (rd_mono (row_rd (b := 0) (cap := 0) _ hr fun k o hk => (m1 k o hk).2) fun k o hk => (m1 k o hk).1) (pieces_mono (fun k o hk => (m2 k o hk).1) hv)
theorem pieces_Rd {B : Ctx} {ps : List Value} {bs : List (List UInt8)} {j : Nat} {v : Value} {b : List UInt8} (h1 : ps[j]? = some v) (h2 : bs[j]? = some b) : Rd B (piecesA B ps bs) 1 v b.length (byv b) := fun h _ hh => pieces_get hh h1 h2

/-- A file in memory. -/
def filePs (B : Ctx) (b : Nat) (f : FileS) (x : Value × Value × List Value) : List Assn :=
  [pt b (.cells #[x.1, x.2.1] 134 (0, 0)), bytesA B x.1 f.sure, row 32 1 x.2.1 f.pieces.length x.2.2, piecesA B x.2.2 f.pieces]
def fileA (B : Ctx) (b : Nat) (f : FileS) : Assn := Ex (fun x : Value × Value × List Value => x.2.2.length = f.pieces.length) (filePs B b f)
def filesA (B : Ctx) (fb : List Nat) (fs : List FileS) : Assn := Ex (fun _ : Unit => fb.length = fs.length) fun _ => [Star (List.zipWith (fileA B) fb fs)]
theorem tri_ex {P : Program} {B : Ctx} {f : FuncId} {args : Array Value} {R : List Assn} {post : Value → List Assn → Prop} {α : Type} {φ : α → Prop} {As : α → List Assn} (h : ∀ x, φ x → Tri P B f args (As x ++ R) post) : Tri P B f args (Ex φ As :: R) post := fun F w hS => by
  obtain ⟨x, hx, hS'⟩ := ex_get (R := R ++ [F]) hS
  exact h x hx F w (by rw [List.append_assoc]; exact hS')
theorem files_len {B : Ctx} {fb : List Nat} {fs : List FileS} (h : Hp) (_ : ∀ k o, h k = some o → B.n ≤ k) (hh : filesA B fb fs h) : fb.length = fs.length := by obtain ⟨_, h1, _⟩ := hh; exact h1
theorem files_open {B : Ctx} {fb : List Nat} {fs : List FileS} {i : Nat} {f : FileS} {R : List Assn} {w : World} (hi : fs[i]? = some f) (h : Sat B (filesA B fb fs :: R) w) :
    Sat B (fileA B (fb.getD i 0) f :: Star ((List.zipWith (fileA B) fb fs).eraseIdx i) :: R) w := by
  obtain ⟨_, hl, h1⟩ := ex_get h
  refine star_open ?_ h1
  have h2 := (List.getElem?_eq_some_iff.1 hi).1
  have h3 : fb[i]? = some (fb.getD i 0) := by rw [List.getD_eq_getElem?_getD, List.getElem?_eq_getElem (by omega)]; rfl
  rw [List.getElem?_zipWith, h3, hi]
theorem files_close {B : Ctx} {fb : List Nat} {fs : List FileS} {i : Nat} {f : FileS} {R : List Assn} {w : World} (hl : fb.length = fs.length) (hi : i < fs.length)
    (h : Sat B (fileA B (fb.getD i 0) f :: Star ((List.zipWith (fileA B) fb fs).eraseIdx i) :: R) w) : Sat B (filesA B fb (fs.set i f) :: R) w := by
  have h1 := star_close (by rw [List.length_zipWith]; omega) h
  have h2 : List.zipWith (fileA B) fb (fs.set i f) = (List.zipWith (fileA B) fb fs).set i (fileA B (fb.getD i 0) f) := by
    apply List.ext_getElem?
    intro j
    rw [List.getElem?_set, List.getElem?_zipWith, List.getElem?_zipWith, List.getElem?_set]
    by_cases e : i = j
    · subst e
      have h3 : fb[i]? = some (fb.getD i 0) := by rw [List.getD_eq_getElem?_getD, List.getElem?_eq_getElem (by omega)]; rfl
      have h4 : i < (List.zipWith (fileA B) fb fs).length := by rw [List.length_zipWith]; omega
      rw [if_pos rfl, if_pos hi, if_pos rfl, if_pos h4, h3]
    · rw [if_neg e, if_neg e]
  exact ex_put () (by simpa using hl) (by rw [h2]; exact h1)
theorem files_add {B : Ctx} {fb : List Nat} {fs : List FileS} {b : Nat} {f : FileS} {R : List Assn} {w : World} (h : Sat B (fileA B b f :: filesA B fb fs :: R) w) : Sat B (filesA B (fb ++ [b]) (fs ++ [f]) :: R) w := by
  obtain ⟨_, hl, h1⟩ := ex_get (h.permute (List.Perm.swap _ _ _))
  have h2 := star_snoc (h1.permute (List.Perm.swap _ _ _))
  refine ex_put () (by simp [hl]) ?_
  rw [List.zipWith_append hl]
  exact h2
theorem files_nil {B : Ctx} {R : List Assn} {w : World} (h : Sat B R w) : Sat B (filesA B [] [] :: R) w := ex_put () rfl (star_put (As := []) h)

def DL (B : Ctx) (d n su : Nat) (cv : Value) (fb : List Nat) (s : DS) : List Assn :=
  [pt d (.cells #[.int .i64 s.count, .bool s.done, .int .i64 s.fuse, .bool s.off, .int .i64 s.quota, .map (some n), .map (some su), cv] 87 (0, 0)), mapA encS n (pv fb s.now), mapA encS su (pv fb s.sure), row 20 1 cv s.chg.length (s.chg.map (chgV fb)), filesA B fb s.fs]
def ChgD.file : ChgD → Option Nat
  | .made _ i => some i
  | _ => none
/-- What every disk that is worked with keeps; N bounds what has been done. -/
structure DB (s : DS) (N : Nat) : Prop where
  wn : ∀ q ∈ s.now, q.2 < s.fs.length
  ws : ∀ q ∈ s.sure, q.2 < s.fs.length
  wc : ∀ c ∈ s.chg, ∀ i, c.file = some i → i < s.fs.length
  f1 : s.fs.length ≤ N
  n1 : s.now.length ≤ N
  c1 : s.sure.length + s.chg.length ≤ N
  b1 : ∀ f ∈ s.fs, f.bytes.length ≤ N * 1048576
  p1 : ∀ f ∈ s.fs, f.pieces.length ≤ N
  q0 : 1 ≤ s.quota
  q1 : s.quota ≤ 1048576
  k0 : 0 ≤ s.count
  k1 : s.count ≤ 9223372036854775807
  u0 : -1 ≤ s.fuse
  u1 : s.fuse ≤ 9223372036854775807
  nn : (akeys s.now).Nodup
  ns : (akeys s.sure).Nodup
theorem isPtr_62 : isPtr Try.prog 62 = true := by kernel_rfl
theorem fo_87_2 : fieldOk Try.prog 87 2 5 = true := by kernel_rfl
theorem enters_72 : Enters Try.prog 72 := enters_of Try.func72 (by kernel_rfl) (by kernel_rfl)
theorem fo_87_0 : fieldOk Try.prog 87 0 0 = true := by kernel_rfl
theorem fo_82_3 : fieldOk Try.prog 82 3 3 = true := by kernel_rfl
theorem one_4 : oneOk Try.prog 4 = true := by kernel_rfl
theorem fo_82_2 : fieldOk Try.prog 82 2 2 = true := by kernel_rfl
theorem one_3 : oneOk Try.prog 3 = true := by kernel_rfl
theorem fo_82_0 : fieldOk Try.prog 82 0 0 = true := by kernel_rfl
theorem fo_82_1 : fieldOk Try.prog 82 1 1 = true := by kernel_rfl
set_option maxRecDepth 100000 in
set_option maxHeartbeats 8000000 in
theorem none_nil (B : Ctx) :
    Tri Try.prog B 72 #[.pointer none] [] (fun u M => u = .bool true ∧ M = []) := by
  refine tri_body (n := 12) Try.func72 rfl rfl rfl ?_
  intro F
  show WC _ _ _ _ _ _ _ [(0, .pointer none)] [F]
  refine wc_seq ?_
  refine wc_region ?_
  refine wl_1 trivial rfl (do_assign rfl) ?_
  refine wl_nil ?_
  refine at_then ?_
  refine wc_seq ?_
  refine wc_region ?_
  refine wl_1 trivial rfl (do_move rfl) ?_
  refine wl_1 trivial rfl (do_eqPtr isPtr_62 rfl rfl (.inl rfl)) ?_
  refine wl_1 trivial rfl (do_move rfl) ?_
  refine wl_no rfl rfl rfl rfl rfl ?_
  refine wl_no rfl rfl rfl rfl rfl ?_
  refine wl_no rfl rfl rfl rfl rfl ?_
  refine wl_no rfl rfl rfl rfl rfl ?_
  refine wl_no rfl rfl rfl rfl rfl ?_
  refine wl_1 trivial rfl (do_pickT rfl rfl) ?_
  refine wl_1 trivial rfl (do_assign rfl) ?_
  refine wl_nil ?_
  refine at_then ?_
  refine wc_ret ?_
  exact at_ret1 (M := []) rfl rfl ⟨rfl, rfl⟩ rfl

set_option maxRecDepth 100000 in
set_option maxHeartbeats 8000000 in
theorem none_zero (B : Ctx) (d : Nat) :
    Tri Try.prog B 72 #[.pointer (some ⟨d, 0, none⟩)] [pt d (.cells #[.int .i64 0, .bool false, .int .i64 0, .bool false, .int .i64 0, .map none, .map none, .slice none 0 0] 87 (0, 0))] (fun u M => u = .bool true ∧ M = [pt d (.cells #[.int .i64 0, .bool false, .int .i64 0, .bool false, .int .i64 0, .map none, .map none, .slice none 0 0] 87 (0, 0))]) := by
  refine tri_body (n := 12) Try.func72 rfl rfl rfl ?_
  intro F
  show WC _ _ _ _ _ _ _ [(0, .pointer (some ⟨d, 0, none⟩))] [pt d (.cells #[.int .i64 0, .bool false, .int .i64 0, .bool false, .int .i64 0, .map none, .map none, .slice none 0 0] 87 (0, 0)), F]
  refine wc_seq ?_
  refine wc_region ?_
  refine wl_1 trivial rfl (do_assign rfl) ?_
  refine wl_nil ?_
  refine at_then ?_
  refine wc_seq ?_
  refine wc_region ?_
  refine wl_1 trivial rfl (do_move rfl) ?_
  refine wl_1 trivial rfl (do_eqPtr isPtr_62 rfl rfl (.inr rfl)) ?_
  refine wl_1 trivial rfl (do_move rfl) ?_
  refine wl_1 ⟨_, rfl, rfl⟩ rfl (do_move rfl) ?_
  refine wl_1 ⟨_, rfl, rfl⟩ rfl (do_nilCheck rfl) ?_
  refine wl_1 ⟨_, rfl, rfl⟩ rfl (do_fieldAddr (k := 5) (k' := 5) fo_87_2 rfl (by rfl)) ?_
  refine wl_1 ⟨_, rfl, rfl⟩ rfl (do_load 0 rfl one_84 rfl rfl) ?_
  refine wl_1 ⟨_, rfl, rfl⟩ rfl (do_eqMap isMap_84 rfl rfl) ?_
  refine wl_1 trivial rfl (do_pickF rfl rfl) ?_
  refine wl_1 trivial rfl (do_assign rfl) ?_
  refine wl_nil ?_
  refine at_then ?_
  refine wc_ret ?_
  exact at_ret1 (M := [_]) rfl rfl ⟨rfl, rfl⟩ rfl

set_option maxRecDepth 100000 in
set_option maxHeartbeats 8000000 in
theorem none_made (B : Ctx) (d n su : Nat) (cv : Value) (count fuse quota : Int) (done off : Bool) :
    Tri Try.prog B 72 #[.pointer (some ⟨d, 0, none⟩)] [pt d (.cells #[.int .i64 count, .bool done, .int .i64 fuse, .bool off, .int .i64 quota, .map (some n), .map (some su), cv] 87 (0, 0))] (fun u M => u = .bool false ∧ M = [pt d (.cells #[.int .i64 count, .bool done, .int .i64 fuse, .bool off, .int .i64 quota, .map (some n), .map (some su), cv] 87 (0, 0))]) := by
  refine tri_body (n := 12) Try.func72 rfl rfl rfl ?_
  intro F
  show WC _ _ _ _ _ _ _ [(0, .pointer (some ⟨d, 0, none⟩))] [pt d (.cells #[.int .i64 count, .bool done, .int .i64 fuse, .bool off, .int .i64 quota, .map (some n), .map (some su), cv] 87 (0, 0)), F]
  refine wc_seq ?_
  refine wc_region ?_
  refine wl_1 trivial rfl (do_assign rfl) ?_
  refine wl_nil ?_
  refine at_then ?_
  refine wc_seq ?_
  refine wc_region ?_
  refine wl_1 trivial rfl (do_move rfl) ?_
  refine wl_1 trivial rfl (do_eqPtr isPtr_62 rfl rfl (.inr rfl)) ?_
  refine wl_1 trivial rfl (do_move rfl) ?_
  refine wl_1 ⟨_, rfl, rfl⟩ rfl (do_move rfl) ?_
  refine wl_1 ⟨_, rfl, rfl⟩ rfl (do_nilCheck rfl) ?_
  refine wl_1 ⟨_, rfl, rfl⟩ rfl (do_fieldAddr (k := 5) (k' := 5) fo_87_2 rfl (by rfl)) ?_
  refine wl_1 ⟨_, rfl, rfl⟩ rfl (do_load 0 rfl one_84 rfl rfl) ?_
  refine wl_1 ⟨_, rfl, rfl⟩ rfl (do_eqMap isMap_84 rfl rfl) ?_
  refine wl_1 trivial rfl (do_pickF rfl rfl) ?_
  refine wl_1 trivial rfl (do_assign rfl) ?_
  refine wl_nil ?_
  refine at_then ?_
  refine wc_ret ?_
  exact at_ret1 (M := [_]) rfl rfl ⟨rfl, rfl⟩ rfl

set_option maxRecDepth 100000 in
set_option maxHeartbeats 8000000 in
theorem may_made (B : Ctx) (d n su : Nat) (cv : Value) (count fuse quota : Int) (done off : Bool) :
    Tri Try.prog B 80 #[.pointer (some ⟨d, 0, none⟩)] [pt d (.cells #[.int .i64 count, .bool done, .int .i64 fuse, .bool off, .int .i64 quota, .map (some n), .map (some su), cv] 87 (0, 0))] (fun u M => u = .int .i64 (if off then 9 else 0) ∧ M = [pt d (.cells #[.int .i64 count, .bool done, .int .i64 fuse, .bool off, .int .i64 quota, .map (some n), .map (some su), cv] 87 (0, 0))]) := by
  refine tri_body (n := 12) Try.func80 rfl rfl rfl ?_
  intro F
  show WC _ _ _ _ _ _ _ [(0, .pointer (some ⟨d, 0, none⟩))] [pt d (.cells #[.int .i64 count, .bool done, .int .i64 fuse, .bool off, .int .i64 quota, .map (some n), .map (some su), cv] 87 (0, 0)), F]
  refine wc_seq ?_
  refine wc_region ?_
  refine wl_1 trivial rfl (do_assign rfl) ?_
  refine wl_nil ?_
  refine at_then ?_
  refine wc_seq ?_
  refine wc_block ?_
  refine wc_seq ?_
  refine wc_region ?_
  refine wl_1 trivial rfl (do_move rfl) ?_
  refine wl_do trivial rfl (do_call (none_made B d n su cv count fuse quota done off) ⟨rfl, trivial⟩ enters_72 [0] [1] ⟨rfl, trivial⟩ ⟨rfl, trivial⟩ (R := [_]) (by decide)) ?_
  rintro _ _ ⟨_, ⟨rfl, rfl⟩, rfl⟩
  refine wl_1 trivial rfl (do_assign rfl) ?_
  refine wl_nil ?_
  refine at_then ?_
  refine wc_false rfl ?_
  refine wc_seq ?_
  refine wc_region ?_
  refine wl_1 trivial rfl (do_move rfl) ?_
  refine wl_1 trivial rfl (do_nilCheck rfl) ?_
  refine wl_1 trivial rfl (do_fieldAddr (k := 0) (k' := 0) fo_87_0 rfl (by rfl)) ?_
  refine wl_1 trivial rfl (do_fieldAddr (k := 3) (k' := 3) fo_82_3 rfl (by rfl)) ?_
  refine wl_1 trivial rfl (do_load 0 rfl one_4 rfl rfl) ?_
  refine wl_1 trivial rfl (do_assign rfl) ?_
  refine wl_nil ?_
  refine at_then ?_
  cases off
  · skip
    refine wc_false rfl ?_
    refine wc_skip ?_
    refine at_block ?_
    refine at_then ?_
    refine wc_seq ?_
    refine wc_region ?_
    refine wl_1 trivial rfl (do_assign rfl) ?_
    refine wl_nil ?_
    refine at_then ?_
    refine wc_ret ?_
    exact at_ret1 (M := [_]) rfl rfl ⟨rfl, rfl⟩ rfl
  · skip
    refine wc_true rfl ?_
    refine wc_seq ?_
    refine wc_region ?_
    refine wl_1 trivial rfl (do_assign rfl) ?_
    refine wl_nil ?_
    refine at_then ?_
    refine wc_ret ?_
    refine at_block_ret ?_
    refine at_then_ret ?_
    exact at_ret1 (M := [_]) rfl rfl ⟨rfl, rfl⟩ rfl

set_option maxRecDepth 100000 in
set_option maxHeartbeats 8000000 in
theorem may_nil (B : Ctx) :
    Tri Try.prog B 80 #[.pointer none] [] (fun u M => u = .int .i64 1 ∧ M = []) := by
  refine tri_body (n := 12) Try.func80 rfl rfl rfl ?_
  intro F
  show WC _ _ _ _ _ _ _ [(0, .pointer none)] [F]
  refine wc_seq ?_
  refine wc_region ?_
  refine wl_1 trivial rfl (do_assign rfl) ?_
  refine wl_nil ?_
  refine at_then ?_
  refine wc_seq ?_
  refine wc_block ?_
  refine wc_seq ?_
  refine wc_region ?_
  refine wl_1 trivial rfl (do_move rfl) ?_
  refine wl_do trivial rfl (do_call (none_nil B) ⟨rfl, trivial⟩ enters_72 [] [0] trivial ⟨rfl, trivial⟩ (R := [_]) (by decide)) ?_
  rintro _ _ ⟨_, ⟨rfl, rfl⟩, rfl⟩
  refine wl_1 trivial rfl (do_assign rfl) ?_
  refine wl_nil ?_
  refine at_then ?_
  refine wc_true rfl ?_
  refine wc_seq ?_
  refine wc_region ?_
  refine wl_1 trivial rfl (do_assign rfl) ?_
  refine wl_nil ?_
  refine at_then ?_
  refine wc_ret ?_
  refine at_block_ret ?_
  refine at_then_ret ?_
  exact at_ret1 (M := []) rfl rfl ⟨rfl, rfl⟩ rfl

set_option maxRecDepth 100000 in
set_option maxHeartbeats 8000000 in
theorem may_zero (B : Ctx) (d : Nat) :
    Tri Try.prog B 80 #[.pointer (some ⟨d, 0, none⟩)] [pt d (.cells #[.int .i64 0, .bool false, .int .i64 0, .bool false, .int .i64 0, .map none, .map none, .slice none 0 0] 87 (0, 0))] (fun u M => u = .int .i64 1 ∧ M = [pt d (.cells #[.int .i64 0, .bool false, .int .i64 0, .bool false, .int .i64 0, .map none, .map none, .slice none 0 0] 87 (0, 0))]) := by
  refine tri_body (n := 12) Try.func80 rfl rfl rfl ?_
  intro F
  show WC _ _ _ _ _ _ _ [(0, .pointer (some ⟨d, 0, none⟩))] [pt d (.cells #[.int .i64 0, .bool false, .int .i64 0, .bool false, .int .i64 0, .map none, .map none, .slice none 0 0] 87 (0, 0)), F]
  refine wc_seq ?_
  refine wc_region ?_
  refine wl_1 trivial rfl (do_assign rfl) ?_
  refine wl_nil ?_
  refine at_then ?_
  refine wc_seq ?_
  refine wc_block ?_
  refine wc_seq ?_
  refine wc_region ?_
  refine wl_1 trivial rfl (do_move rfl) ?_
  refine wl_do trivial rfl (do_call (none_zero B d) ⟨rfl, trivial⟩ enters_72 [0] [1] ⟨rfl, trivial⟩ ⟨rfl, trivial⟩ (R := [_]) (by decide)) ?_
  rintro _ _ ⟨_, ⟨rfl, rfl⟩, rfl⟩
  refine wl_1 trivial rfl (do_assign rfl) ?_
  refine wl_nil ?_
  refine at_then ?_
  refine wc_true rfl ?_
  refine wc_seq ?_
  refine wc_region ?_
  refine wl_1 trivial rfl (do_assign rfl) ?_
  refine wl_nil ?_
  refine at_then ?_
  refine wc_ret ?_
  refine at_block_ret ?_
  refine at_then_ret ?_
  exact at_ret1 (M := [_]) rfl rfl ⟨rfl, rfl⟩ rfl

theorem opS_pw {s : DS} (h : s.fuse = 0) : opS s = (9, false, { s with off := true }) := by unfold opS; rw [if_pos h]
theorem opS_f {s : DS} {f : Int} (h : ¬ s.fuse = 0) (hf : f = if 0 < s.fuse then s.fuse - 1 else s.fuse) : opS s = if 0 < s.count then (if s.count - 1 = 0 then (8, s.done, { s with fuse := f, count := s.count - 1 }) else (0, true, { s with fuse := f, count := s.count - 1 })) else (0, true, { s with fuse := f }) := by subst hf; unfold opS; rw [if_neg h]

set_option maxRecDepth 100000 in
set_option maxHeartbeats 8000000 in
theorem oper_tri (B : Ctx) (d n su : Nat) (cv : Value) (fb : List Nat) (s : DS) (N : Nat) (hs : DB s N) (hN : N ≤ 1000000) :
    Tri Try.prog B 83 #[.pointer (some ⟨d, 0, none⟩)] [pt d (.cells #[.int .i64 s.count, .bool s.done, .int .i64 s.fuse, .bool s.off, .int .i64 s.quota, .map (some n), .map (some su), cv] 87 (0, 0))] (fun u M => u = .tuple #[.int .i64 (opS s).1, .bool (opS s).2.1] ∧ M = [pt d (.cells #[.int .i64 ((opS s).2.2.count), .bool ((opS s).2.2.done), .int .i64 ((opS s).2.2.fuse), .bool ((opS s).2.2.off), .int .i64 ((opS s).2.2.quota), .map (some n), .map (some su), cv] 87 (0, 0))]) := by
  refine tri_body (n := 47) Try.func83 rfl rfl rfl ?_
  intro F
  show WC _ _ _ _ _ _ _ [(0, .pointer (some ⟨d, 0, none⟩))] [pt d (.cells #[.int .i64 s.count, .bool s.done, .int .i64 s.fuse, .bool s.off, .int .i64 s.quota, .map (some n), .map (some su), cv] 87 (0, 0)), F]
  obtain ⟨hwn, hws, hwc, hf1, hn1, hc1, hb1, hp1, hq0, hq1, hk0, hk1, hu0, hu1, hnn, hns⟩ := hs
  refine wc_seq ?_
  refine wc_region ?_
  refine wl_1 trivial rfl (do_assign rfl) ?_
  refine wl_1 trivial rfl (do_assign rfl) ?_
  refine wl_nil ?_
  refine at_then ?_
  refine wc_seq ?_
  refine wc_block ?_
  refine wc_seq ?_
  refine wc_region ?_
  refine wl_1 trivial rfl (do_move rfl) ?_
  refine wl_1 trivial rfl (do_nilCheck rfl) ?_
  refine wl_1 trivial rfl (do_fieldAddr (k := 2) (k' := 2) fo_82_2 rfl (by rfl)) ?_
  refine wl_1 trivial rfl (do_load 0 rfl one_3 rfl rfl) ?_
  obtain ⟨c1, h_c1⟩ : ∃ c : Bool, cmpB .eql s.fuse 0 = some c := ⟨_, rfl⟩
  refine wl_1 trivial rfl (do_cmp rfl rfl h_c1) ?_
  refine wl_1 trivial rfl (do_assign rfl) ?_
  refine wl_nil ?_
  refine at_then ?_
  cases c1
  · have p_c1 := cmp_eql_f h_c1
    refine wc_false rfl ?_
    refine wc_seq ?_
    refine wc_region ?_
    refine wl_1 trivial rfl (do_move rfl) ?_
    refine wl_1 trivial rfl (do_nilCheck rfl) ?_
    refine wl_1 trivial rfl (do_fieldAddr (k := 2) (k' := 2) fo_82_2 rfl (by rfl)) ?_
    refine wl_1 trivial rfl (do_load 0 rfl one_3 rfl rfl) ?_
    obtain ⟨c2, h_c2⟩ : ∃ c : Bool, cmpB .gtr s.fuse 0 = some c := ⟨_, rfl⟩
    refine wl_1 trivial rfl (do_cmp rfl rfl h_c2) ?_
    refine wl_1 trivial rfl (do_assign rfl) ?_
    refine wl_nil ?_
    refine at_then ?_
    cases c2
    · have p_c2 := cmp_gtr_f h_c2
      refine wc_false rfl ?_
      refine wc_skip ?_
      refine at_block ?_
      refine at_then ?_
      refine wc_seq ?_
      refine wc_seq ?_
      refine wc_region ?_
      refine wl_1 trivial rfl (do_move rfl) ?_
      refine wl_1 trivial rfl (do_nilCheck rfl) ?_
      refine wl_1 trivial rfl (do_fieldAddr (k := 0) (k' := 0) fo_82_0 rfl (by rfl)) ?_
      refine wl_1 trivial rfl (do_load 0 rfl one_3 rfl rfl) ?_
      obtain ⟨c3, h_c3⟩ : ∃ c : Bool, cmpB .gtr s.count 0 = some c := ⟨_, rfl⟩
      refine wl_1 trivial rfl (do_cmp rfl rfl h_c3) ?_
      refine wl_nil ?_
      refine at_then ?_
      cases c3
      · have p_c3 := cmp_gtr_f h_c3
        refine wc_false rfl ?_
        refine wc_skip ?_
        refine at_then ?_
        refine wc_seq ?_
        refine wc_region ?_
        refine wl_1 trivial rfl (do_assign rfl) ?_
        refine wl_1 trivial rfl (do_assign rfl) ?_
        refine wl_nil ?_
        refine at_then ?_
        refine wc_ret ?_
        exact at_ret2 (M := [_]) rfl rfl rfl (by rw [opS_f (f := s.fuse) ‹_› (by first | rw [if_pos (by omega)] | rw [if_neg (by omega)])]; rw [if_neg (by omega)]; exact ⟨rfl, rfl⟩) rfl
      · have p_c3 := cmp_gtr_t h_c3
        refine wc_true rfl ?_
        refine wc_seq ?_
        refine wc_region ?_
        refine wl_1 trivial rfl (do_move rfl) ?_
        refine wl_1 trivial rfl (do_nilCheck rfl) ?_
        refine wl_1 trivial rfl (do_fieldAddr (k := 0) (k' := 0) fo_82_0 rfl (by rfl)) ?_
        refine wl_1 trivial rfl (do_load 0 rfl one_3 rfl rfl) ?_
        refine wl_1 trivial rfl (do_sub (r := s.count - 1) rfl rfl (wrap_i64 (by omega) (by omega))) ?_
        refine wl_1 trivial rfl (do_nilCheck rfl) ?_
        refine wl_1 trivial rfl (do_fieldAddr (k := 0) (k' := 0) fo_82_0 rfl (by rfl)) ?_
        refine wl_1 trivial rfl (do_store (L1 := []) rfl rfl one_3 rfl rfl (cs' := #[.int .i64 (s.count - 1), .bool s.done, .int .i64 s.fuse, .bool s.off, .int .i64 s.quota, .map (some n), .map (some su), cv]) rfl) ?_
        refine wl_nil ?_
        refine at_then ?_
        refine wc_seq ?_
        refine wc_region ?_
        refine wl_1 trivial rfl (do_move rfl) ?_
        refine wl_1 trivial rfl (do_nilCheck rfl) ?_
        refine wl_1 trivial rfl (do_fieldAddr (k := 0) (k' := 0) fo_82_0 rfl (by rfl)) ?_
        refine wl_1 trivial rfl (do_load 0 rfl one_3 rfl rfl) ?_
        obtain ⟨c4, h_c4⟩ : ∃ c : Bool, cmpB .eql (s.count - 1) 0 = some c := ⟨_, rfl⟩
        refine wl_1 trivial rfl (do_cmp rfl rfl h_c4) ?_
        refine wl_nil ?_
        refine at_then ?_
        cases c4
        · have p_c4 := cmp_eql_f h_c4
          refine wc_false rfl ?_
          refine wc_skip ?_
          refine at_then ?_
          refine wc_seq ?_
          refine wc_region ?_
          refine wl_1 trivial rfl (do_assign rfl) ?_
          refine wl_1 trivial rfl (do_assign rfl) ?_
          refine wl_nil ?_
          refine at_then ?_
          refine wc_ret ?_
          exact at_ret2 (M := [_]) rfl rfl rfl (by rw [opS_f (f := s.fuse) ‹_› (by first | rw [if_pos (by omega)] | rw [if_neg (by omega)])]; rw [if_pos (by omega), if_neg (by omega)]; exact ⟨rfl, rfl⟩) rfl
        · have p_c4 := cmp_eql_t h_c4
          refine wc_true rfl ?_
          refine wc_seq ?_
          refine wc_draw [[], [0], [0, 1], [0, 1, 2], [], [0, 1, 2, 3, 4]] [some (.pointer (some ⟨d, 0, none⟩)), some (.pointer (some ⟨d, 0, none⟩)), some (.pointer (some ⟨d, 1, none⟩)), some (.bool s.done), some (.int .i64 8), some (.bool s.done)] [] mixed (by kernel_rfl) (by decide) ⟨rfl, ⟨.inr ⟨_, [.old 0], rfl, rfl, .inl ⟨trivial, do_move rfl⟩⟩, .inr ⟨_, [.op 0], rfl, rfl, .inl ⟨trivial, do_nilCheck rfl⟩⟩, .inr ⟨_, [.op 1], rfl, rfl, .inl ⟨trivial, do_fieldAddr (k := 1) (k' := 1) fo_82_1 rfl (by rfl)⟩⟩, .inr ⟨_, [.op 2], rfl, rfl, .inl ⟨trivial, do_load 0 rfl one_4 rfl rfl⟩⟩, .inr ⟨_, [], rfl, rfl, .inl ⟨trivial, do_assign rfl⟩⟩, .inr ⟨_, [.op 3], rfl, rfl, .inl ⟨trivial, do_assign rfl⟩⟩, trivial⟩, [.op 4, .op 5], [(2, .int .i64 8), (3, .bool s.done)], rfl, rfl, ?_⟩
          refine at_then ?_
          refine wc_ret ?_
          refine at_then_ret ?_
          exact at_ret2 (M := [_]) rfl rfl rfl (by rw [opS_f (f := s.fuse) ‹_› (by first | rw [if_pos (by omega)] | rw [if_neg (by omega)])]; rw [if_pos (by omega), if_pos (by omega)]; exact ⟨rfl, rfl⟩) rfl
    · have p_c2 := cmp_gtr_t h_c2
      refine wc_true rfl ?_
      refine wc_region ?_
      refine wl_1 trivial rfl (do_move rfl) ?_
      refine wl_1 trivial rfl (do_nilCheck rfl) ?_
      refine wl_1 trivial rfl (do_fieldAddr (k := 2) (k' := 2) fo_82_2 rfl (by rfl)) ?_
      refine wl_1 trivial rfl (do_load 0 rfl one_3 rfl rfl) ?_
      refine wl_1 trivial rfl (do_sub (r := s.fuse - 1) rfl rfl (wrap_i64 (by omega) (by omega))) ?_
      refine wl_1 trivial rfl (do_nilCheck rfl) ?_
      refine wl_1 trivial rfl (do_fieldAddr (k := 2) (k' := 2) fo_82_2 rfl (by rfl)) ?_
      refine wl_1 trivial rfl (do_store (L1 := []) rfl rfl one_3 rfl rfl (cs' := #[.int .i64 s.count, .bool s.done, .int .i64 (s.fuse - 1), .bool s.off, .int .i64 s.quota, .map (some n), .map (some su), cv]) rfl) ?_
      refine wl_nil ?_
      refine at_block ?_
      refine at_then ?_
      refine wc_seq ?_
      refine wc_seq ?_
      refine wc_region ?_
      refine wl_1 trivial rfl (do_move rfl) ?_
      refine wl_1 trivial rfl (do_nilCheck rfl) ?_
      refine wl_1 trivial rfl (do_fieldAddr (k := 0) (k' := 0) fo_82_0 rfl (by rfl)) ?_
      refine wl_1 trivial rfl (do_load 0 rfl one_3 rfl rfl) ?_
      obtain ⟨c5, h_c5⟩ : ∃ c : Bool, cmpB .gtr s.count 0 = some c := ⟨_, rfl⟩
      refine wl_1 trivial rfl (do_cmp rfl rfl h_c5) ?_
      refine wl_nil ?_
      refine at_then ?_
      cases c5
      · have p_c5 := cmp_gtr_f h_c5
        refine wc_false rfl ?_
        refine wc_skip ?_
        refine at_then ?_
        refine wc_seq ?_
        refine wc_region ?_
        refine wl_1 trivial rfl (do_assign rfl) ?_
        refine wl_1 trivial rfl (do_assign rfl) ?_
        refine wl_nil ?_
        refine at_then ?_
        refine wc_ret ?_
        exact at_ret2 (M := [_]) rfl rfl rfl (by rw [opS_f (f := (s.fuse - 1)) ‹_› (by first | rw [if_pos (by omega)] | rw [if_neg (by omega)])]; rw [if_neg (by omega)]; exact ⟨rfl, rfl⟩) rfl
      · have p_c5 := cmp_gtr_t h_c5
        refine wc_true rfl ?_
        refine wc_seq ?_
        refine wc_region ?_
        refine wl_1 trivial rfl (do_move rfl) ?_
        refine wl_1 trivial rfl (do_nilCheck rfl) ?_
        refine wl_1 trivial rfl (do_fieldAddr (k := 0) (k' := 0) fo_82_0 rfl (by rfl)) ?_
        refine wl_1 trivial rfl (do_load 0 rfl one_3 rfl rfl) ?_
        refine wl_1 trivial rfl (do_sub (r := s.count - 1) rfl rfl (wrap_i64 (by omega) (by omega))) ?_
        refine wl_1 trivial rfl (do_nilCheck rfl) ?_
        refine wl_1 trivial rfl (do_fieldAddr (k := 0) (k' := 0) fo_82_0 rfl (by rfl)) ?_
        refine wl_1 trivial rfl (do_store (L1 := []) rfl rfl one_3 rfl rfl (cs' := #[.int .i64 (s.count - 1), .bool s.done, .int .i64 (s.fuse - 1), .bool s.off, .int .i64 s.quota, .map (some n), .map (some su), cv]) rfl) ?_
        refine wl_nil ?_
        refine at_then ?_
        refine wc_seq ?_
        refine wc_region ?_
        refine wl_1 trivial rfl (do_move rfl) ?_
        refine wl_1 trivial rfl (do_nilCheck rfl) ?_
        refine wl_1 trivial rfl (do_fieldAddr (k := 0) (k' := 0) fo_82_0 rfl (by rfl)) ?_
        refine wl_1 trivial rfl (do_load 0 rfl one_3 rfl rfl) ?_
        obtain ⟨c6, h_c6⟩ : ∃ c : Bool, cmpB .eql (s.count - 1) 0 = some c := ⟨_, rfl⟩
        refine wl_1 trivial rfl (do_cmp rfl rfl h_c6) ?_
        refine wl_nil ?_
        refine at_then ?_
        cases c6
        · have p_c6 := cmp_eql_f h_c6
          refine wc_false rfl ?_
          refine wc_skip ?_
          refine at_then ?_
          refine wc_seq ?_
          refine wc_region ?_
          refine wl_1 trivial rfl (do_assign rfl) ?_
          refine wl_1 trivial rfl (do_assign rfl) ?_
          refine wl_nil ?_
          refine at_then ?_
          refine wc_ret ?_
          exact at_ret2 (M := [_]) rfl rfl rfl (by rw [opS_f (f := (s.fuse - 1)) ‹_› (by first | rw [if_pos (by omega)] | rw [if_neg (by omega)])]; rw [if_pos (by omega), if_neg (by omega)]; exact ⟨rfl, rfl⟩) rfl
        · have p_c6 := cmp_eql_t h_c6
          refine wc_true rfl ?_
          refine wc_seq ?_
          refine wc_draw [[], [0], [0, 1], [0, 1, 2], [], [0, 1, 2, 3, 4]] [some (.pointer (some ⟨d, 0, none⟩)), some (.pointer (some ⟨d, 0, none⟩)), some (.pointer (some ⟨d, 1, none⟩)), some (.bool s.done), some (.int .i64 8), some (.bool s.done)] [] mixed (by kernel_rfl) (by decide) ⟨rfl, ⟨.inr ⟨_, [.old 0], rfl, rfl, .inl ⟨trivial, do_move rfl⟩⟩, .inr ⟨_, [.op 0], rfl, rfl, .inl ⟨trivial, do_nilCheck rfl⟩⟩, .inr ⟨_, [.op 1], rfl, rfl, .inl ⟨trivial, do_fieldAddr (k := 1) (k' := 1) fo_82_1 rfl (by rfl)⟩⟩, .inr ⟨_, [.op 2], rfl, rfl, .inl ⟨trivial, do_load 0 rfl one_4 rfl rfl⟩⟩, .inr ⟨_, [], rfl, rfl, .inl ⟨trivial, do_assign rfl⟩⟩, .inr ⟨_, [.op 3], rfl, rfl, .inl ⟨trivial, do_assign rfl⟩⟩, trivial⟩, [.op 4, .op 5], [(2, .int .i64 8), (3, .bool s.done)], rfl, rfl, ?_⟩
          refine at_then ?_
          refine wc_ret ?_
          refine at_then_ret ?_
          exact at_ret2 (M := [_]) rfl rfl rfl (by rw [opS_f (f := (s.fuse - 1)) ‹_› (by first | rw [if_pos (by omega)] | rw [if_neg (by omega)])]; rw [if_pos (by omega), if_pos (by omega)]; exact ⟨rfl, rfl⟩) rfl
  · have p_c1 := cmp_eql_t h_c1
    refine wc_true rfl ?_
    refine wc_seq ?_
    refine wc_region ?_
    refine wl_1 trivial rfl (do_move rfl) ?_
    refine wl_1 trivial rfl (do_nilCheck rfl) ?_
    refine wl_1 trivial rfl (do_fieldAddr (k := 3) (k' := 3) fo_82_3 rfl (by rfl)) ?_
    refine wl_1 trivial rfl (do_store (L1 := []) rfl rfl one_4 rfl rfl (cs' := #[.int .i64 s.count, .bool s.done, .int .i64 s.fuse, .bool true, .int .i64 s.quota, .map (some n), .map (some su), cv]) rfl) ?_
    refine wl_nil ?_
    refine at_then ?_
    refine wc_seq ?_
    refine wc_region ?_
    refine wl_1 trivial rfl (do_assign rfl) ?_
    refine wl_1 trivial rfl (do_assign rfl) ?_
    refine wl_nil ?_
    refine at_then ?_
    refine wc_ret ?_
    refine at_block_ret ?_
    refine at_then_ret ?_
    exact at_ret2 (M := [_]) rfl rfl rfl (by rw [opS_pw ‹_›]; exact ⟨rfl, rfl⟩) rfl
end Go.Proofs.Ytmefejfnddcelaa
