/- Printed by a program of this claim's: what each of these functions of the program does, as its theorem says. No condition but what stands in each theorem. -/
import Derived.Test.YtmefejfnddcelaaDm
import Derived.Test.YtmefejfnddcelaaSLIn
namespace Go.Proofs.Ytmefejfnddcelaa
open Go.ChangeShapes Go.WideShapes Go.ChangeAt
structure OpD where
  kind : Int
  name : ByteArray
  to : ByteArray
  b : Value
  bL : List UInt8
  n : Int
  yes : Bool
  keep : Value
  keepL : List Bool
def OpD.cells (o : OpD) : List Value := [.int .i64 o.kind, .string o.name, .string o.to, o.b, .int .i64 o.n, .bool o.yes, o.keep]
structure OpD.Ok (W : World) (o : OpD) : Prop where
  kind : -9223372036854775808 ≤ o.kind ∧ o.kind ≤ 9223372036854775807
  name : o.name.size ≤ maxLen
  to : o.to.size ≤ maxLen
  b : inSl W o.b o.bL.length (byv o.bL)
  n : -9223372036854775808 ≤ o.n ∧ o.n ≤ 9223372036854775807
  yes : True
  keep : inSl W o.keep o.keepL.length (o.keepL.map .bool)
theorem OpD.opened {H : Type} {enc : TypeId × Value → H} {P : Program} {W : World} {sp : Nat → Bool} {hd : Bool} {e : TypeId} {fs : Array Field} {n : Nat} {cs : List Value} {y : DataW H × List MemPlace} {t0 t1 t2 t3 t4 t5 t6 : TypeId} (he : P.underlying e = some (.struct fs)) (hc : P.cellsOf e = 7)
    (hf : fs.toList.map (fun f => (f.type, f.offset, P.cellsOf f.type)) = [(t0, 0, 1), (t1, 1, 1), (t2, 2, 1), (t3, 3, 1), (t4, 4, 1), (t5, 5, 1), (t6, 6, 1)]) (u0 : P.underlying t0 = some (.int .i64)) (u1 : P.underlying t1 = some .string) (u2 : P.underlying t2 = some .string) {e3 : TypeId} (u3 : P.underlying t3 = some (.slice e3)) (v3 : P.underlying e3 = some (.int .u8)) (w3 : P.cellsOf e3 = 1) (u4 : P.underlying t4 = some (.int .i64)) (u5 : P.underlying t5 = some .bool) {e6 : TypeId} (u6 : P.underlying t6 = some (.slice e6)) (v6 : P.underlying e6 = some .bool) (w6 : P.cellsOf e6 = 1)
    (h : DataW.trod enc P W 0 sp hd n e cs = some y) : ∃ o : OpD, cs = o.cells ∧ o.Ok W := by
  obtain ⟨hl, m, hx⟩ := open_fields [t0, t1, t2, t3, t4, t5, t6] he hc hf h
  match cs, hl with
  | [c0, c1, c2, c3, c4, c5, c6], _ =>
    obtain ⟨d0, z0, g0, h0⟩ := hx 0 t0 rfl
    cases g0
    obtain ⟨m0, q0, _, w0'⟩ := DataW.trod_int u0 h0
    have r0 : c0 = .int .i64 m0 := by simpa using q0
    obtain ⟨d1, z1, g1, h1⟩ := hx 1 t1 rfl
    cases g1
    obtain ⟨m1, q1, _, w1'⟩ := DataW.trod_string u1 h1
    have r1 : c1 = .string m1 := by simpa using q1
    obtain ⟨d2, z2, g2, h2⟩ := hx 2 t2 rfl
    cases g2
    obtain ⟨m2, q2, _, w2'⟩ := DataW.trod_string u2 h2
    have r2 : c2 = .string m2 := by simpa using q2
    obtain ⟨d3, z3, g3, h3⟩ := hx 3 t3 rfl
    cases g3
    obtain ⟨l3, b3⟩ := open_bytesI u3 v3 w3 h3
    obtain ⟨d4, z4, g4, h4⟩ := hx 4 t4 rfl
    cases g4
    obtain ⟨m4, q4, _, w4'⟩ := DataW.trod_int u4 h4
    have r4 : c4 = .int .i64 m4 := by simpa using q4
    obtain ⟨d5, z5, g5, h5⟩ := hx 5 t5 rfl
    cases g5
    obtain ⟨m5, q5, _⟩ := DataW.trod_bool u5 h5
    have r5 : c5 = .bool m5 := by simpa using q5
    obtain ⟨d6, z6, g6, h6⟩ := hx 6 t6 rfl
    cases g6
    obtain ⟨l6, b6⟩ := open_boolsI u6 v6 w6 h6
    subst r0 r1 r2 r4 r5
    exact ⟨⟨m0, m1, m2, c3, l3, m4, m5, c6, l6⟩, rfl, ⟨by simp only [Lit.wf, IntKind.has, Bool.and_eq_true, decide_eq_true_eq] at w0'; exact w0', w1', w2', b3, by simp only [Lit.wf, IntKind.has, Bool.and_eq_true, decide_eq_true_eq] at w4'; exact w4', trivial, b6⟩⟩
structure SwapD where
  b : Value
  bL : List UInt8
  fuse : Int
  fail : Int
  done : Bool
  keep : Value
  keepL : List Bool
def SwapD.cells (o : SwapD) : List Value := [o.b, .int .i64 o.fuse, .int .i64 o.fail, .bool o.done, o.keep]
structure SwapD.Ok (W : World) (o : SwapD) : Prop where
  b : inSl W o.b o.bL.length (byv o.bL)
  fuse : -9223372036854775808 ≤ o.fuse ∧ o.fuse ≤ 9223372036854775807
  fail : -9223372036854775808 ≤ o.fail ∧ o.fail ≤ 9223372036854775807
  done : True
  keep : inSl W o.keep o.keepL.length (o.keepL.map .bool)
theorem SwapD.opened {H : Type} {enc : TypeId × Value → H} {P : Program} {W : World} {sp : Nat → Bool} {hd : Bool} {e : TypeId} {fs : Array Field} {n : Nat} {cs : List Value} {y : DataW H × List MemPlace} {t0 t1 t2 t3 t4 : TypeId} (he : P.underlying e = some (.struct fs)) (hc : P.cellsOf e = 5)
    (hf : fs.toList.map (fun f => (f.type, f.offset, P.cellsOf f.type)) = [(t0, 0, 1), (t1, 1, 1), (t2, 2, 1), (t3, 3, 1), (t4, 4, 1)]) {e0 : TypeId} (u0 : P.underlying t0 = some (.slice e0)) (v0 : P.underlying e0 = some (.int .u8)) (w0 : P.cellsOf e0 = 1) (u1 : P.underlying t1 = some (.int .i64)) (u2 : P.underlying t2 = some (.int .i64)) (u3 : P.underlying t3 = some .bool) {e4 : TypeId} (u4 : P.underlying t4 = some (.slice e4)) (v4 : P.underlying e4 = some .bool) (w4 : P.cellsOf e4 = 1)
    (h : DataW.trod enc P W 0 sp hd n e cs = some y) : ∃ o : SwapD, cs = o.cells ∧ o.Ok W := by
  obtain ⟨hl, m, hx⟩ := open_fields [t0, t1, t2, t3, t4] he hc hf h
  match cs, hl with
  | [c0, c1, c2, c3, c4], _ =>
    obtain ⟨d0, z0, g0, h0⟩ := hx 0 t0 rfl
    cases g0
    obtain ⟨l0, b0⟩ := open_bytesI u0 v0 w0 h0
    obtain ⟨d1, z1, g1, h1⟩ := hx 1 t1 rfl
    cases g1
    obtain ⟨m1, q1, _, w1'⟩ := DataW.trod_int u1 h1
    have r1 : c1 = .int .i64 m1 := by simpa using q1
    obtain ⟨d2, z2, g2, h2⟩ := hx 2 t2 rfl
    cases g2
    obtain ⟨m2, q2, _, w2'⟩ := DataW.trod_int u2 h2
    have r2 : c2 = .int .i64 m2 := by simpa using q2
    obtain ⟨d3, z3, g3, h3⟩ := hx 3 t3 rfl
    cases g3
    obtain ⟨m3, q3, _⟩ := DataW.trod_bool u3 h3
    have r3 : c3 = .bool m3 := by simpa using q3
    obtain ⟨d4, z4, g4, h4⟩ := hx 4 t4 rfl
    cases g4
    obtain ⟨l4, b4⟩ := open_boolsI u4 v4 w4 h4
    subst r1 r2 r3
    exact ⟨⟨c0, l0, m1, m2, m3, c4, l4⟩, rfl, ⟨b0, by simp only [Lit.wf, IntKind.has, Bool.and_eq_true, decide_eq_true_eq] at w1'; exact w1', by simp only [Lit.wf, IntKind.has, Bool.and_eq_true, decide_eq_true_eq] at w2'; exact w2', trivial, b4⟩⟩
/-- An op on a disk. -/
def doD (kd : Int) (name to : ByteArray) (bs : List UInt8) (k : Int) (yes : Bool) (s : DS) : DS :=
  if kd = 0 then (createS name s).2 else if kd = 1 then (appendS name bs s).2 else if kd = 2 then (renameS name to s).2 else if kd = 3 then (removeS name s).2 else if kd = 4 then (syncS name s).2 else if kd = 5 then (syncdirS s).2 else if kd = 6 then failS k yes s else if kd = 7 then cutS k s else s
theorem DB.do {s : DS} {N : Nat} (h : DB s N) (kd : Int) (name to : ByteArray) (bs : List UInt8) {k : Int} (hk : k ≤ 9223372036854775807) (yes : Bool) : DB (doD kd name to bs k yes s) (N + 1) := by
  unfold doD
  split
  · exact h.create name
  split
  · exact h.append name bs
  split
  · exact h.rename name to
  split
  · exact h.remove name
  split
  · exact h.sync name
  split
  · exact h.syncdir
  split
  · exact (h.fail hk yes).more (Nat.le_succ N)
  split
  · exact (h.cut hk).more (Nat.le_succ N)
  · exact h.more (Nat.le_succ N)
theorem fo_67_0 : fieldOk Try.prog 67 0 0 = true := by kernel_rfl
set_option maxRecDepth 100000 in
set_option maxHeartbeats 8000000 in
theorem dolaw_tri (B : Ctx) (d : Nat) (s : DS) (kd k : Int) (name to : ByteArray) (ba ka : Option Addr) (bc kl kc : Nat) (bs : List UInt8) (yes : Bool) (N : Nat) (hs : DB s N) (hN : N ≤ 1000000) (hname : name.size ≤ 9223372036854775807) (hto : to.size ≤ 9223372036854775807) (hR : Rd B AnyP 1 (.slice ba bs.length bc) bs.length (byv bs)) (hl : bs.length ≤ 9223372036854775807) :
    Tri Try.prog B 32 #[.pointer (some ⟨d, 0, none⟩), .agg #[.int .i64 kd, .string name, .string to, .slice ba bs.length bc, .int .i64 k, .bool yes, .slice ka kl kc]] [diskA B d s, AnyP] (fun u M => u = .tuple #[] ∧ M = [diskA B d (doD kd name to bs k yes s), AnyP]) := by
  refine tri_body (n := 58) Try.func32 rfl rfl rfl ?_
  intro F
  show WC _ _ _ _ _ _ _ [(0, .pointer (some ⟨d, 0, none⟩)), (1, .agg #[.int .i64 kd, .string name, .string to, .slice ba bs.length bc, .int .i64 k, .bool yes, .slice ka kl kc])] [diskA B d s, AnyP, F]
  refine wc_seq ?_
  refine wc_region ?_
  refine wl_do trivial rfl (do_box rfl rfl) ?_
  rintro _ _ ⟨b1, rfl, rfl⟩
  refine wl_nil ?_
  refine at_then ?_
  refine wc_seq ?_
  refine wc_region ?_
  refine wl_1 trivial rfl (do_fieldAddr (k := 0) (k' := 0) fo_67_0 rfl (by rfl)) ?_
  refine wl_1 trivial rfl (do_load 0 rfl one_3 rfl rfl) ?_
  refine wl_nil ?_
  refine at_then ?_
  refine wc_block ?_
  refine wc_seq ?_
  refine wc_region ?_
  obtain ⟨c2, h_c2⟩ : ∃ c : Bool, cmpB .eql kd 0 = some c := ⟨_, rfl⟩
  refine wl_1 trivial rfl (do_cmp rfl rfl h_c2) ?_
  refine wl_1 trivial rfl (do_assign rfl) ?_
  refine wl_nil ?_
  refine at_then ?_
  cases c2
  · have p_c2 := cmp_eql_f h_c2
    refine wc_false rfl ?_
    refine wc_seq ?_
    refine wc_region ?_
    obtain ⟨c3, h_c3⟩ : ∃ c : Bool, cmpB .eql kd 1 = some c := ⟨_, rfl⟩
    refine wl_1 trivial rfl (do_cmp rfl rfl h_c3) ?_
    refine wl_1 trivial rfl (do_assign rfl) ?_
    refine wl_nil ?_
    refine at_then ?_
    cases c3
    · have p_c3 := cmp_eql_f h_c3
      refine wc_false rfl ?_
      refine wc_seq ?_
      refine wc_region ?_
      obtain ⟨c4, h_c4⟩ : ∃ c : Bool, cmpB .eql kd 2 = some c := ⟨_, rfl⟩
      refine wl_1 trivial rfl (do_cmp rfl rfl h_c4) ?_
      refine wl_1 trivial rfl (do_assign rfl) ?_
      refine wl_nil ?_
      refine at_then ?_
      cases c4
      · have p_c4 := cmp_eql_f h_c4
        refine wc_false rfl ?_
        refine wc_seq ?_
        refine wc_region ?_
        obtain ⟨c5, h_c5⟩ : ∃ c : Bool, cmpB .eql kd 3 = some c := ⟨_, rfl⟩
        refine wl_1 trivial rfl (do_cmp rfl rfl h_c5) ?_
        refine wl_1 trivial rfl (do_assign rfl) ?_
        refine wl_nil ?_
        refine at_then ?_
        cases c5
        · have p_c5 := cmp_eql_f h_c5
          refine wc_false rfl ?_
          refine wc_seq ?_
          refine wc_region ?_
          obtain ⟨c6, h_c6⟩ : ∃ c : Bool, cmpB .eql kd 4 = some c := ⟨_, rfl⟩
          refine wl_1 trivial rfl (do_cmp rfl rfl h_c6) ?_
          refine wl_1 trivial rfl (do_assign rfl) ?_
          refine wl_nil ?_
          refine at_then ?_
          cases c6
          · have p_c6 := cmp_eql_f h_c6
            refine wc_false rfl ?_
            refine wc_seq ?_
            refine wc_region ?_
            obtain ⟨c7, h_c7⟩ : ∃ c : Bool, cmpB .eql kd 5 = some c := ⟨_, rfl⟩
            refine wl_1 trivial rfl (do_cmp rfl rfl h_c7) ?_
            refine wl_1 trivial rfl (do_assign rfl) ?_
            refine wl_nil ?_
            refine at_then ?_
            cases c7
            · have p_c7 := cmp_eql_f h_c7
              refine wc_false rfl ?_
              refine wc_seq ?_
              refine wc_region ?_
              obtain ⟨c8, h_c8⟩ : ∃ c : Bool, cmpB .eql kd 6 = some c := ⟨_, rfl⟩
              refine wl_1 trivial rfl (do_cmp rfl rfl h_c8) ?_
              refine wl_1 trivial rfl (do_assign rfl) ?_
              refine wl_nil ?_
              refine at_then ?_
              cases c8
              · have p_c8 := cmp_eql_f h_c8
                refine wc_false rfl ?_
                refine wc_seq ?_
                refine wc_region ?_
                obtain ⟨c9, h_c9⟩ : ∃ c : Bool, cmpB .eql kd 7 = some c := ⟨_, rfl⟩
                refine wl_1 trivial rfl (do_cmp rfl rfl h_c9) ?_
                refine wl_1 trivial rfl (do_assign rfl) ?_
                refine wl_nil ?_
                refine at_then ?_
                cases c9
                · have p_c9 := cmp_eql_f h_c9
                  refine wc_false rfl ?_
                  refine wc_skip ?_
                  refine at_block ?_
                  refine at_pick (M := [_, _, _]) [1, 2, 3] ⟨rfl, rfl, rfl, trivial⟩ (by decide) ?_
                  exact at_end0 (M := [_, _]) rfl ⟨rfl, by unfold doD; (repeat (first | rw [if_pos (by omega)] | rw [if_neg (by omega)]))⟩ rfl
                · have p_c9 := cmp_eql_t h_c9
                  refine wc_true rfl ?_
                  refine wc_region ?_
                  refine wl_1 trivial rfl (do_move rfl) ?_
                  refine wl_1 trivial rfl (do_fieldAddr (k := 4) (k' := 4) fo_67_4 rfl (by rfl)) ?_
                  refine wl_1 trivial rfl (do_load 0 rfl one_3 rfl rfl) ?_
                  refine wl_do trivial rfl (do_call (d_cut B d s k) ⟨rfl, rfl, trivial⟩ enters_37 [1] [0, 2, 3] ⟨rfl, trivial⟩ ⟨rfl, rfl, rfl, trivial⟩ (R := [_, _, _]) (by decide)) ?_
                  rintro _ _ ⟨_, ⟨rfl, rfl⟩, rfl⟩
                  refine wl_nil ?_
                  refine at_block ?_
                  refine at_pick (M := [_, _, _]) [0, 2, 3] ⟨rfl, rfl, rfl, trivial⟩ (by decide) ?_
                  exact at_end0 (M := [_, _]) rfl ⟨rfl, by unfold doD; (repeat (first | rw [if_pos (by omega)] | rw [if_neg (by omega)]))⟩ rfl
              · have p_c8 := cmp_eql_t h_c8
                refine wc_true rfl ?_
                refine wc_region ?_
                refine wl_1 trivial rfl (do_move rfl) ?_
                refine wl_1 trivial rfl (do_fieldAddr (k := 4) (k' := 4) fo_67_4 rfl (by rfl)) ?_
                refine wl_1 trivial rfl (do_load 0 rfl one_3 rfl rfl) ?_
                refine wl_1 trivial rfl (do_fieldAddr (k := 5) (k' := 5) fo_67_5 rfl (by rfl)) ?_
                refine wl_1 trivial rfl (do_load 0 rfl one_4 rfl rfl) ?_
                refine wl_do trivial rfl (do_call (d_fail B d s k yes) ⟨rfl, rfl, rfl, trivial⟩ enters_38 [1] [0, 2, 3] ⟨rfl, trivial⟩ ⟨rfl, rfl, rfl, trivial⟩ (R := [_, _, _]) (by decide)) ?_
                rintro _ _ ⟨_, ⟨rfl, rfl⟩, rfl⟩
                refine wl_nil ?_
                refine at_block ?_
                refine at_pick (M := [_, _, _]) [0, 2, 3] ⟨rfl, rfl, rfl, trivial⟩ (by decide) ?_
                exact at_end0 (M := [_, _]) rfl ⟨rfl, by unfold doD; (repeat (first | rw [if_pos (by omega)] | rw [if_neg (by omega)]))⟩ rfl
            · have p_c7 := cmp_eql_t h_c7
              refine wc_true rfl ?_
              refine wc_region ?_
              refine wl_1 trivial rfl (do_move rfl) ?_
              refine wl_do trivial rfl (do_call (d_syncdir B d s N (hs) (by omega)) ⟨rfl, trivial⟩ enters_45 [1] [0, 2, 3] ⟨rfl, trivial⟩ ⟨rfl, rfl, rfl, trivial⟩ (R := [_, _, _]) (by decide)) ?_
              rintro _ _ ⟨_, ⟨rfl, rfl⟩, rfl⟩
              refine wl_nil ?_
              refine at_block ?_
              refine at_pick (M := [_, _, _]) [0, 2, 3] ⟨rfl, rfl, rfl, trivial⟩ (by decide) ?_
              exact at_end0 (M := [_, _]) rfl ⟨rfl, by unfold doD; (repeat (first | rw [if_pos (by omega)] | rw [if_neg (by omega)]))⟩ rfl
          · have p_c6 := cmp_eql_t h_c6
            refine wc_true rfl ?_
            refine wc_region ?_
            refine wl_1 trivial rfl (do_move rfl) ?_
            refine wl_1 trivial rfl (do_fieldAddr (k := 1) (k' := 1) fo_67_1 rfl (by rfl)) ?_
            refine wl_1 trivial rfl (do_load 0 rfl one_9 rfl rfl) ?_
            refine wl_do trivial rfl (do_call (d_sync B d s name N (hs) (by omega)) ⟨rfl, rfl, trivial⟩ enters_44 [1] [0, 2, 3] ⟨rfl, trivial⟩ ⟨rfl, rfl, rfl, trivial⟩ (R := [_, _, _]) (by decide)) ?_
            rintro _ _ ⟨_, ⟨rfl, rfl⟩, rfl⟩
            refine wl_nil ?_
            refine at_block ?_
            refine at_pick (M := [_, _, _]) [0, 2, 3] ⟨rfl, rfl, rfl, trivial⟩ (by decide) ?_
            exact at_end0 (M := [_, _]) rfl ⟨rfl, by unfold doD; (repeat (first | rw [if_pos (by omega)] | rw [if_neg (by omega)]))⟩ rfl
        · have p_c5 := cmp_eql_t h_c5
          refine wc_true rfl ?_
          refine wc_region ?_
          refine wl_1 trivial rfl (do_move rfl) ?_
          refine wl_1 trivial rfl (do_fieldAddr (k := 1) (k' := 1) fo_67_1 rfl (by rfl)) ?_
          refine wl_1 trivial rfl (do_load 0 rfl one_9 rfl rfl) ?_
          refine wl_do trivial rfl (do_call (d_remove B d s name N (hs) (by omega)) ⟨rfl, rfl, trivial⟩ enters_43 [1] [0, 2, 3] ⟨rfl, trivial⟩ ⟨rfl, rfl, rfl, trivial⟩ (R := [_, _, _]) (by decide)) ?_
          rintro _ _ ⟨_, ⟨rfl, rfl⟩, rfl⟩
          refine wl_nil ?_
          refine at_block ?_
          refine at_pick (M := [_, _, _]) [0, 2, 3] ⟨rfl, rfl, rfl, trivial⟩ (by decide) ?_
          exact at_end0 (M := [_, _]) rfl ⟨rfl, by unfold doD; (repeat (first | rw [if_pos (by omega)] | rw [if_neg (by omega)]))⟩ rfl
      · have p_c4 := cmp_eql_t h_c4
        refine wc_true rfl ?_
        refine wc_region ?_
        refine wl_1 trivial rfl (do_move rfl) ?_
        refine wl_1 trivial rfl (do_fieldAddr (k := 1) (k' := 1) fo_67_1 rfl (by rfl)) ?_
        refine wl_1 trivial rfl (do_load 0 rfl one_9 rfl rfl) ?_
        refine wl_1 trivial rfl (do_fieldAddr (k := 2) (k' := 2) fo_67_2 rfl (by rfl)) ?_
        refine wl_1 trivial rfl (do_load 0 rfl one_9 rfl rfl) ?_
        refine wl_do trivial rfl (do_call (d_rename B d s name to N (hs) (by omega) hto) ⟨rfl, rfl, rfl, trivial⟩ enters_42 [1] [0, 2, 3] ⟨rfl, trivial⟩ ⟨rfl, rfl, rfl, trivial⟩ (R := [_, _, _]) (by decide)) ?_
        rintro _ _ ⟨_, ⟨rfl, rfl⟩, rfl⟩
        refine wl_nil ?_
        refine at_block ?_
        refine at_pick (M := [_, _, _]) [0, 2, 3] ⟨rfl, rfl, rfl, trivial⟩ (by decide) ?_
        exact at_end0 (M := [_, _]) rfl ⟨rfl, by unfold doD; (repeat (first | rw [if_pos (by omega)] | rw [if_neg (by omega)]))⟩ rfl
    · have p_c3 := cmp_eql_t h_c3
      refine wc_true rfl ?_
      refine wc_region ?_
      refine wl_1 trivial rfl (do_move rfl) ?_
      refine wl_1 trivial rfl (do_fieldAddr (k := 1) (k' := 1) fo_67_1 rfl (by rfl)) ?_
      refine wl_1 trivial rfl (do_load 0 rfl one_9 rfl rfl) ?_
      refine wl_1 trivial rfl (do_fieldAddr (k := 3) (k' := 3) fo_67_3 rfl (by rfl)) ?_
      refine wl_1 trivial rfl (do_load 0 rfl one_32 rfl rfl) ?_
      refine wl_do trivial rfl (do_call (d_append B d s name ba bc bs AnyP N (hs) (by omega) hR hl) ⟨rfl, rfl, rfl, trivial⟩ enters_41 [1, 2] [0, 3] ⟨rfl, rfl, trivial⟩ ⟨rfl, rfl, trivial⟩ (R := [_, _]) (by decide)) ?_
      rintro _ _ ⟨_, ⟨rfl, rfl⟩, rfl⟩
      refine wl_nil ?_
      refine at_block ?_
      refine at_pick (M := [_, _, _]) [0, 1, 3] ⟨rfl, rfl, rfl, trivial⟩ (by decide) ?_
      exact at_end0 (M := [_, _]) rfl ⟨rfl, by unfold doD; (repeat (first | rw [if_pos (by omega)] | rw [if_neg (by omega)]))⟩ rfl
  · have p_c2 := cmp_eql_t h_c2
    refine wc_true rfl ?_
    refine wc_region ?_
    refine wl_1 trivial rfl (do_move rfl) ?_
    refine wl_1 trivial rfl (do_fieldAddr (k := 1) (k' := 1) fo_67_1 rfl (by rfl)) ?_
    refine wl_1 trivial rfl (do_load 0 rfl one_9 rfl rfl) ?_
    refine wl_do trivial rfl (do_call (d_create B d s name N (hs) (by omega) hname) ⟨rfl, rfl, trivial⟩ enters_40 [1] [0, 2, 3] ⟨rfl, trivial⟩ ⟨rfl, rfl, rfl, trivial⟩ (R := [_, _, _]) (by decide)) ?_
    rintro _ _ ⟨_, ⟨rfl, rfl⟩, rfl⟩
    refine wl_nil ?_
    refine at_block ?_
    refine at_pick (M := [_, _, _]) [0, 2, 3] ⟨rfl, rfl, rfl, trivial⟩ (by decide) ?_
    exact at_end0 (M := [_, _]) rfl ⟨rfl, by unfold doD; (repeat (first | rw [if_pos (by omega)] | rw [if_neg (by omega)]))⟩ rfl
end Go.Proofs.Ytmefejfnddcelaa
