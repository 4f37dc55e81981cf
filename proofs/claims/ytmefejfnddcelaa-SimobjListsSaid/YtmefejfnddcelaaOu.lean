/- Printed by gen/simobj.py for this claim: what each of these functions of the program does, as its theorem says. No condition but what stands in each theorem. -/
import Derived.Test.YtmefejfnddcelaaOt
namespace Go.Proofs.Ytmefejfnddcelaa
def baOf (bs : List UInt8) : ByteArray := ⟨bs.toArray⟩
/-- What is wanted agrees with what is there. -/
structure AO (s : SS) (wt : List (ByteArray × ByteArray)) : Prop where
  nd : (akeys s.objs).Nodup
  nw : (akeys wt).Nodup
  ag : ∀ k, aget wt k = (aget s.objs k).map baOf
theorem AO.same {s s' : SS} {wt : List (ByteArray × ByteArray)} (h : AO s wt) (e : s'.objs = s.objs) : AO s' wt := ⟨by rw [e]; exact h.nd, h.nw, by rw [e]; exact h.ag⟩
theorem putO_objs (key : ByteArray) (bs : List UInt8) (s : SS) : (putO key bs s).objs = aput s.objs key bs := by unfold putO; split <;> rfl
theorem delO_nodup {key : ByteArray} {s : SS} (h : (akeys s.objs).Nodup) : (akeys (delO key s).objs).Nodup := by
  unfold delO
  split
  · exact nodup_adel h _
  · exact h
theorem AO.put {s : SS} {wt : List (ByteArray × ByteArray)} (h : AO s wt) (key : ByteArray) (bs : List UInt8) : AO (putO key bs s) (aput wt key (baOf bs)) :=
  ⟨by rw [putO_objs]; exact nodup_aput h.nd _ _, nodup_aput h.nw _ _, fun k => by
    rw [putO_get, aget_aput]
    by_cases e : k = key
    · rw [if_pos e, if_pos e]; rfl
    · rw [if_neg e, if_neg e]; exact h.ag k⟩
theorem AO.del {s : SS} {wt : List (ByteArray × ByteArray)} (h : AO s wt) (key : ByteArray) : AO (delO key s) (adel wt key) :=
  ⟨delO_nodup h.nd, nodup_adel h.nw _, fun k => by
    rw [delO_get key h.nd, aget_adel h.nw]
    by_cases e : k = key
    · rw [if_pos e, if_pos e]; rfl
    · rw [if_neg e, if_neg e]; exact h.ag k⟩
theorem AO.len {s : SS} {wt : List (ByteArray × ByteArray)} (h : AO s wt) : s.objs.length = wt.length := by
  have hp : (akeys s.objs).Perm (akeys wt) := (List.perm_ext_iff_of_nodup h.nd h.nw).2 fun k => by
    have h1 := aget_none s.objs k
    have h2 := aget_none wt k
    have h3 := h.ag k
    constructor
    · intro hk
      apply Classical.byContradiction
      intro hn
      rw [h2.2 hn] at h3
      cases hg : aget s.objs k with
      | none => exact h1.1 hg hk
      | some x => rw [hg] at h3; cases h3
    · intro hk
      apply Classical.byContradiction
      intro hn
      rw [h1.2 hn] at h3
      exact h2.1 h3 hk
  have := hp.length_eq
  simpa [akeys] using this
end Go.Proofs.Ytmefejfnddcelaa
