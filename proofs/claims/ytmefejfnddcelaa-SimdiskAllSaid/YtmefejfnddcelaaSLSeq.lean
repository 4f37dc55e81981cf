/- Sequences: functions that hand texts to a yield. -/
import Derived.Test.YtmefejfnddcelaaSLExtra
import Derived.Test.YtmefejfnddcelaaSLYield
namespace Go.Proofs.Ytmefejfnddcelaa
section
variable {P : Program} {B : Ctx} {L : List Assn} {w : World} {f : FuncId} {fi ca : Array Value}

theorem sub_len {α : Type} [DecidableEq α] : ∀ {l m : List α}, l.Nodup → (∀ x ∈ l, x ∈ m) → l.length ≤ m.length
  | [], m, _, _ => Nat.zero_le _
  | x :: l, m, hn, hs => by
    have hx := hs x (by simp)
    have hn' := List.nodup_cons.1 hn
    have := sub_len (l := l) (m := m.erase x) hn'.2 fun y hy => (List.mem_erase_of_ne (fun (e : y = x) => hn'.1 (by rw [← e]; exact hy))).2 (hs y (by simp [hy]))
    rw [List.length_erase_of_mem hx] at this
    have hp : 0 < m.length := List.length_pos_of_mem hx
    simp only [List.length_cons]
    omega

theorem nodup_snoc {α : Type} {l : List α} {x : α} (h : l.Nodup) (hx : x ∉ l) : (l ++ [x]).Nodup :=
  List.nodup_append.2 ⟨h, by simp, fun a ha b hb => by simp at hb; subst hb; exact fun e => hx (e ▸ ha)⟩

theorem star_get {As : List Assn} {R : List Assn} (h : Sat B (Star As :: R) w) : Sat B (As ++ R) w := by
  obtain ⟨_, _, h'⟩ := Sat.split (α := Unit) (φ := fun _ => True) (As := fun _ => As) h fun h hs => ⟨(), trivial, hs⟩
  exact h'
theorem star_put {As : List Assn} {R : List Assn} (h : Sat B (As ++ R) w) : Sat B (Star As :: R) w := Sat.join h fun _ hs => hs

/-- A part with a thing in it that is only known to be. -/
def Ex {α : Type} (φ : α → Prop) (As : α → List Assn) : Assn := fun h => ∃ x, φ x ∧ Star (As x) h
theorem ex_get {α : Type} {φ : α → Prop} {As : α → List Assn} {R : List Assn} (h : Sat B (Ex φ As :: R) w) : ∃ x, φ x ∧ Sat B (As x ++ R) w := Sat.split h fun _ hs => hs
theorem ex_put {α : Type} {φ : α → Prop} {As : α → List Assn} {R : List Assn} (x : α) (hx : φ x) (h : Sat B (As x ++ R) w) : Sat B (Ex φ As :: R) w := Sat.join h fun _ hs => ⟨x, hx, hs⟩

/-- Texts, by turns, to a yield that always goes on. -/
def SeqL (P : Program) (B : Ctx) (f : FuncId) (fi ca : Array Value) (As : List Assn) (ok : List ByteArray → Prop) (N : Nat) : Prop :=
  ∀ (l : Nat) (J : List ByteArray → Assn), (∀ d k, d.length < N → YTri P B l #[.string k] [J d] (fun v M => v = .bool true ∧ M = [J (d ++ [k])])) →
    Tri P B f (fi ++ #[.func (.yield l) #[] #[]] ++ ca) (As ++ [J []]) (fun u M => ∃ d, ok d ∧ u = .tuple #[] ∧ M = As ++ [J d])

theorem seq_star {As : List Assn} {ok : List ByteArray → Prop} {N : Nat} (h : SeqL P B f fi ca As ok N) : SeqL P B f fi ca [Star As] ok N := by
  intro l J hJ F w hS
  have h1 : Sat B ((As ++ [J []]) ++ [F]) w := by rw [List.append_assoc]; exact star_get hS
  refine Calls.mono (h l J hJ F w h1) ?_
  rintro e w' ⟨v, M, rfl, ⟨d, hd, hu, rfl⟩, hS'⟩
  refine ⟨v, _, rfl, ⟨d, hd, hu, rfl⟩, ?_⟩
  rw [List.append_assoc] at hS'
  exact star_put hS'

theorem ytri_star {l : Nat} {args : Array Value} {As : List Assn} {post : Value → List Assn → Prop} (h : YTri P B l args As post) : YTri P B l args [Star As] post :=
  fun F w hS => h F w (star_get hS)
theorem ytri_ex {α : Type} {l : Nat} {args : Array Value} {φ : α → Prop} {As : α → List Assn} {R : List Assn} {post : Value → List Assn → Prop} (h : ∀ x, φ x → YTri P B l args (As x ++ R) post) : YTri P B l args (Ex φ As :: R) post :=
  fun F w hS => by
    obtain ⟨x, hx, hS'⟩ := ex_get (R := R ++ [F]) hS
    rw [← List.append_assoc] at hS'
    exact h x hx F w hS'
theorem ytri_post {l : Nat} {args : Array Value} {pre : List Assn} {post post' : Value → List Assn → Prop} (h : YTri P B l args pre post)
    (hp : ∀ v M, post v M → ∃ M', post' v M' ∧ ∀ F w, Sat B (M ++ [F]) w → Sat B (M' ++ [F]) w) : YTri P B l args pre post' := fun F w hS => by
  obtain ⟨fn, tmps, assign, body, h1, h2⟩ := h F w hS
  refine ⟨fn, tmps, assign, body, h1, RoundIn.mono h2 ?_⟩
  rintro e w' ⟨v, M, rfl, hpost, hS'⟩
  obtain ⟨M', h3, h4⟩ := hp v M hpost
  exact ⟨v, M', rfl, h3, h4 F w' hS'⟩

theorem ytri_mem {l : Nat} {args : Array Value} {pre pre' : List Assn} {post : Value → List Assn → Prop} (h : YTri P B l args pre post) (k : ∀ F w, Sat B (pre' ++ [F]) w → Sat B (pre ++ [F]) w) : YTri P B l args pre' post :=
  fun F w hS => h F w (k F w hS)
variable {n : Nat} {ds : List Deferred} {Q : Exit → Act → World → Prop} {E : List (Nat × Value)} {L' : List Assn} {x : Exit}
theorem at_open {α : Type} {φ : α → Prop} {Lf : α → List Assn} (hL : ∀ w, Sat B L w → ∃ x, φ x ∧ Sat B (Lf x) w) (h : ∀ y, φ y → AtX B n ds Q x E (Lf y)) : AtX B n ds Q x E L := fun a w hE hS => by
  obtain ⟨y, hy, hS'⟩ := hL w hS
  exact h y hy a w hE hS'
end
end Go.Proofs.Ytmefejfnddcelaa
