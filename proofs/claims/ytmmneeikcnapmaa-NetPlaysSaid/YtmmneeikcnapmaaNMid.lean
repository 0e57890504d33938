/- Nets, what is protected from them named. -/
import Derived.Test.YtmmneeikcnapmaaNTk2
namespace Go.Proofs.Ytmmneeikcnapmaa
open Go.RowKit

/-- a net that was made; it shares no block of M -/
def NetM (M : Nat → Prop) (p : Nat) (W : World) (xs : List Ms) : Prop := ∃ S, NetAt S p W xs ∧ (∀ b, S b → b < W.heap.size ∧ ¬ M b) ∧ ¬ M p
section
variable {M L : Nat → Prop} {p : Nat} {W W' w : World} {xs : List Ms}
theorem NetM.of {S : Nat → Prop} (h : NetAt S p W xs) (hM : ∀ b, b < W.heap.size → S b → ¬ M b) (hp : ¬ M p) : NetM M p W xs :=
  ⟨fun b => S b ∧ b < W.heap.size, h.mono (fun b hb s => ⟨s, hb⟩) (by obtain ⟨v, rs, _, h2⟩ := h; exact fun s => h2.np s.1), fun b s => ⟨s.2, hM b s.2 s.1⟩, hp⟩
theorem NetM.kept {F : Nat → Prop} (h : NetM M p W xs) (hk : Kept F W W') (hF : ∀ b, b < W.heap.size → F b → M b) : NetM M p W' xs := by
  obtain ⟨S, h1, h2, h3⟩ := h
  exact ⟨S, h1.kept hk (fun b hb s f => (h2 b s).2 (hF b hb f)) (fun f => h3 (hF p h1.lt f)), fun b s => ⟨Nat.lt_of_lt_of_le (h2 b s).1 hk.size, (h2 b s).2⟩, h3⟩
theorem NetM.below (h : NetM M p W xs) (hb : Below W.heap.size W W') : NetM M p W' xs := h.kept (F := fun _ => False) (kept_of_below hb) (fun _ _ x => x.elim)
/-- another protection -/
theorem NetM.turn (h : NetM M p W xs) (hM : ∀ b, b < W.heap.size → L b → M b) : NetM L p W xs := by
  obtain ⟨S, h1, h2, h3⟩ := h
  exact ⟨S, h1, fun b s => ⟨(h2 b s).1, fun l => (h2 b s).2 (hM b (h2 b s).1 l)⟩, fun l => h3 (hM p h1.lt l)⟩
theorem NetM.lt (h : NetM M p W xs) : p < W.heap.size := by
  obtain ⟨S, h1, h2, h3⟩ := h
  exact h1.lt
theorem NetM.few (h : NetM M p W xs) : ∀ x ∈ xs, Few x := by
  obtain ⟨S, h1, h2, h3⟩ := h
  exact h1.few
theorem len_m (h : NetM M p w xs) : Calls Try.prog 12 #[nv p] w (Is (.int .i64 xs.length) w) := by
  obtain ⟨S, h1, h2, h3⟩ := h
  exact len_any h1
theorem all_m (h : NetM M p w xs) (hn : xs.length ≤ 100000) : Calls Try.prog 21 #[nv p] w (AllTo xs w) := by
  obtain ⟨S, h1, h2, h3⟩ := h
  exact all_any h1 hn
def SendM (M : Nat → Prop) (p : Nat) (xs : List Ms) (m : Ms) (w : World) (e : Ending) (w' : World) : Prop := e = .returned (.int .i64 (sendE xs)) ∧ NetM M p w' (sendL xs m) ∧ Kept (fun b => ¬ M b) w w'
theorem send_m {T : Nat → Prop} {r : Mr} (h : NetM M p w xs) (hM : ∀ b, M b → b < w.heap.size) (hm : Mo T w r) (hf : Few r.m) : Calls Try.prog 14 #[nv p, mv r] w (SendM M p xs r.m w) := by
  obtain ⟨S, h1, h2, h3⟩ := h
  have hp := h1.lt
  have hnp : ¬ (S p ∨ w.heap.size ≤ p) := fun s => by
    rcases s with s | s
    · obtain ⟨v, rs, _, h4⟩ := h1
      exact h4.np s
    · omega
  refine (send_any (S := fun b => S b ∨ w.heap.size ≤ b) (h1.mono (fun b _ s => .inl s) hnp) hm hf (fun k hk => .inr hk)).mono ?_
  rintro e w' ⟨he, h4, h5⟩
  refine ⟨he, NetM.of h4 (fun b hb s => ?_) h3, h5.mono (fun b hb s => ?_)⟩
  · rcases s with s | s
    · exact (h2 b s).2
    · exact fun m => by have := hM b m; omega
  · rcases s with rfl | s | s
    · exact h3
    · exact (h2 b s).2
    · omega
def TakeM (M : Nat → Prop) (p : Nat) (xs : List Ms) (i : Int) (w : World) (e : Ending) (w' : World) : Prop :=
  ∃ r, e = .returned (.tuple #[mv r, .bool true]) ∧ xs[pick i xs.length]? = some r.m ∧ Mo (fun b => b < w.heap.size ∧ ¬ M b) w' r ∧ NetM M p w' (xs.eraseIdx (pick i xs.length)) ∧ Kept (fun b => ¬ M b) w w'
theorem take_m {i : Int} (h : NetM M p w xs) (hp : 0 < xs.length) (hn : xs.length ≤ 1000) : Calls Try.prog 15 #[nv p, .int .i64 i] w (TakeM M p xs i w) := by
  obtain ⟨S, h1, h2, h3⟩ := h
  refine (take_any h1 hp hn).mono ?_
  rintro e w' ⟨r, he, hx, hm, h4, h5⟩
  refine ⟨r, he, hx, hm.mono (fun b _ s => h2 b s), ⟨S, h4, fun b s => ⟨Nat.lt_of_lt_of_le (h2 b s).1 h5.size, (h2 b s).2⟩, h3⟩, h5.mono (fun b _ s => ?_)⟩
  rcases s with rfl | s
  · exact h3
  · exact (h2 b s).2
theorem take_m0 {i : Int} (h : NetM M p w []) : Calls Try.prog 15 #[nv p, .int .i64 i] w (Tells (.tuple #[mv zeroM, .bool false]) w) := by
  obtain ⟨S, h1, h2, h3⟩ := h
  exact take_none h1
def NewM (l : List Ms) (w : World) (e : Ending) (w' : World) : Prop := e = .returned (nv w.heap.size) ∧ NetM (fun b => b < w.heap.size ∨ w'.heap.size ≤ b) w.heap.size w' l ∧ Below w.heap.size w w'
theorem new_m {T : Nat → Prop} {v : Value} {l : List Ms} (h : Msl T w v l) (hf : ∀ x ∈ l, Few x) (hn : l.length ≤ 16) : Calls Try.prog 11 #[v] w (NewM l w) := by
  refine (new_any h hf hn).mono ?_
  rintro e w' ⟨he, h1, h2⟩
  have := h1.lt
  refine ⟨he, NetM.of h1 (fun b hb s m => ?_) (fun m => ?_), h2⟩
  · have s' : w.heap.size < b := s
    rcases m with m | m <;> omega
  · rcases m with m | m <;> omega
end
/-- messages that lie in a block of their own -/
theorem Mo.none {S : Nat → Prop} {W : World} {m : Ms} (h1 : m.ks = []) (h2 : m.ss = []) : Mo S W ⟨.slice none 0 0, .slice none 0 0, m⟩ := by
  obtain ⟨a, b, c, k, s⟩ := m
  simp only at h1 h2
  subst h1 h2
  exact ⟨Sl.nil S W, Sl.nil S W⟩
end Go.Proofs.Ytmmneeikcnapmaa
