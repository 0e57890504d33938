/- Boxes, what is protected from them named. -/
import Derived.Test.YtfaafndaelmbfaaOPmp
namespace Go.Proofs.Ytfaafndaelmbfaa
open Go.RowKit

/-- a box that was made; it shares no block of M -/
def BxM (M : Nat → Prop) (p : Nat) (W : World) (xs : List Ox) : Prop := ∃ S, BxAt S p W xs ∧ (∀ b, S b → b < W.heap.size ∧ ¬ M b) ∧ ¬ M p
section
variable {M L : Nat → Prop} {p : Nat} {W W' w : World} {xs : List Ox}
theorem BxM.of {S : Nat → Prop} (h : BxAt S p W xs) (hM : ∀ b, b < W.heap.size → S b → ¬ M b) (hp : ¬ M p) : BxM M p W xs :=
  ⟨fun b => S b ∧ b < W.heap.size, h.mono (fun b hb s => ⟨s, hb⟩) (by obtain ⟨v, rs, _, h2⟩ := h; exact fun s => h2.np s.1), fun b s => ⟨s.2, hM b s.2 s.1⟩, hp⟩
theorem BxM.kept {F : Nat → Prop} (h : BxM M p W xs) (hk : Kept F W W') (hF : ∀ b, b < W.heap.size → F b → M b) : BxM M p W' xs := by
  obtain ⟨S, h1, h2, h3⟩ := h
  exact ⟨S, h1.kept hk (fun b hb s f => (h2 b s).2 (hF b hb f)) (fun f => h3 (hF p h1.lt f)), fun b s => ⟨Nat.lt_of_lt_of_le (h2 b s).1 hk.size, (h2 b s).2⟩, h3⟩
theorem BxM.below (h : BxM M p W xs) (hb : Below W.heap.size W W') : BxM M p W' xs := h.kept (F := fun _ => False) (kept_of_below hb) (fun _ _ x => x.elim)
/-- another protection -/
theorem BxM.turn (h : BxM M p W xs) (hM : ∀ b, b < W.heap.size → L b → M b) : BxM L p W xs := by
  obtain ⟨S, h1, h2, h3⟩ := h
  exact ⟨S, h1, fun b s => ⟨(h2 b s).1, fun l => (h2 b s).2 (hM b (h2 b s).1 l)⟩, fun l => h3 (hM p h1.lt l)⟩
theorem BxM.lt (h : BxM M p W xs) : p < W.heap.size := by
  obtain ⟨S, h1, h2, h3⟩ := h
  exact h1.lt
theorem len_m (h : BxM M p w xs) : Calls Try.prog 13 #[bv p] w (Is (.int .i64 xs.length) w) := by
  obtain ⟨S, h1, h2, h3⟩ := h
  exact len_any h1
theorem all_m (h : BxM M p w xs) (hf : FewO xs) (hn : xs.length ≤ 100000) : Calls Try.prog 11 #[bv p] w (AllTo xs w) := by
  obtain ⟨S, h1, h2, h3⟩ := h
  exact all_any h1 hf hn
theorem add_any {S T : Nat → Prop} {r : Mr} {at_ : Int} (h : BxAt S p w xs) (hm : Mo T w r) (hf : Few r.m) (hn : xs.length ≤ 6) (hS : ∀ k, w.heap.size ≤ k → S k) : Calls Try.prog 9 #[bv p, mv r, .int .i64 at_] w (AddTo S p xs r.m at_ w) := by
  cases hm' : minB at_ with
  | true => exact add_min h hm hf hn hS hm'
  | false => exact add_arg h hm'
def AddM (M : Nat → Prop) (p : Nat) (xs : List Ox) (m : Ms) (at_ : Int) (w : World) (e : Ending) (w' : World) : Prop := e = .returned (.int .i64 (addE xs m at_)) ∧ BxM M p w' (addL xs m at_) ∧ Kept (fun b => ¬ M b) w w'
theorem add_m {T : Nat → Prop} {r : Mr} {at_ : Int} (h : BxM M p w xs) (hM : ∀ b, M b → b < w.heap.size) (hm : Mo T w r) (hf : Few r.m) (hn : xs.length ≤ 6) : Calls Try.prog 9 #[bv p, mv r, .int .i64 at_] w (AddM M p xs r.m at_ w) := by
  obtain ⟨S, h1, h2, h3⟩ := h
  have hp := h1.lt
  have hnp : ¬ (S p ∨ w.heap.size ≤ p) := fun s => by
    rcases s with s | s
    · obtain ⟨v, rs, _, h4⟩ := h1
      exact h4.np s
    · omega
  refine (add_any (S := fun b => S b ∨ w.heap.size ≤ b) (h1.mono (fun b _ s => .inl s) hnp) hm hf hn (fun k hk => .inr hk)).mono ?_
  rintro e w' ⟨he, h4, h5⟩
  refine ⟨he, BxM.of h4 (fun b hb s => ?_) h3, h5.mono (fun b hb s => ?_)⟩
  · rcases s with s | s
    · exact (h2 b s).2
    · exact fun m => by have := hM b m; omega
  · rcases s with rfl | s | s
    · exact h3
    · exact (h2 b s).2
    · omega
def AckM (M : Nat → Prop) (p : Nat) (xs : List Ox) (r i : Int) (w : World) (e : Ending) (w' : World) : Prop := e = .returned (.bool (hasR xs r i)) ∧ BxM M p w' (ackL xs r i) ∧ Kept (fun b => ¬ M b) w w'
theorem ack_m {r i : Int} (h : BxM M p w xs) (hn : xs.length ≤ 100000) : Calls Try.prog 10 #[bv p, .int .u32 r, .int .i64 i] w (AckM M p xs r i w) := by
  obtain ⟨S, h1, h2, h3⟩ := h
  refine (ack_any h1 hn).mono ?_
  rintro e w' ⟨he, h4, h5⟩
  refine ⟨he, ⟨S, h4, fun b s => ⟨Nat.lt_of_lt_of_le (h2 b s).1 h5.size, (h2 b s).2⟩, h3⟩, h5.mono (fun b _ s => ?_)⟩
  rcases s with rfl | s
  · exact h3
  · exact (h2 b s).2
/-- what is sent at any minute, what is owed behind it -/
def sendO (xs : List Ox) (at_ : Int) : List Ms := if minB at_ then pumpO xs at_ else []
def sendL (xs : List Ox) (at_ : Int) : List Ox := if minB at_ then pumpL xs at_ else xs
def TrOk (xs : List Ox) : Prop := ∀ x ∈ xs, 0 ≤ x.tr ∧ x.tr ≤ 2199023255552
def PumpM (M : Nat → Prop) (p : Nat) (xs : List Ox) (at_ : Int) (w : World) (e : Ending) (w' : World) : Prop := ∃ v os, e = .returned v ∧ os.map Mr.m = sendO xs at_ ∧ Rwm w.heap.size w' v os ∧ BxM (fun b => M b ∨ (w.heap.size ≤ b ∧ b < w'.heap.size)) p w' (sendL xs at_) ∧ Kept (fun b => ¬ M b) w w'
theorem pump_m {at_ : Int} (h : BxM M p w xs) (hn : xs.length ≤ 1000) (hf : FewO xs) (ht : TrOk xs) : Calls Try.prog 12 #[bv p, .int .i64 at_] w (PumpM M p xs at_ w) := by
  obtain ⟨S, h1, h2, h3⟩ := h
  cases hm : minB at_ with
  | true =>
    refine (pump_any h1 hn hf ht hm).mono ?_
    rintro e w' ⟨v, os, he, ho, hr, hb, hk⟩
    refine ⟨v, os, he, by unfold sendO; rw [hm]; exact ho, hr, ⟨S, by unfold sendL; rw [hm]; exact hb, fun b s => ⟨Nat.lt_of_lt_of_le (h2 b s).1 hk.size, fun m => ?_⟩, fun m => ?_⟩, hk.mono (fun b _ s => (h2 b s).2)⟩
    · rcases m with m | m
      · exact (h2 b s).2 m
      · have := (h2 b s).1; omega
    · rcases m with m | m
      · exact h3 m
      · have := h1.lt; omega
  | false =>
    refine (pump_arg h1 hm).mono ?_
    rintro e w' ⟨he, hk⟩
    refine ⟨_, [], he, by unfold sendO; rw [hm]; rfl, Rwm.nil _ _, ⟨S, by unfold sendL; rw [hm]; exact h1.below hk, fun b s => ⟨Nat.lt_of_lt_of_le (h2 b s).1 hk.size, fun m => ?_⟩, fun m => ?_⟩, kept_of_below hk⟩
    · rcases m with m | m
      · exact (h2 b s).2 m
      · have := (h2 b s).1; omega
    · rcases m with m | m
      · exact h3 m
      · have := h1.lt; omega
def NewM (w : World) (e : Ending) (w' : World) : Prop := e = .returned (bv w.heap.size) ∧ BxM (fun b => b < w.heap.size ∨ w'.heap.size ≤ b) w.heap.size w' [] ∧ Below w.heap.size w w'
theorem new_m (w : World) : Calls Try.prog 8 #[] w (NewM w) := by
  refine (new_any w).mono ?_
  rintro e w' ⟨he, h2, h1⟩
  have := h1.lt
  refine ⟨he, BxM.of h1 (fun b hb s m => ?_) (fun m => ?_), h2⟩
  · have s' : w.heap.size < b := s
    rcases m with m | m <;> omega
  · rcases m with m | m <;> omega
end
/-- a message without lists -/
theorem Mo.none {S : Nat → Prop} {W : World} {m : Ms} (h1 : m.ks = []) (h2 : m.ss = []) : Mo S W ⟨.slice none 0 0, .slice none 0 0, m⟩ := by
  obtain ⟨a, b, c, k, s⟩ := m
  simp only at h1 h2
  subst h1 h2
  exact ⟨Sl.nil S W, Sl.nil S W⟩
/-- a message without lists, plain -/
abbrev bare (r : Int) (i : Int) : Ms := ⟨r, ⟨#[]⟩, i, [], []⟩
theorem bare_few (r i : Int) : Few (bare r i) := ⟨by simp, by simp⟩
/-- its value -/
theorem bare_mo {S : Nat → Prop} {W : World} {r i : Int} : Mo S W ⟨.slice none 0 0, .slice none 0 0, bare r i⟩ := Mo.none rfl rfl
end Go.Proofs.Ytfaafndaelmbfaa
