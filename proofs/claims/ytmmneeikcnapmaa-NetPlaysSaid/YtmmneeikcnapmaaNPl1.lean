/- NetPlays: the net and the reference's net side by side. -/
import Derived.Test.YtmmneeikcnapmaaNRTk
namespace Go.Proofs.Ytmmneeikcnapmaa
open Go.RowKit

/-- a net (at p) and the reference's (at q), made behind B; they share no block, and none of L -/
structure PI (B p q : Nat) (L : Nat → Prop) (W : World) (xs ys : List Ms) : Prop where
  ex : ∃ S T, NetAt S p W xs ∧ RfAt T q W ys ∧ (∀ b, S b → b < W.heap.size ∧ B ≤ b ∧ ¬ L b ∧ b ≠ q ∧ ¬ T b) ∧ (∀ b, T b → b < W.heap.size ∧ B ≤ b ∧ ¬ L b ∧ b ≠ p)
  lp : B ≤ p ∧ ¬ L p
  lq : B ≤ q ∧ ¬ L q
  pq : p ≠ q
section
variable {B p q : Nat} {L L' F : Nat → Prop} {W W' w : World} {xs ys : List Ms}
theorem RfAt.lt' {S : Nat → Prop} (h : RfAt S p W xs) : p < W.heap.size := h.lt
theorem PI.kept (h : PI B p q L W xs ys) (hk : Kept F W W') (hF : ∀ b, F b → b < B ∨ L b) : PI B p q L W' xs ys := by
  obtain ⟨S, T, h1, h2, h3, h4⟩ := h.ex
  have hno : ∀ b, B ≤ b ∧ ¬ L b → ¬ F b := fun b hb f => by
    rcases hF b f with h | h
    · omega
    · exact hb.2 h
  refine ⟨⟨S, T, h1.kept hk (fun b _ s => hno b ⟨(h3 b s).2.1, (h3 b s).2.2.1⟩) (hno p h.lp), h2.kept hk (fun b _ s => hno b ⟨(h4 b s).2.1, (h4 b s).2.2.1⟩) (hno q h.lq), fun b s => ⟨Nat.lt_of_lt_of_le (h3 b s).1 hk.size, (h3 b s).2⟩, fun b s => ⟨Nat.lt_of_lt_of_le (h4 b s).1 hk.size, (h4 b s).2⟩⟩, h.lp, h.lq, h.pq⟩
theorem PI.below (h : PI B p q L W xs ys) (hb : Below W.heap.size W W') : PI B p q L W' xs ys := h.kept (F := fun _ => False) (kept_of_below hb) (fun _ x => x.elim)
theorem PI.lt (h : PI B p q L W xs ys) : p < W.heap.size ∧ q < W.heap.size := by
  obtain ⟨S, T, h1, h2, h3, h4⟩ := h.ex
  exact ⟨h1.lt, h2.lt⟩
/-- what is new is nobody's -/
theorem PI.grow (h : PI B p q L W xs ys) (hb : Below W.heap.size W W') : PI B p q (fun b => L b ∨ W.heap.size ≤ b) W' xs ys := by
  obtain ⟨S, T, h1, h2, h3, h4⟩ := h.ex
  have hl := h.lt
  refine ⟨⟨S, T, h1.below hb, h2.below hb, fun b s => ?_, fun b s => ?_⟩, ⟨h.lp.1, fun x => ?_⟩, ⟨h.lq.1, fun x => ?_⟩, h.pq⟩
  · obtain ⟨a1, a2, a3, a4, a5⟩ := h3 b s
    exact ⟨Nat.lt_of_lt_of_le a1 hb.size, a2, fun x => by
      rcases x with x | x
      · exact a3 x
      · omega, a4, a5⟩
  · obtain ⟨a1, a2, a3, a4⟩ := h4 b s
    exact ⟨Nat.lt_of_lt_of_le a1 hb.size, a2, fun x => by
      rcases x with x | x
      · exact a3 x
      · omega, a4⟩
  · rcases x with x | x
    · exact h.lp.2 x
    · omega
  · rcases x with x | x
    · exact h.lq.2 x
    · omega
theorem PI.less (h : PI B p q L W xs ys) (hL : ∀ b, b < W.heap.size → L' b → L b) : PI B p q L' W xs ys := by
  obtain ⟨S, T, h1, h2, h3, h4⟩ := h.ex
  have hl := h.lt
  exact ⟨⟨S, T, h1, h2, fun b s => ⟨(h3 b s).1, (h3 b s).2.1, fun x => (h3 b s).2.2.1 (hL b (h3 b s).1 x), (h3 b s).2.2.2⟩, fun b s => ⟨(h4 b s).1, (h4 b s).2.1, fun x => (h4 b s).2.2.1 (hL b (h4 b s).1 x), (h4 b s).2.2.2⟩⟩, ⟨h.lp.1, fun x => h.lp.2 (hL p hl.1 x)⟩, ⟨h.lq.1, fun x => h.lq.2 (hL q hl.2 x)⟩, h.pq⟩
theorem PI.few (h : PI B p q L W xs ys) : (∀ x ∈ xs, Few x) ∧ ∀ x ∈ ys, Few x := by
  obtain ⟨S, T, h1, h2, h3, h4⟩ := h.ex
  exact ⟨h1.few, h2.few⟩
/-- the net takes one more -/
def PSend (B p q : Nat) (L : Nat → Prop) (xs ys : List Ms) (m : Ms) (w : World) (e : Ending) (w' : World) : Prop := e = .returned (.int .i64 (sendE xs)) ∧ PI B p q L w' (sendL xs m) ys ∧ Kept (fun b => B ≤ b ∧ ¬ L b) w w'
theorem psend {M : Nat → Prop} {r : Mr} (h : PI B p q L w xs ys) (hL : ∀ b, L b → b < w.heap.size) (hB : B ≤ w.heap.size) (hm : Mo M w r) (hf : Few r.m) : Calls Try.prog 14 #[nv p, mv r] w (PSend B p q L xs ys r.m w) := by
  obtain ⟨S, T, h1, h2, h3, h4⟩ := h.ex
  have hl := h.lt
  have hSp : ¬ S p := by
    obtain ⟨v, rs, _, h5⟩ := h1
    exact h5.np
  refine (send_any (S := fun b => S b ∨ w.heap.size ≤ b) (h1.mono (fun b _ s => .inl s) (fun s => by
    rcases s with s | s
    · exact hSp s
    · omega)) hm hf (fun k hk => .inr hk)).mono ?_
  rintro e w' ⟨he, h5, h6⟩
  refine ⟨he, ⟨⟨fun b => (S b ∨ w.heap.size ≤ b) ∧ b < w'.heap.size, T, h5.mono (fun b hb s => ⟨s, hb⟩) (fun s => by
    rcases s.1 with s | s
    · exact hSp s
    · omega), h2.kept h6 (fun b hb t s => ?_) (fun s => ?_), fun b s => ?_, fun b s => ⟨Nat.lt_of_lt_of_le (h4 b s).1 h6.size, (h4 b s).2⟩⟩, h.lp, h.lq, h.pq⟩, h6.mono (fun b hb s => ?_)⟩
  · rcases s with s | s | s
    · exact (h4 b t).2.2.2 s
    · exact (h3 b s).2.2.2.2 t
    · omega
  · rcases s with s | s | s
    · exact h.pq s.symm
    · exact (h3 q s).2.2.2.1 rfl
    · omega
  · refine ⟨s.2, ?_⟩
    rcases s.1 with s' | s'
    · exact (h3 b s').2
    · exact ⟨by omega, fun x => by have := hL b x; omega, by omega, fun t => by have := (h4 b t).1; omega⟩
  · rcases s with rfl | s | s
    · exact h.lp
    · exact ⟨(h3 b s).2.1, (h3 b s).2.2.1⟩
    · omega
/-- the reference takes one more -/
def PRSend (B p q : Nat) (L : Nat → Prop) (xs ys : List Ms) (m : Ms) (w : World) (e : Ending) (w' : World) : Prop := e = .returned (.int .i64 (sendE ys)) ∧ PI B p q L w' xs (sendL ys m) ∧ Kept (fun b => B ≤ b ∧ ¬ L b) w w'
theorem prsend {M : Nat → Prop} {r : Mr} (h : PI B p q L w xs ys) (hL : ∀ b, L b → b < w.heap.size) (hB : B ≤ w.heap.size) (hm : Mo M w r) (hf : Few r.m) : Calls Try.prog 20 #[nv q, mv r] w (PRSend B p q L xs ys r.m w) := by
  obtain ⟨S, T, h1, h2, h3, h4⟩ := h.ex
  have hl := h.lt
  have hTq : ¬ T q := by
    obtain ⟨v, rs, _, h5⟩ := h2
    exact h5.np
  refine (rsend_any (S := fun b => T b ∨ w.heap.size ≤ b) (h2.mono (fun b _ s => .inl s) (fun s => by
    rcases s with s | s
    · exact hTq s
    · omega)) hm hf (fun k hk => .inr hk)).mono ?_
  rintro e w' ⟨he, h5, h6⟩
  refine ⟨he, ⟨⟨S, fun b => (T b ∨ w.heap.size ≤ b) ∧ b < w'.heap.size, h1.kept h6 (fun b hb t s => ?_) (fun s => ?_), h5.mono (fun b hb s => ⟨s, hb⟩) (fun s => by
    rcases s.1 with s | s
    · exact hTq s
    · omega), fun b s => ?_, fun b s => ?_⟩, h.lp, h.lq, h.pq⟩, h6.mono (fun b hb s => ?_)⟩
  · rcases s with s | s | s
    · exact (h3 b t).2.2.2.1 s
    · exact (h3 b t).2.2.2.2 s
    · omega
  · rcases s with s | s | s
    · exact h.pq s
    · exact (h4 p s).2.2.2 rfl
    · omega
  · obtain ⟨a1, a2, a3, a4, a5⟩ := h3 b s
    exact ⟨Nat.lt_of_lt_of_le a1 h6.size, a2, a3, a4, fun t => by
      rcases t.1 with t | t
      · exact a5 t
      · omega⟩
  · refine ⟨s.2, ?_⟩
    rcases s.1 with s' | s'
    · exact (h4 b s').2
    · exact ⟨by omega, fun x => by have := hL b x; omega, by omega⟩
  · rcases s with rfl | s | s
    · exact h.lq
    · exact ⟨(h4 b s).2.1, (h4 b s).2.2.1⟩
    · omega
/-- one is taken -/
def PTake (B p q : Nat) (L : Nat → Prop) (xs ys : List Ms) (i : Int) (w : World) (e : Ending) (w' : World) : Prop :=
  ∃ r, e = .returned (.tuple #[mv r, .bool true]) ∧ xs[pick i xs.length]? = some r.m ∧ Mo (fun b => b < w.heap.size ∧ B ≤ b ∧ ¬ L b) w' r ∧ PI B p q L w' (xs.eraseIdx (pick i xs.length)) ys ∧ Kept (fun b => B ≤ b ∧ ¬ L b) w w'
theorem ptake {i : Int} (h : PI B p q L w xs ys) (hp : 0 < xs.length) (hn : xs.length ≤ 1000) : Calls Try.prog 15 #[nv p, .int .i64 i] w (PTake B p q L xs ys i w) := by
  obtain ⟨S, T, h1, h2, h3, h4⟩ := h.ex
  refine (take_any h1 hp hn).mono ?_
  rintro e w' ⟨r, he, hx, hm, h5, h6⟩
  refine ⟨r, he, hx, hm.mono (fun b _ s => ⟨(h3 b s).1, (h3 b s).2.1, (h3 b s).2.2.1⟩), ⟨⟨S, T, h5, h2.kept h6 (fun b hb t s => ?_) (fun s => ?_), fun b s => ⟨Nat.lt_of_lt_of_le (h3 b s).1 h6.size, (h3 b s).2⟩, fun b s => ⟨Nat.lt_of_lt_of_le (h4 b s).1 h6.size, (h4 b s).2⟩⟩, h.lp, h.lq, h.pq⟩, h6.mono (fun b hb s => ?_)⟩
  · rcases s with s | s
    · exact (h4 b t).2.2.2 s
    · exact (h3 b s).2.2.2.2 t
  · rcases s with s | s
    · exact h.pq s.symm
    · exact (h3 q s).2.2.2.1 rfl
  · rcases s with rfl | s
    · exact h.lp
    · exact ⟨(h3 b s).2.1, (h3 b s).2.2.1⟩
theorem ptake0 {i : Int} (h : PI B p q L w [] ys) : Calls Try.prog 15 #[nv p, .int .i64 i] w (Tells (.tuple #[mv zeroM, .bool false]) w) := by
  obtain ⟨S, T, h1, h2, h3, h4⟩ := h.ex
  exact take_none h1
/-- the reference takes one -/
def PRTake (B p q : Nat) (L : Nat → Prop) (xs ys : List Ms) (i : Int) (w : World) (e : Ending) (w' : World) : Prop :=
  ∃ r, e = .returned (.tuple #[mv r, .bool true]) ∧ ys[pick i ys.length]? = some r.m ∧ Mo (fun _ => True) w' r ∧ PI B p q L w' xs (ys.eraseIdx (pick i ys.length)) ∧ Kept (fun b => b = q) w w'
theorem prtake {i : Int} (h : PI B p q L w xs ys) (hL : ∀ b, L b → b < w.heap.size) (hB : B ≤ w.heap.size) (hp : 0 < ys.length) (hn : ys.length ≤ 1000) : Calls Try.prog 17 #[nv q, .int .i64 i] w (PRTake B p q L xs ys i w) := by
  obtain ⟨S, T, h1, h2, h3, h4⟩ := h.ex
  have hl := h.lt
  have hTq : ¬ T q := by
    obtain ⟨v, rs, _, h5⟩ := h2
    exact h5.np
  refine (rtake_any (S := fun b => T b ∨ w.heap.size ≤ b) (h2.mono (fun b _ s => .inl s) (fun s => by
    rcases s with s | s
    · exact hTq s
    · omega)) hp hn (fun k hk => .inr hk)).mono ?_
  rintro e w' ⟨r, he, hx, hm, h5, h6⟩
  refine ⟨r, he, hx, hm.mono (fun _ _ _ => trivial), ⟨⟨S, fun b => (T b ∨ w.heap.size ≤ b) ∧ b < w'.heap.size, h1.kept h6 (fun b hb t s => (h3 b t).2.2.2.1 s) h.pq, h5.mono (fun b hb s => ⟨s, hb⟩) (fun s => by
    rcases s.1 with s | s
    · exact hTq s
    · omega), fun b s => ?_, fun b s => ?_⟩, h.lp, h.lq, h.pq⟩, h6⟩
  · obtain ⟨a1, a2, a3, a4, a5⟩ := h3 b s
    exact ⟨Nat.lt_of_lt_of_le a1 h6.size, a2, a3, a4, fun t => by
      rcases t.1 with t | t
      · exact a5 t
      · omega⟩
  · refine ⟨s.2, ?_⟩
    rcases s.1 with s' | s'
    · exact (h4 b s').2
    · exact ⟨by omega, fun x => by have := hL b x; omega, by omega⟩
theorem prtake0 {i : Int} (h : PI B p q L w xs []) : Calls Try.prog 17 #[nv q, .int .i64 i] w (Tells (.tuple #[mv zeroM, .bool false]) w) := by
  obtain ⟨S, T, h1, h2, h3, h4⟩ := h.ex
  exact rtake_none h2
theorem plen (h : PI B p q L w xs ys) : Calls Try.prog 12 #[nv p] w (Is (.int .i64 xs.length) w) := by
  obtain ⟨S, T, h1, h2, h3, h4⟩ := h.ex
  exact len_any h1
theorem pall (h : PI B p q L w xs ys) (hn : xs.length ≤ 100000) : Calls Try.prog 21 #[nv p] w (AllTo xs w) := by
  obtain ⟨S, T, h1, h2, h3, h4⟩ := h.ex
  exact all_any h1 hn
/-- what the reference holds -/
theorem PI.ref (h : PI B p q L w xs ys) : ∃ v, Box w q #[v] 44 ∧ Msl (fun _ => True) w v ys := by
  obtain ⟨S, T, h1, ⟨v, rs, h2, h5⟩, h3, h4⟩ := h.ex
  exact ⟨v, h5.box, rs, h2, (Sl.owned encM_len h5.own).mono (fun _ _ _ => trivial), fun r hr => (h5.mo r hr).mono (fun _ _ _ => trivial)⟩
end
/-- a list's lists may be written, whatever they hold -/
def Wr (W : World) (v : Value) (n : Nat) : Prop := 0 < n → ∃ b c cs t, v = .slice (some ⟨b, 0, none⟩) n c ∧ Box W b cs t ∧ n ≤ cs.size
theorem Wr.of {W : World} {base : Nat} {e : TypeId} {v : Value} {n : Nat} {xs : List Value} (h : W.ownsRow base e 1 v n xs) : Wr W v n := fun hp => by
  rcases h.2 with ⟨_, h0⟩ | ⟨g, cap, cur, rfl, hb, hg, h1, h2, h3, h4⟩
  · omega
  · exact ⟨g, cap, cur, e, rfl, hg, by omega⟩
end Go.Proofs.Ytmmneeikcnapmaa
