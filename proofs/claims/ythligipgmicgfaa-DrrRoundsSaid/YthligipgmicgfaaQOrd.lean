/- QueueOrder's walk -/
import Derived.Test.YthligipgmicgfaaQAwk
import Derived.Test.YthligipgmicgfaaQOpe
namespace Go.Proofs.Ythligipgmicgfaa
open Go.RowKit
attribute [local go_sem] Oper.semAt_some

theorem push_yes' {S T : Nat → Prop} {p : Nat} {xs : List It} {lv : Value} {x : It} {w : World} (h : QAt S p w xs) (hl : Lb T w lv x.ls) (hS : ∀ k, w.heap.size ≤ k → S k) (hm : mayCost x = true) (hn : xs.length < 8) : Calls Try.prog 13 #[qv p, iv lv x] w (PushIs S p 0 (xs ++ [x]) w) := by
  refine (push_any (x := x) h hl hS).mono ?_
  rintro e w' ⟨rfl, g1, g2⟩
  refine ⟨?_, ?_, g2⟩
  · unfold pushE; rw [hm, if_pos rfl, if_pos hn]
  · unfold pushL at g1; rw [hm, decide_eq_true hn] at g1; exact g1
def PushNo (S : Nat → Prop) (p : Nat) (xs : List It) (w : World) (e : Ending) (w' : World) : Prop := ∃ r : Int, (r == 0) = false ∧ PushIs S p r xs w e w'
theorem push_no' {S T : Nat → Prop} {p : Nat} {xs : List It} {lv : Value} {x : It} {w : World} (h : QAt S p w xs) (hl : Lb T w lv x.ls) (hS : ∀ k, w.heap.size ≤ k → S k) (hn : ¬ (mayCost x = true ∧ xs.length < 8)) : Calls Try.prog 13 #[qv p, iv lv x] w (PushNo S p xs w) := by
  refine (push_any (x := x) h hl hS).mono ?_
  rintro e w' ⟨rfl, g1, g2⟩
  refine ⟨pushE xs x, ?_, rfl, ?_, g2⟩
  · unfold pushE
    split
    · rename_i hm
      rw [if_neg (fun h => hn ⟨hm, h⟩)]
      rfl
    · rfl
  · unfold pushL at g1
    rw [if_neg (by simpa using hn)] at g1
    exact g1

/-- the law's mutable blocks -/
def MX (p : Nat) (vi vo : Value) (k : Nat) : Prop := k = p ∨ vi.ownBlock = some k ∨ vo.ownBlock = some k
/-- a queue and two lists of one's own -/
structure OS (w : World) (p : Nat) (vi vo : Value) (q ins outs : List It) (W : World) : Prop where
  q : QAt (fun k => ¬ MX p vi vo k) p W q
  i : ∃ rs, Rws (fun k => ¬ MX p vi vo k) W w.heap.size 45 vi ins rs
  o : ∃ rs, Rws (fun k => ¬ MX p vi vo k) W w.heap.size 45 vo outs rs
  apart : ∀ k, vi.ownBlock = some k → vo.ownBlock ≠ some k
  pi : vi.ownBlock ≠ some p
  po : vo.ownBlock ≠ some p
  b : Below w.heap.size w W
  lt : w.heap.size ≤ p
section
variable {w W W' : World} {p : Nat} {vi vo v' : Value} {q ins outs : List It}
theorem OS.below (h : OS w p vi vo q ins outs W) (hb : Below W.heap.size W W') : OS w p vi vo q ins outs W' := by
  obtain ⟨ri, hi⟩ := h.i
  obtain ⟨ro, ho⟩ := h.o
  exact ⟨h.q.below hb, ⟨ri, hi.below hb⟩, ⟨ro, ho.below hb⟩, h.apart, h.pi, h.po, below_then h.b hb, h.lt⟩
theorem OS.mx (h : OS w p vi vo q ins outs W) : ∀ k, W.heap.size ≤ k → ¬ MX p vi vo k := fun k hk e => by
  obtain ⟨ri, hi⟩ := h.i
  obtain ⟨ro, ho⟩ := h.o
  rcases e with e | e | e
  · have := h.q.lt; omega
  · have := (hi.own.lt k e).2; omega
  · have := (ho.own.lt k e).2; omega
theorem OS.setq (h : OS w p vi vo q ins outs W) {q' : List It} (hq : QAt (fun k => ¬ MX p vi vo k) p W' q') (hk : Kept (fun k => k = p) W W') : OS w p vi vo q' ins outs W' := by
  obtain ⟨ri, hi⟩ := h.i
  obtain ⟨ro, ho⟩ := h.o
  refine ⟨hq, ⟨ri, hi.kept hk (fun k _ s e => s (.inl e)) (fun k _ e e' => h.pi (e' ▸ e))⟩, ⟨ro, ho.kept hk (fun k _ s e => s (.inl e)) (fun k _ e e' => h.po (e' ▸ e))⟩, h.apart, h.pi, h.po, h.b.trans (hk.below (fun k e => e ▸ h.lt) h.b.size), h.lt⟩
theorem OS.start (h : QAt (fun k => k ≠ p) p W q) (hb : Below w.heap.size w W) (hp : w.heap.size ≤ p) : OS w p (.slice none 0 0) (.slice none 0 0) q [] [] W := by
  have hq : QAt (fun k => ¬ MX p (.slice none 0 0) (.slice none 0 0) k) p W q := by
    obtain ⟨v, h1, h2, _⟩ := h
    refine ⟨v, h1, h2.mono (fun k _ s e => ?_), fun h => h (.inl rfl)⟩
    rcases e with e | e | e
    · exact s e
    · cases e
    · cases e
  exact ⟨hq, ⟨[], Rws.none _ _ _ _⟩, ⟨[], Rws.none _ _ _ _⟩, (fun k e => (by cases e)), (fun e => (by cases e)), (fun e => (by cases e)), hb, hp⟩
/-- one item more in the second list -/
theorem OS.addOut (h : OS w p vi vo q ins outs W) {rs : List (Value × It)} (hr : Rws (fun k => ¬ MX p vi vo k) W w.heap.size 45 vo outs rs) {lv : Value} {x : It} (hl : Lw (fun k => ¬ MX p vi vo k) W lv x.ls)
    (ho : W'.ownsRow w.heap.size 45 4 v' (rs ++ [(lv, x)]).length ((rs ++ [(lv, x)]).flatMap encI)) (hk : Kept (fun k => vo.ownBlock = some k) W W') (hat : v'.ownBlock = vo.ownBlock ∨ v'.ownBlock = some W.heap.size) : OS w p vi v' q ins (outs ++ [x]) W' := by
  obtain ⟨ri, hi⟩ := h.i
  have key : ∀ k, k < W.heap.size → ¬ MX p vi vo k → ¬ MX p vi v' k := fun k hk' s e => by
    rcases e with e | e | e
    · exact s (.inl e)
    · exact s (.inr (.inl e))
    · rcases hat with a | a
      · exact s (.inr (.inr (a ▸ e)))
      · rw [a] at e; simp only [Option.some.injEq] at e; omega
  have hf : ∀ k, k < W.heap.size → ¬ MX p vi vo k → ¬ vo.ownBlock = some k := fun k _ s e => s (.inr (.inr e))
  refine ⟨?_, ⟨ri, ?_⟩, ⟨rs ++ [(lv, x)], ?_⟩, fun k e e' => ?_, h.pi, fun e => ?_, ?_, h.lt⟩
  · obtain ⟨v, h1, h2, _⟩ := h.q
    exact ⟨v, h1.kept hk h.po, ((h2.mono (T := fun k => ¬ MX p vi vo k ∧ ¬ MX p vi v' k) (fun k hk' s => ⟨s, key k hk' s⟩)).kept hk (fun k hk' s => hf k hk' s.1)).mono (fun k _ s => s.2), fun h => h (.inl rfl)⟩
  · exact ((hi.mono (T := fun k => ¬ MX p vi vo k ∧ ¬ MX p vi v' k) (fun k hk' s => ⟨s, key k hk' s⟩)).kept hk (fun k hk' s => hf k hk' s.1) (fun k _ e e' => h.apart k e e')).mono (fun k _ s => s.2)
  · refine ⟨by rw [List.map_append, hr.map]; rfl, ho, fun r hr' => ?_⟩
    have kk : ∀ (v0 : Value) (ls : List Lbl), Lw (fun k => ¬ MX p vi vo k) W v0 ls → Lw (fun k => ¬ MX p vi v' k) W' v0 ls := fun v0 ls h0 =>
      ((h0.mono (T := fun k => ¬ MX p vi vo k ∧ ¬ MX p vi v' k) (fun k hk' s => ⟨s, key k hk' s⟩)).kept hk (fun k hk' s => hf k hk' s.1)).mono (fun k _ s => s.2)
    rcases List.mem_append.1 hr' with hr' | hr'
    · exact kk _ _ (hr.lab r hr')
    · obtain rfl : r = (lv, x) := by simpa using hr'
      exact kk _ _ hl
  · rcases hat with a | a
    · exact h.apart k e (a ▸ e')
    · rw [a] at e'; simp only [Option.some.injEq] at e'; have := (hi.own.lt k e).2; omega
  · rcases hat with a | a
    · exact h.po (a ▸ e)
    · rw [a] at e; simp only [Option.some.injEq] at e; have := h.q.lt; omega
  · exact h.b.trans (hk.below (fun k e => (hr.own.lt k e).1) h.b.size)
theorem OS.swap (h : OS w p vi vo q ins outs W) : OS w p vo vi q outs ins W := by
  obtain ⟨ri, hi⟩ := h.i
  obtain ⟨ro, ho⟩ := h.o
  have key : ∀ k, MX p vo vi k → MX p vi vo k := fun k e => by
    rcases e with e | e | e
    · exact .inl e
    · exact .inr (.inr e)
    · exact .inr (.inl e)
  obtain ⟨v, h1, h2, h3⟩ := h.q
  exact ⟨⟨v, h1, h2.mono (fun k _ s e => s (key k e)), fun h => h (.inl rfl)⟩, ⟨ro, ho.mono (fun k _ s e => s (key k e))⟩, ⟨ri, hi.mono (fun k _ s e => s (key k e))⟩, fun k e e' => h.apart k e' e, h.po, h.pi, h.b, h.lt⟩
end
theorem lw_new {S : Nat → Prop} {W W' : World} {v : Value} {ls : List Lbl} (h : Lw (fun k => W.heap.size ≤ k) W' v ls) (hS : ∀ k, W.heap.size ≤ k → S k) : Lw S W' v ls := h.mono (fun k _ s => hS k s)
end Go.Proofs.Ythligipgmicgfaa
