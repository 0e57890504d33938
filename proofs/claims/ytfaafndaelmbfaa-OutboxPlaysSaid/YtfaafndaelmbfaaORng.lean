/- A range over a function whose iterator reads what the loop's body writes: the iterator may lean on the caller's own invariant, the body on what the iterator says of the element. -/
import Derived.Test.YtfaafndaelmbfaaOSnd
import Derived.RangeFuncBox
namespace Go.Proofs.Ytfaafndaelmbfaa
open Go.RowKit

/-- an iterator, under one caller's invariant I: the elements come as Px says, all of them as S says -/
def Feeds {α : Type} (F : Fence) (n : Nat) (P : Program) (gf : Nat) (lb : Array Value) (encs : α → Array Value) (I : List α → World → Prop) (Px : List α → α → Prop) (S : List α → Prop) : Prop :=
  ∀ (l : Nat) (J : List α → World → Prop) (W : World), AbidesFrom W.heap.size J → (∀ pre W1, J pre W1 → I pre W1) →
    (∀ pre x W1, J pre W1 → Px pre x → YieldAt F (n - 1) P l (encs x) W1 fun e W' => e = .returned (.bool true) ∧ J (pre ++ [x]) W') → J [] W →
    CallsIn F n P gf (#[.func (.yield l) #[] #[]] ++ lb) W fun e W' => (∃ v, e = .returned v) ∧ ∃ xs, S xs ∧ J xs W'
/-- how a round ends here: by its end -/
def Round {α : Type} (I : List α → World → Prop) (xs : List α) (W : World) : Exit → Act → World → Prop
  | .normal, _, W' => KeepsOthers W W' ∧ I xs W'
  | _, _, _ => False

variable {F : Fence} {n : Nat} {P : Program}
set_option linter.unusedSectionVars false in
theorem range_feeds {α : Type} {g : Operand} {ps : Array Tmp} {assign body : Code} {Q : Exit → Act → World → Prop} {a : Act} {w : World} {gf : Nat} {lb : Array Value} {encs : α → Array Value} {I : List α → World → Prop} {Px : List α → α → Prop} {S : List α → Prop}
    (hro : F.round = none) (h1 : 1 ≤ n) (hg : a.eval g = .func (.func gf) #[] lb) (hFg : F.fn gf) (eg : ∀ args w, (callFunc gf args).run P w = .ok (.enter gf args) w)
    (hseq : Feeds F (n - 1) P gf lb encs I Px S) (hps : ∀ x, (encs x).size = ps.size) (hI : OwnFrom w.heap.size I) (h0 : I [] w) (a₁ : α → Act)
    (hassign : ∀ (l : Nat) (x : α) (W : World) (K : Act → World → Prop), K (a₁ x) W → assign.wpIn (F.inRound l) (n - 1 - 1) P (Exit.then K (fun _ _ _ => False)) { tmps := (ps.zip (encs x)).foldl (fun t (p, v) => t.setIfInBounds p v) a.tmps, defers := [] } W)
    (hbody : ∀ (l : Nat) (pre : List α) (x : α) (W : World), I pre W → Px pre x → body.wpIn (F.inRound l) (n - 1 - 1) P (Round I (pre ++ [x]) W) (a₁ x) W)
    (hdone : ∀ (D : Nat) (xs : List α) (W : World), w.heap.size ≤ D → S xs → I xs W → W.heap[D]? = some (.deferred (some [])) → Q .normal { a with defers := { target := .collected D, args := #[] } :: a.defers } W) :
    (Code.rangeFunc g ps assign body).wpIn F n P Q a w := by
  refine wpIn_rangeFunc fun fn hfn => ?_
  rw [hro]
  generalize hD : w.heap.size = D at hI hdone
  -- the loop's record, in its states; what stands beside the caller's invariant
  let rec_ : LoopState → Loop := fun st => { state := st, pending := none, fn, tmps := a.tmps, params := ps, assign, body, defers := D }
  let At : World → LoopState → Prop := fun W st => W.heap[D + 1]? = some (.loop (rec_ st)) ∧ W.heap[D]? = some (.deferred (some []))
  let W0 := (w.alloc (.deferred (some []))).alloc (.loop (rec_ .ready))
  have hs0 : W0.heap.size = D + 2 := by simp [W0, hD]
  have at0 : At W0 .ready := by
    have e1 := World.alloc_heap_new (w.alloc (.deferred (some []))) (.loop (rec_ .ready))
    have e2 := World.alloc_heap_new w (.deferred (some []))
    rw [World.size_alloc, hD] at e1
    rw [hD] at e2
    exact ⟨e1, (Below.heap_alloc _ _ _ (by rw [World.size_alloc]; omega)).trans e2⟩
  have i0 : I [] W0 := hI.alloc _ (hI.alloc _ h0)
  -- the record is turned: the invariant stands
  have turn : ∀ {pre : List α} {W : World} {st : LoopState} (st' : LoopState), I pre W → At W st → I pre (W.putObj (D + 1) (.loop (rec_ st'))) ∧ At (W.putObj (D + 1) (.loop (rec_ st'))) st' := fun st' hi ha =>
    ⟨hI.putObj _ hi (by omega) ha.1 rfl, World.putObj_heap_same (Array.getElem?_eq_some_iff.1 ha.1).1, (World.putObj_heap_other (by omega)).trans ha.2⟩
  have enter := run_enterLoop_outer (P := P) (w := w) fn a.tmps ps assign body
  rw [hD] at enter
  refine ⟨D + 1, [{ target := .collected D, args := #[] }], W0, { target := .fn (.func gf) lb, args := #[.func (.yield (D + 1)) #[] #[]] }, W0, gf, #[.func (.yield (D + 1)) #[] #[]] ++ lb, W0, enter, ?_, fun f' hf' => ?_, ?_, fun _ => h1, ?_⟩
  · simp only [resolve, hg]
    simp [go_sem]
  · simp [Target.leads] at hf'
    subst hf'
    exact hFg
  · simp [invoke, go_sem, eg]
  · refine (hseq (D + 1) (fun pre W => I pre W ∧ At W .ready) W0 ?_ (fun _ _ h => h.1) ?_ ⟨i0, at0⟩).mono ?_
    · rintro s A B row ⟨hi, hl, hd⟩ hg' hr
      have hr' : ∀ r, row = some r → D ≤ r ∧ ∃ o : Obj, A.heap[r]? = some o ∧ o.isCells = false := fun r e => by
        obtain ⟨hb, o, ho, hw⟩ := hr r e
        exact ⟨by omega, o, ho, Obj.not_cells_of_walk hw⟩
      exact ⟨hI s A B row hi hg' hr', (grownBy_keeps hg' (fun r e => (hr r e).2) hl rfl).trans hl, (grownBy_keeps hg' (fun r e => (hr r e).2) hd rfl).trans hd⟩
    · rintro pre x W ⟨hi, ha⟩ hx
      refine ⟨fn, _, assign, body, run_yield (P := P) (args := encs x) ha.1 (hps x), roundIn_of_wpIn hfn (hassign _ x W _ ⟨_, run_beginRound ha.1 rfl, ?_⟩)⟩
      obtain ⟨hi2, ha2⟩ := turn .busy hi ha
      refine wpIn_mono (hbody _ pre x _ hi2 hx) ?_
      intro e a3 W3 hp
      cases e with
      | normal =>
        obtain ⟨hk, hi3⟩ := hp
        have ha3 : At W3 .busy := ⟨hk.same _ _ ha2.1 rfl, hk.same _ _ ha2.2 rfl⟩
        exact ⟨_, _, run_endRound (P := P) none ha3.1, rfl, turn .ready hi3 ha3⟩
      | _ => exact hp.elim
    · rintro e W2 ⟨⟨v, rfl⟩, xs, hS, hi, ha⟩
      obtain ⟨hi2, ha2⟩ := turn .exhausted hi ha
      exact ⟨none, _, run_endLoop (P := P) ha.1 (by simp [rec_]), hdone _ xs _ (Nat.le_refl _) hS hi2 ha2.2⟩
end Go.Proofs.Ytfaafndaelmbfaa
