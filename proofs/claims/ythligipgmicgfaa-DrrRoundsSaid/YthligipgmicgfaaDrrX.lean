/- DrrRounds: the argument, the queues that the law makes -/
import Derived.Test.YthligipgmicgfaaDrrN
import Derived.Test.YthligipgmicgfaaDrrZ
namespace Go.Proofs.Ythligipgmicgfaa
open Go.ChangeShapes Go.WideShapes Go.ChangeAt Go.RowKit

abbrev encS (x : Value × List (Value × It)) : List Value := [x.1]
theorem encS_len (x : Value × List (Value × It)) : (encS x).length = 1 := rfl
/-- a row of the argument -/
def RowO (W : World) (x : Value × List (Value × It)) : Prop := Sl (fun _ => True) W x.1 4 encI x.2 ∧ ∀ r ∈ x.2, LabO W r
theorem open_itemss {H : Type} {encH : TypeId × Value → H} {r : Reach} {b0 : Nat} {W : World} {base : Nat} {sp : Nat → Bool} {held : Bool} {v : Value} {d : DataW H} {p : List MemPlace} (hv : Value.okWide Try.prog W r b0 70 v) (h : DataW.Trod encH Try.prog W base sp held 70 v d p) : ∃ xs, Sl (fun _ => True) W v 1 encS xs ∧ ∀ x ∈ xs, RowO W x := by
  obtain ⟨fuel, hf⟩ := h
  obtain ⟨a0, len0, cap0, rfl⟩ := okWide_slice (e := 36) (by kernel_rfl) hv
  obtain ⟨v, xs, h1, h2⟩ := open_rows (G := RowO W) (size := 1) (by kernel_rfl) (by kernel_rfl) (by decide) encS encS_len (fun h => by
    obtain ⟨v, xs, g1, g2, g3⟩ := trod_items h
    exact ⟨(v, xs), g1, g2, g3⟩) hf
  have : v = .slice a0 len0 cap0 := by simpa [Value.cells] using h1.symm
  subst this
  exact ⟨xs, h2⟩
abbrev encQ (x : Nat × List It) : List Value := [qv x.1]
theorem encQ_len (x : Nat × List It) : (encQ x).length = 1 := rfl
/-- blocks that change -/
def Mut (qs : List (Nat × List It)) (vq vm : Value) (b : Nat) : Prop := b ∈ qs.map Prod.fst ∨ vq.ownBlock = some b ∨ vm.ownBlock = some b
/-- the queues that were made, their twins; all of it below B -/
structure LS (w : World) (B : Nat) (vq vm : Value) (qs : List (Nat × List It)) (ms : List (Value × List It)) (W : World) : Prop where
  hq : W.ownsRow w.heap.size 24 1 vq qs.length (qs.flatMap encQ)
  hm : W.ownsRow w.heap.size 41 1 vm ms.length (ms.flatMap encR)
  q : ∀ x ∈ qs, QAt (fun b => b < B ∧ ¬ Mut qs vq vm b) x.1 W x.2
  m : ∀ r ∈ ms, Its (fun b => b < B ∧ ¬ Mut qs vq vm b) W r.1 r.2
  ok : ∀ x ∈ qs, Fair x.2 ∧ x.2.length ≤ 8 ∧ w.heap.size ≤ x.1 ∧ x.1 < B
  mm : ms.map Prod.snd = qs.map Prod.snd
  nd : (qs.map Prod.fst).Nodup
  b : Below w.heap.size w W
  nq : ∀ b, vq.ownBlock = some b → b < B ∧ ¬ b ∈ qs.map Prod.fst ∧ vm.ownBlock ≠ some b
  nm : ∀ b, vm.ownBlock = some b → b < B ∧ ¬ b ∈ qs.map Prod.fst
  lt : B ≤ W.heap.size
  lb : w.heap.size ≤ B
theorem LS.start (w : World) : LS w w.heap.size (.slice none 0 0) (.slice none 0 0) [] [] w :=
  ⟨World.ownsRow_nil _ _ _ _, World.ownsRow_nil _ _ _ _, fun x hx => (by cases hx), fun x hx => (by cases hx), fun x hx => (by cases hx), rfl, List.nodup_nil, Below.refl _ _, fun b e => (by cases e), fun b e => (by cases e), Nat.le_refl _, Nat.le_refl _⟩
theorem LS.keep {w W W' : World} {B : Nat} {vq vm : Value} {qs : List (Nat × List It)} {ms : List (Value × List It)} {G : Nat → Prop} (h : LS w B vq vm qs ms W) (hk : Kept G W W') (hG : ∀ b, G b → B ≤ b) : LS w B vq vm qs ms W' :=
  ⟨owns_keep h.hq (fun b e => hk.block b (h.hq.lt b e).2 (fun g => by have := (h.nq b e).1; have := hG b g; omega)), owns_keep h.hm (fun b e => hk.block b (h.hm.lt b e).2 (fun g => by have := (h.nm b e).1; have := hG b g; omega)),
    fun x hx => (h.q x hx).kept hk (fun b _ s g => by have := s.1; have := hG b g; omega) (fun g => by have := (h.ok x hx).2.2.2; have := hG _ g; omega),
    fun r hr => (h.m r hr).kept hk (fun b _ s g => by have := s.1; have := hG b g; omega), h.ok, h.mm, h.nd, h.b.trans (hk.below (fun b g => by have := hG b g; have := h.lb; omega) h.b.size), h.nq, h.nm, Nat.le_trans h.lt hk.size, h.lb⟩
theorem LS.below {w W W' : World} {B : Nat} {vq vm : Value} {qs : List (Nat × List It)} {ms : List (Value × List It)} (h : LS w B vq vm qs ms W) (hb : Below W.heap.size W W') : LS w B vq vm qs ms W' := h.keep (G := fun _ => False) (kept_of_below hb) (fun _ g => g.elim)
theorem LS.more {w W0 W1 W2 W3 : World} {B p : Nat} {vq vm vq' vm' vt : Value} {qs : List (Nat × List It)} {ms : List (Value × List It)} {qx : List It} {o1 o2 : Obj} (h : LS w B vq vm qs ms W0) (hp : B ≤ p) (hq : QAt (fun b => B ≤ b ∧ b ≠ p) p W0 qx) (hf : Fair qx) (hl : qx.length ≤ 8)
    (h1 : W1.ownsRow w.heap.size 24 1 vq' (qs ++ [(p, qx)]).length ((qs ++ [(p, qx)]).flatMap encQ)) (k1 : Kept (fun b => vq.ownBlock = some b) (W0.alloc o1) W1) (a1 : vq'.ownBlock = vq.ownBlock ∨ vq'.ownBlock = some (W0.alloc o1).heap.size)
    (h2 : Below W1.heap.size W1 W2) (ht : Its (fun b => W1.heap.size ≤ b) W2 vt qx)
    (h3 : W3.ownsRow w.heap.size 41 1 vm' (ms ++ [(vt, qx)]).length ((ms ++ [(vt, qx)]).flatMap encR)) (k3 : Kept (fun b => vm.ownBlock = some b) (W2.alloc o2) W3) (a3 : vm'.ownBlock = vm.ownBlock ∨ vm'.ownBlock = some (W2.alloc o2).heap.size) :
    LS w W3.heap.size vq' vm' (qs ++ [(p, qx)]) (ms ++ [(vt, qx)]) W3 := by
  have s0 : (W0.alloc o1).heap.size = W0.heap.size + 1 := World.size_alloc ..
  have s2 : (W2.alloc o2).heap.size = W2.heap.size + 1 := World.size_alloc ..
  have t1 := k1.size
  have t2 := h2.size
  have t3 := k3.size
  have hB := h.lt
  have hwB := h.lb
  have hpl := hq.lt
  have b0 : Below W0.heap.size W0 (W0.alloc o1) := (Below.refl _ W0).alloc (Nat.le_refl _) _
  have b2 : Below W2.heap.size W2 (W2.alloc o2) := (Below.refl _ W2).alloc (Nat.le_refl _) _
  have vq1 : ∀ b, vq'.ownBlock = some b → (vq.ownBlock = some b ∧ b < B) ∨ b = W0.heap.size + 1 := fun b e => by
    rcases a1 with a | a
    · rw [a] at e; exact .inl ⟨e, (h.nq b e).1⟩
    · rw [a] at e; have := Option.some.inj e; exact .inr (by omega)
  have vm1 : ∀ b, vm'.ownBlock = some b → (vm.ownBlock = some b ∧ b < B) ∨ b = W2.heap.size + 1 := fun b e => by
    rcases a3 with a | a
    · rw [a] at e; exact .inl ⟨e, (h.nm b e).1⟩
    · rw [a] at e; have := Option.some.inj e; exact .inr (by omega)
  have hps : (qs ++ [(p, qx)]).map Prod.fst = qs.map Prod.fst ++ [p] := by rw [List.map_append]; rfl
  have hpt : ∀ b, b ∈ qs.map Prod.fst → b < B := fun b hb => by
    obtain ⟨x, hx, rfl⟩ := List.mem_map.1 hb
    exact (h.ok x hx).2.2.2
  have old : ∀ b, b < B → ¬ Mut qs vq vm b → ¬ Mut (qs ++ [(p, qx)]) vq' vm' b := fun b hb hn hm => by
    rcases hm with hm | hm | hm
    · rw [hps] at hm
      rcases List.mem_append.1 hm with hm | hm
      · exact hn (.inl hm)
      · have := List.mem_singleton.1 hm; omega
    · rcases vq1 b hm with h0 | h0
      · exact hn (.inr (.inl h0.1))
      · omega
    · rcases vm1 b hm with h0 | h0
      · exact hn (.inr (.inr h0.1))
      · omega
  have new : ∀ b, B ≤ b → b ≠ p → vq'.ownBlock ≠ some b → b < W2.heap.size → ¬ Mut (qs ++ [(p, qx)]) vq' vm' b := fun b hb hbp hb1 hb2 hm => by
    rcases hm with hm | hm | hm
    · rw [hps] at hm
      rcases List.mem_append.1 hm with hm | hm
      · have := hpt b hm; omega
      · exact hbp (List.mem_singleton.1 hm)
    · exact hb1 hm
    · rcases vm1 b hm with h0 | h0
      · omega
      · omega
  refine ⟨?_, h3, ?_, ?_, ?_, ?_, ?_, ?_, ?_, ?_, Nat.le_refl _, by omega⟩
  · refine owns_keep h1 (fun b e => ?_)
    have hb := (h1.lt b e).2
    refine (k3.block b (by omega) (fun g => ?_)).trans ((b2.block b (by omega)).trans (h2.block b hb))
    have hg := (h.nm b g).1
    rcases vq1 b e with h0 | h0
    · exact (h.nq b h0.1).2.2 g
    · omega
  · intro x hx
    rcases List.mem_append.1 hx with hx' | hx'
    · have hok := (h.ok x hx').2.2.2
      have r1 := ((((h.q x hx').below b0).kept k1 (fun b _ s g => s.2 (.inr (.inl g))) (fun g => (h.nq _ g).2.1 (List.mem_map_of_mem hx'))).below h2).below b2
      have r2 := r1.kept k3 (fun b _ s g => s.2 (.inr (.inr g))) (fun g => (h.nm _ g).2 (List.mem_map_of_mem hx'))
      exact qat_sub r2 (fun b _ s => ⟨by omega, old b s.1 s.2⟩) (fun s => s.2 (.inl (List.mem_map_of_mem hx)))
    · obtain rfl := List.mem_singleton.1 hx'
      have r1 := (((hq.tight.below b0).kept k1 (fun b _ s g => by have := (h.nq b g).1; have := s.1.1; omega) (fun g => by have := (h.nq _ g).1; omega)).below h2).below b2
      have r2 := r1.kept k3 (fun b _ s g => by have := (h.nm b g).1; have := s.1.1; omega) (fun g => by have := (h.nm _ g).1; omega)
      exact qat_sub r2 (fun b _ s => ⟨by have := s.2; omega, new b s.1.1 s.1.2 (fun e => by have h9 := s.2; have h8 := s.1.1; rcases vq1 b e with h0 | h0 <;> omega) (by have := s.2; omega)⟩) (fun s => s.2 (.inl (List.mem_map_of_mem hx)))
  · intro r hr
    rcases List.mem_append.1 hr with hr | hr
    · have r1 := (((((h.m r hr).below b0).kept k1 (fun b _ s g => s.2 (.inr (.inl g)))).below h2).below b2).kept k3 (fun b _ s g => s.2 (.inr (.inr g)))
      exact r1.mono (fun b _ s => ⟨by have := s.1; omega, old b s.1 s.2⟩)
    · obtain rfl := List.mem_singleton.1 hr
      have r1 := ((ht.mono (T := fun b => W1.heap.size ≤ b ∧ b < W2.heap.size) (fun b hb s => ⟨s, hb⟩)).below b2).kept k3 (fun b _ s g => by have := (h.nm b g).1; have := s.1; omega)
      exact r1.mono (fun b _ s => ⟨by have := s.2; omega, new b (by have := s.1; omega) (by have := s.1; omega) (fun e => by have := s.1; have := (h1.lt _ e).2; omega) s.2⟩)
  · intro x hx
    rcases List.mem_append.1 hx with hx | hx
    · have := h.ok x hx
      exact ⟨this.1, this.2.1, this.2.2.1, by have := this.2.2.2; omega⟩
    · obtain rfl := List.mem_singleton.1 hx
      exact ⟨hf, hl, by show w.heap.size ≤ p; omega, by show p < W3.heap.size; omega⟩
  · rw [List.map_append, List.map_append, h.mm]; rfl
  · rw [hps]
    refine List.nodup_append.2 ⟨h.nd, by simp, fun a ha b hb e => ?_⟩
    have := hpt a ha
    have := List.mem_singleton.1 hb
    omega
  · exact (((((h.b.trans (b0.mono h.b.size)).trans (k1.below (fun b g => by have := (h.nq b g).1; have := (h.hq.lt b g).1; omega) (by have := h.b.size; omega))).trans (h2.mono (by omega))).trans (b2.mono (by omega))).trans (k3.below (fun b g => (h.hm.lt b g).1) (by omega)))
  · intro b e
    refine ⟨by have := (h1.lt b e).2; omega, ?_, fun g => ?_⟩
    · rw [hps]
      intro hm
      rcases List.mem_append.1 hm with hm | hm
      · rcases vq1 b e with h0 | h0
        · exact (h.nq b h0.1).2.1 hm
        · have := hpt b hm; omega
      · have := List.mem_singleton.1 hm
        rcases vq1 b e with h0 | h0 <;> omega
    · rcases vq1 b e with h0 | h0
      · rcases vm1 b g with h0' | h0'
        · exact (h.nq b h0.1).2.2 h0'.1
        · omega
      · rcases vm1 b g with h0' | h0'
        · omega
        · omega
  · intro b e
    refine ⟨by have := (h3.lt b e).2; omega, ?_⟩
    rw [hps]
    intro hm
    rcases List.mem_append.1 hm with hm | hm
    · rcases vm1 b e with h0 | h0
      · exact (h.nm b h0.1).2 hm
      · have := hpt b hm; omega
    · have := List.mem_singleton.1 hm
      rcases vm1 b e with h0 | h0 <;> omega
end Go.Proofs.Ythligipgmicgfaa
