/- OutboxPlays: the box and the document's list side by side. -/
import Derived.Test.YtfaafndaelmbfaaOOf
import Derived.Test.YtfaafndaelmbfaaORf5
import Derived.Test.YtfaafndaelmbfaaOTwn
import Derived.Test.YtfaafndaelmbfaaOMine
namespace Go.Proofs.Ytfaafndaelmbfaa
open Go.RowKit

section
variable {M L F : Nat → Prop} {p : Nat} {W W' w : World} {xs : List Ox}
/-- what is new is nobody's -/
theorem BxM.grow (h : BxM M p W xs) (hb : Below W.heap.size W W') : BxM (fun b => M b ∨ (W.heap.size ≤ b ∧ b < W'.heap.size)) p W' xs := by
  have hp := h.lt
  obtain ⟨S, h1, h2, h3⟩ := h
  refine ⟨S, h1.below hb, fun b s => ⟨Nat.lt_of_lt_of_le (h2 b s).1 hb.size, fun m => ?_⟩, fun m => ?_⟩
  · rcases m with m | m
    · exact (h2 b s).2 m
    · have := (h2 b s).1
      omega
  · rcases m with m | m
    · exact h3 m
    · omega
end
theorem Rwm.msl {base : Nat} {W : World} {v : Value} {rs : List Mr} (h : Rwm base W v rs) : Msl (fun b => base ≤ b) W v (rs.map Mr.m) :=
  ⟨rs, rfl, (Sl.owned encM_len h.own).mono (fun b _ e => (h.own.lt b e).1), fun r hr => (h.mw r hr).mo⟩
def RAckTo (A : Nat → Prop) (xs : List Ox) (r i : Int) (w : World) (e : Ending) (w' : World) : Prop := ∃ v, e = .returned v ∧ Rf A (fun b => w.heap.size ≤ b) w' v (rackL xs r i) ∧ Below w.heap.size w w'
theorem rackf_any {A T : Nat → Prop} {v : Value} {xs : List Ox} {r i : Int} {w : World} (h : Rf A T w v xs) (hA : ∀ b, A b → b < w.heap.size) (hn : xs.length ≤ 100000) : Calls Try.prog 22 #[v, .int .u32 r, .int .i64 i] w (RAckTo A xs r i w) := by
  obtain ⟨ms, rfl, h2, h3⟩ := h
  rw [List.length_map] at hn
  refine (rack_any h2 h3 hA hn).mono ?_
  rintro e w' ⟨v', rs, he, hrs, hR, hb⟩
  exact ⟨v', he, by rw [← hrs]; exact hR.rf, hb⟩
/-- the box (at p) and the document's list (the value v) before the n-th call; w0: the world at the head -/
structure PS (w0 : World) (p n : Nat) (xs : List Ox) (v : Value) (W : World) : Prop where
  ex : ∃ M : Nat → Prop, BxM M p W xs ∧ (∀ b, M b → b < W.heap.size) ∧ (∀ b, b < w0.heap.size → M b) ∧ Rf (fun b => b < w0.heap.size) M W v xs
  pg : PG n xs
  below : Below w0.heap.size w0 W
section
variable {w0 W1 w2 w3 w4 W3 w5 w6 : World} {p n t : Nat} {xs ys : List Ox} {v : Value} {M F : Nat → Prop}
/-- behind a Pump: W1 the world ahead, w2 behind the box's, w3 behind the document's, w4 behind the comparison, w5 behind the spoiling -/
theorem ps_pump (_ : ∀ b, M b → b < t) (hA : ∀ b, b < w0.heap.size → M b) (_ : t ≤ W1.heap.size) (hbl : Below w0.heap.size w0 W1) (hk2 : Kept (fun b => ¬ (M b ∨ (t ≤ b ∧ b < W1.heap.size))) W1 w2)
    (hX : BxM (fun b => (M b ∨ (t ≤ b ∧ b < W1.heap.size)) ∨ (W1.heap.size ≤ b ∧ b < w2.heap.size)) p w2 ys) (hR : Rf (fun b => b < w0.heap.size) (fun b => w2.heap.size ≤ b) w3 v ys) (hb3 : Below w2.heap.size w2 w3) (hb4 : Below w3.heap.size w3 w4)
    (hk5 : Kept F w4 w5) (hF : ∀ b, F b → W1.heap.size ≤ b ∧ b < w2.heap.size) (hpg : PG n ys) : PS w0 p n ys v w5 := by
  have hs1 := hbl.size
  have hs2 := hk2.size
  have hs3 := hb3.size
  have hs4 := hb4.size
  have hs5 := hk5.size
  have hb24 := below_then hb3 hb4
  refine ⟨⟨fun b => b < w0.heap.size ∨ (w2.heap.size ≤ b ∧ b < w3.heap.size), ?_, fun b h => by omega, fun b h => .inl h, ?_⟩, hpg, ?_⟩
  · refine ((hX.grow hb24).kept hk5 (fun b _ f => .inl (.inr (hF b f)))).turn (fun b _ m => ?_)
    rcases m with m | m
    · exact .inl (.inl (.inl (hA b m)))
    · exact .inr (by omega)
  · exact ((hR.mono (B := fun b => b < w0.heap.size) (U := fun b => b < w0.heap.size ∨ (w2.heap.size ≤ b ∧ b < w3.heap.size)) (fun _ _ a => a) (fun b hb s => .inr ⟨s, hb⟩)).below hb4).kept hk5 (fun b _ a f => by have := hF b f; omega) (fun b _ s f => by have := hF b f; omega)
  · have k1 : Kept (fun b => w0.heap.size ≤ b) w0 w2 := Kept.first hbl (hk2.mono (fun b _ f => by
      by_cases h : b < w0.heap.size
      · exact absurd (.inl (hA b h)) f
      · omega))
    exact ((k1.later hb24).trans hk5 (fun _ _ x => x) (fun b _ f => by have := hF b f; omega)).below (fun b x => x) (Nat.le_refl _)
/-- behind an Ack: w2 behind the document's, w3 behind the box's -/
theorem ps_ack (_ : ∀ b, M b → b < t) (hA : ∀ b, b < w0.heap.size → M b) (_ : t ≤ W1.heap.size) (hbl : Below w0.heap.size w0 W1) (hR : Rf (fun b => b < w0.heap.size) (fun b => W1.heap.size ≤ b) w2 v ys) (hb2 : Below W1.heap.size W1 w2)
    (hk3 : Kept (fun b => ¬ ((M b ∨ (t ≤ b ∧ b < W1.heap.size)) ∨ (W1.heap.size ≤ b ∧ b < w2.heap.size))) w2 w3) (hX : BxM (fun b => (M b ∨ (t ≤ b ∧ b < W1.heap.size)) ∨ (W1.heap.size ≤ b ∧ b < w2.heap.size)) p w3 ys) (hpg : PG n ys) : PS w0 p n ys v w3 := by
  have hs1 := hbl.size
  have hs2 := hb2.size
  have hs3 := hk3.size
  refine ⟨⟨fun b => b < w0.heap.size ∨ (W1.heap.size ≤ b ∧ b < w2.heap.size), ?_, fun b h => by omega, fun b h => .inl h, ?_⟩, hpg, ?_⟩
  · refine hX.turn (fun b _ m => ?_)
    rcases m with m | m
    · exact .inl (.inl (hA b m))
    · exact .inr m
  · refine (hR.mono (B := fun b => b < w0.heap.size) (U := fun b => b < w0.heap.size ∨ (W1.heap.size ≤ b ∧ b < w2.heap.size)) (fun _ _ a => a) (fun b hb s => .inr ⟨s, hb⟩)).kept hk3 (fun b _ a f => f (.inl (.inl (hA b a)))) (fun b _ s f => ?_)
    rcases s with s | s
    · exact f (.inl (.inl (hA b s)))
    · exact f (.inr s)
  · exact (Kept.first (hbl.trans (hb2.mono hbl.size)) (hk3.mono (G := fun b => w0.heap.size ≤ b) (fun b _ f => by
      by_cases h : b < w0.heap.size
      · exact absurd (.inl (.inl (hA b h))) f
      · omega))).below (fun b x => x) (Nat.le_refl _)
/-- behind an Add: w2 behind the twin, W3 behind its box, w4 behind the box's, w5 behind the document's, w6 behind the spoiling -/
theorem ps_add (hM : ∀ b, M b → b < t) (hA : ∀ b, b < w0.heap.size → M b) (ht : t ≤ W1.heap.size) (hbl : Below w0.heap.size w0 W1) (hb3 : Below W1.heap.size W1 W3)
    (hk4 : Kept (fun b => ¬ ((M b ∨ (t ≤ b ∧ b < W1.heap.size)) ∨ (W1.heap.size ≤ b ∧ b < W3.heap.size))) W3 w4) (hX : BxM (fun b => (M b ∨ (t ≤ b ∧ b < W1.heap.size)) ∨ (W1.heap.size ≤ b ∧ b < W3.heap.size)) p w4 ys)
    (hR : Rf (fun b => b < w0.heap.size) (fun b => M b ∨ w4.heap.size ≤ b) w5 v ys) (hb5 : Below w4.heap.size w4 w5) (hk6 : Kept F w5 w6) (hF : ∀ b, F b → W1.heap.size ≤ b ∧ b < W3.heap.size) (hpg : PG n ys) : PS w0 p n ys v w6 := by
  have hs1 := hbl.size
  have hs3 := hb3.size
  have hs4 := hk4.size
  have hs5 := hb5.size
  have hs6 := hk6.size
  refine ⟨⟨fun b => M b ∨ (w4.heap.size ≤ b ∧ b < w5.heap.size), ?_, fun b h => ?_, fun b h => .inl (hA b h), ?_⟩, hpg, ?_⟩
  · refine ((hX.grow hb5).kept hk6 (fun b _ f => .inl (.inr (hF b f)))).turn (fun b _ m => ?_)
    rcases m with m | m
    · exact .inl (.inl (.inl m))
    · exact .inr m
  · rcases h with h | h
    · have := hM b h
      omega
    · omega
  · refine (hR.mono (B := fun b => b < w0.heap.size) (U := fun b => M b ∨ (w4.heap.size ≤ b ∧ b < w5.heap.size)) (fun _ _ a => a) (fun b hb s => ?_)).kept hk6 (fun b _ a f => by have := hF b f; omega) (fun b _ s f => ?_)
    · rcases s with s | s
      · exact .inl s
      · exact .inr ⟨s, hb⟩
    · have := hF b f
      rcases s with s | s
      · have := hM b s
        omega
      · omega
  · have k1 : Kept (fun b => w0.heap.size ≤ b) w0 w4 := Kept.first (hbl.trans (hb3.mono hbl.size)) (hk4.mono (fun b _ f => by
      by_cases h : b < w0.heap.size
      · exact absurd (.inl (.inl (hA b h))) f
      · omega))
    exact ((k1.later hb5).trans hk6 (fun _ _ x => x) (fun b _ f => by have := hF b f; omega)).below (fun b x => x) (Nat.le_refl _)
/-- behind All: w2 behind it and the comparison, w3 behind the spoiling -/
theorem ps_all (h : PS w0 p n xs v W1) (hb2 : Below W1.heap.size W1 w2) (hk3 : Kept F w2 w3) (hF : ∀ b, F b → W1.heap.size ≤ b ∧ b < w2.heap.size) : PS w0 p n xs v w3 := by
  obtain ⟨⟨M, hX, hM, hA, hR⟩, hpg, hbl⟩ := h
  have hs1 := hbl.size
  have hs2 := hb2.size
  have hs3 := hk3.size
  refine ⟨⟨M, ((hX.grow hb2).kept hk3 (fun b _ f => .inr (hF b f))).turn (fun b _ m => .inl m), fun b h => by have := hM b h; omega, hA, (hR.below hb2).kept hk3 (fun b _ a f => by have := hF b f; omega) (fun b _ s f => by have := hF b f; have := hM b s; omega)⟩, hpg, ?_⟩
  exact ((Kept.of_below (F := fun b => w0.heap.size ≤ b) (hbl.trans (hb2.mono hbl.size)) (Nat.le_refl _)).trans hk3 (fun _ _ x => x) (fun b _ f => by have := hF b f; omega)).below (fun b x => x) (Nat.le_refl _)
end
theorem Wr.kept {F : Nat → Prop} {W W' : World} {v : Value} {n : Nat} (h : Wr W v n) (hk : Kept F W W') (hF : ∀ b, v.ownBlock = some b → ¬ F b) : Wr W' v n := fun hp => by
  obtain ⟨b, c, cs, t, e, hb, hs⟩ := h hp
  exact ⟨b, c, cs, t, e, hb.kept hk (hF b (by rw [e]; rfl)), hs⟩
theorem sendO_few {xs : List Ox} {t : Int} (h : FewO xs) : ∀ x ∈ sendO xs t, Few x := by
  intro x hx
  unfold sendO pumpO at hx
  split at hx
  · obtain ⟨y, hy, rfl⟩ := List.mem_map.1 hx
    exact h y (List.mem_filter.1 hy).1
  · cases hx
theorem sendO_len (xs : List Ox) (t : Int) : (sendO xs t).length ≤ xs.length := by
  unfold sendO pumpO
  split
  · rw [List.length_map]
    exact List.length_filter_le _ _
  · simp
/-- the lists' blocks of some messages -/
def Fss (rs : List Mr) (b : Nat) : Prop := ∃ r ∈ rs, Fs r.kv r.sv b
end Go.Proofs.Ytfaafndaelmbfaa
