/- drr.Round where it finds a queue twice, and where it serves -/
import Derived.Test.YthligipgmicgfaaDrrP
namespace Go.Proofs.Ythligipgmicgfaa
open Go.RowKit
attribute [local go_sem] Oper.semAt_some

/-- queues, what waits in them, their deficits -/
abbrev Tri := Nat × List It × Int
abbrev tp (T : List Tri) : List Nat := T.map Prod.fst
abbrev td (T : List Tri) : List Int := T.map (fun x => x.2.2)
/-- the first k queues are served -/
structure RI (w : World) (S : Nat → Prop) (T : List Tri) (v dv : Value) (k : Nat) (W : World) : Prop where
  q : ∀ (j : Nat) (x : Tri), T[j]? = some x → QAt S x.1 W (if j < k then (svd x.2.1 x.2.2).2.1 else x.2.1)
  row : Sl (fun b => ¬ b ∈ tp T ∧ b < w.heap.size) W v 1 encP ((tp T).map qv)
  drow : Sl (fun b => ¬ b ∈ tp T ∧ b < w.heap.size) W dv 1 encN (td T)
  kp : Kept (fun b => b ∈ tp T) w W
theorem RI.below {w W W' : World} {S : Nat → Prop} {T : List Tri} {v dv : Value} {k : Nat} (h : RI w S T v dv k W) (hb : Below W.heap.size W W') : RI w S T v dv k W' :=
  ⟨fun j x hx => (h.q j x hx).below hb, h.row.below hb, h.drow.below hb, h.kp.later hb⟩
theorem RI.blk {w W : World} {S : Nat → Prop} {T : List Tri} {v dv : Value} {k : Nat} (h : RI w S T v dv k W) : ∀ p ∈ tp T, Blk W p := by
  intro p hp
  obtain ⟨x, hx, rfl⟩ := List.mem_map.1 hp
  obtain ⟨j, hj⟩ := List.getElem?_of_mem hx
  obtain ⟨vv, hv, _⟩ := h.q j x hj
  exact ⟨_, _, hv⟩
/-- one block changes, that of a queue that the text holds at one place or so as it was -/
theorem RI.step {w W W' : World} {S : Nat → Prop} {T : List Tri} {v dv : Value} {k m p : Nat} (h : RI w S T v dv k W) (hF : ∀ x ∈ T, ¬ S x.1) (hp : p ∈ tp T) (hk : Kept (fun b => b = p) W W')
    (hq : ∀ (j : Nat) (x : Tri), T[j]? = some x → x.1 = p → QAt S x.1 W' (if j < m then (svd x.2.1 x.2.2).2.1 else x.2.1))
    (hm : ∀ (j : Nat) (x : Tri), T[j]? = some x → x.1 ≠ p → (j < k ↔ j < m)) : RI w S T v dv m W' := by
  refine ⟨fun j x hx => ?_, h.row.kept hk (fun b _ s e => s.1 (e ▸ hp)), h.drow.kept hk (fun b _ s e => s.1 (e ▸ hp)), h.kp.trans hk (fun _ _ e => e) (fun b _ e => e ▸ hp)⟩
  by_cases hx1 : x.1 = p
  · exact hq j x hx hx1
  · have h1 := (h.q j x hx).kept hk (fun b _ s e => by
      obtain ⟨y, hy, hyp⟩ := List.mem_map.1 hp
      exact hF y hy (by rw [hyp, ← e]; exact s)) hx1
    simp only [hm j x hx hx1] at h1
    exact h1
theorem RI.to {w W : World} {S S' : Nat → Prop} {T : List Tri} {v dv : Value} {k : Nat} (h : RI w S T v dv k W) (hS : ∀ b, b < W.heap.size → S b → S' b) (hF : ∀ x ∈ T, ¬ S' x.1) : RI w S' T v dv k W :=
  ⟨fun j x hx => qat_sub (h.q j x hx) hS (hF x (List.mem_of_getElem? hx)), h.row, h.drow, h.kp⟩
theorem RI.keep {w W W' : World} {S G : Nat → Prop} {T : List Tri} {v dv : Value} {k : Nat} (h : RI w S T v dv k W) (hS : ∀ b, S b → b < w.heap.size) (hlt : ∀ x ∈ T, x.1 < w.heap.size) (hk : Kept G W W') (hG : ∀ b, G b → w.heap.size ≤ b) : RI w S T v dv k W' :=
  ⟨fun j x hx => (h.q j x hx).kept hk (fun b _ s g => by have := hS b s; have := hG b g; omega) (fun g => by have := hlt x (List.mem_of_getElem? hx); have := hG _ g; omega),
    h.row.kept hk (fun b _ s g => by have := s.2; have := hG b g; omega), h.drow.kept hk (fun b _ s g => by have := s.2; have := hG b g; omega),
    h.kp.trans hk (fun _ _ e => e) (fun b hb g => by have := hG b g; omega)⟩
/-- none of them is nobody's -/
theorem ri_says {w : World} {S : Nat → Prop} {T : List Tri} {v dv : Value} (hF : ∀ x ∈ T, ¬ S x.1) (hC : ∀ x ∈ T, ∀ y ∈ T, x.1 = y.1 → x.2.1 = y.2.1) : NoneSays (RI w S T v dv 0) v ((tp T).map qv) (fun _ => false) := by
  refine ⟨fun W h => ⟨_, h.row⟩, fun W h x hx => ?_, fun x hx => ?_⟩
  · obtain ⟨p, hp, rfl⟩ := List.mem_map.1 hx
    obtain ⟨y, hy, rfl⟩ := List.mem_map.1 hp
    obtain ⟨j, hj⟩ := List.getElem?_of_mem hy
    have h0 := h.q j y hj
    rw [if_neg (by omega)] at h0
    refine (drrnone_any h0).mono ?_
    rintro e w' ⟨rfl, h1, h2⟩
    refine ⟨rfl, h.step hF hp h2 (fun j' x' hx' e' => ?_) (fun _ _ _ _ => Iff.rfl)⟩
    rw [if_neg (by omega), hC x' (List.mem_of_getElem? hx') y hy e', e']
    exact h1
  · obtain ⟨p, hp, rfl⟩ := List.mem_map.1 hx
    exact ⟨_, rfl⟩
theorem sl_take {α : Type} {S : Nat → Prop} {W : World} {p : Option Addr} {n c size k : Nat} {enc : α → List Value} {xs : List α} (h : Sl S W (.slice p n c) size enc xs) (hk : k ≤ xs.length) : Sl S W (.slice p k c) size enc (xs.take k) := by
  have hl : (xs.take k).length = k := by rw [List.length_take]; omega
  rcases h with ⟨h, rfl⟩ | ⟨a', cap, h, h1, h2, h3, h4⟩
  · simp only [Value.slice.injEq] at h
    obtain ⟨rfl, rfl, rfl⟩ := h
    obtain rfl : k = 0 := by simpa using hk
    exact .inl ⟨rfl, rfl⟩
  · simp only [Value.slice.injEq] at h
    obtain ⟨rfl, rfl, rfl⟩ := h
    refine .inr ⟨a', c, by rw [hl], fun hp => h1 (by omega), by omega, h3, fun i x hx j u hu => ?_⟩
    rw [List.getElem?_take] at hx
    split at hx
    · exact h4 i x hx j u hu
    · cases hx
/-- no two of the first k are one -/
def Apart (T : List Tri) (k : Nat) : Prop := ∀ (i j : Nat) (x y : Tri), i < j → j < k → T[i]? = some x → T[j]? = some y → x.1 ≠ y.1
abbrev encR (r : Value × List It) : List Value := [r.1]
theorem encR_len (r : Value × List It) : (encR r).length = 1 := rfl
/-- what was served, and what is left, row by row -/
structure RO (w : World) (T : List Tri) (vo vl : Value) (k : Nat) (rows : List (Value × List It)) (W : World) : Prop where
  map : rows.map Prod.snd = (T.take k).map (fun x => (svd x.2.1 x.2.2).1)
  ho : W.ownsRow w.heap.size 36 1 vo rows.length (rows.flatMap encR)
  hl : W.ownsRow w.heap.size 3 1 vl ((T.take k).map (fun x => (svd x.2.1 x.2.2).2.2.1)).length (((T.take k).map (fun x => (svd x.2.1 x.2.2).2.2.1)).flatMap encN)
  ne : ∀ b, vo.ownBlock = some b → vl.ownBlock ≠ some b
  its : ∀ r ∈ rows, Its (fun b => w.heap.size ≤ b ∧ vo.ownBlock ≠ some b ∧ vl.ownBlock ≠ some b) W r.1 r.2
theorem RO.keep {w W W' : World} {G : Nat → Prop} {T : List Tri} {vo vl : Value} {k : Nat} {rows : List (Value × List It)} (h : RO w T vo vl k rows W) (hk : Kept G W W') (hG : ∀ b, G b → b < w.heap.size) : RO w T vo vl k rows W' :=
  ⟨h.map, owns_keep h.ho (fun b e => hk.block b (h.ho.lt b e).2 (fun g => by have := (h.ho.lt b e).1; have := hG b g; omega)), owns_keep h.hl (fun b e => hk.block b (h.hl.lt b e).2 (fun g => by have := (h.hl.lt b e).1; have := hG b g; omega)), h.ne,
    fun r hr => (h.its r hr).kept hk (fun b _ s g => by have := s.1; have := hG b g; omega)⟩
/-- a row more -/
theorem RO.more {w W W5 W6 W7 : World} {T : List Tri} {vo vl v6 v7 : Value} {k : Nat} {rows : List (Value × List It)} {x : Tri} {vx : Value} {o5 o6 : Obj} (h : RO w T vo vl k rows W5) (hx : T[k]? = some x)
    (hi : Its (fun b => W.heap.size ≤ b) W5 vx (svd x.2.1 x.2.2).1) (hW : w.heap.size ≤ W.heap.size) (hvo : ∀ b, vo.ownBlock = some b → b < W.heap.size) (hvl : ∀ b, vl.ownBlock = some b → b < W.heap.size)
    (h6 : W6.ownsRow w.heap.size 36 1 v6 (rows ++ [(vx, (svd x.2.1 x.2.2).1)]).length ((rows ++ [(vx, (svd x.2.1 x.2.2).1)]).flatMap encR)) (k6 : Kept (fun b => vo.ownBlock = some b) (W5.alloc o5) W6) (a6 : v6.ownBlock = vo.ownBlock ∨ v6.ownBlock = some (W5.alloc o5).heap.size)
    (h7 : W7.ownsRow w.heap.size 3 1 v7 ((T.take k).map (fun x => (svd x.2.1 x.2.2).2.2.1) ++ [(svd x.2.1 x.2.2).2.2.1]).length (((T.take k).map (fun x => (svd x.2.1 x.2.2).2.2.1) ++ [(svd x.2.1 x.2.2).2.2.1]).flatMap encN)) (k7 : Kept (fun b => vl.ownBlock = some b) (W6.alloc o6) W7) (a7 : v7.ownBlock = vl.ownBlock ∨ v7.ownBlock = some (W6.alloc o6).heap.size) :
    RO w T v6 v7 (k + 1) (rows ++ [(vx, (svd x.2.1 x.2.2).1)]) W7 := by
  have ets : T.take (k + 1) = T.take k ++ [x] := take_snoc hx
  have s5 : (W5.alloc o5).heap.size = W5.heap.size + 1 := World.size_alloc ..
  have s6 : (W6.alloc o6).heap.size = W6.heap.size + 1 := World.size_alloc ..
  have k6s := k6.size
  have k7s := k7.size
  have b5 : Below W5.heap.size W5 (W5.alloc o5) := (Below.refl _ W5).alloc (Nat.le_refl _) _
  have b6 : Below W6.heap.size W6 (W6.alloc o6) := (Below.refl _ W6).alloc (Nat.le_refl _) _
  refine ⟨?_, ?_, ?_, ?_, ?_⟩
  · rw [ets, List.map_append, List.map_append, h.map]; rfl
  · refine owns_keep h6 (fun b e => ?_)
    have hb := (h6.lt b e).2
    refine (k7.block b (by omega) (fun g => ?_)).trans (b6.block b hb)
    rcases a6 with a | a
    · rw [a] at e; exact h.ne b e g
    · rw [a] at e; have := (h.hl.lt b g).2; cases e; omega
  · rw [ets, List.map_append]; exact h7
  · intro b e g
    rcases a6 with a | a <;> rcases a7 with a' | a'
    · rw [a] at e; rw [a'] at g; exact h.ne b e g
    · rw [a] at e; rw [a'] at g; have := (h.ho.lt b e).2; cases g; omega
    · rw [a] at e; rw [a'] at g; have := (h.hl.lt b g).2; cases e; omega
    · rw [a] at e; rw [a'] at g; have e1 := Option.some.inj e; have g1 := Option.some.inj g; omega
  · have old : ∀ r ∈ rows ++ [(vx, (svd x.2.1 x.2.2).1)], Its (fun b => w.heap.size ≤ b ∧ vo.ownBlock ≠ some b ∧ vl.ownBlock ≠ some b ∧ b < W5.heap.size) W5 r.1 r.2 := by
      intro r hr
      rcases List.mem_append.1 hr with hr | hr
      · exact (h.its r hr).mono (fun b hb s => ⟨s.1, s.2.1, s.2.2, hb⟩)
      · obtain rfl := List.mem_singleton.1 hr
        exact hi.mono (fun b hb s => ⟨by omega, fun e => by have := hvo b e; omega, fun e => by have := hvl b e; omega, hb⟩)
    intro r hr
    have t1 := ((((old r hr).below b5).kept k6 (fun b _ s g => s.2.1 g)).below b6).kept k7 (fun b _ s g => s.2.2.1 g)
    refine t1.mono (fun b _ s => ⟨s.1, fun e => ?_, fun e => ?_⟩)
    · rcases a6 with a | a
      · rw [a] at e; exact s.2.1 e
      · rw [a] at e; cases e; have := s.2.2.2; omega
    · rcases a7 with a | a
      · rw [a] at e; exact s.2.2.1 e
      · rw [a] at e; cases e; have := s.2.2.2; omega
theorem RO.hl6 {w W5 W6 : World} {T : List Tri} {vo vl : Value} {k : Nat} {rows : List (Value × List It)} {o5 o6 : Obj} (h : RO w T vo vl k rows W5) (k6 : Kept (fun b => vo.ownBlock = some b) (W5.alloc o5) W6) :
    (W6.alloc o6).ownsRow w.heap.size 3 1 vl ((T.take k).map (fun x => (svd x.2.1 x.2.2).2.2.1)).length (((T.take k).map (fun x => (svd x.2.1 x.2.2).2.2.1)).flatMap encN) := by
  have s5 : (W5.alloc o5).heap.size = W5.heap.size + 1 := World.size_alloc ..
  have k6s := k6.size
  refine owns_keep h.hl (fun b e => ?_)
  have hb := (h.hl.lt b e).2
  exact ((((Below.refl _ W6).alloc (Nat.le_refl _) o6).block b (by omega)).trans (k6.block b (by omega) (fun g => h.ne b g e))).trans (((Below.refl _ W5).alloc (Nat.le_refl _) o5).block b hb)
theorem RO.ho5 {w W5 : World} {T : List Tri} {vo vl : Value} {k : Nat} {rows : List (Value × List It)} {o5 : Obj} (h : RO w T vo vl k rows W5) : (W5.alloc o5).ownsRow w.heap.size 36 1 vo rows.length (rows.flatMap encR) :=
  owns_keep h.ho (fun b e => ((Below.refl _ W5).alloc (Nat.le_refl _) o5).block b (h.ho.lt b e).2)
theorem RO.len {w W : World} {T : List Tri} {vo vl : Value} {k : Nat} {rows : List (Value × List It)} (h : RO w T vo vl k rows W) : rows.length ≤ T.length := by
  have := congrArg List.length h.map
  rw [List.length_map, List.length_map, List.length_take] at this
  omega
theorem info_items : (Try.prog.info? 36).map (fun i => (i.zero, i.size, i.bytes)) = some (some (.slice none 0 0), 1, 24) := by kernel_rfl
theorem info_int : (Try.prog.info? 3).map (fun i => (i.zero, i.size, i.bytes)) = some (some (.int .i64 0), 1, 8) := by kernel_rfl
def RoundOk (w : World) (S : Nat → Prop) (T : List Tri) (v dv : Value) (e : Ending) (w' : World) : Prop := ∃ vo vl rows, e = .returned (.tuple #[vo, vl, .int .i64 0]) ∧ RO w T vo vl T.length rows w' ∧ RI w S T v dv T.length w'
theorem apart_no {T : List Tri} {k : Nat} {x : Tri} (hx : T[k]? = some x) (h : ((tp T).take k).any (fun p => decide (x.1 = p)) = true) : ¬ Apart T T.length := by
  obtain ⟨p, hp, he⟩ := List.any_eq_true.1 h
  obtain ⟨i, hi⟩ := List.getElem?_of_mem hp
  rw [List.getElem?_take] at hi
  split at hi
  · rename_i hik
    rw [List.getElem?_map] at hi
    obtain ⟨y, hy, rfl⟩ := Option.map_eq_some_iff.1 hi
    intro hA
    exact hA i k y x hik (List.getElem?_eq_some_iff.1 hx).1 hy hx (of_decide_eq_true he).symm
  · cases hi
theorem apart_yes {T : List Tri} {k : Nat} {x : Tri} (hA : Apart T k) (hx : T[k]? = some x) (h : ((tp T).take k).any (fun p => decide (x.1 = p)) = false) : Apart T (k + 1) := by
  intro i j y z hij hj hy hz
  by_cases hjk : j < k
  · exact hA i j y z hij hjk hy hz
  · obtain rfl : j = k := by omega
    obtain rfl : x = z := by rw [hx] at hz; exact Option.some.inj hz
    intro e
    have h1 := List.any_eq_false.1 h y.1 (List.mem_of_getElem? (i := i) (by rw [List.getElem?_take, if_pos hij, List.getElem?_map, hy]; rfl))
    exact h1 (decide_eq_true e.symm)
set_option maxRecDepth 100000 in
set_option maxHeartbeats 1000000 in
theorem round_any {S : Nat → Prop} {T : List Tri} {v dv : Value} {w : World} (h : RI w S T v dv 0 w) (hF : ∀ x ∈ T, ¬ S x.1) (hC : ∀ x ∈ T, ∀ y ∈ T, x.1 = y.1 → x.2.1 = y.2.1) (hm : (td T).any (fun d => !mayB d) = false) (hn : T.length ≤ 100) (hQ : ∀ x ∈ T, Fair x.2.1 ∧ x.2.1.length ≤ 8) :
    Calls Try.prog 34 #[v, dv] w (fun e w' => (¬ Apart T T.length ∧ RoundNo 2 (RI w S T v dv 0) e w') ∨ (Apart T T.length ∧ RoundOk w S T v dv e w')) := by
  have hF0 := hF
  have hlt0 : ∀ x ∈ T, x.1 < w.heap.size := fun x hx => by
    obtain ⟨j, hj⟩ := List.getElem?_of_mem hx
    exact (h.q j x hj).lt
  replace h : RI w (fun b => S b ∧ b < w.heap.size) T v dv 0 w := h.to (fun b hb s => ⟨s, hb⟩) (fun x hx s => hF x hx s.1)
  replace hF : ∀ x ∈ T, ¬ (S x.1 ∧ x.1 < w.heap.size) := fun x hx s => hF0 x hx s.1
  have HLT := Lib.hid hlt0
  have HX := Lib.hid (cfInts h.drow)
  have HY := Lib.hid (cfQ (ri_says hF hC) h)
  obtain ⟨p, c, rfl, hc1, hc2⟩ := h.row.len
  obtain ⟨p2, c2, rfl, hc3, hc4⟩ := h.drow.len
  unfold maxLen at hc2 hc4
  rw [List.length_map, List.length_map] at hc1 HY ⊢
  rw [List.length_map] at hc3 HX HY ⊢
  have HM := Lib.hid hm
  clear h hm hlt0
  go_enter Try.func34, Try.ntmps34
  go_wp2_with fail
  refine HX.out.mono ?_
  rintro e w1 ⟨rfl, rfl⟩
  rw [HM.out]
  go_wp2_with fail
  refine HY.out.mono ?_
  rintro e w2 ⟨rfl, hi⟩
  rw [show ((tp T).map qv).any (fun _ => false) = false from by simp]
  have HI := Lib.hid hi
  clear hi
  go_wp2_with fail
  go_loopw [4, 5, 25] (fun vo vl iv_ wr => vo = .slice none 0 0 ∧ vl = .slice none 0 0 ∧ ∃ k : Nat, iv_ = .int .i64 k ∧ k ≤ T.length ∧ Apart T k ∧ RI w1 (fun b => S b ∧ b < w1.heap.size) T (.slice p T.length c) (.slice p2 T.length c2) 0 wr) (fun _ _ iv_ _ => T.length - (intOf iv_).toNat)
  · exact ⟨rfl, rfl, 0, rfl, by omega, (fun i j x y _ hj => by omega), HI.out⟩
  obtain ⟨rfl, rfl, k, rfl, hk, hA, hi⟩ := hrel
  have HI2 := Lib.hid hi
  have HA := Lib.hid hA
  clear hi hA HI
  by_cases hlt : k < T.length
  · obtain ⟨x, hx⟩ : ∃ x, T[k]? = some x := ⟨_, List.getElem?_eq_getElem hlt⟩
    have hx2 : ((tp T).map qv)[k]? = some (qv x.1) := by rw [List.getElem?_map, List.getElem?_map, hx]; rfl
    have hro := HI2.out.row
    rw [show T.length = ((tp T).map qv).length from by simp] at hro
    obtain ⟨a, rfl, hab, _, hM⟩ := hro.at hx2
    have hz0 := hM k _ hx2 0 _ rfl
    rw [Nat.mul_one, Addr.add_zero'] at hz0
    have hkk : (k : Int) < (T.length : Int) := by omega
    have HX2 := Lib.hid hx
    clear hM hx2 hx hro
    have hkc : k ≤ c := by omega
    have hro2 := HI2.out.row
    have hps : Sl (fun b => ¬ b ∈ tp T ∧ b < w1.heap.size) wr (.slice (some a) k c) 1 encP (((tp T).take k).map qv) := by
      have h1 := sl_take (k := k) hro2 (by simp; omega)
      rwa [← List.map_take] at h1
    have HP := Lib.hid (hasP (q := x.1) (hps.below (Below.refl _ wr).drew) (fun p hp => by
      obtain ⟨cs, t, hb⟩ := HI2.out.blk p (List.mem_of_mem_take hp)
      exact ⟨cs, t, hb⟩) (by
      obtain ⟨cs, t, hb⟩ := HI2.out.blk x.1 (List.mem_map.2 ⟨x, List.mem_of_getElem? HX2.out, rfl⟩)
      exact ⟨cs, t, hb⟩))
    clear hro2 hps
    go_wp2_with fail
    refine anyH_start 8 (fun w' => w' = wr.drew) (by kernel_rfl) rfl ?_
    ((first | (refine anyH_free (i := 0) (v := ?_) rfl (by kernel_rfl) (fun _ _ _ h => h) (Or.inl ⟨rfl, fun w' hS => ?_⟩) rfl ?_; rotate_left; ((obtain rfl := hS); go_simp <;> with_reducible rfl)) | (refine anyH_free (i := 0) (v := undef) rfl (by kernel_rfl) (fun _ _ _ h => h) (Or.inr ⟨rfl, rfl⟩) rfl ?_)); (simp only [Act.put, List.setIfInBounds_toArray, List.set_cons_zero, List.set_cons_succ])); ((first | (refine anyH_free (i := 1) (v := ?_) rfl (by kernel_rfl) (fun _ _ _ h => h) (Or.inl ⟨rfl, fun w' hS => ?_⟩) rfl ?_; rotate_left; ((obtain rfl := hS); go_simp <;> with_reducible rfl)) | (refine anyH_free (i := 1) (v := undef) rfl (by kernel_rfl) (fun _ _ _ h => h) (Or.inr ⟨rfl, rfl⟩) rfl ?_)); (simp only [Act.put, List.setIfInBounds_toArray, List.set_cons_zero, List.set_cons_succ])); ((first | (refine anyH_free (i := 2) (v := ?_) rfl (by kernel_rfl) (fun _ _ _ h => h) (Or.inl ⟨rfl, fun w' hS => ?_⟩) rfl ?_; rotate_left; ((obtain rfl := hS); go_simp <;> with_reducible rfl)) | (refine anyH_free (i := 2) (v := undef) rfl (by kernel_rfl) (fun _ _ _ h => h) (Or.inr ⟨rfl, rfl⟩) rfl ?_)); (simp only [Act.put, List.setIfInBounds_toArray, List.set_cons_zero, List.set_cons_succ])); ((first | (refine anyH_free (i := 3) (v := ?_) rfl (by kernel_rfl) (fun _ _ _ h => h) (Or.inl ⟨rfl, fun w' hS => ?_⟩) rfl ?_; rotate_left; ((obtain rfl := hS); go_simp <;> with_reducible rfl)) | (refine anyH_free (i := 3) (v := undef) rfl (by kernel_rfl) (fun _ _ _ h => h) (Or.inr ⟨rfl, rfl⟩) rfl ?_)); (simp only [Act.put, List.setIfInBounds_toArray, List.set_cons_zero, List.set_cons_succ])); ((first | (refine anyH_free (i := 4) (v := ?_) rfl (by kernel_rfl) (fun _ _ _ h => h) (Or.inl ⟨rfl, fun w' hS => ?_⟩) rfl ?_; rotate_left; ((obtain rfl := hS); go_simp <;> with_reducible rfl)) | (refine anyH_free (i := 4) (v := undef) rfl (by kernel_rfl) (fun _ _ _ h => h) (Or.inr ⟨rfl, rfl⟩) rfl ?_)); (simp only [Act.put, List.setIfInBounds_toArray, List.set_cons_zero, List.set_cons_succ])); ((first | (refine anyH_free (i := 5) (v := ?_) rfl (by kernel_rfl) (fun _ _ _ h => h) (Or.inl ⟨rfl, fun w' hS => ?_⟩) rfl ?_; rotate_left; ((obtain rfl := hS); go_simp <;> with_reducible rfl)) | (refine anyH_free (i := 5) (v := undef) rfl (by kernel_rfl) (fun _ _ _ h => h) (Or.inr ⟨rfl, rfl⟩) rfl ?_)); (simp only [Act.put, List.setIfInBounds_toArray, List.set_cons_zero, List.set_cons_succ])); ((first | (refine anyH_free (i := 6) (v := ?_) rfl (by kernel_rfl) (fun _ _ _ h => h) (Or.inl ⟨rfl, fun w' hS => ?_⟩) rfl ?_; rotate_left; ((obtain rfl := hS); go_simp <;> with_reducible rfl)) | (refine anyH_free (i := 6) (v := undef) rfl (by kernel_rfl) (fun _ _ _ h => h) (Or.inr ⟨rfl, rfl⟩) rfl ?_)); (simp only [Act.put, List.setIfInBounds_toArray, List.set_cons_zero, List.set_cons_succ]))
    refine anyH_sole (i := 7) rfl (by kernel_rfl) rfl (fun K hK => ?_)
    go_simp
    refine HP.out.mono ?_
    rintro e w5 ⟨rfl, rfl⟩
    refine hK _ _ rfl ?_
    clear hK K
    refine anyH_done (by kernel_rfl) ?_
    have HI3 := Lib.hid (HI2.out.below (Below.refl _ wr).drew)
    cases hb : ((tp T).take k).any (fun p => decide (x.1 = p)) with
    | true =>
      have HN := Lib.hid (apart_no HX2.out hb)
      clear hb
      go_wp2_with fail
      go_ret3
      exact .inl ⟨HN.out, rfl, HI3.out.to (fun b _ s => s.1) hF0⟩
    | false =>
      have HA2 := Lib.hid (apart_yes HA.out HX2.out hb)
      clear hb
      go_wp2_with fail
      exact ⟨⟨rfl, rfl, k + 1, by simp, by omega, HA2.out, HI3.out⟩, by simp [intOf]; omega⟩
  · obtain rfl : k = T.length := by omega
    go_wp2_with fail
    go_loopw [4, 5, 39] (fun vo vl iv_ wr => ∃ (k : Nat) (rows : List (Value × List It)), iv_ = .int .i64 k ∧ k ≤ T.length ∧ RO w1 T vo vl k rows wr ∧ RI w1 (fun b => S b ∧ b < w1.heap.size) T (.slice p T.length c) (.slice p2 T.length c2) k wr) (fun _ _ iv_ _ => T.length - (intOf iv_).toNat)
    · exact ⟨0, [], rfl, by omega, ⟨rfl, World.ownsRow_nil _ _ _ _, World.ownsRow_nil _ _ _ _, (fun b e => by cases e), (fun r hr => by cases hr)⟩, HI2.out⟩
    obtain ⟨k, rows, rfl, hk, ho, hi⟩ := hrel
    have HI3 := Lib.hid hi
    have HO3 := Lib.hid ho
    clear hi ho HI2
    by_cases hlt : k < T.length
    · obtain ⟨x, hx⟩ : ∃ x, T[k]? = some x := ⟨_, List.getElem?_eq_getElem hlt⟩
      have hx2 : ((tp T).map qv)[k]? = some (qv x.1) := by rw [List.getElem?_map, List.getElem?_map, hx]; rfl
      have hx3 : (td T)[k]? = some x.2.2 := by rw [List.getElem?_map, hx]; rfl
      have hro := HI3.out.row
      have hdo := HI3.out.drow
      obtain ⟨a, rfl, hab, hap, hM⟩ := hro.at hx2
      obtain ⟨a2, rfl, hab2, hap2, hM2⟩ := hdo.at hx3
      have hz0 := hM k _ hx2 0 _ rfl
      have hz1 := hM2 k _ hx3 0 _ rfl
      rw [Nat.mul_one, Addr.add_zero'] at hz0 hz1
      have hkk : (k : Int) < (T.length : Int) := by omega
      have HX2 := Lib.hid hx
      clear hM hx2 hx hro hM2 hx3 hdo
      go_wp2_with fail
      refine anyH_start 16 (fun w' => Kept (fun b => b ∈ tp T) wr w') (by kernel_rfl) rfl ?_
      have hk0 : Kept (fun b => b ∈ tp T) wr wr.drew := (Kept.refl _ wr).drew
      ((first | (refine anyH_free (i := 0) (v := ?_) rfl (by kernel_rfl) (fun _ _ _ h => h) (Or.inl ⟨rfl, fun w' hS => ?_⟩) hk0 ?_; rotate_left; ((have y0 := (hS.cell (a := a.add k) (by rw [add_block']; exact hab) (by rw [add_block']; exact hap.1)).trans hz0; have y1 := (hS.cell (a := a2.add k) (by rw [add_block']; exact hab2) (by rw [add_block']; exact hap2.1)).trans hz1); go_simp <;> with_reducible rfl)) | (refine anyH_free (i := 0) (v := undef) rfl (by kernel_rfl) (fun _ _ _ h => h) (Or.inr ⟨rfl, rfl⟩) hk0 ?_)); (simp only [Act.put, List.setIfInBounds_toArray, List.set_cons_zero, List.set_cons_succ])); ((first | (refine anyH_free (i := 1) (v := ?_) rfl (by kernel_rfl) (fun _ _ _ h => h) (Or.inl ⟨rfl, fun w' hS => ?_⟩) hk0 ?_; rotate_left; ((have y0 := (hS.cell (a := a.add k) (by rw [add_block']; exact hab) (by rw [add_block']; exact hap.1)).trans hz0; have y1 := (hS.cell (a := a2.add k) (by rw [add_block']; exact hab2) (by rw [add_block']; exact hap2.1)).trans hz1); go_simp <;> with_reducible rfl)) | (refine anyH_free (i := 1) (v := undef) rfl (by kernel_rfl) (fun _ _ _ h => h) (Or.inr ⟨rfl, rfl⟩) hk0 ?_)); (simp only [Act.put, List.setIfInBounds_toArray, List.set_cons_zero, List.set_cons_succ])); ((first | (refine anyH_free (i := 2) (v := ?_) rfl (by kernel_rfl) (fun _ _ _ h => h) (Or.inl ⟨rfl, fun w' hS => ?_⟩) hk0 ?_; rotate_left; ((have y0 := (hS.cell (a := a.add k) (by rw [add_block']; exact hab) (by rw [add_block']; exact hap.1)).trans hz0; have y1 := (hS.cell (a := a2.add k) (by rw [add_block']; exact hab2) (by rw [add_block']; exact hap2.1)).trans hz1); go_simp <;> with_reducible rfl)) | (refine anyH_free (i := 2) (v := undef) rfl (by kernel_rfl) (fun _ _ _ h => h) (Or.inr ⟨rfl, rfl⟩) hk0 ?_)); (simp only [Act.put, List.setIfInBounds_toArray, List.set_cons_zero, List.set_cons_succ])); ((first | (refine anyH_free (i := 3) (v := ?_) rfl (by kernel_rfl) (fun _ _ _ h => h) (Or.inl ⟨rfl, fun w' hS => ?_⟩) hk0 ?_; rotate_left; ((have y0 := (hS.cell (a := a.add k) (by rw [add_block']; exact hab) (by rw [add_block']; exact hap.1)).trans hz0; have y1 := (hS.cell (a := a2.add k) (by rw [add_block']; exact hab2) (by rw [add_block']; exact hap2.1)).trans hz1); go_simp <;> with_reducible rfl)) | (refine anyH_free (i := 3) (v := undef) rfl (by kernel_rfl) (fun _ _ _ h => h) (Or.inr ⟨rfl, rfl⟩) hk0 ?_)); (simp only [Act.put, List.setIfInBounds_toArray, List.set_cons_zero, List.set_cons_succ])); ((first | (refine anyH_free (i := 4) (v := ?_) rfl (by kernel_rfl) (fun _ _ _ h => h) (Or.inl ⟨rfl, fun w' hS => ?_⟩) hk0 ?_; rotate_left; ((have y0 := (hS.cell (a := a.add k) (by rw [add_block']; exact hab) (by rw [add_block']; exact hap.1)).trans hz0; have y1 := (hS.cell (a := a2.add k) (by rw [add_block']; exact hab2) (by rw [add_block']; exact hap2.1)).trans hz1); go_simp <;> with_reducible rfl)) | (refine anyH_free (i := 4) (v := undef) rfl (by kernel_rfl) (fun _ _ _ h => h) (Or.inr ⟨rfl, rfl⟩) hk0 ?_)); (simp only [Act.put, List.setIfInBounds_toArray, List.set_cons_zero, List.set_cons_succ])); ((first | (refine anyH_free (i := 5) (v := ?_) rfl (by kernel_rfl) (fun _ _ _ h => h) (Or.inl ⟨rfl, fun w' hS => ?_⟩) hk0 ?_; rotate_left; ((have y0 := (hS.cell (a := a.add k) (by rw [add_block']; exact hab) (by rw [add_block']; exact hap.1)).trans hz0; have y1 := (hS.cell (a := a2.add k) (by rw [add_block']; exact hab2) (by rw [add_block']; exact hap2.1)).trans hz1); go_simp <;> with_reducible rfl)) | (refine anyH_free (i := 5) (v := undef) rfl (by kernel_rfl) (fun _ _ _ h => h) (Or.inr ⟨rfl, rfl⟩) hk0 ?_)); (simp only [Act.put, List.setIfInBounds_toArray, List.set_cons_zero, List.set_cons_succ])); ((first | (refine anyH_free (i := 6) (v := ?_) rfl (by kernel_rfl) (fun _ _ _ h => h) (Or.inl ⟨rfl, fun w' hS => ?_⟩) hk0 ?_; rotate_left; ((have y0 := (hS.cell (a := a.add k) (by rw [add_block']; exact hab) (by rw [add_block']; exact hap.1)).trans hz0; have y1 := (hS.cell (a := a2.add k) (by rw [add_block']; exact hab2) (by rw [add_block']; exact hap2.1)).trans hz1); go_simp <;> with_reducible rfl)) | (refine anyH_free (i := 6) (v := undef) rfl (by kernel_rfl) (fun _ _ _ h => h) (Or.inr ⟨rfl, rfl⟩) hk0 ?_)); (simp only [Act.put, List.setIfInBounds_toArray, List.set_cons_zero, List.set_cons_succ])); ((first | (refine anyH_free (i := 7) (v := ?_) rfl (by kernel_rfl) (fun _ _ _ h => h) (Or.inl ⟨rfl, fun w' hS => ?_⟩) hk0 ?_; rotate_left; ((have y0 := (hS.cell (a := a.add k) (by rw [add_block']; exact hab) (by rw [add_block']; exact hap.1)).trans hz0; have y1 := (hS.cell (a := a2.add k) (by rw [add_block']; exact hab2) (by rw [add_block']; exact hap2.1)).trans hz1); go_simp <;> with_reducible rfl)) | (refine anyH_free (i := 7) (v := undef) rfl (by kernel_rfl) (fun _ _ _ h => h) (Or.inr ⟨rfl, rfl⟩) hk0 ?_)); (simp only [Act.put, List.setIfInBounds_toArray, List.set_cons_zero, List.set_cons_succ]))
      refine anyH_sole (i := 8) rfl (by kernel_rfl) rfl (fun K hK => ?_)
      go_simp
      have hq0 := HI3.out.q k x HX2.out
      rw [if_neg (by omega)] at hq0
      refine (drrServe_all (hq0.below (Below.refl _ wr).drew) (by have := (hQ x (List.mem_of_getElem? HX2.out)).2; omega) (hQ x (List.mem_of_getElem? HX2.out)).1).mono ?_
      rintro e w5 ⟨v5, rfl, hi, hq, hkp⟩
      obtain ⟨p5, c5, rfl⟩ := hi.slice
      have hxm : x.1 ∈ tp T := List.mem_map.2 ⟨x, List.mem_of_getElem? HX2.out, rfl⟩
      have hk5 : Kept (fun b => b ∈ tp T) wr w5 := hk0.trans hkp (fun _ _ e => e) (fun b _ e => e ▸ hxm)
      refine hK _ _ hk5 ?_
      clear hK K
      ((first | (refine anyH_free (i := 9) (v := ?_) rfl (by kernel_rfl) (fun _ _ _ h => h) (Or.inl ⟨rfl, fun w' hS => ?_⟩) hk5 ?_; rotate_left; (skip; go_simp <;> with_reducible rfl)) | (refine anyH_free (i := 9) (v := undef) rfl (by kernel_rfl) (fun _ _ _ h => h) (Or.inr ⟨rfl, rfl⟩) hk5 ?_)); (simp only [Act.put, List.setIfInBounds_toArray, List.set_cons_zero, List.set_cons_succ])); ((first | (refine anyH_free (i := 10) (v := ?_) rfl (by kernel_rfl) (fun _ _ _ h => h) (Or.inl ⟨rfl, fun w' hS => ?_⟩) hk5 ?_; rotate_left; (skip; go_simp <;> with_reducible rfl)) | (refine anyH_free (i := 10) (v := undef) rfl (by kernel_rfl) (fun _ _ _ h => h) (Or.inr ⟨rfl, rfl⟩) hk5 ?_)); (simp only [Act.put, List.setIfInBounds_toArray, List.set_cons_zero, List.set_cons_succ])); ((first | (refine anyH_free (i := 11) (v := ?_) rfl (by kernel_rfl) (fun _ _ _ h => h) (Or.inl ⟨rfl, fun w' hS => ?_⟩) hk5 ?_; rotate_left; (skip; go_simp <;> with_reducible rfl)) | (refine anyH_free (i := 11) (v := undef) rfl (by kernel_rfl) (fun _ _ _ h => h) (Or.inr ⟨rfl, rfl⟩) hk5 ?_)); (simp only [Act.put, List.setIfInBounds_toArray, List.set_cons_zero, List.set_cons_succ])); ((first | (refine anyH_free (i := 12) (v := ?_) rfl (by kernel_rfl) (fun _ _ _ h => h) (Or.inl ⟨rfl, fun w' hS => ?_⟩) hk5 ?_; rotate_left; (skip; go_simp <;> with_reducible rfl)) | (refine anyH_free (i := 12) (v := undef) rfl (by kernel_rfl) (fun _ _ _ h => h) (Or.inr ⟨rfl, rfl⟩) hk5 ?_)); (simp only [Act.put, List.setIfInBounds_toArray, List.set_cons_zero, List.set_cons_succ])); ((first | (refine anyH_free (i := 13) (v := ?_) rfl (by kernel_rfl) (fun _ _ _ h => h) (Or.inl ⟨rfl, fun w' hS => ?_⟩) hk5 ?_; rotate_left; (skip; go_simp <;> with_reducible rfl)) | (refine anyH_free (i := 13) (v := undef) rfl (by kernel_rfl) (fun _ _ _ h => h) (Or.inr ⟨rfl, rfl⟩) hk5 ?_)); (simp only [Act.put, List.setIfInBounds_toArray, List.set_cons_zero, List.set_cons_succ])); ((first | (refine anyH_free (i := 14) (v := ?_) rfl (by kernel_rfl) (fun _ _ _ h => h) (Or.inl ⟨rfl, fun w' hS => ?_⟩) hk5 ?_; rotate_left; (skip; go_simp <;> with_reducible rfl)) | (refine anyH_free (i := 14) (v := undef) rfl (by kernel_rfl) (fun _ _ _ h => h) (Or.inr ⟨rfl, rfl⟩) hk5 ?_)); (simp only [Act.put, List.setIfInBounds_toArray, List.set_cons_zero, List.set_cons_succ])); ((first | (refine anyH_free (i := 15) (v := ?_) rfl (by kernel_rfl) (fun _ _ _ h => h) (Or.inl ⟨rfl, fun w' hS => ?_⟩) hk5 ?_; rotate_left; (skip; go_simp <;> with_reducible rfl)) | (refine anyH_free (i := 15) (v := undef) rfl (by kernel_rfl) (fun _ _ _ h => h) (Or.inr ⟨rfl, rfl⟩) hk5 ?_)); (simp only [Act.put, List.setIfInBounds_toArray, List.set_cons_zero, List.set_cons_succ]))
      refine anyH_done (by kernel_rfl) ?_
      have HI5 := Lib.hid ((HI3.out.below (Below.refl _ wr).drew).step hF hxm hkp (m := k + 1) (fun j y hy e => by
        obtain rfl : j = k := by
          rcases Nat.lt_trichotomy j k with h | h | h
          · exact absurd e (HA.out j k y x h hlt hy HX2.out)
          · exact h
          · exact absurd e.symm (HA.out k j x y h (List.getElem?_eq_some_iff.1 hy).1 HX2.out hy)
        obtain rfl : x = y := by have := HX2.out; rw [hy] at this; exact (Option.some.inj this).symm
        rw [if_pos (by omega)]
        exact hq) (fun j y hy e => by
        have : j ≠ k := fun h => e (by subst h; have := HX2.out; rw [hy] at this; exact congrArg Prod.fst (Option.some.inj this))
        omega))
      have HIT := Lib.hid hi
      have HO5 := Lib.hid (HO3.out.keep hk5 (fun b hb => by obtain ⟨y, hy, rfl⟩ := List.mem_map.1 hb; exact HLT.out y hy))
      have hs5 := hk5.size
      have hs1 := HI3.out.kp.size
      have HVO : Hid (∀ b, u4.ownBlock = some b → b < wr.heap.size) := Lib.hid (fun b e => (HO3.out.ho.lt b e).2)
      have HVL : Hid (∀ b, u5.ownBlock = some b → b < wr.heap.size) := Lib.hid (fun b e => (HO3.out.hl.lt b e).2)
      have hrl := HO3.out.len
      obtain ⟨i0, hj, hj0, hj1, hj2⟩ := info_parts info_items
      obtain ⟨i1, hi', hi0', hi1', hi2'⟩ := info_parts info_int
      have J := Lib.hid hj
      have J0 := Lib.hid hj0
      have J1 := Lib.hid hj1
      have J2 := Lib.hid hj2
      have N := Lib.hid hi'
      have N0 := Lib.hid hi0'
      have N1 := Lib.hid hi1'
      have N2 := Lib.hid hi2'
      clear hi hq hkp hk5 hk0 hz0 hz1 hq0 hj hj0 hj1 hj2 hi' hi0' hi1' hi2'
      go_wp2_with (at_builtin; first
        | (refine wpList_append_sl encR_len rfl (.tmp 55) (.tmp 57) 70 rfl w1.heap.size 36 i0 _ 24 Try.underlying70 J.out J0.out J1.out J2.out rfl (by decide) (v := u4) (xs := rows) (ys := [(.slice p5 (svd x.2.1 x.2.2).1.length c5, (svd x.2.1 x.2.2).1)]) (by rfl) (by rfl) HO5.out.ho5 (Sl.one (S := fun _ => True) encR_len (Box.new _ _ _) rfl trivial) (by intro r hr u hu; simp at hr; subst hr; simp at hu; subst hu; rfl) (by simp only [List.length_cons, List.length_nil]; unfold maxLen; omega) (by simp only [List.length_cons, List.length_nil]; omega) (by rw [World.size_alloc]; omega) ?_
           intro v6 w6 hown6 hk6 hat6
           have O6 := Lib.hid hown6
           have K6 := Lib.hid hk6
           have A6 := Lib.hid hat6
           have hs6 := hk6.size
           rw [World.size_alloc] at hs6
           clear hown6 hk6 hat6)
        | (refine wpList_append_sl encN_len rfl (.tmp 59) (.tmp 61) 22 rfl w1.heap.size 3 i1 _ 8 Try.underlying22 N.out N0.out N1.out N2.out rfl (by decide) (v := u5) (xs := (T.take k).map (fun x => (svd x.2.1 x.2.2).2.2.1)) (ys := [(svd x.2.1 x.2.2).2.2.1]) (by rfl) (by rfl) (HO5.out.hl6 K6.out) (Sl.one (S := fun _ => True) encN_len (Box.new _ _ _) rfl trivial) (by intro r hr u hu; simp at hu; subst hu; rfl) (by simp only [List.length_cons, List.length_nil, List.length_map, List.length_take]; unfold maxLen; omega) (by simp only [List.length_cons, List.length_nil, List.length_map, List.length_take]; omega) (by rw [World.size_alloc]; omega) ?_
           intro v7 w7 hown7 hk7 hat7))
      refine ⟨⟨k + 1, _, by simp, by omega, HO5.out.more HX2.out HIT.out hs1 HVO.out HVL.out O6.out K6.out A6.out hown7 hk7 hat7, ?_⟩, by simp [intOf]; omega⟩
      have hS1 : ∀ b, S b ∧ b < w1.heap.size → b < w1.heap.size := fun b s => s.2
      exact (((HI5.out.below ((Below.refl _ w5).alloc (Nat.le_refl _) _)).keep hS1 HLT.out K6.out (fun b e => (HO5.out.ho.lt b e).1)).below ((Below.refl _ w6).alloc (Nat.le_refl _) _)).keep hS1 HLT.out hk7 (fun b e => (HO5.out.hl.lt b e).1)
    · obtain rfl : k = T.length := by omega
      go_wp2_with fail
      go_ret3
      exact .inr ⟨HA.out, _, _, rows, rfl, HO3.out, HI3.out.to (fun b _ s => s.1) hF0⟩
end Go.Proofs.Ythligipgmicgfaa
