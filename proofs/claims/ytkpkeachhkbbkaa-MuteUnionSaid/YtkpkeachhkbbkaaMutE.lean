/- mute.Next -/
import Derived.Test.YtkpkeachhkbbkaaMutD
import Derived.Test.YtkpkeachhkbbkaaRoundQ
namespace Go.Proofs.Ytkpkeachhkbbkaa
open Go.RowKit Go.Shelf Mut
attribute [local go_sem] Oper.semAt_some

/-- Next's own cells: the mute, the minute, what is now, the best so far -/
structure NX (m : MuteD) (n : Int) (now : Bool) (w : World) (bs ba : Nat) (v : Int) (W : World) : Prop where
  lt : bs + 4 < W.heap.size
  below : Below w.heap.size w W
  bm : W.heap[w.heap.size]? = some (.cells #[.string m.nm, .bool m.d0, .bool m.d1, .bool m.d2, .bool m.d3, .bool m.d4, .bool m.d5, .bool m.d6, .int .i64 m.f, .int .i64 m.t] 26 (0, 0))
  bn : Boxed W (w.heap.size + 1) 3 (.int .i64 n)
  bs : Boxed W bs 4 (.bool now)
  ba : Boxed W ba 3 (.int .i64 v)
theorem cells_kept {X Y : World} {B : Nat} {cs : Array Value} {t : TypeId} (h : X.heap[B]? = some (.cells cs t (0, 0))) {row : Option Nat} (hg : X.grownBy Y row) (hr : ∀ r, row = some r → ∃ o : Obj, X.heap[r]? = some o ∧ o.isCells = false) : Y.heap[B]? = some (.cells cs t (0, 0)) :=
  (hg.block B (Array.getElem?_eq_some_iff.1 h).1 (fun e' => by
    obtain ⟨o, ho, hc⟩ := hr B e'.symm
    rw [h] at ho; cases ho; cases hc)).trans h
theorem NX.grown {m : MuteD} {n : Int} {now : Bool} {w : World} {bs ba : Nat} {v : Int} {X Y : World} (h : NX m n now w bs ba v X) {row : Option Nat} (hg : X.grownBy Y row) (hr : ∀ l, row = some l → w.heap.size ≤ l ∧ ∃ o : Obj, X.heap[l]? = some o ∧ o.isCells = false) : NX m n now w bs ba v Y :=
  ⟨Nat.lt_of_lt_of_le h.lt hg.size, h.below.grown hg h.below.size (fun k e => (hr k e).1), cells_kept h.bm hg (fun l e => (hr l e).2), boxed_kept h.bn hg (fun l e => (hr l e).2), boxed_kept h.bs hg (fun l e => (hr l e).2), boxed_kept h.ba hg (fun l e => (hr l e).2)⟩
theorem NX.later {m : MuteD} {n : Int} {now : Bool} {w : World} {bs ba : Nat} {v : Int} {X Y : World} (h : NX m n now w bs ba v X) (hb : Below X.heap.size X Y) : NX m n now w bs ba v Y := h.grown (grown_of_below hb none) (fun l e => by cases e)
theorem NX.set {m : MuteD} {n : Int} {now : Bool} {w : World} {bs ba : Nat} {v : Int} {X : World} (h : NX m n now w bs ba v X) (x : Int) (h1 : w.heap.size + 1 < bs) (h2 : bs < ba) : NX m n now w bs ba x (X.setCell ⟨ba, 0, none⟩ (.int .i64 x)) :=
  ⟨by simpa using h.lt, h.below.setCell (p := ⟨ba, 0, none⟩) (by simp; omega) _, (Below.heap_setCell _ _ _ _ (by simp; omega)).trans h.bm, h.bn.kept (grownBy_setCell' X _ _) (by simp; omega), h.bs.kept (grownBy_setCell' X _ _) (by simp; omega), h.ba.set _⟩
def NInv (m : MuteD) (n : Int) (now : Bool) (w : World) (bs ba : Nat) (pre : List (Int × Int)) (W : World) : Prop := ∃ v, NX m n now w bs ba v W ∧ Best m n (pts pre) v
theorem NInv.own {m : MuteD} {n : Int} {now : Bool} {w : World} {bs ba : Nat} {B : Nat} (hB : w.heap.size ≤ B) : OwnFrom B (NInv m n now w bs ba) := fun s X Y row hs hg hr => by
  obtain ⟨v, h1, h2⟩ := hs
  exact ⟨v, h1.grown hg (fun l e => ⟨by have := (hr l e).1; omega, (hr l e).2⟩), h2⟩

theorem step_yes {m : MuteD} {n v x : Int} (h1 : n < x) (h2 : x ≤ 1099511627776) (h3 : sil m x ≠ sil m n) (h4 : v < 0 ∨ x < v) : Mut.step m n v x = x := by
  unfold Mut.step
  rw [if_pos ⟨⟨h1, h2, fun h => h3 ((sil_eq m x n).2 h)⟩, h4⟩]
theorem step_no {m : MuteD} {n v x : Int} (h : ¬ (n < x ∧ x ≤ 1099511627776 ∧ sil m x ≠ sil m n ∧ (v < 0 ∨ x < v))) : Mut.step m n v x = v := by
  unfold Mut.step
  rw [if_neg (fun hh => h ⟨hh.1.1, hh.1.2.1, fun e => hh.1.2.2 ((sil_eq m x n).1 e), hh.2⟩)]

/-- the inner loop's relation: j of the two minutes have been looked at -/
def RIn (m : MuteD) (n : Int) (now : Bool) (w : World) (bs ba b sb : Nat) (pre : List (Int × Int)) (x1 x2 : Int) (W0 : World) (j : Nat) (W : World) : Prop :=
  ∃ v, NX m n now w bs ba v W ∧ Best m n (pts pre ++ [x1, x2].take j) v ∧ KeepsOthers W0 W ∧ KB3 b W0 W ∧ W.heap[sb]? = some (.cells #[.int .i64 x1, .int .i64 x2] 3 (0, 0))

theorem wpIn_gen {F : Fence} {n : Nat} {P : Program} {c : Code} {Q : Exit → Act → World → Prop} {a : Act} {W : World} (I : World → Prop) (hI : I W) (h : ∀ W', I W' → c.wpIn F n P Q a W') : c.wpIn F n P Q a W := h W hI
theorem RIn.next {m : MuteD} {n : Int} {now : Bool} {w : World} {bs sb : Nat} {pre : List (Int × Int)} {x1 x2 v x : Int} {W0 W W' : World} {j : Nat} (h0 : 0 ≤ n) (X : NX m n now w bs (bs + 1) v W) (hb : Best m n (pts pre ++ [x1, x2].take j) v) (htk : [x1, x2].take (j + 1) = [x1, x2].take j ++ [x])
    (hko : KeepsOthers W0 W) (hkb : KB3 (bs + 1 + 1) W0 W) (hsl : W.heap[sb]? = some (.cells #[.int .i64 x1, .int .i64 x2] 3 (0, 0))) (h : Below W.heap.size W W') (e : Mut.step m n v x = v) : RIn m n now w bs (bs + 1) (bs + 1 + 1) sb pre x1 x2 W0 (j + 1) W' := by
  refine ⟨v, X.later h, ?_, hko.trans (KeepsOthers.of_grownBy (grown_of_below h none) (fun j o e => by cases e)), hkb.t (KB3.of_below h (by have := X.lt; omega)), cells_kept hsl (grown_of_below h none) (fun r e => by cases e)⟩
  rw [htk, ← List.append_assoc]
  have := hb.snoc h0 x
  rwa [e] at this
theorem RIn.upd {m : MuteD} {n : Int} {now : Bool} {w : World} {bs sb : Nat} {pre : List (Int × Int)} {x1 x2 v x : Int} {W0 W W' : World} {j : Nat} (h0 : 0 ≤ n) (X : NX m n now w bs (bs + 1) v W) (hb : Best m n (pts pre ++ [x1, x2].take j) v) (htk : [x1, x2].take (j + 1) = [x1, x2].take j ++ [x])
    (hko : KeepsOthers W0 W) (hkb : KB3 (bs + 1 + 1) W0 W) (hsl : W.heap[sb]? = some (.cells #[.int .i64 x1, .int .i64 x2] 3 (0, 0))) (h : Below W.heap.size W W') (h1 : w.heap.size + 1 < bs) (hsb : bs + 1 < sb) (e : Mut.step m n v x = x) : RIn m n now w bs (bs + 1) (bs + 1 + 1) sb pre x1 x2 W0 (j + 1) (W'.setCell ⟨bs + 1, 0, none⟩ (.int .i64 x)) := by
  have hk := KeepsOthers.of_grownBy (grown_of_below h none) (fun j o e => by cases e)
  refine ⟨x, (X.later h).set x h1 (by omega), ?_, (hko.trans hk).trans (KeepsOthers.setCell _ _ _), (hkb.t (KB3.of_below h (by have := X.lt; omega))).t (KB3.setCell _ _ _ (.inl (by simp))), (Below.heap_setCell _ _ _ _ (by simp; omega)).trans (cells_kept hsl (grown_of_below h none) (fun r e => by cases e))⟩
  rw [htk, ← List.append_assoc]
  have := hb.snoc h0 x
  rwa [e] at this
theorem next_no (m : MuteD) (n : Int) (w : World) (h : n < 0 ∨ 1099511627776 < n) :
    Calls Try.prog 14 #[.agg #[.string m.nm, .bool m.d0, .bool m.d1, .bool m.d2, .bool m.d3, .bool m.d4, .bool m.d5, .bool m.d6, .int .i64 m.f, .int .i64 m.t], .int .i64 n] w (TellsI (nxt m n) w) := by
  have e : nxt m n = -1 := by unfold nxt; rw [if_neg (by omega)]
  rw [e]; clear e
  have HB := Lib.hid h
  clear h
  go_enter Try.func14, Try.ntmps14
  go_wp2_with fail
  refine (date_no _ _ HB.out).mono ?_
  rintro e w1 ⟨rfl, hb1⟩
  have hB : Below w.heap.size w w1 := (((Below.refl _ w).alloc (Nat.le_refl _) _).alloc (by simp) _).trans (hb1.mono (by simp; omega))
  go_wp2_with fail
  go_ret
  exact ⟨rfl, hB.alloc hB.size _⟩

set_option maxRecDepth 100000 in
set_option maxHeartbeats 2000000 in
theorem next_yes (m : MuteD) (n : Int) (w : World) (h0 : 0 ≤ n) (h1 : n ≤ 1099511627776) :
    Calls Try.prog 14 #[.agg #[.string m.nm, .bool m.d0, .bool m.d1, .bool m.d2, .bool m.d3, .bool m.d4, .bool m.d5, .bool m.d6, .int .i64 m.f, .int .i64 m.t], .int .i64 n] w (TellsI (nxt m n) w) := by
  obtain ⟨v0, hv0⟩ : ∃ v, nxt m n = v := ⟨_, rfl⟩
  have hbest : ∀ v, Best m n (pts (strs m n 10)) v → v = v0 := fun v hv => by rw [← hv0]; exact (best_next h0 hv).unique (isNext m n h0 h1)
  rw [hv0]
  clear hv0
  have HBEST := Lib.hid hbest
  clear hbest
  obtain ⟨now, hnow⟩ : ∃ b, sil m n = b := ⟨_, rfl⟩
  have KS : Hid (∀ w, Calls Try.prog 13 #[.agg #[.string m.nm, .bool m.d0, .bool m.d1, .bool m.d2, .bool m.d3, .bool m.d4, .bool m.d5, .bool m.d6, .int .i64 m.f, .int .i64 m.t], .int .i64 n] w (TellsB now w)) := Lib.hid (fun w => by have := silent_any m n w; rw [hnow] at this; exact this)
  have HNOW := Lib.hid hnow
  clear hnow
  have KD := Lib.hid (fun w => date_any n w h0 h1)
  refine (callsIn_wide (n := 5)).1 ?_
  refine callsIn_of_wp_marks Try.func14 rfl trivial ?_ rfl
  simp only [Try.ntmps14, List.size_toArray, List.length_cons, List.length_nil, Nat.reduceAdd, Nat.reduceSub, Array.replicate_succ, Array.replicate_zero, List.push_toArray, List.append_toArray, List.nil_append, List.cons_append]
  refine wpIn_wide.2 ?_
  go_wp2_with fail
  refine (KD.out _).mono ?_
  rintro e w1 ⟨rfl, hb1⟩
  have hB : Below w.heap.size w w1 := (((Below.refl _ w).alloc (Nat.le_refl _) _).alloc (by simp) _).trans (hb1.mono (by simp; omega))
  have hlt : w.heap.size + 1 < w1.heap.size := by have := hb1.size; simp at this; omega
  have hlt0 : w.heap.size < w1.heap.size := by omega
  have hm : w1.heap[w.heap.size]? = some (.cells #[.string m.nm, .bool m.d0, .bool m.d1, .bool m.d2, .bool m.d3, .bool m.d4, .bool m.d5, .bool m.d6, .int .i64 m.f, .int .i64 m.t] 26 (0, 0)) := (hb1.block _ (by simp; omega)).trans ((Below.heap_alloc _ _ _ (by simp)).trans (World.alloc_heap_new w _))
  have bn : Boxed w1 (w.heap.size + 1) 3 (.int .i64 n) := by
    have e := Boxed.new (w.alloc (.cells #[.string m.nm, .bool m.d0, .bool m.d1, .bool m.d2, .bool m.d3, .bool m.d4, .bool m.d5, .bool m.d6, .int .i64 m.f, .int .i64 m.t] 26)) 3 (.int .i64 n)
    rw [World.size_alloc] at e
    exact (hb1.block _ (by simp)).trans e
  clear hb1 KD
  obtain ⟨c0, c1, c2, c3, c4, c5, c6, c7, c8, c9⟩ := mute_cells hm
  have cn := bn.cell
  go_wp2_with fail
  refine (KS.out _).mono ?_
  rintro e w2 ⟨rfl, hb2⟩
  clear c0 c1 c2 c3 c4 c5 c6 c7 c8 c9 cn
  have hw2 : w1.heap.size < w2.heap.size := by have := hb2.size; simp at this; omega
  have hB2 : Below w.heap.size w w2 := (hB.alloc hB.size _).trans (hb2.mono (by have := hB.size; simp; omega))
  have hm2 : w2.heap[w.heap.size]? = some (.cells #[.string m.nm, .bool m.d0, .bool m.d1, .bool m.d2, .bool m.d3, .bool m.d4, .bool m.d5, .bool m.d6, .int .i64 m.f, .int .i64 m.t] 26 (0, 0)) := (hb2.block _ (by simp; omega)).trans ((Below.heap_alloc _ _ _ hlt0).trans hm)
  have bn2 : Boxed w2 (w.heap.size + 1) 3 (.int .i64 n) := (hb2.block _ (by simp; omega)).trans (bn.alloc _)
  clear hm bn hB hb2 KS
  obtain ⟨c0, c1, c2, c3, c4, c5, c6, c7, c8, c9⟩ := mute_cells hm2
  have cn := bn2.cell
  have hlt3 : w.heap.size + 1 < w2.heap.size := by omega
  have hlt4 : w.heap.size < w2.heap.size := by omega
  go_wp2_with fail
  refine (stretches_any m n 9 _).mono ?_
  rintro e w3 ⟨rfl, rfl⟩
  clear c0 c1 c2 c3 c4 c5 c6 c7 c8 c9 cn
  go_wp2_with fail
  obtain ⟨bs, hbs⟩ : ∃ bs, bs = w2.heap.size := ⟨_, rfl⟩
  refine wp_gen (fun W => NX m n now w bs (bs + 1) (-1) W ∧ Boxes m n 9 (bs + 1 + 1) W) ?_ ?_
  · have ebs := Boxed.new w2 4 (.bool now)
    have eba := Boxed.new (w2.alloc (.cells #[.bool now] 4)) 3 (.int .i64 (-1))
    rw [World.size_alloc] at eba
    have ebx := Boxes.new m n 9 ((w2.alloc (.cells #[.bool now] 4)).alloc (.cells #[.int .i64 (-1)] 3))
    rw [World.size_alloc, World.size_alloc] at ebx
    rw [hbs]
    have old : ∀ k : Nat, k < w2.heap.size → ∀ o1 o2 o3 o4 o5 : Obj, (((((w2.alloc o1).alloc o2).alloc o3).alloc o4).alloc o5).heap[k]? = w2.heap[k]? := fun k hk o1 o2 o3 o4 o5 => by
      rw [Below.heap_alloc _ _ _ (by simp only [World.size_alloc]; omega), Below.heap_alloc _ _ _ (by simp only [World.size_alloc]; omega), Below.heap_alloc _ _ _ (by simp only [World.size_alloc]; omega), Below.heap_alloc _ _ _ (by simp only [World.size_alloc]; omega), Below.heap_alloc _ _ _ hk]
    refine ⟨⟨by simp only [World.size_alloc]; omega, ?_, (old _ hlt4 _ _ _ _ _).trans hm2, (old _ hlt3 _ _ _ _ _).trans bn2, (((ebs.alloc _).alloc _).alloc _).alloc _, ((eba.alloc _).alloc _).alloc _⟩, ebx⟩
    exact ((((hB2.alloc hB2.size _).alloc (by simp only [World.size_alloc]; omega) _).alloc (by simp only [World.size_alloc]; omega) _).alloc (by simp only [World.size_alloc]; omega) _).alloc (by simp only [World.size_alloc]; omega) _
  rintro W ⟨X, hBx⟩
  rw [← hbs]
  have hbs1 : w.heap.size + 1 < bs := by omega
  have hWs : w.heap.size ≤ W.heap.size := X.below.size
  clear hm2 bn2 hB2 hw2 hlt3 hlt4 hbs hlt hlt0
  refine (wpIn_wide (n := 5)).1 ?_
  apply wpIn_rangeFunc_ownF (F := Fence.wide) (n := 5) rfl (by omega) (gf := 23) (lb := #[.pointer (some ⟨bs + 1 + 1, 0, none⟩), .pointer (some ⟨bs + 1 + 1 + 1, 0, none⟩), .pointer (some ⟨bs + 1 + 1 + 1 + 1, 0, none⟩)]) rfl trivial (enters_of Try.func23 (by kernel_rfl) rfl)
    (stretches1_stops 4 (bs + 1 + 1) 9 m n W (by omega) hBx h0 h1 (by omega)) KB3.t (KB3.b hBx.lt) (Below.refl _ _) (fun _ => rfl)
    (NInv m n now w bs (bs + 1)) (fun _ _ _ => False) (NInv.own X.below.size) (fun _ _ _ _ _ hs _ _ => hs) ⟨-1, X, by simpa [pts] using Best.nil m n⟩ _ ?assign ?body ?done ?stop
  case assign =>
    intro l x W K hK
    gi_wp2
    exact hK
  case body =>
    clear X hBx hWs W
    rintro l pre ⟨x1, x2⟩ W ⟨v0, X, hb0⟩ _
    have HB0 := Lib.hid hb0
    clear hb0
    gi_wp2
    refine wpIn_gen (fun W' => RIn m n now w bs (bs + 1) (bs + 1 + 1) W.heap.size pre x1 x2 W 0 W') ?_ ?_
    · exact ⟨v0, X.grown (row := none) (World.grownBy_alloc W _ _) (fun l e => by cases e), by simpa using HB0.out, KeepsOthers.alloc _ _, ⟨by simp, fun k _ h2 => Below.heap_alloc _ _ _ (by have := X.lt; omega)⟩, World.alloc_heap_new W _⟩
    rintro W1 R0
    gi_loopw [32] (fun a wr => ∃ j : Nat, a = .int .i64 j ∧ j ≤ 2 ∧ RIn m n now w bs (bs + 1) (bs + 1 + 1) W.heap.size pre x1 x2 W j wr) (fun a _ => (2 - intOf a).toNat)
    · exact ⟨0, rfl, by omega, R0⟩
    obtain ⟨j, rfl, hj, v, X1, hb1, hko, hkb, hsl⟩ := hrel
    have HB1 := Lib.hid hb1
    have HWB := Lib.hid X.lt
    clear hb1 HB0 R0 X
    by_cases hj2 : j < 2
    · obtain ⟨x, hx, htk⟩ : ∃ x, wr.cell? ⟨W.heap.size, j, none⟩ = some (.int .i64 x) ∧ [x1, x2].take (j + 1) = [x1, x2].take j ++ [x] := by
        rcases (by omega : j = 0 ∨ j = 1) with rfl | rfl
        · exact ⟨x1, by simp [World.cell?, hsl], rfl⟩
        · exact ⟨x2, by simp [World.cell?, hsl], rfl⟩
      have HTK := Lib.hid htk
      clear htk
      have hjj : (j : Int) < 2 := by omega
      obtain ⟨c0, c1, c2, c3, c4, c5, c6, c7, c8, c9⟩ := mute_cells X1.bm
      have k0 := cell_regrown c0
      have k1 := cell_regrown c1
      have k2 := cell_regrown c2
      have k3 := cell_regrown c3
      have k4 := cell_regrown c4
      have k5 := cell_regrown c5
      have k6 := cell_regrown c6
      have k7 := cell_regrown c7
      have k8 := cell_regrown c8
      have k9 := cell_regrown c9
      have kn := cell_regrown X1.bn.cell
      have ks := cell_regrown X1.bs.cell
      have ka := cell_regrown X1.ba.cell
      have fa := X1.ba.frozen
      clear c0 c1 c2 c3 c4 c5 c6 c7 c8 c9
      obtain ⟨b, hb⟩ : ∃ b, sil m x = b := ⟨_, rfl⟩
      have kS : ∀ dd os, CallsIn (Fence.wide.inRound l) (5 - 1 - 1 - 1) Try.prog 13 #[.agg #[.string m.nm, .bool m.d0, .bool m.d1, .bool m.d2, .bool m.d3, .bool m.d4, .bool m.d5, .bool m.d6, .int .i64 m.f, .int .i64 m.t], .int .i64 x] (Sort.grow (redrawn wr dd) os) fun e w'' => e = .returned (.bool b) ∧ ∃ p : Regrown, w'' = Sort.grow (redrawn wr p.d) p.os := fun dd os => CallsIn.inRound l (callsIn_wide.2 (Calls.regrown_of (by rw [← hb]; exact silent_any m x _)))
      have HS := Lib.hid hb
      clear hb
      have HSL := Lib.hid hsl
      clear hsl
      have hWsb : bs + 1 < W.heap.size := by have := HWB.out; omega
      rcases Bool.eq_false_or_eq_true (decide (n < x)) with t1 | t1
      · rcases Bool.eq_false_or_eq_true (decide (v < 0)) with t2 | t2
        · rcases Bool.eq_false_or_eq_true (decide (x ≤ 1099511627776)) with t3 | t3
          · cases b <;> cases now
            · have e : Mut.step m n v x = v := step_no (fun hh => hh.2.2.1 (by rw [HS.out, HNOW.out]))
              gi_wp2
              refine region_quiet_below_round (by kernel_rfl) (by kernel_rfl) (by kernel_rfl) ?_
              repeat (refine wpQuietIn_step (fun _ _ _ _ => trivial) (fun K hK => ?_); go_simp; first | (refine hK _ ?_; clear hK K) | (apply Exists.intro; refine ⟨fun _ => ?_, hK _ ?_⟩; (exact kS _ _); clear hK K))
              refine wpQuietIn_nil ?_
              rintro w4 ⟨p, hw4⟩
              have hb4 : Below wr.heap.size wr w4 := by rw [hw4]; exact below_regrown _ _ _
              clear hw4 k0 k1 k2 k3 k4 k5 k6 k7 k8 k9 kn ks ka kS fa hx
              gi_wp2
              exact ⟨⟨j + 1, by simp, by omega, RIn.next h0 X1 HB1.out HTK.out hko hkb HSL.out hb4 e⟩, by simp [intOf]; omega⟩
            · have e : Mut.step m n v x = x := step_yes (by simpa using t1) (by simpa using t3) (fun hh => by rw [HS.out, HNOW.out] at hh; cases hh) (.inl (by simpa using t2))
              gi_wp2
              refine region_quiet_below_round (by kernel_rfl) (by kernel_rfl) (by kernel_rfl) ?_
              repeat (refine wpQuietIn_step (fun _ _ _ _ => trivial) (fun K hK => ?_); go_simp; first | (refine hK _ ?_; clear hK K) | (apply Exists.intro; refine ⟨fun _ => ?_, hK _ ?_⟩; (exact kS _ _); clear hK K))
              refine wpQuietIn_nil ?_
              rintro w4 ⟨p, hw4⟩
              have hb4 : Below wr.heap.size wr w4 := by rw [hw4]; exact below_regrown _ _ _
              clear hw4 k0 k1 k2 k3 k4 k5 k6 k7 k8 k9 kn ks ka kS fa hx
              have fa := (X1.later hb4).ba.frozen
              have ca := (X1.later hb4).ba.cell
              gi_wp2
              exact ⟨⟨j + 1, by simp, by omega, RIn.upd h0 X1 HB1.out HTK.out hko hkb HSL.out hb4 hbs1 hWsb e⟩, by simp [intOf]; omega⟩
            · have e : Mut.step m n v x = x := step_yes (by simpa using t1) (by simpa using t3) (fun hh => by rw [HS.out, HNOW.out] at hh; cases hh) (.inl (by simpa using t2))
              gi_wp2
              refine region_quiet_below_round (by kernel_rfl) (by kernel_rfl) (by kernel_rfl) ?_
              repeat (refine wpQuietIn_step (fun _ _ _ _ => trivial) (fun K hK => ?_); go_simp; first | (refine hK _ ?_; clear hK K) | (apply Exists.intro; refine ⟨fun _ => ?_, hK _ ?_⟩; (exact kS _ _); clear hK K))
              refine wpQuietIn_nil ?_
              rintro w4 ⟨p, hw4⟩
              have hb4 : Below wr.heap.size wr w4 := by rw [hw4]; exact below_regrown _ _ _
              clear hw4 k0 k1 k2 k3 k4 k5 k6 k7 k8 k9 kn ks ka kS fa hx
              have fa := (X1.later hb4).ba.frozen
              have ca := (X1.later hb4).ba.cell
              gi_wp2
              exact ⟨⟨j + 1, by simp, by omega, RIn.upd h0 X1 HB1.out HTK.out hko hkb HSL.out hb4 hbs1 hWsb e⟩, by simp [intOf]; omega⟩
            · have e : Mut.step m n v x = v := step_no (fun hh => hh.2.2.1 (by rw [HS.out, HNOW.out]))
              gi_wp2
              refine region_quiet_below_round (by kernel_rfl) (by kernel_rfl) (by kernel_rfl) ?_
              repeat (refine wpQuietIn_step (fun _ _ _ _ => trivial) (fun K hK => ?_); go_simp; first | (refine hK _ ?_; clear hK K) | (apply Exists.intro; refine ⟨fun _ => ?_, hK _ ?_⟩; (exact kS _ _); clear hK K))
              refine wpQuietIn_nil ?_
              rintro w4 ⟨p, hw4⟩
              have hb4 : Below wr.heap.size wr w4 := by rw [hw4]; exact below_regrown _ _ _
              clear hw4 k0 k1 k2 k3 k4 k5 k6 k7 k8 k9 kn ks ka kS fa hx
              gi_wp2
              exact ⟨⟨j + 1, by simp, by omega, RIn.next h0 X1 HB1.out HTK.out hko hkb HSL.out hb4 e⟩, by simp [intOf]; omega⟩
          · have e : Mut.step m n v x = v := step_no (fun hh => by have := hh.2.1; simp at t3; omega)
            gi_wp2
            refine region_quiet_below_round (by kernel_rfl) (by kernel_rfl) (by kernel_rfl) ?_
            repeat (refine wpQuietIn_step (fun _ _ _ _ => trivial) (fun K hK => ?_); go_simp; first | (refine hK _ ?_; clear hK K) | (apply Exists.intro; refine ⟨fun _ => ?_, hK _ ?_⟩; (exact kS _ _); clear hK K))
            refine wpQuietIn_nil ?_
            rintro w4 ⟨p, hw4⟩
            have hb4 : Below wr.heap.size wr w4 := by rw [hw4]; exact below_regrown _ _ _
            clear hw4 k0 k1 k2 k3 k4 k5 k6 k7 k8 k9 kn ks ka kS fa hx
            gi_wp2
            exact ⟨⟨j + 1, by simp, by omega, RIn.next h0 X1 HB1.out HTK.out hko hkb HSL.out hb4 e⟩, by simp [intOf]; omega⟩
        · rcases Bool.eq_false_or_eq_true (decide (x < v)) with t4 | t4
          · rcases Bool.eq_false_or_eq_true (decide (x ≤ 1099511627776)) with t3 | t3
            · cases b <;> cases now
              · have e : Mut.step m n v x = v := step_no (fun hh => hh.2.2.1 (by rw [HS.out, HNOW.out]))
                gi_wp2
                refine region_quiet_below_round (by kernel_rfl) (by kernel_rfl) (by kernel_rfl) ?_
                repeat (refine wpQuietIn_step (fun _ _ _ _ => trivial) (fun K hK => ?_); go_simp; first | (refine hK _ ?_; clear hK K) | (apply Exists.intro; refine ⟨fun _ => ?_, hK _ ?_⟩; (exact kS _ _); clear hK K))
                refine wpQuietIn_nil ?_
                rintro w4 ⟨p, hw4⟩
                have hb4 : Below wr.heap.size wr w4 := by rw [hw4]; exact below_regrown _ _ _
                clear hw4 k0 k1 k2 k3 k4 k5 k6 k7 k8 k9 kn ks ka kS fa hx
                gi_wp2
                exact ⟨⟨j + 1, by simp, by omega, RIn.next h0 X1 HB1.out HTK.out hko hkb HSL.out hb4 e⟩, by simp [intOf]; omega⟩
              · have e : Mut.step m n v x = x := step_yes (by simpa using t1) (by simpa using t3) (fun hh => by rw [HS.out, HNOW.out] at hh; cases hh) (.inr (by simpa using t4))
                gi_wp2
                refine region_quiet_below_round (by kernel_rfl) (by kernel_rfl) (by kernel_rfl) ?_
                repeat (refine wpQuietIn_step (fun _ _ _ _ => trivial) (fun K hK => ?_); go_simp; first | (refine hK _ ?_; clear hK K) | (apply Exists.intro; refine ⟨fun _ => ?_, hK _ ?_⟩; (exact kS _ _); clear hK K))
                refine wpQuietIn_nil ?_
                rintro w4 ⟨p, hw4⟩
                have hb4 : Below wr.heap.size wr w4 := by rw [hw4]; exact below_regrown _ _ _
                clear hw4 k0 k1 k2 k3 k4 k5 k6 k7 k8 k9 kn ks ka kS fa hx
                have fa := (X1.later hb4).ba.frozen
                have ca := (X1.later hb4).ba.cell
                gi_wp2
                exact ⟨⟨j + 1, by simp, by omega, RIn.upd h0 X1 HB1.out HTK.out hko hkb HSL.out hb4 hbs1 hWsb e⟩, by simp [intOf]; omega⟩
              · have e : Mut.step m n v x = x := step_yes (by simpa using t1) (by simpa using t3) (fun hh => by rw [HS.out, HNOW.out] at hh; cases hh) (.inr (by simpa using t4))
                gi_wp2
                refine region_quiet_below_round (by kernel_rfl) (by kernel_rfl) (by kernel_rfl) ?_
                repeat (refine wpQuietIn_step (fun _ _ _ _ => trivial) (fun K hK => ?_); go_simp; first | (refine hK _ ?_; clear hK K) | (apply Exists.intro; refine ⟨fun _ => ?_, hK _ ?_⟩; (exact kS _ _); clear hK K))
                refine wpQuietIn_nil ?_
                rintro w4 ⟨p, hw4⟩
                have hb4 : Below wr.heap.size wr w4 := by rw [hw4]; exact below_regrown _ _ _
                clear hw4 k0 k1 k2 k3 k4 k5 k6 k7 k8 k9 kn ks ka kS fa hx
                have fa := (X1.later hb4).ba.frozen
                have ca := (X1.later hb4).ba.cell
                gi_wp2
                exact ⟨⟨j + 1, by simp, by omega, RIn.upd h0 X1 HB1.out HTK.out hko hkb HSL.out hb4 hbs1 hWsb e⟩, by simp [intOf]; omega⟩
              · have e : Mut.step m n v x = v := step_no (fun hh => hh.2.2.1 (by rw [HS.out, HNOW.out]))
                gi_wp2
                refine region_quiet_below_round (by kernel_rfl) (by kernel_rfl) (by kernel_rfl) ?_
                repeat (refine wpQuietIn_step (fun _ _ _ _ => trivial) (fun K hK => ?_); go_simp; first | (refine hK _ ?_; clear hK K) | (apply Exists.intro; refine ⟨fun _ => ?_, hK _ ?_⟩; (exact kS _ _); clear hK K))
                refine wpQuietIn_nil ?_
                rintro w4 ⟨p, hw4⟩
                have hb4 : Below wr.heap.size wr w4 := by rw [hw4]; exact below_regrown _ _ _
                clear hw4 k0 k1 k2 k3 k4 k5 k6 k7 k8 k9 kn ks ka kS fa hx
                gi_wp2
                exact ⟨⟨j + 1, by simp, by omega, RIn.next h0 X1 HB1.out HTK.out hko hkb HSL.out hb4 e⟩, by simp [intOf]; omega⟩
            · have e : Mut.step m n v x = v := step_no (fun hh => by have := hh.2.1; simp at t3; omega)
              gi_wp2
              refine region_quiet_below_round (by kernel_rfl) (by kernel_rfl) (by kernel_rfl) ?_
              repeat (refine wpQuietIn_step (fun _ _ _ _ => trivial) (fun K hK => ?_); go_simp; first | (refine hK _ ?_; clear hK K) | (apply Exists.intro; refine ⟨fun _ => ?_, hK _ ?_⟩; (exact kS _ _); clear hK K))
              refine wpQuietIn_nil ?_
              rintro w4 ⟨p, hw4⟩
              have hb4 : Below wr.heap.size wr w4 := by rw [hw4]; exact below_regrown _ _ _
              clear hw4 k0 k1 k2 k3 k4 k5 k6 k7 k8 k9 kn ks ka kS fa hx
              gi_wp2
              exact ⟨⟨j + 1, by simp, by omega, RIn.next h0 X1 HB1.out HTK.out hko hkb HSL.out hb4 e⟩, by simp [intOf]; omega⟩
          · have e : Mut.step m n v x = v := step_no (fun hh => by have := hh.2.2.2; simp at t2 t4; omega)
            gi_wp2
            refine region_quiet_below_round (by kernel_rfl) (by kernel_rfl) (by kernel_rfl) ?_
            repeat (refine wpQuietIn_step (fun _ _ _ _ => trivial) (fun K hK => ?_); go_simp; first | (refine hK _ ?_; clear hK K) | (apply Exists.intro; refine ⟨fun _ => ?_, hK _ ?_⟩; (exact kS _ _); clear hK K))
            refine wpQuietIn_nil ?_
            rintro w4 ⟨p, hw4⟩
            have hb4 : Below wr.heap.size wr w4 := by rw [hw4]; exact below_regrown _ _ _
            clear hw4 k0 k1 k2 k3 k4 k5 k6 k7 k8 k9 kn ks ka kS fa hx
            gi_wp2
            exact ⟨⟨j + 1, by simp, by omega, RIn.next h0 X1 HB1.out HTK.out hko hkb HSL.out hb4 e⟩, by simp [intOf]; omega⟩
      · have e : Mut.step m n v x = v := step_no (fun hh => by have := hh.1; simp at t1; omega)
        gi_wp2
        refine region_quiet_below_round (by kernel_rfl) (by kernel_rfl) (by kernel_rfl) ?_
        repeat (refine wpQuietIn_step (fun _ _ _ _ => trivial) (fun K hK => ?_); go_simp; first | (refine hK _ ?_; clear hK K) | (apply Exists.intro; refine ⟨fun _ => ?_, hK _ ?_⟩; (exact kS _ _); clear hK K))
        refine wpQuietIn_nil ?_
        rintro w4 ⟨p, hw4⟩
        have hb4 : Below wr.heap.size wr w4 := by rw [hw4]; exact below_regrown _ _ _
        clear hw4 k0 k1 k2 k3 k4 k5 k6 k7 k8 k9 kn ks ka kS fa hx
        gi_wp2
        exact ⟨⟨j + 1, by simp, by omega, RIn.next h0 X1 HB1.out HTK.out hko hkb HSL.out hb4 e⟩, by simp [intOf]; omega⟩
    · have : j = 2 := by omega
      subst this
      gi_wp2
      refine ⟨hko, hkb, v, X1, ?_⟩
      have e := HB1.out
      rw [pts_snoc, List.append_assoc]
      exact e
  case done =>
    rintro D xs W' hD rfl ⟨v, X', hb⟩ hK
    have e := HBEST.out v hb
    subst e
    have HK := Lib.hid hK
    have ca := X'.ba.cell
    have hend := X'.below.trans (belowK_b (w := w) (Nat.le_refl _) _ D _ (.deferred none) (by omega) hK rfl rfl)
    have HEND := Lib.hid hend
    clear hb hK hend
    go_wp2
    refine ⟨by simp, .inl ⟨_, _, rfl, run_takeDeferred HK.out, ?_⟩⟩
    exact ⟨_, results_tmp rfl _ _ _, rfl, HEND.out⟩
  case stop =>
    rintro D c pre W _ _ h _
    exact h.elim

theorem next_any (m : MuteD) (n : Int) (w : World) : Calls Try.prog 14 #[.agg #[.string m.nm, .bool m.d0, .bool m.d1, .bool m.d2, .bool m.d3, .bool m.d4, .bool m.d5, .bool m.d6, .int .i64 m.f, .int .i64 m.t], .int .i64 n] w (TellsI (nxt m n) w) := by
  by_cases h : n < 0 ∨ 1099511627776 < n
  · exact next_no m n w h
  · exact next_yes m n w (by omega) (by omega)

end Go.Proofs.Ytkpkeachhkbbkaa
