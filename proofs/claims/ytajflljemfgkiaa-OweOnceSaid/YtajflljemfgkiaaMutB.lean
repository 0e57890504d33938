/- mute.Silent; the reference's Silent -/
import Derived.Test.YtajflljemfgkiaaMutA
import Derived.RangeFuncBox
namespace Go.Proofs.Ytajflljemfgkiaa
open Go.RowKit Go.Shelf Mut
attribute [local go_sem] Oper.semAt_some

theorem boxed_kept {W W' : World} {B : Nat} {t : TypeId} {v : Value} (h : Boxed W B t v) {row : Option Nat} (hg : W.grownBy W' row) (hr : ∀ r, row = some r → ∃ o : Obj, W.heap[r]? = some o ∧ o.isCells = false) : Boxed W' B t v :=
  h.kept hg (fun e' => by
    obtain ⟨o, ho, hc⟩ := hr B e'.symm
    rw [show W.heap[B]? = _ from h] at ho; cases ho; cases hc)

/-- Silent's own cells: the minute, the answer -/
structure SI (w : World) (n : Int) (r : Bool) (W : World) : Prop where
  below : Below w.heap.size w W
  bn : Boxed W (w.heap.size + 1) 3 (.int .i64 n)
  br : Boxed W (w.heap.size + 1 + 1) 4 (.bool r)
theorem SI.grown {w : World} {n : Int} {r : Bool} {X Y : World} (h : SI w n r X) {row : Option Nat} (hg : X.grownBy Y row) (hr : ∀ l, row = some l → w.heap.size ≤ l ∧ ∃ o : Obj, X.heap[l]? = some o ∧ o.isCells = false) : SI w n r Y :=
  ⟨h.below.grown hg h.below.size (fun k e => (hr k e).1), boxed_kept h.bn hg (fun l e => (hr l e).2), boxed_kept h.br hg (fun l e => (hr l e).2)⟩
def SInv (w : World) (n : Int) (pre : List (Int × Int)) (W : World) : Prop := SI w n false W ∧ ∀ p ∈ pre, ¬ (p.1 ≤ n ∧ n < p.2)
def SOut (w : World) (n : Int) (c : Code) (pre : List (Int × Int)) (W : World) : Prop := c = .ret ∧ SI w n true W ∧ ∃ p ∈ pre, p.1 ≤ n ∧ n < p.2
theorem SInv.own {w : World} {n : Int} {B : Nat} (hB : w.heap.size ≤ B) : OwnFrom B (SInv w n) := fun s X Y row hs hg hr =>
  ⟨hs.1.grown hg (fun l e => ⟨by have := (hr l e).1; omega, (hr l e).2⟩), hs.2⟩
theorem SOut.own {w : World} {n : Int} {B : Nat} (hB : w.heap.size ≤ B) (c : Code) : OwnFrom B (SOut w n c) := fun s X Y row hs hg hr =>
  ⟨hs.1, hs.2.1.grown hg (fun l e => ⟨by have := (hr l e).1; omega, (hr l e).2⟩), hs.2.2⟩
theorem KB3.setCell {b : Nat} (W : World) (p : Addr) (v : Value) (h : p.block < b ∨ b + 3 ≤ p.block) : KB3 b W (W.setCell p v) :=
  ⟨by simp, fun k h1 h2 => Below.heap_setCell _ _ _ k (by omega)⟩
theorem KB3.refl (b : Nat) (W : World) : KB3 b W W := ⟨Nat.le_refl _, fun _ _ _ => rfl⟩
/-- a returned bool, and nothing that was there has turned: behind a name -/
def TellsB (b : Bool) (w : World) (e : Ending) (w' : World) : Prop := e = .returned (.bool b) ∧ Below w.heap.size w w'

theorem mute_cells {m : MuteD} {W : World} {b : Nat} {t : TypeId} (h : W.heap[b]? = some (.cells #[.string m.nm, .bool m.d0, .bool m.d1, .bool m.d2, .bool m.d3, .bool m.d4, .bool m.d5, .bool m.d6, .int .i64 m.f, .int .i64 m.t] t (0, 0))) :
    W.cell? ⟨b, 0, none⟩ = some (.string m.nm) ∧ W.cell? ⟨b, 1, none⟩ = some (.bool m.d0) ∧ W.cell? ⟨b, 2, none⟩ = some (.bool m.d1) ∧ W.cell? ⟨b, 3, none⟩ = some (.bool m.d2) ∧ W.cell? ⟨b, 4, none⟩ = some (.bool m.d3) ∧ W.cell? ⟨b, 5, none⟩ = some (.bool m.d4) ∧
    W.cell? ⟨b, 6, none⟩ = some (.bool m.d5) ∧ W.cell? ⟨b, 7, none⟩ = some (.bool m.d6) ∧ W.cell? ⟨b, 8, none⟩ = some (.int .i64 m.f) ∧ W.cell? ⟨b, 9, none⟩ = some (.int .i64 m.t) := by
  refine ⟨?_, ?_, ?_, ?_, ?_, ?_, ?_, ?_, ?_, ?_⟩ <;> simp [World.cell?, h]

/-- the three blocks with which Silent begins -/
theorem silent_blocks (m : MuteD) (n : Int) (w w1 : World) (hb1 : Below (w.heap.size + 1 + 1 + 1) (((w.alloc (.cells #[.string m.nm, .bool m.d0, .bool m.d1, .bool m.d2, .bool m.d3, .bool m.d4, .bool m.d5, .bool m.d6, .int .i64 m.f, .int .i64 m.t] 46)).alloc (.cells #[.int .i64 n] 3)).alloc (.cells #[.bool false] 4)) w1) :
    Below w.heap.size w w1 ∧ w.heap.size + 1 + 1 < w1.heap.size ∧ w1.heap[w.heap.size]? = some (.cells #[.string m.nm, .bool m.d0, .bool m.d1, .bool m.d2, .bool m.d3, .bool m.d4, .bool m.d5, .bool m.d6, .int .i64 m.f, .int .i64 m.t] 46 (0, 0)) ∧ Boxed w1 (w.heap.size + 1) 3 (.int .i64 n) ∧ Boxed w1 (w.heap.size + 1 + 1) 4 (.bool false) := by
  have b0 : Below w.heap.size w (((w.alloc (.cells #[.string m.nm, .bool m.d0, .bool m.d1, .bool m.d2, .bool m.d3, .bool m.d4, .bool m.d5, .bool m.d6, .int .i64 m.f, .int .i64 m.t] 46)).alloc (.cells #[.int .i64 n] 3)).alloc (.cells #[.bool false] 4)) := (((Below.refl _ w).alloc (Nat.le_refl _) _).alloc (by simp) _).alloc (by simp; omega) _
  have e1 := Boxed.new (w.alloc (.cells #[.string m.nm, .bool m.d0, .bool m.d1, .bool m.d2, .bool m.d3, .bool m.d4, .bool m.d5, .bool m.d6, .int .i64 m.f, .int .i64 m.t] 46)) 3 (.int .i64 n)
  have e2 := Boxed.new ((w.alloc (.cells #[.string m.nm, .bool m.d0, .bool m.d1, .bool m.d2, .bool m.d3, .bool m.d4, .bool m.d5, .bool m.d6, .int .i64 m.f, .int .i64 m.t] 46)).alloc (.cells #[.int .i64 n] 3)) 4 (.bool false)
  have s1 : (w.alloc (.cells #[.string m.nm, .bool m.d0, .bool m.d1, .bool m.d2, .bool m.d3, .bool m.d4, .bool m.d5, .bool m.d6, .int .i64 m.f, .int .i64 m.t] 46)).heap.size = w.heap.size + 1 := by simp
  have s2 : ((w.alloc (.cells #[.string m.nm, .bool m.d0, .bool m.d1, .bool m.d2, .bool m.d3, .bool m.d4, .bool m.d5, .bool m.d6, .int .i64 m.f, .int .i64 m.t] 46)).alloc (.cells #[.int .i64 n] 3)).heap.size = w.heap.size + 1 + 1 := by simp
  rw [s1] at e1
  rw [s2] at e2
  have e0 := World.alloc_heap_new w (.cells #[.string m.nm, .bool m.d0, .bool m.d1, .bool m.d2, .bool m.d3, .bool m.d4, .bool m.d5, .bool m.d6, .int .i64 m.f, .int .i64 m.t] 46)
  refine ⟨b0.trans (hb1.mono (by omega)), by have := hb1.size; simp at this; omega, ?_, (hb1.block _ (by omega)).trans (e1.alloc _), (hb1.block _ (by omega)).trans e2⟩
  refine (hb1.block _ (by omega)).trans ?_
  exact (Below.heap_alloc _ _ _ (by simp; omega)).trans ((Below.heap_alloc _ _ _ (by simp)).trans e0)

/-- the iterator's boxes as they are made -/
theorem Boxes.new (m : MuteD) (n k : Int) (W : World) : Boxes m n k W.heap.size (((W.alloc (.cells #[.string m.nm, .bool m.d0, .bool m.d1, .bool m.d2, .bool m.d3, .bool m.d4, .bool m.d5, .bool m.d6, .int .i64 m.f, .int .i64 m.t] 46)).alloc (.cells #[.int .i64 n] 3)).alloc (.cells #[.int .i64 k] 3)) := by
  have e1 := Boxed.new (W.alloc (.cells #[.string m.nm, .bool m.d0, .bool m.d1, .bool m.d2, .bool m.d3, .bool m.d4, .bool m.d5, .bool m.d6, .int .i64 m.f, .int .i64 m.t] 46)) 3 (.int .i64 n)
  have e2 := Boxed.new ((W.alloc (.cells #[.string m.nm, .bool m.d0, .bool m.d1, .bool m.d2, .bool m.d3, .bool m.d4, .bool m.d5, .bool m.d6, .int .i64 m.f, .int .i64 m.t] 46)).alloc (.cells #[.int .i64 n] 3)) 3 (.int .i64 k)
  rw [World.size_alloc] at e1
  rw [World.size_alloc, World.size_alloc] at e2
  refine ⟨by simp only [World.size_alloc]; omega, ?_, e1.alloc _, e2⟩
  exact (Below.heap_alloc _ _ _ (by simp only [World.size_alloc]; omega)).trans ((Below.heap_alloc _ _ _ (by simp only [World.size_alloc]; omega)).trans (World.alloc_heap_new W _))

set_option maxRecDepth 100000 in
set_option maxHeartbeats 2000000 in
theorem silent_any (m : MuteD) (n : Int) (w : World) :
    Calls Try.prog 24 #[.agg #[.string m.nm, .bool m.d0, .bool m.d1, .bool m.d2, .bool m.d3, .bool m.d4, .bool m.d5, .bool m.d6, .int .i64 m.f, .int .i64 m.t], .int .i64 n] w (TellsB (sil m n) w) := by
  by_cases hbad : n < 0 ∨ 1099511627776 < n
  · have hs : sil m n = false := by
      unfold sil
      rw [decide_eq_false_iff_not]
      intro h; have := h.1; have := h.2.1; omega
    rw [hs]
    have HB := Lib.hid hbad
    clear hbad hs
    go_enter Try.func24, Try.ntmps24
    go_wp2_with fail
    refine (date_no _ _ HB.out).mono ?_
    rintro e w1 ⟨rfl, hb1⟩
    obtain ⟨hB, hlt, hm, bn, br⟩ := silent_blocks m n w w1 (by simpa using hb1)
    clear hb1 hm bn
    have c := br.cell
    have f := br.frozen
    have c2 : ∀ o, ((w1.setCell ⟨w.heap.size + 1 + 1, 0, none⟩ (.bool false)).alloc o).cell? ⟨w.heap.size + 1 + 1, 0, none⟩ = some (.bool false) := fun o => ((br.set (.bool false)).alloc o).cell
    go_wp2_with fail
    refine bodyPost_ret (v := .bool false) ?_ rfl ⟨rfl, (hB.setCell (p := ⟨w.heap.size + 1 + 1, 0, none⟩) (by simp; omega) _).alloc (by simpa using hB.size) _⟩
    simp [results, Try.results24, go_sem, c2]
  · have h0 : 0 ≤ n := by omega
    have h1 : n ≤ 1099511627776 := by omega
    have hsil := sil_iff m n h0 h1
    have KD := Lib.hid (fun w => date_any n w h0 h1)
    have HS := Lib.hid hsil
    clear hbad hsil
    refine (callsIn_wide (n := 5)).1 ?_
    refine callsIn_of_wp_marks Try.func24 rfl trivial ?_ rfl
    simp only [Try.ntmps24, List.size_toArray, List.length_cons, List.length_nil, Nat.reduceAdd, Nat.reduceSub, Array.replicate_succ, Array.replicate_zero, List.push_toArray, List.append_toArray, List.nil_append, List.cons_append]
    refine wpIn_wide.2 ?_
    go_wp2_with fail
    refine (KD.out _).mono ?_
    rintro e w1 ⟨rfl, hb1⟩
    obtain ⟨hB, hlt, hm, bn, br⟩ := silent_blocks m n w w1 (by simpa using hb1)
    clear hb1
    obtain ⟨c0, c1, c2, c3, c4, c5, c6, c7, c8, c9⟩ := mute_cells hm
    have cn := bn.cell
    have hlt0 : w.heap.size < w1.heap.size := by omega
    have hlt1 : w.heap.size + 1 < w1.heap.size := by omega
    go_wp2_with fail
    refine (stretches_any m n 1 _).mono ?_
    rintro e w2 ⟨rfl, rfl⟩
    clear c0 c1 c2 c3 c4 c5 c6 c7 c8 c9 cn hm KD
    go_wp2_with fail
    obtain ⟨b, hb⟩ : ∃ b, b = w1.heap.size + 1 := ⟨_, rfl⟩
    have hbB : w.heap.size + 1 + 1 < b := by omega
    refine wp_gen (fun W => SI w n false W ∧ Boxes m n 1 b W) ?_ ?_
    · refine ⟨⟨?_, (((bn.alloc _).alloc _).alloc _).alloc _, (((br.alloc _).alloc _).alloc _).alloc _⟩, ?_⟩
      · exact (((hB.alloc hB.size _).alloc (by simp only [World.size_alloc]; omega) _).alloc (by simp only [World.size_alloc]; omega) _).alloc (by simp only [World.size_alloc]; omega) _
      · rw [hb]
        have := Boxes.new m n 1 (w1.alloc (.cells #[.int .i64 (Civ.yOf (n / 1440 + 719162)), .int .i64 (Civ.mOf (n / 1440 + 719162)), .int .i64 (Civ.dOf (n / 1440 + 719162)), .int .i64 ((n / 1440 + 3) % 7), .int .i64 (n % 1440)] 61))
        rw [World.size_alloc] at this
        exact this
    rintro W ⟨S, hBx⟩
    rw [← hb]
    clear hb bn br hlt0 hlt1 hlt hB
    have hWs : w.heap.size ≤ W.heap.size := S.below.size
    refine (wpIn_wide (n := 5)).1 ?_
    apply wpIn_rangeFunc_ownF (F := Fence.wide) (n := 5) rfl (by omega) (gf := 41) (lb := #[.pointer (some ⟨b, 0, none⟩), .pointer (some ⟨b + 1, 0, none⟩), .pointer (some ⟨b + 1 + 1, 0, none⟩)]) rfl trivial (enters_of Try.func41 (by kernel_rfl) rfl)
      (stretches1_stops 4 b 1 m n W (by omega) hBx h0 h1 (by omega)) KB3.t (KB3.b hBx.lt) (Below.refl _ _) (fun _ => rfl)
      (SInv w n) (SOut w n) (SInv.own S.below.size) (SOut.own S.below.size) ⟨S, fun p hp => by cases hp⟩ _ ?assign ?body ?done ?stop
    case assign =>
      intro l x W K hK
      gi_wp2
      exact hK
    case body =>
      rintro l pre ⟨x1, x2⟩ W ⟨S, hne⟩ _
      have cn := S.bn.cell
      have cr := S.br.cell
      have fr := S.br.frozen
      have HNE := Lib.hid hne
      clear hne
      by_cases t1 : x1 ≤ n
      · by_cases t2 : n < x2
        · gi_wp2
          exact ⟨KeepsOthers.setCell _ _ _, rfl, ⟨S.below.setCell (p := ⟨w.heap.size + 1 + 1, 0, none⟩) (by simp; omega) _, S.bn.kept (grownBy_setCell' W _ _) (by simp), S.br.set _⟩, (x1, x2), by simp, t1, t2⟩
        · gi_wp2
          refine ⟨KeepsOthers.refl _, KB3.refl _ _, S, fun p hp => ?_⟩
          rcases List.mem_append.1 hp with hp | hp
          · exact HNE.out p hp
          · obtain rfl : p = (x1, x2) := by simpa using hp
            exact fun h => by have := h.2; omega
      · have t1' : n < x1 := by omega
        gi_wp2
        refine ⟨KeepsOthers.refl _, KB3.refl _ _, S, fun p hp => ?_⟩
        rcases List.mem_append.1 hp with hp | hp
        · exact HNE.out p hp
        · obtain rfl : p = (x1, x2) := by simpa using hp
          exact fun h => by have := h.1; omega
    case done =>
      rintro D xs W hD rfl ⟨S, hne⟩ hK
      have hs : sil m n = false := by
        unfold sil
        rw [decide_eq_false_iff_not, HS.out]
        rintro ⟨p, hp, h⟩
        exact hne p hp h
      have HSF := Lib.hid hs
      have HK := Lib.hid hK
      have cr := S.br.cell
      have fr := S.br.frozen
      clear hs hne hK
      have hbel := S.below.setCell (p := ⟨w.heap.size + 1 + 1, 0, none⟩) (by simp; omega) (.bool false)
      have hK' := (KeepsOthers.setCell W ⟨w.heap.size + 1 + 1, 0, none⟩ (.bool false)).same D _ HK.out rfl
      have g := cell_kept (S.br.set (.bool false)).cell (grownBy_putObj' _ D (.deferred none)) (fun r e => by cases e; exact ⟨_, hK', rfl⟩)
      have hend := hbel.trans (belowK_b (w := w) (Nat.le_refl _) _ D _ (.deferred none) (by omega) hK' rfl rfl)
      have HEND := Lib.hid hend
      have HK' := Lib.hid hK'
      have G := Lib.hid g
      clear hbel hK' g hend
      go_wp2
      refine ⟨by simp, .inl ⟨_, _, rfl, run_takeDeferred HK'.out, ?_⟩⟩
      refine ⟨.bool false, ?_, by rw [HSF.out], HEND.out⟩
      have g := G.out
      simp [results, Try.results24, go_sem, g]
    case stop =>
      rintro D c pre W hD hSp ⟨rfl, S, p, hp, hpn⟩ hK
      have hs : sil m n = true := by
        unfold sil
        rw [decide_eq_true_iff, HS.out]
        obtain ⟨k, hk, hok, hon, rfl⟩ := hSp
        refine ⟨p, ?_, hpn⟩
        unfold strs; rw [if_pos hok]
        obtain ⟨i, hi, ho, e⟩ := mem_strl.1 hp
        exact mem_strl.2 ⟨i, by omega, ho, e⟩
      have HSF := Lib.hid hs
      have HK := Lib.hid hK
      have cr := S.br.cell
      have g := cell_kept cr (grownBy_putObj' _ D (.deferred none)) (fun r e => by cases e; exact ⟨_, hK, rfl⟩)
      have hend := S.below.trans (belowK_b (w := w) (Nat.le_refl _) _ D _ (.deferred none) (by omega) hK rfl rfl)
      have HEND := Lib.hid hend
      have G := Lib.hid g
      clear hs hK hSp hp g hend
      refine wpIn_wide.2 ?_
      go_wp2
      refine ⟨by simp, .inl ⟨_, _, rfl, run_takeDeferred HK.out, ?_⟩⟩
      refine ⟨.bool true, ?_, by rw [HSF.out], HEND.out⟩
      have g := G.out
      simp [results, Try.results24, go_sem, g]

end Go.Proofs.Ytajflljemfgkiaa
