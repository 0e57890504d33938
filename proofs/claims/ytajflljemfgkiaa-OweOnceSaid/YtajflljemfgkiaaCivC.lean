/- civil.Date: the part ahead of the months -/
import Derived.Test.YtajflljemfgkiaaCivB
import Derived.Deep.LoopGhost
import Derived.BigQuiet
import Derived.Deep.QuietTactic
namespace Go.Proofs.Ytajflljemfgkiaa
open Go.RowKit Go.Shelf
attribute [local go_sem] Oper.semAt_some

theorem ahead_st (y v : Int) (w : World) (h0 : 1 ≤ y) (h1 : y ≤ 1000000000000) (hv : Civ.ahd y = v) :
    Calls Try.prog 39 #[.int .i64 y] w fun e w' => e = .returned (.int .i64 v) ∧ w' = w :=
  (ahead_any y w h0 h1).mono fun _ _ ⟨he, hw⟩ => ⟨by rw [he, hv], hw.symm⟩

/-- the world may be forgotten but for what is known of it -/
theorem wp_gen {P : Program} {c : Code} {Q : Exit → Act → World → Prop} {a : Act} {W : World} (I : World → Prop) (hI : I W) (h : ∀ W', I W' → c.wp P Q a W') : c.wp P Q a W := h W hI
theorem still_tail {P : Program} {id : Nat} {Q : Exit → Act → World → Prop} {a : Act} {w : World} {l : List Oper} (n : Nat) (hm : P.follows .mixedOrders = true) (hB : Region.lexTailB .any l.toArray n = true)
    (h : wpStill P l.toArray w.drew (fun a' => wpList P l.toArray Q (l.drop n) a' w.drew) (l.take n) a) : (Code.region id l.toArray true).wp P Q a w := wp_region_still_tail n hm hB h
theorem still_all {P : Program} {id : Nat} {Q : Exit → Act → World → Prop} {a : Act} {w : World} {l : List Oper} (hm : P.follows .mixedOrders = true) (hB : Region.lexB .any l.toArray = true)
    (h : wpStill P l.toArray w.drew (fun a' => Q .normal a' w.drew) l a) : (Code.region id l.toArray true).wp P Q a w := wp_region_still_lit hm hB h

theorem setc_same (W : World) (a : Addr) (v : Value) {u : Value} (h : W.cell? a = some u) : (W.setCell a v).cell? a = some v := by
  first | exact World.cell?_setCell_same _ _ _ h | exact World.cell?_setCell_same' _ _ _ (by rw [h]; rfl)
theorem setc_other (W : World) (a b : Addr) (v : Value) (h : a ≠ b) : (W.setCell a v).cell? b = W.cell? b := World.cell?_setCell_other W a b v h

/-- the state of Date: 'rest' in one cell, the result's fields in five -/
structure DS (w W : World) (wd mi r y m d : Int) : Prop where
  below : Below w.heap.size w W
  size : w.heap.size + 2 < W.heap.size
  cr : W.cell? ⟨w.heap.size + 1, 0, none⟩ = some (.int .i64 r)
  fr : W.frozen? ⟨w.heap.size + 1, 0, none⟩ = false
  c0 : W.cell? ⟨w.heap.size + 1 + 1, 0, none⟩ = some (.int .i64 y)
  c1 : W.cell? ⟨w.heap.size + 1 + 1, 1, none⟩ = some (.int .i64 m)
  c2 : W.cell? ⟨w.heap.size + 1 + 1, 2, none⟩ = some (.int .i64 d)
  c3 : W.cell? ⟨w.heap.size + 1 + 1, 3, none⟩ = some (.int .i64 wd)
  c4 : W.cell? ⟨w.heap.size + 1 + 1, 4, none⟩ = some (.int .i64 mi)
  f : ∀ o, W.frozen? ⟨w.heap.size + 1 + 1, o, none⟩ = false
  e0 : W.cell? ⟨w.heap.size, 0, none⟩ = some (.int .i64 0)
  e1 : W.cell? ⟨w.heap.size, 1, none⟩ = some (.int .i64 0)
  e2 : W.cell? ⟨w.heap.size, 2, none⟩ = some (.int .i64 0)
  e3 : W.cell? ⟨w.heap.size, 3, none⟩ = some (.int .i64 0)
  e4 : W.cell? ⟨w.heap.size, 4, none⟩ = some (.int .i64 0)
  fe : ∀ o, W.frozen? ⟨w.heap.size, o, none⟩ = false

theorem DS.drew {w W : World} {wd mi r y m d : Int} (h : DS w W wd mi r y m d) : DS w W.drew wd mi r y m d :=
  ⟨h.below.drew, h.size, h.cr, h.fr, h.c0, h.c1, h.c2, h.c3, h.c4, h.f, h.e0, h.e1, h.e2, h.e3, h.e4, h.fe⟩
theorem DS.setR {w W : World} {wd mi r y m d : Int} (h : DS w W wd mi r y m d) (v : Int) : DS w (W.setCell ⟨w.heap.size + 1, 0, none⟩ (.int .i64 v)) wd mi v y m d := by
  have hf : ∀ b o, b ≠ w.heap.size + 1 → (W.setCell ⟨w.heap.size + 1, 0, none⟩ (.int .i64 v)).cell? ⟨b, o, none⟩ = W.cell? ⟨b, o, none⟩ := fun b o hb => setc_other _ _ _ _ (by simp only [ne_eq, Addr.mk.injEq]; omega)
  exact ⟨h.below.setCell (p := ⟨w.heap.size + 1, 0, none⟩) (by simp) _, by simpa using h.size, setc_same _ _ _ h.cr, by rw [World.frozen?_setCell]; exact h.fr,
    by rw [hf _ _ (by omega)]; exact h.c0, by rw [hf _ _ (by omega)]; exact h.c1, by rw [hf _ _ (by omega)]; exact h.c2, by rw [hf _ _ (by omega)]; exact h.c3, by rw [hf _ _ (by omega)]; exact h.c4,
    fun o => by rw [World.frozen?_setCell]; exact h.f o, by rw [hf _ _ (by omega)]; exact h.e0, by rw [hf _ _ (by omega)]; exact h.e1, by rw [hf _ _ (by omega)]; exact h.e2, by rw [hf _ _ (by omega)]; exact h.e3, by rw [hf _ _ (by omega)]; exact h.e4,
    fun o => by rw [World.frozen?_setCell]; exact h.fe o⟩
theorem DS.setY {w W : World} {wd mi r y m d : Int} (h : DS w W wd mi r y m d) (v : Int) : DS w (W.setCell ⟨w.heap.size + 1 + 1, 0, none⟩ (.int .i64 v)) wd mi r v m d := by
  have hf : ∀ b o, b ≠ w.heap.size + 1 + 1 ∨ o ≠ 0 → (W.setCell ⟨w.heap.size + 1 + 1, 0, none⟩ (.int .i64 v)).cell? ⟨b, o, none⟩ = W.cell? ⟨b, o, none⟩ := fun b o hb => setc_other _ _ _ _ (by simp only [ne_eq, Addr.mk.injEq]; omega)
  exact ⟨h.below.setCell (p := ⟨w.heap.size + 1 + 1, 0, none⟩) (by simp; omega) _, by simpa using h.size, by rw [hf _ _ (by omega)]; exact h.cr, by rw [World.frozen?_setCell]; exact h.fr,
    setc_same _ _ _ h.c0, by rw [hf _ _ (by omega)]; exact h.c1, by rw [hf _ _ (by omega)]; exact h.c2, by rw [hf _ _ (by omega)]; exact h.c3, by rw [hf _ _ (by omega)]; exact h.c4,
    fun o => by rw [World.frozen?_setCell]; exact h.f o, by rw [hf _ _ (by omega)]; exact h.e0, by rw [hf _ _ (by omega)]; exact h.e1, by rw [hf _ _ (by omega)]; exact h.e2, by rw [hf _ _ (by omega)]; exact h.e3, by rw [hf _ _ (by omega)]; exact h.e4,
    fun o => by rw [World.frozen?_setCell]; exact h.fe o⟩
theorem DS.setM {w W : World} {wd mi r y m d : Int} (h : DS w W wd mi r y m d) (v : Int) : DS w (W.setCell ⟨w.heap.size + 1 + 1, 1, none⟩ (.int .i64 v)) wd mi r y v d := by
  have hf : ∀ b o, b ≠ w.heap.size + 1 + 1 ∨ o ≠ 1 → (W.setCell ⟨w.heap.size + 1 + 1, 1, none⟩ (.int .i64 v)).cell? ⟨b, o, none⟩ = W.cell? ⟨b, o, none⟩ := fun b o hb => setc_other _ _ _ _ (by simp only [ne_eq, Addr.mk.injEq]; omega)
  exact ⟨h.below.setCell (p := ⟨w.heap.size + 1 + 1, 1, none⟩) (by simp; omega) _, by simpa using h.size, by rw [hf _ _ (by omega)]; exact h.cr, by rw [World.frozen?_setCell]; exact h.fr,
    by rw [hf _ _ (by omega)]; exact h.c0, setc_same _ _ _ h.c1, by rw [hf _ _ (by omega)]; exact h.c2, by rw [hf _ _ (by omega)]; exact h.c3, by rw [hf _ _ (by omega)]; exact h.c4,
    fun o => by rw [World.frozen?_setCell]; exact h.f o, by rw [hf _ _ (by omega)]; exact h.e0, by rw [hf _ _ (by omega)]; exact h.e1, by rw [hf _ _ (by omega)]; exact h.e2, by rw [hf _ _ (by omega)]; exact h.e3, by rw [hf _ _ (by omega)]; exact h.e4,
    fun o => by rw [World.frozen?_setCell]; exact h.fe o⟩
theorem DS.setD {w W : World} {wd mi r y m d : Int} (h : DS w W wd mi r y m d) (v : Int) : DS w (W.setCell ⟨w.heap.size + 1 + 1, 2, none⟩ (.int .i64 v)) wd mi r y m v := by
  have hf : ∀ b o, b ≠ w.heap.size + 1 + 1 ∨ o ≠ 2 → (W.setCell ⟨w.heap.size + 1 + 1, 2, none⟩ (.int .i64 v)).cell? ⟨b, o, none⟩ = W.cell? ⟨b, o, none⟩ := fun b o hb => setc_other _ _ _ _ (by simp only [ne_eq, Addr.mk.injEq]; omega)
  exact ⟨h.below.setCell (p := ⟨w.heap.size + 1 + 1, 2, none⟩) (by simp; omega) _, by simpa using h.size, by rw [hf _ _ (by omega)]; exact h.cr, by rw [World.frozen?_setCell]; exact h.fr,
    by rw [hf _ _ (by omega)]; exact h.c0, by rw [hf _ _ (by omega)]; exact h.c1, setc_same _ _ _ h.c2, by rw [hf _ _ (by omega)]; exact h.c3, by rw [hf _ _ (by omega)]; exact h.c4,
    fun o => by rw [World.frozen?_setCell]; exact h.f o, by rw [hf _ _ (by omega)]; exact h.e0, by rw [hf _ _ (by omega)]; exact h.e1, by rw [hf _ _ (by omega)]; exact h.e2, by rw [hf _ _ (by omega)]; exact h.e3, by rw [hf _ _ (by omega)]; exact h.e4,
    fun o => by rw [World.frozen?_setCell]; exact h.fe o⟩

def sumD (l : List DM) : Int := (l.map (·.1.2)).sum
theorem sumD_snoc (l : List DM) (x : DM) : sumD (l ++ [x]) = sumD l + x.1.2 := by simp [sumD]
theorem sumD_bd (l : List DM) : 0 ≤ sumD l ∧ sumD l ≤ 31 * l.length := by
  induction l with
  | nil => simp [sumD]
  | cons x l ih =>
    have := x.2
    have e : sumD (x :: l) = x.1.2 + sumD l := by simp [sumD]
    rw [e]; simp only [List.length_cons]; omega
theorem sumD_mto (y : Int) (hy : 1 ≤ y) (k : Nat) : k ≤ 12 → sumD (mto y k) = Civ.cum y ((k : Int) + 1) := by
  induction k with
  | zero => intro _; simp [mto, sumD, Civ.cum]
  | succ k ih =>
    intro hk
    rw [mto_succ, sumD_snoc, ih (by omega)]
    have := Civ.cum_succ y ((k : Int) + 1) hy (by omega) (by omega)
    have e : ((k + 1 : Nat) : Int) + 1 = (k : Int) + 1 + 1 := by omega
    rw [e, this]; rfl

theorem DS.grown {w W W' : World} {wd mi r y m d : Int} (h : DS w W wd mi r y m d) {row : Option Nat} (hg : W.grownBy W' row) (hr : ∀ l, row = some l → w.heap.size ≤ l ∧ ∃ o : Obj, W.heap[l]? = some o ∧ o.isCells = false) : DS w W' wd mi r y m d := by
  have hr' : ∀ l, row = some l → ∃ o : Obj, W.heap[l]? = some o ∧ o.isCells = false := fun l e => (hr l e).2
  have hb : Below w.heap.size w W' := h.below.grown hg (by have := h.size; omega) (fun k e => (hr k e).1)
  have q : ∀ (b o : Nat) (v : Value), W.cell? ⟨b, o, none⟩ = some v → W'.cell? ⟨b, o, none⟩ = some v := fun b o v e => cell_kept e hg hr'
  have z : ∀ (b o : Nat), (∃ v, W.cell? ⟨b, 0, none⟩ = some v) → W.frozen? ⟨b, o, none⟩ = false → W'.frozen? ⟨b, o, none⟩ = false := fun b o ⟨v, e⟩ hf => by
    obtain ⟨o', ho, hc⟩ := cells_of_cell e
    exact (World.frozen?_of_block (a := ⟨b, o, none⟩) (grownBy_keeps_cells hg hr' ho hc)).trans hf
  exact ⟨hb, by have := h.size; have := hg.size; omega, q _ _ _ h.cr, z _ _ ⟨_, h.cr⟩ h.fr, q _ _ _ h.c0, q _ _ _ h.c1, q _ _ _ h.c2, q _ _ _ h.c3, q _ _ _ h.c4, fun o => z _ _ ⟨_, h.c0⟩ (h.f o),
    q _ _ _ h.e0, q _ _ _ h.e1, q _ _ _ h.e2, q _ _ _ h.e3, q _ _ _ h.e4, fun o => z _ _ ⟨_, h.e0⟩ (h.fe o)⟩

theorem date_no (n : Int) (w : World) (h : n < 0 ∨ 1099511627776 < n) :
    Calls Try.prog 32 #[.int .i64 n] w fun e w' => e = .returned (.tuple #[.agg #[.int .i64 0, .int .i64 0, .int .i64 0, .int .i64 0, .int .i64 0], .int .i64 120]) ∧ Below w.heap.size w w' := by
  rcases h with h | h
  · go_enter Try.func32, Try.ntmps32
    go_wp2
    exact bodyPost_ret (v := .tuple #[.agg #[.int .i64 0, .int .i64 0, .int .i64 0, .int .i64 0, .int .i64 0], .int .i64 120]) (by simp [results, Try.results32, go_sem]) rfl ⟨rfl, (Below.refl _ _).alloc (Nat.le_refl _) _⟩
  · have h' : ¬ n < 0 := by omega
    go_enter Try.func32, Try.ntmps32
    go_wp2
    exact bodyPost_ret (v := .tuple #[.agg #[.int .i64 0, .int .i64 0, .int .i64 0, .int .i64 0, .int .i64 0], .int .i64 120]) (by simp [results, Try.results32, go_sem]) rfl ⟨rfl, (Below.refl _ _).alloc (Nat.le_refl _) _⟩

theorem ahd_big (y A : Int) (h1 : 1 ≤ y) (h : Civ.ahd y = A) : 365 * (y - 1) ≤ A := by rw [← h]; unfold Civ.ahd; omega

/-- what Date tells, behind a name -/
def Dated (n : Int) (w : World) (e : Ending) (w' : World) : Prop :=
  (∃ y m d : Int, e = .returned (.tuple #[.agg #[.int .i64 y, .int .i64 m, .int .i64 d, .int .i64 ((n / 1440 + 3) % 7), .int .i64 (n % 1440)], .int .i64 0]) ∧ Civ.IsDate (n / 1440 + 719162) y m d) ∧ Below w.heap.size w w'

/-- between two months; where the month is found -/
def DInv (w : World) (wd mi y r : Int) (pre : List DM) (W' : World) : Prop := ∃ r', DS w W' wd mi r' y 0 0 ∧ 0 ≤ r' ∧ r' = r - sumD pre
def DOut (w : World) (wd mi y r : Int) (c : Code) (pre : List DM) (W' : World) : Prop :=
  ∃ (r' : Int) (pre' : List DM) (x : DM), c = .exit 2 ∧ DS w W' wd mi r' y x.1.1 (r' + 1) ∧ 0 ≤ r' ∧ pre = pre' ++ [x] ∧ r' = r - sumD pre' ∧ r' < x.1.2
theorem DInv.own {w : World} {wd mi y r : Int} {B : Nat} (hB : w.heap.size ≤ B) : OwnFrom B (DInv w wd mi y r) := fun s A B row hs hg hr => by
  obtain ⟨r', h1, h2, h3⟩ := hs; exact ⟨r', h1.grown hg (fun l e => ⟨by have := (hr l e).1; omega, (hr l e).2⟩), h2, h3⟩
theorem DOut.own {w : World} {wd mi y r : Int} {B : Nat} (hB : w.heap.size ≤ B) (c : Code) : OwnFrom B (DOut w wd mi y r c) := fun s A B row hs hg hr => by
  obtain ⟨r', p', x, h0, h1, h2⟩ := hs; exact ⟨r', p', x, h0, h1.grown hg (fun l e => ⟨by have := (hr l e).1; omega, (hr l e).2⟩), h2⟩
theorem Kb.setCell {b : Nat} (W : World) (p : Addr) (v : Value) (h : p.block ≠ b) : Kb b W (W.setCell p v) :=
  ⟨by simp, fun u e => by rw [setc_other _ _ _ _ (by intro e'; exact h (by rw [e']))]; exact e⟩
theorem Kb.drew {b : Nat} (W : World) : Kb b W W.drew := ⟨Nat.le_refl _, fun _ e => e⟩

set_option maxRecDepth 100000 in
set_option maxHeartbeats 1000000 in
theorem date_yes (n : Int) (w : World) (h : 0 ≤ n) (h2 : n ≤ 1099511627776) :
    Calls Try.prog 32 #[.int .i64 n] w (Dated n w) := by
  refine (callsIn_wide (n := 3)).1 ?_
  refine callsIn_of_wp_marks Try.func32 rfl trivial ?_ rfl
  simp only [Try.ntmps32, List.size_toArray, List.length_cons, List.length_nil, Nat.reduceAdd, Nat.reduceSub, Array.replicate_succ, Array.replicate_zero, List.push_toArray, List.append_toArray, List.nil_append, List.cons_append]
  refine wpIn_wide.2 ?_
  have hd0 : 0 ≤ n / 1440 := by omega
  have hd1 : n / 1440 ≤ 763549741 := by omega
  have hwd0 : 0 ≤ (n / 1440 + 3) % 7 := by omega
  have hmi0 : 0 ≤ n % 1440 := by omega
  go_wp2
  refine wp_gen (fun W => DS w W ((n / 1440 + 3) % 7) (n % 1440) (n / 1440) 0 0 0) ?_ ?_
  · refine ⟨(((Below.refl _ w).alloc (Nat.le_refl _) _).alloc (by simp) _).alloc (by simp; omega) _, ?_, ?_, ?_, ?_, ?_, ?_, ?_, ?_, ?_, ?_, ?_, ?_, ?_, ?_, ?_⟩ <;> first | (intro o; go_simp; done) | (go_simp; done) | (simp; omega)
  intro W S
  have cr := S.cr; have fr := S.fr; have hs := S.size
  refine still_tail 3 (by kernel_rfl) (by kernel_rfl) ?_
  simp only [List.take_succ_cons, List.take_zero, List.drop_succ_cons, List.drop_zero]
  still_step
  still_call (ahead_st _ 719162 _ (by omega) (by omega) (by decide))
  repeat still_step
  refine wpStill_nil ?_
  go_wp2
  refine wp_gen (fun W => DS w W ((n / 1440 + 3) % 7) (n % 1440) (n / 1440 + 719162) 0 0 0) (S.setR _).drew ?_
  clear cr fr hs
  clear S W
  intro W S
  obtain ⟨R, hR⟩ : ∃ R, R = n / 1440 + 719162 := ⟨_, rfl⟩
  rw [← hR] at S
  have hR0 : 719162 ≤ R := by omega
  have hR1 : R ≤ 764268903 := by omega
  have HR := Lib.hid hR
  clear hR
  have cr := S.cr; have fr := S.fr; have hs := S.size; have c0 := S.c0; have f := S.f
  refine still_tail 6 (by kernel_rfl) (by kernel_rfl) ?_
  simp only [List.take_succ_cons, List.take_zero, List.drop_succ_cons, List.drop_zero]
  still_step
  still_call (ahead_st _ 146097 _ (by omega) (by omega) (by decide))
  repeat still_step
  refine wpStill_nil ?_
  go_wp2
  refine wp_gen (fun W => DS w W ((n / 1440 + 3) % 7) (n % 1440) R (R / 146097 * 400 + 1) 0 0) (S.setY _).drew ?_
  clear cr fr hs c0 f
  clear S W
  intro W S
  obtain ⟨q, hq⟩ : ∃ q, q = R / 146097 := ⟨_, rfl⟩
  rw [← hq] at S
  have hq0 : 0 ≤ q := by omega
  have hq1 : q ≤ 6000 := by omega
  have hq2 : q * 146097 ≤ R := by omega
  have hq3 : R < q * 146097 + 146097 := by omega
  have hqa : Civ.ahd (q * 400 + 1) = q * 146097 := by unfold Civ.ahd; omega
  have HQA := Lib.hid hqa
  clear hq hqa
  have cr := S.cr; have fr := S.fr; have hs := S.size; have c0 := S.c0; have f := S.f
  refine still_tail 5 (by kernel_rfl) (by kernel_rfl) ?_
  simp only [List.take_succ_cons, List.take_zero, List.drop_succ_cons, List.drop_zero]
  still_step
  still_step
  still_step
  still_call (ahead_st _ (q * 146097) _ (by omega) (by omega) HQA.out)
  repeat still_step
  refine wpStill_nil ?_
  go_wp2
  obtain ⟨r2, hr2⟩ : ∃ r2, r2 = R - q * 146097 := ⟨_, rfl⟩
  refine wp_gen (fun W => DS w W ((n / 1440 + 3) % 7) (n % 1440) r2 (q * 400 + 1 + r2 / 366) 0 0) (by rw [hr2]; exact ((S.setR _).setY _).drew) ?_
  clear cr fr hs c0 f
  clear S W
  intro W S
  have ha0 : 0 ≤ r2 := by omega
  have ha1 : r2 < 146097 := by omega
  obtain ⟨y1, hy1⟩ : ∃ y1, y1 = q * 400 + 1 + r2 / 366 := ⟨_, rfl⟩
  rw [← hy1] at S
  have hb0 : q * 400 + 1 ≤ y1 := by omega
  have hb1 : y1 ≤ q * 400 + 400 := by omega
  have hb2 : r2 / 366 = y1 - (q * 400 + 1) := by omega
  have HRQ := Lib.hid hr2
  clear hr2
  obtain ⟨A, hA⟩ : ∃ A, Civ.ahd y1 = A := ⟨_, rfl⟩
  have hA0 : q * 146097 ≤ A ∧ A ≤ q * 146097 + r2 := by
    have := Civ.ahd_mono (q * 400 + 1) y1 hb0
    have := HQA.out
    omega
  have hA1 := hA0.1
  have hA2 := hA0.2
  clear hA0
  have HA := Lib.hid hA
  clear hA hy1
  have hb3 : y1 - r2 / 366 = q * 400 + 1 := by omega
  have HB := Lib.hid hb3
  clear hb2 hb3
  have cr := S.cr; have fr := S.fr; have hs := S.size; have c0 := S.c0; have f := S.f
  have hw1 : IntKind.i64.wrap (r2.tdiv 366) = r2 / 366 := by rw [Int.tdiv_eq_ediv_of_nonneg ha0]; exact IntWalk.i64_in _ (by omega)
  have hw2 : IntKind.i64.wrap (y1 - r2 / 366) = q * 400 + 1 := by have := HB.out; rw [this]; exact IntWalk.i64_in _ (by omega)
  refine still_tail 12 (by kernel_rfl) (by kernel_rfl) ?_
  simp only [List.take_succ_cons, List.take_zero, List.drop_succ_cons, List.drop_zero]
  still_step
  still_step
  still_step
  still_call (ahead_st _ A _ (by omega) (by omega) HA.out)
  still_step
  still_step
  still_step
  still_step
  still_step
  still_call (ahead_st _ (q * 146097) _ (by omega) (by omega) HQA.out)
  repeat still_step
  refine wpStill_nil ?_
  clear hw1 hw2
  go_wp2
  refine wp_gen (fun W => ∃ r, DS w W ((n / 1440 + 3) % 7) (n % 1440) r y1 0 0 ∧ 0 ≤ r ∧ Hid (A + r = R)) ⟨_, (S.setR _).drew, by omega, by show _ = _; have := HRQ.out; omega⟩ ?_
  clear cr fr hs c0 f
  clear S W
  rintro W ⟨r3, S, hr30, HR3⟩
  obtain ⟨n0, hn0⟩ : ∃ n0 : Nat, r3 ≤ n0 := ⟨r3.toNat, by omega⟩
  go_loopg [] n0 (fun k wr => ∃ y r : Int, DS w wr ((n / 1440 + 3) % 7) (n % 1440) r y 0 0 ∧ 1 ≤ y ∧ y ≤ 2100000 ∧ 0 ≤ r ∧ r ≤ k ∧ Hid (Civ.ahd y + r = R))
  case atStart => exact ⟨y1, r3, S, by omega, by have := ahd_big y1 A (by omega) HA.out; have := HR3.out; omega, hr30, hn0, by show _ = _; rw [HA.out]; exact HR3.out⟩
  case round =>
    clear S W hn0 HR3 hr30 r3 HRQ hb0 hb1 HB HA hA1 hA2 ha0 ha1 HQA hq2 hq3
    obtain ⟨y, r, S, hy1, hy2, hr0, hrk, HY⟩ := hrel
    have cr := S.cr; have fr := S.fr; have hs := S.size; have c0 := S.c0; have f := S.f
    have hw1 : IntKind.i64.wrap (y + 1) = y + 1 := IntWalk.i64_in _ (by omega)
    have hlp := Civ.lp_01 y
    have hlp0 := hlp.1
    have hlp1 := hlp.2
    clear hlp
    obtain ⟨A0, hA0⟩ : ∃ A, Civ.ahd y = A := ⟨_, rfl⟩
    obtain ⟨L, hL⟩ : ∃ L, Civ.lp y = L := ⟨_, rfl⟩
    rw [hL] at hlp0 hlp1
    have hA1 : Civ.ahd (y + 1) = A0 + 365 + L := by rw [← hA0, ← hL]; exact Civ.ahd_succ y hy1
    have hAb : -1000000000000000 ≤ A0 ∧ A0 ≤ 1000000000000000 := by rw [← hA0]; exact ahd_bds y (by omega) (by omega)
    have hAb0 := hAb.1
    have hAb1 := hAb.2
    have HY' : Hid (A0 + r = R) := by rw [← hA0]; exact HY
    clear HY hAb
    have HA0 := Lib.hid hA0
    have HA1 := Lib.hid hA1
    have HL := Lib.hid hL
    have hw2 : IntKind.i64.wrap (A0 + 365 + L - A0) = 365 + L := by rw [IntWalk.i64_in _ (by omega)]; omega
    clear hA0 hA1 hL
    have hr1 : r ≤ 764268903 := by have := ahd_big y A0 hy1 HA0.out; have := HY'.out; omega
    by_cases hge : 365 + L ≤ r
    · have hge' : decide (365 + L ≤ r) = true := by simp; omega
      go_wp2
      refine still_all (by kernel_rfl) (by kernel_rfl) ?_
      still_step
      still_step
      still_step
      still_step
      still_call (ahead_st _ (A0 + 365 + L) _ (by omega) (by omega) HA1.out)
      still_step
      still_step
      still_call (ahead_st _ A0 _ (by omega) (by omega) HA0.out)
      repeat still_step
      refine wpStill_nil ?_
      go_wp2
      have hw3 : IntKind.i64.wrap (r - (365 + L)) = r - (365 + L) := IntWalk.i64_in _ (by omega)
      refine still_tail 10 (by kernel_rfl) (by kernel_rfl) ?_
      simp only [List.take_succ_cons, List.take_zero, List.drop_succ_cons, List.drop_zero]
      still_step
      still_step
      still_step
      still_step
      still_call (ahead_st _ (A0 + 365 + L) _ (by omega) (by omega) HA1.out)
      still_step
      still_step
      still_call (ahead_st _ A0 _ (by omega) (by omega) HA0.out)
      repeat still_step
      refine wpStill_nil ?_
      clear hw1 hw2 hw3 hge'
      go_wp2
      go_roundg (gk - 1)
      case measure => omega
      case rel => exact ⟨y + 1, r - (365 + L), ((S.setR _).setY _).drew.drew, by omega, by have := HY'.out; have := ahd_big y A0 hy1 HA0.out; omega, by omega, by omega, by show _ = _; rw [HA1.out]; have := HY'.out; omega⟩
    · have hge' : decide (365 + L ≤ r) = false := by simp; omega
      go_wp2
      refine still_all (by kernel_rfl) (by kernel_rfl) ?_
      still_step
      still_step
      still_step
      still_step
      still_call (ahead_st _ (A0 + 365 + L) _ (by omega) (by omega) HA1.out)
      still_step
      still_step
      still_call (ahead_st _ A0 _ (by omega) (by omega) HA0.out)
      repeat still_step
      refine wpStill_nil ?_
      clear hw1 hw2 hge'
      go_wp2_with (go_at_call 40; refine (months_any _ _).mono ?_; rintro e w1 ⟨rfl, rfl⟩)
      have hb0 : w.heap.size + 2 < wr.heap.size := hs
      obtain ⟨b, hb⟩ : ∃ b, b = wr.heap.size := ⟨_, rfl⟩
      rw [← hb] at hb0
      obtain ⟨W, hW⟩ : ∃ W, W = (wr.alloc (.cells #[.int .i64 y] 3)).drew := ⟨_, rfl⟩
      have S1 : DS w W ((n / 1440 + 3) % 7) (n % 1440) r y 0 0 := by rw [hW]; exact (S.grown (World.grownBy_alloc wr _ none) (fun l e => by cases e)).drew
      have hcb : W.cell? ⟨b, 0, none⟩ = some (.int .i64 y) := by rw [hW, hb]; simp
      have hbs : b < W.heap.size := by rw [hW, hb]; simp
      rw [← hW, ← hb]
      clear hW hb S cr fr hs c0 f hr1
      refine (wpIn_wide (n := 3)).1 ?_
      apply wpIn_rangeFunc_ownF (F := Fence.wide) (n := 3) rfl (by omega) (gf := 43) (lb := #[.pointer (some ⟨b, 0, none⟩)]) rfl trivial (enters_of Try.func43 (by kernel_rfl) rfl)
        (months1_stops 2 b y W (by omega) hbs hcb) Kb_t (Kb_b hbs) (Below.refl _ _) (fun _ => rfl)
        (DInv w ((n / 1440 + 3) % 7) (n % 1440) y r) (DOut w ((n / 1440 + 3) % 7) (n % 1440) y r) (DInv.own (by omega)) (DOut.own (by omega))
        ⟨r, S1, hr0, by simp [sumD]⟩ _ ?assign ?body ?done ?stop
      case assign =>
        intro l x W K hK
        gi_wp2
        exact hK
      case body =>
        rintro l pre ⟨⟨xm, xd⟩, hx0, hx1⟩ W ⟨r', S, hr'0, hR'⟩ _
        have hr'1 : r' ≤ 764268903 := by have := (sumD_bd pre).1; have := HY'.out; have := ahd_big y A0 hy1 HA0.out; omega
        have cr := S.cr; have fr := S.fr; have hs := S.size; have c0 := S.c0; have c1 := S.c1; have c2 := S.c2; have f := S.f
        have HR' := Lib.hid hR'
        clear hR'
        have hmix : Try.prog.follows .mixedOrders = true := by kernel_rfl
        have hbn1 : w.heap.size + 1 ≠ b := by omega
        have hbn2 : w.heap.size + 1 + 1 ≠ b := by omega
        dsimp only at hx0 hx1
        by_cases hlt : r' < xd
        · gi_wp2
          have hw1 : IntKind.i64.wrap (r' + 1) = r' + 1 := IntWalk.i64_in _ (by omega)
          gi_region_with_o (fail)
          all_goals gi_wp2
          all_goals refine ⟨((KeepsOthers.setCell _ _ _).trans (KeepsOthers.setCell _ _ _)).trans (KeepsOthers.drew _), r', pre, ⟨(xm, xd), hx0, hx1⟩, rfl, ?_, hr'0, rfl, HR'.out, hlt⟩
          all_goals first | exact ((S.setM xm).setD (r' + 1)).drew | exact ((S.setD (r' + 1)).setM xm).drew
        · gi_wp2
          exact ⟨KeepsOthers.setCell _ _ _, Kb.setCell _ _ _ hbn1, r' - xd, S.setR _, by omega, by rw [sumD_snoc, HR'.out]; show _ = r - (sumD pre + xd); omega⟩
      case done =>
        rintro D xs W hD rfl ⟨r', S, h0, h1⟩ hK
        exfalso
        have e := sumD_mto y hy1 12 (by omega)
        have e2 := Civ.cum_end y
        rw [e] at h1
        have e3 : ((12 : Nat) : Int) + 1 = 13 := rfl
        rw [e3, e2, HL.out] at h1
        omega
      case stop =>
        rintro D c pre W hD ⟨k, hk, rfl⟩ ⟨r', pre', x, rfl, S, h0, hp, h1, h2⟩ hK
        rw [mto_succ] at hp
        obtain ⟨rfl, hx⟩ := List.append_inj' hp rfl
        obtain rfl : mday y k = x := by simpa using hx
        clear hp hx
        have cr := S.cr; have fr := S.fr; have hs := S.size; have c0 := S.c0; have c1 := S.c1; have c2 := S.c2; have c3 := S.c3; have c4 := S.c4; have f := S.f
        have e0 := S.e0; have e1 := S.e1; have e2 := S.e2; have e3 := S.e3; have e4 := S.e4; have fe := S.fe
        have H1 := Lib.hid h1
        have HK := Lib.hid hK
        clear h1 hK
        refine wpIn_wide.2 ?_
        go_wp2
        have hfin : Civ.IsDate (n / 1440 + 719162) y ((k : Int) + 1) (r' + 1) := by
          have q1 := H1.out
          have q2 := sumD_mto y hy1 k (by omega)
          rw [q2] at q1
          have q3 := HA0.out; have q4 := HY'.out; have q5 := HR.out
          have q6 : r' < Civ.dim y ((k : Int) + 1) := h2
          exact ⟨hy1, by omega, by omega, by omega, by omega, by omega⟩
        obtain ⟨W5, hW5⟩ : ∃ W5, W5 = ((((W.setCell ⟨w.heap.size, 0, none⟩ (.int .i64 y)).setCell ⟨w.heap.size, 1, none⟩ (.int .i64 (mday y k).1.1)).setCell ⟨w.heap.size, 2, none⟩ (.int .i64 (r' + 1))).setCell ⟨w.heap.size, 3, none⟩ (.int .i64 ((n / 1440 + 3) % 7))).setCell ⟨w.heap.size, 4, none⟩ (.int .i64 (n % 1440)) := ⟨_, rfl⟩
        rw [← hW5]
        have hK' : W5.heap[D]? = some (.deferred (some [])) := by
          rw [hW5]
          exact ((((KeepsOthers.setCell _ _ _).trans (KeepsOthers.setCell _ _ _)).trans (KeepsOthers.setCell _ _ _)).trans (KeepsOthers.setCell _ _ _)).trans (KeepsOthers.setCell _ _ _) |>.same D _ HK.out rfl
        have hbel : Below w.heap.size w W5 := by
          rw [hW5]
          exact ((((S.below.setCell (p := ⟨w.heap.size, 0, none⟩) (Nat.le_refl _) _).setCell (p := ⟨w.heap.size, 1, none⟩) (Nat.le_refl _) _).setCell (p := ⟨w.heap.size, 2, none⟩) (Nat.le_refl _) _).setCell (p := ⟨w.heap.size, 3, none⟩) (Nat.le_refl _) _).setCell (p := ⟨w.heap.size, 4, none⟩) (Nat.le_refl _) _
        have g0 : W5.cell? ⟨w.heap.size, 0, none⟩ = some (.int .i64 y) := by rw [hW5]; go_simp
        have g1 : W5.cell? ⟨w.heap.size, 1, none⟩ = some (.int .i64 ((k : Int) + 1)) := by rw [hW5]; go_simp; rfl
        have g2 : W5.cell? ⟨w.heap.size, 2, none⟩ = some (.int .i64 (r' + 1)) := by rw [hW5]; go_simp
        have g3 : W5.cell? ⟨w.heap.size, 3, none⟩ = some (.int .i64 ((n / 1440 + 3) % 7)) := by rw [hW5]; go_simp
        have g4 : W5.cell? ⟨w.heap.size, 4, none⟩ = some (.int .i64 (n % 1440)) := by rw [hW5]; go_simp
        clear hW5 S cr fr hs c0 c1 c2 c3 c4 f e0 e1 e2 e3 e4 fe
        have kp : ∀ (o : Nat) (v : Value), W5.cell? ⟨w.heap.size, o, none⟩ = some v → (W5.putObj D (.deferred none)).cell? ⟨w.heap.size, o, none⟩ = some v := fun o v e =>
          cell_kept e (grownBy_putObj' _ D (.deferred none)) (fun r e => by cases e; exact ⟨_, hK', rfl⟩)
        have g0 := kp _ _ g0; have g1 := kp _ _ g1; have g2 := kp _ _ g2; have g3 := kp _ _ g3; have g4 := kp _ _ g4
        refine ⟨by simp, .inl ⟨_, _, rfl, run_takeDeferred hK', ?_⟩⟩
        refine ⟨.tuple #[.agg #[.int .i64 y, .int .i64 ((k : Int) + 1), .int .i64 (r' + 1), .int .i64 ((n / 1440 + 3) % 7), .int .i64 (n % 1440)], .int .i64 0], ?_, ⟨y, (k : Int) + 1, r' + 1, rfl, hfin⟩, ?_⟩
        · simp [results, Try.results32, go_sem, g0, g1, g2, g3, g4]
        · exact hbel.trans (belowK_b (w := w) (Nat.le_refl _) _ D _ _ (by omega) hK' rfl rfl)

end Go.Proofs.Ytajflljemfgkiaa
