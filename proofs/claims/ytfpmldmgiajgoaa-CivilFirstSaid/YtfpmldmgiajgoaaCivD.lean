/- civil.Minute -/
import Derived.Test.YtfpmldmgiajgoaaCivC
import Derived.RangeFuncBox
namespace Go.Proofs.Ytfpmldmgiajgoaa
open Go.RowKit Go.Shelf
attribute [local go_sem] Oper.semAt_some

def mnVal (y m d mi : Int) : Int := (Civ.ahd y - 719162 + d - 1 + Civ.cum y m) * 1440 + mi
def mnBad (y m d mi : Int) : Prop := y < 1970 ∨ 2093887 < y ∨ d < 1 ∨ Civ.dim y m < d ∨ mi < 0 ∨ 1440 ≤ mi

set_option maxHeartbeats 1000000 in
theorem minute_bad (y m d mi : Int) (w : World) (h : mnBad y m d mi) :
    Calls Try.prog 11 #[.int .i64 y, .int .i64 m, .int .i64 d, .int .i64 mi] w fun e w' => e = .returned (.tuple #[.int .i64 0, .int .i64 120]) ∧ Below w.heap.size w w' := by
  unfold mnBad at h
  by_cases h1 : y < 1970
  · clear h
    go_enter Try.func11, Try.ntmps11
    go_wp2
    go_ret2
    exact ⟨rfl, (Below.refl _ _).alloc (Nat.le_refl _) _⟩
  by_cases h2 : 2093887 < y
  · clear h
    go_enter Try.func11, Try.ntmps11
    go_wp2
    go_ret2
    exact ⟨rfl, (Below.refl _ _).alloc (Nat.le_refl _) _⟩
  by_cases h3 : d < 1
  · clear h
    go_enter Try.func11, Try.ntmps11
    go_wp2
    go_ret2
    exact ⟨rfl, (Below.refl _ _).alloc (Nat.le_refl _) _⟩
  obtain ⟨D, hD⟩ : ∃ D, Civ.dim y m = D := ⟨_, rfl⟩
  rw [hD] at h
  have HC : Hid (∀ w, Calls Try.prog 15 #[.int .i64 y, .int .i64 m] w fun e w' => e = .returned (.int .i64 D) ∧ Below w.heap.size w w') := Lib.hid (fun w => by have := days_any y m w; rw [hD] at this; exact this)
  clear hD
  by_cases h4 : D < d
  · clear h
    go_enter Try.func11, Try.ntmps11
    go_wp2_with (go_at_call 15; refine (HC.out _).mono ?_; rintro e w1 ⟨rfl, hb⟩)
    go_ret2
    exact ⟨rfl, ((Below.refl _ _).alloc (Nat.le_refl _) _).trans (hb.mono (by simp))⟩
  by_cases h5 : mi < 0
  · clear h
    go_enter Try.func11, Try.ntmps11
    go_wp2_with (go_at_call 15; refine (HC.out _).mono ?_; rintro e w1 ⟨rfl, hb⟩)
    go_ret2
    exact ⟨rfl, ((Below.refl _ _).alloc (Nat.le_refl _) _).trans (hb.mono (by simp))⟩
  · have h6 : 1440 ≤ mi := by omega
    clear h
    go_enter Try.func11, Try.ntmps11
    go_wp2_with (go_at_call 15; refine (HC.out _).mono ?_; rintro e w1 ⟨rfl, hb⟩)
    go_ret2
    exact ⟨rfl, ((Below.refl _ _).alloc (Nat.le_refl _) _).trans (hb.mono (by simp))⟩

/-- what Minute tells, behind a name -/
def Minuted (v : Int) (w : World) (e : Ending) (w' : World) : Prop :=
  e = .returned (if v ≤ 1099511627776 then .tuple #[.int .i64 v, .int .i64 0] else .tuple #[.int .i64 0, .int .i64 120]) ∧ Below w.heap.size w w'

/-- between two months; where the month is found -/
def MInv (w : World) (bm bn : Nat) (m n0 : Int) (pre : List DM) (W : World) : Prop :=
  Boxed W bm 3 (.int .i64 m) ∧ Boxed W bn 3 (.int .i64 (n0 + sumD pre)) ∧ (∀ x, x ∈ pre → x.1.1 ≠ m) ∧ Below w.heap.size w W
def MOut (w : World) (bn : Nat) (m n0 : Int) (c : Code) (pre : List DM) (W : World) : Prop :=
  ∃ (pre' : List DM) (x : DM), c = .exit 0 ∧ Boxed W bn 3 (.int .i64 (n0 + sumD pre')) ∧ pre = pre' ++ [x] ∧ x.1.1 = m ∧ Below w.heap.size w W
theorem boxed_kept {W W' : World} {B : Nat} {t : TypeId} {v : Value} (h : Boxed W B t v) {row : Option Nat} (hg : W.grownBy W' row) (hr : ∀ r, row = some r → ∃ o : Obj, W.heap[r]? = some o ∧ o.isCells = false) : Boxed W' B t v :=
  h.kept hg (fun e' => by
    obtain ⟨o, ho, hc⟩ := hr B e'.symm
    rw [show W.heap[B]? = _ from h] at ho; cases ho; cases hc)
theorem MInv.own {w : World} {bm bn : Nat} {m n0 : Int} {B : Nat} (hB : w.heap.size ≤ B) : OwnFrom B (MInv w bm bn m n0) := fun s X Y row hs hg hr => by
  have hr' : ∀ r, row = some r → ∃ o : Obj, X.heap[r]? = some o ∧ o.isCells = false := fun l e => (hr l e).2
  exact ⟨boxed_kept hs.1 hg hr', boxed_kept hs.2.1 hg hr', hs.2.2.1, hs.2.2.2.grown hg hs.2.2.2.size (fun k e => by have := (hr k e).1; omega)⟩
theorem MOut.own {w : World} {bn : Nat} {m n0 : Int} {B : Nat} (hB : w.heap.size ≤ B) (c : Code) : OwnFrom B (MOut w bn m n0 c) := fun s X Y row hs hg hr => by
  have hr' : ∀ r, row = some r → ∃ o : Obj, X.heap[r]? = some o ∧ o.isCells = false := fun l e => (hr l e).2
  obtain ⟨p, x, h0, h1, h2, h3, h4⟩ := hs
  exact ⟨p, x, h0, boxed_kept h1 hg hr', h2, h3, h4.grown hg h4.size (fun k e => by have := (hr k e).1; omega)⟩

set_option maxRecDepth 100000 in
set_option maxHeartbeats 1000000 in
theorem minute_good (y m d mi : Int) (w : World) (h : ¬ mnBad y m d mi) :
    Calls Try.prog 11 #[.int .i64 y, .int .i64 m, .int .i64 d, .int .i64 mi] w (Minuted (mnVal y m d mi) w) := by
  unfold mnBad at h
  have hy1 : 1970 ≤ y := by omega
  have hy2 : y ≤ 2093887 := by omega
  have hd1 : 1 ≤ d := by omega
  have hmi0 : 0 ≤ mi := by omega
  have hmi1 : mi < 1440 := by omega
  have hdm := Civ.dim_le y m
  have hm : 1 ≤ m ∧ m ≤ 12 := by
    by_cases hm : m < 1 ∨ 12 < m
    · have : Civ.dim y m = 0 := by unfold Civ.dim; rw [if_pos (by omega)]
      omega
    · omega
  have hm1 := hm.1
  have hm2 := hm.2
  clear hm
  obtain ⟨D, hD⟩ : ∃ D, Civ.dim y m = D := ⟨_, rfl⟩
  rw [hD] at h hdm
  have HC : Hid (∀ w, Calls Try.prog 15 #[.int .i64 y, .int .i64 m] w fun e w' => e = .returned (.int .i64 D) ∧ Below w.heap.size w w') := Lib.hid (fun w => by have := days_any y m w; rw [hD] at this; exact this)
  clear hD
  have hd2 : d ≤ D := by omega
  have hD31 : D ≤ 31 := hdm.2
  clear h hdm
  obtain ⟨A, hA⟩ : ∃ A, Civ.ahd y = A := ⟨_, rfl⟩
  have hA0 : 0 ≤ A ∧ A ≤ 800000000 := by rw [← hA]; unfold Civ.ahd; omega
  have hA1 := hA0.1
  have hA2 := hA0.2
  clear hA0
  have HA := Lib.hid hA
  clear hA
  refine (callsIn_wide (n := 3)).1 ?_
  refine callsIn_of_wp_marks Try.func11 rfl trivial ?_ rfl
  simp only [Try.ntmps11, List.size_toArray, List.length_cons, List.length_nil, Nat.reduceAdd, Nat.reduceSub, Array.replicate_succ, Array.replicate_zero, List.push_toArray, List.append_toArray, List.nil_append, List.cons_append]
  refine wpIn_wide.2 ?_
  go_wp2_with fail
  refine (HC.out _).mono ?_
  rintro e w1 ⟨rfl, hb⟩
  have hbw : Below w.heap.size w w1 := ((Below.refl _ _).alloc (Nat.le_refl _) _).trans (hb.mono (by simp))
  have hbm : Boxed w1 w.heap.size 3 (.int .i64 m) := (hb.block w.heap.size (by simp)).trans (Boxed.new w 3 (.int .i64 m))
  clear hb
  have cm := hbm.cell
  have fm := hbm.frozen
  go_wp2_with fail
  refine (ahead_st _ A _ (by omega) (by omega) HA.out).mono ?_
  rintro e w2 ⟨rfl, rfl⟩
  go_wp2_with fail
  refine (ahead_st _ 719162 _ (by omega) (by omega) (by decide)).mono ?_
  rintro e w1 ⟨rfl, rfl⟩
  go_wp2_with fail
  refine (months_any _ _).mono ?_
  rintro e w3 ⟨rfl, rfl⟩
  go_wp2
  obtain ⟨bn, hbn⟩ : ∃ bn, bn = w1.heap.size := ⟨_, rfl⟩
  obtain ⟨n0, hn0⟩ : ∃ n0, n0 = A - 719162 + d - 1 := ⟨_, rfl⟩
  obtain ⟨W, hW⟩ : ∃ W, W = (w1.alloc (.cells #[.int .i64 n0] 3)).alloc (.cells #[.int .i64 y] 3) := ⟨_, rfl⟩
  have hn1 : -800000000 ≤ n0 := by omega
  have hn2 : n0 ≤ 900000000 := by omega
  have B1 : Boxed W w.heap.size 3 (.int .i64 m) := by rw [hW]; exact (hbm.alloc _).alloc _
  have B2 : Boxed W bn 3 (.int .i64 n0) := by rw [hW, hbn]; exact (Boxed.new w1 3 (.int .i64 n0)).alloc _
  have hs0 : w.heap.size < bn := by rw [hbn]; exact hbm.lt
  have B3 : W.cell? ⟨bn + 1, 0, none⟩ = some (.int .i64 y) := by rw [hW, hbn]; simp
  have B4 : Below w.heap.size w W := by rw [hW]; exact (hbw.alloc hbw.size _).alloc (by have := hbw.size; simp; omega) _
  have B5 : bn + 1 < W.heap.size := by rw [hW, hbn]; simp
  rw [← hn0, ← hW, ← hbn]
  have HN0 := Lib.hid hn0
  clear hn0 hW hbn hbw hbm cm fm
  refine (wpIn_wide (n := 3)).1 ?_
  apply wpIn_rangeFunc_ownF (F := Fence.wide) (n := 3) rfl (by omega) (gf := 23) (lb := #[.pointer (some ⟨bn + 1, 0, none⟩)]) rfl trivial (enters_of Try.func23 (by kernel_rfl) rfl)
    (months1_stops 2 (bn + 1) y W (by omega) B5 B3) Kb_t (Kb_b B5) (Below.refl _ _) (fun _ => rfl)
    (MInv w w.heap.size bn m n0) (MOut w bn m n0) (MInv.own B4.size) (MOut.own B4.size)
    ⟨B1, by simpa [sumD] using B2, by simp, B4⟩ _ ?assign ?body ?done ?stop
  case assign =>
    intro l x W K hK
    gi_wp2
    exact hK
  case body =>
    rintro l pre ⟨⟨xm, xd⟩, hx0, hx1⟩ W ⟨b1, b2, hne, hB⟩ hlen
    dsimp only at hx0 hx1
    have hsd := sumD_bd pre
    have hsn : sumD (pre ++ [⟨(xm, xd), hx0, hx1⟩]) = sumD pre + xd := sumD_snoc pre ⟨(xm, xd), hx0, hx1⟩
    obtain ⟨s, hs⟩ : ∃ s, s = sumD pre := ⟨_, rfl⟩
    rw [← hs] at b2 hsd hsn
    have hs1 := hsd.1
    have hs2 : s ≤ 400 := by omega
    clear hsd
    have HS := Lib.hid hs
    have HSN := Lib.hid hsn
    clear hs hsn
    have c1 := b1.cell; have c2 := b2.cell; have f2 := b2.frozen
    have hne1 : bn ≠ w.heap.size := by omega
    have hne2 : bn ≠ bn + 1 := by omega
    by_cases hxm : xm = m
    · have t1 : (xm == m) = true := by simpa using hxm
      gi_wp2
      exact ⟨KeepsOthers.refl _, pre, ⟨(xm, xd), hx0, hx1⟩, rfl, by rw [← HS.out]; exact b2, rfl, hxm, hB⟩
    · have t1 : (xm == m) = false := by simpa using hxm
      gi_wp2
      refine ⟨KeepsOthers.setCell _ _ _, Kb.setCell _ _ _ hne2, ?_, ?_, ?_, hB.setCell (p := ⟨bn, 0, none⟩) (by simp; omega) _⟩
      · exact b1.kept (grownBy_setCell' W bn _) (fun e => by cases e; omega)
      · rw [HSN.out]
        have e : n0 + (s + xd) = n0 + s + xd := by omega
        rw [e]; exact b2.set _
      · intro x hx
        rcases List.mem_append.1 hx with h | h
        · exact hne x h
        · simp at h; subst h; exact hxm
  case done =>
    rintro D' xs W hD rfl ⟨b1, b2, hne, hB⟩ hK
    exfalso
    obtain ⟨k, hk⟩ : ∃ k : Nat, m = (k : Int) + 1 := ⟨(m - 1).toNat, by omega⟩
    exact hne (mday y k) (by unfold mto; exact List.mem_map.2 ⟨k, by simp; omega, rfl⟩) hk.symm
  case stop =>
    rintro D' c pre W hD ⟨k, hk, rfl⟩ ⟨pre', x, rfl, b2, hp, hxm, hB⟩ hK
    rw [mto_succ] at hp
    obtain ⟨rfl, hx⟩ := List.append_inj' hp rfl
    obtain rfl : mday y k = x := by simpa using hx
    have hxm' : (k : Int) + 1 = m := hxm
    have e1 := sumD_mto y (by omega) k (by omega)
    rw [hxm'] at e1
    rw [e1] at b2
    have hcb := Civ.cum_bd y m hm1 (by omega)
    obtain ⟨C, hC⟩ : ∃ C, C = Civ.cum y m := ⟨_, rfl⟩
    rw [← hC] at b2 hcb
    have hc0 := hcb.1
    have hc1 := hcb.2
    have HCC := Lib.hid hC
    have HK := Lib.hid hK
    clear hcb hC e1 hxm' hxm hx hp hK
    have c2 := b2.cell; have f2 := b2.frozen
    have hv : Hid (mnVal y m d mi = (n0 + C) * 1440 + mi) := by
      show _ = _
      unfold mnVal; rw [HA.out, ← HCC.out, HN0.out]
    refine wpIn_wide.2 ?_
    have hbel := hB.setCell (p := ⟨bn, 0, none⟩) (by simp; omega) (.int .i64 ((n0 + C) * 1440 + mi))
    have hK' := (KeepsOthers.setCell W ⟨bn, 0, none⟩ (.int .i64 ((n0 + C) * 1440 + mi))).same D' _ HK.out rfl
    have hend : Below w.heap.size w ((W.setCell ⟨bn, 0, none⟩ (.int .i64 ((n0 + C) * 1440 + mi))).putObj D' (.deferred none)) := hbel.trans (belowK_b (w := w) (Nat.le_refl _) _ D' _ _ (by omega) hK' rfl rfl)
    have HEND := Lib.hid hend
    have HK' := Lib.hid hK'
    clear hbel hK' hend
    by_cases hle : (n0 + C) * 1440 + mi ≤ 1099511627776
    · go_wp2
      refine ⟨by simp, .inl ⟨_, _, rfl, run_takeDeferred HK'.out, ?_⟩⟩
      exact ⟨_, results_tmp2 rfl _ _ _, by rw [hv.out, if_pos hle]; rfl, HEND.out⟩
    · go_wp2
      refine ⟨by simp, .inl ⟨_, _, rfl, run_takeDeferred HK'.out, ?_⟩⟩
      exact ⟨_, results_tmp2 rfl _ _ _, by rw [hv.out, if_neg (by omega)]; rfl, HEND.out⟩

end Go.Proofs.Ytfpmldmgiajgoaa
