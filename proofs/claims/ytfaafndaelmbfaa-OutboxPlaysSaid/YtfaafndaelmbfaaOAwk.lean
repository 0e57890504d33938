/- awake: the chapter's rows -/
import Derived.Test.YtfaafndaelmbfaaORoomL
namespace Go.Proofs.Ytfaafndaelmbfaa
open Go.RowKit
attribute [local go_sem] Oper.semAt_some

def PumpK (M : Nat → Prop) (p n : Nat) (ys : List Ox) (w : World) (e : Ending) (w' : World) : Prop := ∃ pv cv, e = .returned (.slice pv n cv) ∧ BxM M p w' ys ∧ Kept (fun b => ¬ M b) w w'
theorem pump_k {M : Nat → Prop} {p n : Nat} {xs ys : List Ox} {at_ : Int} {w : World} (h : BxM M p w xs) (hn : xs.length ≤ 1000) (hf : FewO xs) (ht : TrOk xs) (e1 : sendL xs at_ = ys) (e2 : (sendO xs at_).length = n) : Calls Try.prog 12 #[bv p, .int .i64 at_] w (PumpK M p n ys w) := by
  refine (pump_m h hn hf ht).mono ?_
  rintro e w' ⟨v, os, rfl, ho, hr, hb, hk⟩
  obtain ⟨pv, cv, rfl⟩ := owns_slice hr.own
  have hl : os.length = n := by rw [← List.length_map (f := Mr.m), ho, e2]
  exact ⟨pv, cv, by rw [hl], by rw [← e1]; exact hb.turn (fun b _ m => .inl m), hk⟩
def awL (t x : Int) : List Ox := [⟨bare 7 10, t, x⟩]
theorem awL_few (t x : Int) : FewO (awL t x) := fun y hy => by
  obtain rfl := List.mem_singleton.1 hy
  exact bare_few _ _
theorem awL_tr {t : Int} (x : Int) (h0 : 0 ≤ t) (h1 : t ≤ 3) : TrOk (awL t x) := fun y hy => by
  obtain rfl := List.mem_singleton.1 hy
  exact ⟨h0, (by show t ≤ _; omega)⟩
set_option maxRecDepth 100000 in
set_option maxHeartbeats 4000000 in
theorem awake_any (w : World) : Calls Try.prog 15 #[] w (Tells (.bool true) w) := by
  go_enter Try.func15, Try.ntmps15
  go_wp2_with fail
  refine (new_m w).mono ?_
  rintro e w1 ⟨rfl, hN, hb⟩
  obtain ⟨p, hp⟩ : ∃ p, p = w.heap.size := ⟨_, rfl⟩
  rw [← hp] at hN ⊢
  have hNl := hN.lt
  have hb1 : Below w1.heap.size w1 (w1.alloc (.cells (mc ⟨.slice none 0 0, .slice none 0 0, bare 7 10⟩) 31)) := (Below.refl _ w1).alloc (Nat.le_refl _) _
  have hM : BxM (fun b => b < w.heap.size ∨ b = w1.heap.size) p (w1.alloc (.cells (mc ⟨.slice none 0 0, .slice none 0 0, bare 7 10⟩) 31)) [] := (hN.turn (fun b hb m => m.elim (fun h => .inl (by omega)) (fun e => by omega))).below hb1
  have b1 := Box.new w1 (mc ⟨.slice none 0 0, .slice none 0 0, bare 7 10⟩) 31
  have HB1 := Lib.hid (hb.trans (hb1.mono hb.size))
  clear hN hp
  go_wp2_with fail
  obtain ⟨W1, hW1⟩ : ∃ W1, (w1.alloc (.cells (mc ⟨.slice none 0 0, .slice none 0 0, bare 7 10⟩) 31)) = W1 := ⟨_, rfl⟩
  rw [hW1] at hM b1 HB1 hb1 ⊢
  obtain ⟨bx, hbx⟩ : ∃ bx, bx = w1.heap.size := ⟨_, rfl⟩
  have hws : w.heap.size ≤ bx := by rw [hbx]; exact hb.size
  rw [← hbx] at hM b1 ⊢
  have hbl := b1.lt
  clear hb1 hb hbx
  refine (add_m (r := ⟨.slice none 0 0, .slice none 0 0, bare 7 10⟩) (at_ := 10) (T := fun _ => True) hM (fun b m => by omega) bare_mo (bare_few _ _) (by simp)).mono ?_
  rintro e w2 ⟨rfl, hM2, hk2⟩
  have hM2' : BxM (fun b => b < w.heap.size ∨ b = bx) p w2 (awL 0 10) := hM2
  rw [show addE [] (bare 7 10) 10 = 0 from by decide]
  have HB2 := Lib.hid (HB1.out.trans (hk2.below (fun b m => Nat.le_of_not_lt (fun h => m (.inl h))) HB1.out.size))
  have b2 := b1.kept hk2 (fun h => h (.inr rfl))
  have hs2 := hk2.size
  clear hM2 hk2 hM b1 HB1
  have c2 := b2.rd.1
  have z2 := b2.rd.2
  go_wp2_with fail
  refine (add_m (r := ⟨.slice none 0 0, .slice none 0 0, bare 7 10⟩) (at_ := 11) (T := fun _ => True) hM2' (fun b m => by have := b2.lt; omega) bare_mo (bare_few _ _) (by decide)).mono ?_
  rintro e w3 ⟨rfl, hM3, hk3⟩
  have hM3' : BxM (fun b => b < w.heap.size) p w3 (awL 0 10) := BxM.turn (M := fun b => b < w.heap.size ∨ b = bx) hM3 (fun b _ m => .inl m)
  rw [show addE (awL 0 10) (bare 7 10) 11 = 2 from by decide]
  have HB3 := Lib.hid (HB2.out.trans (hk3.below (fun b m => Nat.le_of_not_lt (fun h => m (.inl h))) HB2.out.size))
  clear hM3 hk3 c2 z2 b2 hM2' HB2 hs2 hbl hNl
  go_wp2_with fail
  refine (pump_k (n := 0) (ys := awL 0 10) (at_ := 9) hM3' (by decide) (awL_few _ _) (awL_tr _ (by decide) (by decide)) (by rfl) (by decide)).mono ?_
  rintro e w4 ⟨pv4, cv4, rfl, hM4, hk4⟩
  have HB4 := Lib.hid (HB3.out.trans (hk4.below (fun b m => Nat.le_of_not_lt m) HB3.out.size))
  clear hk4 hM3' HB3
  go_wp2_with fail
  refine (pump_k (n := 1) (ys := awL 1 11) (at_ := 10) hM4 (by decide) (awL_few _ _) (awL_tr _ (by decide) (by decide)) (by rfl) (by decide)).mono ?_
  rintro e w5 ⟨pv5, cv5, rfl, hM5, hk5⟩
  have HB5 := Lib.hid (HB4.out.trans (hk5.below (fun b m => Nat.le_of_not_lt m) HB4.out.size))
  clear hk5 hM4 HB4
  go_wp2_with fail
  refine (pump_k (n := 0) (ys := awL 1 11) (at_ := 10) hM5 (by decide) (awL_few _ _) (awL_tr _ (by decide) (by decide)) (by rfl) (by decide)).mono ?_
  rintro e w6 ⟨pv6, cv6, rfl, hM6, hk6⟩
  have HB6 := Lib.hid (HB5.out.trans (hk6.below (fun b m => Nat.le_of_not_lt m) HB5.out.size))
  clear hk6 hM5 HB5
  go_wp2_with fail
  refine (pump_k (n := 1) (ys := awL 2 13) (at_ := 11) hM6 (by decide) (awL_few _ _) (awL_tr _ (by decide) (by decide)) (by rfl) (by decide)).mono ?_
  rintro e w7 ⟨pv7, cv7, rfl, hM7, hk7⟩
  have HB7 := Lib.hid (HB6.out.trans (hk7.below (fun b m => Nat.le_of_not_lt m) HB6.out.size))
  clear hk7 hM6 HB6
  go_wp2_with fail
  refine (pump_k (n := 0) (ys := awL 2 13) (at_ := 12) hM7 (by decide) (awL_few _ _) (awL_tr _ (by decide) (by decide)) (by rfl) (by decide)).mono ?_
  rintro e w8 ⟨pv8, cv8, rfl, hM8, hk8⟩
  have HB8 := Lib.hid (HB7.out.trans (hk8.below (fun b m => Nat.le_of_not_lt m) HB7.out.size))
  clear hk8 hM7 HB7
  go_wp2_with fail
  refine (pump_k (n := 1) (ys := awL 3 17) (at_ := 13) hM8 (by decide) (awL_few _ _) (awL_tr _ (by decide) (by decide)) (by rfl) (by decide)).mono ?_
  rintro e w9 ⟨pv9, cv9, rfl, hM9, hk9⟩
  have HB9 := Lib.hid (HB8.out.trans (hk9.below (fun b m => Nat.le_of_not_lt m) HB8.out.size))
  clear hk9 hM8 HB8
  go_wp2_with fail
  refine (all_m hM9 (awL_few _ _) (by decide)).mono ?_
  rintro e w10 ⟨v, rs, rfl, hrs, hR, hb⟩
  obtain ⟨q, d, rfl⟩ := owns_slice hR.own
  have HB10 := Lib.hid (HB9.out.trans (hb.mono HB9.out.size))
  have HM := Lib.hid (hM9.below hb)
  have hl : rs.length = 1 := by rw [← List.length_map (f := Ow.pl), hrs]; rfl
  obtain ⟨o, ho, hor⟩ : ∃ o, rs[0]? = some o ∧ o.tr = 3 ∧ o.nx = 17 := by
    have e1 : (rs.map Ow.pl)[0]? = some ⟨bare 7 10, 3, 17⟩ := by rw [hrs]; rfl
    rw [List.getElem?_map] at e1
    cases h5 : rs[0]? with
    | none => rw [h5] at e1; cases e1
    | some o =>
      rw [h5] at e1
      have e2 : o.pl = ⟨bare 7 10, 3, 17⟩ := by simpa using e1
      exact ⟨o, rfl, (show o.pl.tr = 3 by rw [e2]), (show o.pl.nx = 17 by rw [e2])⟩
  obtain ⟨ad, rfl, -, -, hrow⟩ := (Sl.owned encO_len hR.own).at ho
  have x5 := hrow 0 o ho 5 _ rfl
  have x6 := hrow 0 o ho 6 _ rfl
  rw [hor.1] at x5
  rw [hor.2] at x6
  have x5' : w10.cell? ⟨ad.block, ad.off + 5, none⟩ = some (.int .i64 3) := x5
  have x6' : w10.cell? ⟨ad.block, ad.off + 6, none⟩ = some (.int .i64 17) := x6
  rw [hl]
  clear hR hb hrs ho hor hl hrow x5 x6 hM9 HB9
  go_wp2_with fail
  have HK1 := Lib.hid (ack_m (r := 7) (i := 9) HM.out (by decide))
  clear x5' x6'
  refine HK1.out.mono ?_
  rintro e w11 ⟨rfl, hM11, hk11⟩
  have hM11' : BxM (fun b => b < w.heap.size) p w11 (awL 3 17) := hM11
  rw [show hasR (awL 3 17) 7 9 = false from by decide]
  have HB11 := Lib.hid (HB10.out.trans (hk11.below (fun b m => Nat.le_of_not_lt m) HB10.out.size))
  clear hM11 hk11 HK1 HM HB10
  go_wp2_with fail
  refine (ack_m (r := 7) (i := 10) hM11' (by decide)).mono ?_
  rintro e w12 ⟨rfl, hM12, hk12⟩
  have hM12' : BxM (fun b => b < w.heap.size) p w12 [] := hM12
  rw [show hasR (awL 3 17) 7 10 = true from by decide]
  have HB12 := Lib.hid (HB11.out.trans (hk12.below (fun b m => Nat.le_of_not_lt m) HB11.out.size))
  clear hM12 hk12 hM11' HB11
  go_wp2_with fail
  refine (ack_m (r := 7) (i := 10) hM12' (by decide)).mono ?_
  rintro e w13 ⟨rfl, hM13, hk13⟩
  rw [show hasR [] 7 10 = false from by decide]
  have HB13 := Lib.hid (HB12.out.trans (hk13.below (fun b m => Nat.le_of_not_lt m) HB12.out.size))
  clear hM13 hk13 hM12' HB12
  go_wp2_with fail
  go_ret
  exact ⟨rfl, HB13.out⟩
end Go.Proofs.Ytfaafndaelmbfaa
