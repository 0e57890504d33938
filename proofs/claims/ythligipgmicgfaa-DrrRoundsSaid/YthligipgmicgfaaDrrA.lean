/- tocsinlaw21.awake -/
import Derived.Test.YthligipgmicgfaaDrrT
namespace Go.Proofs.Ythligipgmicgfaa
open Go.RowKit
attribute [local go_sem] Oper.semAt_some

/-- items in a block of their own -/
theorem its_box {S : Nat → Prop} {W : World} {b : Nat} {t : TypeId} {cs : Array Value} {rs : List (Value × It)} (h : Box W b cs t) (hx : cs = (rs.flatMap encI).toArray) (hS : S b) (hl : ∀ r ∈ rs, Lab S W r) (h2 : rs.length ≤ 100000) : Its S W (.slice (some ⟨b, 0, none⟩) rs.length rs.length) (rs.map Prod.snd) := by
  subst hx
  refine .inr ⟨⟨b, 0, none⟩, rs.length, rs, by simp, by simp, by unfold maxLen; omega, rfl, fun _ => ⟨h.lt, hS⟩, ?_, hl⟩
  refine RowAt.of_flat encI_len fun j u hu => ?_
  have := cell_block h j
  rw [List.getElem?_toArray, hu] at this
  unfold Addr.add
  split
  · rename_i e; subst e; exact this
  · simpa using this
abbrev it (c : Int) : It := ⟨[], 0, 0, c⟩
abbrev a21 : List It := [it 60, it 30, it 100]
set_option maxRecDepth 100000 in
set_option maxHeartbeats 8000000 in
theorem awake21_any (w : World) : Calls Try.prog 29 #[] w (Tells (.bool true) w) := by
  have f21 : Fair a21 := by intro x hx; simp at hx; rcases hx with rfl | rfl | rfl <;> exact ⟨by decide, by decide⟩
  have H1 : Hid (sv a21 64 = ([it 60], [it 30, it 100], 4)) := Lib.hid (by kernel_rfl)
  have H2 : Hid (sv [it 30, it 100] 68 = ([it 30], [it 100], 38)) := Lib.hid (by kernel_rfl)
  have H3 : Hid (TN a21 0 2 3) := Lib.hid (by
    refine ⟨fun _ => ?_, fun h => absurd ⟨by decide, by decide, by decide, by decide, by decide, f21⟩ h, by omega⟩
    show Tn 0 a21 0 3
    refine .turn (by decide) ?_
    rw [show sv a21 (0 + 64) = _ from H1.out]
    show Tn 0 [it 30, it 100] 4 2
    refine .turn (by decide) ?_
    rw [show sv [it 30, it 100] (4 + 64) = _ from H2.out]
    show Tn 0 [it 100] 38 1
    exact .turn (by decide) (.done (by decide)))
  have H4 : Hid (TN a21 0 3 0) := Lib.hid ⟨fun h => absurd h.2.1 (by decide), fun _ => rfl, by omega⟩
  have HF := Lib.hid f21
  clear f21
  go_enter Try.func29, Try.ntmps29
  go_wp2_with fail
  refine (new_any _).mono ?_
  rintro e w1 ⟨rfl, hb, hq⟩
  have HQ1 := Lib.hid hq
  have HK1 : Hid (Its (fun b => b ≠ w.heap.size + 1) w1 (.slice (some ⟨w.heap.size, 0, none⟩) 3 3) a21) := Lib.hid ((its_box (rs := [(.slice none 0 0, it 60), (.slice none 0 0, it 30), (.slice none 0 0, it 100)]) (Box.new w _ 32) rfl (by show w.heap.size ≠ w.heap.size + 1; omega) (by intro r hr; simp at hr; rcases hr with rfl | rfl | rfl <;> exact Lb.nil _ _) (by simp)).below hb)
  have hb1 := hb.size
  rw [World.size_alloc] at hb1 HQ1 ⊢
  have HB1 := Lib.hid (below_then ((Below.refl _ w).alloc (Nat.le_refl _) _) hb)
  clear hb hq
  obtain ⟨q, hq0⟩ : ∃ q, q = w.heap.size + 1 := ⟨_, rfl⟩
  rw [← hq0] at HQ1 HK1 ⊢
  have hwq : w.heap.size ≤ q := by omega
  clear hq0
  obtain ⟨ad, had⟩ : ∃ ad : Addr, ad = ⟨w.heap.size, 0, none⟩ := ⟨_, rfl⟩
  rw [← had] at HK1 ⊢
  clear had
  go_wp2_with fail
  go_loopw [3] (fun j wr => ∃ k : Nat, j = .int .i64 k ∧ k ≤ 3 ∧ Its (fun b => b ≠ q) wr (.slice (some ad) 3 3) a21 ∧ QAt (fun b => b ≠ q) q wr (a21.take k) ∧ Below w.heap.size w wr) (fun j _ => 3 - (intOf j).toNat)
  · exact ⟨0, rfl, by omega, HK1.out, HQ1.out, HB1.out⟩
  obtain ⟨k, rfl, hk, hl, hq, hb⟩ := hrel
  have HK2 := Lib.hid hl
  have HQ2 := Lib.hid hq
  have HB2 := Lib.hid hb
  clear hl hq hb HK1 HQ1 HB1
  by_cases hlt : k < 3
  · obtain ⟨x, hx⟩ : ∃ x, a21[k]? = some x := ⟨_, List.getElem?_eq_getElem hlt⟩
    obtain ⟨a, lv, ha, hl, x0, x1, x2, x3⟩ := HK2.out.at hx
    obtain rfl : ad = a := by simpa using ha
    obtain ⟨p1, q1, rfl⟩ := hl.slice
    have HTS := Lib.hid (take_snoc hx)
    have hkk : (k : Int) < 3 := by omega
    have HL := Lib.hid hl
    have HM := Lib.hid (fair_may.2 (HF.out x (List.mem_of_getElem? hx)))
    have HBL : Hid ((a21.take k).length < 8) := Lib.hid (by rw [List.length_take]; have : a21.length = 3 := rfl; omega)
    have hqs := HQ2.out.lt
    clear hx hl ha
    go_wp2_with fail
    refine (push_yes' (x := x) HQ2.out HL.out (fun b hb => by omega) HM.out HBL.out).mono ?_
    rintro e w2 ⟨rfl, hq, hkp⟩
    have HQ4 := Lib.hid hq
    have HB4 := Lib.hid (HB2.out.trans (hkp.below (fun b e => by omega) HB2.out.size))
    have HK4 := Lib.hid (HK2.out.kept hkp (fun b _ s e => s e))
    clear hq hkp HQ2 HB2 HL HK2
    go_wp2_with fail
    exact ⟨⟨k + 1, by simp, by omega, HK4.out, by rw [HTS.out]; exact HQ4.out, HB4.out⟩, by simp [intOf]; omega⟩
  · obtain rfl : k = 3 := by omega
    rw [show a21.take 3 = a21 from rfl] at HQ2
    go_wp2_with fail
    refine (drrServe_any HQ2.out (by decide) (by decide) (by decide) HF.out).mono ?_
    rintro e w2 ⟨v1, rs1, rfl, hr, hq, hkp⟩
    rw [show (0 : Int) + 64 = 64 from rfl, H1.out] at hr hq ⊢
    have hqs1 := HQ2.out.lt
    have HQ3 := Lib.hid hq
    have HR3 := Lib.hid hr.all
    have HB3 := Lib.hid (HB2.out.trans (hkp.below (fun b e => by omega) HB2.out.size))
    have HK3 := Lib.hid (HK2.out.kept hkp (fun b _ s e => s e))
    clear hr hq hkp HQ2 HB2 HK2
    go_wp2_with fail
    refine (drrServe_any HQ3.out (by decide) (by decide) (by decide) (fun x hx => HF.out x (List.mem_cons_of_mem _ hx))).mono ?_
    rintro e w3 ⟨v2, rs2, rfl, hr, hq, hkp⟩
    rw [show ([it 60], [it 30, it 100], (4 : Int)).2.2 + 64 = 68 from rfl, H2.out] at hr hq ⊢
    have hqs := HQ3.out.lt
    have HQ4 := Lib.hid hq
    have HR4 := Lib.hid hr.all
    have HB4 := Lib.hid (HB3.out.trans (hkp.below (fun b e => by omega) HB3.out.size))
    have HK4 := Lib.hid (HK3.out.kept hkp (fun b _ s e => s e))
    have HR5 := Lib.hid (HR3.out.kept hkp (fun b _ s e => by omega))
    clear hr hq hkp HQ3 HB3 HK3 HR3
    obtain ⟨p1, c1, rfl⟩ := HR5.out.slice
    obtain ⟨p2, c2, rfl⟩ := HR4.out.slice
    obtain ⟨b1, lv1, rfl, _, _, _, _, y0⟩ := HR5.out.at (i := 0) (x := it 60) rfl
    have y3 : w3.cell? ⟨b1.block, b1.off + 3, none⟩ = some (.int .i64 60) := by simpa [Addr.add] using y0
    rw [show [it 60].length = 1 from rfl, show [it 30].length = 1 from rfl]
    clear y0
    go_wp2_with fail
    refine (drrTurns_any HK4.out (by decide) H3.out).mono ?_
    rintro e w4 ⟨rfl, hb⟩
    have HB5 := Lib.hid (below_then HB4.out hb)
    have HK5 := Lib.hid (HK4.out.below hb)
    clear hb HB4 HK4
    go_wp2_with fail
    refine (drrTurns_any HK5.out (by decide) H4.out).mono ?_
    rintro e w5 ⟨rfl, hb⟩
    have HB6 := Lib.hid (below_then HB5.out hb)
    clear hb HB5 HK5
    go_wp2_with fail
    go_ret
    exact ⟨rfl, HB6.out⟩
end Go.Proofs.Ythligipgmicgfaa
