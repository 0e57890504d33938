/- drr.serve, drr.Serve -/
import Derived.Test.YthligipgmicgfaaDrr
namespace Go.Proofs.Ythligipgmicgfaa
open Go.RowKit
attribute [local go_sem] Oper.semAt_some

theorem qat_sub {S T : Nat → Prop} {p : Nat} {W : World} {xs : List It} (h : QAt S p W xs) (hS : ∀ k, k < W.heap.size → S k → T k) (hp : ¬ T p) : QAt T p W xs := by
  obtain ⟨v, h1, h2, _⟩ := h
  exact ⟨v, h1, h2.mono hS, hp⟩
def ServeTo (S : Nat → Prop) (p : Nat) (xs : List It) (d : Int) (w : World) (e : Ending) (w' : World) : Prop := ∃ v rs, e = .returned (.tuple #[v, .int .i64 (sv xs d).2.2]) ∧ Rws (fun k => w.heap.size ≤ k ∧ v.ownBlock ≠ some k) w' w.heap.size 32 v (sv xs d).1 rs ∧ QAt S p w' (sv xs d).2.1 ∧ Kept (fun k => k = p) w w'
abbrev fFirst (p : Nat) : Value := .func (.func 22) #[qv p] #[]
abbrev fPop (p : Nat) : Value := .func (.func 14) #[qv p] #[]
set_option maxRecDepth 100000 in
set_option maxHeartbeats 4000000 in
theorem serve_any {S : Nat → Prop} {p : Nat} {w : World} {xs : List It} {d : Int} (h : QAt S p w xs) (hd0 : 0 ≤ d) (hd : d ≤ 256) (hn : xs.length ≤ 100000) (hc : ∀ x ∈ xs, 1 ≤ x.cost ∧ x.cost ≤ 256) : Calls Try.prog 40 #[fFirst p, fPop p, .int .i64 d] w (ServeTo S p xs (d + 64) w) := by
  obtain ⟨i0, hi, hi0, hi1, hi2⟩ := info_parts info_item
  have HI := Lib.hid hi
  have HI0 := Lib.hid hi0
  have HI1 := Lib.hid hi1
  have HI2 := Lib.hid hi2
  have hSp := Lib.hid h.not
  have HQ := Lib.hid h.tight
  have hpl := h.lt
  have HC := Lib.hid hc
  clear h hi hi0 hi1 hi2 hc
  go_enter Try.func40, Try.ntmps40
  go_wp2_with fail
  go_loopw [2, 8] (fun ds v wr => ∃ (outs rest : List It) (rs : List (Value × It)) (e : Int), ds = .int .i64 e ∧ 0 ≤ e ∧ e ≤ 320 ∧ xs = outs ++ rest ∧ sv xs (d + 64) = (outs ++ (sv rest e).1, (sv rest e).2.1, (sv rest e).2.2) ∧ QAt (fun k => S k ∧ k < w.heap.size) p wr rest ∧ Rws (fun k => w.heap.size ≤ k ∧ v.ownBlock ≠ some k) wr w.heap.size 32 v outs rs ∧ Kept (fun k => k = p) w wr) (fun ds _ _ => (intOf ds).toNat)
  · exact ⟨[], xs, [], d + 64, rfl, by omega, by omega, rfl, rfl, HQ.out, Rws.none _ _ _ _, Kept.refl _ _⟩
  obtain ⟨outs, rest, rs, e, rfl, he0, he1, hxs, hsv, hq, hR, hK⟩ := hrel
  have HXS := Lib.hid hxs
  have HSV := Lib.hid hsv
  have HQ2 := Lib.hid hq
  have HR := Lib.hid hR
  have HK := Lib.hid hK
  clear hxs hsv hq hR hK HQ
  cases rest with
  | nil =>
    go_wp2_with fail
    refine (first_none (len_any (HQ2.out.below ((Below.refl _ wr).alloc (Nat.le_refl _) _)))).mono ?_
    rintro e1 w1 ⟨rfl, hb⟩
    have hbs := hb.size
    have HQ3 := Lib.hid ((HQ2.out.below hb).below ((Below.refl _ w1).alloc (Nat.le_refl _) (.cells z4 32)))
    have HR3 := Lib.hid ((HR.out.below hb).below ((Below.refl _ w1).alloc (Nat.le_refl _) (.cells z4 32)))
    have HK3 := Lib.hid ((HK.out.later hb).alloc (.cells z4 32))
    clear hb HQ2 HR HK
    go_wp2_with fail
    go_ret2
    have e0 := HSV.out
    rw [sv_nil, List.append_nil] at e0
    refine ⟨u8, rs, ?_, ?_, ?_, HK3.out⟩
    · rw [e0]; rfl
    · rw [e0]; exact HR3.out
    · rw [e0]; exact qat_sub HQ3.out (fun k _ s => s.1) hSp.out
  | cons x rest =>
    have hcx := HC.out x (by rw [HXS.out]; simp)
    have hc1 := hcx.1
    have hc2 := hcx.2
    have hol : rs.length ≤ 100000 := by have := HR.out.len; have e2 := HXS.out; rw [e2, List.length_append] at hn; omega
    have HOL := Lib.hid hol
    clear hcx
    go_wp2_with fail
    refine (first_some HQ2.out).mono ?_
    rintro e1 w1 ⟨l1, rfl, hl1, hb⟩
    obtain ⟨p1, q1, rfl⟩ := hl1.lb.slice
    have hba := (Below.refl _ w1).alloc (Nat.le_refl _) (.cells #[.slice p1 x.ls.length q1, .int .i64 x.at_, .int .i64 x.vl, .int .i64 x.cost] 32)
    have bx := Lib.hid (Box.new w1 #[.slice p1 x.ls.length q1, .int .i64 x.at_, .int .i64 x.vl, .int .i64 x.cost] 32)
    have HQ3 := Lib.hid ((HQ2.out.below hb).below hba)
    have HR3 := Lib.hid ((HR.out.below hb).below hba)
    have HK3 := Lib.hid ((HK.out.later hb).later hba)
    have HL3 := Lib.hid ((hl1.mono (T := fun k => w.heap.size ≤ k ∧ u8.ownBlock ≠ some k) (fun k _ hk => ⟨Nat.le_trans HK.out.size hk, fun e => by have := (HR.out.own.lt k e).2; omega⟩)).below hba)
    have hs1 : w.heap.size ≤ w1.heap.size := Nat.le_trans HK.out.size hb.size
    have HNE : Hid (u8.ownBlock ≠ some w1.heap.size) := Lib.hid (fun e => by have h1 := (HR.out.own.lt _ e).2; have h2 := hb.size; omega)
    clear hb hba hl1 HQ2 HR HK
    by_cases hle : x.cost ≤ e
    · have hgt : ¬ e < x.cost := by omega
      have HLE := Lib.hid hle
      go_wp2_with fail
      refine (pop_some HQ3.out).mono ?_
      rintro e2 w2 ⟨l2, rfl, hl2, hq2, hk2⟩
      have hpw1 : ¬ w1.heap.size = p := by omega
      have hf : ∀ k, w.heap.size ≤ k → ¬ k = p := fun k hk e => by omega
      have HQ4 := Lib.hid hq2
      have HR4 := Lib.hid (HR3.out.kept hk2 (fun k _ s => hf k s.1) (fun k _ e => hf k (HR3.out.own.lt k e).1))
      have HL4 := Lib.hid (HL3.out.kept hk2 (fun k _ s => hf k s.1))
      have HK4 := Lib.hid (HK3.out.trans hk2 (H := fun k => k = p) (fun _ _ h => h) (fun _ _ h => h))
      have BX4 := Lib.hid (bx.out.kept hk2 hpw1)
      have c2 := BX4.out.rd.1
      have hw2 : w1.heap.size < w2.heap.size := BX4.out.lt
      clear hq2 hk2 hl2 HQ3 HR3 HL3 HK3 bx hf
      have hba := (Below.refl _ w2).alloc (Nat.le_refl _) (.cells #[.slice p1 x.ls.length q1, .int .i64 x.at_, .int .i64 x.vl, .int .i64 x.cost] 32)
      have HR5 := Lib.hid (HR4.out.below hba)
      have HL5 := Lib.hid (HL4.out.below hba)
      have HQ5 := Lib.hid (HQ4.out.below hba)
      have HK5 := Lib.hid (HK4.out.later hba)
      have hs2 : w.heap.size ≤ w2.heap.size := by omega
      clear hba HR4 HL4 HQ4 HK4
      go_wp2_with (at_builtin; refine wpList_append_sl encI_len rfl (.tmp 31) (.tmp 33) 36 rfl w.heap.size 32 i0 _ 48 Try.underlying36 HI.out HI0.out HI1.out HI2.out rfl (by decide) (v := u8) (xs := rs) (ys := [(.slice p1 x.ls.length q1, x)]) (by rfl) (by rfl) HR5.out.own (Sl.one (S := fun _ => True) encI_len (Box.new _ _ _) rfl trivial) one_row (by simp only [List.length_cons, List.length_nil]; have := HOL.out; unfold maxLen; omega) (by simp only [List.length_cons, List.length_nil]; have := HOL.out; omega) (by rw [World.size_alloc]; omega) ?_; intro v3 w3 hown hk3 hat; have c3 := ((BX4.out.alloc _).kept hk3 (fun e => HNE.out e)).rd.1; have HOWN := Lib.hid hown; have HK6 := Lib.hid hk3; have HAT := Lib.hid hat; clear hown hk3 hat)
      have hlt := HR5.out.own.lt
      refine ⟨⟨outs ++ [x], rest, rs ++ [(.slice p1 x.ls.length q1, x)], e - x.cost, rfl, by omega, by omega, by rw [HXS.out]; simp, ?_, ?_, HR5.out.snoc HL5.out HOWN.out HK6.out HAT.out, ?_⟩, by simp [intOf]; omega⟩
      · have e0 := HSV.out
        rw [sv_yes HLE.out] at e0
        rw [e0]
        simp
      · exact HQ5.out.kept HK6.out (fun k _ s e => by have := (hlt k e).1; omega) (fun e => by have := (hlt p e).1; omega)
      · exact HK5.out.trans HK6.out (fun _ _ h => h) (fun k hk e => by have := (hlt k e).1; omega)
    · have hgt : e < x.cost := by omega
      have HLE := Lib.hid hle
      go_wp2_with fail
      go_ret2
      have e0 := HSV.out
      rw [sv_no (x := x) (d := e) (by have := HLE.out; omega), List.append_nil] at e0
      refine ⟨u8, rs, ?_, ?_, ?_, HK3.out⟩
      · rw [e0]; rfl
      · rw [e0]; exact HR3.out
      · rw [e0]; exact qat_sub HQ3.out (fun k _ s => s.1) hSp.out
/-- drr.Serve -/
def SrvTo (S : Nat → Prop) (p : Nat) (xs : List It) (d : Int) (w : World) (e : Ending) (w' : World) : Prop := ∃ v rs, e = .returned (.tuple #[v, .int .i64 (sv xs (d + 64)).2.2, .int .i64 0]) ∧ Rws (fun k => w.heap.size ≤ k ∧ v.ownBlock ≠ some k) w' w.heap.size 32 v (sv xs (d + 64)).1 rs ∧ QAt S p w' (sv xs (d + 64)).2.1 ∧ Kept (fun k => k = p) w w'
def SrvNot (S : Nat → Prop) (p : Nat) (xs : List It) (w : World) (e : Ending) (w' : World) : Prop := e = .returned (.tuple #[.slice none 0 0, .int .i64 0, .int .i64 2]) ∧ QAt S p w' xs ∧ Kept (fun k => k = p) w w'
theorem Rws.lower {S : Nat → Prop} {W : World} {base base' : Nat} {e : TypeId} {v : Value} {xs : List It} {rs : List (Value × It)} (h : Rws S W base e v xs rs) (hb : base' ≤ base) : Rws S W base' e v xs rs := ⟨h.map, owns_lower h.own hb, h.lab⟩
theorem drrServe_any {S : Nat → Prop} {p : Nat} {w : World} {xs : List It} {d : Int} (h : QAt S p w xs) (hd0 : 0 ≤ d) (hd : d ≤ 256) (hn : xs.length ≤ 100000) (hc : ∀ x ∈ xs, 1 ≤ x.cost ∧ x.cost ≤ 256) : Calls Try.prog 28 #[qv p, .int .i64 d] w (SrvTo S p xs d w) := by
  have HP := Lib.hid (drrnone_any h)
  have HM := Lib.hid (fun W => may_any d W)
  have hm : mayB d = true := by unfold mayB; simp [hd0, hd]
  rw [hm] at HM
  have HC := Lib.hid hc
  clear h hc hm
  go_enter Try.func28, Try.ntmps28
  go_wp2_with fail
  refine HP.out.mono ?_
  rintro e w1 ⟨rfl, hq, hk⟩
  have HQ := Lib.hid hq
  have HK := Lib.hid hk
  clear hq hk
  go_wp2_with fail
  refine (HM.out _).mono ?_
  rintro e w2 ⟨rfl, rfl⟩
  go_wp2_with fail
  refine (serve_any HQ.out hd0 hd hn HC.out).mono ?_
  rintro e w3 ⟨v, rs, rfl, hr, hq, hk⟩
  have HR := Lib.hid hr
  have HQ2 := Lib.hid hq
  have HK2 := Lib.hid hk
  clear hr hq hk
  go_wp2_with fail
  go_ret3
  have hs := HK.out.size
  refine ⟨v, rs, rfl, (HR.out.lower hs).mono (fun k _ hk => ⟨by omega, hk.2⟩), HQ2.out, HK.out.trans HK2.out (fun _ _ h => h) (fun _ _ h => h)⟩
theorem drrServe_not {S : Nat → Prop} {p : Nat} {w : World} {xs : List It} {d : Int} (h : QAt S p w xs) (hd : ¬ (0 ≤ d ∧ d ≤ 256)) : Calls Try.prog 28 #[qv p, .int .i64 d] w (SrvNot S p xs w) := by
  have HP := Lib.hid (drrnone_any h)
  have HM := Lib.hid (fun W => may_any d W)
  have hm : mayB d = false := by unfold mayB; rw [Bool.and_eq_false_iff, decide_eq_false_iff_not, decide_eq_false_iff_not]; omega
  rw [hm] at HM
  clear h hm
  go_enter Try.func28, Try.ntmps28
  go_wp2_with fail
  refine HP.out.mono ?_
  rintro e w1 ⟨rfl, hq, hk⟩
  have HQ := Lib.hid hq
  have HK := Lib.hid hk
  clear hq hk
  go_wp2_with fail
  refine (HM.out _).mono ?_
  rintro e w2 ⟨rfl, rfl⟩
  go_wp2_with fail
  go_ret3
  exact ⟨rfl, HQ.out, HK.out⟩
theorem drrServe_no {q : Value} {w : World} {d : Int} (h : QNo w q) : Calls Try.prog 28 #[q, .int .i64 d] w (Tells (.tuple #[.slice none 0 0, .int .i64 0, .int .i64 1]) w) := by
  have HP := Lib.hid (drrnone_no h)
  clear h
  go_enter Try.func28, Try.ntmps28
  go_wp2_with fail
  refine HP.out.mono ?_
  rintro e w1 ⟨rfl, hb⟩
  go_wp2_with fail
  go_ret3
  exact ⟨rfl, hb⟩
end Go.Proofs.Ythligipgmicgfaa
