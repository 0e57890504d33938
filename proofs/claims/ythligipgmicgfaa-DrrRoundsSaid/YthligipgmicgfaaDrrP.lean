/- drr.Round where it serves none; DrrNil -/
import Derived.Test.YthligipgmicgfaaDrrO
namespace Go.Proofs.Ythligipgmicgfaa
open Go.RowKit
attribute [local go_sem] Oper.semAt_some

def RoundNo (e0 : Int) (I : World → Prop) (e : Ending) (w' : World) : Prop := e = .returned (.tuple #[.slice none 0 0, .slice none 0 0, .int .i64 e0]) ∧ I w'
set_option maxRecDepth 100000 in
theorem round_arg {S T : Nat → Prop} {v dv : Value} {w : World} {vs : List Value} {ds : List Int} (h : Sl S w v 1 encP vs) (hd : Sl T w dv 1 encN ds) (hb : ¬ (vs.length = ds.length ∧ ds.any (fun d => !mayB d) = false)) : Calls Try.prog 34 #[v, dv] w (RoundNo 2 (fun W => W = w)) := by
  have HX := Lib.hid (cfInts hd)
  obtain ⟨p, c, rfl, hc1, hc2⟩ := h.len
  obtain ⟨p2, c2, rfl, hc3, hc4⟩ := hd.len
  by_cases hl : vs.length = ds.length
  · have hb2 : ds.any (fun d => !mayB d) = true := by
      cases hh : ds.any (fun d => !mayB d) with
      | true => rfl
      | false => exact absurd ⟨hl, hh⟩ hb
    have HB := Lib.hid hb2
    have hl2 : (vs.length : Int) = (ds.length : Int) := by omega
    clear h hd hb hb2
    go_enter Try.func34, Try.ntmps34
    go_wp2_with fail
    refine HX.out.mono ?_
    rintro e w1 ⟨rfl, rfl⟩
    rw [HB.out]
    go_wp2_with fail
    go_ret3
    exact ⟨rfl, rfl⟩
  · have hl2 : ¬ (vs.length : Int) = (ds.length : Int) := by omega
    clear h hd hb
    go_enter Try.func34, Try.ntmps34
    go_wp2_with fail
    go_ret3
    exact ⟨rfl, rfl⟩
set_option maxRecDepth 100000 in
theorem round_nil {I : World → Prop} {B : Value → Bool} {T : Nat → Prop} {v dv : Value} {w : World} {vs : List Value} {ds : List Int} (h : NoneSays I v vs B) (hi : I w) (hd : Sl T w dv 1 encN ds) (hl : vs.length = ds.length) (hm : ds.any (fun d => !mayB d) = false) (hB : vs.any B = true) : Calls Try.prog 34 #[v, dv] w (RoundNo 1 I) := by
  have HX := Lib.hid (cfInts hd)
  have HY := Lib.hid (cfQ h hi)
  obtain ⟨S0, h0⟩ := h.row w hi
  obtain ⟨p, c, rfl, hc1, hc2⟩ := h0.len
  obtain ⟨p2, c2, rfl, hc3, hc4⟩ := hd.len
  have HM := Lib.hid hm
  have HB := Lib.hid hB
  rw [hl] at HY ⊢
  clear h h0 hi hd hm hB
  go_enter Try.func34, Try.ntmps34
  go_wp2_with fail
  refine HX.out.mono ?_
  rintro e w1 ⟨rfl, rfl⟩
  rw [HM.out]
  go_wp2_with fail
  refine HY.out.mono ?_
  rintro e w2 ⟨rfl, hi⟩
  rw [HB.out]
  go_wp2_with fail
  go_ret3
  exact ⟨rfl, hi⟩
def nilB (v : Value) : Bool := match v with
  | .pointer none => true
  | _ => false
/-- a queue, the row of it and of none -/
structure NI (w : World) (q g : Nat) (W : World) : Prop where
  qa : QAt (fun b => b ≠ q) q W []
  b : Below w.heap.size w W
  bx : Box W g #[qv q, .pointer none] 24
theorem ni_says {w : World} {q g : Nat} (hg : ¬ g = q) (hq : w.heap.size ≤ q) : NoneSays (NI w q g) (.slice (some ⟨g, 0, none⟩) 2 2) [qv q, .pointer none] nilB := by
  refine ⟨fun W h => ⟨fun _ => True, Sl.block (xs := [qv q, .pointer none]) encP_len h.bx (fun j u hu => by simpa using hu) (by simp) (by decide) trivial⟩, fun W h x hx => ?_, fun x hx => ?_⟩
  · simp only [List.mem_cons, List.not_mem_nil, or_false] at hx
    rcases hx with rfl | rfl
    · refine (drrnone_any h.qa).mono ?_
      rintro e w' ⟨rfl, h1, h2⟩
      exact ⟨rfl, h1, h.b.trans (h2.below (fun k e => by omega) h.b.size), h.bx.kept h2 hg⟩
    · refine (drrnone_no (.inl rfl)).mono ?_
      rintro e w' ⟨rfl, h1⟩
      exact ⟨rfl, h.qa.below h1, below_then h.b h1, h.bx.below h1⟩
  · simp only [List.mem_cons, List.not_mem_nil, or_false] at hx
    rcases hx with rfl | rfl
    · exact ⟨_, rfl⟩
    · exact ⟨_, rfl⟩
set_option maxRecDepth 100000 in
set_option maxHeartbeats 4000000 in
theorem drrNil_any {d : Int} {w : World} (_ : (Lit.int .i64 d).wf = true) : Calls Try.prog 10 #[.int .i64 d] w (Tells (.bool true) w) := by
  go_enter Try.func10, Try.ntmps10
  go_wp2_with fail
  refine (drrServe_no (.inl rfl)).mono ?_
  rintro e w1 ⟨rfl, hb1⟩
  have HB1 := Lib.hid hb1
  clear hb1
  go_wp2_with fail
  refine (drrServe_no (.inr ⟨_, rfl, Box.new _ _ _⟩)).mono ?_
  rintro e w2 ⟨rfl, hb2⟩
  have HB2 := Lib.hid (below_then (below_then HB1.out ((Below.refl _ _).alloc (Nat.le_refl _) _)) hb2)
  clear hb2 HB1
  go_wp2_with fail
  refine (new_any _).mono ?_
  rintro e w3 ⟨rfl, hb3, hq3⟩
  have HB3 := Lib.hid (below_then HB2.out hb3)
  have HQ3 := Lib.hid hq3
  have hq2 := hb3.size
  have HB1s := HB2.out.size
  clear hb3 hq3 HB2
  obtain ⟨q, hq⟩ : ∃ q, q = w2.heap.size := ⟨_, rfl⟩
  rw [← hq] at HQ3 ⊢
  have hwq : w.heap.size ≤ q := by have := HB1s; omega
  have hql := HQ3.out.lt
  clear hq
  go_wp2_with fail
  have hb4 : Below w3.heap.size w3 ((w3.alloc (.cells #[qv q, .pointer none] 24)).alloc (.cells #[.int .i64 0, .int .i64 0] 3)) := ((Below.refl _ w3).alloc (Nat.le_refl _) _).alloc (by simp) _
  have b5 := Box.new (w3.alloc (.cells #[qv q, .pointer none] 24)) #[.int .i64 0, .int .i64 0] 3
  rw [World.size_alloc] at b5
  refine (round_nil (ds := [0, 0]) (T := fun _ => True) (ni_says (w := w) (by omega) hwq) ⟨HQ3.out.below hb4, below_then HB3.out hb4, (Box.new w3 _ _).alloc _⟩ (Sl.block (xs := [0, 0]) encN_len b5 (fun j u hu => by simpa using hu) (by decide) (by decide) trivial) rfl (by kernel_rfl) rfl).mono ?_
  rintro e w4 ⟨rfl, hi⟩
  have HB4 := Lib.hid hi.b
  clear hb4 b5 hi HB3 HQ3
  go_wp2_with fail
  refine (awake21_any _).mono ?_
  rintro e w5 ⟨rfl, hb⟩
  have HB5 := Lib.hid (below_then HB4.out hb)
  clear hb HB4
  go_wp2_with fail
  go_ret
  exact ⟨rfl, HB5.out⟩
end Go.Proofs.Ythligipgmicgfaa
