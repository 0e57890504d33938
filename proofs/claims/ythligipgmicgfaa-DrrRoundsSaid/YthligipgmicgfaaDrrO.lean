/- slices.ContainsFunc, slices.Contains as drr.Round uses them -/
import Derived.Test.YthligipgmicgfaaDrrV
import Derived.LaidEqlPtr
namespace Go.Proofs.Ythligipgmicgfaa
open Go.RowKit
attribute [local go_sem] Oper.semAt_some

abbrev encP (x : Value) : List Value := [x]
theorem encP_len (x : Value) : (encP x).length = 1 := rfl
/-- found (its place) or not -/
def Found {α : Type} (xs : List α) (B : α → Bool) (r : Int) : Prop := -1 ≤ r ∧ r ≤ xs.length ∧ decide (0 ≤ r) = xs.any B
def FoundTo {α : Type} (xs : List α) (B : α → Bool) (I : World → Prop) (e : Ending) (w' : World) : Prop := ∃ r, e = .returned (.int .i64 r) ∧ Found xs B r ∧ I w'
def AnyTo {α : Type} (xs : List α) (B : α → Bool) (I : World → Prop) (e : Ending) (w' : World) : Prop := e = .returned (.bool (xs.any B)) ∧ I w'
theorem found_yes {α : Type} {xs : List α} {B : α → Bool} {k : Nat} {x : α} (hx : xs[k]? = some x) (hb : B x = true) : Found xs B k := by
  have hk := (List.getElem?_eq_some_iff.1 hx).1
  exact ⟨by omega, by omega, by rw [decide_eq_true (by omega)]; exact (List.any_eq_true.2 ⟨x, List.mem_of_getElem? hx, hb⟩).symm⟩
theorem found_no {α : Type} {xs : List α} {B : α → Bool} (h : ∀ x ∈ xs, B x = false) : Found xs B (-1) :=
  ⟨by omega, by omega, by rw [decide_eq_false (by omega)]; exact (List.any_eq_false.2 (fun x hx => by rw [h x hx]; simp)).symm⟩
theorem notmay_any (d : Int) (w : World) : Calls Try.prog 42 #[.int .i64 d] w (Is (.bool (!mayB d)) w) := by
  have HA := Lib.hid (may_any d w)
  go_enter Try.func42, Try.ntmps42
  go_wp2_with fail
  refine HA.out.mono ?_
  rintro e w1 ⟨rfl, rfl⟩
  go_wp2_with fail
  go_ret
  exact ⟨rfl, rfl⟩
set_option maxRecDepth 100000 in
theorem idxInts {S : Nat → Prop} {v : Value} {w : World} {zs : List Int} (h : Sl S w v 1 encN zs) : Calls Try.prog 45 #[v, .func (.func 42) #[] #[]] w (FoundTo zs (fun d => !mayB d) (fun W => W = w)) := by
  obtain ⟨p, c, rfl, hc1, hc2⟩ := h.len
  unfold maxLen at hc2
  have HM := Lib.hid h
  have HA := Lib.hid (fun d W => notmay_any d W)
  clear h
  go_enter Try.func45, Try.ntmps45
  go_wp2_with fail
  go_loopw [8] (fun i wr => ∃ k : Nat, i = .int .i64 k ∧ k ≤ zs.length ∧ (∀ x ∈ zs.take k, (!mayB x) = false) ∧ wr = w) (fun i _ => zs.length - (intOf i).toNat)
  · exact ⟨0, rfl, by omega, (fun x hx => by cases hx), rfl⟩
  obtain ⟨k, rfl, hk, hf, rfl⟩ := hrel
  have HF := Lib.hid hf
  clear hf
  by_cases hlt : k < zs.length
  · obtain ⟨z, hz⟩ : ∃ z, zs[k]? = some z := ⟨_, List.getElem?_eq_getElem hlt⟩
    obtain ⟨a, rfl, hab, _, hM⟩ := HM.out.at hz
    have hz0 := hM k z hz 0 _ rfl
    clear hM
    rw [Nat.mul_one, Addr.add_zero'] at hz0
    have hkk : (k : Int) < (zs.length : Int) := by omega
    have HZ := Lib.hid hz
    clear hz
    go_wp2_with fail
    refine (HA.out z _).mono ?_
    rintro e w1 ⟨rfl, rfl⟩
    cases hm : mayB z with
    | true =>
      have HTS := Lib.hid (take_snoc HZ.out)
      have HM2 := Lib.hid hm
      clear hm
      go_wp2_with fail
      refine ⟨⟨k + 1, by simp, by omega, ?_, trivial⟩, by simp [intOf]; omega⟩
      rw [HTS.out]
      intro y hy
      rcases List.mem_append.1 hy with hy | hy
      · exact HF.out y hy
      · obtain rfl := List.mem_singleton.1 hy
        rw [HM2.out]; rfl
    | false =>
      have HM2 := Lib.hid hm
      clear hm
      go_wp2_with fail
      go_ret
      exact ⟨_, rfl, found_yes HZ.out (by rw [HM2.out]; rfl), rfl⟩
  · obtain rfl : k = zs.length := by omega
    rw [List.take_length] at HF
    go_wp2_with fail
    go_ret
    exact ⟨_, rfl, found_no HF.out, rfl⟩
set_option maxRecDepth 100000 in
theorem cfInts {S : Nat → Prop} {v : Value} {w : World} {zs : List Int} (h : Sl S w v 1 encN zs) : Calls Try.prog 41 #[v, .func (.func 42) #[] #[]] w (AnyTo zs (fun d => !mayB d) (fun W => W = w)) := by
  have HX := Lib.hid (idxInts h)
  obtain ⟨p, c, rfl, hc1, hc2⟩ := h.len
  clear h
  go_enter Try.func41, Try.ntmps41
  go_wp2_with fail
  refine HX.out.mono ?_
  rintro e w1 ⟨r, rfl, ⟨h1, h2, h3⟩, rfl⟩
  have HD := Lib.hid h3
  clear h3
  go_wp2_with fail
  go_ret
  exact ⟨by rw [← HD.out]; rfl, rfl⟩
/-- for any list of queues' pointers: what 'none' says of each, and what it keeps -/
structure NoneSays (I : World → Prop) (v : Value) (vs : List Value) (B : Value → Bool) : Prop where
  row : ∀ W, I W → ∃ S, Sl S W v 1 encP vs
  call : ∀ W, I W → ∀ q ∈ vs, Calls Try.prog 38 #[q] W (fun e W' => e = .returned (.bool (B q)) ∧ I W')
  ptr : ∀ q ∈ vs, ∃ a, q = .pointer a
set_option maxRecDepth 100000 in
theorem idxQ {I : World → Prop} {B : Value → Bool} {v : Value} {w : World} {vs : List Value} (h : NoneSays I v vs B) (hi : I w) : Calls Try.prog 46 #[v, .func (.func 38) #[] #[]] w (FoundTo vs B I) := by
  obtain ⟨S0, h0⟩ := h.row w hi
  obtain ⟨p, c, rfl, hc1, hc2⟩ := h0.len
  unfold maxLen at hc2
  have HS := Lib.hid h
  have HI := Lib.hid hi
  clear h h0 hi
  go_enter Try.func46, Try.ntmps46
  go_wp2_with fail
  go_loopw [8] (fun i wr => ∃ k : Nat, i = .int .i64 k ∧ k ≤ vs.length ∧ (∀ x ∈ vs.take k, B x = false) ∧ I wr) (fun i _ => vs.length - (intOf i).toNat)
  · exact ⟨0, rfl, by omega, (fun x hx => by cases hx), HI.out⟩
  obtain ⟨k, rfl, hk, hf, hi⟩ := hrel
  have HF := Lib.hid hf
  have HI2 := Lib.hid hi
  clear hf hi HI
  by_cases hlt : k < vs.length
  · obtain ⟨z, hz⟩ : ∃ z, vs[k]? = some z := ⟨_, List.getElem?_eq_getElem hlt⟩
    obtain ⟨S, hS⟩ := HS.out.row _ HI2.out
    obtain ⟨a, rfl, hab, _, hM⟩ := hS.at hz
    obtain ⟨ap, rfl⟩ := HS.out.ptr z (List.mem_of_getElem? hz)
    have hz0 := hM k _ hz 0 _ rfl
    clear hM hS
    rw [Nat.mul_one, Addr.add_zero'] at hz0
    have hkk : (k : Int) < (vs.length : Int) := by omega
    have HZ := Lib.hid hz
    clear hz
    go_wp2_with fail
    refine (HS.out.call _ HI2.out _ (List.mem_of_getElem? HZ.out)).mono ?_
    rintro e w1 ⟨rfl, hi⟩
    have HI3 := Lib.hid hi
    clear hi
    cases hm : B (.pointer ap) with
    | false =>
      have HTS := Lib.hid (take_snoc HZ.out)
      have HM2 := Lib.hid hm
      clear hm
      go_wp2_with fail
      refine ⟨⟨k + 1, by simp, by omega, ?_, HI3.out⟩, by simp [intOf]; omega⟩
      rw [HTS.out]
      intro y hy
      rcases List.mem_append.1 hy with hy | hy
      · exact HF.out y hy
      · obtain rfl := List.mem_singleton.1 hy
        exact HM2.out
    | true =>
      have HM2 := Lib.hid hm
      clear hm
      go_wp2_with fail
      go_ret
      exact ⟨_, rfl, found_yes HZ.out HM2.out, HI3.out⟩
  · obtain rfl : k = vs.length := by omega
    rw [List.take_length] at HF
    go_wp2_with fail
    go_ret
    exact ⟨_, rfl, found_no HF.out, HI2.out⟩
set_option maxRecDepth 100000 in
theorem cfQ {I : World → Prop} {B : Value → Bool} {v : Value} {w : World} {vs : List Value} (h : NoneSays I v vs B) (hi : I w) : Calls Try.prog 43 #[v, .func (.func 38) #[] #[]] w (AnyTo vs B I) := by
  have HX := Lib.hid (idxQ h hi)
  obtain ⟨S0, h0⟩ := h.row w hi
  obtain ⟨p, c, rfl, hc1, hc2⟩ := h0.len
  clear h h0 hi
  go_enter Try.func43, Try.ntmps43
  go_wp2_with fail
  refine HX.out.mono ?_
  rintro e w1 ⟨r, rfl, ⟨h1, h2, h3⟩, hi⟩
  have HD := Lib.hid h3
  have HI := Lib.hid hi
  clear h3 hi
  go_wp2_with fail
  go_ret
  exact ⟨by rw [← HD.out]; rfl, HI.out⟩
theorem info_queue : (Try.prog.info? 55).map (fun i => i.size) = some 2 := by kernel_rfl
/-- pointers to blocks -/
def Blk (w : World) (p : Nat) : Prop := ∃ cs t, Box w p cs t
theorem eq_same (w : World) (p : Nat) : (binOp .eql 24 (qv p) (qv p)).run Try.prog w = .ok (.bool true) w := by
  obtain ⟨j, hj, _⟩ := Option.map_eq_some_iff.1 info_queue
  exact run_eql_ptr_same w _ (te := 55) (by kernel_rfl) hj
theorem eq_other {w : World} {p q : Nat} (hp : Blk w p) (hq : Blk w q) (hn : ¬ p = q) : (binOp .eql 24 (qv p) (qv q)).run Try.prog w = .ok (.bool false) w := by
  obtain ⟨j, hj, hs⟩ := Option.map_eq_some_iff.1 info_queue
  obtain ⟨ca, ta, ha⟩ := hp
  obtain ⟨cb, tb, hb⟩ := hq
  exact run_eql_ptr_other w (te := 55) (by kernel_rfl) hj (by rw [hs]; decide) (fun e => hn (by cases e; rfl)) ha hb
set_option maxRecDepth 100000 in
theorem idxP {S : Nat → Prop} {v : Value} {w : World} {ps : List Nat} {q : Nat} (h : Sl S w v 1 encP (ps.map qv)) (hp : ∀ p ∈ ps, Blk w p) (hq : Blk w q) : Calls Try.prog 47 #[v, qv q] w (FoundTo ps (fun p => decide (q = p)) (fun W => W = w)) := by
  obtain ⟨p, c, rfl, hc1, hc2⟩ := h.len
  unfold maxLen at hc2
  rw [List.length_map] at hc1 ⊢
  have HM := Lib.hid h
  have HP := Lib.hid hp
  have HQ := Lib.hid hq
  clear h hp hq
  go_enter Try.func47, Try.ntmps47
  go_wp2_with fail
  go_loopw [8] (fun i wr => ∃ k : Nat, i = .int .i64 k ∧ k ≤ ps.length ∧ (∀ x ∈ ps.take k, decide (q = x) = false) ∧ wr = w) (fun i _ => ps.length - (intOf i).toNat)
  · exact ⟨0, rfl, by omega, (fun x hx => by cases hx), rfl⟩
  obtain ⟨k, rfl, hk, hf, rfl⟩ := hrel
  have HF := Lib.hid hf
  clear hf
  by_cases hlt : k < ps.length
  · obtain ⟨z, hz⟩ : ∃ z, ps[k]? = some z := ⟨_, List.getElem?_eq_getElem hlt⟩
    have hz2 : (ps.map qv)[k]? = some (qv z) := by rw [List.getElem?_map, hz]; rfl
    obtain ⟨a, rfl, hab, _, hM⟩ := HM.out.at hz2
    have hz0 := hM k _ hz2 0 _ rfl
    clear hM hz2
    rw [Nat.mul_one, Addr.add_zero'] at hz0
    have hkk : (k : Int) < (ps.length : Int) := by omega
    have HZ := Lib.hid hz
    clear hz
    by_cases hm : q = z
    · have HM2 := Lib.hid hm
      subst hm
      have he := eq_same wr q
      go_wp2_with fail
      go_ret
      exact ⟨_, rfl, found_yes HZ.out (by simp), rfl⟩
    · have HM2 := Lib.hid hm
      have HTS := Lib.hid (take_snoc HZ.out)
      have he := eq_other HQ.out (HP.out z (List.mem_of_getElem? HZ.out)) hm
      go_wp2_with fail
      refine ⟨⟨k + 1, by simp, by omega, ?_, trivial⟩, by simp [intOf]; omega⟩
      rw [HTS.out]
      intro y hy
      rcases List.mem_append.1 hy with hy | hy
      · exact HF.out y hy
      · obtain rfl := List.mem_singleton.1 hy
        exact decide_eq_false HM2.out
  · obtain rfl : k = ps.length := by omega
    rw [List.take_length] at HF
    go_wp2_with fail
    go_ret
    exact ⟨_, rfl, found_no HF.out, rfl⟩
set_option maxRecDepth 100000 in
theorem hasP {S : Nat → Prop} {v : Value} {w : World} {ps : List Nat} {q : Nat} (h : Sl S w v 1 encP (ps.map qv)) (hp : ∀ p ∈ ps, Blk w p) (hq : Blk w q) : Calls Try.prog 44 #[v, qv q] w (AnyTo ps (fun p => decide (q = p)) (fun W => W = w)) := by
  have HX0 := idxP (q := q) h hp hq
  obtain ⟨p, c, rfl, hc1, hc2⟩ := h.len
  rw [List.length_map] at hc1 HX0 ⊢
  have HX := Lib.hid HX0
  clear h hp hq HX0
  go_enter Try.func44, Try.ntmps44
  go_wp2_with fail
  refine HX.out.mono ?_
  rintro e w1 ⟨r, rfl, ⟨h1, h2, h3⟩, rfl⟩
  have HD := Lib.hid h3
  clear h3
  go_wp2_with fail
  go_ret
  exact ⟨by rw [← HD.out]; rfl, rfl⟩
end Go.Proofs.Ythligipgmicgfaa
