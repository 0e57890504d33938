/- place: where the message of a rule and an instant is owed. -/
import Derived.Test.YtfaafndaelmbfaaOBx
namespace Go.Proofs.Ytfaafndaelmbfaa
open Go.RowKit
attribute [local go_sem] Oper.semAt_some

def isM (r i : Int) (x : Ox) : Bool := decide (x.m.rule = r) && decide (x.m.at_ = i)
/-- the first one, or -1 -/
def Found (xs : List Ox) (p : Ox → Bool) (z : Int) : Prop := (z = -1 ∧ ∀ x ∈ xs, p x = false) ∨ ∃ (k : Nat) (x : Ox), z = k ∧ xs[k]? = some x ∧ p x = true ∧ ∀ y ∈ xs.take k, p y = false
def PlaceTo (xs : List Ox) (p : Ox → Bool) (w : World) (e : Ending) (w' : World) : Prop := ∃ z, e = .returned (.int .i64 z) ∧ Found xs p z ∧ Below w.heap.size w w'
set_option maxRecDepth 100000 in
set_option maxHeartbeats 1000000 in
theorem place1_any {o : Ow} {r i : Int} {b4 b5 : Nat} {w : World} (h4 : Box w b4 #[.int .u32 r] 27) (h5 : Box w b5 #[.int .i64 i] 3) :
    Calls Try.prog 37 #[ov o, .pointer (some ⟨b4, 0, none⟩), .pointer (some ⟨b5, 0, none⟩)] w (Tells (.bool (isM r i o.pl)) w) := by
  obtain ⟨⟨kv, sv, m⟩, tr, nx⟩ := o
  have hb0 : Below w.heap.size w (w.alloc (.cells (oc ⟨⟨kv, sv, m⟩, tr, nx⟩) 36)) := (Below.refl _ w).alloc (Nat.le_refl _) _
  have HB := Lib.hid hb0
  have c4 := h4.rd.1
  have c5 := h5.rd.1
  have l4 := h4.lt
  have l5 := h5.lt
  clear h4 h5 hb0
  by_cases h1 : m.rule = r
  · by_cases h2 : m.at_ = i
    · subst h1 h2
      have e : isM m.rule m.at_ (Ow.pl ⟨⟨kv, sv, m⟩, tr, nx⟩) = true := by unfold isM Ow.pl; simp
      rw [e]
      clear e
      go_enter Try.func37, Try.ntmps37
      go_wp2_with fail
      go_ret
      exact ⟨rfl, HB.out⟩
    · subst h1
      have e : isM m.rule i (Ow.pl ⟨⟨kv, sv, m⟩, tr, nx⟩) = false := by unfold isM Ow.pl; simp [h2]
      rw [e]
      have hne : (m.at_ == i) = false := by rw [beq_eq_false_iff_ne]; exact h2
      clear e
      go_enter Try.func37, Try.ntmps37
      go_wp2_with fail
      go_ret
      exact ⟨rfl, HB.out⟩
  · have e : isM r i (Ow.pl ⟨⟨kv, sv, m⟩, tr, nx⟩) = false := by unfold isM Ow.pl; simp [h1]
    rw [e]
    have hne : (m.rule == r) = false := by rw [beq_eq_false_iff_ne]; exact h1
    clear e
    go_enter Try.func37, Try.ntmps37
    go_wp2_with fail
    go_ret
    exact ⟨rfl, HB.out⟩
theorem take_snoc' {α : Type} {l : List α} {k : Nat} {x : α} (h : l[k]? = some x) : l.take (k + 1) = l.take k ++ [x] := by
  rw [List.take_add_one, h]; rfl
/-- a slice of what is owed -/
def Osl (S : Nat → Prop) (W : World) (v : Value) (xs : List Ox) : Prop := ∃ rs : List Ow, rs.map Ow.pl = xs ∧ Sl S W v 7 encO rs ∧ ∀ r ∈ rs, Mo S W r.m
theorem Osl.below {S : Nat → Prop} {W W' : World} {v : Value} {xs : List Ox} (h : Osl S W v xs) (hb : Below W.heap.size W W') : Osl S W' v xs := by
  obtain ⟨rs, h1, h2, h3⟩ := h
  exact ⟨rs, h1, h2.below hb, fun r hr => (h3 r hr).below hb⟩
set_option maxRecDepth 100000 in
set_option maxHeartbeats 1000000 in
theorem idxO_any {S : Nat → Prop} {v : Value} {rs : List Ow} {r i : Int} {b4 b5 : Nat} {w : World} (h : Sl S w v 7 encO rs) (hn : rs.length ≤ 100000) (h4 : Box w b4 #[.int .u32 r] 27) (h5 : Box w b5 #[.int .i64 i] 3) :
    Calls Try.prog 36 #[v, .func (.func 37) #[] #[.pointer (some ⟨b4, 0, none⟩), .pointer (some ⟨b5, 0, none⟩)]] w (PlaceTo (rs.map Ow.pl) (isM r i) w) := by
  obtain ⟨p, c, rfl, -, -⟩ := h.len
  have HM := Lib.hid h
  have H4 := Lib.hid h4
  have H5 := Lib.hid h5
  clear h h4 h5
  go_enter Try.func36, Try.ntmps36
  go_wp2_with fail
  go_loopw [8] (fun iv_ wr => ∃ k : Nat, iv_ = .int .i64 k ∧ k ≤ rs.length ∧ (∀ x ∈ (rs.map Ow.pl).take k, isM r i x = false) ∧ Below w.heap.size w wr) (fun iv_ _ => rs.length - (intOf iv_).toNat)
  · exact ⟨0, rfl, by omega, (fun x hx => by simp at hx), Below.refl _ _⟩
  obtain ⟨k, rfl, hk, hf, hB⟩ := hrel
  have HF := Lib.hid hf
  have HB := Lib.hid hB
  clear hf hB
  by_cases hlt : k < rs.length
  · obtain ⟨⟨⟨kv, sv, m⟩, tr, nx⟩, hz⟩ : ∃ z, rs[k]? = some z := ⟨_, List.getElem?_eq_getElem hlt⟩
    obtain ⟨a, rfl, -, -, hM⟩ := (HM.out.below HB.out).at hz
    have x0 := hM k _ hz 0 _ rfl
    have x1 := hM k _ hz 1 _ rfl
    have x2 := hM k _ hz 2 _ rfl
    have x3 := hM k _ hz 3 _ rfl
    have x4 := hM k _ hz 4 _ rfl
    have x5 := hM k _ hz 5 _ rfl
    have x6 := hM k _ hz 6 _ rfl
    rw [Addr.add_zero'] at x0
    have x1' : wr.cell? ⟨(a.add (k * 7)).block, (a.add (k * 7)).off + 1, none⟩ = some (.string m.route) := x1
    have x2' : wr.cell? ⟨(a.add (k * 7)).block, (a.add (k * 7)).off + 2, none⟩ = some (.int .i64 m.at_) := x2
    have x3' : wr.cell? ⟨(a.add (k * 7)).block, (a.add (k * 7)).off + 3, none⟩ = some kv := x3
    have x4' : wr.cell? ⟨(a.add (k * 7)).block, (a.add (k * 7)).off + 4, none⟩ = some sv := x4
    have x5' : wr.cell? ⟨(a.add (k * 7)).block, (a.add (k * 7)).off + 5, none⟩ = some (.int .i64 tr) := x5
    have x6' : wr.cell? ⟨(a.add (k * 7)).block, (a.add (k * 7)).off + 6, none⟩ = some (.int .i64 nx) := x6
    have hkk : (k : Int) < (rs.length : Int) := by omega
    have HZ : Hid ((rs.map Ow.pl)[k]? = some (Ow.pl ⟨⟨kv, sv, m⟩, tr, nx⟩)) := Lib.hid (by rw [List.getElem?_map, hz]; rfl)
    have HC := Lib.hid (place1_any (o := ⟨⟨kv, sv, m⟩, tr, nx⟩) (H4.out.below HB.out) (H5.out.below HB.out))
    clear hM hz x1 x2 x3 x4 x5 x6
    go_wp2_with fail
    refine HC.out.mono ?_
    rintro e w1 ⟨rfl, hb⟩
    have HB1 := Lib.hid (HB.out.trans (hb.mono HB.out.size))
    obtain ⟨f, hfe⟩ : ∃ f, isM r i (Ow.pl ⟨⟨kv, sv, m⟩, tr, nx⟩) = f := ⟨_, rfl⟩
    rw [hfe]
    have HFE := Lib.hid hfe
    clear hb hfe HC x0 x1' x2' x3' x4' x5' x6'
    cases f with
    | false =>
      have HTS := Lib.hid (take_snoc' HZ.out)
      go_wp2_with fail
      refine ⟨⟨k + 1, by simp, by omega, ?_, HB1.out⟩, by simp [intOf]; omega⟩
      rw [HTS.out]
      intro y hy
      rcases List.mem_append.1 hy with hy | hy
      · exact HF.out y hy
      · obtain rfl := List.mem_singleton.1 hy
        exact HFE.out
    | true =>
      go_wp2_with fail
      go_ret
      exact ⟨_, rfl, .inr ⟨k, _, rfl, HZ.out, HFE.out, HF.out⟩, HB1.out⟩
  · obtain rfl : k = rs.length := by omega
    rw [List.take_of_length_le (by simp)] at HF
    go_wp2_with fail
    go_ret
    exact ⟨_, rfl, .inl ⟨rfl, HF.out⟩, HB.out⟩
set_option maxRecDepth 100000 in
theorem place_any {S : Nat → Prop} {v : Value} {xs : List Ox} {r i : Int} {w : World} (h : Osl S w v xs) (hn : xs.length ≤ 100000) : Calls Try.prog 28 #[v, .int .u32 r, .int .i64 i] w (PlaceTo xs (isM r i) w) := by
  obtain ⟨rs, rfl, h1, h2⟩ := h
  rw [List.length_map] at hn
  have b4 := (Box.new w #[.int .u32 r] 27).alloc (.cells #[.int .i64 i] 3)
  have b5 := Box.new (w.alloc (.cells #[.int .u32 r] 27)) #[.int .i64 i] 3
  rw [World.size_alloc] at b5
  have hb : Below w.heap.size w ((w.alloc (.cells #[.int .u32 r] 27)).alloc (.cells #[.int .i64 i] 3)) := ((Below.refl _ w).alloc (Nat.le_refl _) _).alloc (by simp) _
  have HC := Lib.hid (idxO_any (h1.below hb) hn b4 b5)
  have HB := Lib.hid hb
  obtain ⟨p, c, rfl, -, -⟩ := h1.len
  clear h1 h2 b4 b5 hb
  go_enter Try.func28, Try.ntmps28
  go_wp2_with fail
  refine HC.out.mono ?_
  rintro e w1 ⟨z, rfl, hf, hb⟩
  have HB1 := Lib.hid (HB.out.trans (hb.mono HB.out.size))
  have HF := Lib.hid hf
  clear hf hb HC
  go_wp2_with fail
  go_ret
  exact ⟨z, rfl, HF.out, HB1.out⟩
end Go.Proofs.Ytfaafndaelmbfaa
