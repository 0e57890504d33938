/- A rule's mutes: owe.muted and the reference's Muted -/
import Derived.Test.YtajflljemfgkiaaEGrt
import Derived.Test.YtajflljemfgkiaaMAny
import Derived.Test.YtajflljemfgkiaaMutB
namespace Go.Proofs.Ytajflljemfgkiaa
open Go.RowKit Mut
attribute [local go_sem] Oper.semAt_some

theorem encU_one (m : MuteD) : ∀ u ∈ encU m, u.oneCell' = true := by
  intro u hu
  simp only [List.mem_cons, List.not_mem_nil, or_false] at hu
  rcases hu with rfl | rfl | rfl | rfl | rfl | rfl | rfl | rfl | rfl | rfl <;> rfl
theorem cells_U {W : World} {a : Addr} {xs : List MuteD} {k : Nat} {x : MuteD} (h : RowAt W a 10 encU xs) (hx : xs[k]? = some x) :
    W.cell? (a.add (k * 10)) = some (.string x.nm) ∧ W.cell? ⟨(a.add (k * 10)).block, (a.add (k * 10)).off + 1, none⟩ = some (.bool x.d0) ∧ W.cell? ⟨(a.add (k * 10)).block, (a.add (k * 10)).off + 2, none⟩ = some (.bool x.d1) ∧ W.cell? ⟨(a.add (k * 10)).block, (a.add (k * 10)).off + 3, none⟩ = some (.bool x.d2) ∧ W.cell? ⟨(a.add (k * 10)).block, (a.add (k * 10)).off + 4, none⟩ = some (.bool x.d3) ∧ W.cell? ⟨(a.add (k * 10)).block, (a.add (k * 10)).off + 5, none⟩ = some (.bool x.d4) ∧ W.cell? ⟨(a.add (k * 10)).block, (a.add (k * 10)).off + 6, none⟩ = some (.bool x.d5) ∧ W.cell? ⟨(a.add (k * 10)).block, (a.add (k * 10)).off + 7, none⟩ = some (.bool x.d6) ∧ W.cell? ⟨(a.add (k * 10)).block, (a.add (k * 10)).off + 8, none⟩ = some (.int .i64 x.f) ∧ W.cell? ⟨(a.add (k * 10)).block, (a.add (k * 10)).off + 9, none⟩ = some (.int .i64 x.t) := by
  have x0 := h k _ hx 0 _ rfl
  rw [Addr.add_zero'] at x0
  exact ⟨x0, h k _ hx 1 _ rfl, h k _ hx 2 _ rfl, h k _ hx 3 _ rfl, h k _ hx 4 _ rfl, h k _ hx 5 _ rfl, h k _ hx 6 _ rfl, h k _ hx 7 _ rfl, h k _ hx 8 _ rfl, h k _ hx 9 _ rfl⟩
def isNm (s : ByteArray) (m : MuteD) : Bool := decide (m.nm = s)
def namedL (ms : List MuteD) (names : List ByteArray) : List MuteD := names.filterMap fun s => ms.find? (isNm s)
def mutedB (ms : List MuteD) (names : List ByteArray) (n : Int) : Bool := anyS (namedL ms names) n
theorem Sl.mutes {S : Nat → Prop} {W : World} {v : Value} {ms : List MuteD} (h : Sl S W v 10 encU ms) : Mutes W v ms := by
  rcases h with ⟨rfl, rfl⟩ | ⟨a, cap, rfl, h1, h2, h3, h4⟩
  · exact .inl ⟨rfl, rfl⟩
  · exact .inr ⟨a, cap, rfl, fun h => (h1 h).1, h2, h3, fun i m hm j u hu => h4 i m hm j u (by simpa using hu)⟩
abbrev muv (m : MuteD) : Value := .agg #[.string m.nm, .bool m.d0, .bool m.d1, .bool m.d2, .bool m.d3, .bool m.d4, .bool m.d5, .bool m.d6, .int .i64 m.f, .int .i64 m.t]
set_option maxRecDepth 100000 in
set_option maxHeartbeats 1000000 in
theorem mut1_any {x : MuteD} {s : ByteArray} {b : Nat} {w : World} (h : Box w b #[.string s] 9) : Calls Try.prog 37 #[muv x, .pointer (some ⟨b, 0, none⟩)] w (Tells (.bool (isNm s x)) w) := by
  obtain ⟨nm, d0, d1, d2, d3, d4, d5, d6, f, t⟩ := x
  have hb0 : Below w.heap.size w (w.alloc (.cells #[.string nm, .bool d0, .bool d1, .bool d2, .bool d3, .bool d4, .bool d5, .bool d6, .int .i64 f, .int .i64 t] 46)) := (Below.refl _ w).alloc (Nat.le_refl _) _
  have HB := Lib.hid hb0
  have c := h.rd.1
  have hl := h.lt
  clear h hb0
  by_cases hq : nm = s
  · subst hq
    have e : isNm nm ⟨nm, d0, d1, d2, d3, d4, d5, d6, f, t⟩ = true := by unfold isNm; simp
    rw [e]
    clear e
    go_enter Try.func37, Try.ntmps37
    go_wp2_with fail
    go_ret
    exact ⟨by simp, HB.out⟩
  · have e : isNm s ⟨nm, d0, d1, d2, d3, d4, d5, d6, f, t⟩ = false := by unfold isNm; simp [hq]
    rw [e]
    have hne := str_ne hq
    clear e hq
    go_enter Try.func37, Try.ntmps37
    go_wp2_with fail
    go_ret
    exact ⟨by simp, HB.out⟩
def FoundU (l : List MuteD) (s : ByteArray) (z : Int) : Prop := (z = -1 ∧ l.find? (isNm s) = none) ∨ ∃ (k : Nat) (x : MuteD), z = k ∧ l[k]? = some x ∧ l.find? (isNm s) = some x
theorem find_at' {α : Type} {l : List α} {p : α → Bool} : ∀ {k : Nat} {x : α}, l[k]? = some x → p x = true → (∀ y ∈ l.take k, p y = false) → l.find? p = some x := by
  induction l with
  | nil => intro k x h; simp at h
  | cons y ys ih =>
    intro k x h hp ht
    match k, h with
    | 0, h =>
      obtain rfl : y = x := by simpa using h
      simp [hp]
    | k + 1, h =>
      have hy : p y = false := ht y (by simp)
      rw [List.find?_cons_of_neg (by rw [hy]; simp)]
      exact ih (by simpa using h) hp (fun z hz => ht z (by simp [hz]))
def IdxU (l : List MuteD) (s : ByteArray) (w : World) (e : Ending) (w' : World) : Prop := ∃ z, e = .returned (.int .i64 z) ∧ FoundU l s z ∧ Below w.heap.size w w'
set_option maxRecDepth 100000 in
set_option maxHeartbeats 1000000 in
theorem idxU_any {S : Nat → Prop} {v : Value} {l : List MuteD} {s : ByteArray} {b : Nat} {w : World} (h : Sl S w v 10 encU l) (hn : l.length ≤ 100000) (hbx : Box w b #[.string s] 9) :
    Calls Try.prog 36 #[v, .func (.func 37) #[] #[.pointer (some ⟨b, 0, none⟩)]] w (IdxU l s w) := by
  obtain ⟨p, c, rfl, -, -⟩ := h.len
  have HM := Lib.hid h
  have H4 := Lib.hid hbx
  clear h hbx
  go_enter Try.func36, Try.ntmps36
  go_wp2_with fail
  go_loopw [5, 8] (fun _ iv_ wr => ∃ k : Nat, iv_ = .int .i64 k ∧ k ≤ l.length ∧ (∀ x ∈ l.take k, isNm s x = false) ∧ Below w.heap.size w wr) (fun _ iv_ _ => l.length - (intOf iv_).toNat)
  · exact ⟨0, rfl, by omega, (fun x hx => by simp at hx), Below.refl _ _⟩
  obtain ⟨k, rfl, hk, hf, hB⟩ := hrel
  have HF := Lib.hid hf
  have HB := Lib.hid hB
  clear hf hB
  by_cases hlt : k < l.length
  · obtain ⟨⟨nm, d0, d1, d2, d3, d4, d5, d6, f, t⟩, hx⟩ : ∃ z, l[k]? = some z := ⟨_, List.getElem?_eq_getElem hlt⟩
    obtain ⟨a, rfl, -, -, hM⟩ := (HM.out.below HB.out).at hx
    obtain ⟨x0, x1, x2, x3, x4, x5, x6, x7, x8, x9⟩ := cells_U hM hx
    simp only at x0 x1 x2 x3 x4 x5 x6 x7 x8 x9
    have hkk : (k : Int) < (l.length : Int) := by omega
    have HZ := Lib.hid hx
    have HC := Lib.hid (mut1_any (x := ⟨nm, d0, d1, d2, d3, d4, d5, d6, f, t⟩) (H4.out.below HB.out))
    clear hM hx
    go_wp2_with fail
    refine HC.out.mono ?_
    rintro e w1 ⟨rfl, hb⟩
    have HB1 := Lib.hid (HB.out.trans (hb.mono HB.out.size))
    obtain ⟨q, hfe⟩ : ∃ q, isNm s ⟨nm, d0, d1, d2, d3, d4, d5, d6, f, t⟩ = q := ⟨_, rfl⟩
    rw [hfe]
    have HFE := Lib.hid hfe
    clear hb hfe HC x0 x1 x2 x3 x4 x5 x6 x7 x8 x9
    cases q with
    | false =>
      have HTS := Lib.hid (take_snoc' HZ.out)
      go_wp2_with fail
      refine ⟨⟨k + 1, by simp, by omega, ?_, HB1.out⟩, by simp [intOf]; omega⟩
      rw [HTS.out]
      intro y hy
      rcases List.mem_append.1 hy with hy | hy
      · exact HF.out y hy
      · obtain rfl := List.mem_singleton.1 hy
        exact HFE.out
    | true =>
      go_wp2_with fail
      go_ret
      exact ⟨_, rfl, .inr ⟨k, _, rfl, HZ.out, find_at' HZ.out HFE.out HF.out⟩, HB1.out⟩
  · obtain rfl : k = l.length := by omega
    rw [List.take_length] at HF
    go_wp2_with fail
    go_ret
    exact ⟨_, rfl, .inl ⟨rfl, List.find?_eq_none.2 (fun x hx => by rw [HF.out x hx]; simp)⟩, HB.out⟩
set_option maxRecDepth 100000 in
set_option maxHeartbeats 1000000 in
theorem rfind_any {S : Nat → Prop} {v : Value} {l : List MuteD} {s : ByteArray} {w : World} (h : Sl S w v 10 encU l) (hn : l.length ≤ 100000) :
    Calls Try.prog 34 #[v, .string s] w (IdxU l s w) := by
  obtain ⟨p, c, rfl, -, -⟩ := h.len
  have HM := Lib.hid h
  clear h
  go_enter Try.func34, Try.ntmps34
  go_wp2_with fail
  go_loopw [5] (fun iv_ wr => ∃ k : Nat, iv_ = .int .i64 k ∧ k ≤ l.length ∧ (∀ x ∈ l.take k, isNm s x = false) ∧ Below w.heap.size w wr) (fun iv_ _ => l.length - (intOf iv_).toNat)
  · exact ⟨0, rfl, by omega, (fun x hx => by simp at hx), Below.refl _ _⟩
  obtain ⟨k, rfl, hk, hf, hB⟩ := hrel
  have HF := Lib.hid hf
  have HB := Lib.hid hB
  clear hf hB
  by_cases hlt : k < l.length
  · obtain ⟨x, hx⟩ : ∃ z, l[k]? = some z := ⟨_, List.getElem?_eq_getElem hlt⟩
    obtain ⟨a, rfl, -, -, hM⟩ := (HM.out.below HB.out).at hx
    have x0 := (cells_U hM hx).1
    have hkk : (k : Int) < (l.length : Int) := by omega
    have HZ := Lib.hid hx
    clear hM hx
    by_cases hq : x.nm = s
    · subst hq
      go_wp2_with fail
      go_ret
      exact ⟨_, rfl, .inr ⟨k, _, rfl, HZ.out, find_at' HZ.out (by unfold isNm; simp) HF.out⟩, HB.out⟩
    · have hne := str_ne hq
      have HTS := Lib.hid (take_snoc' HZ.out)
      have HQ := Lib.hid hq
      clear hq
      go_wp2_with fail
      refine ⟨⟨k + 1, by simp, by omega, ?_, HB.out⟩, by simp [intOf]; omega⟩
      rw [HTS.out]
      intro y hy
      rcases List.mem_append.1 hy with hy | hy
      · exact HF.out y hy
      · obtain rfl := List.mem_singleton.1 hy
        unfold isNm
        simp [HQ.out]
  · obtain rfl : k = l.length := by omega
    rw [List.take_length] at HF
    go_wp2_with fail
    go_ret
    exact ⟨_, rfl, .inl ⟨rfl, List.find?_eq_none.2 (fun x hx => by rw [HF.out x hx]; simp)⟩, HB.out⟩
end Go.Proofs.Ytajflljemfgkiaa
