/- (*Box).Ack -/
import Derived.Test.YtfaafndaelmbfaaOAdd
namespace Go.Proofs.Ytfaafndaelmbfaa
open Go.RowKit
attribute [local go_sem] Oper.semAt_some

/-- is one of a rule and an instant owed? -/
def hasR (xs : List Ox) (r i : Int) : Bool := xs.any (isM r i)
def ackL (xs : List Ox) (r i : Int) : List Ox := xs.eraseP (isM r i)
theorem eraseP_none {α : Type} {p : α → Bool} {xs : List α} (h : ∀ x ∈ xs, p x = false) : xs.eraseP p = xs := List.eraseP_of_forall_not (fun a ha => by simp [h a ha])
theorem eraseP_at {α : Type} {p : α → Bool} : ∀ {xs : List α} {k : Nat} {x : α}, xs[k]? = some x → p x = true → (∀ y ∈ xs.take k, p y = false) → xs.eraseP p = xs.eraseIdx k
  | [], k, x, h, _, _ => by simp at h
  | y :: ys, 0, x, h, hp, _ => by
    obtain rfl : y = x := by simpa using h
    simp [hp]
  | y :: ys, k + 1, x, h, hp, ht => by
    have hy : p y = false := ht y (by simp)
    have := eraseP_at (xs := ys) (k := k) (x := x) (by simpa using h) hp (fun z hz => ht z (by simp [hz]))
    simp [hy, this]
theorem map_eraseIdx' {α β : Type} (f : α → β) : ∀ (l : List α) (k : Nat), (l.eraseIdx k).map f = (l.map f).eraseIdx k
  | [], _ => by simp
  | a :: l, 0 => by simp
  | a :: l, k + 1 => by simp [map_eraseIdx' f l k]
theorem found_out {xs : List Ox} {r i z : Int} (h : Found xs (isM r i) z) : (z = -1 ∧ hasR xs r i = false ∧ ackL xs r i = xs) ∨ ∃ k : Nat, z = k ∧ k < xs.length ∧ hasR xs r i = true ∧ ackL xs r i = xs.eraseIdx k := by
  rcases h with ⟨rfl, h⟩ | ⟨k, x, rfl, hx, hp, ht⟩
  · refine .inl ⟨rfl, ?_, eraseP_none h⟩
    unfold hasR
    rw [List.any_eq_false]
    intro x hx
    rw [h x hx]
    simp
  · exact .inr ⟨k, rfl, (List.getElem?_eq_some_iff.1 hx).1, List.any_eq_true.2 ⟨x, List.mem_of_getElem? hx, hp⟩, eraseP_at hx hp ht⟩
theorem ow_oneCell {S : Nat → Prop} {W : World} {o : Ow} (h : Mo S W o.m) : ∀ u ∈ encO o, u.oneCell' = true := by
  intro u hu
  have h1 := h.oneCell
  have e : encO o = encM o.m ++ [.int .i64 o.tr, .int .i64 o.nx] := rfl
  rw [e] at hu
  rcases List.mem_append.1 hu with hu | hu
  · exact h1 u hu
  · simp only [List.mem_cons, List.not_mem_nil, or_false] at hu
    rcases hu with rfl | rfl <;> rfl
def AckTo (S : Nat → Prop) (p : Nat) (xs : List Ox) (r i : Int) (w : World) (e : Ending) (w' : World) : Prop := e = .returned (.bool (hasR xs r i)) ∧ BxAt S p w' (ackL xs r i) ∧ Kept (fun b => b = p ∨ S b) w w'
set_option maxRecDepth 100000 in
theorem ack_no {q : Value} {r i : Int} {w : World} (h : BNo w q) : Calls Try.prog 10 #[q, .int .u32 r, .int .i64 i] w (Is (.bool false) w) := by
  have HN := Lib.hid (none_no h)
  clear h
  go_enter Try.func10, Try.ntmps10
  go_wp2_with fail
  refine HN.out.mono ?_
  rintro e w1 ⟨rfl, rfl⟩
  go_wp2_with fail
  go_ret
  exact ⟨rfl, rfl⟩
set_option maxRecDepth 100000 in
set_option maxHeartbeats 2000000 in
theorem ack_any {S : Nat → Prop} {p : Nat} {xs : List Ox} {r i : Int} {w : World} (h : BxAt S p w xs) (hn : xs.length ≤ 100000) : Calls Try.prog 10 #[bv p, .int .u32 r, .int .i64 i] w (AckTo S p xs r i w) := by
  have HN := Lib.hid (none_any h)
  have HE : Hid (∀ f ys w', hasR xs r i = f → ackL xs r i = ys → BxAt S p w' ys → Kept (fun b => b = p ∨ S b) w w' → AckTo S p xs r i w (.returned (.bool f)) w') := Lib.hid fun f ys w' e1 e2 h1 h2 => by subst e1 e2; exact ⟨rfl, h1, h2⟩
  have HH := Lib.hid h
  obtain ⟨v, rs, rfl, hin⟩ := h
  obtain ⟨p1, c1, rfl⟩ := owns_slice hin.own
  have hosl : Osl (fun _ => True) w (.slice p1 rs.length c1) (rs.map Ow.pl) := ⟨rs, rfl, (Sl.owned encO_len hin.own).mono (fun _ _ _ => trivial), fun o ho => (hin.mo o ho).mono (fun _ _ _ => trivial)⟩
  have HO := Lib.hid hosl
  have HX := Lib.hid hin.box
  have HIN := Lib.hid hin
  obtain ⟨c, z⟩ := hin.box.rd
  rw [List.length_map] at hn
  have HPL := Lib.hid (place_any (r := r) (i := i) HO.out (by rw [List.length_map]; exact hn))
  clear hin hosl
  go_enter Try.func10, Try.ntmps10
  go_wp2_with fail
  refine HN.out.mono ?_
  rintro e w1 ⟨rfl, rfl⟩
  go_wp2_with fail
  refine HPL.out.mono ?_
  rintro e w2 ⟨z, rfl, hf, hb⟩
  have HB := Lib.hid hb
  have c2 := (HX.out.below hb).rd.1
  have z2 := (HX.out.below hb).rd.2
  have hpl := HX.out.lt
  have hin2 := HIN.out.kept (F := fun _ => False) (kept_of_below hb) (fun _ _ _ x => x) (fun x => x)
  have HIN2 := Lib.hid hin2
  clear hb c HN HPL hin2
  rcases found_out hf with ⟨rfl, h1, h2⟩ | ⟨k, rfl, hk, h1, h2⟩
  · have H1 := Lib.hid h1
    have H2 := Lib.hid h2
    clear hf h1 h2
    go_wp2_with fail
    go_ret
    exact HE.out _ _ _ H1.out H2.out (HH.out.below HB.out) (kept_of_below HB.out)
  · have H1 := Lib.hid h1
    have H2 := Lib.hid h2
    rw [List.length_map] at hk
    obtain ⟨g, rfl⟩ : ∃ g, p1 = some ⟨g, 0, none⟩ := by
      rcases HIN.out.own.2 with ⟨_, h⟩ | ⟨g, cap, cur, h, _⟩
      · omega
      · exact ⟨g, by cases h; rfl⟩
    have HD := Lib.hid (del_any HIN2.out.own (fun r hr => ow_oneCell (HIN2.out.mo r hr)) hk hn)
    have hw1 : wrap64 ((k : Int) + 1) = (k : Int) + 1 := IntWalk.wrap64_in _ ⟨by omega, by omega⟩
    clear hf h1 h2
    go_wp2_with fail
    refine HD.out.mono ?_
    rintro e w3 ⟨rfl, hown, hk3⟩
    have HNP : Hid (¬ p = g) := Lib.hid fun e => HIN.out.np (HIN.out.os p (by rw [e]; rfl))
    have HX3 := Lib.hid ((HX.out.below HB.out).kept hk3 HNP.out)
    have HOW := Lib.hid hown
    have HK3 := Lib.hid hk3
    clear c2 z2 hown hk3 HD hw1
    obtain ⟨c3, z3⟩ := HX3.out.rd
    have hlt3 := HX3.out.lt
    go_wp2_with fail
    go_ret
    have hlen : (rs.eraseIdx k).length = rs.length - 1 := List.length_eraseIdx_of_lt hk
    have hown := HOW.out
    rw [hlen] at hown
    have hkp : Kept (fun b => b = p) w3 (w3.setCell ⟨p, 0, none⟩ (.slice (some ⟨g, 0, none⟩) (rs.length - 1) c1)) := (Kept.refl _ w3).setCell _ _ (fun _ => rfl)
    have hSg : S g := HIN.out.os g rfl
    have hSp : ∀ k, S k → ¬ k = p := fun k hk e => HIN.out.np (e ▸ hk)
    refine HE.out _ _ _ H1.out H2.out ⟨_, rs.eraseIdx k, map_eraseIdx' _ _ _, HX3.out.set _, ?_, fun b e => ?_, fun x hx => ?_, HIN.out.np⟩ (((Kept.first HB.out HK3.out).mono (fun b _ e => Or.inr (e ▸ hSg))).setCell _ _ (fun _ => .inl rfl))
    · rw [hlen]
      exact owns_keep hown (fun b e => hkp.block b (hown.lt b e).2 (fun e' => by cases e; exact HNP.out e'.symm))
    · cases e
      exact hSg
    · have h1 := (HIN2.out.mo x (List.mem_of_mem_eraseIdx hx)).mono (T := fun b => S b ∧ ¬ b = g) (fun b hb s => ⟨s.1, fun e => s.2 (by rw [e]; rfl)⟩)
      exact ((h1.kept HK3.out (fun b _ s => s.2)).kept hkp (fun b _ s e => hSp b s.1 e)).mono (fun b _ s => ⟨s.1, fun e => s.2 (by cases e; rfl)⟩)
end Go.Proofs.Ytfaafndaelmbfaa
