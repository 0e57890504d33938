/- (*Net).Take -/
import Derived.Test.YtmmneeikcnapmaaNTak
namespace Go.Proofs.Ytmmneeikcnapmaa
open Go.RowKit
attribute [local go_sem] Oper.semAt_some

/-- which one is taken -/
def pick (i : Int) (n : Nat) : Nat := (Int.tmod (Int.tmod i n + n) n).toNat
theorem tmod_in (i : Int) {n : Nat} (hn : 0 < n) : -(n : Int) < Int.tmod i n ∧ Int.tmod i n < n :=
  ⟨Int.lt_tmod_of_pos i (by omega), Int.tmod_lt_of_pos i (by omega)⟩
theorem pick_eq (i : Int) {n : Nat} (hn : 0 < n) : Int.tmod (Int.tmod i n + n) n = (pick i n : Int) := by
  have h1 := (tmod_in i hn).1
  have h2 : (0 : Int) ≤ Int.tmod (Int.tmod i n + n) n := Int.tmod_nonneg _ (by omega)
  unfold pick
  omega
theorem pick_lt (i : Int) {n : Nat} (hn : 0 < n) : pick i n < n := by
  have h1 := pick_eq i hn
  have h2 := (tmod_in (Int.tmod i n + n) hn).2
  omega
def TakeTo (S : Nat → Prop) (p : Nat) (xs : List Ms) (i : Int) (w : World) (e : Ending) (w' : World) : Prop :=
  ∃ r, e = .returned (.tuple #[mv r, .bool true]) ∧ xs[pick i xs.length]? = some r.m ∧ Mo S w' r ∧ NetAt S p w' (xs.eraseIdx (pick i xs.length)) ∧ Kept (fun b => b = p ∨ S b) w w'
set_option maxRecDepth 100000 in
set_option maxHeartbeats 1000000 in
theorem take_none {S : Nat → Prop} {p : Nat} {w : World} {i : Int} (h : NetAt S p w []) : Calls Try.prog 15 #[nv p, .int .i64 i] w (Tells (.tuple #[mv zeroM, .bool false]) w) := by
  have hb0 : Below w.heap.size w (w.alloc (.cells zm 33)) := (Below.refl _ w).alloc (Nat.le_refl _) _
  have HL := Lib.hid (len_any (h.below hb0))
  have b0 := Box.new w zm 33
  clear h
  go_enter Try.func15, Try.ntmps15
  go_wp2_with fail
  refine HL.out.mono ?_
  rintro e w1 ⟨rfl, rfl⟩
  obtain ⟨c0, z0⟩ := b0.rd
  have HB0 := Lib.hid hb0
  clear HL b0 hb0
  go_wp2_with fail
  refine bodyPost_ret (v := .tuple #[mv zeroM, .bool false]) ?_ rfl ?_
  · simp [results, Try.results15, go_sem, zeroM]
  · exact ⟨rfl, HB0.out⟩
theorem map_eraseIdx' {α β : Type} (f : α → β) : ∀ (l : List α) (k : Nat), (l.eraseIdx k).map f = (l.map f).eraseIdx k
  | [], _ => rfl
  | _ :: _, 0 => rfl
  | a :: l, k + 1 => by
    show f a :: (l.eraseIdx k).map f = f a :: (l.map f).eraseIdx k
    rw [map_eraseIdx' f l k]
set_option maxRecDepth 100000 in
set_option maxHeartbeats 1000000 in
theorem take_any {S : Nat → Prop} {p : Nat} {w : World} {xs : List Ms} {i : Int} (h : NetAt S p w xs) (hp : 0 < xs.length) (hn : xs.length ≤ 1000) : Calls Try.prog 15 #[nv p, .int .i64 i] w (TakeTo S p xs i w) := by
  have hb0 : Below w.heap.size w (w.alloc (.cells zm 33)) := (Below.refl _ w).alloc (Nat.le_refl _) _
  have HL := Lib.hid (len_any (h.below hb0))
  have b0 := Box.new w zm 33
  have hpw := h.lt
  obtain ⟨v, rs, rfl, hin⟩ := h
  have HOL : Hid (∀ b, v.ownBlock = some b → b < w.heap.size) := Lib.hid fun b e => (hin.own.lt b e).2
  have hi2 : NetIn S p (w.alloc (.cells zm 33)) v rs := hin.kept (F := fun _ => False) (kept_of_below hb0) (fun _ _ _ x => x) (fun x => x)
  have HT : Hid (∀ e w', (∃ r, e = .returned (.tuple #[mv r, .bool true]) ∧ rs[pick i rs.length]? = some r ∧ Mo S w' r ∧ NetAt S p w' ((rs.eraseIdx (pick i rs.length)).map Mr.m) ∧ Kept (fun b => b = p ∨ S b) w w') → TakeTo S p (rs.map Mr.m) i w e w') := Lib.hid (by
    rintro e w' ⟨r, h1, h2, h3, h4, h5⟩
    refine ⟨r, h1, ?_, h3, ?_, h5⟩
    · rw [List.length_map, List.getElem?_map, h2]; rfl
    · rw [List.length_map, ← map_eraseIdx']; exact h4)
  rw [List.length_map] at HL hp hn
  obtain ⟨p1, c1, rfl⟩ := owns_slice hin.own
  have HIN := Lib.hid hi2
  have HIN0 := Lib.hid hin
  have hne : ((rs.length : Int) == 0) = false := by rw [beq_eq_false_iff_ne]; omega
  have hn0 : ¬ (rs.length : Int) = 0 := by omega
  have hpl := pick_lt i hp
  have hpe := pick_eq i hp
  have htm := tmod_in i hp
  obtain ⟨k, hkd⟩ : ∃ k, pick i rs.length = k := ⟨_, rfl⟩
  rw [hkd] at hpl hpe HT
  obtain ⟨t, ht⟩ : ∃ t, Int.tmod i rs.length = t := ⟨_, rfl⟩
  rw [ht] at hpe htm
  have hww : IntKind.i64.wrap (t + (rs.length : Int)) = t + rs.length := IntWalk.i64_in _ ⟨by omega, by omega⟩
  obtain ⟨r, hr⟩ : ∃ r, rs[k]? = some r := ⟨_, List.getElem?_eq_getElem hpl⟩
  clear hin hi2 hkd
  obtain ⟨W, hW⟩ : ∃ W, (w.alloc (.cells zm 33)) = W := ⟨_, rfl⟩
  rw [hW] at HL HIN hb0 b0
  have HW := Lib.hid hW
  have hWs : w.heap.size < W.heap.size := b0.lt
  have HB0 := Lib.hid hb0
  have HZ := Lib.hid b0
  have HX := Lib.hid HIN.out.box
  have HR := Lib.hid hr
  clear hW hb0 b0 hr
  go_enter Try.func15, Try.ntmps15
  go_wp2_with fail
  rw [HW.out]
  refine HL.out.mono ?_
  rintro e w1 ⟨rfl, rfl⟩
  clear HL
  go_wp2_with fail
  refine wp_region_ordH [0, 1, 2, 3, 4, 5, 6, 7, 8, 9, 10, 11, 12, 13, 14, 15, 16, 17, 18, 19] (fun w' => Below W.heap.size W w') (by kernel_rfl) (by kernel_rfl) ?_
  have hb0 : Below W.heap.size W W.drew := (Below.refl _ W).drew
  have hrn : ¬ rs = [] := by
    rintro rfl
    simp at hp
  iterate 20 ((first | (refine ordH_free (v := ?_) rfl (by kernel_rfl) (fun _ _ _ h => h) (Or.inl ⟨rfl, fun w' hS => ?_⟩) hb0 ?_; rotate_left; (have c := (HX.out.below hS).rd.1; go_simp <;> with_reducible rfl)) | (refine ordH_free (v := undef) rfl (by kernel_rfl) (fun _ _ _ h => h) (Or.inr ⟨rfl, rfl⟩) hb0 ?_)); (simp only [Act.put, List.setIfInBounds_toArray, List.set_cons_zero, List.set_cons_succ]))
  refine ⟨by kernel_rfl, ?_⟩
  obtain ⟨kv, sv, m⟩ := r
  have hmo := HIN.out.mo _ (List.mem_of_getElem? HR.out)
  obtain ⟨q1, d1, e3, -, -⟩ := hmo.k.len
  obtain ⟨q2, d2, e4, -, -⟩ := hmo.s.len
  simp only at e3 e4
  subst e3 e4
  obtain ⟨g, rfl⟩ : ∃ g, p1 = some ⟨g, 0, none⟩ := by
    rcases HIN.out.own.2 with ⟨_, h⟩ | ⟨g, cap, cur, h, _⟩
    · omega
    · exact ⟨g, by cases h; rfl⟩
  have HD := HIN.out.kept (F := fun _ => False) (kept_of_below hb0) (fun _ _ _ x => x) (fun x => x)
  have HB1 := Lib.hid (below_then HB0.out hb0)
  have HZ1 := HZ.out.below hb0
  have hsz : W.heap.size = W.drew.heap.size := rfl
  rw [hsz] at hWs
  clear htm hpe ht hww hne hn0 hb0 HX HZ HIN hmo hsz HW HB0
  obtain ⟨W1, hW1⟩ : ∃ W1, W.drew = W1 := ⟨_, rfl⟩
  rw [hW1] at HD HB1 HZ1 hWs ⊢
  have HIN := Lib.hid HD
  clear hW1 HD
  have hpW : p < W1.heap.size := HIN.out.box.lt
  have hgw : g < w.heap.size := HOL.out g rfl
  obtain ⟨a, hae, -, -, hM⟩ := (Sl.owned encM_len HIN.out.own).at HR.out
  obtain rfl : a = ⟨g, 0, none⟩ := by cases hae; rfl
  obtain ⟨x0, x1, x2, x3, x4⟩ := Cm.of hM HR.out
  have ea : (⟨g, 0, none⟩ : Addr).add (k * 5) = ⟨g, k * 5, none⟩ := by
    simp [Addr.add]
    omega
  rw [ea] at x0 x1 x2 x3 x4
  simp only at x0 x1 x2 x3 x4
  clear ea
  obtain ⟨c, z⟩ := HIN.out.box.rd
  have hw1 : wrap64 ((k : Int) + 1) = (k : Int) + 1 := IntWalk.wrap64_in _ ⟨by omega, by omega⟩
  have hkk : (k : Int) < (rs.length : Int) := Int.ofNat_lt.2 hpl
  clear hM hae
  have b6 := Box.new W1 (mc ⟨.slice q1 m.ks.length d1, .slice q2 m.ss.length d2, m⟩) 33
  have hb2 : Below W1.heap.size W1 (W1.alloc (.cells (mc ⟨.slice q1 m.ks.length d1, .slice q2 m.ss.length d2, m⟩) 33)) := (Below.refl _ W1).alloc (Nat.le_refl _) _
  have HD := Lib.hid (del_any (HIN.out.kept (F := fun _ => False) (kept_of_below hb2) (fun _ _ _ x => x) (fun x => x)).own (fun r hr => (HIN.out.mo r hr).oneCell) hpl (by omega))
  have HB6 := Lib.hid b6
  have HB2 := Lib.hid hb2
  clear b6 hb2
  go_wp2_with fail
  refine HD.out.mono ?_
  rintro e w3 ⟨rfl, hown, hk3⟩
  have HOW := Lib.hid hown
  have HK3 := Lib.hid (Kept.first HB2.out hk3)
  have hnp : ¬ p = g := fun e => HIN.out.np (HIN.out.os p (by rw [e]; rfl))
  have HX3 := Lib.hid (HIN.out.box.kept HK3.out hnp)
  have HZ3 := Lib.hid (HZ1.kept HK3.out (by omega))
  have HY3 := Lib.hid (HB6.out.kept hk3 (by omega))
  have hs3 := HK3.out.size
  have hs4 := hk3.size
  rw [World.size_alloc] at hs4
  clear hown hk3 c z x0 x1 x2 x3 x4 HD HZ1 HB6
  obtain ⟨c3, z3⟩ := HX3.out.rd
  obtain ⟨c4, z4⟩ := HZ3.out.rd
  obtain ⟨c6, z6⟩ := HY3.out.rd
  have hne1 : ¬ w.heap.size = p := by omega
  have hne2 : ¬ W1.heap.size = p := by omega
  go_wp2_with fail
  refine bodyPost_gen (fun W' => Kept (fun b => b = p ∨ b = w.heap.size) w3 W' ∧ Box W' p #[.slice (some ⟨g, 0, none⟩) (rs.length - 1) c1, .bool true] 53 ∧ Box W' w.heap.size (mc ⟨.slice q1 m.ks.length d1, .slice q2 m.ss.length d2, m⟩) 33) ⟨?_, ?_, ?_⟩ ?_
  · exact ((((((Kept.refl _ w3).setCell _ _ (by simp)).setCell _ _ (by simp)).setCell _ _ (by simp)).setCell _ _ (by simp)).setCell _ _ (by simp)).setCell _ _ (by simp)
  · exact (((((HX3.out.set _).other _ (by omega)).other _ (by omega)).other _ (by omega)).other _ (by omega)).other _ (by omega)
  · exact (((((HZ3.out.other _ (by omega)).set _).set _).set _).set _).set _
  rintro W' ⟨hk, hbx, hbm⟩
  obtain ⟨r0, _⟩ := hbm.rd
  refine bodyPost_ret (v := .tuple #[mv ⟨.slice q1 m.ks.length d1, .slice q2 m.ss.length d2, m⟩, .bool true]) ?_ rfl ?_
  · simp [results, Try.results15, go_sem, r0]
  · have hkw : Kept (fun b => b = g) w w3 := Kept.first HB1.out HK3.out
    have hSp : ∀ k, S k → ¬ k = p := fun k hk e => HIN0.out.np (e ▸ hk)
    have hSg : S g := HIN0.out.os g rfl
    have hmo : ∀ x ∈ rs, Mo (fun b => S b ∧ (Value.slice (some ⟨g, 0, none⟩) (rs.length - 1) c1).ownBlock ≠ some b) W' x := fun x hx => by
      have h1 := (HIN0.out.mo x hx).mono (T := fun b => S b ∧ ¬ b = g ∧ b < w.heap.size) (fun b hb s => ⟨s.1, fun e => s.2 (by rw [e]; rfl), hb⟩)
      exact ((h1.kept hkw (fun b _ s => s.2.1)).kept hk (fun b _ s e => by
        rcases e with e | e
        · exact hSp b s.1 e
        · have := s.2.2
          omega)).mono (fun b _ s => ⟨s.1, fun e => s.2.1 (by cases e; rfl)⟩)
    have hlen : (rs.eraseIdx k).length = rs.length - 1 := List.length_eraseIdx_of_lt hpl
    have hown := HOW.out
    rw [hlen] at hown
    refine HT.out _ _ ⟨_, rfl, HR.out, (hmo _ (List.mem_of_getElem? HR.out)).mono (fun b _ s => s.1), ⟨_, rs.eraseIdx k, rfl, hbx, ?_, fun b e => ?_, fun x hx => hmo x (List.mem_of_mem_eraseIdx hx), HIN0.out.np, fun x hx => HIN0.out.few x (List.mem_of_mem_eraseIdx hx)⟩, ?_⟩
    · rw [hlen]
      exact owns_keep hown (fun b e => hk.block b (hown.lt b e).2 (fun e' => by
        cases e
        rcases e' with e' | e'
        · exact hnp e'.symm
        · have e2 : g = w.heap.size := e'
          omega))
    · cases e
      exact hSg
    · exact hkw.trans hk (fun b _ e => .inr (e ▸ hSg)) (fun b hb e => by
        rcases e with e | e
        · exact .inl e
        · omega)
end Go.Proofs.Ytmmneeikcnapmaa
