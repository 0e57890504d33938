/- awake of owe -/
import Derived.Test.YtajflljemfgkiaaEDue
import Derived.Test.YtajflljemfgkiaaEMsg
namespace Go.Proofs.Ytajflljemfgkiaa
open Go.RowKit Go.Maps Mut
attribute [local go_sem] Oper.semAt_some
def aQ : MuteD := ⟨⟨#[113]⟩, true, true, true, true, true, true, true, 0, 100⟩
def aR (v : Value) : Rl := ⟨⟨#[]⟩, ⟨#[]⟩, .slice none 0 0, 0, 0, 60, v, [⟨#[113]⟩], ⟨#[111, 112, 115]⟩⟩
def aL : List Al := [⟨7, ⟨#[97]⟩, 2, 90, -1⟩, ⟨7, ⟨#[98]⟩, 2, 50, 60⟩, ⟨7, ⟨#[99]⟩, 1, 0, -1⟩]
theorem due1 (v : Value) : dueL (aR v) [aQ] aL 110 = [⟨#[97]⟩] := by
  have h1 : ¬ mutedB [aQ] [⟨#[113]⟩] 110 = true := by decide +kernel
  have h2 : dueK 60 aL 110 = [⟨#[97]⟩] := by decide +kernel
  exact (if_neg h1).trans h2
theorem due2 (v : Value) : dueL (aR v) [aQ] aL 120 = [⟨#[97]⟩, ⟨#[98]⟩] := by
  have h1 : ¬ mutedB [aQ] [⟨#[113]⟩] 120 = true := by decide +kernel
  have h2 : dueK 60 aL 120 = [⟨#[97]⟩, ⟨#[98]⟩] := by decide +kernel
  exact (if_neg h1).trans h2
theorem due3 (v : Value) : dueL (aR v) [aQ] aL 99 = [] := by
  have h1 : mutedB [aQ] [⟨#[113]⟩] 99 = true := by decide +kernel
  exact if_pos h1
theorem tell1' : tellL aL [⟨#[97]⟩] 110 = [⟨7, ⟨#[97]⟩, 2, 90, 110⟩, ⟨7, ⟨#[98]⟩, 2, 50, 60⟩, ⟨7, ⟨#[99]⟩, 1, 0, -1⟩] := by
  kernel_rfl
theorem msg1' (v : Value) : msgOf (aR v) 7 aL [⟨#[97]⟩, ⟨#[98]⟩] 120 = ⟨7, ⟨#[111, 112, 115]⟩, 120, [⟨#[97]⟩, ⟨#[98]⟩], [90, 50]⟩ := by
  kernel_rfl
structure Aw (w : World) (b : Nat) (W : World) : Prop where
  below : Below w.heap.size w W
  r : Box W (b + 1) #[.string ⟨#[]⟩, .string ⟨#[]⟩, .slice none 0 0, .int .i64 0, .int .i64 0, .int .i64 60, .slice (some ⟨b, 0, none⟩) 1 1, .string ⟨#[111, 112, 115]⟩] 25
  q : Box W (b + 2) #[.string ⟨#[113]⟩, .bool true, .bool true, .bool true, .bool true, .bool true, .bool true, .bool true, .int .i64 0, .int .i64 100] 46
  s : Sl (fun _ => True) W (.slice (some ⟨b, 0, none⟩) 1 1) 1 encS [⟨#[113]⟩]
  l : Sl (fun _ => True) W (.slice (some ⟨b + 3, 0, none⟩) 3 3) 5 encA aL
theorem Aw.later {w W W' : World} {b : Nat} (h : Aw w b W) (hb : Below W.heap.size W W') : Aw w b W' :=
  ⟨h.below.trans (hb.mono h.below.size), h.r.below hb, h.q.below hb, h.s.below hb, h.l.below hb⟩
theorem aw_new (w : World) : Aw w w.heap.size ((((w.alloc (.cells #[.string ⟨#[113]⟩] 9)).alloc (.cells #[.string ⟨#[]⟩, .string ⟨#[]⟩, .slice none 0 0, .int .i64 0, .int .i64 0, .int .i64 60, .slice (some ⟨w.heap.size, 0, none⟩) 1 1, .string ⟨#[111, 112, 115]⟩] 25)).alloc (.cells #[.string ⟨#[113]⟩, .bool true, .bool true, .bool true, .bool true, .bool true, .bool true, .bool true, .int .i64 0, .int .i64 100] 46)).alloc (.cells #[.int .u32 7, .string ⟨#[97]⟩, .int .u8 2, .int .i64 90, .int .i64 (-1), .int .u32 7, .string ⟨#[98]⟩, .int .u8 2, .int .i64 50, .int .i64 60, .int .u32 7, .string ⟨#[99]⟩, .int .u8 1, .int .i64 0, .int .i64 (-1)] 39)) := by
  have z1 := World.size_alloc w (.cells #[.string ⟨#[113]⟩] 9)
  have s1 : Sl (fun _ => True) (w.alloc (.cells #[.string ⟨#[113]⟩] 9)) (.slice (some ⟨w.heap.size, 0, none⟩) 1 1) 1 encS [⟨#[113]⟩] := Sl.one encS_len (Box.new _ _ _) rfl trivial
  have b1 := (Below.refl _ w).alloc (Nat.le_refl _) (.cells #[.string ⟨#[113]⟩] 9)
  obtain ⟨W1, h1⟩ : ∃ W1, (w.alloc (.cells #[.string ⟨#[113]⟩] 9)) = W1 := ⟨_, rfl⟩
  rw [h1] at s1 b1 z1 ⊢
  have r2 := Box.new W1 #[.string ⟨#[]⟩, .string ⟨#[]⟩, .slice none 0 0, .int .i64 0, .int .i64 0, .int .i64 60, .slice (some ⟨w.heap.size, 0, none⟩) 1 1, .string ⟨#[111, 112, 115]⟩] 25
  have b2 := (Below.refl _ W1).alloc (Nat.le_refl _) (.cells #[.string ⟨#[]⟩, .string ⟨#[]⟩, .slice none 0 0, .int .i64 0, .int .i64 0, .int .i64 60, .slice (some ⟨w.heap.size, 0, none⟩) 1 1, .string ⟨#[111, 112, 115]⟩] 25)
  have z2 := World.size_alloc W1 (.cells #[.string ⟨#[]⟩, .string ⟨#[]⟩, .slice none 0 0, .int .i64 0, .int .i64 0, .int .i64 60, .slice (some ⟨w.heap.size, 0, none⟩) 1 1, .string ⟨#[111, 112, 115]⟩] 25)
  obtain ⟨W2, h2⟩ : ∃ W2, (W1.alloc (.cells #[.string ⟨#[]⟩, .string ⟨#[]⟩, .slice none 0 0, .int .i64 0, .int .i64 0, .int .i64 60, .slice (some ⟨w.heap.size, 0, none⟩) 1 1, .string ⟨#[111, 112, 115]⟩] 25)) = W2 := ⟨_, rfl⟩
  rw [h2] at r2 b2 z2 ⊢
  have q3 := Box.new W2 #[.string ⟨#[113]⟩, .bool true, .bool true, .bool true, .bool true, .bool true, .bool true, .bool true, .int .i64 0, .int .i64 100] 46
  have b3 := (Below.refl _ W2).alloc (Nat.le_refl _) (.cells #[.string ⟨#[113]⟩, .bool true, .bool true, .bool true, .bool true, .bool true, .bool true, .bool true, .int .i64 0, .int .i64 100] 46)
  have z3 := World.size_alloc W2 (.cells #[.string ⟨#[113]⟩, .bool true, .bool true, .bool true, .bool true, .bool true, .bool true, .bool true, .int .i64 0, .int .i64 100] 46)
  obtain ⟨W3, h3⟩ : ∃ W3, (W2.alloc (.cells #[.string ⟨#[113]⟩, .bool true, .bool true, .bool true, .bool true, .bool true, .bool true, .bool true, .int .i64 0, .int .i64 100] 46)) = W3 := ⟨_, rfl⟩
  rw [h3] at q3 b3 z3 ⊢
  have l4o : (W3.alloc (.cells #[.int .u32 7, .string ⟨#[97]⟩, .int .u8 2, .int .i64 90, .int .i64 (-1), .int .u32 7, .string ⟨#[98]⟩, .int .u8 2, .int .i64 50, .int .i64 60, .int .u32 7, .string ⟨#[99]⟩, .int .u8 1, .int .i64 0, .int .i64 (-1)] 39)).ownsRow W3.heap.size 39 5 (.slice (some ⟨W3.heap.size, 0, none⟩) aL.length 3) aL.length (aL.flatMap encA) := World.ownsRow_lit (size := 5) (base := W3.heap.size) (e := 39) W3 #[.int .u32 7, .string ⟨#[97]⟩, .int .u8 2, .int .i64 90, .int .i64 (-1), .int .u32 7, .string ⟨#[98]⟩, .int .u8 2, .int .i64 50, .int .i64 60, .int .u32 7, .string ⟨#[99]⟩, .int .u8 1, .int .i64 0, .int .i64 (-1)] 3 (Nat.le_refl _) (by decide) rfl
  have l4 := Sl.owned encA_len l4o
  have b4 := (Below.refl _ W3).alloc (Nat.le_refl _) (.cells #[.int .u32 7, .string ⟨#[97]⟩, .int .u8 2, .int .i64 90, .int .i64 (-1), .int .u32 7, .string ⟨#[98]⟩, .int .u8 2, .int .i64 50, .int .i64 60, .int .u32 7, .string ⟨#[99]⟩, .int .u8 1, .int .i64 0, .int .i64 (-1)] 39)
  have e3 : W3.heap.size = w.heap.size + 3 := by omega
  rw [show W1.heap.size = w.heap.size + 1 by omega] at r2
  rw [show W2.heap.size = w.heap.size + 2 by omega] at q3
  refine ⟨?_, ?_, ?_, ?_, ?_⟩
  · exact b1.trans ((b2.mono (by omega)).trans ((b3.mono (by omega)).trans (b4.mono (by omega))))
  · exact (r2.below b3).below b4
  · exact q3.below b4
  · exact ((s1.below b2).below b3).below b4
  · rw [← e3]
    exact l4.mono (fun _ _ _ => trivial)
theorem near_a (v : Value) (n : Int) (h : 0 ≤ n) (h2 : n ≤ 1000) : NearP (aR v) aL n := by
  refine ⟨fun x hx => ?_, by omega, by omega, by show _ ≤ (60 : Int); omega, by show (60 : Int) ≤ _; omega⟩
  simp only [aL, List.mem_cons, List.not_mem_nil, or_false] at hx
  rcases hx with rfl | rfl | rfl <;> exact ⟨by simp, by simp⟩
theorem a_small : ∀ x ∈ aL, x.by_.size ≤ maxLen := by
  intro x hx
  simp only [aL, List.mem_cons, List.not_mem_nil, or_false] at hx
  rcases hx with rfl | rfl | rfl <;> decide
theorem aw_due {w W : World} {b : Nat} (h : Aw w b W) (n : Int) (h0 : 0 ≤ n) (h1 : n ≤ 1000) {ks : List ByteArray} (hk : dueL (aR (.slice (some ⟨b, 0, none⟩) 1 1)) [aQ] aL n = ks) : Calls Try.prog 21 #[rv (aR (.slice (some ⟨b, 0, none⟩) 1 1)), .slice (some ⟨W.heap.size, 0, none⟩) 1 1, .slice (some ⟨b + 3, 0, none⟩) 3 3, .int .i64 n] (W.alloc (.cells #[.string ⟨#[113]⟩, .bool true, .bool true, .bool true, .bool true, .bool true, .bool true, .bool true, .int .i64 0, .int .i64 100] 46)) (fun e w' => ∃ p c, e = .returned (.slice p ks.length c) ∧ Sl (fun _ => True) w' (.slice p ks.length c) 1 encS ks ∧ Aw w b w' ∧ Below W.heap.size W w') := by
  have hb := (Below.refl _ W).alloc (Nat.le_refl _) (.cells #[.string ⟨#[113]⟩, .bool true, .bool true, .bool true, .bool true, .bool true, .bool true, .bool true, .int .i64 0, .int .i64 100] 46)
  have h' := h.later hb
  have hm : Sl (fun _ => True) (W.alloc (.cells #[.string ⟨#[113]⟩, .bool true, .bool true, .bool true, .bool true, .bool true, .bool true, .bool true, .int .i64 0, .int .i64 100] 46)) (.slice (some ⟨W.heap.size, 0, none⟩) 1 1) 10 encU [aQ] := Sl.one encU_len (Box.new _ _ _) rfl trivial
  refine (due_any (R := aR (.slice (some ⟨b, 0, none⟩) 1 1)) (ms := [aQ]) (l := aL) (at_ := n) ⟨h'.s, rfl⟩ hm h'.l (by decide) (by show 1 ≤ 100000; omega) (by decide) a_small (near_a _ n h0 h1)).mono ?_
  rintro e w' ⟨v, rfl, ho, hb2⟩
  rw [hk] at ho
  obtain ⟨p, c, rfl⟩ := owns_slice ho
  exact ⟨p, c, rfl, (Sl.owned encS_len ho).mono (fun _ _ _ => trivial), h'.later hb2, below_then hb hb2⟩
set_option maxRecDepth 100000 in
set_option maxHeartbeats 8000000 in
theorem awake_any (w : World) : Calls Try.prog 22 #[] w (Tells (.bool true) w) := by
  have HA := Lib.hid (aw_new w)
  go_enter Try.func22, Try.ntmps22
  go_wp2_with fail
  have ha := HA.out
  obtain ⟨W0, hW0⟩ : ∃ W0, ((((w.alloc (.cells #[.string ⟨#[113]⟩] 9)).alloc (.cells #[.string ⟨#[]⟩, .string ⟨#[]⟩, .slice none 0 0, .int .i64 0, .int .i64 0, .int .i64 60, .slice (some ⟨w.heap.size, 0, none⟩) 1 1, .string ⟨#[111, 112, 115]⟩] 25)).alloc (.cells #[.string ⟨#[113]⟩, .bool true, .bool true, .bool true, .bool true, .bool true, .bool true, .bool true, .int .i64 0, .int .i64 100] 46)).alloc (.cells #[.int .u32 7, .string ⟨#[97]⟩, .int .u8 2, .int .i64 90, .int .i64 (-1), .int .u32 7, .string ⟨#[98]⟩, .int .u8 2, .int .i64 50, .int .i64 60, .int .u32 7, .string ⟨#[99]⟩, .int .u8 1, .int .i64 0, .int .i64 (-1)] 39)) = W0 := ⟨_, rfl⟩
  have hz : W0.heap.size = w.heap.size + 1 + 1 + 1 + 1 := by rw [← hW0]; simp
  rw [hW0] at ha ⊢
  obtain ⟨b, hbq⟩ : ∃ b, w.heap.size = b := ⟨_, rfl⟩
  rw [← hz]
  rw [hbq] at ha ⊢
  clear hz hW0
  rw [show b + 1 + 1 + 1 = b + 3 from rfl, show b + 1 + 1 = b + 2 from rfl]
  refine (aw_due ha 110 (by decide) (by decide) (due1 _)).mono ?_
  rintro e w1 ⟨p1, c1, rfl, s1, ha1, -⟩
  have HA1 := Lib.hid ha1
  have HS1 := Lib.hid s1
  have cr := ha1.r.rd.1
  have cq := ha1.q.rd.1
  clear ha ha1 s1 HA
  go_wp2_with fail
  refine (aw_due HA1.out 120 (by decide) (by decide) (due2 _)).mono ?_
  rintro e w2 ⟨p2, c2, rfl, s2, ha2, hb⟩
  have HA2 := Lib.hid ha2
  have HS2 := Lib.hid s2
  have HS12 := Lib.hid (HS1.out.below hb)
  clear cr cq hb s2 HS1 HA1
  have cr := ha2.r.rd.1
  have cq := ha2.q.rd.1
  clear ha2
  go_wp2_with fail
  refine (aw_due HA2.out 99 (by decide) (by decide) (due3 _)).mono ?_
  rintro e w3 ⟨p3, c3, rfl, s3, ha3, hb⟩
  have HA3 := Lib.hid ha3
  have HS23 := Lib.hid (HS2.out.below hb)
  have HS13 := Lib.hid (HS12.out.below hb)
  clear cr cq hb s3 HS12 HS2 HA2 ha3
  have HTL := Lib.hid (tell_any (at_ := 110) HA3.out.l HS13.out (by decide) (by decide) a_small (fun s h => by
    obtain rfl := List.mem_singleton.1 h
    decide))
  go_wp2_with fail
  refine HTL.out.mono ?_
  rintro e w4 ⟨v4, rfl, ho, hb⟩
  rw [tell1'] at ho
  have st := (Sl.owned encA_len ho).mono (T := fun _ => True) (fun _ _ _ => trivial)
  obtain ⟨p4, c4, rfl⟩ := owns_slice ho
  have HST := Lib.hid st
  have ha4 := HA3.out.later hb
  have HA4 := Lib.hid ha4
  have HS24 := Lib.hid (HS23.out.below hb)
  have HS14 := Lib.hid (HS13.out.below hb)
  have HMS := Lib.hid (message_any (R := aR (.slice (some ⟨b, 0, none⟩) 1 1)) (fp := 7) (at_ := 120) ha4.l HS24.out (by decide) (by decide) rfl rfl)
  have cr := ha4.r.rd.1
  clear ho hb st ha4 HS23 HS13 HA3 HTL
  go_wp2_with fail
  refine HMS.out.mono ?_
  rintro e w5 ⟨⟨kv, sv, m⟩, rfl, hm, hmw, hb⟩
  rw [msg1'] at hm
  simp only at hm
  subst hm
  obtain ⟨q1, d1, e51⟩ := owns_slice hmw.k
  obtain ⟨q2, d2, e52⟩ := owns_slice hmw.s
  simp only at e51 e52
  subst e51 e52
  have hb6 : Below w5.heap.size w5 (w5.alloc (.cells #[.int .u32 7, .string ⟨#[111, 112, 115]⟩, .int .i64 120, .slice q1 2 d1, .slice q2 2 d2] 33)) := (Below.refl _ w5).alloc (Nat.le_refl _) _
  have HBF := Lib.hid (HA4.out.below.trans ((below_then hb hb6).mono HA4.out.below.size))
  have S1 := (HS14.out.below hb).below hb6
  have ST := (HST.out.below hb).below hb6
  have SS := ((Sl.owned encJ_len hmw.s).mono (T := fun _ => True) (fun _ _ _ => trivial)).below hb6
  obtain ⟨a1, rfl, -, -, g1⟩ := S1.at (i := 0) (x := ⟨#[97]⟩) rfl
  obtain ⟨a4, rfl, -, -, g4⟩ := ST.at (i := 0) rfl
  obtain ⟨a5, rfl, -, -, g5⟩ := SS.at (i := 0) (x := (90 : Int)) rfl
  have x1 := g1 0 _ rfl 0 _ rfl
  have y1 := g4 0 _ rfl 4 _ rfl
  have y2 := g4 1 _ rfl 4 _ rfl
  have z1 := g5 0 _ rfl 0 _ rfl
  have z2 := g5 1 _ rfl 0 _ rfl
  simp only [Addr.add_zero', Nat.zero_mul, Nat.one_mul] at x1 y1 y2 z1 z2
  change World.cell? _ ⟨a4.block, a4.off + 4, none⟩ = _ at y1
  change World.cell? _ ⟨a4.block, a4.off + 5 + 4, none⟩ = _ at y2
  change World.cell? _ ⟨a5.block, a5.off + 1, none⟩ = _ at z2
  clear hb hmw hb6 S1 ST SS g1 g4 g5 HS14 HST HA4 HS24 HMS cr
  go_wp2_with fail
  go_ret
  exact ⟨rfl, HBF.out⟩
end Go.Proofs.Ytajflljemfgkiaa
