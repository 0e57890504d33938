/- NetFirst: taken with 0 again and again messages come in the order in which they were sent, with -1 in the other one. Conditions: none. -/
import Derived.Test.YtmmneeikcnapmaaNFst
import Derived.Test.YtmmneeikcnapmaaNOpn
import Derived.Test.YtmmneeikcnapmaaFrame
namespace Go.Proofs.Ytmmneeikcnapmaa.netFirst
open Go.ChangeShapes Go.WideShapes Go.ChangeAt Go.RowKit
set_option maxRecDepth 100000 in
theorem lifted (os : Os) (started : os.Started) (H : Type) (enc : TypeId × Value → H) :
    ReturnsInHanded {} Try.checked os 4 .any (Rows.netFirstSpec.pre6 enc Try.prog Try.f4 Rows.netFirstRow.domain false) (Rows.netFirstSpec.post enc Try.prog Try.f4 false true false false) := by
  refine returnsInHanded_of_change (C := Try.checked) own_knob started (by kernel_rfl) Try.func4
    (ChangeSpec.witness6 (enc := enc) (C := Try.checked) false ⟨#[], #[.slice none 0 0], []⟩ 8 (by kernel_rfl) (by kernel_rfl) (by kernel_rfl) (by kernel_rfl)) ?_
  intro W base args ds gs before hval0 hW hcnd hreach
  refine law_contract (spec := Rows.netFirstSpec) rfl ?_ (by rfl) ?_ hW ?_
  · intro ds hlen
    rw [Try.params4] at hlen
    match ds, hlen with
    | [d0], _ => rfl
  · rw [Try.params4]
    intro t ht
    simp only [List.mem_cons, List.not_mem_nil, or_false] at ht
    subst ht
    exact ⟨by kernel_rfl, of_decide_eq_true (by kernel_rfl)⟩
  have hval : ∀ (j : Nat) t v, Try.f4.params[j]? = some t → args[j]? = some v → Value.okWide Try.prog W .any base t v := hval0
  obtain ⟨p, q, hA0, _, _, _, _⟩ := hW
  have hA : DataW.TrodAll enc Try.prog W 0 (fun _ => true) true Try.f4.params.toList args.toList ds p := hA0
  rw [Try.params4] at hA hval
  obtain ⟨v0, vs0, d0, ds0, p0, q0, hargs, rfl, rfl, h0, r0⟩ := trodAll_cons hA
  obtain ⟨rfl, rfl, rfl⟩ := trodAll_nil r0
  obtain rfl : args = #[v0] := by cases args; simp_all
  obtain ⟨a0, e0, k0⟩ := open_msgs (hval 0 _ v0 rfl rfl) h0
  exact netFirst_any ⟨a0, rfl, e0, k0⟩
theorem over : Rows.netFirstRow.holds Try.pinned (OpenSpec.ofChange Rows.netFirstSpec) :=
  OpenClaim.holds_of_wide 4 Try.f4 rfl rfl rfl rfl rfl rfl rfl ⟨rfl, rfl, rfl, rfl, rfl⟩ rfl rfl rfl rfl rfl (by kernel_rfl) Try.func4 (by kernel_rfl)
    (of_decide_eq_true (by kernel_rfl)) (by unfold Func.isWrapper; first | (rw [if_pos (by decide +kernel)]; kernel_rfl) | (rw [if_neg (by decide +kernel)]; exact ⟨rfl, rfl⟩))
    (fun os started H enc _ => lifted os started H enc)
theorem proved : Rows.NetFirstSaid := over
#print axioms proved
end Go.Proofs.Ytmmneeikcnapmaa.netFirst
