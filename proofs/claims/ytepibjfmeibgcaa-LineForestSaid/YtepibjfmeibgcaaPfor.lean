/- LineForest: the shell. -/
import Derived.Test.YtepibjfmeibgcaaB5
import Derived.Test.YtepibjfmeibgcaaC2
import Derived.Test.YtepibjfmeibgcaaSo
namespace Go.Proofs.Ytepibjfmeibgcaa
open Go.RowKit Go.ChangeShapes Go.WideShapes Go.ChangeAt Go.Deep Go.Joins
theorem LineForest_ (W : World) (n : Net) (A0 : Option Addr) (c0 : Nat) (hR0 : RdP W 0 W.heap.size A0 n.pipes) (hc0 : n.pipes.length ≤ c0) (hm0 : c0 ≤ maxLen) (x y z : Int) (hx : 0 ≤ x ∧ x ≤ 255) (hy : 0 ≤ y ∧ y ≤ 255) (hz : 0 ≤ z ∧ z ≤ 255) :
    Calls Try.prog 10 #[.agg #[.int .i64 n.pump, .slice A0 n.pipes.length c0], .agg #[.int .u8 x, .int .u8 y, .int .u8 z]] W fun e W' => e = .returned (.bool true) ∧ Below W.heap.size W W' :=
  (calls_of_fr (forest_fr n x y z (by omega) hx hy hz) (nuL [.slice A0 n.pipes.length c0]) W
    (nuL_one (by intro v hv; simp at hv; subst hv; rfl))
    ⟨ro_P rfl hc0 hR0, trivial⟩).mono fun e w' ⟨⟨_, h⟩, hb⟩ => ⟨h, hb⟩
set_option maxRecDepth 100000 in
theorem lineForest_lifted (os : Os) (started : os.Started) (H : Type) (enc : TypeId × Value → H) :
    ReturnsInHanded {} Try.checked os 10 .any (Rows.lineForestSpec.pre6 enc Try.prog Try.f10 Rows.lineForestRow.domain false) (Rows.lineForestSpec.post enc Try.prog Try.f10 false true false false) := by
  refine returnsInHanded_of_change (C := Try.checked) own_none started (by kernel_rfl) Try.func10
    (ChangeSpec.witness6 (enc := enc) (C := Try.checked) false ⟨#[], #[.agg #[.int .i64 0, .slice none 0 0], .agg #[.int .u8 0, .int .u8 0, .int .u8 0]], []⟩ 8 (by kernel_rfl) (by kernel_rfl) (by kernel_rfl) (by kernel_rfl)) ?_
  intro W base args ds gs before hval0 hW hcnd _
  have hval : ∀ (j : Nat) t v, Try.f10.params[j]? = some t → args[j]? = some v → Value.okWide Try.prog W .any base t v := hval0
  have hW' := hW
  obtain ⟨p, q, hA0, hV, rfl, hfz, hnd⟩ := hW
  have hA : DataW.TrodAll enc Try.prog W 0 (fun _ => true) true Try.f10.params.toList args.toList ds p := hA0
  rw [Try.params10] at hA hval
  obtain ⟨v0, vs0, d0, ds0, p0, q0, hargs, rfl, rfl, h0, r0⟩ := trodAll_cons hA
  obtain ⟨v1, vs1, d1, ds1, p1, q1, rfl, rfl, rfl, h1, r1⟩ := trodAll_cons r0
  obtain ⟨rfl, rfl, rfl⟩ := trodAll_nil r1
  obtain rfl : args = #[v0, v1] := by cases args; simp_all
  obtain ⟨rfl, rfl⟩ := trodVars_none hV
  have lt0 : ∀ x ∈ p0, x.block < W.heap.size := by obtain ⟨m, hm⟩ := h0; exact DataW.trod_lt m _ _ _ hm
  have lt1 : ∀ x ∈ p1, x.block < W.heap.size := by obtain ⟨m, hm⟩ := h1; exact DataW.trod_lt m _ _ _ hm
  obtain ⟨n, A0, c0, rfl, hc0, hm0, hR0⟩ := open_net (hval 0 _ v0 rfl rfl) h0
  obtain ⟨x, y, z, rfl, hx, hy, hz⟩ := open_bytes (hval 1 _ v1 rfl rfl) h1
  clear hA0 hval0
  refine (LineForest_ W n A0 c0 hR0 hc0 hm0 x y z hx hy hz).mono fun e W' ⟨he, bel⟩ => ?_
  subst he
  exact ⟨_, rfl, _, _, _, [], _, [], hW', trodAll_mk1 (shut_bool Try.underlying4 _), (trodAll_cons_mk (Below.trod laid_out (by kernel_rfl) (of_decide_eq_true (by kernel_rfl)) h0 bel lt0) (trodAll_cons_mk (Below.trod laid_out (by kernel_rfl) (of_decide_eq_true (by kernel_rfl)) h1 bel lt1) trodAll_mk0)), rfl, bel.frame _, fun h => by cases h⟩
theorem lineForest_holds : Rows.LineForestSaid :=
  OpenClaim.holds_of_wide 10 Try.f10 rfl rfl rfl rfl rfl rfl rfl ⟨rfl, rfl, rfl, rfl, rfl⟩ rfl rfl rfl rfl rfl (by kernel_rfl) Try.func10 (by kernel_rfl)
    (of_decide_eq_true (by kernel_rfl)) (by unfold Func.isWrapper; first | (rw [if_pos (by decide +kernel)]; kernel_rfl) | (rw [if_neg (by decide +kernel)]; exact ⟨rfl, rfl⟩))
    (fun os started H enc _ => lineForest_lifted os started H enc)
end Go.Proofs.Ytepibjfmeibgcaa
