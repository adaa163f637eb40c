/- The example tubing of the law's own helper. -/
import Derived.Test.YtepibjfmeibgcaaHa
namespace Go.Proofs.Ytepibjfmeibgcaa
open Go.RowKit
def bushP : List Pipe := [pump0, ⟨0, 1000, 20, 500, 0⟩, ⟨1, 400, 8, -30, 5⟩, ⟨1, 300, 8, 100, 4⟩, ⟨3, 200, 8, 50, 2⟩]
def bushF : List Rng := [⟨0, 0⟩, ⟨0, 0⟩, ⟨5000, 6000⟩, ⟨4000, 4000⟩, ⟨2000, 2000⟩]
def BushR (base : Nat) (e : Ending) (w' : World) : Prop :=
  ∃ A B, e = .returned (.tuple #[.agg #[.int .i64 8000, .slice A 5 5], .slice B 5 5]) ∧ RdP w' base w'.heap.size A bushP ∧ RdR w' base w'.heap.size B bushF
theorem results_ct {P : Program} {fn : Func} {p u : Tmp} {ty : TypeId} (h : fn.results = #[.cell p ty, .tmp u]) (tmps : Array Value) (w : World) (g : Nat) (t : TypeId) (cs : Array Value) (fr : Nat × Nat) (d : TypeDesc)
    (hp : tmps.getD p undef = .pointer (some ⟨g, 0, none⟩)) (hg : w.heap[g]? = some (.cells cs t fr))
    (hu : P.underlying ty = some d) (hd : (match d with | .struct _ | .array _ _ => true | _ => false) = true) (hi : (P.info? ty).map (·.size) = some cs.size) :
    (results fn tmps).run P w = .ok (.tuple #[.agg cs, tmps.getD u undef]) w := by
  have hp' : tmps[p]?.getD undef = .pointer (some ⟨g, 0, none⟩) := by simpa using hp
  simp [results, h, hp', asAddr, run_loadVar_row w g t ty cs fr d hg hu hd hi]
theorem Rd.of_blk {α : Type} {enc : α → List Value} {size : Nat} {w : World} {g : Nat} {T : TypeId} {cs : Array Value} (h : Blk w g T cs) (xs : List α) (lo : Nat) (hlo : lo ≤ g)
    (hc : ∀ i x, xs[i]? = some x → ∀ j u, (enc x)[j]? = some u → cs[i * size + j]? = some u) : Rd enc size w lo w.heap.size (some ⟨g, 0, none⟩) xs := fun _ =>
  ⟨g, 0, rfl, hlo, h.lt, fun i x hx j u hu => by rw [h.cell]; simpa using hc i x hx j u hu⟩
set_option maxHeartbeats 800000 in
set_option maxRecDepth 100000 in
theorem bush_ (w : World) : Calls Try.prog 56 #[] w fun e w' => BushR w.heap.size e w' ∧ Below w.heap.size w w' := by
  go_enter Try.func56, Try.ntmps56
  go_wp2
  have b1 := (Blk.new w 24 #[.int .i64 8000, .slice (some ⟨w.heap.size + 1, 0, none⟩) 5 5]).alloc (.cells (bushP.flatMap encP).toArray 54) |>.alloc (.cells #[.int .i64 8000, .slice (some ⟨w.heap.size + 1, 0, none⟩) 5 5] 24) |>.alloc (.cells (bushF.flatMap encR).toArray 52)
  have b2 := (Blk.new (w.alloc (.cells #[.int .i64 8000, .slice (some ⟨w.heap.size + 1, 0, none⟩) 5 5] 24)) 54 (bushP.flatMap encP).toArray).alloc (.cells #[.int .i64 8000, .slice (some ⟨w.heap.size + 1, 0, none⟩) 5 5] 24) |>.alloc (.cells (bushF.flatMap encR).toArray 52)
  have b3 := Blk.new (((w.alloc (.cells #[.int .i64 8000, .slice (some ⟨w.heap.size + 1, 0, none⟩) 5 5] 24)).alloc (.cells (bushP.flatMap encP).toArray 54)).alloc (.cells #[.int .i64 8000, .slice (some ⟨w.heap.size + 1, 0, none⟩) 5 5] 24)) 52 (bushF.flatMap encR).toArray
  refine bodyPost_ret (results_ct rfl _ _ _ _ _ _ _ rfl b1 Try.underlying24 rfl (by kernel_rfl)) rfl ?_
  simp only [World.size_alloc] at b2 b3
  refine ⟨⟨_, _, rfl, Rd.of_blk b2 bushP _ (by omega) ?_, Rd.of_blk b3 bushF _ (by omega) ?_⟩, (by repeat (first | exact Below.refl _ _ | exact (Below.refl _ _) | assumption | (refine Below.setCell ?_ (by first | omega | (simp; done) | (simp; omega) | (simp [World.setCell]; done) | (simp [World.setCell]; omega)) _) | (refine Below.alloc ?_ (by first | omega | (simp; done) | (simp; omega) | (simp [World.setCell]; done) | (simp [World.setCell]; omega)) _) | (refine Below.drewN_ ?_ _) | (refine Below.drew ?_)))⟩
  all_goals
    intro i x hx j u hu
    match i, hx with
    | 0, hx | 1, hx | 2, hx | 3, hx | 4, hx => 
      obtain rfl := Option.some.inj hx
      match j, hu with
      | 0, hu | 1, hu | 2, hu | 3, hu | 4, hu => first | exact hu | cases hu
end Go.Proofs.Ytepibjfmeibgcaa
