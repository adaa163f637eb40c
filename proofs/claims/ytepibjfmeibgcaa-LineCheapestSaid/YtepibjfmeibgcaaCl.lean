/- Copies: what slices.Clone, own, ranges and numbers return. -/
import Derived.Test.YtepibjfmeibgcaaApp
import Derived.Test.YtepibjfmeibgcaaWg
import Derived.WalkSpells
namespace Go.Proofs.Ytepibjfmeibgcaa
open Go.RowKit
set_option linter.unusedVariables false
theorem encI_len (y : Int) : (encI y).length = 1 := rfl
theorem encI_one (y : Int) : ∀ u ∈ encI y, u.oneCell' = true := by intro u hu; simp [encI] at hu; subst hu; rfl
theorem encP_len (y : Pipe) : (encP y).length = 5 := rfl
theorem encP_one (y : Pipe) : ∀ u ∈ encP y, u.oneCell' = true := by
  intro u hu; simp only [encP, List.mem_cons, List.not_mem_nil, or_false] at hu
  rcases hu with rfl | rfl | rfl | rfl | rfl <;> rfl
theorem flatMap_encI (xs : List Int) : xs.flatMap encI = xs.map I := by
  induction xs with
  | nil => rfl
  | cons x xs ih => rw [List.flatMap_cons, ih]; rfl
def encR (r : Rng) : List Value := [I r.low, I r.high]
theorem encR_len (y : Rng) : (encR y).length = 2 := rfl
theorem encR_one (y : Rng) : ∀ u ∈ encR y, u.oneCell' = true := by
  intro u hu; simp only [encR, List.mem_cons, List.not_mem_nil, or_false] at hu
  rcases hu with rfl | rfl <;> rfl
abbrev RdR (w : World) (lo hi : Nat) (A : Option Addr) (xs : List Rng) : Prop := Rd encR 2 w lo hi A xs
theorem infoRange : (Try.prog.info? 52).map (fun i => (i.zero, i.size, i.bytes)) = some (some (.agg #[.int .i64 0, .int .i64 0]), 2, 16) := by kernel_rfl
/-- An empty row of the call's own. -/
theorem owns_empty (W : World) (base : Nat) (e : TypeId) (size : Nat) (hb : base ≤ W.heap.size) : (W.alloc (.cells #[] e)).ownsRow base e size (.slice (some ⟨W.heap.size, 0, none⟩) 0 0) 0 [] :=
  ⟨by simp, .inr ⟨W.heap.size, 0, #[], rfl, hb, heap_alloc_new W _, Nat.le_refl _, by unfold maxLen; omega, by simp, by simp⟩⟩

theorem owns_empty' (W : World) (base g : Nat) (e : TypeId) (size : Nat) (hg : W.heap.size = g) (hb : base ≤ g) : (W.alloc (.cells #[] e)).ownsRow base e size (.slice (some ⟨g, 0, none⟩) 0 0) 0 [] := by
  subst hg; exact owns_empty W base e size hb
theorem ownsRow_base' {W : World} {base base' : Nat} {e : TypeId} {size : Nat} {v : Value} {n : Nat} {xs : List Value} (h : W.ownsRow base e size v n xs) (hb : base' ≤ base) : W.ownsRow base' e size v n xs := by
  refine ⟨h.1, ?_⟩
  rcases h.2 with hn | ⟨g, cap, cur, hv, hbg, rest⟩
  · exact .inl hn
  · exact .inr ⟨g, cap, cur, hv, Nat.le_trans hb hbg, rest⟩
/-- A row of the call's own, not nil: its value. -/
theorem ownsRow_val {W : World} {base : Nat} {e : TypeId} {size n : Nat} {v : Value} {xs : List Value} (h : W.ownsRow base e size v n xs) : ∃ B c, v = .slice B n c ∧ n ≤ c := by
  rcases h.2 with ⟨rfl, rfl⟩ | ⟨g, cap, cur, rfl, _, _, hc, _⟩
  · exact ⟨_, _, rfl, Nat.le_refl _⟩
  · exact ⟨_, _, rfl, hc⟩
set_option maxHeartbeats 400000 in
set_option maxRecDepth 100000 in
theorem numbers_ (A : Option Addr) (c lo hi : Nat) (xs : List Int) (w : World) (hR : RdI w lo hi A xs) (hh : hi ≤ w.heap.size) (hn : xs.length ≤ 1000000) :
    Calls Try.prog 28 #[.slice A xs.length c] w fun e w' => ∃ v, e = .returned v ∧ w'.ownsRow w.heap.size 3 1 v xs.length (xs.flatMap encI) ∧ Below w.heap.size w w' := by
  obtain ⟨i0, ei0, ez0, ez1, ez2⟩ := info_parts infoInt
  go_enter Try.func28, Try.ntmps28
  go_wp2_with (at_builtin; refine wpList_append_rd _ rfl _ _ 31 rfl w.heap.size 3 i0 (.int .i64 0) 1 8 Try.underlying31 ei0 ez0 ez1 ez2 rfl (by decide) _ _ _ rfl (owns_empty _ _ _ _ (Nat.le_refl _)) A c lo hi xs rfl (hR.alloc hh _) encI_len encI_one (by unfold maxLen; omega) (by omega) (by simp) ?_; intro v' w1 hown' hgrow)
  go_ret
  exact ⟨_, rfl, by simpa using hown', ((Below.refl _ _).alloc (Nat.le_refl _) _).grown hgrow (by simp) (fun k e => by simp [Act.eval, Value.ownBlock] at e; omega)⟩
set_option maxHeartbeats 400000 in
set_option maxRecDepth 100000 in
theorem ranges_ (A : Option Addr) (c lo hi : Nat) (xs : List Rng) (w : World) (hR : RdR w lo hi A xs) (hh : hi ≤ w.heap.size) (hn : xs.length ≤ 1000000) :
    Calls Try.prog 18 #[.slice A xs.length c] w fun e w' => ∃ v, e = .returned v ∧ w'.ownsRow w.heap.size 52 2 v xs.length (xs.flatMap encR) ∧ Below w.heap.size w w' := by
  obtain ⟨i0, ei0, ez0, ez1, ez2⟩ := info_parts infoRange
  go_enter Try.func18, Try.ntmps18
  go_wp2_with (at_builtin; refine wpList_append_rd _ rfl _ _ 25 rfl w.heap.size 52 i0 _ 2 16 Try.underlying25 ei0 ez0 ez1 ez2 rfl (by decide) _ _ _ rfl (owns_empty _ _ _ _ (Nat.le_refl _)) A c lo hi xs rfl (hR.alloc hh _) encR_len encR_one (by unfold maxLen; omega) (by omega) (by simp) ?_; intro v' w1 hown' hgrow)
  go_ret
  exact ⟨_, rfl, by simpa using hown', ((Below.refl _ _).alloc (Nat.le_refl _) _).grown hgrow (by simp) (fun k e => by simp [Act.eval, Value.ownBlock] at e; omega)⟩
theorem own_facts {w w1 : World} {a b c d : Value} {t : TypeId} {o : Obj} (hb : Below (w.heap.size + 1 + 1) (((w.alloc (.cells #[a, b] t)).alloc (.cells #[c, d] t)).alloc o) w1) :
    w1.cell? ⟨w.heap.size, 0, none⟩ = some a ∧ w1.cell? ⟨w.heap.size, 1, none⟩ = some b ∧ w1.cell? ⟨w.heap.size + 1, 0, none⟩ = some c ∧ w1.cell? ⟨w.heap.size + 1, 1, none⟩ = some d ∧ w1.frozen? ⟨w.heap.size, 1, none⟩ = false ∧ w1.frozen? ⟨w.heap.size + 1, 0, none⟩ = false := by
  obtain ⟨hc, hf, _⟩ := bcell hb
  refine ⟨?_, ?_, ?_, ?_, ?_, ?_⟩
  · rw [hc _ _ (by omega)]; go_simp
  · rw [hc _ _ (by omega)]; go_simp
  · rw [hc _ _ (by omega)]; go_simp
  · rw [hc _ _ (by omega)]; go_simp
  · rw [hf _ _ (by omega)]; go_simp
  · rw [hf _ _ (by omega)]; go_simp
set_option maxHeartbeats 400000 in
set_option maxRecDepth 100000 in
theorem own_ (pump : Int) (A : Option Addr) (c lo hi : Nat) (xs : List Pipe) (w : World) (hR : RdP w lo hi A xs) (hh : hi ≤ w.heap.size) (hn : xs.length ≤ 1000000) :
    Calls Try.prog 17 #[.agg #[.int .i64 pump, .slice A xs.length c]] w fun e w' => ∃ B c', e = .returned (.agg #[.int .i64 pump, .slice B xs.length c']) ∧ w'.ownsRow w.heap.size 54 5 (.slice B xs.length c') xs.length (xs.flatMap encP) ∧ Below w.heap.size w w' := by
  obtain ⟨i0, ei0, ez0, ez1, ez2⟩ := info_parts infoPipe
  go_enter Try.func17, Try.ntmps17
  go_wp2_with (at_builtin; go_loud (refine wpList_append_rd _ rfl _ _ 22 rfl (w.heap.size + 1 + 1) 54 i0 _ 5 40 Try.underlying22 ei0 ez0 ez1 ez2 rfl (by decide) _ _ _ rfl (owns_empty' _ _ (w.heap.size + 1 + 1) _ _ (by first | omega | (simp; done) | (simp; omega) | (simp [World.setCell]; omega)) (by first | omega | (simp; done) | (simp; omega) | (simp [World.setCell]; omega))) A c lo hi xs rfl (((hR.alloc hh _).alloc (by first | omega | (simp; done) | (simp; omega) | (simp [World.setCell]; omega)) _).alloc (by first | omega | (simp; done) | (simp; omega) | (simp [World.setCell]; omega)) _) encP_len encP_one (by unfold maxLen; omega) (by omega) (by first | omega | (simp; done) | (simp; omega) | (simp [World.setCell]; omega)) ?_); intro v' w1 hown' hgrow; obtain ⟨B, c', rfl, hcc⟩ := ownsRow_val hown'; have hbw := (Below.refl (w.heap.size + 1 + 1) _).grown hgrow (by first | omega | (simp; done) | (simp; omega) | (simp [World.setCell]; omega)) (fun k e => by simp [Act.eval, Value.ownBlock] at e; omega); obtain ⟨hc1, hf1, hz1⟩ := bcell hbw; simp only [World.size_alloc] at hz1; obtain ⟨k0, k1, k2, k3, k4, k5⟩ := own_facts hbw)
  have hB := (((((Below.refl w.heap.size w).alloc (Nat.le_refl _) _).alloc (by first | omega | (simp; done) | (simp; omega) | (simp [World.setCell]; omega)) _).alloc (by first | omega | (simp; done) | (simp; omega) | (simp [World.setCell]; omega)) _).trans (hbw.mono (by first | omega | (simp; done) | (simp; omega) | (simp [World.setCell]; omega))))
  refine bodyPost_ret (v := .agg #[.int .i64 pump, .slice B xs.length c']) (by simp [results, Try.results17, go_sem, k2, k3]) rfl ⟨B, c', rfl, ?_, (by repeat (first | exact Below.refl _ _ | exact (hB) | assumption | (refine Below.setCell ?_ (by first | omega | (simp; done) | (simp; omega) | (simp [World.setCell]; done) | (simp [World.setCell]; omega)) _) | (refine Below.alloc ?_ (by first | omega | (simp; done) | (simp; omega) | (simp [World.setCell]; done) | (simp [World.setCell]; omega)) _) | (refine Below.drewN_ ?_ _) | (refine Below.drew ?_)))⟩
  rw [Nat.zero_add, List.nil_append] at hown'
  have ho : ∀ (W : World) (p : Addr) (u : Value), W.ownsRow (w.heap.size + 1 + 1) 54 5 (.slice B xs.length c') xs.length (xs.flatMap encP) → p.block < w.heap.size + 1 + 1 → (W.setCell p u).ownsRow (w.heap.size + 1 + 1) 54 5 (.slice B xs.length c') xs.length (xs.flatMap encP) :=
    fun W p u h hp => ownsRow_only (S := fun k => k = p.block) h (Only.setCell _ _ _ rfl) (fun k hk => by omega)
  refine ownsRow_base' ?_ (show w.heap.size ≤ w.heap.size + 1 + 1 by omega)
  exact ho _ _ _ (ho _ _ _ (ho _ _ _ hown' (by simp; try omega)) (by simp; try omega)) (by simp; try omega)
end Go.Proofs.Ytepibjfmeibgcaa
