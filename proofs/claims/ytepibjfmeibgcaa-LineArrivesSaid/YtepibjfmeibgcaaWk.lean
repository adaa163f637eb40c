/- What line.pair returns. -/
import Derived.Test.YtepibjfmeibgcaaWj
import Derived.Deep.RegionLaw
namespace Go.Proofs.Ytepibjfmeibgcaa
open Go.RowKit
theorem ownsRow_drew {W : World} {base : Nat} {e : TypeId} {size n : Nat} {v : Value} {xs : List Value} (h : W.ownsRow base e size v n xs) : W.drew.ownsRow base e size v n xs := h
theorem ownsRow_drewN {W : World} {base : Nat} {e : TypeId} {size n : Nat} {v : Value} {xs : List Value} (h : W.ownsRow base e size v n xs) (k : Nat) : (W.drewN k).ownsRow base e size v n xs := h
/-- The ranges between two lists. -/
def pairL (a b : List Int) : List Rng := List.zipWith (fun x y => ⟨x, y⟩) a b
theorem pairL_snoc {a b : List Int} {k : Nat} (ha : k < a.length) (hb : k < b.length) : pairL (a.take (k + 1)) (b.take (k + 1)) = pairL (a.take k) (b.take k) ++ [⟨a[k], b[k]⟩] := by
  unfold pairL
  rw [List.take_succ_eq_append_getElem ha, List.take_succ_eq_append_getElem hb, List.zipWith_append (by simp; omega)]; rfl
theorem pairL_len (a b : List Int) (h : a.length = b.length) : (pairL a b).length = a.length := by unfold pairL; simp; omega
set_option maxHeartbeats 1000000 in
set_option maxRecDepth 100000 in
theorem pair_ (A B : Option Addr) (ca cb lo hi l2 h2 m : Nat) (a b : List Int) (w : World) (hA : RdI w lo hi A a) (hhi : hi ≤ w.heap.size) (hB : RdI w l2 h2 B b) (hh2 : h2 ≤ w.heap.size) (ham : a.length = m) (hbm : b.length = m) (hn : m ≤ 1000000) :
    Calls Try.prog 68 #[.slice A m ca, .slice B m cb] w fun e w' => (∃ v, e = .returned v ∧ w'.ownsRow w.heap.size 52 2 v m ((pairL a b).flatMap encR)) ∧ Below w.heap.size w w' := by
  obtain ⟨i0, ei0, ez0, ez1, ez2⟩ := info_parts infoRange
  have HA := Lib.hid ham
  have HB := Lib.hid hbm
  clear ham hbm
  go_enter Try.func68, Try.ntmps68
  go_wp2
  go_loopw [4, 8] (fun v i wr => ∃ k : Nat, k ≤ m ∧ i = .int .i64 k ∧ wr.ownsRow w.heap.size 52 2 v k ((pairL (a.take k) (b.take k)).flatMap encR) ∧ Below w.heap.size w wr) (fun _ i _ => m - (intOf i).toNat)
  case atStart => exact ⟨0, Nat.zero_le _, rfl, ⟨by simp [pairL], .inl ⟨rfl, rfl⟩⟩, Below.refl _ _⟩
  case round =>
    obtain ⟨k, hk, rfl, hrow, hBw⟩ := hrel
    have hzz := hBw.size
    by_cases hlt : k < m
    · have hka : k < a.length := by have := HA.out; omega
      have hkb : k < b.length := by have := HB.out; omega
      obtain ⟨b1, off1, rfl, _, _, c1⟩ := RdI.at_ (hA.below hBw hhi) hka
      obtain ⟨b2, off2, rfl, _, _, c2⟩ := RdI.at_ (hB.below hBw hh2) hkb
      have hsn := Lib.hid (pairL_snoc hka hkb)
      generalize a[k] = x at *
      generalize b[k] = y at *
      obtain ⟨vb, vc, rfl, hvc⟩ := ownsRow_val hrow
      go_wp2_with fail
      go_region_law ((refine step_append_rd (enc := encR) rfl (.tmp 11) (.tmp 21) _ rfl w.heap.size 52 i0 _ 2 16 Try.underlying25 ei0 ez0 ez1 ez2 rfl (by decide) _ _ _ rfl (ownsRow_drew (hrow.alloc _)) _ 1 _ 0 _ [⟨x, y⟩] rfl rfl (Rd.drew (rd_new (enc := encR) (size := 2) wr ⟨x, y⟩ 52 wr.heap.size rfl)) encR_len encR_one (by unfold maxLen; omega) (by omega) (by show w.heap.size ≤ (wr.alloc _).heap.size; rw [World.size_alloc]; omega) ?_); intro v' w' ho hg)
      all_goals
        go_wp2_with fail
        refine ⟨⟨k + 1, by omega, by go_num, by rw [hsn.out, List.flatMap_append]; exact ho, (hBw.alloc hzz _).drew.grown hg (by show w.heap.size ≤ (wr.alloc _).heap.size; rw [World.size_alloc]; omega) (fun r e => (hrow.lt r e).1)⟩, by simp [intOf]; omega⟩
    · obtain rfl : k = m := by omega
      go_wp2
      go_ret
      have h1 := HA.out; have h2 := HB.out
      rw [List.take_of_length_le (by omega), List.take_of_length_le (by omega)] at hrow
      exact ⟨⟨_, rfl, hrow⟩, hBw⟩
end Go.Proofs.Ytepibjfmeibgcaa
