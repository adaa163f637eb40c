/- TrunkHeals: plain laws. -/
import Derived.Test.YtbpblhmigijkaaaTfi
import Derived.Test.YtbpblhmigijkaaaM3
namespace Go.Proofs.Ytbpblhmigijkaaa
open Go.RowKit
set_option linter.unusedVariables false
def eU (x : Int) : List DV := [.v (.int .u8 x)]
theorem plain_eU (x : Int) (j : Nat) (hj : j < 1) : ∃ v, (eU x).getD j default = .v v := by
  match j, hj with
  | 0, _ => exact ⟨_, rfl⟩
def partV (l : List Int) (i : Int) : Int := if l.length = 0 then 0 else ix l (i % ((l.length : Nat) : Int)).toNat
theorem part_bd {l : List Int} {i : Int} (h : ∀ q, q ∈ l → 0 ≤ q ∧ q < 256) : 0 ≤ partV l i ∧ partV l i < 256 := by
  unfold partV
  split
  · omega
  · exact h _ (ix_mem (by have := Int.emod_lt_of_pos i (show (0 : Int) < ((l.length : Nat) : Int) by omega); have := Int.emod_nonneg i (show ((l.length : Nat) : Int) ≠ 0 by omega); omega))
def pickV (a b v : Int) : Int := a + (b - a) * v / 255
theorem pick_bd {a b v : Int} (h : a ≤ b) (hv : 0 ≤ v ∧ v < 256) : a ≤ pickV a b v ∧ pickV a b v ≤ b := by
  unfold pickV
  have h1 : 0 ≤ (b - a) * v := Int.mul_nonneg (by omega) hv.1
  have h2 : (b - a) * v ≤ (b - a) * 255 := Int.mul_le_mul_of_nonneg_left (by omega) (by omega)
  omega
def truX (r : RuleV) (sd up hl : List Int) (g i : Int) : Tru := ⟨g, pickV r.slo r.shi (partV sd i), pickV r.ulo r.uhi (partV up i), pickV r.hlo r.hhi (partV hl i)⟩
theorem forb_mono {y : Int} {s : Spt} {h : Hol} {u v : Tru} (ht : 0 ≤ turnV h.angle s.angle) (hg : v.girth ≤ u.girth) (h1 : u.side ≤ v.side) (h2 : u.up ≤ v.up) (h3 : u.heal ≤ v.heal) (hf : forbidsV y h s u = true) : forbidsV y h s v = true := by
  obtain ⟨a, e⟩ := s
  rw [forb_iff] at hf ⊢
  obtain ⟨f1, f2, f3⟩ := hf
  have f1 : y - h.year < u.heal := of_decide_eq_true f1
  have f2 : max (h.height - e) (e - h.height) < u.up := of_decide_eq_true f2
  have ht : 0 ≤ turnV h.angle a := ht
  refine ⟨decide_eq_true (show y - h.year < v.heal by omega), decide_eq_true (show max (h.height - e) (e - h.height) < v.up by omega), ?_⟩
  have := Int.mul_le_mul_of_nonneg_left hg ht
  omega
theorem truth_between {t : TreeV} {r : RuleV} {y i a e : Int} {sd up hl : List Int} {g : Int} {h : Hol} (h0 : startE t r y = 0) (hs : ∀ q, q ∈ sd → 0 ≤ q ∧ q < 256) (hu : ∀ q, q ∈ up → 0 ≤ q ∧ q < 256) (hh : ∀ q, q ∈ hl → 0 ≤ q ∧ q < 256) (hg : 0 ≤ g ∧ g < 256) (hk : holeOk h) (ha : 0 ≤ a ∧ a ≤ 3599) :
    (forbidsV y h ⟨a, e⟩ (openV t r y).best = true → forbidsV y h ⟨a, e⟩ (truX r sd up hl (pickV (girthV t y).low (girthV t y).high g) i) = true) ∧ (forbidsV y h ⟨a, e⟩ (truX r sd up hl (pickV (girthV t y).low (girthV t y).high g) i) = true → forbidsV y h ⟨a, e⟩ (openV t r y).worst = true) := by
  obtain ⟨k1, k2, k3⟩ := startE_0.1 h0
  have hgb := girth_bd k1 k3
  have ht : 0 ≤ turnV h.angle a := turn_nn hk.2.1 ha
  have p1 := pick_bd k2.side.2.1 (part_bd (i := i) hs)
  have p2 := pick_bd k2.up.2.1 (part_bd (i := i) hu)
  have p3 := pick_bd k2.heal.2.1 (part_bd (i := i) hh)
  have p4 := pick_bd hgb.2.1 hg
  exact ⟨forb_mono ht p4.2 p1.1 p2.1 p3.1, forb_mono ht p4.1 p1.2 p2.2 p3.2⟩
theorem valid_f {t : TreeV} {r : RuleV} {y : Int} (h : 60 < t.holes.length ∨ 10 < r.sizes.length ∨ treeE t ≠ 0 ∨ ruleE r ≠ 0 ∨ y < t.year ∨ 9999 < y) : decide (startE t r y = 0) = false := decide_eq_false fun h0 => by
  obtain ⟨k1, k2, k3⟩ := startE_0.1 h0
  have e1 := treeE_0.2 k1
  have e2 := ruleE_0.2 k2
  have e3 := k1.len
  have e4 := k2.len
  omega
theorem valid_t {t : TreeV} {r : RuleV} {y : Int} (h1 : treeE t = 0) (h2 : ruleE r = 0) (h3 : t.year ≤ y) (h4 : y ≤ 9999) : decide (startE t r y = 0) = true := decide_eq_true (startE_0.2 ⟨treeE_0.1 h1, ruleE_0.1 h2, h3, h4⟩)
theorem valid_d {t : TreeV} {r : RuleV} {y : Int} (h1 : treeE t = 0) (h2 : ruleE r = 0) (h3 : t.year ≤ y) : decide (startE t r y = 0) = decide (y ≤ 9999) := by
  rw [decide_eq_decide, startE_0, treeE_0.symm, ruleE_0.symm]
  exact ⟨fun h => h.2.2.2, fun h => ⟨h1, h2, h3, h⟩⟩
theorem large_yes {t : TreeV} {r : RuleV} (h : largeB t r = true) : 60 < t.holes.length ∨ 10 < r.sizes.length := by
  unfold largeB at h
  rw [Bool.or_eq_true, decide_eq_true_eq, decide_eq_true_eq] at h
  omega
theorem memB_by {x : TrkV} {s : Spt} {u : Tru} {i : Nat} (hi : i < x.t.holes.length) : memB (byV x s u) ((i : Nat) : Int) = forbidsV x.year (ix x.t.holes i) s u := by
  unfold memB
  rw [Bool.eq_iff_iff, decide_eq_true_eq, byV_mem]
  constructor
  · rintro ⟨j, h1, h2, h3⟩
    obtain rfl : i = j := by omega
    exact h3
  · intro h
    exact ⟨i, hi, rfl, h⟩
theorem girthE_s {t : TreeV} {r : RuleV} {y : Int} (h : startE t r y = 0) : girthE t y = 0 := girthE_0.2 ⟨(startE_0.1 h).1, (startE_0.1 h).2.2⟩
theorem girthR_s {t : TreeV} {r : RuleV} {y : Int} (h : startE t r y = 0) : girthR t y = girthV t y := by unfold girthR; rw [if_pos (girthE_s h)]
theorem atE_s {t : TreeV} {r : RuleV} {y e : Int} (h : startE t r y = 0) (he : 0 ≤ e ∧ e ≤ 5000) : atE t r y e = 0 := by
  unfold atE
  rw [if_neg (by omega), if_pos (within1.2 he)]
theorem freeR_s {t : TreeV} {r : RuleV} {y e : Int} (h : startE t r y = 0) (he : 0 ≤ e ∧ e ≤ 5000) : freeR t r y e = freeV (openV t r y) e := by unfold freeR; rw [if_pos (atE_s h he)]
theorem blocksE_s {t : TreeV} {r : RuleV} {y : Int} {s : Spt} (h : startE t r y = 0) (hs : (0 ≤ s.angle ∧ s.angle ≤ 3599) ∧ (0 ≤ s.height ∧ s.height ≤ 5000)) : blocksE t r y s = 0 := (blocksL_by h hs).1
theorem blocksL_f {t : TreeV} {r : RuleV} {y : Int} {s : Spt} (h : startE t r y = 0) (hs : (0 ≤ s.angle ∧ s.angle ≤ 3599) ∧ (0 ≤ s.height ∧ s.height ≤ 5000)) : blocksL t r y s false = byV (openV t r y) s (openV t r y).worst := (blocksL_by h hs).2
theorem blocksL_t {t : TreeV} {r : RuleV} {y : Int} {s : Spt} (h : startE t r y = 0) (hs : (0 ≤ s.angle ∧ s.angle ≤ 3599) ∧ (0 ≤ s.height ∧ s.height ≤ 5000)) : blocksL t r y s true = byV (openV t r y) s (openV t r y).best := by
  unfold blocksL
  rw [if_pos (blocksE_s h hs)]
  rfl
theorem by_less {t : TreeV} {r : RuleV} {y a e : Int} (h0 : startE t r y = 0) (ha : 0 ≤ a ∧ a ≤ 3599) : (byV (openV t r y) ⟨a, e⟩ (openV t r y).best).length ≤ (byV (openV t r y) ⟨a, e⟩ (openV t r y).worst).length :=
  byL_mono fun h hh hf => forb_best h0 ((startE_0.1 h0).1.hole h hh) ha hf
theorem by_len {x : TrkV} (hx : TrkOk x) {s : Spt} {u : Tru} : (byV x s u).length ≤ 60 := Nat.le_trans byL_len hx.t.len
theorem byV_int {x : TrkV} (hx : TrkOk x) {s : Spt} {u : Tru} {i : Nat} (hi : i < (byV x s u).length) : 0 ≤ ix (byV x s u) i ∧ ix (byV x s u) i ≤ 60 := by
  obtain ⟨j, h1, h2, _⟩ := byV_mem.1 (ix_mem hi)
  have := hx.t.len
  omega
theorem in_next {F : List Rg} {i : Nat} {a : Int} {b b' : Bool} (hi : i < F.length) (hb : b = inS (F.take i) a) (h : b' = (b || (decide ((ix F i).low ≤ a) && decide (a ≤ (ix F i).high)))) : b' = inS (F.take (i + 1)) a := by
  rw [take_ix hi, inS_snoc, ← hb, h]
theorem in_end {x : TrkV} (hx : TrkOk x) {i : Nat} {a e : Int} {b : Bool} (ha : 0 ≤ a ∧ a ≤ 3599) (hi : (freeV x e).length ≤ i) (hb : b = inS ((freeV x e).take i) a) : b = decide ((((byV x ⟨a, e⟩ x.worst).length : Nat) : Int) = 0) := by
  rw [List.take_of_length_le hi] at hb
  rw [hb, Bool.eq_iff_iff, ← byV_nil hx ha, decide_eq_true_eq]
  constructor
  · intro h; rw [h]; rfl
  · intro h; exact List.eq_nil_of_length_eq_zero (by omega)
theorem in_forb {x : TrkV} {i : Nat} {a e : Int} {b : Bool} (hb : b = decide ((((byV x ⟨a, e⟩ x.worst).length : Nat) : Int) = 0)) (hi : i < x.t.holes.length) (hw : forbidsV x.year (ix x.t.holes i) ⟨a, e⟩ x.worst = true) : b = false := by
  rw [hb]
  refine decide_eq_false fun h => ?_
  have hm : ((i : Nat) : Int) ∈ byV x ⟨a, e⟩ x.worst := byV_mem.2 ⟨i, hi, rfl, hw⟩
  have hn : byV x ⟨a, e⟩ x.worst = [] := List.eq_nil_of_length_eq_zero (by omega)
  rw [hn] at hm
  cases hm
end Go.Proofs.Ytbpblhmigijkaaa
