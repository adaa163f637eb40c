/- An abstract walk: short words for printed proofs. No program is in sight here. -/
import Derived.Test.YtbpblhmigijkaaaA25
namespace Go.Proofs.Ytbpblhmigijkaaa
open Go.RowKit
set_option linter.unusedVariables false
theorem al1 {p : Prop} (h : p) : AllP [p] := h
theorem al2 {p q : Prop} {r : List Prop} (h : p) (k : AllP (q :: r)) : AllP (p :: q :: r) := ⟨h, k⟩
theorem aw_r {P : Program} {E : Env} {Q : Exit → St → Prop} {S : St} {id : Nat} {l : List Oper} (orcs : List (Nat × Orc)) (T : St) (vc : List Prop) (h : runR P l orcs S (T.fr.map (·.1)) (T.hp.map (·.1)) = some (T, vc)) (hvc : AllP vc) (hQ : Q .normal T) : AW P E (.region id l.toArray false) Q S := aw_region orcs _ _ T vc h hvc hQ
theorem aw_d {P : Program} {E : Env} {Q : Exit → St → Prop} {S : St} {id : Nat} {l : List Oper} (orcs : List (Nat × Orc)) (T : St) (vc : List Prop) (hm : P.follows .mixedOrders = true) (h : runD P l orcs S (T.fr.map (·.1)) (T.hp.map (·.1)) = some (T, vc)) (hvc : AllP vc) (hQ : Q .normal T) : AW P E (.region id l.toArray true) Q S := aw_drawn orcs _ _ T vc hm h hvc hQ
section
variable {ρ : List (Nat × Nat)} {S : St} {i : Nat} {r : List (Nat × Option Cn)}
theorem cro {s n : Nat} {el : Nat → Nat → DV} (h : S.cn (renId ρ i) = some (.ro s n el)) (l : ContsLe ρ S r) : ContsLe ρ S ((i, some (.ro s n el)) :: r) := conts_cons h (le_ro rfl el_rfl) l
theorem cve {t s n : Nat} {el : Nat → Nat → DV} (h : S.cn (renId ρ i) = some (.vec t s n el)) (l : ContsLe ρ S r) : ContsLe ρ S ((i, some (.vec t s n el)) :: r) := conts_cons h (le_vec rfl el_rfl) l
theorem cvr {t s n : Nat} {el : Nat → Nat → DV} (h : S.cn (renId ρ i) = some (.vec t s n el)) (l : ContsLe ρ S r) : ContsLe ρ S ((i, some (.ro s n el)) :: r) := conts_cons h (le_vec_ro rfl el_rfl) l
theorem cbl {t : Nat} {cs cs2 : List LV} (h : S.cn (renId ρ i) = some (.blk t cs)) (e : cs = cs2.map (LV.ren ρ)) (l : ContsLe ρ S r) : ContsLe ρ S ((i, some (.blk t cs2)) :: r) := conts_cons h (le_blk e) l
theorem cbr {t : Nat} {cs cs2 : List LV} (h : S.cn (renId ρ i) = some (.blk t cs)) (e : cs = cs2.map (LV.ren ρ)) (l : ContsLe ρ S r) : ContsLe ρ S ((i, some (.rblk cs2)) :: r) := conts_cons h (le_blk_r e) l
theorem crr {cs cs2 : List LV} (h : S.cn (renId ρ i) = some (.rblk cs)) (e : cs = cs2.map (LV.ren ρ)) (l : ContsLe ρ S r) : ContsLe ρ S ((i, some (.rblk cs2)) :: r) := conts_cons h (le_rblk e) l
theorem le_mp {g g2 : Obj → Prop} (h : ∀ o, g o → g2 o) : CnLe ρ (.mp g) (.mp g2) := h
theorem cmp_ {g g2 : Obj → Prop} (h : S.cn (renId ρ i) = some (.mp g)) (k : ∀ o, g o → g2 o) (l : ContsLe ρ S r) : ContsLe ρ S ((i, some (.mp g2)) :: r) := conts_cons h (le_mp k) l
end
theorem cells_cons {a b : LV} {l m : List LV} (h : a = b) (k : l = m) : a :: l = b :: m := by rw [h, k]
theorem cell_i {x y : Int} (h : x = y) : LV.i x = LV.i y := by rw [h]
theorem cell_b {x y : Bool} (h : x = y) : LV.v (.bool x) = LV.v (.bool y) := by rw [h]
theorem dtr {p : Prop} [Decidable p] (h : decide p = true) : p := of_decide_eq_true h
theorem dlt {x y : Int} (h : decide (x < y) = false) : y ≤ x := Int.not_lt.1 (of_decide_eq_false h)
theorem dle {x y : Int} (h : decide (x ≤ y) = false) : y < x := Int.not_le.1 (of_decide_eq_false h)
theorem deq {x y : Int} (h : decide (x = y) = false) : x ≠ y := of_decide_eq_false h
theorem dne {x y : Int} (h : decide (x ≠ y) = false) : x = y := Decidable.not_not.1 (of_decide_eq_false h)
end Go.Proofs.Ytbpblhmigijkaaa
