/- Sets of ranges: what span's functions come to, in plain Lean. -/
import Derived.Test.YtbpblhmigijkaaaTb
import Derived.Test.YtbpblhmigijkaaaA28
namespace Go.Proofs.Ytbpblhmigijkaaa
open Go.RowKit
set_option linter.unusedVariables false
def bdR (r : Rg) : Prop := (-1000000000000000 ≤ r.low ∧ r.low ≤ 1000000000000000) ∧ (-1000000000000000 ≤ r.high ∧ r.high ≤ 1000000000000000)
def rgOut (a : Rg) : Bool := !(within (-1000000000000000) 1000000000000000 [a.low, a.high]) || decide (a.high < a.low)
def rgsB (l : List Rg) : Bool := !(l.any rgOut)
structure SetOk (s : List Rg) : Prop where
 len : s.length ≤ 200
 ok : ∀ r, r ∈ s → bdR r ∧ r.low ≤ r.high
 sep : ∀ i, 0 < i → i < s.length → (ix s (i - 1)).high + 1 < (ix s i).low
theorem rgs_ok {s : List Rg} (h : SetOk s) : rgsB s = true := by
 unfold rgsB
 rw [Bool.not_eq_true', List.any_eq_false]
 intro r hr
 obtain ⟨⟨h1, h2⟩, h3⟩ := h.ok r hr
 unfold rgOut
 rw [within2.2 ⟨h1, h2⟩]
 simp
 omega
theorem ix_sub {i : Nat} (h : 0 < i) : ((i : Int) - 1).toNat = i - 1 := by omega
def addR (o : List Rg) (r : Rg) : List Rg := if 0 < o.length ∧ r.low ≤ (ix o (o.length - 1)).high + 1 then o.set (o.length - 1) ⟨(ix o (o.length - 1)).low, max (ix o (o.length - 1)).high r.high⟩ else o ++ [r]
theorem addR_len {o : List Rg} {r : Rg} : (addR o r).length ≤ o.length + 1 := by
 unfold addR
 split <;> simp
theorem mem_set {α : Type} {l : List α} {i : Nat} {x y : α} (h : y ∈ l.set i x) : y ∈ l ∨ y = x := List.mem_or_eq_of_mem_set h
theorem addR_bd {o : List Rg} {r : Rg} (ho : ∀ q, q ∈ o → bdR q) (hr : bdR r) : ∀ q, q ∈ addR o r → bdR q := by
 intro q hq
 unfold addR at hq
 split at hq
 ·rename_i h
  rcases mem_set hq with h1 | rfl
  ·exact ho q h1
  ·have := ho _ (ix_mem (l := o) (i := o.length - 1) (by omega))
   unfold bdR at *
   simp only
   omega
 ·rcases List.mem_append.1 hq with h1 | h1
  ·exact ho q h1
  ·rw [List.mem_singleton.1 h1]; exact hr
def addIf (o : List Rg) (x y : Rg) : List Rg := if max x.low y.low ≤ min x.high y.high then addR o ⟨max x.low y.low, min x.high y.high⟩ else o
def commonL : Nat → List Rg → List Rg → List Rg → List Rg
 | n + 1, o, x :: a, y :: b => if x.high < y.high then commonL n (addIf o x y) a (y :: b) else commonL n (addIf o x y) (x :: a) b
 | _, o, _, _ => o
def commonV (a b : List Rg) : List Rg := commonL (a.length + b.length) [] a b
theorem common_next {a b o : List Rg} {i k : Nat} (hi : i < a.length) (hk : k < b.length) : commonL (a.length - i + (b.length - k)) o (a.drop i) (b.drop k) = if (ix a i).high < (ix b k).high then commonL (a.length - (i + 1) + (b.length - k)) (addIf o (ix a i) (ix b k)) (a.drop (i + 1)) (b.drop k) else commonL (a.length - i + (b.length - (k + 1))) (addIf o (ix a i) (ix b k)) (a.drop i) (b.drop (k + 1)) := by
 rw [drop_ix hi, drop_ix hk, show a.length - i + (b.length - k) = (a.length - (i + 1) + (b.length - k)) + 1 by omega]
 simp only [commonL]
 rw [show a.length - i + (b.length - (k + 1)) = a.length - (i + 1) + (b.length - k) by omega]
theorem common_stop {o a b : List Rg} {n : Nat} (h : a = [] ∨ b = []) : commonL n o a b = o := by
 rcases h with rfl | rfl
 ·cases n <;> rfl
 ·cases n <;> cases a <;> rfl
theorem common_len : ∀ {n : Nat} {o a b : List Rg}, (commonL n o a b).length ≤ o.length + (a.length + b.length - 1) := by
 intro n
 induction n with
 | zero => intro o a b; simp only [commonL]; omega
 | succ n ih =>
  intro o a b
  have hadd : ∀ x y, (addIf o x y).length ≤ o.length + 1 := fun x y => by
   unfold addIf
   split
   ·exact addR_len
   ·omega
  cases a with
  | nil => simp only [commonL]; omega
  | cons x a =>
   cases b with
   | nil => simp only [commonL]; omega
   | cons y b =>
    simp only [commonL]
    have h1 := hadd x y
    split
    ·have := ih (o := addIf o x y) (a := a) (b := y :: b)
     simp only [List.length_cons] at *
     omega
    ·have := ih (o := addIf o x y) (a := x :: a) (b := b)
     simp only [List.length_cons] at *
     omega
def gapsL : Int → List Rg → List Rg → List Rg
 | f, gs, [] => if f ≤ 1000000000000000 then gs ++ [⟨f, 1000000000000000⟩] else gs
 | f, gs, r :: b => gapsL (r.high + 1) (if f < r.low then gs ++ [⟨f, r.low - 1⟩] else gs) b
def gapsV (b : List Rg) : List Rg := gapsL (-1000000000000000) [] b
def withoutV (a b : List Rg) : List Rg := commonV a (gapsV b)
theorem bd_snoc {gs : List Rg} {r : Rg} (h : ∀ q, q ∈ gs → bdR q) (hr : bdR r) : ∀ q, q ∈ gs ++ [r] → bdR q := fun q hq => by
 rcases List.mem_append.1 hq with h1 | h1
 ·exact h q h1
 ·rw [List.mem_singleton.1 h1]; exact hr
def arcR (low high by_ : Int) : List Rg := if max 0 (low + by_) ≤ min 3599 (high + by_) then [⟨max 0 (low + by_), min 3599 (high + by_)⟩] else []
def arcV (angle most : Int) : List Rg := if 3599 ≤ angle + most - (angle - most) then [⟨0, 3599⟩] else arcR (angle - most) (angle + most) (-3600) ++ (arcR (angle - most) (angle + most) 0 ++ arcR (angle - most) (angle + most) 3600)
def offR (s : List Rg) (r : Rg) : List Rg := withoutV s [r]
def freeS (x : TrkV) (e : Int) (most : Int) (s : List Rg) (h : Hol) : List Rg :=
 if x.worst.side = 0 ∨ countsV x.year h x.worst = false ∨ levelV x.worst h e = false then s else (arcV h.angle most).foldl offR s
def nearV (u : Tru) : Int := (3600 * u.side - 1).tdiv u.girth
def freeV (x : TrkV) (e : Int) : List Rg := x.t.holes.foldl (freeS x e (nearV x.worst)) [⟨0, 3599⟩]
def arcsFrom (low high : Int) : Nat → List Rg
 | 0 => arcR low high (-3600) ++ (arcR low high 0 ++ arcR low high 3600)
 | 1 => arcR low high 0 ++ arcR low high 3600
 | 2 => arcR low high 3600
 | _ => []
theorem arcs_step {low high : Int} {i : Nat} (h : i < 3) : arcsFrom low high i = arcR low high (ix [-3600, 0, 3600] i) ++ arcsFrom low high (i + 1) := by
 match i, h with
 | 0, _ => rfl
 | 1, _ => rfl
 | 2, _ => simp [arcsFrom, ix]
theorem by_bd (i : Nat) : -3600 ≤ ix [(-3600 : Int), 0, 3600] i ∧ ix [(-3600 : Int), 0, 3600] i ≤ 3600 := by
 match i with
 | 0 => simp [ix]
 | 1 => simp [ix]
 | 2 => simp [ix]
 | n + 3 => simp [ix]
structure FreeOk (s : List Rg) (n : Nat) : Prop where
 len : s.length ≤ n
 ok : ∀ r, r ∈ s → 0 ≤ r.low ∧ r.low ≤ r.high ∧ r.high ≤ 3599
 sep : s.Pairwise fun p q => p.high + 1 < q.low
def lowP (x r : Rg) : List Rg := if x.low ≤ min x.high (r.low - 1) then [⟨x.low, min x.high (r.low - 1)⟩] else []
def highP (x r : Rg) : List Rg := if max x.low (r.high + 1) ≤ x.high then [⟨max x.low (r.high + 1), x.high⟩] else []
def splitL (s : List Rg) (r : Rg) : List Rg := s.flatMap fun x => lowP x r ++ highP x r
theorem FreeOk.set {s : List Rg} {n : Nat} (h : FreeOk s n) (hn : n ≤ 200) : SetOk s := by
 refine ⟨Nat.le_trans h.len hn, fun r hr => ?_, fun i h1 h2 => ?_⟩
 ·have := h.ok r hr
  unfold bdR
  omega
 ·have := List.pairwise_iff_getElem.1 h.sep (i - 1) i (by omega) h2 (by omega)
  have e : ∀ j, (hj : j < s.length) → ix s j = s[j] := fun j hj => by
   unfold ix
   rw [List.getD_eq_getElem?_getD, List.getElem?_eq_getElem hj]
   rfl
  rw [e (i - 1) (by omega), e i h2]
  exact this
theorem FreeOk.mono {s : List Rg} {n m : Nat} (h : FreeOk s n) (hm : n ≤ m) : FreeOk s m := ⟨Nat.le_trans h.len hm, h.ok, h.sep⟩
theorem one_set {r : Rg} (h : 0 ≤ r.low ∧ r.low ≤ r.high ∧ r.high ≤ 3599) : SetOk [r] := by
 refine ⟨by simp, fun q hq => ?_, fun i h1 h2 => by simp at h2; omega⟩
 rw [List.mem_singleton.1 hq]
 unfold bdR
 omega
theorem gaps_one {r : Rg} (h : 0 ≤ r.low ∧ r.low ≤ r.high ∧ r.high ≤ 3599) : gapsV [r] = [⟨-1000000000000000, r.low - 1⟩, ⟨r.high + 1, 1000000000000000⟩] := by
 unfold gapsV
 simp only [gapsL]
 rw [if_pos (by omega), if_pos (by omega)]
 rfl
theorem off_len {s : List Rg} {n : Nat} {r : Rg} (hs : s.length ≤ n) (h : 0 ≤ r.low ∧ r.low ≤ r.high ∧ r.high ≤ 3599) : (withoutV s [r]).length ≤ n + 1 := by
 unfold withoutV commonV
 rw [gaps_one h]
 have := common_len (n := s.length + [(⟨-1000000000000000, r.low - 1⟩ : Rg), ⟨r.high + 1, 1000000000000000⟩].length) (o := []) (a := s) (b := [⟨-1000000000000000, r.low - 1⟩, ⟨r.high + 1, 1000000000000000⟩])
 simp only [List.length_cons, List.length_nil] at *
 omega
theorem addR_app {o : List Rg} {r : Rg} (h : ∀ q, q ∈ o → q.high + 1 < r.low) : addR o r = o ++ [r] := by
 unfold addR
 rw [if_neg]
 rintro ⟨h1, h2⟩
 have := h _ (ix_mem (l := o) (i := o.length - 1) (by omega))
 omega
theorem common_two {r : Rg} : ∀ {s : List Rg} {o : List Rg} {n : Nat}, s.length + 1 ≤ n → (∀ x, x ∈ s → x.low ≤ x.high ∧ x.high < 1000000000000000) → s.Pairwise (fun p q => p.high + 1 < q.low) → (∀ q, q ∈ o → ∀ x, x ∈ s → q.high + 1 < max x.low (r.high + 1)) → commonL n o s [⟨r.high + 1, 1000000000000000⟩] = o ++ s.flatMap fun x => highP x r := by
 intro s
 induction s with
 | nil => intro o n _ _ _ _; rw [common_stop (.inl rfl)]; simp
 | cons x s ih =>
  intro o n hn hok hsep hq
  obtain ⟨m, rfl⟩ : ∃ m, n = m + 1 := ⟨n - 1, by simp at hn; omega⟩
  have hx := hok x List.mem_cons_self
  simp only [commonL]
  rw [if_pos hx.2]
  have hadd : addIf o x ⟨r.high + 1, 1000000000000000⟩ = o ++ highP x r := by
   unfold addIf highP
   simp only [Int.min_eq_left (show x.high ≤ 1000000000000000 by omega)]
   split
   ·rw [addR_app fun q h => hq q h x List.mem_cons_self]
   ·simp
  rw [hadd, ih (by simp at hn; omega) (fun y hy => hok y (List.mem_cons_of_mem _ hy)) (List.pairwise_cons.1 hsep).2 ?_, List.flatMap_cons, List.append_assoc]
  intro q h y hy
  rcases List.mem_append.1 h with h | h
  ·exact hq q h y (List.mem_cons_of_mem _ hy)
  ·unfold highP at h
   split at h
   ·rw [List.mem_singleton.1 h]
    have := (List.pairwise_cons.1 hsep).1 y hy
    simp only
    omega
   ·cases h
theorem common_split {r : Rg} (hr : r.low ≤ r.high) : ∀ {s : List Rg} {o : List Rg} {n : Nat}, s.length + 2 ≤ n → (∀ x, x ∈ s → -1000000000000000 < x.low ∧ x.low ≤ x.high ∧ x.high < 1000000000000000) → s.Pairwise (fun p q => p.high + 1 < q.low) → (∀ q, q ∈ o → ∀ x, x ∈ s → q.high + 1 < x.low) → commonL n o s [⟨-1000000000000000, r.low - 1⟩, ⟨r.high + 1, 1000000000000000⟩] = o ++ splitL s r := by
 intro s
 induction s with
 | nil => intro o n _ _ _ _; rw [common_stop (.inl rfl)]; simp [splitL]
 | cons x s ih =>
  intro o n hn hok hsep hq
  obtain ⟨m, rfl⟩ : ∃ m, n = m + 1 := ⟨n - 1, by simp at hn; omega⟩
  have hx := hok x List.mem_cons_self
  have hsep' := List.pairwise_cons.1 hsep
  simp only [commonL]
  have hadd : addIf o x ⟨-1000000000000000, r.low - 1⟩ = o ++ lowP x r := by
   unfold addIf lowP
   simp only [Int.max_eq_left (show (-1000000000000000 : Int) ≤ x.low by omega)]
   split
   ·exact addR_app fun q h => hq q h x List.mem_cons_self
   ·simp
  rw [hadd]
  unfold splitL at ih ⊢
  split
  ·rename_i hlt
   have hh : highP x r = [] := by
    unfold highP
    rw [if_neg (by omega)]
   rw [ih (by simp at hn; omega) (fun y hy => hok y (List.mem_cons_of_mem _ hy)) hsep'.2 ?_, List.flatMap_cons, hh, List.append_nil, List.append_assoc]
   intro q h y hy
   have hxy := hsep'.1 y hy
   rcases List.mem_append.1 h with h | h
   ·exact hq q h y (List.mem_cons_of_mem _ hy)
   ·unfold lowP at h
    split at h
    ·rw [List.mem_singleton.1 h]
     simp only
     omega
    ·cases h
  ·rename_i hlt
   rw [common_two (s := x :: s) (by simp at hn ⊢; omega) (fun y hy => (hok y hy).2) hsep ?_]
   ·have : s.flatMap (fun x => lowP x r ++ highP x r) = s.flatMap fun x => highP x r := by
     rw [List.flatMap_def, List.flatMap_def]
     refine congrArg List.flatten (List.map_congr_left ?_)
     intro y hy
     have hxy := hsep'.1 y hy
     have hl : lowP y r = [] := by
      unfold lowP
      rw [if_neg (by omega)]
     rw [hl, List.nil_append]
    rw [List.flatMap_cons, List.flatMap_cons, this, List.append_assoc, List.append_assoc]
   ·intro q h y hy
    have hyl : x.low ≤ y.low := by
     rcases List.mem_cons.1 hy with rfl | hy
     ·exact Int.le_refl _
     ·have := hsep'.1 y hy; omega
    rcases List.mem_append.1 h with h | h
    ·have := hq q h x List.mem_cons_self
     omega
    ·unfold lowP at h
     split at h
     ·rw [List.mem_singleton.1 h]
      simp only
      omega
     ·cases h
theorem off_split {s : List Rg} {n : Nat} {r : Rg} (hs : FreeOk s n) (h : 0 ≤ r.low ∧ r.low ≤ r.high ∧ r.high ≤ 3599) : offR s r = splitL s r := by
 unfold offR withoutV commonV
 rw [gaps_one h, common_split h.2.1 (by simp) (fun x hx => by have := hs.ok x hx; omega) hs.sep (fun q hq => by cases hq)]
 rfl
theorem mem_lowP {x r q : Rg} (h : q ∈ lowP x r) : q.low = x.low ∧ q.high ≤ x.high ∧ q.high < r.low ∧ q.low ≤ q.high := by
 unfold lowP at h
 split at h
 ·have e := List.mem_singleton.1 h
  have e1 : q.low = x.low := by rw [e]
  have e2 : q.high = min x.high (r.low - 1) := by rw [e]
  omega
 ·cases h
theorem mem_highP {x r q : Rg} (h : q ∈ highP x r) : x.low ≤ q.low ∧ r.high < q.low ∧ q.high = x.high ∧ q.low ≤ q.high := by
 unfold highP at h
 split at h
 ·have e := List.mem_singleton.1 h
  have e1 : q.low = max x.low (r.high + 1) := by rw [e]
  have e2 : q.high = x.high := by rw [e]
  omega
 ·cases h
theorem off_ok {s : List Rg} {n : Nat} {r : Rg} (hs : FreeOk s n) (h : 0 ≤ r.low ∧ r.low ≤ r.high ∧ r.high ≤ 3599) : FreeOk (offR s r) (n + 1) := by
 have hm : ∀ {x q}, q ∈ lowP x r ++ highP x r → x.low ≤ q.low ∧ q.high ≤ x.high ∧ q.low ≤ q.high := fun {x q} hq => by
  rcases List.mem_append.1 hq with hq | hq
  ·have := mem_lowP hq; omega
  ·have := mem_highP hq; omega
 refine ⟨off_len hs.len h, fun q hq => ?_, ?_⟩
 ·rw [off_split hs h] at hq
  obtain ⟨x, hx, hq⟩ := List.mem_flatMap.1 hq
  have h1 := hs.ok x hx
  have h2 := hm hq
  omega
 ·rw [off_split hs h]
  unfold splitL
  rw [List.pairwise_flatMap]
  refine ⟨fun x hx => ?_, hs.sep.imp fun {x y} hxy p hp q hq => ?_⟩
  ·rw [List.pairwise_append]
   refine ⟨?_, ?_, fun p hp q hq => ?_⟩
   ·unfold lowP
    split <;> simp
   ·unfold highP
    split <;> simp
   ·have h1 := mem_lowP hp
    have h2 := mem_highP hq
    omega
  ·have h1 := hm hp
   have h2 := hm hq
   omega
theorem arcR_ok {low high by_ : Int} {r : Rg} (h : r ∈ arcR low high by_) : 0 ≤ r.low ∧ r.low ≤ r.high ∧ r.high ≤ 3599 := by
 unfold arcR at h
 split at h
 ·rw [List.mem_singleton.1 h]
  simp only
  omega
 ·cases h
theorem near_bd {u : Tru} (h : TruOk u) : -1 ≤ nearV u ∧ nearV u ≤ 18000000 := by
 have h1 := h.girth
 have h2 := h.side
 unfold nearV
 by_cases h0 : u.side = 0
 ·rw [h0]
  have e : ((3600 * 0 - 1 : Int)).tdiv u.girth = -(1 / u.girth) := by
   rw [show (3600 * 0 - 1 : Int) = -1 by omega, Int.neg_tdiv, Int.tdiv_eq_ediv_of_nonneg (by omega)]
  rw [e]
  have h3 : 0 ≤ 1 / u.girth := Int.ediv_nonneg (by omega) (by omega)
  have h4 : 1 / u.girth ≤ 1 := Int.ediv_le_self _ (by omega)
  omega
 ·rw [Int.tdiv_eq_ediv_of_nonneg (by omega)]
  have h3 : 0 ≤ (3600 * u.side - 1) / u.girth := Int.ediv_nonneg (by omega) (by omega)
  have h4 : (3600 * u.side - 1) / u.girth ≤ 3600 * u.side - 1 := Int.ediv_le_self _ (by omega)
  omega
def blocksE (t : TreeV) (r : RuleV) (y : Int) (s : Spt) : Int := if startE t r y ≠ 0 then startE t r y else if spotsB [s] then 0 else 3
def blocksL (t : TreeV) (r : RuleV) (y : Int) (s : Spt) (sure : Bool) : List Int := if blocksE t r y s = 0 then byV (openV t r y) s (if sure then (openV t r y).best else (openV t r y).worst) else []
def atE (t : TreeV) (r : RuleV) (y e : Int) : Int := if startE t r y ≠ 0 then startE t r y else if within 0 5000 [e] then 0 else 3
theorem spots1 {s : Spt} (h : spotsB [s] = true) : (0 ≤ s.angle ∧ s.angle ≤ 3599) ∧ (0 ≤ s.height ∧ s.height ≤ 5000) := spotsB_iff.1 h s (by simp)
theorem free_arc {x : TrkV} {e m : Int} {s : List Rg} {h : Hol} (h1 : x.worst.side ≠ 0) (h2 : countsV x.year h x.worst = true) (h3 : levelV x.worst h e = true) : freeS x e m s h = (arcV h.angle m).foldl offR s := by
 unfold freeS
 rw [if_neg]
 rintro (h | h | h)
 ·exact h1 h
 ·rw [h2] at h; cases h
 ·rw [h3] at h; cases h
theorem free_no {x : TrkV} {e m : Int} {s : List Rg} {h : Hol} (h1 : x.worst.side = 0 ∨ countsV x.year h x.worst = false ∨ levelV x.worst h e = false) : freeS x e m s h = s := by
 unfold freeS
 rw [if_pos h1]
theorem arc_all {a m : Int} (h : 3599 ≤ a + m - (a - m)) : arcV a m = [⟨0, 3599⟩] := by unfold arcV; rw [if_pos h]
theorem arc_from {a m : Int} (h : ¬ 3599 ≤ a + m - (a - m)) : arcV a m = arcsFrom (a - m) (a + m) 0 := by unfold arcV; rw [if_neg h]; rfl
theorem first_ok : FreeOk [⟨0, 3599⟩] 1 := ⟨by simp, fun r hr => by rw [List.mem_singleton.1 hr]; decide, by simp⟩
def gapV (x : TrkV) : Int := (3600 * x.r.apart + x.worst.girth - 1) / x.worst.girth
theorem gap_bd {x : TrkV} (h : TrkOk x) : 1 ≤ gapV x ∧ gapV x ≤ 18000000 := by
 have h1 := h.worst.girth
 have h2 := h.r.apart
 unfold gapV
 have h3 : 1 ≤ (3600 * x.r.apart + x.worst.girth - 1) / x.worst.girth := (Int.le_ediv_iff_mul_le (by omega)).2 (by omega)
 have h4 : (3600 * x.r.apart + x.worst.girth - 1) / x.worst.girth ≤ 18000000 := by
  have : (3600 * x.r.apart + x.worst.girth - 1) / x.worst.girth < 18000001 := (Int.ediv_lt_iff_lt_mul (by omega)).2 (by omega)
  omega
 exact ⟨h3, h4⟩
def inS (s : List Rg) (a : Int) : Bool := s.any fun r => decide (r.low ≤ a) && decide (a ≤ r.high)
def roomB (x : TrkV) (e : Int) (a : Int) : Bool := within x.r.blo x.r.bhi [e] && inS (freeV x e) a
def nextL (p : Int → Bool) : Nat → Int → Int
 | 0, _ => 7200
 | k + 1, a => if p a then a else nextL p k (a + 1)
def nextV (x : TrkV) (e : Int) (i : Nat) : Int := if i < 3600 then nextL (roomB x e) (3600 - i) i else 7200
theorem free_no1 {x : TrkV} {e m : Int} {s : List Rg} {h : Hol} (h1 : x.worst.side = 0) : freeS x e m s h = s := free_no (.inl h1)
theorem free_no2 {x : TrkV} {e m : Int} {s : List Rg} {h : Hol} (h1 : (!countsV x.year h x.worst) = true) : freeS x e m s h = s := free_no (.inr (.inl (by simpa using h1)))
theorem free_no3 {x : TrkV} {e m : Int} {s : List Rg} {h : Hol} (h1 : (!levelV x.worst h e) = true) : freeS x e m s h = s := free_no (.inr (.inr (by simpa using h1)))
theorem free_arc2 {x : TrkV} {e m : Int} {s : List Rg} {h : Hol} (h1 : x.worst.side ≠ 0) (h2 : (!countsV x.year h x.worst) = false) (h3 : (!levelV x.worst h e) = false) : freeS x e m s h = (arcV h.angle m).foldl offR s := free_arc h1 (by simpa using h2) (by simpa using h3)
theorem free_all {x : TrkV} {e m : Int} {s : List Rg} {h : Hol} (h1 : x.worst.side ≠ 0) (h2 : (!countsV x.year h x.worst) = false) (h3 : (!levelV x.worst h e) = false) (h4 : 3599 ≤ h.angle + m - (h.angle - m)) : freeS x e m s h = withoutV s [⟨0, 3599⟩] := by
 rw [free_arc2 h1 h2 h3, arc_all h4]
 rfl
theorem arcs_end {l h : Int} {j : Nat} (hj : 3 ≤ j) : arcsFrom l h j = [] := by
 obtain ⟨k, rfl⟩ : ∃ k, j = k + 3 := ⟨j - 3, by omega⟩
 rfl
theorem setn_of {s : List Rg} {n : Nat} {r : Rg} (hs : FreeOk s n) (h : 0 ≤ r.low ∧ r.low ≤ r.high ∧ r.high ≤ 3599) (hn : n + 1 ≤ 200) : (withoutV s [r]).length ≤ 200 := Nat.le_trans (off_len hs.len h) hn
end Go.Proofs.Ytbpblhmigijkaaa
