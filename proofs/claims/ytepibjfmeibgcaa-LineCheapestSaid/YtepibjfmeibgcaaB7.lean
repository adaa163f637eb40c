/- An abstract walk: a contract that only reads, told of values. -/
import Derived.Test.YtepibjfmeibgcaaB3
import Derived.Test.YtepibjfmeibgcaaSj
import Derived.Test.YtepibjfmeibgcaaM1
import Derived.Test.YtepibjfmeibgcaaRc
import Derived.Laws.Cover3
namespace Go.Proofs.Ytepibjfmeibgcaa
open Go.RowKit
set_option linter.unusedVariables false
/-- Lists that are read, held by values. -/
def AllRo (ν : Nat → Value) (w : World) : List Nat → List (Option Cn) → Prop
  | id :: ids, some c :: cs => (c.owned = false ∧ c.holds ν w (fun b => 0 ≤ b ∧ b < w.heap.size) (ν id)) ∧ AllRo ν w ids cs
  | [], [] => True
  | _, _ => False
theorem AllRo.at_ {ν : Nat → Value} {w : World} {id : Nat} {c : Cn} : ∀ {ids : List Nat} {cs : List (Option Cn)}, AllRo ν w ids cs → cnOf ids cs id = some c → c.owned = false ∧ c.holds ν w (fun b => 0 ≤ b ∧ b < w.heap.size) (ν id) := by
  intro ids
  induction ids with
  | nil => intro cs _ h; cases h
  | cons i ids ih =>
    intro cs h e
    match cs, h with
    | some d :: cs, h =>
      unfold AllRo at h
      unfold cnOf at e
      rw [List.zip_cons_cons] at e
      unfold look at e
      cases hb : Nat.beq i id with
      | true =>
        simp only [hb] at e
        cases e
        rw [← Nat.eq_of_beq_eq_true hb]
        exact h.1
      | false =>
        simp only [hb] at e
        exact ih h.2 (by unfold cnOf; exact e)
theorem calls_of_fr {P : Program} {f : FuncId} {xs : List SV} {ids : List Nat} {cs : List (Option Cn)} {res : SV} (h : CallFr P f xs ids cs res []) (ν : Nat → Value) (w : World) (hone : ∀ id, (ν id).oneCell' = true) (hc : AllRo ν w ids cs) :
    Calls P f (xs.map (SV.val ν)).toArray w fun e w' => (∃ ν', e = .returned (res.val ν')) ∧ Below w.heap.size w w' :=
  (h ν (fun _ b => 0 ≤ b ∧ b < w.heap.size) w
    { one := hone
      cont := fun id c e => (hc.at_ e).2
      supLt := fun id c _ b hb => hb.2
      ownSup := fun id c e ho => by rw [(hc.at_ e).1] at ho; cases ho
      ownOwn := fun id c e ho => by rw [(hc.at_ e).1] at ho; cases ho }).mono fun e w' ⟨ν', sup', hch, _, he⟩ =>
    ⟨⟨ν', he⟩, hch.fr.toBelow fun k ⟨_, _, hm, _⟩ => by cases hm⟩
/-- Values by number, from 1. -/
def nuL (vs : List Value) (id : Nat) : Value := vs.getD (id - 1) (.bool false)
theorem nuL_one {vs : List Value} (h : ∀ v ∈ vs, v.oneCell' = true) (id : Nat) : (nuL vs id).oneCell' = true := by
  unfold nuL
  rw [List.getD_eq_getElem?_getD]
  rcases Nat.lt_or_ge (id - 1) vs.length with h1 | h1
  · rw [List.getElem?_eq_getElem h1]; exact h _ (List.getElem_mem _)
  · rw [List.getElem?_eq_none h1]; rfl
theorem he8 (x : Int) : eU8 x = (enc8 x).map DV.v := rfl
section
variable {w : World} {ν : Nat → Value} {A : Option Addr} {c n : Nat}
theorem ro_P {xs : List Pipe} (hn : n = xs.length) (hc : xs.length ≤ c) (h : RdP w 0 w.heap.size A xs) : (Cn.ro 5 n (Lst eP xs)).owned = false ∧ (Cn.ro 5 n (Lst eP xs)).holds ν w (fun b => 0 ≤ b ∧ b < w.heap.size) (.slice A n c) :=
  ⟨rfl, rep_of_rd heP (fun _ => rfl) (fun x u hu => by simp [encP] at hu; rcases hu with rfl | rfl | rfl | rfl | rfl <;> rfl) hn hc h⟩
theorem ro_R {xs : List Rng} (hn : n = xs.length) (hc : xs.length ≤ c) (h : RdR w 0 w.heap.size A xs) : (Cn.ro 2 n (Lst eR xs)).owned = false ∧ (Cn.ro 2 n (Lst eR xs)).holds ν w (fun b => 0 ≤ b ∧ b < w.heap.size) (.slice A n c) :=
  ⟨rfl, rep_of_rd heR (fun _ => rfl) (fun x u hu => by simp [encR] at hu; rcases hu with rfl | rfl <;> rfl) hn hc h⟩
theorem ro_I {xs : List Int} (hn : n = xs.length) (hc : xs.length ≤ c) (h : RdI w 0 w.heap.size A xs) : (Cn.ro 1 n (Lst eI xs)).owned = false ∧ (Cn.ro 1 n (Lst eI xs)).holds ν w (fun b => 0 ≤ b ∧ b < w.heap.size) (.slice A n c) :=
  ⟨rfl, rep_of_rd heI (fun _ => rfl) (fun x u hu => by simp [encI] at hu; subst hu; rfl) hn hc h⟩
theorem ro_U {xs : List Int} (hn : n = xs.length) (hc : xs.length ≤ c) (h : RdU w 0 w.heap.size A xs) : (Cn.ro 1 n (Lst eU16 xs)).owned = false ∧ (Cn.ro 1 n (Lst eU16 xs)).holds ν w (fun b => 0 ≤ b ∧ b < w.heap.size) (.slice A n c) :=
  ⟨rfl, rep_of_rd he16 (fun _ => rfl) (fun x u hu => by simp [encU] at hu; subst hu; rfl) hn hc h⟩
theorem ro_8 {xs : List Int} (hn : n = xs.length) (hc : xs.length ≤ c) (h : Rd8 w 0 w.heap.size A xs) : (Cn.ro 1 n (Lst eU8 xs)).owned = false ∧ (Cn.ro 1 n (Lst eU8 xs)).holds ν w (fun b => 0 ≤ b ∧ b < w.heap.size) (.slice A n c) :=
  ⟨rfl, rep_of_rd he8 (fun _ => rfl) (fun x u hu => by simp [enc8] at hu; subst hu; rfl) hn hc h⟩
end
end Go.Proofs.Ytepibjfmeibgcaa
/- An abstract walk: ways, heights and distances; bools compared. -/
namespace Go.Proofs.Ytepibjfmeibgcaa
open Go.RowKit
set_option linter.unusedVariables false
theorem bin_neq_bool {xo yo : Operand} (a b : Bool) {r : Bool} (h : (a != b) = r) : BinRun Try.prog .neq 4 xo yo (.bool a) (.bool b) (.bool r) := by
  subst h
  intro w
  cases a <;> cases b <;> kernel_rfl
theorem bin_eql_bool {xo yo : Operand} (a b : Bool) {r : Bool} (h : (a == b) = r) : BinRun Try.prog .eql 4 xo yo (.bool a) (.bool b) (.bool r) := by
  subst h
  intro w
  cases a <;> cases b <;> kernel_rfl
theorem rep_I {w : World} {lo c : Nat} {A : Option Addr} {xs : List Int} (hc : xs.length ≤ c) (h : RdI w lo w.heap.size A xs) : (DV.ls 1 xs.length (Lst eI xs)).rep w (fun b => lo ≤ b ∧ b < w.heap.size) (.slice A xs.length c) :=
  rep_of_rd heI (fun _ => rfl) (fun x u hu => by simp [encI] at hu; subst hu; rfl) rfl hc h
section
variable (n : Net) (hok : netB n = true)
include hok
theorem Way_T (i : Int) (h0 : 0 ≤ i) (h1 : i < n.pipes.length) : CallFr Try.prog 25 [.agg [.i n.pump, .ls 1], .i i] [1] [some (.ro 5 n.pipes.length (Lst eP n.pipes))] (.tup [.one (.ls 4), .one (.i 0)]) [(4, some (.ro 1 (wayL n.pipes i).length (Lst eI (wayL n.pipes i))))] :=
  callFr_ro rfl fun ν sup w m => by
    obtain ⟨A, c, e, h2, h3⟩ := mP m (i := 1) rfl
    simp only [List.map_cons, List.map_nil, SV.val, PV.val, LV.val, e]
    have hl := netB_len hok
    have hv : WayV n i = (wayL n.pipes i, 0) := by unfold WayV; rw [hok, if_pos rfl, inB_mk ⟨h0, by omega⟩, if_pos rfl]
    refine (WayC n A c w 0 _ h3 (Nat.le_refl _) h2 (by unfold maxLen; omega) i).mono fun e w' h => by
      obtain ⟨⟨B, d, h4, h5, h6⟩, h7⟩ := h
      rw [hv] at h4 h5 h6
      exact ⟨⟨_, by rw [h4, upd_self], rep_I h5 h6⟩, h7⟩
theorem Behind_T (i : Int) (h0 : 0 ≤ i) (h1 : i < n.pipes.length) : CallFr Try.prog 44 [.agg [.i n.pump, .ls 1], .i i] [1] [some (.ro 5 n.pipes.length (Lst eP n.pipes))] (.tup [.one (.ls 4), .one (.i 0)]) [(4, some (.ro 1 (trues (behL n.pipes i) 0).length (Lst eI (trues (behL n.pipes i) 0))))] :=
  callFr_ro rfl fun ν sup w m => by
    obtain ⟨A, c, e, h2, h3⟩ := mP m (i := 1) rfl
    simp only [List.map_cons, List.map_nil, SV.val, PV.val, LV.val, e]
    have hl := netB_len hok
    have hv : BehindV n i = (trues (behL n.pipes i) 0, 0) := by unfold BehindV; rw [hok, if_pos rfl, inB_mk ⟨h0, by omega⟩, if_pos rfl]
    refine (BehindC n A c w 0 _ h3 (Nat.le_refl _) h2 (by unfold maxLen; omega) i).mono fun e w' h => by
      obtain ⟨⟨B, d, h4, h5, h6⟩, h7⟩ := h
      rw [hv] at h4 h5 h6
      exact ⟨⟨_, by rw [h4, upd_self], rep_I h5 h6⟩, h7⟩
theorem Heights_T : CallFr Try.prog 30 [.agg [.i n.pump, .ls 1]] [1] [some (.ro 5 n.pipes.length (Lst eP n.pipes))] (.tup [.one (.ls 4), .one (.i 0)]) [(4, some (.ro 1 (heightsL n.pipes).length (Lst eI (heightsL n.pipes))))] :=
  callFr_ro rfl fun ν sup w m => by
    obtain ⟨A, c, e, h2, h3⟩ := mP m (i := 1) rfl
    simp only [List.map_cons, List.map_nil, SV.val, PV.val, LV.val, e]
    have hl := netB_len hok
    have hv : HeightsV n = (heightsL n.pipes, 0) := by unfold HeightsV; rw [hok, if_pos rfl]
    refine (HeightsC n A c w 0 _ h3 (Nat.le_refl _) h2 (by unfold maxLen; omega)).mono fun e w' h => by
      obtain ⟨⟨B, d, h4, h5, h6⟩, h7⟩ := h
      rw [hv] at h4 h5 h6
      exact ⟨⟨_, by rw [h4, upd_self], rep_I h5 h6⟩, h7⟩
theorem Between_T (a b : Int) (a0 : 0 ≤ a) (a1 : a < n.pipes.length) (b0 : 0 ≤ b) (b1 : b < n.pipes.length) : CallFr Try.prog 45 [.agg [.i n.pump, .ls 1], .i a, .i b] [1] [some (.ro 5 n.pipes.length (Lst eP n.pipes))] (.tup [.one (.i (dB n.pipes a b)), .one (.i 0)]) [] :=
  callFr_val fun ν sup w m => by
    obtain ⟨A, c, e, h2, h3⟩ := mP m (i := 1) rfl
    simp only [List.map_cons, List.map_nil, SV.val, PV.val, LV.val, e]
    have hl := netB_len hok
    have hv : BetweenV n a b = (dB n.pipes a b, 0) := by
      unfold BetweenV
      rw [hok, if_pos rfl, show inAll 0 ((n.pipes.length : Int) - 1) [a, b] = true by unfold inAll; simp [inB_mk (show (0 : Int) ≤ a ∧ a ≤ (n.pipes.length : Int) - 1 by omega), inB_mk (show (0 : Int) ≤ b ∧ b ≤ (n.pipes.length : Int) - 1 by omega)], if_pos rfl, betL_dB (netB_tree hok) a0 b0 a1 b1]
    refine (BetweenC n A c w 0 _ h3 (Nat.le_refl _) h2 (by unfold maxLen; omega) a b).mono fun e w' ⟨h4, h7⟩ => ⟨?_, h7⟩
    rw [h4, hv]
end
end Go.Proofs.Ytepibjfmeibgcaa
/- An abstract walk: tubing opened, what is behind a node; maps at calls. -/
namespace Go.Proofs.Ytepibjfmeibgcaa
open Go.RowKit
set_option linter.unusedVariables false
theorem le_mpI {P : Program} {k : TypeId} {ρ : List (Nat × Nat)} {n n' : Nat} {f f' : Int → Option Int} (hn : n ≤ n') (hf : ∀ x, f x = f' x) : CnLe ρ (.mp (MapI P k n f)) (.mp (MapI P k n' f')) := by
  intro o ⟨D, h1, h2⟩
  exact ⟨D, fun x => by rw [← hf x]; exact h1 x, fun w b hb => (h2 w b hb).mono hn⟩
theorem rep_B {w : World} {b lo : Nat} {t : TypeId} {xs : List Bool} (hlo : lo ≤ b) (h : Blk w b t (xs.map Value.bool).toArray) : (DV.ls 1 xs.length (Lst eB xs)).rep w (fun b => lo ≤ b ∧ b < w.heap.size) (.slice (some ⟨b, 0, none⟩) xs.length xs.length) := by
  refine ⟨_, _, rfl, Nat.le_refl _, fun _ => ⟨b, 0, rfl, ⟨hlo, h.lt⟩, fun i hi j hj => ?_⟩⟩
  obtain rfl : j = 0 := by omega
  refine ⟨Value.bool xs[i], ?_, ?_⟩
  · have := h.at_ (i := i) (x := xs[i]) (List.getElem?_eq_getElem hi)
    simpa using this
  · have : Lst eB xs i 0 = .v (Value.bool xs[i]) := by unfold Lst; rw [ix_eq hi]; rfl
    rw [this]; exact ⟨rfl, rfl⟩
section
variable (n : Net) (x : Int)
theorem open_bad_fr (hn : n.pipes.length ≤ maxLen) (hbad : netB n = false) : CallFr Try.prog 69 [.agg [.i n.pump, .ls 1], .ls 2] [1, 2] [some (.ro 5 n.pipes.length (Lst eP n.pipes)), some (.ro 1 1 (Lst eI [x]))] (.tup [.agg [.i 0, .v (.slice none 0 0)], .one (.i 2)]) [] :=
  callFr_val fun ν sup w m => by
    obtain ⟨A, c, e, h2, h3⟩ := mP m (i := 1) rfl
    obtain ⟨B, d, e2, h4, h5⟩ := mI m (i := 2) (xs := [x]) rfl
    simp only [List.map_cons, List.map_nil, SV.val, PV.val, LV.val, e, e2]
    exact open_arg n A B c d [x] w 0 _ h3 (Nat.le_refl _) h2 hn hbad
theorem open_none_fr (hok : netB n = true) (hx : inB 0 (n.pipes.length - 1) x = false) : CallFr Try.prog 69 [.agg [.i n.pump, .ls 1], .ls 2] [1, 2] [some (.ro 5 n.pipes.length (Lst eP n.pipes)), some (.ro 1 1 (Lst eI [x]))] (.tup [.agg [.i 0, .v (.slice none 0 0)], .one (.i 7)]) [] :=
  callFr_val fun ν sup w m => by
    obtain ⟨A, c, e, h2, h3⟩ := mP m (i := 1) rfl
    obtain ⟨B, d, e2, h4, h5⟩ := mI m (i := 2) (xs := [x]) rfl
    simp only [List.map_cons, List.map_nil, SV.val, PV.val, LV.val, e, e2]
    exact open_none n A B c d 0 _ [x] w 0 _ h3 (Nat.le_refl _) h2 h5 (Nat.le_refl _) (by unfold maxLen; simp) hok (by unfold inAll; simp [hx])
theorem open_ok_fr (hok : netB n = true) (hx : inB 0 (n.pipes.length - 1) x = true) : CallFr Try.prog 69 [.agg [.i n.pump, .ls 1], .ls 2] [1, 2] [some (.ro 5 n.pipes.length (Lst eP n.pipes)), some (.ro 1 1 (Lst eI [x]))] (.tup [.agg [.i n.pump, .ls 1], .one (.i 0)]) [] :=
  callFr_val fun ν sup w m => by
    obtain ⟨A, c, e, h2, h3⟩ := mP m (i := 1) rfl
    obtain ⟨B, d, e2, h4, h5⟩ := mI m (i := 2) (xs := [x]) rfl
    simp only [List.map_cons, List.map_nil, SV.val, PV.val, LV.val, e, e2]
    exact open_ok n A B c d 0 _ [x] w 0 _ h3 (Nat.le_refl _) h2 h5 (Nat.le_refl _) (by unfold maxLen; simp) hok (by unfold inAll; simp [hx])
theorem behind_fr (hok : netB n = true) (h0 : 0 ≤ x) : CallFr Try.prog 81 [.agg [.i n.pump, .ls 1], .i x] [1] [some (.ro 5 n.pipes.length (Lst eP n.pipes))] (.ls 4) [(4, some (.ro 1 n.pipes.length (Lst eB (behL n.pipes x))))] :=
  callFr_ro rfl fun ν sup w m => by
    obtain ⟨A, c, e, h2, h3⟩ := mP m (i := 1) rfl
    simp only [List.map_cons, List.map_nil, SV.val, PV.val, LV.val, e]
    have hl := netB_len hok
    refine (behind_ n.pump x A c n.pipes w 0 _ h3 (Nat.le_refl _) hl.2 hl.1 (netB_tree hok) h0).mono fun e w' ⟨h4, h5, h6⟩ => ⟨⟨.slice (some ⟨w.heap.size + 1, 0, none⟩) n.pipes.length n.pipes.length, by rw [h4, upd_self], ?_⟩, h6⟩
    have := rep_B (show w.heap.size ≤ w.heap.size + 1 by omega) h5
    rw [behL_len] at this
    exact this
end
end Go.Proofs.Ytepibjfmeibgcaa
/- An abstract walk: more contracts of another form, brought over. -/
namespace Go.Proofs.Ytepibjfmeibgcaa
open Go.RowKit
set_option linter.unusedVariables false
theorem alike_fr (a b : Net) (ha : a.pipes.length ≤ maxLen) (hb : b.pipes.length ≤ maxLen) : CallFr Try.prog 36 [.agg [.i a.pump, .ls 1], .agg [.i b.pump, .ls 2]] [1, 2] [some (.ro 5 a.pipes.length (Lst eP a.pipes)), some (.ro 5 b.pipes.length (Lst eP b.pipes))] (.b (alikeB a b)) [] :=
  callFr_val fun ν sup w m => by
    obtain ⟨A, c, e, h2, h3⟩ := mP m (i := 1) rfl
    obtain ⟨B, d, e2, h4, h5⟩ := mP m (i := 2) rfl
    simp only [List.map_cons, List.map_nil, SV.val, PV.val, LV.val, e, e2]
    exact alike_ A B c d 0 _ 0 _ a b w h3 (Nat.le_refl _) h5 (Nat.le_refl _) ha hb
theorem alike_nil (p q : Int) : CallFr Try.prog 36 [.agg [.i p, .v (.slice none 0 0)], .agg [.i q, .v (.slice none 0 0)]] [] [] (.b (alikeB ⟨p, []⟩ ⟨q, []⟩)) [] :=
  callFr_val fun ν sup w m => by
    simp only [List.map_cons, List.map_nil, SV.val, PV.val, LV.val]
    exact alike_ none none 0 0 0 0 0 0 ⟨p, []⟩ ⟨q, []⟩ w Rd.nil (Nat.zero_le _) Rd.nil (Nat.zero_le _) (Nat.zero_le _) (Nat.zero_le _)
theorem equal_fr (a b : List Int) (ha : a.length ≤ maxLen) (hb : b.length ≤ maxLen) : CallFr Try.prog 20 [.ls 1, .ls 2] [1, 2] [some (.ro 1 a.length (Lst eI a)), some (.ro 1 b.length (Lst eI b))] (.b (decide (a = b))) [] :=
  callFr_val fun ν sup w m => by
    obtain ⟨A, c, e, h2, h3⟩ := mI m (i := 1) rfl
    obtain ⟨B, d, e2, h4, h5⟩ := mI m (i := 2) rfl
    simp only [List.map_cons, List.map_nil, SV.val, PV.val, LV.val, e, e2]
    exact equal_ A B c d 0 _ 0 _ a b w h3 (Nat.le_refl _) h5 (Nat.le_refl _) ha hb
theorem refNet_fr (n : Net) (hn : n.pipes.length ≤ maxLen) : CallFr Try.prog 32 [.agg [.i n.pump, .ls 1]] [1] [some (.ro 5 n.pipes.length (Lst eP n.pipes))] (.b (netB n)) [] :=
  callFr_val fun ν sup w m => by
    obtain ⟨A, c, e, h2, h3⟩ := mP m (i := 1) rfl
    simp only [List.map_cons, List.map_nil, SV.val, PV.val, LV.val, e]
    exact refNet_ n A c w 0 _ h3 (Nat.le_refl _) hn
theorem refOn_fr (n : Net) (node k : Int) (hn : n.pipes.length ≤ 60) (ht : Tree n.pipes) (h0 : 0 ≤ k) (h1 : k < n.pipes.length) : CallFr Try.prog 82 [.agg [.i n.pump, .ls 1], .i node, .i k] [1] [some (.ro 5 n.pipes.length (Lst eP n.pipes))] (.b (onB n.pipes node k)) [] :=
  callFr_val fun ν sup w m => by
    obtain ⟨A, c, e, h2, h3⟩ := mP m (i := 1) rfl
    simp only [List.map_cons, List.map_nil, SV.val, PV.val, LV.val, e]
    exact refOn_ n node k A c w 0 _ h3 (Nat.le_refl _) hn ht h0 h1
theorem refIn_fr (n a b : Int) : CallFr Try.prog 74 [.i n, .i a, .i b] [] [] (.b (inB a b n)) [] :=
  callFr_val fun ν sup w m => by
    simp only [List.map_cons, List.map_nil, SV.val, PV.val, LV.val]
    exact (refIn_ n a b w).mono fun e w' ⟨h, h2⟩ => ⟨h, by subst h2; exact Below.refl _ _⟩
theorem check_fr (n : Net) (hn : n.pipes.length ≤ maxLen) : CallFr Try.prog 43 [.agg [.i n.pump, .ls 1]] [1] [some (.ro 5 n.pipes.length (Lst eP n.pipes))] (.i (chk n)) [] :=
  callFr_val fun ν sup w m => by
    obtain ⟨A, c, e, h2, h3⟩ := mP m (i := 1) rfl
    simp only [List.map_cons, List.map_nil, SV.val, PV.val, LV.val, e]
    exact check_ n A c w 0 _ h3 (Nat.le_refl _) h2 hn
theorem within_fr (lo hi x : Int) : CallFr Try.prog 61 [.i lo, .i hi, .ls 1] [1] [some (.ro 1 1 (Lst eI [x]))] (.b (inB lo hi x)) [] :=
  callFr_val fun ν sup w m => by
    obtain ⟨A, c, e, h2, h3⟩ := mI m (i := 1) (xs := [x]) rfl
    simp only [List.map_cons, List.map_nil, SV.val, PV.val, LV.val, e]
    refine (within_ lo hi A c 0 _ [x] w h3 (Nat.le_refl _) (by unfold maxLen; simp)).mono fun e w' ⟨h, o1, o2, h4⟩ => ⟨?_, ?_⟩
    · rw [h]; unfold inAll; simp
    · subst h4; exact ((Below.refl _ w).alloc (Nat.le_refl _) o1).alloc (by simp) o2
/-- A list that is not empty is not nil. -/
theorem act_nonil {P : Program} {t t' : TypeId} {u : TypeId} (hu : P.underlying t = some (.slice u)) {x : Operand} {ty : TypeId} {id size n : Nat} {el : Nat → Nat → DV} (hn : 0 < n) :
    ActOK P (.binOp .eql t x (.const (.slice none 0 0)) t') ty [.ls id, .v (.slice none 0 0)] [id] [some (.ro size n el)] (.b false) [] := by
  intro o a ν sup w ho hty hm hx K Q hK
  obtain ⟨A, c, e1, hc, hcell⟩ := hm.cont id _ cnOf_one
  obtain ⟨b, off, rfl, -, -⟩ := hcell hn
  have hx' : a.eval x = ν id := by simpa [Op.operands, SV.val, PV.val, LV.val] using (List.cons.inj hx).1
  rw [e1] at hx'
  refine wp_of_value (v := .bool false) (w' := w) ?_ (hK ν sup w (Chg.nil hm.one))
  have hq : a.eval (.const (.slice none 0 0)) = .slice none 0 0 := rfl
  unfold execOp
  rw [ho]
  simp [hx', hq, Go.binOp, eqGuard, run_equal_slice_nil w t u _ _ _ hu, Sem.run_bind, Result.andThen]
end Go.Proofs.Ytepibjfmeibgcaa
