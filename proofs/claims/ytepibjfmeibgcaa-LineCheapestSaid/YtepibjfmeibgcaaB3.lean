/- An abstract walk: contracts of another form, brought over. No program is in sight here. -/
import Derived.Test.YtepibjfmeibgcaaA25
import Derived.Test.YtepibjfmeibgcaaApp
import Derived.Test.YtepibjfmeibgcaaTp
import Derived.Test.YtepibjfmeibgcaaHa
import Derived.Test.YtepibjfmeibgcaaWk
namespace Go.Proofs.Ytepibjfmeibgcaa
open Go.RowKit
set_option linter.unusedVariables false
section
variable {P : Program} {f : FuncId} {xs : List SV} {ids : List Nat} {cs : List (Option Cn)} {res : SV}
theorem callFr_val (h : ∀ ν sup w, MW (cnOf ids cs) ν sup w → Calls P f (xs.map (SV.val ν)).toArray w fun e w' => e = .returned (res.val ν) ∧ Below w.heap.size w w') : CallFr P f xs ids cs res [] := fun ν sup w m =>
  (h ν sup w m).mono fun e w' ⟨h1, h2⟩ => ⟨ν, sup,
    { one := m.one, rest := fun _ _ => ⟨rfl, rfl⟩, same := fun _ h => (by cases h), fr := Fr.below h2 _, cont := fun _ _ h => (by cases h), sup := fun _ _ h => (by cases h), own := fun _ _ h => (by cases h), apart := fun _ _ h => (by cases h) },
    fun _ _ h => (by cases h), h1⟩
/-- The cells of a list that is told. -/
def FlatOk (flat : List Value) (n size : Nat) (el : Nat → Nat → DV) : Prop := ∀ i, i < n → ∀ j, j < size → ∃ x, flat[i * size + j]? = some x ∧ el i j = .v x ∧ x.oneCell' = true
theorem callFr_vec {i t size n : Nat} {el : Nat → Nat → DV} (hi : cnOf ids cs i = none) (hs : 0 < size) (h : ∀ ν sup w, MW (cnOf ids cs) ν sup w → Calls P f (xs.map (SV.val ν)).toArray w fun e w' => (∃ v flat, e = .returned (res.val (upd ν i v)) ∧ w'.ownsRow w.heap.size t size v n flat ∧ FlatOk flat n size el) ∧ Below w.heap.size w w') :
    CallFr P f xs ids cs res [(i, some (.vec t size n el))] := fun ν sup w m =>
  (h ν sup w m).mono fun e w' ⟨⟨v, flat, h1, h2, h3⟩, h4⟩ => by
    have h0 : w'.ownsRow 0 t size v n flat := by
      refine ⟨h2.1, ?_⟩
      rcases h2.2 with h5 | ⟨g, cap, cur, e, hb, r⟩
      · exact .inl h5
      · exact .inr ⟨g, cap, cur, e, Nat.zero_le _, r⟩
    have hone : v.oneCell' = true := by
      rcases h2.2 with ⟨rfl, _⟩ | ⟨g, cap, cur, rfl, _⟩ <;> rfl
    refine ⟨_, _, Chg.new1 (u := v) (s := fun _ => False) m hi hone (Fr.below h4 _) ⟨flat, hs, h0, fun i hi j hj => ?_⟩ (fun b h => h.elim) (fun _ b hb => ?_), ?_, h1⟩
    · obtain ⟨x, hx, he, h1⟩ := h3 i hi j hj
      exact ⟨x, hx, by rw [he]; exact ⟨rfl, h1⟩⟩
    · rcases h2.2 with ⟨rfl, _⟩ | ⟨g, cap, cur, rfl, hb2, _⟩
      · cases hb
      · cases hb; exact hb2
    · intro id c hl b hb
      obtain ⟨rfl, _⟩ := look_one hl
      rw [upd_self] at hb
      exact hb.elim
theorem callFr_ro {i size n : Nat} {el : Nat → Nat → DV} (hi : cnOf ids cs i = none) (h : ∀ ν sup w, MW (cnOf ids cs) ν sup w → Calls P f (xs.map (SV.val ν)).toArray w fun e w' => (∃ v, e = .returned (res.val (upd ν i v)) ∧ (DV.ls size n el).rep w' (fun b => w.heap.size ≤ b ∧ b < w'.heap.size) v) ∧ Below w.heap.size w w') :
    CallFr P f xs ids cs res [(i, some (.ro size n el))] := fun ν sup w m =>
  (h ν sup w m).mono fun e w' ⟨⟨v, h1, h2⟩, h4⟩ => by
    refine ⟨upd ν i v, upd sup i fun b => w.heap.size ≤ b ∧ b < w'.heap.size, ?_, ?_, h1⟩
    · exact
        { one := fun id => by
            unfold upd; split
            · exact DV.rep_one h2
            · exact m.one id
          rest := fun id hm => by
            have : id ≠ i := fun e => hm (by simp [e])
            exact ⟨upd_ne _ _ this, upd_ne _ _ this⟩
          same := fun id hm c hc => by
            have : id = i := by simpa using hm
            rw [this, hi] at hc; cases hc
          fr := Fr.below h4 _
          cont := fun id c' hl => by
            obtain ⟨rfl, e⟩ := look_one hl
            cases e
            rw [upd_self, upd_self]; exact h2
          sup := fun id c' hl b hb => by
            obtain ⟨rfl, e⟩ := look_one hl
            rw [upd_self] at hb
            refine ⟨hb.2, .inl hb.1, fun id2 c2 hl2 ho2 hb2 => ?_⟩
            obtain ⟨rfl, e⟩ := look_one hl2
            cases e
            cases ho2
          own := fun id c' hl ho' b hb => by
            obtain ⟨rfl, e⟩ := look_one hl
            cases e
            cases ho'
          apart := fun id c' hl ho' => by
            obtain ⟨rfl, e⟩ := look_one hl
            cases e
            cases ho' }
    · intro id c hl b hb
      obtain ⟨rfl, _⟩ := look_one hl
      rw [upd_self] at hb
      exact hb.1
end
section
variable {α : Type} [Inhabited α] {enc : α → List DV} {encV : α → List Value} {size : Nat}
/-- What is read, in the other form. -/
theorem rd_of_ro (he : ∀ x, enc x = (encV x).map DV.v) (hl : ∀ x, (encV x).length = size) {xs : List α} {ν : Nat → Value} {w : World} {sup : Nat → Prop} {u : Value} {n : Nat} (hn : n = xs.length) (h : (Cn.ro size n (Lst enc xs)).holds ν w sup u) (hlt : ∀ b, sup b → b < w.heap.size) : ∃ A c, u = .slice A xs.length c ∧ xs.length ≤ c ∧ Rd encV size w 0 w.heap.size A xs := by
  subst hn
  obtain ⟨A, c, e, hc, hcell⟩ := h
  refine ⟨A, c, e, hc, fun hpos => ?_⟩
  obtain ⟨b, off, e2, hb, hat⟩ := hcell hpos
  refine ⟨b, off, e2, Nat.zero_le _, hlt b hb, fun i x hx j v hv => ?_⟩
  have hi : i < xs.length := (List.getElem?_eq_some_iff.1 hx).1
  have hj : j < size := by rw [← hl x]; exact (List.getElem?_eq_some_iff.1 hv).1
  obtain ⟨u', hu, hr⟩ := hat i hi j hj
  have hat' : ix xs i = x := by rw [ix_eq hi]; have := List.getElem?_eq_getElem hi; rw [hx] at this; exact (Option.some.inj this).symm
  have : Lst enc xs i j = .v v := by
    unfold Lst
    rw [hat', he, List.getD_eq_getElem?_getD, List.getElem?_map, hv]; rfl
  rw [this] at hr
  rw [hu, hr.1]
theorem flatOk_of (he : ∀ x, enc x = (encV x).map DV.v) (hl : ∀ x, (encV x).length = size) (h1 : ∀ x, ∀ u ∈ encV x, u.oneCell' = true) {xs : List α} {n : Nat} (hn : n = xs.length) : FlatOk (xs.flatMap encV) n size (Lst enc xs) := by
  subst hn
  have key : ∀ (xs : List α) (i j : Nat), i < xs.length → j < size → ∃ x, (xs.flatMap encV)[i * size + j]? = some x ∧ (enc (ix xs i)).getD j default = .v x ∧ x.oneCell' = true := by
    intro xs
    induction xs with
    | nil => intro i j hi; simp at hi
    | cons y ys ih =>
      intro i j hi hj
      rw [List.flatMap_cons]
      cases i with
      | zero =>
        rw [Nat.zero_mul, Nat.zero_add, List.getElem?_append_left (by rw [hl]; exact hj)]
        have hjl : j < (encV y).length := by rw [hl]; exact hj
        refine ⟨(encV y)[j], List.getElem?_eq_getElem hjl, ?_, h1 y _ (List.getElem_mem _)⟩
        have : ix (y :: ys) 0 = y := rfl
        rw [this, he, List.getD_eq_getElem?_getD, List.getElem?_map, List.getElem?_eq_getElem hjl]; rfl
      | succ i =>
        obtain ⟨x, hx, h2, h3⟩ := ih i j (by simpa using hi) hj
        refine ⟨x, ?_, h2, h3⟩
        rw [List.getElem?_append_right (by rw [hl, Nat.succ_mul]; omega), hl, show (i + 1) * size + j - size = i * size + j by rw [Nat.succ_mul]; omega]
        exact hx
  exact fun i hi j hj => key xs i j hi hj
theorem rep_of_rd (he : ∀ x, enc x = (encV x).map DV.v) (hl : ∀ x, (encV x).length = size) (h1 : ∀ x, ∀ u ∈ encV x, u.oneCell' = true) {xs : List α} {w : World} {lo hi c n : Nat} {A : Option Addr} (hn : n = xs.length) (hc : xs.length ≤ c) (h : Rd encV size w lo hi A xs) : (DV.ls size n (Lst enc xs)).rep w (fun b => lo ≤ b ∧ b < hi) (.slice A n c) := by
  subst hn
  refine ⟨A, c, rfl, hc, fun hpos => ?_⟩
  obtain ⟨b, off, e, h2, h3, hcell⟩ := h hpos
  refine ⟨b, off, e, ⟨h2, h3⟩, fun i hi j hj => ?_⟩
  have hjl : j < (encV xs[i]).length := by rw [hl]; exact hj
  refine ⟨(encV xs[i])[j], hcell i _ (List.getElem?_eq_getElem hi) j _ (List.getElem?_eq_getElem hjl), ?_⟩
  have : Lst enc xs i j = .v (encV xs[i])[j] := by
    unfold Lst
    rw [ix_eq hi, he, List.getD_eq_getElem?_getD, List.getElem?_map, List.getElem?_eq_getElem hjl]; rfl
  rw [this]
  exact ⟨rfl, h1 _ _ (List.getElem_mem _)⟩
end
end Go.Proofs.Ytepibjfmeibgcaa
/- An abstract walk: the program's functions and the law's helpers, brought over. -/
namespace Go.Proofs.Ytepibjfmeibgcaa
open Go.RowKit
set_option linter.unusedVariables false
def eP (p : Pipe) : List DV := [.i p.parent, .i p.length, .i p.bore, .i p.drop, .i p.taps]
def eR (r : Rng) : List DV := [.i r.low, .i r.high]
def eU8 (x : Int) : List DV := [.v (.int .u8 x)]
def eU16 (x : Int) : List DV := [.v (.int .u16 x)]
def eB (x : Bool) : List DV := [.v (.bool x)]
theorem plain_eP (x : Pipe) (j : Nat) (hj : j < 5) : ∃ v, (eP x).getD j default = .v v := by
  match j, hj with
  | 0, _ => exact ⟨_, rfl⟩
  | 1, _ => exact ⟨_, rfl⟩
  | 2, _ => exact ⟨_, rfl⟩
  | 3, _ => exact ⟨_, rfl⟩
  | 4, _ => exact ⟨_, rfl⟩
theorem plain_eR (x : Rng) (j : Nat) (hj : j < 2) : ∃ v, (eR x).getD j default = .v v := by
  match j, hj with
  | 0, _ => exact ⟨_, rfl⟩
  | 1, _ => exact ⟨_, rfl⟩
theorem plain_eB (x : Bool) (j : Nat) (hj : j < 1) : ∃ v, (eB x).getD j default = .v v := by
  obtain rfl : j = 0 := by omega
  exact ⟨_, rfl⟩
theorem heP (x : Pipe) : eP x = (encP x).map DV.v := rfl
theorem heR (x : Rng) : eR x = (encR x).map DV.v := rfl
theorem heI (x : Int) : eI x = (encI x).map DV.v := rfl
theorem he16 (x : Int) : eU16 x = (encU x).map DV.v := rfl
section
variable {ids : List Nat} {cs : List (Option Cn)} {ν : Nat → Value} {sup : Nat → Nat → Prop} {w : World} (m : MW (cnOf ids cs) ν sup w)
include m
theorem mP {i : Nat} {xs : List Pipe} (h : cnOf ids cs i = some (.ro 5 xs.length (Lst eP xs))) : ∃ A c, ν i = .slice A xs.length c ∧ xs.length ≤ c ∧ RdP w 0 w.heap.size A xs := rd_of_ro heP (fun _ => rfl) rfl (m.cont i _ h) (fun b hb => m.supLt i _ h b hb)
theorem mR {i : Nat} {xs : List Rng} (h : cnOf ids cs i = some (.ro 2 xs.length (Lst eR xs))) : ∃ A c, ν i = .slice A xs.length c ∧ xs.length ≤ c ∧ RdR w 0 w.heap.size A xs := rd_of_ro heR (fun _ => rfl) rfl (m.cont i _ h) (fun b hb => m.supLt i _ h b hb)
theorem mI {i : Nat} {xs : List Int} (h : cnOf ids cs i = some (.ro 1 xs.length (Lst eI xs))) : ∃ A c, ν i = .slice A xs.length c ∧ xs.length ≤ c ∧ RdI w 0 w.heap.size A xs := rd_of_ro heI (fun _ => rfl) rfl (m.cont i _ h) (fun b hb => m.supLt i _ h b hb)
theorem m16 {i : Nat} {xs : List Int} (h : cnOf ids cs i = some (.ro 1 xs.length (Lst eU16 xs))) : ∃ A c, ν i = .slice A xs.length c ∧ xs.length ≤ c ∧ RdU w 0 w.heap.size A xs := rd_of_ro he16 (fun _ => rfl) rfl (m.cont i _ h) (fun b hb => m.supLt i _ h b hb)
end
theorem fP (xs : List Pipe) : FlatOk (xs.flatMap encP) xs.length 5 (Lst eP xs) := flatOk_of heP (fun _ => rfl) encP_one rfl
theorem fR (xs : List Rng) : FlatOk (xs.flatMap encR) xs.length 2 (Lst eR xs) := flatOk_of heR (fun _ => rfl) encR_one rfl
theorem fI (xs : List Int) : FlatOk (xs.flatMap encI) xs.length 1 (Lst eI xs) := flatOk_of heI (fun _ => rfl) encI_one rfl
theorem has_fr (l : List Int) (n : Int) (hl : l.length ≤ 1000000000) : CallFr Try.prog 26 [.ls 1, .i n] [1] [some (.ro 1 l.length (Lst eI l))] (.b (memB l n)) [] :=
  callFr_val fun ν sup w m => by
    obtain ⟨A, c, e, h1, h2⟩ := mI m (i := 1) rfl
    simp only [List.map_cons, List.map_nil, SV.val, PV.val, LV.val, e]
    exact (has_ A c 0 _ l n w h2 (by unfold maxLen; omega)).mono fun e w' ⟨h3, h4⟩ => ⟨h3, h4 ▸ Below.refl _ _⟩
theorem known_fr : CallFr Try.prog 15 [] [] [] (.b true) [] :=
  callFr_val fun ν sup w m => (known_ w).mono fun e w' h => h
theorem own_fr (n : Net) (hn : n.pipes.length ≤ 1000000) : CallFr Try.prog 17 [.agg [.i n.pump, .ls 1]] [1] [some (.ro 5 n.pipes.length (Lst eP n.pipes))] (.agg [.i n.pump, .ls 2]) [(2, some (.vec 54 5 n.pipes.length (Lst eP n.pipes)))] :=
  callFr_vec (by rfl) (by omega) fun ν sup w m => by
    obtain ⟨A, c, e, h1, h2⟩ := mP m (i := 1) rfl
    simp only [List.map_cons, List.map_nil, SV.val, PV.val, LV.val, e]
    refine (own_ n.pump A c 0 _ n.pipes w h2 (Nat.le_refl _) hn).mono fun e w' ⟨B, c', h3, h4, h5⟩ => ⟨⟨.slice B n.pipes.length c', _, ?_, h4, fP _⟩, h5⟩
    rw [h3, upd_self]
theorem ranges_fr (l : List Rng) (hn : l.length ≤ 1000000) : CallFr Try.prog 18 [.ls 1] [1] [some (.ro 2 l.length (Lst eR l))] (.ls 2) [(2, some (.vec 52 2 l.length (Lst eR l)))] :=
  callFr_vec (by rfl) (by omega) fun ν sup w m => by
    obtain ⟨A, c, e, h1, h2⟩ := mR m (i := 1) rfl
    simp only [List.map_cons, List.map_nil, SV.val, PV.val, LV.val, e]
    refine (ranges_ A c 0 _ l w h2 (Nat.le_refl _) hn).mono fun e w' ⟨v, h3, h4, h5⟩ => ⟨⟨v, _, ?_, h4, fR _⟩, h5⟩
    rw [h3, upd_self]
theorem numbers_fr (l : List Int) (hn : l.length ≤ 1000000) : CallFr Try.prog 28 [.ls 1] [1] [some (.ro 1 l.length (Lst eI l))] (.ls 2) [(2, some (.vec 3 1 l.length (Lst eI l)))] :=
  callFr_vec (by rfl) (by omega) fun ν sup w m => by
    obtain ⟨A, c, e, h1, h2⟩ := mI m (i := 1) rfl
    simp only [List.map_cons, List.map_nil, SV.val, PV.val, LV.val, e]
    refine (numbers_ A c 0 _ l w h2 (Nat.le_refl _) hn).mono fun e w' ⟨v, h3, h4, h5⟩ => ⟨⟨v, _, ?_, h4, fI _⟩, h5⟩
    rw [h3, upd_self]
theorem good_fr (n : Net) (most : Int) (hn : n.pipes.length ≤ maxLen) (hm : most ≤ 1000) : CallFr Try.prog 21 [.agg [.i n.pump, .ls 1], .i most] [1] [some (.ro 5 n.pipes.length (Lst eP n.pipes))] (.b (goodB n most)) [] :=
  callFr_val fun ν sup w m => by
    obtain ⟨A, c, e, h1, h2⟩ := mP m (i := 1) rfl
    simp only [List.map_cons, List.map_nil, SV.val, PV.val, LV.val, e]
    exact goodC n A c 0 _ most w h2 (Nat.le_refl _) h1 hn hm
theorem truly_ok (rs : List Rng) (pk : List Int) (hn : rs.length ≤ 1000000) (hpl : pk.length ≤ maxLen) (hpb : ∀ x ∈ pk, 0 ≤ x ∧ x ≤ 65535) (hf : flowsB rs = true) : CallFr Try.prog 22 [.ls 1, .ls 2] [1, 2] [some (.ro 2 rs.length (Lst eR rs)), some (.ro 1 pk.length (Lst eU16 pk))] (.tup [.one (.ls 3), .one (.v (.bool true))]) [(3, some (.ro 2 rs.length (Lst eR (pairT (exV rs pk) (exV rs pk) rs.length))))] :=
  callFr_ro (by rfl) fun ν sup w m => by
    obtain ⟨A, c, e, h1, h2⟩ := mR m (i := 1) rfl
    obtain ⟨B, d, e2, h3, h4⟩ := m16 m (i := 2) rfl
    simp only [List.map_cons, List.map_nil, SV.val, PV.val, LV.val, e, e2]
    refine (truly_ A B c d 0 _ 0 _ rs pk w h2 (Nat.le_refl _) h4 (Nat.le_refl _) hn hpl hpb).mono fun e w' ⟨h5, h6⟩ => ?_
    unfold TrulyR at h5
    rw [hf] at h5
    obtain ⟨D, cd, h7, h8, h9⟩ := h5
    refine ⟨⟨.slice D rs.length cd, ?_, rep_of_rd heR (fun _ => rfl) encR_one (pairT_len _ _ _).symm (by rw [pairT_len]; exact h8) h9⟩, h6⟩
    rw [h7, upd_self]
theorem truly_bad (rs : List Rng) (pk : List Int) (hn : rs.length ≤ 1000000) (hpl : pk.length ≤ maxLen) (hpb : ∀ x ∈ pk, 0 ≤ x ∧ x ≤ 65535) (hf : flowsB rs = false) : CallFr Try.prog 22 [.ls 1, .ls 2] [1, 2] [some (.ro 2 rs.length (Lst eR rs)), some (.ro 1 pk.length (Lst eU16 pk))] (.tup [.one (.v (.slice none 0 0)), .one (.v (.bool false))]) [] :=
  callFr_val fun ν sup w m => by
    obtain ⟨A, c, e, h1, h2⟩ := mR m (i := 1) rfl
    obtain ⟨B, d, e2, h3, h4⟩ := m16 m (i := 2) rfl
    simp only [List.map_cons, List.map_nil, SV.val, PV.val, LV.val, e, e2]
    refine (truly_ A B c d 0 _ 0 _ rs pk w h2 (Nat.le_refl _) h4 (Nat.le_refl _) hn hpl hpb).mono fun e w' ⟨h5, h6⟩ => ?_
    unfold TrulyR at h5
    rw [hf] at h5
    exact ⟨h5, h6⟩
theorem Loss_fr (p : Pipe) (fl : Int) (hp : pipeB p 60 = true) (hf : 0 ≤ fl ∧ fl ≤ 60000000000) : CallFr Try.prog 35 [.agg [.i p.parent, .i p.length, .i p.bore, .i p.drop, .i p.taps], .i fl] [] [] (.tup [.one (.i (lossZ p fl)), .one (.i 0)]) [] :=
  callFr_val fun ν sup w m => by
    simp only [List.map_cons, List.map_nil, SV.val, PV.val, LV.val]
    refine (Loss_ p fl w).mono fun e w' ⟨h1, h2⟩ => ⟨?_, h2⟩
    unfold LossR at h1
    rw [hp, inB_mk hf] at h1
    exact h1
section
variable (n : Net) (flows : List Rng) (zs : List Int) (hn : n.pipes.length ≤ 1000000) (hf : flows.length ≤ 1000000) (hz : zs.length ≤ 1000000)
include hn hf hz
theorem Loads_fr : CallFr Try.prog 23 [.agg [.i n.pump, .ls 1], .ls 2, .ls 3] [1, 2, 3] [some (.ro 5 n.pipes.length (Lst eP n.pipes)), some (.ro 2 flows.length (Lst eR flows)), some (.ro 1 zs.length (Lst eI zs))] (.tup [.one (.ls 4), .one (.i (LoadsV n flows zs).2)]) [(4, some (.vec 52 2 (LoadsV n flows zs).1.length (Lst eR (LoadsV n flows zs).1)))] :=
  callFr_vec (by rfl) (by omega) fun ν sup w m => by
    obtain ⟨A, c, e, h1, h2⟩ := mP m (i := 1) rfl
    obtain ⟨B, d, e2, h3, h4⟩ := mR m (i := 2) rfl
    obtain ⟨C, g, e3, h5, h6⟩ := mI m (i := 3) rfl
    simp only [List.map_cons, List.map_nil, SV.val, PV.val, LV.val, e, e2, e3]
    refine (LoadsC n A c w 0 _ h2 (Nat.le_refl _) h1 (by unfold maxLen; omega) B C d g flows zs 0 _ 0 _ h4 (Nat.le_refl _) (by unfold maxLen; omega) h6 (Nat.le_refl _) h5 (by unfold maxLen; omega)).mono fun e w' ⟨⟨v, h7, h8⟩, h9⟩ => ⟨⟨v, _, ?_, h8, fR _⟩, h9⟩
    rw [h7, upd_self]
theorem Vacuum_fr : CallFr Try.prog 24 [.agg [.i n.pump, .ls 1], .ls 2, .ls 3] [1, 2, 3] [some (.ro 5 n.pipes.length (Lst eP n.pipes)), some (.ro 2 flows.length (Lst eR flows)), some (.ro 1 zs.length (Lst eI zs))] (.tup [.one (.ls 4), .one (.i (VacuumV n flows zs).2)]) [(4, some (.vec 52 2 (VacuumV n flows zs).1.length (Lst eR (VacuumV n flows zs).1)))] :=
  callFr_vec (by rfl) (by omega) fun ν sup w m => by
    obtain ⟨A, c, e, h1, h2⟩ := mP m (i := 1) rfl
    obtain ⟨B, d, e2, h3, h4⟩ := mR m (i := 2) rfl
    obtain ⟨C, g, e3, h5, h6⟩ := mI m (i := 3) rfl
    simp only [List.map_cons, List.map_nil, SV.val, PV.val, LV.val, e, e2, e3]
    refine (VacuumC n A c w 0 _ h2 (Nat.le_refl _) h1 (by unfold maxLen; omega) B C d g flows zs 0 _ 0 _ h4 (Nat.le_refl _) (by unfold maxLen; omega) h6 (Nat.le_refl _) h5 (by unfold maxLen; omega)).mono fun e w' ⟨⟨v, h7, h8⟩, h9⟩ => ⟨⟨v, _, ?_, h8, fR _⟩, h9⟩
    rw [h7, upd_self]
end
section
variable (n : Net) (flows : List Rng) (zs : List Int) (hok : netB n = true) (hl : flows.length = n.pipes.length) (hf : flowsB flows = true) (hz : frzF n.pipes.length zs [] = 0) (hzl : zs.length ≤ 1000000)
include hok hl hf hz hzl
theorem Loads_ok' : CallFr Try.prog 23 [.agg [.i n.pump, .ls 1], .ls 2, .ls 3] [1, 2, 3] [some (.ro 5 n.pipes.length (Lst eP n.pipes)), some (.ro 2 flows.length (Lst eR flows)), some (.ro 1 zs.length (Lst eI zs))] (.tup [.one (.ls 4), .one (.i 0)]) [(4, some (.vec 52 2 n.pipes.length (Lst eR (pairT (ldV n.pipes (lowF flows) zs) (ldV n.pipes (highF flows) zs) n.pipes.length))))] := by
  have h := Loads_fr n flows zs (by have := netB_len hok; omega) (by have := netB_len hok; omega) hzl
  rw [LoadsV_R hok hl hf hz] at h
  simp only [pairT_len] at h
  exact h
theorem Vacuum_ok' : CallFr Try.prog 24 [.agg [.i n.pump, .ls 1], .ls 2, .ls 3] [1, 2, 3] [some (.ro 5 n.pipes.length (Lst eP n.pipes)), some (.ro 2 flows.length (Lst eR flows)), some (.ro 1 zs.length (Lst eI zs))] (.tup [.one (.ls 4), .one (.i 0)]) [(4, some (.vec 52 2 n.pipes.length (Lst eR (pairT (vacV n.pump n.pipes (highF flows) zs) (vacV n.pump n.pipes (lowF flows) zs) n.pipes.length))))] := by
  have h := Vacuum_fr n flows zs (by have := netB_len hok; omega) (by have := netB_len hok; omega) hzl
  rw [VacuumV_R hok hl hf hz] at h
  simp only [pairT_len] at h
  exact h
end
section
variable (n : Net) (flows : List Rng) (zs : List Int) (hok : netB n = true) (hl : flows.length = n.pipes.length) (hf : flowsB flows = false) (hzl : zs.length ≤ 1000000)
include hok hl hf hzl
theorem Loads_no : CallFr Try.prog 23 [.agg [.i n.pump, .ls 1], .ls 2, .ls 3] [1, 2, 3] [some (.ro 5 n.pipes.length (Lst eP n.pipes)), some (.ro 2 flows.length (Lst eR flows)), some (.ro 1 zs.length (Lst eI zs))] (.tup [.one (.ls 4), .one (.i 2)]) [(4, some (.vec 52 2 0 (Lst eR [])))] := by
  have h := Loads_fr n flows zs (by have := netB_len hok; omega) (by have := netB_len hok; omega) hzl
  have e : LoadsV n flows zs = ([], 2) := by unfold LoadsV; rw [flowE_bad hok hl hf zs]; rfl
  rw [e] at h
  exact h
theorem Vacuum_no : CallFr Try.prog 24 [.agg [.i n.pump, .ls 1], .ls 2, .ls 3] [1, 2, 3] [some (.ro 5 n.pipes.length (Lst eP n.pipes)), some (.ro 2 flows.length (Lst eR flows)), some (.ro 1 zs.length (Lst eI zs))] (.tup [.one (.ls 4), .one (.i 2)]) [(4, some (.vec 52 2 0 (Lst eR [])))] := by
  have h := Vacuum_fr n flows zs (by have := netB_len hok; omega) (by have := netB_len hok; omega) hzl
  have e : VacuumV n flows zs = ([], 2) := by unfold VacuumV; rw [flowE_bad hok hl hf zs]; rfl
  rw [e] at h
  exact h
end
end Go.Proofs.Ytepibjfmeibgcaa
/- An abstract walk: loads and vacuums of exact flows; lists of pairs by index. -/
namespace Go.Proofs.Ytepibjfmeibgcaa
open Go.RowKit
set_option linter.unusedVariables false
theorem ix_pairT {a b : Nat → Int} {m k : Nat} (h : k < m) : ix (pairT a b m) k = ⟨a k, b k⟩ := by rw [ix_eq (by rw [pairT_len]; exact h), pairT_at h]
theorem ix_pAt (ps : List Pipe) (k : Nat) : ix ps k = pAt ps k := rfl
theorem ix_par (ps : List Pipe) (k : Nat) : (ix ps k).parent = par ps (k : Int) := by unfold ix par; rw [Int.toNat_natCast]
theorem lowF_ix (l : List Rng) (k : Nat) : (ix l k).low = lowF l k := rfl
theorem highF_ix (l : List Rng) (k : Nat) : (ix l k).high = highF l k := rfl
section
variable (n : Net) (f : Nat → Int) (zs : List Int) (hok : netB n = true) (hf : ∀ k, k < n.pipes.length → 0 ≤ f k ∧ f k ≤ 1000000000) (hz : frzF n.pipes.length zs [] = 0) (hzl : zs.length ≤ 1000000)
include hok hf hz hzl
theorem Loads_T : CallFr Try.prog 23 [.agg [.i n.pump, .ls 1], .ls 2, .ls 3] [1, 2, 3] [some (.ro 5 n.pipes.length (Lst eP n.pipes)), some (.ro 2 n.pipes.length (Lst eR (pairT f f n.pipes.length))), some (.ro 1 zs.length (Lst eI zs))] (.tup [.one (.ls 4), .one (.i 0)]) [(4, some (.vec 52 2 n.pipes.length (Lst eR (pairT (ldV n.pipes f zs) (ldV n.pipes f zs) n.pipes.length))))] := by
  have h := Loads_fr n (pairT f f n.pipes.length) zs (by have := netB_len hok; omega) (by rw [pairT_len]; have := netB_len hok; omega) hzl
  rw [LoadsV_T hok hf hz] at h
  simp only [pairT_len] at h
  exact h
theorem Vacuum_T : CallFr Try.prog 24 [.agg [.i n.pump, .ls 1], .ls 2, .ls 3] [1, 2, 3] [some (.ro 5 n.pipes.length (Lst eP n.pipes)), some (.ro 2 n.pipes.length (Lst eR (pairT f f n.pipes.length))), some (.ro 1 zs.length (Lst eI zs))] (.tup [.one (.ls 4), .one (.i 0)]) [(4, some (.vec 52 2 n.pipes.length (Lst eR (pairT (vacV n.pump n.pipes f zs) (vacV n.pump n.pipes f zs) n.pipes.length))))] := by
  have h := Vacuum_fr n (pairT f f n.pipes.length) zs (by have := netB_len hok; omega) (by rw [pairT_len]; have := netB_len hok; omega) hzl
  rw [VacuumV_T hok hf hz] at h
  simp only [pairT_len] at h
  exact h
end
end Go.Proofs.Ytepibjfmeibgcaa
